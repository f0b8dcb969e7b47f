/- The texts EvX, EvC, Lp, Ev30, Qa, Qb, Qc, Qd, Qe, Qf, Ext0, Lw, ExtH, one behind the other. -/
import Derived.Test.YtgknmoadpgpdeaaGreatDoorK3
import Derived.Test.YtgknmoadpgpdeaaGreatDoorK12
import Derived.Lib.ItoaMem
import Derived.Below
namespace Go.Proofs.YtgknmoadpgpdeaaGreatDoor.Ev
open Go Go.RowKit
noncomputable def qY (s: String): Nat:=((Tryz.prog.globalNamed s).map (· + 1)).getD 0
noncomputable def gN: Nat:=max (max (qY "internal/strconv.uint64pow10") (qY "internal/bytealg.MaxLen")) (max (qY "strconv.ErrSyntax") (qY "strconv.ErrRange"))
def ol (w: World): Prop:=Lib.TabIs Tryz.prog w "internal/strconv.uint64pow10" .u64 Lib.pow10Tab
def O_ (w: World): Prop:=∀ g,Tryz.prog.globalNamed "internal/bytealg.MaxLen"=some g→∃ m,w.cell? ⟨g,0,none⟩=some (.int .i64 m)
def Bq (n: String) (w: World): Prop:=∀ g,Tryz.prog.globalNamed n=some g→∃ tp p,w.cell? ⟨g,0,none⟩=some (.iface tp p)
def ahW (w: World): Prop:=Bq "strconv.ErrSyntax" w∧Bq "strconv.ErrRange" w
def adx (w: World): Prop:=(Tryz.prog.globalNamed "internal/strconv.uint64pow10"=none∨ol w)∧O_ w∧ahW w
theorem yo {s: String} {g: Nat} (h: Tryz.prog.globalNamed s=some g): g < qY s:=by
 unfold qY;rw [h];exact Nat.lt_succ_self g
theorem HZ {g: Nat} (h: Tryz.prog.globalNamed "internal/strconv.uint64pow10"=some g): g < gN:=Nat.lt_of_lt_of_le (yo h) (Nat.le_trans (Nat.le_max_left ..) (Nat.le_max_left ..))
theorem Pa {g: Nat} (h: Tryz.prog.globalNamed "internal/bytealg.MaxLen"=some g): g < gN:=Nat.lt_of_lt_of_le (yo h) (Nat.le_trans (Nat.le_max_right ..) (Nat.le_max_left ..))
theorem Pb {g: Nat} (h: Tryz.prog.globalNamed "strconv.ErrSyntax"=some g): g < gN:=Nat.lt_of_lt_of_le (yo h) (Nat.le_trans (Nat.le_max_left ..) (Nat.le_max_right ..))
theorem Pc {g: Nat} (h: Tryz.prog.globalNamed "strconv.ErrRange"=some g): g < gN:=Nat.lt_of_lt_of_le (yo h) (Nat.le_trans (Nat.le_max_right ..) (Nat.le_max_right ..))
theorem ady {w: World} (h: Tryz.prog.globalNamed "internal/strconv.uint64pow10"=none∨ol w): qY "internal/strconv.uint64pow10"≤w.heap.size:=by
 unfold qY
 cases hg: Tryz.prog.globalNamed "internal/strconv.uint64pow10" with
 | none=>exact Nat.zero_le _
 | some g=>
   rcases h with h | h
   · rw [hg] at h;cases h
   unfold ol Lib.TabIs World.var? at h
   rw [hg] at h
   simp only [Option.bind_some] at h
   show g + 1≤w.heap.size
   rcases Nat.lt_or_ge g w.heap.size with h' | h'
   · exact h'
   · rw [Array.getElem?_eq_none h'] at h;cases h
theorem max_le {w: World} (h: O_ w): qY "internal/bytealg.MaxLen"≤w.heap.size:=by
 unfold qY
 cases hg: Tryz.prog.globalNamed "internal/bytealg.MaxLen" with
 | none=>exact Nat.zero_le _
 | some g=>
   obtain ⟨m,hm⟩:=h g hg
   exact World.block_lt_of_cell? w ⟨g,0,none⟩ hm
theorem Y1 {n: String} {w: World} (h: Bq n w): qY n≤w.heap.size:=by
 unfold qY
 cases hg: Tryz.prog.globalNamed n with
 | none=>exact Nat.zero_le _
 | some g=>
   obtain ⟨m,p,hm⟩:=h g hg
   exact World.block_lt_of_cell? w ⟨g,0,none⟩ hm
theorem aa_ {w: World} (h: adx w): gN≤w.heap.size:=Nat.max_le.2 ⟨Nat.max_le.2 ⟨ady h.1,max_le h.2.1⟩,Nat.max_le.2 ⟨Y1 h.2.2.1,Y1 h.2.2.2⟩⟩
theorem Bs {n: String} {w w': World} {N: Nat→Nat→Prop} (hf: Fr w N w') (hs: gN≤w.heap.size) (hn: ∀ b o,b < gN→¬ N b o) (hl: ∀ g,Tryz.prog.globalNamed n=some g→g < gN) (h: Bq n w): Bq n w':=fun g hg=>by
 obtain ⟨m,p,hm⟩:=h g hg
 have hlt:=hl g hg
 exact ⟨m,p,(hf.cel g 0 (Nat.lt_of_lt_of_le hlt hs) (hn g 0 hlt)).trans hm⟩
theorem LO (w w': World) (N: Nat→Nat→Prop) (hf: Fr w N w') (hs: gN≤w.heap.size) (hn: ∀ b o,b < gN→¬ N b o) (h: adx w): adx w':=by
 refine ⟨?_,fun g hg=>?_,Bs hf hs hn (fun g hg=>Pb hg) h.2.2.1,Bs hf hs hn (fun g hg=>Pc hg) h.2.2.2⟩
 · rcases h.1 with h | h
   · exact .inl h
   · right
     unfold ol Lib.TabIs World.var? at *
     cases hg: Tryz.prog.globalNamed "internal/strconv.uint64pow10" with
     | none=>rw [hg] at h;cases h
     | some g=>
       have hlt:=HZ hg
       rw [hg] at h
       simp only [Option.bind_some] at h ⊢
       rw [hf.blk g (Nat.lt_of_lt_of_le hlt hs) fun o=>hn g o hlt]
       exact h
 · obtain ⟨m,hm⟩:=h.2.1 g hg
   have hlt:=Pa hg
   exact ⟨m,(hf.cel g 0 (Nat.lt_of_lt_of_le hlt hs) (hn g 0 hlt)).trans hm⟩
noncomputable def Kx: Ctx:=ctx Tryz.prog tab adx gN
theorem adz: (tab.map fun p=>aaV Tryz.prog p.1)=tab.map fun p=>Ot p.2:=by kernel_rfl
theorem adA: (tab.all fun p=>lE tab p.2)=true:=by kernel_rfl
theorem adB: Tryz.prog.follows .mixedOrders=true:=by kernel_rfl
theorem adC: (tab.all fun p=> !p.2.flat||Ou Tryz.prog p.1 p.2.cts)=true:=by kernel_rfl
theorem adD: (tab.all fun p=>Oq p.1 p.2.cts)=true:=by kernel_rfl
theorem adE: (tab.all fun p=>Or p.2)=true:=by kernel_rfl
theorem KOk: Kx.Ok:=adj adz adA adB adC adD adE LO
end Go.Proofs.YtgknmoadpgpdeaaGreatDoor.Ev
namespace Go.Proofs.YtgknmoadpgpdeaaGreatDoor.Ev
open Go Go.RowKit
noncomputable section
theorem Sound.of {K: Ctx} {fn: Nat} {φ ψ: List AV→List Ob→Br} (h: Sound K fn φ) (he: ∀ args objs r,(ψ args objs).val=some r→(φ args objs).val=some r): Sound K fn ψ:=
 fun args objs res os hv=>h args objs res os (he args objs _ hv)
def noS: ek:=fun _ _ _=> .fail
theorem H0 (K: Ctx) (fn: Nat): Sound K fn (fun _ _=> .fail):=fun args objs res os h=>by cases h
def add (C: ek) (k: Nat) (φ: List AV→List Ob→Br): ek:=fun fn=>if fn=k then φ else C fn
theorem Bt {K: Ctx} {C: ek} (hC: ∀ fn,Sound K fn (C fn)) {k: Nat} {φ: List AV→List Ob→Br} (h: Sound K k φ): ∀ fn,Sound K fn (add C k φ fn):=by
 intro fn
 unfold add
 split
 · rename_i e;subst e;exact h
 · exact hC fn
end
end Go.Proofs.YtgknmoadpgpdeaaGreatDoor.Ev
namespace Go.Proofs.YtgknmoadpgpdeaaGreatDoor.Ev
open Go Go.RowKit
set_option linter.unusedVariables false
set_option linter.unusedSimpArgs false
abbrev Rs:=AV×List Ob
abbrev OR' := Option Rs
abbrev aa:=List UInt8
theorem w64 {n: Int} (h1: -9223372036854775808≤n) (h2: n≤9223372036854775807): ai n=n:=by rw [Og];unfold wrap64;omega
theorem w8 {n: Int} (h1: 0≤n) (h2: n < 256): wk8 n=n:=by rw [YM];omega
theorem bF {m n: Nat} (h: m < n): ∃ k,n=k + 1:=⟨n - 1,by omega⟩
theorem al {b: Bool} {x y: Br} {r: Rs} (h: (Br.ite b x y).val=some r) (hy: y= .fail:=by rfl): b=true∧x.val=some r:=by
 subst hy;cases b
 · cases h
 · exact ⟨rfl,h⟩
theorem bX {b: Bool} {x y: Br} (h: b=true): (Br.ite b x y).val=x.val:=by rw [h];rfl
theorem fK {b: Bool} {x y: Br} (h: b=false): (Br.ite b x y).val=y.val:=by rw [h];rfl
def by8 (c: UInt8): Int:=(c.toNat: Int)
theorem H1 (c: UInt8): 0≤by8 c:=by unfold by8;omega
theorem H3 (c: UInt8): by8 c < 256:=by unfold by8;have:=c.toNat_lt;omega
theorem Fa {a b: UInt8} (h: by8 a=by8 b): a=b:=by
 apply UInt8.toNat_inj.1;unfold by8 at h;omega
def At {α: Type} (l: List α) (i: Int) (r: List α): Prop:=∃ p,l=p++r∧i=(p.length: Int)
namespace At
variable {α: Type} {l r: List α} {i: Int} {a: α}
theorem start (l: List α): At l 0 l:=⟨[],rfl,rfl⟩
theorem nn (h: At l i r): 0≤i:=by obtain ⟨p,_,rfl⟩:=h;omega
theorem le (h: At l i r): i + r.length=l.length:=by obtain ⟨p,rfl,rfl⟩:=h;simp
theorem ge (h: At l i ([]: List α)): i=l.length:=by have:=h.le;simp at this;omega
theorem lt (h: At l i (a::r)): i < l.length:=by have:=h.le;simp at this;omega
theorem step (h: At l i (a::r)): At l (i + 1) r:=by
 obtain ⟨p,rfl,rfl⟩:=h;exact ⟨p++[a],by simp,by simp⟩
theorem get (h: At l i (a::r)) (d: α): l.getD i.toNat d=a:=by
 obtain ⟨p,rfl,rfl⟩:=h;simp [List.getD_eq_getElem?_getD]
theorem dnn (h: At l i r): decide (0≤i)=true:=dT' h.nn
theorem dlt (h: At l i (a::r)): decide (i < (l.length: Int))=true:=dT' h.lt
theorem dge (h: At l i ([]: List α)): decide (i < (l.length: Int))=false:=by rw [h.ge];simp
theorem next (h: At l i (a::r)) (hl: l.length≤4611686018427387904): ai (i + 1)=i + 1:=by
 have:=h.nn;have:=h.lt;exact w64 (by omega) (by omega)
theorem drop (h: At l i r): l.drop i.toNat=r:=by obtain ⟨p,rfl,rfl⟩:=h;simp
theorem take (h: At l i r): l.take i.toNat++r=l:=by obtain ⟨p,rfl,rfl⟩:=h;simp
end At
theorem At.str {s r: aa} {c: UInt8} {i: Int} (h: At s i (c::r)): aC s i=by8 c:=by
 unfold aC by8;rw [h.get]
theorem H4 {α: Type} (pre: List α) (a: α) (r: List α) (d: α): (pre++a::r).getD pre.length d=a:=by simp [List.getD_eq_getElem?_getD]
theorem Pd {α: Type} (pre: List α) (a b: α) (r: List α): (pre++a::r).set pre.length b=pre++b::r:=by simp
theorem aba {α: Type} (pre: List α) (a: α) (r: List α): pre++a::r=(pre++[a])++r:=by simp
theorem Wc {α: Type} (pre: List α) (a: α) (h: pre.length < 4611686018427387904): ai ((pre.length: Int) + 1)=((pre++[a]).length: Int):=by
 rw [w64 (by omega) (by omega)];simp
theorem sP (l: List UInt8): bQ (bytesOf l)=l:=by
 unfold bQ bytesOf
 rw [List.map_map]
 conv=>rhs;rw [← List.map_id l]
 apply List.map_congr_left
 intro c _
 simp
end Go.Proofs.YtgknmoadpgpdeaaGreatDoor.Ev
namespace Go.Proofs.YtgknmoadpgpdeaaGreatDoor.Ev
open Go Go.RowKit
noncomputable section
set_option linter.unusedSimpArgs false
set_option linter.unusedVariables false
inductive P1 where
 | i (k: IntKind) | b | s | sh (e: Ty)
 | u | nil (e: Ty) | mp (o: Nat) | ref (o v: Nat) | ptr (o f: Nat) | nilp | fn (f: Nat) (l: List (Nat×Nat)) | nilfn | noerr | err | bz (t: Nat)
abbrev P1.D: P1→Type
 | .i _=>Int
 | .b=>Bool
 | .s=>List UInt8
 | .sh e=>List (Den e)
 | _=>Unit
def P1.pk: (p: P1)→p.D→AV
 | .i k,n=> .int k n
 | .b,x=> .bool x
 | .s,x=> .str x
 | .sh e,l=> .sh e l
 | .u,_=> .undef
 | .nil e,_=> .nil e
 | .mp o,_=> .mp o
 | .ref o v,_=> .ref o v
 | .ptr o f,_=> .ptr o f
 | .nilp,_=> .nilp
 | .fn f l,_=> .fn f (l.map fun q=> .ptr q.1 q.2)
 | .nilfn,_=> .nilfn
 | .noerr,_=> .noerr
 | .err,_=> .err
 | .bz t,_=> .bz t
def H5: List AV→Option (List (Nat×Nat))
 | []=>some []
 | .ptr o f::l=>match H5 l with | some q=>some ((o,f)::q) | none=>none
 | _=>none
theorem Bu: ∀ (l: List AV) {q: List (Nat×Nat)},H5 l=some q→l=q.map fun x=> .ptr x.1 x.2
 | [],q,h=>by cases h;rfl
 | a::l,q,h=>by
   cases a <;> simp only [H5] at h <;> try cases h
   split at h
   · rename_i q' hq;cases h;rw [Bu l hq];rfl
   · cases h
def P1.un: (p: P1)→AV→Option p.D
 | .i k, .int k' n=>if k=k' then some n else none
 | .b, .bool x=>some x
 | .s, .str x=>some x
 | .sh e, .sh e' l=>if h: e'=e then some (h ▸ l) else none
 | .u, .undef=>some ()
 | .nil e, .nil e'=>if e=e' then some () else none
 | .mp o, .mp o'=>if o=o' then some () else none
 | .ref o v, .ref o' v'=>if o=o'∧v=v' then some () else none
 | .ptr o f, .ptr o' f'=>if o=o'∧f=f' then some () else none
 | .nilp, .nilp=>some ()
 | .fn f l, .fn f' l'=>match H5 l' with | some q=>if f=f'∧l=q then some () else none | none=>none
 | .nilfn, .nilfn=>some ()
 | .noerr, .noerr=>some ()
 | .err, .err=>some ()
 | .bz t, .bz t'=>if t=t' then some () else none
 | _,_=>none
theorem P1.un_pk: ∀ (p: P1) {a: AV} {d: p.D},p.un a=some d→a=p.pk d:=by
 intro p a d h
 cases p <;> cases a <;> simp only [P1.un] at h <;> first | (cases h;done) | (cases h;rfl) | skip
 all_goals
  first
  | (split at h
     · rename_i e;first | (obtain ⟨rfl,rfl⟩:=e;cases h;rfl) | (subst e;cases h;rfl)
     · cases h)
  | (split at h
     · rename_i q hq
       split at h
       · rename_i e;obtain ⟨rfl,rfl⟩:=e;rw [Bu _ hq];rfl
       · cases h
     · cases h)
abbrev Ps.D: List P1→Type
 | []=>Unit
 | p::l=>p.D×Ps.D l
def Ps.pk: (l: List P1)→Ps.D l→List AV
 | [],_=>[]
 | p::l,d=>p.pk d.1::Ps.pk l d.2
def Ps.un: (l: List P1)→List AV→Option (Ps.D l)
 | [],[]=>some ()
 | p::l,a::az=>match p.un a,Ps.un l az with | some x,some y=>some (x,y) | _,_=>none
 | _,_=>none
theorem Ps.un_pk: ∀ (l: List P1) {a: List AV} {d: Ps.D l},Ps.un l a=some d→a=Ps.pk l d
 | [],a,d,h=>by cases a <;> simp [Ps.un] at h;rfl
 | p::l,[],d,h=>by simp [Ps.un] at h
 | p::l,a::az,d,h=>by
   simp only [Ps.un] at h
   split at h
   · rename_i x y hx hy;cases h;rw [p.un_pk hx,Ps.un_pk l hy];rfl
   · cases h
inductive PV where
 | v (p: P1) | agg (l: List P1)
abbrev PV.D: PV→Type
 | .v p=>p.D
 | .agg l=>Ps.D l
def PV.pk: (p: PV)→p.D→AV
 | .v p,d=>p.pk d
 | .agg l,d=> .agg (Ps.pk l d)
def PV.un: (p: PV)→AV→Option p.D
 | .v p,a=>p.un a
 | .agg l, .agg vs=>Ps.un l vs
 | _,_=>none
theorem PV.un_pk: ∀ (p: PV) {a: AV} {d: p.D},p.un a=some d→a=p.pk d
 | .v p,a,d,h=>p.un_pk h
 | .agg l,a,d,h=>by cases a <;> simp only [PV.un] at h <;> first | (cases h;done) | (rw [Ps.un_pk l h];rfl)
abbrev PVs.D: List PV→Type
 | []=>Unit
 | p::l=>p.D×PVs.D l
def PVs.pk: (l: List PV)→PVs.D l→List AV
 | [],_=>[]
 | p::l,d=>p.pk d.1::PVs.pk l d.2
def PVs.un: (l: List PV)→List AV→Option (PVs.D l)
 | [],[]=>some ()
 | p::l,a::az=>match p.un a,PVs.un l az with | some x,some y=>some (x,y) | _,_=>none
 | _,_=>none
theorem PVs.un_pk: ∀ (l: List PV) {a: List AV} {d: PVs.D l},PVs.un l a=some d→a=PVs.pk l d
 | [],a,d,h=>by cases a <;> simp [PVs.un] at h;rfl
 | p::l,[],d,h=>by simp [PVs.un] at h
 | p::l,a::az,d,h=>by
   simp only [PVs.un] at h
   split at h
   · rename_i x y hx hy;cases h;rw [p.un_pk hx,PVs.un_pk l hy];rfl
   · cases h
inductive PO where
 | var (l: List P1) | arr (e: Ty) (v: Nat) (f: Bool) | map (kt vt: Ty) (ag: Bool)
abbrev PO.D: PO→Type
 | .var l=>Ps.D l
 | .arr e _ _=>List (Den e)
 | .map kt vt _=>List (Den kt×Den vt)
def PO.pk: (p: PO)→p.D→Ob
 | .var l,d=> .var (Ps.pk l d)
 | .arr e v f,d=> .arr e v f d
 | .map kt vt ag,d=> .map kt vt ag d
def PO.un: (p: PO)→Ob→Option p.D
 | .var l, .var cs=>Ps.un l cs
 | .arr e v f, .arr e' v' f' l=>if h: e'=e∧v=v'∧f=f' then some (h.1 ▸ l) else none
 | .map kt vt ag, .map kt' vt' ag' l=>if h: kt'=kt∧vt'=vt∧ag'=ag then some (h.1 ▸ h.2.1 ▸ l) else none
 | _,_=>none
theorem PO.un_pk: ∀ (p: PO) {a: Ob} {d: p.D},p.un a=some d→a=p.pk d
 | .var l,a,d,h=>by cases a <;> simp only [PO.un] at h <;> first | (cases h;done) | (rw [Ps.un_pk l h];rfl)
 | .arr e v f,a,d,h=>by
   cases a <;> simp only [PO.un] at h <;> first | (cases h;done) | skip
   split at h
   · rename_i e;obtain ⟨rfl,rfl,rfl⟩:=e;cases h;rfl
   · cases h
 | .map kt vt ag,a,d,h=>by
   cases a <;> simp only [PO.un] at h <;> first | (cases h;done) | skip
   split at h
   · rename_i e;obtain ⟨rfl,rfl,rfl⟩:=e;cases h;rfl
   · cases h
abbrev POs.D: List (Nat×PO)→Type
 | []=>Unit
 | p::l=>p.2.D×POs.D l
def POs.pk: (l: List (Nat×PO))→POs.D l→List (Nat×Ob)
 | [],_=>[]
 | p::l,d=>(p.1,p.2.pk d.1)::POs.pk l d.2
def POs.un: (l: List (Nat×PO))→List (Nat×Ob)→Option (POs.D l)
 | [],[]=>some ()
 | p::l,a::az=>if p.1=a.1 then (match p.2.un a.2,POs.un l az with | some x,some y=>some (x,y) | _,_=>none) else none
 | _,_=>none
theorem POs.un_pk: ∀ (l: List (Nat×PO)) {a: List (Nat×Ob)} {d: POs.D l},POs.un l a=some d→a=POs.pk l d
 | [],a,d,h=>by cases a <;> simp [POs.un] at h;rfl
 | p::l,[],d,h=>by simp [POs.un] at h
 | p::l,(k,o)::az,d,h=>by
   simp only [POs.un] at h
   split at h
   · rename_i e
     split at h
     · rename_i x y hx hy;cases h;rw [POs.un_pk l hy];simp only [POs.pk];rw [← e,← p.2.un_pk hx]
     · cases h
   · cases h
structure SP where
 n: Nat
 ks: List Nat
 vs: List PV
 os: List (Nat×PO)
abbrev SP.D (p: SP): Type:=PVs.D p.vs×POs.D p.os
def SP.pk (p: SP) (d: p.D): St:=⟨aH 0 p.n (p.ks.zip (PVs.pk p.vs d.1)),POs.pk p.os d.2⟩
def SP.un (p: SP) (s: St): Option p.D:=
 match qX p.ks 0 p.n s.env with
 | some vs=>(match PVs.un p.vs vs,POs.un p.os s.objs with | some x,some y=>some (x,y) | _,_=>none)
 | none=>none
theorem SP.un_pk (p: SP) {s: St} {d: p.D} (h: p.un s=some d): s=p.pk d:=by
 obtain ⟨env,objs⟩:=s
 unfold SP.un at h
 split at h
 · rename_i vs hv
   split at h
   · rename_i x y hx hy
     cases h
     have e1:=jn _ _ _ _ hv
     have e2:=PVs.un_pk _ hx
     have e3:=POs.un_pk _ hy
     simp only at e1 e3
     subst e2 e1 e3
     rfl
   · cases h
 · cases h
abbrev KT:=Ex→St→OR'
structure LD where
 id: Nat
 p: SP
 G: p.D→KT→OR'
def bw: List LD→Lam
 | [],_,_,_=>none
 | l::r,j,st,k=>if j=l.id then (match l.p.un st with | some d=>l.G d k | none=>none) else bw r j st k
theorem okL {K: Ctx} {C: ek} {O: Opt} {m N: Nat} {Λ: Lam} {b: Code} (p: SP) (G: Nat→p.D→KT→OR') (T: p.D→(p.D→OR')→KT→OR')
 (h0: ∀ d k,G 0 d k=none) (hs: ∀ n d k,G (n + 1) d k=T d (fun d'=>G n d' k) k)
 (hl: ∀ s k,Λ (lid b) s k=match p.un s with | some d=>G N d k | none=>none)
 (hr: ∀ again k w d,Y0 m (fun st k=>evL K C O m Λ b st k) (p.pk w).env again (p.pk d) (Oa O m b k)=T d (fun d'=>again (p.pk d')) k)
 (hi: ∀ x ∈ loops b,OkL K C O m N Λ x): OkL K C O m N Λ b:=by
 intro s k k' r hk h
 rw [hl] at h
 split at h
 · rename_i d hd
   have:=p.un_pk hd
   subst this
   have key: ∀ n e,lQ m (fun st k=>evL K C O m Λ b st k) (p.pk d).env n (p.pk e) (Oa O m b k)=G n e k:=by
    intro n;induction n with
    | zero=>intro e;rw [h0];rfl
    | succ n ih=>
      intro e
      rw [LN,hr,hs]
      congr 1
      funext d'
      exact ih d'
   exact agz (Λ:=Λ) b hi N hk ((key N d).trans h)
 · cases h
def agB {α: Type} (P: α→Prop): List α→Prop
 | []=>True
 | a::l=>P a∧agB P l
theorem Y2 {α: Type} {P: α→Prop} : ∀ {l: List α},agB P l→∀ x ∈ l,P x
 | [],_,x,h=>by cases h
 | a::l,h,x,hx=>by
   rcases List.mem_cons.1 hx with rfl | hx
   · exact h.1
   · exact Y2 h.2 x hx
theorem am {α: Type} {P: α→Prop} {l l': List α} (e: l=l') (h: agB P l'): ∀ x ∈ l,P x:=by subst e;exact Y2 h
structure SC1 where
 fn: Nat
 s: List AV→List Ob→Br
 ok: Sound Kx fn s
abbrev SC:=List SC1
def SC.s: SC→ek
 | []=>noS
 | c::l=>add (SC.s l) c.fn c.s
theorem SC.ok: ∀ (l: SC) (fn: Nat),Sound Kx fn (l.s fn)
 | [],fn=>H0 Kx fn
 | c::l,fn=>Bt (SC.ok l) c.ok fn
def O0: Opt:={}
theorem ah {C: SC} {O: Opt} {fn: Nat} {f: Func} {s: List AV→List Ob→Br} (hf: Kx.P.funcs[fn]? =some f) (hn: (f.name== "runtime.NumGoroutine")=false)
 (h: ∀ args objs,s args objs= .fail∨YQ Kx C.s O 1 f args objs=(s args objs).val): Sound Kx fn s:=by
 refine sM (C:=C.s) (O:=O) KOk C.ok hf hn fun args objs res os hv=>?_
 rcases h args objs with e | e
 · rw [e] at hv;cases hv
 · exact ⟨1,e.trans hv⟩
theorem ar {C: SC} {O: Opt} {fn: Nat} {f: Func} {s: List AV→List Ob→Br} (hf: Kx.P.funcs[fn]? =some f) (hn: (f.name== "runtime.NumGoroutine")=false)
 (h: ∀ args objs,s args objs= .fail∨∀ res,(s args objs).val=some res→∃ n,YQ Kx C.s O n f args objs=some res): Sound Kx fn s:=by
 refine sM (C:=C.s) (O:=O) KOk C.ok hf hn fun args objs res os hv=>?_
 rcases h args objs with e | e
 · rw [e] at hv;cases hv
 · exact e _ hv
theorem aS {C: SC} {O: Opt} {n: Nat} {f: Func} {Λ: Lam} {args: List AV} {objs: List Ob} {r: Rs} {x: OR'} (hb: f.body=some (aG f)) (hΛ: ∀ b ∈ loops (aG f),OkL Kx C.s O objs.length n Λ b)
 (he: agA Kx C.s O Λ f args objs=x) (h: x=some r): ∃ n,YQ Kx C.s O n f args objs=some r:=⟨n,O9 hb hΛ (he.trans h)⟩
def Pe: Opt:={ live:=[(3,[0,3,4])],outs:=[(3,[0,2,3])] }
def ru (aL: (List Int)) (aA bu: Int) (kR3: (List Int)→Int→Int→OR') (eK: (List Int)→Int→OR'): OR':=
 (bif (decide (bu < (aL.length: Int))) then (bif (decide (bu < 4000)) then (bif (decide (0≤bu)) then (bif (decide (bu < (aL.length: Int))) then (kR3 aL (wkk .i64 (((BitVec.toNat ((BitVec.ofInt 64 (ai ((ai ((ai (aA * 131)) + (ai (List.getD aL (Int.toNat bu) 0)))) + 7)))&&& (BitVec.ofInt 64 1073741823))): Nat): Int)) (ai (bu + 1))) else none) else none) else (eK aL aA)) else (eK aL aA))
def kJ: Nat→(List Int)→Int→Int→((List Int)→Int→OR')→OR'
 | 0,_,_,_,_=>none
 | n + 1,aL,aA,bu,eK=>ru aL aA bu (fun aL aA bu=>kJ n aL aA bu eK) eK
abbrev l1New_p3: SP:=⟨32,[0,3,4],[(.v (.sh (Ty.int .u8))),(.v (.i .i64)),(.v (.i .i64))],[]⟩
noncomputable def H6: Code:=aD (aG Tryz.f69) [1,1,0,1,0,0]
def H7 (f: ((List Int)→Int→OR')→OR') (k: KT): OR':=f (fun ab ae=>k (Ex.exit 0) ((St.mk (aH 0 32 [(0,(AV.sh (Ty.int .u8) ab)),(3,(AV.int .i64 ae))]) ([]: (List (Nat×(Ob)))))))
def H8 (n: Nat) (d: l1New_p3.D): KT→OR':=H7 (kJ n d.1.1 d.1.2.1 d.1.2.2.1)
def Pf (N: Nat): Lam:=bw [⟨3,l1New_p3,H8 N⟩]
theorem Pg (N: Nat): OkL Kx noS Pe 0 N (Pf N) H6:=okL l1New_p3 (H8) (fun d kR=>H7 (ru d.1.1 d.1.2.1 d.1.2.2.1 (fun aL aA bu=>kR ((aL,aA,bu,()),())))) (fun _ _=>by kernel_rfl) (fun _ _ _=>by kernel_rfl) (fun _ _=>by kernel_rfl) (fun _ _ _ _=>by kernel_rfl) (am (l':=[]) (by kernel_rfl) trivial)
def Ph (N: Nat) (code: List Int): OR':=(kJ N code (ai (64242 + (code.length: Int))) 0 (fun ab ae=>(some ((AV.ptr 0 0),[.var [.sh (Ty.int .u8) ab,.int .i64 0,.int .i64 ae]]))))
def sQ (φ: (List Int)→Br): List AV→List Ob→Br
 | [.sh (.int .u8) code],[]=>φ code
 | _,_=> .fail
theorem LP {φ: (List Int)→Br} (fu: (List Int)→Nat) (hv: ∀ code res_,(φ code).val=some res_→Ph (fu code) code=some res_): Sound Kx 69 (sQ φ):=ar (C:=[]) (O:=Pe) Tryz.func69 (by kernel_rfl) fun args objs=>by
 unfold sQ;split
 · rename_i code;exact .inr fun _ hyp_=>aS (Λ:=Pf (fu code)) (by kernel_rfl) (am (l':=[H6]) (by kernel_rfl) ⟨Pg _,trivial⟩) (by kernel_rfl) (hv code _ hyp_)
 · exact .inl rfl
def sR (code: List Int) (i h: Int): Br:=(.ite (decide (i < (code.length: Int))) (.ite (decide (0≤i)) (.ite (decide (i < (code.length: Int))) (.ret (AV.int .i64 (wkk .i64 (((BitVec.toNat ((BitVec.ofInt 64 (ai ((wkk .i64 (((BitVec.toNat ((BitVec.ofInt 64 (wkk .i64 (((BitVec.toNat ((BitVec.ofInt 64 (Int.fdiv (ai ((ai (h * 6364136223846793005)) + 1442695040888963407)) 8589934592)) ^^^ (BitVec.ofInt 64 (Int.fdiv (ai ((ai (h * 6364136223846793005)) + 1442695040888963407)) 35184372088832)))): Nat): Int)))&&& (BitVec.ofInt 64 255))): Nat): Int)) + (ai (List.getD code (Int.toNat i) 0)))))&&& (BitVec.ofInt 64 255))): Nat): Int))) [.var [.sh (Ty.int .u8) code,.int .i64 (ai (i + 1)),.int .i64 (ai ((ai (h * 6364136223846793005)) + 1442695040888963407))]]) .fail) .fail) (.ret (AV.int .i64 (wkk .i64 (((BitVec.toNat ((BitVec.ofInt 64 (wkk .i64 (((BitVec.toNat ((BitVec.ofInt 64 (Int.fdiv (ai ((ai (h * 6364136223846793005)) + 1442695040888963407)) 8589934592)) ^^^ (BitVec.ofInt 64 (Int.fdiv (ai ((ai (h * 6364136223846793005)) + 1442695040888963407)) 35184372088832)))): Nat): Int)))&&& (BitVec.ofInt 64 255))): Nat): Int))) [.var [.sh (Ty.int .u8) code,.int .i64 i,.int .i64 (ai ((ai (h * 6364136223846793005)) + 1442695040888963407))]]))
def H9: List AV→List Ob→Br
 | [.ptr 0 0],[.var [.sh (.int .u8) code, .int .i64 i, .int .i64 h]]=>sR code i h
 | _,_=> .fail
theorem l1Byte_ok: Sound Kx 148 H9:=ah (C:=[]) (O:=O0) Tryz.func148 (by kernel_rfl) fun args objs=>by
 unfold H9;split
 · exact .inr (by kernel_rfl)
 · exact .inl rfl
def Bv (x: Int): Int:=wkk .i64 ((BitVec.toNat (BitVec.ofInt 64 x&&& BitVec.ofInt 64 255): Nat): Int)
theorem Bw (x: Int): 0≤Bv x∧Bv x≤255:=by
 have h: BitVec.toNat (BitVec.ofInt 64 x&&& BitVec.ofInt 64 255)≤255:=by
  rw [BitVec.toNat_and]
  exact Nat.and_le_right
 unfold Bv
 generalize BitVec.toNat (BitVec.ofInt 64 x&&& BitVec.ofInt 64 255)=k at h
 simp only [sf,IntKind.wrap,IntKind.signed,IntKind.bits]
 simp
 omega
def ahX (a b: Int): Int:=wkk .i64 ((BitVec.toNat (BitVec.ofInt 64 a ^^^ BitVec.ofInt 64 b): Nat): Int)
def mix (h: Int): Int:=ai (ai (h * 6364136223846793005) + 1442695040888963407)
def agC (h: Int): Int:=Bv (ahX (Int.fdiv (mix h) 8589934592) (Int.fdiv (mix h) 35184372088832))
def io (code: List Int) (i h: Int): Int:=bif decide (i < (code.length: Int)) then Bv (ai (agC h + ai (code.getD i.toNat 0))) else agC h
def cG (code: List Int) (i: Int): Int:=bif decide (i < (code.length: Int)) then ai (i + 1) else i
theorem nj (code: List Int) (i h: Int): 0≤io code i h∧io code i h≤255:=by
 unfold io agC
 cases decide (i < (code.length: Int))
 · exact Bw _
 · exact Bw _
def okC (code: List Int) (i: Int): Bool:=decide (0≤i)&&decide (code.length≤281474976710656)
theorem av {code: List Int} {i: Int} (h: okC code i=true): okC code (cG code i)=true:=by
 unfold okC at h ⊢
 simp only [Bool.and_eq_true,decide_eq_true_eq] at h ⊢
 refine ⟨?_,h.2⟩
 unfold cG
 by_cases h1: i < (code.length: Int)
 · simp only [h1,decide_true,cond_true]
   rw [w64 (by omega) (by omega)];omega
 · simp only [h1,decide_false,cond_false];exact h.1
def ahl (code: List Int) (i h: Int): List Ob:=[.var [.sh (.int .u8) code, .int .i64 i, .int .i64 h]]
theorem LQ (code: List Int) (i h: Int) (hc: okC code i=true): (sR code i h).val=some (.int .i64 (io code i h),ahl code (cG code i) (mix h)):=by
 unfold okC at hc
 simp only [Bool.and_eq_true,decide_eq_true_eq] at hc
 unfold sR io cG
 by_cases h1: i < (code.length: Int)
 · simp only [h1,hc.1,decide_true,Br.val,cond_true];rfl
 · simp only [h1,decide_false,Br.val,cond_false];rfl
def Pi: List AV→List Ob→Br
 | [.ptr 0 0],[.var [.sh (.int .u8) code, .int .i64 i, .int .i64 h]]=> .ite (okC code i) (.ret (.int .i64 (io code i h)) [.var [.sh (.int .u8) code, .int .i64 (cG code i), .int .i64 (mix h)]]) .fail
 | _,_=> .fail
theorem wb: Sound Kx 148 Pi:=l1Byte_ok.of fun args objs r h=>by
 unfold Pi at h
 split at h
 · exact (LQ _ _ _ (al h).1).trans (al h).2
 · cases h
def Pj: List Int→Int→Int→Int
 | [],_,h=>h
 | a::r,i,h=>bif decide (i < 4000) then Pj r (i + 1) (wkk .i64 ((BitVec.toNat (BitVec.ofInt 64 (ai (ai (ai (h * 131) + ai a) + 7))&&& BitVec.ofInt 64 1073741823): Nat): Int)) else h
theorem LR (k: List Int→Int→OR') (l: List Int) (hl: l.length≤281474976710656) (r: List Int): ∀ (pre: List Int) (n: Nat) (h: Int),r.length < n→pre++r=l→
 kJ n l h (pre.length: Int) k=k l (Pj r (pre.length: Int) h):=by
 induction r with
 | nil=>
   intro pre n h hn hp
   obtain ⟨n,rfl⟩: ∃ m,n=m + 1:=⟨n - 1,by simp at hn;omega⟩
   have e1: decide ((pre.length: Int) < (l.length: Int))=false:=by rw [← hp];simp
   unfold kJ ru
   simp only [e1,cond_false,Pj]
 | cons a r ihr=>
   intro pre n h hn hp
   obtain ⟨n,rfl⟩: ∃ m,n=m + 1:=⟨n - 1,by omega⟩
   have hlen: l.length=pre.length + r.length + 1:=by rw [← hp];simp;omega
   have e1: decide ((pre.length: Int) < (l.length: Int))=true:=by rw [hlen];simp;omega
   have e2: decide ((0 : Int)≤(pre.length: Int))=true:=by simp
   have e4: l.getD pre.length 0=a:=by rw [← hp];exact H4 ..
   have e5: (((pre++[a]).length: Nat): Int)=(pre.length: Int) + 1:=by simp
   have ih:=fun x=>ihr (pre++[a]) n x (by simp at hn;omega) (by rw [← aba];exact hp)
   unfold kJ ru
   simp only [e1,e2,e4,cond_true,Int.toNat_natCast]
   rw [Wc pre a (by omega)]
   simp only [Pj,ih]
   simp only [e5]
   cases decide ((pre.length: Int) < 4000) <;> rfl
def lI (code: List Int): Int:=Pj code 0 (ai (64242 + (code.length: Int)))
def H_ (code: List Int): Br:= .ite (decide (code.length≤281474976710656)) (.ret (.ptr 0 0) [.var [.sh (.int .u8) code, .int .i64 0, .int .i64 (lI code)]]) .fail
def abb:=sQ H_
theorem Wd: Sound Kx 69 abb:=by
 refine LP (fun c=>c.length + 1) fun c r h=>?_
 unfold H_ at h
 simp only [Br.val] at h
 split at h
 · rename_i hb
   simp only [decide_eq_true_eq] at hb
   rw [← h]
   exact LR _ c hb c [] (c.length + 1) _ (by omega) rfl
 · cases h
def Pk: SC:=[⟨148,_,wb⟩]
def om (n: Int) (code: List Int) (i h: Int): Br:=(.ite (decide (n≤0)) (.ret (AV.int .i64 0) [.var [.sh (Ty.int .u8) code,.int .i64 i,.int .i64 h]]) (.ite (decide (n≤256)) (.ite (okC code i) (.ite (!(decide (n=0))) (.ret (AV.int .i64 (Int.tmod (io code i h) n)) [.var [.sh (Ty.int .u8) code,.int .i64 (cG code i),.int .i64 (mix h)]]) .fail) .fail) (.ite (okC code i) (.ite (okC code (cG code i)) (.ite (okC code (cG code (cG code i))) (.ite (okC code (cG code (cG code (cG code i)))) (.ite (!(decide (n=0))) (.ret (AV.int .i64 (Int.tmod (ai ((ai ((ai ((ai ((io code i h) * 16777216)) + (ai ((io code (cG code i) (mix h)) * 65536)))) + (ai ((io code (cG code (cG code i)) (mix (mix h))) * 256)))) + (io code (cG code (cG code (cG code i))) (mix (mix (mix h)))))) n)) [.var [.sh (Ty.int .u8) code,.int .i64 (cG code (cG code (cG code (cG code i)))),.int .i64 (mix (mix (mix (mix h))))]]) .fail) .fail) .fail) .fail) .fail)))
def Bx: List AV→List Ob→Br
 | [.ptr 0 0, .int .i64 n],[.var [.sh (.int .u8) code, .int .i64 i, .int .i64 h]]=>om n code i h
 | _,_=> .fail
theorem l1Below_ok: Sound Kx 71 Bx:=ah (C:=Pk) (O:=O0) Tryz.func71 (by kernel_rfl) fun args objs=>by
 unfold Bx;split
 · exact .inr (by kernel_rfl)
 · exact .inl rfl
def aT (n: Int) (code: List Int) (i h: Int): Int:=bif decide (n≤0) then 0 else bif decide (n≤256) then Int.tmod (io code i h) n else
 Int.tmod (ai ((ai ((ai ((ai ((io code i h) * 16777216)) + (ai ((io code (cG code i) (mix h)) * 65536)))) + (ai ((io code (cG code (cG code i)) (mix (mix h))) * 256)))) + (io code (cG code (cG code (cG code i))) (mix (mix (mix h)))))) n
def an (n: Int) (code: List Int) (i: Int): Int:=bif decide (n≤0) then i else bif decide (n≤256) then cG code i else cG code (cG code (cG code (cG code i)))
def au (n: Int) (h: Int): Int:=bif decide (n≤0) then h else bif decide (n≤256) then mix h else mix (mix (mix (mix h)))
theorem Pl {x n: Int} (h: 0≤x) (hn: 0 < n): 0≤Int.tmod x n∧Int.tmod x n < n:=by
 rw [Int.tmod_eq_emod_of_nonneg h]
 exact ⟨Int.emod_nonneg _ (by omega),Int.emod_lt_of_pos _ hn⟩
theorem et (n: Int) (code: List Int) (i h: Int): 0≤aT n code i h∧(0 < n→aT n code i h < n):=by
 unfold aT
 by_cases h1: n≤0
 · simp only [h1,decide_true,cond_true];omega
 · by_cases h2: n≤256
   · simp only [h1,h2,decide_true,decide_false,cond_true,cond_false]
     have:=Pl (nj code i h).1 (by omega: 0 < n)
     exact ⟨this.1,fun _=>this.2⟩
   · simp only [h1,h2,decide_false,cond_false]
     have b1:=nj code i h
     have b2:=nj code (cG code i) (mix h)
     have b3:=nj code (cG code (cG code i)) (mix (mix h))
     have b4:=nj code (cG code (cG code (cG code i))) (mix (mix (mix h)))
     generalize io code i h=x1 at *
     generalize io code (cG code i) (mix h)=x2 at *
     generalize io code (cG code (cG code i)) (mix (mix h))=x3 at *
     generalize io code (cG code (cG code (cG code i))) (mix (mix (mix h)))=x4 at *
     rw [w64 (n:=x1 * 16777216) (by omega) (by omega),w64 (n:=x2 * 65536) (by omega) (by omega),w64 (n:=x3 * 256) (by omega) (by omega),w64 (n:=x1 * 16777216 + x2 * 65536) (by omega) (by omega),
      w64 (n:=x1 * 16777216 + x2 * 65536 + x3 * 256) (by omega) (by omega),w64 (by omega) (by omega)]
     have:=Pl (x:=x1 * 16777216 + x2 * 65536 + x3 * 256 + x4) (by omega) (by omega: 0 < n)
     exact ⟨this.1,fun _=>this.2⟩
theorem aq {n: Int} {code: List Int} {i: Int} (h: okC code i=true): okC code (an n code i)=true:=by
 unfold an
 cases decide (n≤0)
 · cases decide (n≤256)
   · exact av (av (av (av h)))
   · exact av h
 · exact h
theorem Fb (n: Int) (code: List Int) (i h: Int) (hc: okC code i=true): (om n code i h).val=some (.int .i64 (aT n code i h),ahl code (an n code i) (au n h)):=by
 unfold om aT an au
 by_cases h1: n≤0
 · simp only [h1,decide_true,cond_true,Br.val];rfl
 · have h3: ¬ n=0:=by omega
   have c1:=av hc
   have c2:=av c1
   have c3:=av c2
   by_cases h2: n≤256
   · simp only [h1,h2,h3,hc,decide_true,decide_false,cond_true,cond_false,Br.val,Bool.not_false];rfl
   · simp only [h1,h2,h3,hc,c1,c2,c3,decide_true,decide_false,cond_true,cond_false,Br.val,Bool.not_false];rfl
def Ia: List AV→List Ob→Br
 | [.ptr 0 0, .int .i64 n],[.var [.sh (.int .u8) code, .int .i64 i, .int .i64 h]]=> .ite (okC code i) (.ret (.int .i64 (aT n code i h)) [.var [.sh (.int .u8) code, .int .i64 (an n code i), .int .i64 (au n h)]]) .fail
 | _,_=> .fail
theorem ci: Sound Kx 71 Ia:=l1Below_ok.of fun args objs r h=>by
 unfold Ia at h
 split at h
 · exact (Fb _ _ _ _ (al h).1).trans (al h).2
 · cases h
def We: SC:=[⟨71,_,ci⟩]
def Pm (n: Int) (code: List Int) (i h: Int): Br:=(.ite (okC code i) (.ret (AV.bool (decide ((aT n code i h)=0))) [.var [.sh (Ty.int .u8) code,.int .i64 (an n code i),.int .i64 (au n h)]]) .fail)
def Ib: List AV→List Ob→Br
 | [.ptr 0 0, .int .i64 n],[.var [.sh (.int .u8) code, .int .i64 i, .int .i64 h]]=>Pm n code i h
 | _,_=> .fail
theorem l1Once_ok: Sound Kx 98 Ib:=ah (C:=We) (O:=O0) Tryz.func98 (by kernel_rfl) fun args objs=>by
 unfold Ib;split
 · exact .inr (by kernel_rfl)
 · exact .inl rfl
def Wf: SC:=[⟨71,_,ci⟩]
def sS (l: List Int) (code: List Int) (i h: Int): Br:=(.ite (okC code i) (.ite (decide (0≤(aT (l.length: Int) code i h))) (.ite (decide ((aT (l.length: Int) code i h) < (l.length: Int))) (.ret (AV.int .i64 (List.getD l (Int.toNat (aT (l.length: Int) code i h)) 0)) [.var [.sh (Ty.int .u8) code,.int .i64 (an (l.length: Int) code i),.int .i64 (au (l.length: Int) h)]]) .fail) .fail) .fail)
def Ic: List AV→List Ob→Br
 | [.ptr 0 0, .sh (.int .i64) l],[.var [.sh (.int .u8) code, .int .i64 i, .int .i64 h]]=>sS l code i h
 | _,_=> .fail
theorem l1Pick_ok: Sound Kx 115 Ic:=ah (C:=Wf) (O:=O0) Tryz.func115 (by kernel_rfl) fun args objs=>by
 unfold Ic;split
 · exact .inr (by kernel_rfl)
 · exact .inl rfl
def Pn: SC:=[⟨71,_,ci⟩]
def oo (l: List aa) (code: List Int) (i h: Int): Br:=(.ite (okC code i) (.ite (decide (0≤(aT (l.length: Int) code i h))) (.ite (decide ((aT (l.length: Int) code i h) < (l.length: Int))) (.ret (AV.str (List.getD l (Int.toNat (aT (l.length: Int) code i h)) ([]: aa))) [.var [.sh (Ty.int .u8) code,.int .i64 (an (l.length: Int) code i),.int .i64 (au (l.length: Int) h)]]) .fail) .fail) .fail)
def By: List AV→List Ob→Br
 | [.ptr 0 0, .sh .str l],[.var [.sh (.int .u8) code, .int .i64 i, .int .i64 h]]=>oo l code i h
 | _,_=> .fail
theorem l1PickT_ok: Sound Kx 146 By:=ah (C:=Pn) (O:=O0) Tryz.func146 (by kernel_rfl) fun args objs=>by
 unfold By;split
 · exact .inr (by kernel_rfl)
 · exact .inl rfl
def Y3: Opt:={ live:=[(3,[0,1,2,7,8])],outs:=[(3,[6,7])] }
def l1of_C: SC:=[⟨71,_,ci⟩]
def sT (aL: Int) (aA: aa) (bu: Int) (d_: (List Int)) (gw gH: Int) (ii: (List Int)) (kR3: Int→aa→Int→(List Int)→Int→Int→(List Int)→OR') (eK: (List Int)→Int→Int→(List Int)→OR'): OR':=
 (bif (decide (bu < aL)) then (bif (okC d_ gw) then (bif (decide (0≤(aT (aA.length: Int) d_ gw gH))) then (bif (decide ((aT (aA.length: Int) d_ gw gH) < (aA.length: Int))) then (bif (decide (((ii.length + (List.length (List.set (List.replicate 1 (0 : Int)) 0 (aC aA (aT (aA.length: Int) d_ gw gH))))) * 1)≤140737488355328)) then (kR3 aL aA (ai (bu + 1)) d_ (an (aA.length: Int) d_ gw) (au (aA.length: Int) gH) (ii++(List.set (List.replicate 1 (0 : Int)) 0 (aC aA (aT (aA.length: Int) d_ gw gH))))) else none) else none) else none) else none) else (eK d_ gw gH ii))
def lX: Nat→Int→aa→Int→(List Int)→Int→Int→(List Int)→((List Int)→Int→Int→(List Int)→OR')→OR'
 | 0,_,_,_,_,_,_,_,_=>none
 | n + 1,aL,aA,bu,d_,gw,gH,ii,eK=>sT aL aA bu d_ gw gH ii (fun aL aA bu d_ gw gH ii=>lX n aL aA bu d_ gw gH ii eK) eK
abbrev l1of_p3: SP:=⟨25,[0,1,2,7,8],[(.v (.ptr 0 0)),(.v (.i .i64)),(.v .s),(.v (.ref 512 0)),(.v (.i .i64))],[(0, .var [(.sh (Ty.int .u8)),(.i .i64),(.i .i64)]),(512, .arr (Ty.int .u8) 0 false)]⟩
noncomputable def Po: Code:=aD (aG Tryz.f72) [1,1,0,1,0,0]
def Pp (f: ((List Int)→Int→Int→(List Int)→OR')→OR') (k: KT): OR':=f (fun ab ae af kF=>k (Ex.exit 0) ((St.mk (aH 0 25 [(7,(AV.ref 512 0))]) ((0,(Ob.var [.sh (Ty.int .u8) ab,.int .i64 ae,.int .i64 af]))::((512,(Ob.arr (Ty.int .u8) 0 false kF))::([]: (List (Nat×(Ob)))))))))
def Pq (n: Nat) (d: l1of_p3.D): KT→OR':=Pp (lX n d.1.2.1 d.1.2.2.1 d.1.2.2.2.2.1 d.2.1.1 d.2.1.2.1 d.2.1.2.2.1 d.2.2.1)
def Y4 (N: Nat): Lam:=bw [⟨3,l1of_p3,Pq N⟩]
theorem Wg (N: Nat): OkL Kx l1of_C.s Y3 1 N (Y4 N) Po:=okL l1of_p3 (Pq) (fun d kR=>Pp (sT d.1.2.1 d.1.2.2.1 d.1.2.2.2.2.1 d.2.1.1 d.2.1.2.1 d.2.1.2.2.1 d.2.2.1 (fun aL aA bu d_ gw gH ii=>kR (((),aL,aA,(),bu,()),((d_,gw,gH,()),ii,()))))) (fun _ _=>by kernel_rfl) (fun _ _ _=>by kernel_rfl) (fun _ _=>by kernel_rfl) (fun _ _ _ _=>by kernel_rfl) (am (l':=[]) (by kernel_rfl) trivial)
def Id (N: Nat) (n: Int) (set: List UInt8) (code: List Int) (i h: Int): OR':=(lX N n set 0 code i h ([]: (List Int)) (fun ab ae af kF=>(some ((AV.str (bQ kF)),[.var [.sh (Ty.int .u8) ab,.int .i64 ae,.int .i64 af]]))))
def yp (φ: Int→aa→(List Int)→Int→Int→Br): List AV→List Ob→Br
 | [.ptr 0 0, .int .i64 n, .str set],[.var [.sh (.int .u8) code, .int .i64 i, .int .i64 h]]=>φ n set code i h
 | _,_=> .fail
theorem Pr {φ: Int→aa→(List Int)→Int→Int→Br} (fu: Int→aa→(List Int)→Int→Int→Nat) (hv: ∀ n set code i h res_,(φ n set code i h).val=some res_→Id (fu n set code i h) n set code i h=some res_): Sound Kx 72 (yp φ):=ar (C:=l1of_C) (O:=Y3) Tryz.func72 (by kernel_rfl) fun args objs=>by
 unfold yp;split
 · rename_i n set code i h;exact .inr fun _ hyp_=>aS (Λ:=Y4 (fu n set code i h)) (by kernel_rfl) (am (l':=[Po]) (by kernel_rfl) ⟨Wg _,trivial⟩) (by kernel_rfl) (hv n set code i h _ hyp_)
 · exact .inl rfl
def Pt: List AV→List Ob→Br
 | [.ptr 0 0, .int .i64 n],[.var [.sh (.int .u8) code, .int .i64 i, .int .i64 h]]=> .ite (okC code i) (.ret (.bool (decide (aT n code i h=0))) [.var [.sh (.int .u8) code, .int .i64 (an n code i), .int .i64 (au n h)]]) .fail
 | _,_=> .fail
theorem kK: Sound Kx 98 Pt:=l1Once_ok.of fun args objs r h=>by
 unfold Pt at h
 split at h
 · rw [← h];rfl
 · cases h
def Pu: List AV→List Ob→Br
 | [.ptr 0 0, .sh (.int .i64) l],[.var [.sh (.int .u8) code, .int .i64 i, .int .i64 h]]=> .ite (okC code i&&decide (0 < l.length)) (.ret (.int .i64 (l.getD (aT (l.length: Int) code i h).toNat 0)) [.var [.sh (.int .u8) code, .int .i64 (an (l.length: Int) code i), .int .i64 (au (l.length: Int) h)]]) .fail
 | _,_=> .fail
theorem gh: Sound Kx 115 Pu:=l1Pick_ok.of fun args objs r h=>by
 unfold Pu at h
 split at h
 · rename_i l code i h'
   obtain ⟨h1,h2⟩:=al h
   simp only [Bool.and_eq_true,decide_eq_true_eq] at h1
   rw [← h2]
   show (sS l code i h').val=_
   have hb:=et (l.length: Int) code i h'
   have e1: decide ((0 : Int)≤aT (l.length: Int) code i h')=true:=by rw [decide_eq_true_eq];exact hb.1
   have e2: decide (aT (l.length: Int) code i h' < (l.length: Int))=true:=by rw [decide_eq_true_eq];exact hb.2 (by omega)
   unfold sS
   simp only [h1.1,e1,e2,Br.val]
 · cases h
def Pv: List AV→List Ob→Br
 | [.ptr 0 0, .sh .str l],[.var [.sh (.int .u8) code, .int .i64 i, .int .i64 h]]=> .ite (okC code i&&decide (0 < l.length)) (.ret (.str (l.getD (aT (l.length: Int) code i h).toNat [])) [.var [.sh (.int .u8) code, .int .i64 (an (l.length: Int) code i), .int .i64 (au (l.length: Int) h)]]) .fail
 | _,_=> .fail
theorem sU: Sound Kx 146 Pv:=l1PickT_ok.of fun args objs r h=>by
 unfold Pv at h
 split at h
 · rename_i l code i h'
   obtain ⟨h1,h2⟩:=al h
   simp only [Bool.and_eq_true,decide_eq_true_eq] at h1
   rw [← h2]
   show (oo l code i h').val=_
   have hb:=et (l.length: Int) code i h'
   have e1: decide ((0 : Int)≤aT (l.length: Int) code i h')=true:=by rw [decide_eq_true_eq];exact hb.1
   have e2: decide (aT (l.length: Int) code i h' < (l.length: Int))=true:=by rw [decide_eq_true_eq];exact hb.2 (by omega)
   unfold oo
   simp only [h1.1,e1,e2,Br.val]
 · cases h
def ofB: Nat→List UInt8→List Int→Int→Int→List Int×Int×Int
 | 0,_,_,i,h=>([],i,h)
 | k + 1,set,code,i,h=>
   (aC set (aT (set.length: Int) code i h)::(ofB k set code (an (set.length: Int) code i) (au (set.length: Int) h)).1,(ofB k set code (an (set.length: Int) code i) (au (set.length: Int) h)).2)
theorem Fe: ∀ (k: Nat) (set: List UInt8) (code: List Int) (i h: Int),(ofB k set code i h).1.length=k
 | 0,_,_,_,_=>rfl
 | k + 1,set,code,i,h=>by simp only [ofB,List.length_cons,Fe k]
theorem Pw: ∀ (k: Nat) (set: List UInt8) (code: List Int) (i h: Int),okC code i=true→okC code (ofB k set code i h).2.1=true
 | 0,_,_,_,_,hc=>hc
 | k + 1,set,code,i,h,hc=>Pw k set code _ _ (aq hc)
theorem Bz (n: Int) (set: List UInt8) (code: List Int) (hs: 0 < set.length) (K: List Int→Int→Int→List Int→OR'): ∀ (k N: Nat) (j i h: Int) (acc: List Int),k < N→0≤j→j + k=n→n≤1000000→acc.length≤1000000→acc.length + k≤1000000→okC code i=true→
 lX N n set j code i h acc K=K code (ofB k set code i h).2.1 (ofB k set code i h).2.2 (acc++(ofB k set code i h).1)
 | 0,N,j,i,h,acc,hN,h0,hj,hn,ha,hk,hc=>by
   obtain ⟨N,rfl⟩: ∃ m,N=m + 1:=⟨N - 1,by omega⟩
   have e1: decide (j < n)=false:=by rw [decide_eq_false_iff_not];omega
   unfold lX sT
   simp only [e1,cond_false,ofB,List.append_nil]
 | k + 1,N,j,i,h,acc,hN,h0,hj,hn,ha,hk,hc=>by
   obtain ⟨N,rfl⟩: ∃ m,N=m + 1:=⟨N - 1,by omega⟩
   have hb:=et (set.length: Int) code i h
   have e1: decide (j < n)=true:=by rw [decide_eq_true_eq];omega
   have e2: decide ((0 : Int)≤aT (set.length: Int) code i h)=true:=by rw [decide_eq_true_eq];exact hb.1
   have e3: decide (aT (set.length: Int) code i h < (set.length: Int))=true:=by rw [decide_eq_true_eq];exact hb.2 (by omega)
   have e4: List.set (List.replicate 1 (0 : Int)) 0 (aC set (aT (set.length: Int) code i h))=[aC set (aT (set.length: Int) code i h)]:=rfl
   have e5: ∀ x: Int,decide ((acc.length + [x].length) * 1≤140737488355328)=true:=by intro x;rw [decide_eq_true_eq,List.length_singleton];omega
   unfold lX sT
   simp only [e1,e2,e3,e4,e5,hc,cond_true]
   rw [w64 (by omega) (by omega),Bz n set code hs K k N (j + 1) _ _ _ (by omega) (by omega) (by omega) hn (by rw [List.length_append,List.length_singleton];omega) (by rw [List.length_append,List.length_singleton];omega) (aq hc)]
   simp only [ofB,List.append_assoc,List.singleton_append]
def ofS (n: Int) (set: List UInt8) (code: List Int) (i h: Int): List UInt8:=bQ (ofB n.toNat set code i h).1
theorem lY (n: Int) (set: List UInt8) (code: List Int) (i h: Int): (ofS n set code i h).length=n.toNat:=by simp [ofS,bQ,Fe]
def ofI (n: Int) (set: List UInt8) (code: List Int) (i h: Int): Int:=(ofB n.toNat set code i h).2.1
def ofH (n: Int) (set: List UInt8) (code: List Int) (i h: Int): Int:=(ofB n.toNat set code i h).2.2
theorem be {n: Int} {set: List UInt8} {code: List Int} {i h: Int} (hc: okC code i=true): okC code (ofI n set code i h)=true:=Pw _ _ _ _ _ hc
def Px (n: Int) (set: List UInt8) (code: List Int) (i h: Int): Br:= .ite (okC code i&&decide (n≤1000000)&&decide (0 < set.length)) (.ret (.str (ofS n set code i h)) [.var [.sh (.int .u8) code, .int .i64 (ofI n set code i h), .int .i64 (ofH n set code i h)]]) .fail
def adF:=yp Px
theorem yq: Sound Kx 72 adF:=by
 refine Pr (fun n _ _ _ _=>n.toNat + 1) fun n set code i h r hv=>?_
 unfold Px at hv
 obtain ⟨h1,h2⟩:=al hv
 simp only [Bool.and_eq_true,decide_eq_true_eq] at h1
 rw [← h2]
 unfold Id
 by_cases hn: 0≤n
 · exact Bz n set code h1.2 _ n.toNat (n.toNat + 1) 0 i h [] (by omega) (by omega) (by omega) h1.1.2 (by simp) (by simp;omega) h1.1.1
 · have e1: decide ((0 : Int) < n)=false:=by rw [decide_eq_false_iff_not];omega
   have e2: n.toNat=0:=by omega
   rw [e2]
   unfold lX sT
   simp only [e1,cond_false]
   unfold ofS ofI ofH
   rw [e2]
   rfl
def Y5 (code: List Int) (i h: Int): Ob:= .var [.sh (.int .u8) code, .int .i64 i, .int .i64 h]
def drQ {α β: Type} (un: List AV→Option β) (g: β→Bool) (ra: α→AV) (ro: α→List Ob) (D: β→List Int→Int→Int→α×Int×Int): List AV→List Ob→Br
 | .ptr 0 0::l,[.var [.sh (.int .u8) code, .int .i64 i, .int .i64 h]]=>(match un l with
   | some b=> .ite (okC code i&&g b) (.ret (ra (D b code i h).1) (.var [.sh (.int .u8) code, .int .i64 (D b code i h).2.1, .int .i64 (D b code i h).2.2]::ro (D b code i h).1)) .fail
   | none=> .fail)
 | _,_=> .fail
theorem yr {α β: Type} (br: β→List Int→Int→Int→Br) (g: β→Bool) (ra: α→AV) (ro: α→List Ob) (d0: α) (P: β→α→Prop)
 (h: ∀ b code i h,okC code i=true→g b=true→∃ (v: α) (i' h': Int),(br b code i h).val=some (ra v,Y5 code i' h'::ro v)∧okC code i'=true∧P b v):
 ∃ D: β→List Int→Int→Int→α×Int×Int,∀ b code i h,okC code i=true→g b=true→
   (br b code i h).val=some (ra (D b code i h).1,Y5 code (D b code i h).2.1 (D b code i h).2.2::ro (D b code i h).1)∧okC code (D b code i h).2.1=true∧P b (D b code i h).1:=by
 open Classical in
 refine ⟨fun b code i h'=>if hc: okC code i=true∧g b=true then ((h b code i h' hc.1 hc.2).choose,(h b code i h' hc.1 hc.2).choose_spec.choose,(h b code i h' hc.1 hc.2).choose_spec.choose_spec.choose) else (d0,0,0),fun b code i h' hc hg=>?_⟩
 simp only [dif_pos (And.intro hc hg)]
 exact (h b code i h' hc hg).choose_spec.choose_spec.choose_spec
def un0: List AV→Option Unit | []=>some () | _=>none
def unI: List AV→Option Int | [.int .i64 n]=>some n | _=>none
def unS: List AV→Option (List UInt8) | [.str s]=>some s | _=>none
theorem Ff {α β: Type} {n: Nat} {s: List AV→List Ob→Br} (hs: Sound Kx n s) {un: List AV→Option β} {g: β→Bool} {ra: α→AV} {ro: α→List Ob} (br: β→List Int→Int→Int→Br) {D: β→List Int→Int→Int→α×Int×Int}
 (hu: ∀ l b code i h,un l=some b→s (.ptr 0 0::l) [Y5 code i h]=br b code i h)
 (hD: ∀ b code i h,okC code i=true→g b=true→(br b code i h).val=some (ra (D b code i h).1,Y5 code (D b code i h).2.1 (D b code i h).2.2::ro (D b code i h).1)):
 Sound Kx n (drQ un g ra ro D):=hs.of fun args objs r hv=>by
 unfold drQ at hv
 split at hv
 · rename_i l code i h
   split at hv
   · rename_i b hb
     obtain ⟨h1,h2⟩:=al hv
     simp only [Bool.and_eq_true] at h1
     rw [← h2]
     show (s (.ptr 0 0::l) [Y5 code i h]).val=_
     rw [hu l b code i h hb,hD b code i h h1.1 h1.2]
     rfl
   · cases hv
 · cases hv
theorem BA {l: List AV} {b: Unit} (h: un0 l=some b): l=[]:=by unfold un0 at h;split at h <;> first | rfl | cases h
theorem adG {l: List AV} {b: Int} (h: unI l=some b): l=[.int .i64 b]:=by unfold unI at h;split at h <;> cases h;rfl
theorem adH {l: List AV} {b: List UInt8} (h: unS l=some b): l=[.str b]:=by unfold unS at h;split at h <;> cases h;rfl
def Dra {α: Type} (code: List Int) (ra: α→AV) (ro: α→List Ob) (P: α→Prop) (b: Br): Prop:=∃ (v: α) (i' h': Int),b.val=some (ra v,Y5 code i' h'::ro v)∧okC code i'=true∧P v
theorem sV {α: Type} {code: List Int} {ra: α→AV} {ro: α→List Ob} {P: α→Prop} {c: Bool} {x y: Br} (h1: c=true→Dra code ra ro P x) (h2: c=false→Dra code ra ro P y): Dra code ra ro P (.ite c x y):=by
 cases c
 · exact h2 rfl
 · exact h1 rfl
theorem sX {α: Type} {code: List Int} {ra: α→AV} {ro: α→List Ob} {P: α→Prop} {c: Bool} {x: Br} (h0: c=true) (h1: Dra code ra ro P x): Dra code ra ro P (.ite c x .fail):=by
 subst h0;exact h1
theorem Ie {α: Type} {code: List Int} {ra: α→AV} {ro: α→List Ob} {P: α→Prop} {r: AV} {os: List Ob} (v: α) (i' h': Int) (e1: r=ra v) (e2: os=Y5 code i' h'::ro v) (hc: okC code i'=true) (hP: P v): Dra code ra ro P (.ret r os):=⟨v,i',h',by rw [e1,e2];rfl,hc,hP⟩
end
end Go.Proofs.YtgknmoadpgpdeaaGreatDoor.Ev
namespace Go.Proofs.YtgknmoadpgpdeaaGreatDoor.Ev
open Go Go.RowKit
set_option linter.unusedVariables false
set_option linter.unusedSimpArgs false
theorem yu {w w': World} {N: Nat→Nat→Prop} (h: Below w.heap.size w w'): Fr w N w' where
 os:=h.os
 tape:=h.tape
 output:=h.output
 size:=h.size
 blk:=fun b hb _=>h.block b hb
 cel:=fun b o hb _=>h.cell (p:=⟨b,o,none⟩) hb
 frz:=fun b o hb _=>h.frozen (p:=⟨b,o,none⟩) hb
 shp:=fun b hb=>by simp only [World.shape?,h.block b hb]
theorem Wh {w w': World} {M: Nat→Nat→Prop} (h: Below w.heap.size w w'): Tr w M w' M:=by
 intro b o v hm hv
 exact ⟨hm,(h.cell (p:=⟨b,o,none⟩) (World.block_lt_of_cell? w ⟨b,o,none⟩ hv)).trans hv⟩
theorem LS {K: Ctx} {L: Lk} {w w': World} (h: RelO K w ⟨lC L,L.F⟩ L w) (hb: Below w.heap.size w w') (hg: K.G w→K.G w'): RelO K w ⟨lC L,L.F⟩ L w' where
 fr:=yu hb
 ok:=fun i p hp=>YR (Turn.refl L) (Wh hb) (fun b o hr=>by
  have hlt:=m_ (h.ok i p hp) hr
  exact ⟨hb.cell (p:=⟨b,o,none⟩) hlt,hb.frozen (p:=⟨b,o,none⟩) hlt⟩) (fun b s h=>by simpa only [World.shape?,hb.block b (rk h)] using h) (fun _ b o hr=>hb.block b (m_ (h.ok i p hp) hr)) (h.ok i p hp)
 sep:=h.sep
 own:=h.own
 ff:=h.ff
 fs:=h.fs
 fo:=h.fo
 g:=hg h.g
 gs:=Nat.le_trans h.gs hb.size
 gb:=h.gb
theorem cO {fn: Nat} {f: Func} {c: Code} (hf: Kx.P.funcs[fn]? =some f) (hname: (f.name== "runtime.NumGoroutine")=false) (hb: f.body=some c) {φ: List AV→List Ob→Br}
 (h: ∀ args objs res objs',(φ args objs).val=some (res,objs')→∀ (w: World) (L: Lk) (vs: List Value),RelO Kx w ⟨lC L,L.F⟩ L w→aX L w (Mut L) args vs→
  objs'=objs∧Calls Kx.P fn vs.toArray w fun e w'=>∃ v,e= .returned v∧Below w.heap.size w w'∧rel L w' (Mut L) res v): Sound Kx fn φ:=by
 intro args objs res objs' hv w L vs hR ho hr
 obtain ⟨rfl,hc⟩:=h _ _ _ _ hv w L vs hR hr
 refine .inl ⟨Calls.mono hc ?_,f,c,hf,hname,hb⟩
 rintro e w' ⟨v,rfl,hb',hv'⟩
 exact ⟨L,LS hR hb' (fun hg=>KOk.gst _ _ (fun _ _=>False) (yu hb') hR.gs (fun _ _ _ h=>h) hg),ho,Kept.refl _ _,hv'⟩
end Go.Proofs.YtgknmoadpgpdeaaGreatDoor.Ev
namespace Go.Proofs.YtgknmoadpgpdeaaGreatDoor.Ev
open Go Go.RowKit
set_option linter.unusedVariables false
set_option linter.unusedSimpArgs false
noncomputable section
def LT (n lo hi: Int): Br:=(.ite (decide (lo≤n)) (.ret (AV.bool (decide (n≤hi))) []) (.ret (AV.bool false) []))
def BB: List AV→List Ob→Br
 | [.int .i64 n, .int .i64 lo, .int .i64 hi],[]=>LT n lo hi
 | _,_=> .fail
theorem dX: Sound Kx 201 BB:=ah (C:=[]) (O:=O0) Tryz.func201 (by kernel_rfl) fun args objs=>by
 unfold BB;split
 · exact .inr (by kernel_rfl)
 · exact .inl rfl
end
end Go.Proofs.YtgknmoadpgpdeaaGreatDoor.Ev
namespace Go.Proofs.YtgknmoadpgpdeaaGreatDoor.Ev
open Go Go.RowKit
set_option linter.unusedVariables false
set_option linter.unusedSimpArgs false
theorem Py {P: Program} {fn: Nat} {vs: Array Value} {w: World} {p q: Value→World→Prop} (h: Goes P fn vs w p) (hpq: ∀ v w',p v w'→q v w'): Goes P fn vs w q:=by
 rcases h with ⟨h1,h2⟩ | ⟨v,w',h1,h2⟩
 · refine .inl ⟨Calls.mono h1 fun e w' he=>?_,h2⟩
   cases e with
   | returned v=>exact hpq v w' he
   | panicked c=>exact he
   | outgrown=>exact he
 · exact .inr ⟨v,w',h1,hpq v w' h2⟩
theorem Wi {fn: Nat} {φ ψ: List AV→List Ob→Br} (hS: Sound Kx fn φ)
 (h: ∀ args objs res objs',(ψ args objs).val=some (res,objs')→objs=[]∧objs'=[]∧∃ e l,res= .sh e l∧((φ args []).val=some (.sh e l,[])∨∃ ver z,(φ args []).val=some (.ref 0 ver,[.arr e ver z l]))): Sound Kx fn ψ:=by
 intro args objs res objs' hv w L vs hR ho hr
 obtain ⟨rfl,rfl,e,l,rfl,h1⟩:=h _ _ _ _ hv
 rcases h1 with h1 | ⟨ver,z,h1⟩
 · exact hS _ _ _ _ h1 w L vs hR ho hr
 have hno: ∀ i,L i=none:=fun i=>by
  have:=ho i
  simp only [List.getElem?_nil] at this
  cases hL: L i with
  | none=>rfl
  | some p=>rw [hL] at this;cases this
 refine Py (hS _ _ _ _ h1 w L vs hR ho hr) ?_
 rintro v w' ⟨L',hR',ho',hk,hv'⟩
 have hmO: ∀ b o,¬ lC L b o:=by
  rintro b o ⟨i,p,hp,_⟩
  rw [hno i] at hp;cases hp
 have hF: L'.F=L.F:=hR'.ff
 have ht: Tr w' (Mut L') w' (Mut L):=fun b o v hn hv=>⟨fun hm=>hn (by
  rcases hm with hm | hm
  · left;rw [hF];exact hm
  · exact absurd hm (hmO b o)),hv⟩
 refine ⟨L,⟨hR'.fr,(fun i p hp=>by rw [hno i] at hp;cases hp),(fun i j p q b o hp=>by rw [hno i] at hp;cases hp),(fun b o hm=>absurd hm (hmO b o)),rfl,hR'.fs,(fun b o hm=>absurd hm (hmO b o)),hR'.g,hR'.gs,(fun b o hm=>absurd hm (hmO b o))⟩,fun i=>?_,(fun i hi=>by cases hi),?_⟩
 · rw [hno i];rfl
 simp only [rel] at hv' ⊢
 obtain ⟨lc,e1,cur,z1,xs,p,n,c,g1,g2,rfl,g3⟩:=hv'
 have h0:=ho' 0
 rw [g1] at h0
 simp only [List.getElem?_cons_zero,Option.map_some,Option.some.injEq,Ob.arr.injEq] at h0
 obtain ⟨rfl,rfl,rfl,h0⟩:=h0
 have h0:=eq_of_heq h0
 subst h0
 obtain ⟨rfl,rfl,rfl⟩:=g3 rfl
 simp only [rd]
 rcases hR'.ok 0 _ g1 with ⟨k1,k2,k3⟩ | ⟨b,o,k1,k2,k3,k4,k5,_⟩
 · simp only at k1 k2 k3
   subst k2
   exact ⟨_,_,_,rfl,rfl,Nat.zero_le _, .inl rfl⟩
 · simp only at k1 k2
   refine ⟨_,_,_,rfl,rfl,k2, .inr ⟨b,o,by simp [Loc.addr,k1],fun i hi=>?_⟩⟩
   obtain ⟨ds,q1,q2,q3⟩:=k3 i hi
   refine ⟨ds,q1,f7 ht _ q2,fun j hj=>⟨q3 j hj,fun hm=>?_⟩⟩
   rcases hm with hm | hm
   · have hlt:=gx hi hj
     cases z with
     | true=>
       refine k5 rfl (i * e.size + j) hlt (.inl ?_)
       rw [hF,← Nat.add_assoc];exact hm
     | false=>
       refine hR'.fo b (o + i * e.size + j) ⟨0,_,g1,⟨o,k1,by omega,?_⟩⟩ hm
       simp only [ext,Bool.false_eq_true,if_false]
       have: l.length * e.size≤lc.cap * e.size:=Nat.mul_le_mul_right _ k2
       omega
   · exact hmO _ _ hm
end Go.Proofs.YtgknmoadpgpdeaaGreatDoor.Ev
