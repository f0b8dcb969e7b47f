/- The texts EvX, EvC, Lp, Ev30, Lw, Ext0, ExtH, one behind the other. -/
import Derived.Test.YtihabpimbfmhhaaGreatDoorK3
import Derived.Test.YtihabpimbfmhhaaGreatDoorK12
import Derived.Lib.ItoaMem
import Derived.Below
namespace Go.Proofs.YtihabpimbfmhhaaGreatDoor.Ev
open Go Go.RowKit
noncomputable def mA (s:String):Nat:=((Tryz.prog.globalNamed s).map (· +1)).getD 0
noncomputable def gN:Nat:=max (max (mA "internal/strconv.uint64pow10") (mA "internal/bytealg.MaxLen")) (max (mA "strconv.ErrSyntax") (mA "strconv.ErrRange"))
def kO (w:World):Prop:=Lib.TabIs Tryz.prog w "internal/strconv.uint64pow10" .u64 Lib.pow10Tab
def Ik (w:World):Prop:= ∀g,Tryz.prog.globalNamed "internal/bytealg.MaxLen" =some g→ ∃m,w.cell? ⟨g,0,none⟩=some (.int .i64 m)
def wm (n:String) (w:World):Prop:= ∀g,Tryz.prog.globalNamed n=some g→ ∃tp p,w.cell? ⟨g,0,none⟩=some (.iface tp p)
def UX (w:World):Prop:=wm "strconv.ErrSyntax" w∧wm "strconv.ErrRange" w
def RR (w:World):Prop:=(Tryz.prog.globalNamed "internal/strconv.uint64pow10" =none∨kO w)∧Ik w∧UX w
theorem uf {s:String} {g:Nat} (h:Tryz.prog.globalNamed s=some g):g<mA s:=by
 unfold mA;rw [h];exact Nat.lt_succ_self g
theorem Cu {g:Nat} (h:Tryz.prog.globalNamed "internal/strconv.uint64pow10" =some g):g<gN:=Nat.lt_of_lt_of_le (uf h) (Nat.le_trans (Nat.le_max_left ..) (Nat.le_max_left ..))
theorem Il {g:Nat} (h:Tryz.prog.globalNamed "internal/bytealg.MaxLen" =some g):g<gN:=Nat.lt_of_lt_of_le (uf h) (Nat.le_trans (Nat.le_max_right ..) (Nat.le_max_left ..))
theorem Im {g:Nat} (h:Tryz.prog.globalNamed "strconv.ErrSyntax" =some g):g<gN:=Nat.lt_of_lt_of_le (uf h) (Nat.le_trans (Nat.le_max_left ..) (Nat.le_max_right ..))
theorem Io {g:Nat} (h:Tryz.prog.globalNamed "strconv.ErrRange" =some g):g<gN:=Nat.lt_of_lt_of_le (uf h) (Nat.le_trans (Nat.le_max_right ..) (Nat.le_max_right ..))
theorem RS {w:World} (h:Tryz.prog.globalNamed "internal/strconv.uint64pow10" =none∨kO w):mA "internal/strconv.uint64pow10" ≤w.heap.size:=by
 unfold mA
 cases hg:Tryz.prog.globalNamed "internal/strconv.uint64pow10" with
 |none=>exact Nat.zero_le _
 |some g=>
  rcases h with h|h
  ·rw [hg]at h;cases h
  unfold kO Lib.TabIs World.var? at h
  rw [hg]at h
  simp only [Option.bind_some]at h
  show g+1≤w.heap.size
  rcases Nat.lt_or_ge g w.heap.size with h'|h'
  ·exact h'
  ·rw [Array.getElem?_eq_none h']at h;cases h
theorem max_le {w:World} (h:Ik w):mA "internal/bytealg.MaxLen" ≤w.heap.size:=by
 unfold mA
 cases hg:Tryz.prog.globalNamed "internal/bytealg.MaxLen" with
 |none=>exact Nat.zero_le _
 |some g=>
  obtain⟨m,hm⟩:=h g hg
  exact World.block_lt_of_cell? w ⟨g,0,none⟩ hm
theorem OX {n:String} {w:World} (h:wm n w):mA n≤w.heap.size:=by
 unfold mA
 cases hg:Tryz.prog.globalNamed n with
 |none=>exact Nat.zero_le _
 |some g=>
  obtain⟨m,p,hm⟩:=h g hg
  exact World.block_lt_of_cell? w ⟨g,0,none⟩ hm
theorem Qo {w:World} (h:RR w):gN≤w.heap.size:=Nat.max_le.2 ⟨Nat.max_le.2 ⟨RS h.1,max_le h.2.1⟩,Nat.max_le.2 ⟨OX h.2.2.1,OX h.2.2.2⟩⟩
theorem wn {n:String} {w w':World} {N:Nat→Nat→Prop} (hf:Fr w N w') (hs:gN≤w.heap.size) (hn: ∀b o,b<gN→ ¬N b o) (hl: ∀g,Tryz.prog.globalNamed n=some g→g<gN) (h:wm n w):wm n w':=fun g hg=>by
 obtain⟨m,p,hm⟩:=h g hg
 have hlt:=hl g hg
 exact⟨m,p,(hf.cel g 0 (Nat.lt_of_lt_of_le hlt hs) (hn g 0 hlt)).trans hm⟩
theorem Ft (w w':World) (N:Nat→Nat→Prop) (hf:Fr w N w') (hs:gN≤w.heap.size) (hn: ∀b o,b<gN→ ¬N b o) (h:RR w):RR w':=by
 refine⟨?_,fun g hg=> ?_,wn hf hs hn (fun g hg=>Im hg) h.2.2.1,wn hf hs hn (fun g hg=>Io hg) h.2.2.2⟩
 ·rcases h.1 with h|h
  ·exact .inl h
  ·right
   unfold kO Lib.TabIs World.var? at *
   cases hg:Tryz.prog.globalNamed "internal/strconv.uint64pow10" with
   |none=>rw [hg]at h;cases h
   |some g=>
    have hlt:=Cu hg
    rw [hg]at h
    simp only [Option.bind_some]at h⊢
    rw [hf.blk g (Nat.lt_of_lt_of_le hlt hs) fun o=>hn g o hlt]
    exact h
 ·obtain⟨m,hm⟩:=h.2.1 g hg
  have hlt:=Il hg
  exact⟨m,(hf.cel g 0 (Nat.lt_of_lt_of_le hlt hs) (hn g 0 hlt)).trans hm⟩
noncomputable def Kx:Ctx:=ctx Tryz.prog tab RR gN
theorem RT:(tab.map fun p=>P8 Tryz.prog p.1)=tab.map fun p=>HG p.2:=by kernel_rfl
theorem RU:(tab.all fun p=>io tab p.2)=true:=by kernel_rfl
theorem RV:Tryz.prog.follows .mixedOrders=true:=by kernel_rfl
theorem RW:(tab.all fun p=> !p.2.flat||HH Tryz.prog p.1 p.2.cts)=true:=by kernel_rfl
theorem RX:(tab.all fun p=>HE p.1 p.2.cts)=true:=by kernel_rfl
theorem RY:(tab.all fun p=>HF p.2)=true:=by kernel_rfl
theorem KOk:Kx.Ok:=RA RT RU RV RW RX RY Ft
end Go.Proofs.YtihabpimbfmhhaaGreatDoor.Ev
namespace Go.Proofs.YtihabpimbfmhhaaGreatDoor.Ev
open Go Go.RowKit
noncomputable section
theorem Sound.of {K:Ctx} {fn:Nat} {φ ψ:List AV→List Ob→Br} (h:Sound K fn φ) (he: ∀args objs r,(ψ args objs).val=some r→(φ args objs).val=some r):Sound K fn ψ:=
 fun args objs res os hv=>h args objs res os (he args objs _ hv)
def noS:cy:=fun _ _ _=>.fail
theorem ug (K:Ctx) (fn:Nat):Sound K fn (fun _ _=>.fail):=fun args objs res os h=>by cases h
def add (C:cy) (k:Nat) (φ:List AV→List Ob→Br):cy:=fun fn=>if fn=k then φ else C fn
theorem jD {K:Ctx} {C:cy} (hC: ∀fn,Sound K fn (C fn)) {k:Nat} {φ:List AV→List Ob→Br} (h:Sound K k φ): ∀fn,Sound K fn (add C k φ fn):=by
 intro fn
 unfold add
 split
 ·rename_i e;subst e;exact h
 ·exact hC fn
end
end Go.Proofs.YtihabpimbfmhhaaGreatDoor.Ev
namespace Go.Proofs.YtihabpimbfmhhaaGreatDoor.Ev
open Go Go.RowKit
set_option linter.unusedVariables false
set_option linter.unusedSimpArgs false
abbrev Rs:=AV×List Ob
abbrev OR' := Option Rs
abbrev aa:=List UInt8
theorem w64 {n:Int} (h1: -9223372036854775808≤n) (h2:n≤9223372036854775807):ac n=n:=by rw [Hv];unfold wrap64;omega
theorem w8 {n:Int} (h1:0≤n) (h2:n<256):wk8 n=n:=by rw [OH];omega
theorem bh {m n:Nat} (h:m<n): ∃k,n=k+1:=⟨n-1,by omega⟩
theorem af {b:Bool} {x y:Br} {r:Rs} (h:(Br.ite b x y).val=some r) (hy:y= .fail:=by rfl):b=true∧x.val=some r:=by
 subst hy;cases b
 ·cases h
 ·exact⟨rfl,h⟩
theorem aR {b:Bool} {x y:Br} (h:b=true):(Br.ite b x y).val=x.val:=by rw [h];rfl
theorem bl {b:Bool} {x y:Br} (h:b=false):(Br.ite b x y).val=y.val:=by rw [h];rfl
theorem Ip (r:AV) (os:List Ob):(Br.ret r os).val=some (r,os):=rfl
def by8 (c:UInt8):Int:=(c.toNat:Int)
theorem Cw (c:UInt8):0≤by8 c:=by unfold by8;omega
theorem Cx (c:UInt8):by8 c<256:=by unfold by8;have:=c.toNat_lt;omega
theorem Ao {a b:UInt8} (h:by8 a=by8 b):a=b:=by
 apply UInt8.toNat_inj.1;unfold by8 at h;omega
def At {α:Type} (l:List α) (i:Int) (r:List α):Prop:= ∃p,l=p++r∧i=(p.length:Int)
namespace At
variable {α:Type} {l r:List α} {i:Int} {a:α}
theorem start (l:List α):At l 0 l:=⟨[],rfl,rfl⟩
theorem nn (h:At l i r):0≤i:=by obtain⟨p,_,rfl⟩:=h;omega
theorem le (h:At l i r):i+r.length=l.length:=by obtain⟨p,rfl,rfl⟩:=h;simp
theorem ge (h:At l i ([]:List α)):i=l.length:=by have:=h.le;simp at this;omega
theorem lt (h:At l i (a::r)):i<l.length:=by have:=h.le;simp at this;omega
theorem step (h:At l i (a::r)):At l (i+1) r:=by
 obtain⟨p,rfl,rfl⟩:=h;exact⟨p++[a],by simp,by simp⟩
theorem get (h:At l i (a::r)) (d:α):l.getD i.toNat d=a:=by
 obtain⟨p,rfl,rfl⟩:=h;simp [List.getD_eq_getElem?_getD]
theorem dnn (h:At l i r):decide (0≤i)=true:=dT' h.nn
theorem dlt (h:At l i (a::r)):decide (i< (l.length:Int))=true:=dT' h.lt
theorem dge (h:At l i ([]:List α)):decide (i< (l.length:Int))=false:=by rw [h.ge];simp
theorem next (h:At l i (a::r)) (hl:l.length≤4611686018427387904):ac (i+1)=i+1:=by
 have:=h.nn;have:=h.lt;exact w64 (by omega) (by omega)
theorem drop (h:At l i r):l.drop i.toNat=r:=by obtain⟨p,rfl,rfl⟩:=h;simp
theorem take (h:At l i r):l.take i.toNat++r=l:=by obtain⟨p,rfl,rfl⟩:=h;simp
end At
theorem At.str {s r:aa} {c:UInt8} {i:Int} (h:At s i (c::r)):au s i=by8 c:=by
 unfold au by8;rw [h.get]
theorem Cy {α:Type} (pre:List α) (a:α) (r:List α) (d:α):(pre++a::r).getD pre.length d=a:=by simp [List.getD_eq_getElem?_getD]
theorem iM {α:Type} (pre:List α) (a b:α) (r:List α):(pre++a::r).set pre.length b=pre++b::r:=by simp
theorem Iq {α:Type} (pre:List α) (a:α) (r:List α):pre++a::r=(pre++[a])++r:=by simp
theorem n8 (l:List UInt8):bx (bytesOf l)=l:=by
 unfold bx bytesOf
 rw [List.map_map]
 conv=>rhs;rw [←List.map_id l]
 apply List.map_congr_left
 intro c _
 simp
end Go.Proofs.YtihabpimbfmhhaaGreatDoor.Ev
namespace Go.Proofs.YtihabpimbfmhhaaGreatDoor.Ev
open Go Go.RowKit
noncomputable section
set_option linter.unusedSimpArgs false
set_option linter.unusedVariables false
inductive P1 where
 |i (k:IntKind)|b|s|sh (e:Ty)
 |u|nil (e:Ty)|mp (o:Nat)|ref (o v:Nat)|ptr (o f:Nat)|nilp|fn (f:Nat) (l:List (Nat×Nat))|nilfn|noerr|err|bz (t:Nat)
abbrev P1.D:P1→Type
 | .i _=>Int
 | .b=>Bool
 | .s=>List UInt8
 | .sh e=>List (Den e)
 |_=>Unit
def P1.pk:(p:P1)→p.D→AV
 | .i k,n=>.int k n
 | .b,x=>.bool x
 | .s,x=>.str x
 | .sh e,l=>.sh e l
 | .u,_=>.undef
 | .nil e,_=>.nil e
 | .mp o,_=>.mp o
 | .ref o v,_=>.ref o v
 | .ptr o f,_=>.ptr o f
 | .nilp,_=>.nilp
 | .fn f l,_=>.fn f (l.map fun q=>.ptr q.1 q.2)
 | .nilfn,_=>.nilfn
 | .noerr,_=>.noerr
 | .err,_=>.err
 | .bz t,_=>.bz t
def Cz:List AV→Option (List (Nat×Nat))
 | []=>some []
 | .ptr o f::l=>match Cz l with|some q=>some ((o,f)::q)|none=>none
 |_=>none
theorem wo: ∀(l:List AV) {q:List (Nat×Nat)},Cz l=some q→l=q.map fun x=>.ptr x.1 x.2
 | [],q,h=>by cases h;rfl
 |a::l,q,h=>by
  cases a<;>simp only [Cz]at h<;>try cases h
  split at h
  ·rename_i q' hq;cases h;rw [wo l hq];rfl
  ·cases h
def P1.un:(p:P1)→AV→Option p.D
 | .i k,.int k' n=>if k=k' then some n else none
 | .b,.bool x=>some x
 | .s,.str x=>some x
 | .sh e,.sh e' l=>if h:e'=e then some (h▸l)else none
 | .u,.undef=>some ()
 | .nil e,.nil e'=>if e=e' then some ()else none
 | .mp o,.mp o'=>if o=o' then some ()else none
 | .ref o v,.ref o' v'=>if o=o'∧v=v' then some ()else none
 | .ptr o f,.ptr o' f'=>if o=o'∧f=f' then some ()else none
 | .nilp,.nilp=>some ()
 | .fn f l,.fn f' l'=>match Cz l' with|some q=>if f=f'∧l=q then some ()else none|none=>none
 | .nilfn,.nilfn=>some ()
 | .noerr,.noerr=>some ()
 | .err,.err=>some ()
 | .bz t,.bz t'=>if t=t' then some ()else none
 |_,_=>none
theorem P1.un_pk: ∀(p:P1) {a:AV} {d:p.D},p.un a=some d→a=p.pk d:=by
 intro p a d h
 cases p<;>cases a<;>simp only [P1.un]at h<;>first|(cases h;done)|(cases h;rfl)|skip
 all_goals
  first
  |(split at h
    ·rename_i e;first|(obtain⟨rfl,rfl⟩:=e;cases h;rfl)|(subst e;cases h;rfl)
    ·cases h)
  |(split at h
    ·rename_i q hq
     split at h
     ·rename_i e;obtain⟨rfl,rfl⟩:=e;rw [wo _ hq];rfl
     ·cases h
    ·cases h)
abbrev Ps.D:List P1→Type
 | []=>Unit
 |p::l=>p.D×Ps.D l
def Ps.pk:(l:List P1)→Ps.D l→List AV
 | [],_=>[]
 |p::l,d=>p.pk d.1::Ps.pk l d.2
def Ps.un:(l:List P1)→List AV→Option (Ps.D l)
 | [],[]=>some ()
 |p::l,a::az=>match p.un a,Ps.un l az with|some x,some y=>some (x,y)|_,_=>none
 |_,_=>none
theorem Ps.un_pk: ∀(l:List P1) {a:List AV} {d:Ps.D l},Ps.un l a=some d→a=Ps.pk l d
 | [],a,d,h=>by cases a<;>simp [Ps.un]at h;rfl
 |p::l,[],d,h=>by simp [Ps.un]at h
 |p::l,a::az,d,h=>by
  simp only [Ps.un]at h
  split at h
  ·rename_i x y hx hy;cases h;rw [p.un_pk hx,Ps.un_pk l hy];rfl
  ·cases h
inductive PV where
 |v (p:P1)|agg (l:List P1)
abbrev PV.D:PV→Type
 | .v p=>p.D
 | .agg l=>Ps.D l
def PV.pk:(p:PV)→p.D→AV
 | .v p,d=>p.pk d
 | .agg l,d=>.agg (Ps.pk l d)
def PV.un:(p:PV)→AV→Option p.D
 | .v p,a=>p.un a
 | .agg l,.agg vs=>Ps.un l vs
 |_,_=>none
theorem PV.un_pk: ∀(p:PV) {a:AV} {d:p.D},p.un a=some d→a=p.pk d
 | .v p,a,d,h=>p.un_pk h
 | .agg l,a,d,h=>by cases a<;>simp only [PV.un]at h<;>first|(cases h;done)|(rw [Ps.un_pk l h];rfl)
abbrev PVs.D:List PV→Type
 | []=>Unit
 |p::l=>p.D×PVs.D l
def PVs.pk:(l:List PV)→PVs.D l→List AV
 | [],_=>[]
 |p::l,d=>p.pk d.1::PVs.pk l d.2
def PVs.un:(l:List PV)→List AV→Option (PVs.D l)
 | [],[]=>some ()
 |p::l,a::az=>match p.un a,PVs.un l az with|some x,some y=>some (x,y)|_,_=>none
 |_,_=>none
theorem PVs.un_pk: ∀(l:List PV) {a:List AV} {d:PVs.D l},PVs.un l a=some d→a=PVs.pk l d
 | [],a,d,h=>by cases a<;>simp [PVs.un]at h;rfl
 |p::l,[],d,h=>by simp [PVs.un]at h
 |p::l,a::az,d,h=>by
  simp only [PVs.un]at h
  split at h
  ·rename_i x y hx hy;cases h;rw [p.un_pk hx,PVs.un_pk l hy];rfl
  ·cases h
inductive PO where
 |var (l:List P1)|arr (e:Ty) (v:Nat) (f:Bool)|map (kt vt:Ty) (ag:Bool)
abbrev PO.D:PO→Type
 | .var l=>Ps.D l
 | .arr e _ _=>List (Den e)
 | .map kt vt _=>List (Den kt×Den vt)
def PO.pk:(p:PO)→p.D→Ob
 | .var l,d=>.var (Ps.pk l d)
 | .arr e v f,d=>.arr e v f d
 | .map kt vt ag,d=>.map kt vt ag d
def PO.un:(p:PO)→Ob→Option p.D
 | .var l,.var cs=>Ps.un l cs
 | .arr e v f,.arr e' v' f' l=>if h:e'=e∧v=v'∧f=f' then some (h.1▸l)else none
 | .map kt vt ag,.map kt' vt' ag' l=>if h:kt'=kt∧vt'=vt∧ag'=ag then some (h.1▸h.2.1▸l)else none
 |_,_=>none
theorem PO.un_pk: ∀(p:PO) {a:Ob} {d:p.D},p.un a=some d→a=p.pk d
 | .var l,a,d,h=>by cases a<;>simp only [PO.un]at h<;>first|(cases h;done)|(rw [Ps.un_pk l h];rfl)
 | .arr e v f,a,d,h=>by
   cases a<;>simp only [PO.un]at h<;>first|(cases h;done)|skip
   split at h
   ·rename_i e;obtain⟨rfl,rfl,rfl⟩:=e;cases h;rfl
   ·cases h
 | .map kt vt ag,a,d,h=>by
   cases a<;>simp only [PO.un]at h<;>first|(cases h;done)|skip
   split at h
   ·rename_i e;obtain⟨rfl,rfl,rfl⟩:=e;cases h;rfl
   ·cases h
abbrev POs.D:List (Nat×PO)→Type
 | []=>Unit
 |p::l=>p.2.D×POs.D l
def POs.pk:(l:List (Nat×PO))→POs.D l→List (Nat×Ob)
 | [],_=>[]
 |p::l,d=>(p.1,p.2.pk d.1)::POs.pk l d.2
def POs.un:(l:List (Nat×PO))→List (Nat×Ob)→Option (POs.D l)
 | [],[]=>some ()
 |p::l,a::az=>if p.1=a.1 then(match p.2.un a.2,POs.un l az with|some x,some y=>some (x,y)|_,_=>none)else none
 |_,_=>none
theorem POs.un_pk: ∀(l:List (Nat×PO)) {a:List (Nat×Ob)} {d:POs.D l},POs.un l a=some d→a=POs.pk l d
 | [],a,d,h=>by cases a<;>simp [POs.un]at h;rfl
 |p::l,[],d,h=>by simp [POs.un]at h
 |p::l,(k,o)::az,d,h=>by
  simp only [POs.un]at h
  split at h
  ·rename_i e
   split at h
   ·rename_i x y hx hy;cases h;rw [POs.un_pk l hy];simp only [POs.pk];rw [←e,←p.2.un_pk hx]
   ·cases h
  ·cases h
structure SP where
 n:Nat
 ks:List Nat
 vs:List PV
 os:List (Nat×PO)
abbrev SP.D (p:SP):Type:=PVs.D p.vs×POs.D p.os
def SP.pk (p:SP) (d:p.D):St:=⟨aw 0 p.n (p.ks.zip (PVs.pk p.vs d.1)),POs.pk p.os d.2⟩
def SP.un (p:SP) (s:St):Option p.D:=
 match mz p.ks 0 p.n s.env with
 |some vs=>(match PVs.un p.vs vs,POs.un p.os s.objs with|some x,some y=>some (x,y)|_,_=>none)
 |none=>none
theorem SP.un_pk (p:SP) {s:St} {d:p.D} (h:p.un s=some d):s=p.pk d:=by
 obtain⟨env,objs⟩:=s
 unfold SP.un at h
 split at h
 ·rename_i vs hv
  split at h
  ·rename_i x y hx hy
   cases h
   have e1:=fx _ _ _ _ hv
   have e2:=PVs.un_pk _ hx
   have e3:=POs.un_pk _ hy
   simp only at e1 e3
   subst e2 e1 e3
   rfl
  ·cases h
 ·cases h
abbrev KT:=Ex→St→OR'
structure LD where
 id:Nat
 p:SP
 G:p.D→KT→OR'
def bf:List LD→Lam
 | [],_,_,_=>none
 |l::r,j,st,k=>if j=l.id then(match l.p.un st with|some d=>l.G d k|none=>none)else bf r j st k
theorem okL {K:Ctx} {C:cy} {O:Opt} {m N:Nat} {Λ:Lam} {b:Code} (p:SP) (G:Nat→p.D→KT→OR') (T:p.D→(p.D→OR')→KT→OR')
 (h0: ∀d k,G 0 d k=none) (hs: ∀n d k,G (n+1) d k=T d (fun d'=>G n d' k) k)
 (hl: ∀s k,Λ (lid b) s k=match p.un s with|some d=>G N d k|none=>none)
 (hr: ∀again k w d,OW m (fun st k=>evL K C O m Λ b st k) (p.pk w).env again (p.pk d) (Hr O m b k)=T d (fun d'=>again (p.pk d')) k)
 (hi: ∀x∈loops b,OkL K C O m N Λ x):OkL K C O m N Λ b:=by
 intro s k k' r hk h
 rw [hl]at h
 split at h
 ·rename_i d hd
  have:=p.un_pk hd
  subst this
  have key: ∀n e,iF m (fun st k=>evL K C O m Λ b st k) (p.pk d).env n (p.pk e) (Hr O m b k)=G n e k:=by
   intro n;induction n with
   |zero=>intro e;rw [h0];rfl
   |succ n ih=>
    intro e
    rw [Fq,hr,hs]
    congr 1
    funext d'
    exact ih d'
  exact T9 (Λ:=Λ) b hi N hk ((key N d).trans h)
 ·cases h
def Ua {α:Type} (P:α→Prop):List α→Prop
 | []=>True
 |a::l=>P a∧Ua P l
theorem OY {α:Type} {P:α→Prop}: ∀{l:List α},Ua P l→ ∀x∈l,P x
 | [],_,x,h=>by cases h
 |a::l,h,x,hx=>by
  rcases List.mem_cons.1 hx with rfl|hx
  ·exact h.1
  ·exact OY h.2 x hx
theorem ah {α:Type} {P:α→Prop} {l l':List α} (e:l=l') (h:Ua P l'): ∀x∈l,P x:=by subst e;exact OY h
structure SC1 where
 fn:Nat
 s:List AV→List Ob→Br
 ok:Sound Kx fn s
abbrev SC:=List SC1
def SC.s:SC→cy
 | []=>noS
 |c::l=>add (SC.s l) c.fn c.s
theorem SC.ok: ∀(l:SC) (fn:Nat),Sound Kx fn (l.s fn)
 | [],fn=>ug Kx fn
 |c::l,fn=>jD (SC.ok l) c.ok fn
def O0:Opt:={}
theorem ae {C:SC} {O:Opt} {fn:Nat} {f:Func} {s:List AV→List Ob→Br} (hf:Kx.P.funcs[fn]? =some f) (hn:(f.name== "runtime.NumGoroutine")=false)
 (h: ∀args objs,s args objs= .fail∨OM Kx C.s O 1 f args objs=(s args objs).val):Sound Kx fn s:=by
 refine n6 (C:=C.s) (O:=O) KOk C.ok hf hn fun args objs res os hv=> ?_
 rcases h args objs with e|e
 ·rw [e]at hv;cases hv
 ·exact⟨1,e.trans hv⟩
theorem aj {C:SC} {O:Opt} {fn:Nat} {f:Func} {s:List AV→List Ob→Br} (hf:Kx.P.funcs[fn]? =some f) (hn:(f.name== "runtime.NumGoroutine")=false)
 (h: ∀args objs,s args objs= .fail∨ ∀res,(s args objs).val=some res→ ∃n,OM Kx C.s O n f args objs=some res):Sound Kx fn s:=by
 refine n6 (C:=C.s) (O:=O) KOk C.ok hf hn fun args objs res os hv=> ?_
 rcases h args objs with e|e
 ·rw [e]at hv;cases hv
 ·exact e _ hv
theorem aO {C:SC} {O:Opt} {n:Nat} {f:Func} {Λ:Lam} {args:List AV} {objs:List Ob} {r:Rs} {x:OR'} (hb:f.body=some (aD f)) (hΛ: ∀b∈loops (aD f),OkL Kx C.s O objs.length n Λ b)
 (he:T_ Kx C.s O Λ f args objs=x) (h:x=some r): ∃n,OM Kx C.s O n f args objs=some r:=⟨n,Ij hb hΛ (he.trans h)⟩
def Fu (n lo hi:Int):Br:=(Br.ite (decide (lo≤n)) (Br.ret (AV.bool (decide (n≤hi))) []) (Br.ret (AV.bool false) []))
def wq:List AV→List Ob→Br
 | [.int .i64 n,.int .i64 lo,.int .i64 hi],[]=>Fu n lo hi
 |_,_=>.fail
theorem cm:Sound Kx 124 wq:=ae (C:=[]) (O:=O0) Tryz.func124 (by kernel_rfl) fun args objs=>by
 unfold wq;split
 ·exact .inr (by kernel_rfl)
 ·exact .inl rfl
end
end Go.Proofs.YtihabpimbfmhhaaGreatDoor.Ev
namespace Go.Proofs.YtihabpimbfmhhaaGreatDoor.Ev
open Go Go.RowKit
set_option linter.unusedVariables false
set_option linter.unusedSimpArgs false
theorem uh {w w':World} {N:Nat→Nat→Prop} (h:Below w.heap.size w w'):Fr w N w' where
 os:=h.os
 tape:=h.tape
 output:=h.output
 size:=h.size
 blk:=fun b hb _=>h.block b hb
 cel:=fun b o hb _=>h.cell (p:=⟨b,o,none⟩) hb
 frz:=fun b o hb _=>h.frozen (p:=⟨b,o,none⟩) hb
 shp:=fun b hb=>by simp only [World.shape?,h.block b hb]
theorem M4 {w w':World} {M:Nat→Nat→Prop} (h:Below w.heap.size w w'):Tr w M w' M:=by
 intro b o v hm hv
 exact⟨hm,(h.cell (p:=⟨b,o,none⟩) (World.block_lt_of_cell? w ⟨b,o,none⟩ hv)).trans hv⟩
theorem Fv {K:Ctx} {L:Lk} {w w':World} (h:RelO K w ⟨eq L,L.F⟩ L w) (hb:Below w.heap.size w w') (hg:K.G w→K.G w'):RelO K w ⟨eq L,L.F⟩ L w' where
 fr:=uh hb
 ok:=fun i p hp=>ON (Turn.refl L) (M4 hb) (fun b o hr=>by
  have hlt:=ew (h.ok i p hp) hr
  exact⟨hb.cell (p:=⟨b,o,none⟩) hlt,hb.frozen (p:=⟨b,o,none⟩) hlt⟩) (fun b s h=>by simpa only [World.shape?,hb.block b (mH h)]using h) (fun _ b o hr=>hb.block b (ew (h.ok i p hp) hr)) (h.ok i p hp)
 sep:=h.sep
 own:=h.own
 ff:=h.ff
 fs:=h.fs
 fo:=h.fo
 g:=hg h.g
 gs:=Nat.le_trans h.gs hb.size
 gb:=h.gb
theorem bU {fn:Nat} {f:Func} {c:Code} (hf:Kx.P.funcs[fn]? =some f) (hname:(f.name== "runtime.NumGoroutine")=false) (hb:f.body=some c) {φ:List AV→List Ob→Br}
 (h: ∀args objs res objs',(φ args objs).val=some (res,objs')→ ∀(w:World) (L:Lk) (vs:List Value),RelO Kx w ⟨eq L,L.F⟩ L w→aK L w (Mut L) args vs→
  objs'=objs∧Calls Kx.P fn vs.toArray w fun e w'=> ∃v,e= .returned v∧Below w.heap.size w w'∧rel L w' (Mut L) res v):Sound Kx fn φ:=by
 intro args objs res objs' hv w L vs hR ho hr
 obtain⟨rfl,hc⟩:=h _ _ _ _ hv w L vs hR hr
 refine .inl ⟨Calls.mono hc ?_,f,c,hf,hname,hb⟩
 rintro e w' ⟨v,rfl,hb',hv'⟩
 exact⟨L,Fv hR hb' (fun hg=>KOk.gst _ _ (fun _ _=>False) (uh hb') hR.gs (fun _ _ _ h=>h) hg),ho,Kept.refl _ _,hv'⟩
end Go.Proofs.YtihabpimbfmhhaaGreatDoor.Ev
namespace Go.Proofs.YtihabpimbfmhhaaGreatDoor.Ev
open Go Go.RowKit
set_option linter.unusedVariables false
set_option linter.unusedSimpArgs false
theorem Ir {P:Program} {fn:Nat} {vs:Array Value} {w:World} {p q:Value→World→Prop} (h:Goes P fn vs w p) (hpq: ∀v w',p v w'→q v w'):Goes P fn vs w q:=by
 rcases h with⟨h1,h2⟩|⟨v,w',h1,h2⟩
 ·refine .inl ⟨Calls.mono h1 fun e w' he=> ?_,h2⟩
  cases e with
  |returned v=>exact hpq v w' he
  |panicked c=>exact he
  |outgrown=>exact he
 ·exact .inr ⟨v,w',h1,hpq v w' h2⟩
theorem M5 {fn:Nat} {φ ψ:List AV→List Ob→Br} (hS:Sound Kx fn φ)
 (h: ∀args objs res objs',(ψ args objs).val=some (res,objs')→objs=[]∧objs'=[]∧ ∃e l,res= .sh e l∧((φ args []).val=some (.sh e l,[])∨ ∃ver z,(φ args []).val=some (.ref 0 ver,[.arr e ver z l]))):Sound Kx fn ψ:=by
 intro args objs res objs' hv w L vs hR ho hr
 obtain⟨rfl,rfl,e,l,rfl,h1⟩:=h _ _ _ _ hv
 rcases h1 with h1|⟨ver,z,h1⟩
 ·exact hS _ _ _ _ h1 w L vs hR ho hr
 have hno: ∀i,L i=none:=fun i=>by
  have:=ho i
  simp only [List.getElem?_nil]at this
  cases hL:L i with
  |none=>rfl
  |some p=>rw [hL]at this;cases this
 refine Ir (hS _ _ _ _ h1 w L vs hR ho hr) ?_
 rintro v w' ⟨L',hR',ho',hk,hv'⟩
 have hmO: ∀b o,¬eq L b o:=by
  rintro b o ⟨i,p,hp,_⟩
  rw [hno i]at hp;cases hp
 have hF:L'.F=L.F:=hR'.ff
 have ht:Tr w' (Mut L') w' (Mut L):=fun b o v hn hv=>⟨fun hm=>hn (by
  rcases hm with hm|hm
  ·left;rw [hF];exact hm
  ·exact absurd hm (hmO b o)),hv⟩
 refine⟨L,⟨hR'.fr,(fun i p hp=>by rw [hno i]at hp;cases hp),(fun i j p q b o hp=>by rw [hno i]at hp;cases hp),(fun b o hm=>absurd hm (hmO b o)),rfl,hR'.fs,(fun b o hm=>absurd hm (hmO b o)),hR'.g,hR'.gs,(fun b o hm=>absurd hm (hmO b o))⟩,fun i=> ?_,(fun i hi=>by cases hi), ?_⟩
 ·rw [hno i];rfl
 simp only [rel]at hv'⊢
 obtain⟨lc,e1,cur,z1,xs,p,n,c,g1,g2,rfl,g3⟩:=hv'
 have h0:=ho' 0
 rw [g1]at h0
 simp only [List.getElem?_cons_zero,Option.map_some,Option.some.injEq,Ob.arr.injEq]at h0
 obtain⟨rfl,rfl,rfl,h0⟩:=h0
 have h0:=eq_of_heq h0
 subst h0
 obtain⟨rfl,rfl,rfl⟩:=g3 rfl
 simp only [rd]
 rcases hR'.ok 0 _ g1 with⟨k1,k2,k3⟩|⟨b,o,k1,k2,k3,k4,k5,_⟩
 ·simp only at k1 k2 k3
  subst k2
  exact⟨_,_,_,rfl,rfl,Nat.zero_le _,.inl rfl⟩
 ·simp only at k1 k2
  refine⟨_,_,_,rfl,rfl,k2,.inr ⟨b,o,by simp [Loc.addr,k1],fun i hi=> ?_⟩⟩
  obtain⟨ds,q1,q2,q3⟩:=k3 i hi
  have hmz:Tr w' (Mz L' lc z e) w' (Mut L):=by
   cases hez:(z|| !e.hasSlice)with
   |true=>rw [f_ hez];exact ht
   |false=>
    obtain⟨rfl,he⟩:z=false∧e.hasSlice=true:=by cases z<;>cases hh:e.hasSlice<;>simp_all
    rw [iJ he]
    refine fun b' o' v hn hv=>⟨fun hm=> ?_,hv⟩
    rcases hm with hm|hm
    ·exact hR'.fo b' o' ⟨0,_,g1,.inr ⟨rfl,Classical.not_not.1 hn⟩⟩ hm
    ·exact hmO _ _ hm
  refine⟨ds,q1,fW hmz _ q2,fun j hj=>⟨q3 j hj,fun hm=> ?_⟩⟩
  rcases hm with hm|hm
  ·have hlt:=bY hi hj
   cases z with
   |true=>
    refine k5 rfl (i*e.size+j) hlt (.inl ?_)
    rw [hF,←Nat.add_assoc];exact hm
   |false=>
    refine hR'.fo b (o+i*e.size+j) ⟨0,_,g1,.inl ⟨o,k1,by omega, ?_⟩⟩ hm
    simp only [ext,Bool.false_eq_true,if_false]
    have:l.length*e.size≤lc.cap*e.size:=Nat.mul_le_mul_right _ k2
    omega
  ·exact hmO _ _ hm
end Go.Proofs.YtihabpimbfmhhaaGreatDoor.Ev
