/- The texts Ev2, Ev4, Ev5, Ev6, Ev7, one behind the other. -/
import Derived.Test.YtihabpimbfmhhaaGreatDoorK1
import Derived.Laws.StructEq
namespace Go.Proofs.YtihabpimbfmhhaaGreatDoor.Ev
open Go Go.RowKit
inductive Sm where
 |int (k:IntKind)|bool|str|slice (te:TypeId)|struct (fs:List (Nat×TypeId))|arr (n:Nat) (te:TypeId)|ptr|fn|map (k v:TypeId)|iface|other
def sm:TypeDesc→Sm
 | .int k=>.int k
 | .bool=>.bool
 | .string=>.str
 | .slice te=>.slice te
 | .struct fs=>.struct (fs.toList.map fun f=>(f.offset,f.type))
 | .array n te=>.arr n te
 | .pointer _=>.ptr
 | .func .. =>.fn
 | .map k v=>.map k v
 | .interface _=>.iface
 |_=>.other
def HE (t:Nat):List CT→Bool
 | .bptr u::_=>u==t
 |_=>true
structure Ent where
 sm:Sm
 size:Nat
 bytes:Nat
 cts:List CT
 ag:Bool
 el:Option (Ty×Nat)
 flat:Bool
def zv:CT→Value
 | .int k=>.int k 0
 | .bool=>.bool false
 | .str=>.string ⟨#[]⟩
 | .slice _=>.slice none 0 0
 | .ptr=>.pointer none
 | .fn=>.nilFunc
 | .map=>.map none
 | .iface=>.nilIface
 | .bptr _=>.pointer none
def jm (cts:List CT) (ag:Bool):Value:=
 match ag,cts with
 |true,_=>.agg (cts.map zv).toArray
 |false,c::_=>zv c
 |false,[]=>.agg #[]
def HF (e:Ent):Bool:=
 match e.sm,e.el with
 | .slice te,some (.int .u8,_)=>te==5
 |_,_=>true
def fX (t:TypeId):List (TypeId×Ent)→Option Ent
 | []=>none
 |(k,e)::l=>if k=t then some e else fX t l
def P8 (P:Program) (t:TypeId):Option (Nat×Nat×Option Value)×Option Sm:=
 ((P.info? t).map fun i=>(i.size,i.bytes,i.zero),(P.underlying t).map sm)
def HG (e:Ent):Option (Nat×Nat×Option Value)×Option Sm:=(some (e.size,e.bytes,some (jm e.cts e.ag)),some e.sm)
def vO (P:Program) (t:TypeId):CT→Bool
 | .int _=>match P.underlying t with|some (.int _)=>true|_=>false
 | .bool=>match P.underlying t with|some .bool=>true|_=>false
 | .str=>match P.underlying t with|some .string=>true|_=>false
 |_=>false
def Fa (P:Program):Nat→List Field→List CT→Bool
 |_,[],[]=>true
 |n,f::fs,c::cs=>(f.name != "_")&&(f.offset==n)&&vO P f.type c&&Fa P (n+1) fs cs
 |_,_,_=>false
def HH (P:Program) (t:TypeId) (cs:List CT):Bool:=
 (match P.underlying t with|some (.struct fs)=>Fa P 0 fs.toList cs|_=>false)&& !P.stoodInHeld t&& !P.eqGuardType P.depth t
def iI:Sm→Bool
 | .struct _=>true
 | .arr _ _=>true
 |_=>false
def HI:Sm→List CT→Bool
 | .int k,[.int k']=>decide (k=k')
 | .bool,[.bool]=>true
 | .str,[.str]=>true
 | .slice _,[.slice _]=>true
 | .ptr,[.ptr]=>true
 | .fn,[.fn]=>true
 | .map _ _,[.map]=>true
 | .iface,[.iface]=>true
 | .struct _,_=>true
 | .arr _ _,_=>true
 |_,_=>false
def Rt:Sm→Option Ty
 | .int k=>some (.int k)
 | .str=>some .str
 |_=>none
def io (tab:List (TypeId×Ent)) (e:Ent):Bool:=
 decide (e.size=e.cts.length)&&(e.ag==iI e.sm)&&HI e.sm e.cts&&
 match e.sm with
 | .slice te=>match e.el,fX te tab with
   |some (y,b),some f=>decide (f.cts=y.cts)&&decide (f.bytes=b)&&decide (e.cts=[.slice y])&&decide (0<f.size)&&decide (0<b)
   |_,_=>false
 | .struct fs=>fs.all fun p=>match fX p.2 tab with|some f=>decide (0<f.size)&&decide (p.1+f.size≤e.size)|none=>false
 | .arr n te=>match fX te tab with|some f=>decide (0<f.size)&&decide (n*f.size=e.size)|none=>false
 | .map _ tv=>match e.el with
   |some (y,_)=>(match fX tv tab with
    |some f=>decide (f.cts=y.cts)
    |none=>false)
   |none=>true
 |_=>true
def ctx (P:Program) (tab:List (TypeId×Ent)) (G:World→Prop) (g0:Nat):Ctx where
 P:=P
 G:=G
 g0:=g0
 flat t:=match fX t tab with|some e=>(match e.flat with|true=>some e.cts|false=>none)|none=>none
 lay t:=match fX t tab with|some e=>some (e.cts,e.ag)|none=>none
 fld s f:=match fX s tab with
  |some e=>match e.sm with| .struct fs=>fs[f]? |_=>none
  |none=>none
 elt t:=match fX t tab with
  |some e=>match e.sm,e.el with| .slice te,some (y,b)=>some (te,y,b)|_,_=>none
  |none=>none
 arr t:=match fX t tab with
  |some e=>match e.sm with| .arr n te=>some (n,te)|_=>none
  |none=>none
 mpt t:=match fX t tab with
  |some e=>match e.sm,e.el with
   | .map tk tv,some (y,_)=>(match fX tk tab,fX tv tab with
     |some g,some f=>(match Rt g.sm with|some kt=>some (tk,tv,kt,y,f.ag)|none=>none)
     |_,_=>none)
   |_,_=>none
  |none=>none
structure Ctx.Ok (K:Ctx):Prop where
 lay: ∀t cs ag,K.lay t=some (cs,ag)→ ∃i d,K.P.info? t=some i∧K.P.underlying t=some d∧i.size=cs.length∧i.zero=some (jm cs ag)∧iI (sm d)=ag∧HI (sm d) cs=true
 fld: ∀s f n t,K.fld s f=some (n,t)→ ∃fs fl,K.P.underlying s=some (.struct fs)∧fs[f]? =some fl∧fl.offset=n∧fl.type=t∧ ∃cs ag,K.lay t=some (cs,ag)∧0<cs.length
 elt: ∀t te e b,K.elt t=some (te,e,b)→K.P.underlying t=some (.slice te)∧(∃ag,K.lay te=some (e.cts,ag))∧0<e.size∧ ∃i,K.P.info? te=some i∧i.bytes=b∧0<b
 flds: ∀t fs,K.P.underlying t=some (.struct fs)→(∃cs ag,K.lay t=some (cs,ag))→ ∀f∈fs.toList,∃cs ag,K.lay f.type=some (cs,ag)
 arrs: ∀t n te,K.P.underlying t=some (.array n te)→(∃cs ag,K.lay t=some (cs,ag))→K.arr t=some (n,te)
 arr: ∀t n te,K.arr t=some (n,te)→K.P.underlying t=some (.array n te)∧ ∃cs ag,K.lay te=some (cs,ag)∧0<cs.length
 mpt: ∀t tk tv kt vt ag,K.mpt t=some (tk,tv,kt,vt,ag)→K.P.underlying t=some (.map tk tv)∧K.lay tv=some (vt.cts,ag)∧
  ((∃k,kt= .int k∧K.P.underlying tk=some (.int k))∨(kt= .str∧K.P.underlying tk=some .string))
 mixed:K.P.follows .mixedOrders=true
 flat: ∀t cs,K.flat t=some cs→HH K.P t cs=true
 u8: ∀t te b,K.elt t=some (te,.int .u8,b)→te=5
 bz: ∀t cs ag u r,K.lay t=some (cs,ag)→cs= .bptr u::r→u=t
 gst: ∀w w' N,Fr w N w'→K.g0≤w.heap.size→(∀b o,b<K.g0→ ¬N b o)→K.G w→K.G w'
theorem f9 {t:TypeId} {e:Ent}: ∀{tab:List (TypeId×Ent)},fX t tab=some e→(t,e)∈tab
 | [],h=>by simp [fX]at h
 |(k,x)::l,h=>by
  simp only [fX]at h
  split at h
  ·rename_i hk;cases h;subst hk;exact List.mem_cons_self ..
  ·exact List.mem_cons_of_mem _ (f9 h)
theorem q9 {α β:Type} {f g:α→β}: ∀{l:List α},l.map f=l.map g→ ∀x∈l,f x=g x
 |a::l,h,x,hx=>by
  simp only [List.map_cons,List.cons.injEq]at h
  cases hx with
  |head=>exact h.1
  |tail _ hx=>exact q9 h.2 x hx
theorem HJ {d:TypeDesc} {fs:List (Nat×TypeId)} (h:sm d= .struct fs): ∃gs,d= .struct gs∧fs=gs.toList.map fun f=>(f.offset,f.type):=by
 cases d<;>simp [sm]at h
 exact⟨_,rfl,h.symm⟩
theorem Ru {d:TypeDesc} {k v:TypeId} (h:sm d= .map k v):d= .map k v:=by cases d<;>simp_all [sm]
theorem Rv {d:TypeDesc} {k:IntKind} (h:sm d= .int k):d= .int k:=by cases d<;>simp_all [sm]
theorem Rw {d:TypeDesc} (h:sm d= .str):d= .string:=by cases d<;>simp_all [sm]
theorem ME {d:TypeDesc} {te:TypeId} (h:sm d= .slice te):d= .slice te:=by cases d<;>simp_all [sm]
theorem Ry {d:TypeDesc} {n:Nat} {te:TypeId} (h:sm d= .arr n te):d= .array n te:=by cases d<;>simp_all [sm]
theorem RA {P:Program} {tab:List (TypeId×Ent)} {G:World→Prop} {g0:Nat} (h:(tab.map fun p=>P8 P p.1)=tab.map fun p=>HG p.2) (hs:(tab.all fun p=>io tab p.2)=true) (hm:P.follows .mixedOrders=true) (hfl:(tab.all fun p=> !p.2.flat||HH P p.1 p.2.cts)=true) (hbz:(tab.all fun p=>HE p.1 p.2.cts)=true) (hu8:(tab.all fun p=>HF p.2)=true)
 (hg: ∀w w' N,Fr w N w'→g0≤w.heap.size→(∀b o,b<g0→ ¬N b o)→G w→G w'):(ctx P tab G g0).Ok:=by
 have base: ∀t e,fX t tab=some e→ ∃i d,P.info? t=some i∧P.underlying t=some d∧i.size=e.size∧i.bytes=e.bytes∧i.zero=some (jm e.cts e.ag)∧sm d=e.sm∧io tab e=true:=by
  intro t e ht
  have hmem:=f9 ht
  have hl:=q9 h _ hmem
  have hself:=List.all_eq_true.mp hs _ hmem
  simp only [P8,HG,Prod.mk.injEq]at hl
  obtain⟨h1,h2⟩:=hl
  cases hi:P.info? t with
  |none=>simp [hi]at h1
  |some i=>
   cases hd:P.underlying t with
   |none=>simp [hd]at h2
   |some d=>
    simp [hi]at h1
    simp [hd]at h2
    exact⟨i,d,rfl,rfl,h1.1,h1.2.1,h1.2.2,h2,hself⟩
 have lay: ∀t cs ag,(ctx P tab G g0).lay t=some (cs,ag)→ ∃e,fX t tab=some e∧cs=e.cts∧ag=e.ag:=by
  intro t cs ag hl
  simp only [ctx]at hl
  split at hl
  ·rename_i e he;simp only [Option.some.injEq,Prod.mk.injEq]at hl;exact⟨e,he,hl.1.symm,hl.2.symm⟩
  ·cases hl
 have self: ∀e,io tab e=true→e.size=e.cts.length∧e.ag=iI e.sm∧HI e.sm e.cts=true:=by
  intro e he
  simp only [io,Bool.and_eq_true,decide_eq_true_eq,beq_iff_eq]at he
  exact⟨he.1.1.1,he.1.1.2,he.1.2⟩
 refine⟨?_, ?_, ?_, ?_, ?_, ?_, ?_,hm, ?_, ?_, ?_,hg⟩
 ·intro t cs ag hl
  obtain⟨e,he,rfl,rfl⟩:=lay t cs ag hl
  obtain⟨i,d,h1,h2,h3,h4,h5,h6,h7⟩:=base t e he
  obtain⟨s1,s2,s3⟩:=self e h7
  exact⟨i,d,h1,h2,h3.trans s1,h5,by rw [h6,s2],by rw [h6];exact s3⟩
 ·intro s f n t hf
  simp only [ctx]at hf
  split at hf
  ·rename_i e he
   obtain⟨i,d,h1,h2,h3,h4,h5,h6,h7⟩:=base s e he
   split at hf
   ·rename_i fs hfs
    rw [hfs]at h6
    obtain⟨gs,rfl,rfl⟩:=HJ h6
    simp only [io,hfs,Bool.and_eq_true]at h7
    have hall:=List.all_eq_true.mp h7.2 (n,t) (List.mem_of_getElem? hf)
    simp only at hall
    rw [List.getElem?_map]at hf
    cases hg:gs.toList[f]? with
    |none=>simp [hg]at hf
    |some fl=>
     simp [hg]at hf
     refine⟨gs,fl,h2,by simpa using hg,hf.1,hf.2, ?_⟩
     split at hall
     ·rename_i e' he'
      simp only [Bool.and_eq_true,decide_eq_true_eq]at hall
      refine⟨e'.cts,e'.ag,by simp [ctx,he'], ?_⟩
      obtain⟨_,_,_,_,_,_,_,_,h7'⟩:=base t e' he'
      rw [←(self e' h7').1];exact hall.1
     ·cases hall
   ·cases hf
  ·cases hf
 ·intro t te e b hf
  simp only [ctx]at hf
  split at hf
  ·rename_i x he
   obtain⟨i,d,h1,h2,h3,h4,h5,h6,h7⟩:=base t x he
   split at hf
   ·rename_i te' y b' hsm hel
    simp only [Option.some.injEq,Prod.mk.injEq]at hf
    obtain⟨rfl,rfl,rfl⟩:=hf
    rw [hsm]at h6
    have:=ME h6
    subst this
    simp only [io,hsm,hel,Bool.and_eq_true]at h7
    refine⟨h2, ?_⟩
    have h8:=h7.2
    split at h8
    ·rename_i y' b'' f hf' hff
     simp only [Option.some.injEq,Prod.mk.injEq]at hf'
     obtain⟨rfl,rfl⟩:=hf'
     simp only [Bool.and_eq_true,decide_eq_true_eq]at h8
     obtain⟨i',d',g1,g2,g3,g4,g5,g6,g7⟩:=base _ f hff
     refine⟨⟨f.ag,by simp [ctx,hff,h8.1.1.1.1]⟩, ?_,i',g1,g4.trans h8.1.1.1.2,h8.2⟩
     rw [Ty.size,←h8.1.1.1.1,←(self f g7).1];exact h8.1.2
    ·cases h8
   ·cases hf
  ·cases hf
 ·intro t fs hu ⟨cs,ag,hl⟩ f hf
  obtain⟨e,he,rfl,rfl⟩:=lay t cs ag hl
  obtain⟨i,d,h1,h2,h3,h4,h5,h6,h7⟩:=base t e he
  have hu':P.underlying t=some (.struct fs):=hu
  rw [hu']at h2
  cases h2
  simp only [sm]at h6
  simp only [io,←h6,Bool.and_eq_true]at h7
  have hall:=List.all_eq_true.mp h7.2 (f.offset,f.type) (List.mem_map_of_mem hf)
  simp only at hall
  split at hall
  ·rename_i e' he'
   exact⟨e'.cts,e'.ag,by simp [ctx,he']⟩
  ·cases hall
 ·intro t n te hu ⟨cs,ag,hl⟩
  obtain⟨e,he,rfl,rfl⟩:=lay t cs ag hl
  obtain⟨i,d,h1,h2,h3,h4,h5,h6,h7⟩:=base t e he
  have hu':P.underlying t=some (.array n te):=hu
  rw [hu']at h2
  cases h2
  simp only [sm]at h6
  simp only [ctx,he,←h6]
 ·intro t n te hf
  simp only [ctx]at hf
  split at hf
  ·rename_i x he
   obtain⟨i,d,h1,h2,h3,h4,h5,h6,h7⟩:=base t x he
   split at hf
   ·rename_i n' te' hsm
    simp only [Option.some.injEq,Prod.mk.injEq]at hf
    obtain⟨rfl,rfl⟩:=hf
    rw [hsm]at h6
    have:=Ry h6
    subst this
    refine⟨h2, ?_⟩
    simp only [io,hsm,Bool.and_eq_true]at h7
    have h8:=h7.2
    split at h8
    ·rename_i f hff
     simp only [Bool.and_eq_true,decide_eq_true_eq]at h8
     obtain⟨i',d',g1,g2,g3,g4,g5,g6,g7⟩:=base _ f hff
     exact⟨f.cts,f.ag,by simp [ctx,hff],by rw [←(self f g7).1];exact h8.1⟩
    ·cases h8
   ·cases hf
  ·cases hf
 ·intro t tk tv kt vt ag hf
  simp only [ctx]at hf
  split at hf
  ·rename_i x he
   obtain⟨i,d,h1,h2,h3,h4,h5,h6,h7⟩:=base t x he
   split at hf
   ·rename_i tk' tv' y b' hsm hel
    split at hf
    ·rename_i g f hg' hf'
     split at hf
     ·rename_i kt' hk
      simp only [Option.some.injEq,Prod.mk.injEq]at hf
      obtain⟨rfl,rfl,rfl,rfl,rfl⟩:=hf
      rw [hsm]at h6
      have:=Ru h6
      subst this
      simp only [io,hsm,hel,hf',Bool.and_eq_true,decide_eq_true_eq]at h7
      refine⟨h2,by simp [ctx,hf',h7.2], ?_⟩
      obtain⟨i',d',g1,g2,g3,g4,g5,g6,g7⟩:=base _ g hg'
      cases hs':g.sm<;>rw [hs']at hk<;>simp only [Rt]at hk<;>cases hk
      ·rename_i k
       rw [hs']at g6
       exact .inl ⟨k,rfl,by rw [←Rv g6];exact g2⟩
      ·rw [hs']at g6
       exact .inr ⟨rfl,by rw [←Rw g6];exact g2⟩
     ·cases hf
    ·cases hf
   ·cases hf
  ·cases hf
 ·intro t cs hf
  simp only [ctx]at hf
  split at hf
  ·rename_i e he
   have:=List.all_eq_true.mp hfl _ (f9 he)
   split at hf
   ·rename_i hfe
    cases hf
    show HH P t e.cts=true
    simpa [hfe]using this
   ·cases hf
  ·cases hf
 ·intro t te b hf
  simp only [ctx]at hf
  split at hf
  ·rename_i x he
   split at hf
   ·rename_i te' y b' hsm hel
    simp only [Option.some.injEq,Prod.mk.injEq]at hf
    obtain⟨rfl,rfl,rfl⟩:=hf
    have:=List.all_eq_true.mp hu8 _ (f9 he)
    simpa [HF,hsm,hel]using this
   ·cases hf
  ·cases hf
 ·intro t cs ag u r hl e
  obtain⟨x,he,h1,h2⟩:=lay t cs ag hl
  have:=List.all_eq_true.mp hbz _ (f9 he)
  simp only [←h1,e,HE,beq_iff_eq]at this
  exact this
end Go.Proofs.YtihabpimbfmhhaaGreatDoor.Ev
namespace Go.Proofs.YtihabpimbfmhhaaGreatDoor.Ev
open Go Go.RowKit
def T4 (w:World) (b o:Nat) (cs:List AV) (vs:List Value):Prop:=
 ∀t r,cs= .bz t::r→o=0∧w.shape? b=some (t,cs.length)∧ ∃p vs',vs= .pointer p::vs'∧(p=none∨p=some ⟨b,0,none⟩)
def MF (ag:Bool) (v:Value) (ds:List Value):Prop:=match ag with|true=>v= .agg ds.toArray|false=>ds=[v]
def MG (w:World) (M:Nat→Nat→Prop) (kt vt:Ty) (ag:Bool) (i:Nat) (x:Den kt×Den vt) (e:MapEntry):Prop:=
 e.born=i∧rd w M kt x.1 [e.key]∧ ∃ds,rd w M vt x.2 ds∧MF ag e.val ds
def Ents (w:World) (M:Nat→Nat→Prop) (kt vt:Ty) (ag:Bool):Nat→List (Den kt×Den vt)→List MapEntry→Prop
 |_,[],es=>es=[]
 |i,x::xs,es=> ∃e es',es=e::es'∧MG w M kt vt ag i x e∧Ents w M kt vt ag (i+1) xs es'
theorem Ents.mono {w w':World} {M M':Nat→Nat→Prop} {kt vt:Ty} {ag:Bool} (hm: ∀i x e,MG w M kt vt ag i x e→MG w' M' kt vt ag i x e):
 ∀(i:Nat) (xs:List (Den kt×Den vt)) (es:List MapEntry),Ents w M kt vt ag i xs es→Ents w' M' kt vt ag i xs es
 |_,[],_,h=>h
 |i,x::xs,es,h=>by
  obtain⟨e,es',rfl,h1,h2⟩:=h
  exact⟨e,es',rfl,hm _ _ _ h1,Ents.mono hm (i+1) xs es' h2⟩
theorem tM {w w':World} {M M':Nat→Nat→Prop} (ht:Tr w M w' M') {kt vt:Ty} {ag:Bool} {i:Nat} {x:Den kt×Den vt} {e:MapEntry} (h:MG w M kt vt ag i x e):MG w' M' kt vt ag i x e:=by
 obtain⟨h1,h2,ds,h3,h4⟩:=h
 exact⟨h1,fW ht kt h2,ds,fW ht vt h3,h4⟩
abbrev Rg:=Nat×Nat×Nat
def rdO (w:World):(t:Ty)→Den t→List Value→List Rg→Prop
 | .int k,n,cs,rs=>cs=[.int k n]∧rs=[]
 | .bool,b,cs,rs=>cs=[.bool b]∧rs=[]
 | .str,s,cs,rs=>cs=[.string ⟨s.toArray⟩]∧rs=[]
 | .slice e,l,cs,rs=> ∃a n c,cs=[.slice a n c]∧n=l.length∧n≤c∧
  ((a=none∧c=0∧l=[]∧rs=[])∨e.hasSlice=false∧ ∃b o,a=some ⟨b,o,none⟩∧rs=[(b,o,c*e.size)]∧ ∀i (h:i<l.length),∃ds:List Value,ds.length=e.size∧rd w (fun _ _=>False) e l[i] ds∧
    ∀j,j<e.size→w.cell? ⟨b,o+i*e.size+j,none⟩=ds[j]?)
 | .pair a b,x,cs,rs=> ∃c d r1 r2,cs=c++d∧rs=r1++r2∧rdO w a x.1 c r1∧rdO w b x.2 d r2
 | .unit,_,cs,rs=>cs=[]∧rs=[]
theorem bS {b o:Nat} (h:cov [] b o):False:=by obtain⟨r,hr,_⟩:=h;cases hr
theorem cov_append {r s:List Rg} {b o:Nat}:cov (r++s) b o↔cov r b o∨cov s b o:=by
 constructor
 ·rintro⟨x,hx,h⟩
  rcases List.mem_append.1 hx with h1|h1
  ·exact .inl ⟨x,h1,h⟩
  ·exact .inr ⟨x,h1,h⟩
 ·rintro(⟨x,hx,h⟩|⟨x,hx,h⟩)
  ·exact⟨x,List.mem_append_left _ hx,h⟩
  ·exact⟨x,List.mem_append_right _ hx,h⟩
theorem cov_flatten {rss:List (List Rg)} {b o:Nat}:cov rss.flatten b o↔ ∃rs∈rss,cov rs b o:=by
 constructor
 ·rintro⟨x,hx,h⟩
  obtain⟨rs,h1,h2⟩:=List.mem_flatten.1 hx
  exact⟨rs,h1,x,h2,h⟩
 ·rintro⟨rs,h1,x,h2,h⟩
  exact⟨x,List.mem_flatten.2 ⟨rs,h1,h2⟩,h⟩
theorem bT {w w':World} {M M':Nat→Nat→Prop}: ∀(e:Ty) {x:Den e} {ds:List Value},e.hasSlice=false→rd w M e x ds→rd w' M' e x ds
 | .int _,_,_,_,h=>h
 | .bool,_,_,_,h=>h
 | .str,_,_,_,h=>h
 | .slice _,_,_,he,_=>by simp [Ty.hasSlice]at he
 | .pair a b,_,_,he,h=>by
   simp only [Ty.hasSlice,Bool.or_eq_false_iff]at he
   obtain⟨c,d,h1,h2,h3⟩:=h
   exact⟨c,d,h1,bT a he.1 h2,bT b he.2 h3⟩
 | .unit,_,_,_,h=>h
theorem vP {w:World} {M:Nat→Nat→Prop}: ∀(t:Ty) {x:Den t} {cs:List Value} {rs:List Rg},rdO w t x cs rs→(∀b o,cov rs b o→ ¬M b o)→rd w M t x cs
 | .int _,_,_,_,h,_=>h.1
 | .bool,_,_,_,h,_=>h.1
 | .str,_,_,_,h,_=>h.1
 | .slice e,l,cs,rs,h,hm=>by
   obtain⟨a,n,c,h1,h2,h3,h4⟩:=h
   refine⟨a,n,c,h1,h2,h3, ?_⟩
   rcases h4 with⟨_,_,h4,_⟩|⟨he,b,o,ha,rfl,hr⟩
   ·exact .inl h4
   ·refine .inr ⟨b,o,ha,fun i hi=> ?_⟩
    obtain⟨ds,k1,k2,k3⟩:=hr i hi
    refine⟨ds,k1,bT e he k2,fun j hj=>⟨k3 j hj,hm _ _ ⟨_,List.mem_singleton.2 rfl,rfl, ?_, ?_⟩⟩⟩
    ·simp only;omega
    ·have:i*e.size+j<c*e.size:=by
      have:(i+1)*e.size≤c*e.size:=Nat.mul_le_mul_right _ (by omega)
      rw [Nat.add_mul]at this;omega
     simp only;omega
 | .pair a b,x,cs,rs,h,hm=>by
   obtain⟨c,d,r1,r2,h1,rfl,h2,h3⟩:=h
   exact⟨c,d,h1,vP a h2 fun b o hc=>hm b o (cov_append.2 (.inl hc)),vP b h3 fun b o hc=>hm b o (cov_append.2 (.inr hc))⟩
 | .unit,_,_,_,h,_=>h.1
theorem lw {w w':World}: ∀(t:Ty) {x:Den t} {cs:List Value} {rs:List Rg},rdO w t x cs rs→(∀b o,cov rs b o→w'.cell? ⟨b,o,none⟩=w.cell? ⟨b,o,none⟩)→rdO w' t x cs rs
 | .int _,_,_,_,h,_=>h
 | .bool,_,_,_,h,_=>h
 | .str,_,_,_,h,_=>h
 | .slice e,l,cs,rs,h,hm=>by
   obtain⟨a,n,c,h1,h2,h3,h4⟩:=h
   refine⟨a,n,c,h1,h2,h3, ?_⟩
   rcases h4 with h4|⟨he,b,o,ha,rfl,hr⟩
   ·exact .inl h4
   ·refine .inr ⟨he,b,o,ha,rfl,fun i hi=> ?_⟩
    obtain⟨ds,k1,k2,k3⟩:=hr i hi
    refine⟨ds,k1,bT e he k2,fun j hj=> ?_⟩
    rw [←k3 j hj]
    refine hm _ _ ⟨_,List.mem_singleton.2 rfl,rfl, ?_, ?_⟩
    ·simp only;omega
    ·have:i*e.size+j<c*e.size:=by
      have:(i+1)*e.size≤c*e.size:=Nat.mul_le_mul_right _ (by omega)
      rw [Nat.add_mul]at this;omega
     simp only;omega
 | .pair a b,x,cs,rs,h,hm=>by
   obtain⟨c,d,r1,r2,h1,rfl,h2,h3⟩:=h
   exact⟨c,d,r1,r2,h1,rfl,lw a h2 fun b o hc=>hm b o (cov_append.2 (.inl hc)),lw b h3 fun b o hc=>hm b o (cov_append.2 (.inr hc))⟩
 | .unit,_,_,_,h,_=>h
def Mz (L:Lk) (l:Loc) (z:Bool) (e:Ty):Nat→Nat→Prop:=fun b o=>match e.hasSlice&& !z with|true=> ¬cov l.dp b o|false=>Mut L b o
theorem f_ {L:Lk} {l:Loc} {z:Bool} {e:Ty} (h:(z|| !e.hasSlice)=true):Mz L l z e=Mut L:=by
 funext b o
 unfold Mz
 cases hz:z<;>cases he:e.hasSlice<;>simp_all
theorem iJ {L:Lk} {l:Loc} {e:Ty} (he:e.hasSlice=true):Mz L l false e=fun b o=> ¬cov l.dp b o:=by
 funext b o
 unfold Mz
 simp [he]
theorem Mz.tr {L L':Lk} {w:World} (ht:Tr w (Mut L) w (Mut L')) {l:Loc} {z:Bool} {e:Ty}:Tr w (Mz L l z e) w (Mz L' l z e):=by
 unfold Mz
 cases e.hasSlice&& !z with
 |false=>exact ht
 |true=>exact fun b o v hn hv=>⟨hn,hv⟩
def dj (r s:Rg):Prop:= ∀b o,cov [r] b o→ ¬cov [s] b o
def Dq (w:World) (l:Loc) (b o:Nat) (e:Ty) (xs:List (Den e)):Prop:=
 match e.hasSlice with
 |false=>l.dp=[]
 |true=>(∀b' o',cov l.dp b' o'→((∃u,w.cell? ⟨b',o',none⟩=some u)∧w.frozen? ⟨b',o',none⟩=false)∧ ¬(b'=b∧o≤o'∧o'<o+l.cap*e.size))∧l.dp.Pairwise dj∧
  ∃rss:List (List Rg),l.dp=rss.flatten∧rss.length=xs.length∧ ∀i (h:i<xs.length),∃ds:List Value,ds.length=e.size∧rdO w e xs[i] ds (rss.getD i [])∧ ∀j,j<e.size→w.cell? ⟨b,o+i*e.size+j,none⟩=ds[j]?
def okO (L:Lk) (w:World) (p:Loc×Ob):Prop:=
 match p.2 with
 | .var cs=> ∃b o vs,p.1.base=some (b,o)∧aK L w (Mut L) cs vs∧(∀c∈vs,c.oneCell'=true)∧
  (∀j,j<cs.length→w.cell? ⟨b,o+j,none⟩=vs[j]? ∧w.frozen? ⟨b,o+j,none⟩=false)∧T4 w b o cs vs
 | .arr e _ z xs=>(p.1.base=none∧xs=[]∧p.1.cap=0∧p.1.dp=[])∨ ∃b o,p.1.base=some (b,o)∧xs.length≤p.1.cap∧
  (∀i (h:i<xs.length),∃ds:List Value,ds.length=e.size∧rd w (Mz L p.1 z e) e xs[i] ds∧ ∀j,j<e.size→w.cell? ⟨b,o+i*e.size+j,none⟩=ds[j]?)∧
  (z=false→ ∀j,j<p.1.cap*e.size→(∃u,w.cell? ⟨b,o+j,none⟩=some u)∧w.frozen? ⟨b,o+j,none⟩=false)∧
  (z=true→ ∀j,j<xs.length*e.size→ ¬Mut L b (o+j))∧(e= .int .u8→ ∃n,w.shape? b=some (5,n))∧(z=false→Dq w p.1 b o e xs)
 | .map kt vt ag xs=> ∃b es,p.1.base=some (b,0)∧w.heap[b]? =some (.map es xs.length)∧Ents w (Mut L) kt vt ag 0 xs es.toList
theorem kJ {rss:List (List Rg)} {i:Nat} (hi:i<rss.length) {b o:Nat} (h:cov (rss.getD i []) b o):cov rss.flatten b o:=by
 refine cov_flatten.2 ⟨_, ?_,h⟩
 rw [List.getD_eq_getElem?_getD,List.getElem?_eq_getElem hi]
 exact List.getElem_mem _
theorem eu {L:Lk} {w:World} {l:Loc} {e:Ty} {v:Nat} {xs:List (Den e)} (he:e.hasSlice=true) {b o:Nat} (hb:l.base=some (b,o)) (hl:xs.length≤l.cap)
 (hc: ∀j,j<l.cap*e.size→(∃u,w.cell? ⟨b,o+j,none⟩=some u)∧w.frozen? ⟨b,o+j,none⟩=false) (hq:Dq w l b o e xs):okO L w (l,.arr e v false xs):=by
 refine .inr ⟨b,o,hb,hl,fun i hi=> ?_,fun _=>hc,(fun hz=>by cases hz),(fun h=>by subst h;cases he),fun _=>hq⟩
 unfold Dq at hq
 rw [he]at hq
 obtain⟨_,_,rss,q3,q4,q5⟩:=hq
 obtain⟨ds,k1,k2,k3⟩:=q5 i hi
 refine⟨ds,k1, ?_,k3⟩
 rw [iJ he]
 refine vP e k2 fun b o hcv hn=>hn ?_
 show cov l.dp b o
 rw [q3]
 exact kJ (by omega) hcv
theorem fh {w:World} {l:Loc} {b o:Nat} {e:Ty} {xs:List (Den e)} (he:e.hasSlice=false) (h:l.dp=[]):Dq w l b o e xs:=by unfold Dq;rw [he];exact h
theorem RB {w:World} {l:Loc} {b o:Nat} {e:Ty} (h:l.dp=[]):Dq w l b o e []:=by
 unfold Dq
 split
 ·exact h
 ·rw [h]
  exact⟨fun _ _ hc=>(bS hc).elim,List.Pairwise.nil,[],rfl,rfl,fun i hi=>by cases hi⟩
theorem bY {i n s j:Nat} (h:i<n) (hj:j<s):i*s+j<n*s:=by
 have:(i+1)*s≤n*s:=Nat.mul_le_mul_right s h
 rw [Nat.add_mul]at this;omega
def nz:Ob→Bool
 | .map .. =>true
 |_=>false
theorem d7 {L:Lk} {w:World} {p:Loc×Ob} (h:okO L w p) (hm:nz p.2=false) {b o:Nat} (hr:inR p b o):(∃u,w.cell? ⟨b,o,none⟩=some u)∧w.frozen? ⟨b,o,none⟩=false:=by
 obtain⟨l,x⟩:=p
 rcases hr with⟨o0,hb,h1,h2⟩|⟨hw,hc⟩
 rotate_left
 ·cases x with
  |map kt vt ag xs=>cases hm
  |var cs=>cases hw
  |arr e v z xs=>
   cases z with
   |true=>cases hw
   |false=>
    rcases h with⟨_,_,_,h3⟩|⟨b',o',h3,_,_,_,_,_,h4⟩
    ·simp only at h3 hc;rw [h3]at hc;exact(bS hc).elim
    ·have h5:=h4 rfl
     unfold Dq at h5
     split at h5
     ·simp only at h5 hc;rw [h5]at hc;exact(bS hc).elim
     ·exact(h5.1 b o hc).1
 simp only at hb
 obtain⟨k,rfl⟩: ∃k,o=o0+k:=⟨o-o0,by omega⟩
 cases x with
 |map kt vt ag xs=>cases hm
 |var cs=>
  obtain⟨b',o',vs,h3,h4,_,h5,_⟩:=h
  simp only at h3
  rw [hb]at h3;cases h3
  have hk:k<cs.length:=by simp only [ext]at h2;omega
  obtain⟨h6,h7⟩:=h5 k hk
  have hl:=bp h4
  exact⟨⟨vs[k]'(by omega),by rw [h6];simp [hl,hk]⟩,h7⟩
 |arr e v z xs=>
  cases z with
  |true=>simp [ext]at h2;omega
  |false=>
   rcases h with⟨h3,_⟩|⟨b',o',h3,_,_,h4,_⟩
   ·simp only at h3;rw [hb]at h3;cases h3
   ·simp only at h3;rw [hb]at h3;cases h3
    exact h4 rfl k (by simp [ext]at h2;omega)
theorem P9 {w:World} {b:Nat} {x:Obj} (h:w.heap[b]? =some x):b<w.heap.size:=by
 rcases Nat.lt_or_ge b w.heap.size with h'|h'
 ·exact h'
 ·rw [Array.getElem?_eq_none h']at h;cases h
theorem z6 {L:Lk} {w:World} {p:Loc×Ob} (h:okO L w p) (hm:nz p.2=true) {b o:Nat} (hr:inR p b o):o=0∧ ∃es n,w.heap[b]? =some (.map es n):=by
 obtain⟨l,x⟩:=p
 cases x with
 |map kt vt ag xs=>
  obtain⟨b',es,h1,h2,_⟩:=h
  obtain⟨o0,hb,h3,h4⟩|⟨hw,_⟩:=hr
  rotate_left
  ·cases hw
  simp only [ext]at h4
  simp only at h1 hb
  rw [h1]at hb;cases hb
  exact⟨by omega,es,_,h2⟩
 |var _=>cases hm
 |arr _ _ _ _=>cases hm
theorem ew {L:Lk} {w:World} {p:Loc×Ob} (h:okO L w p) {b o:Nat} (hr:inR p b o):b<w.heap.size:=by
 cases hm:nz p.2 with
 |true=>obtain⟨_,es,n,h1⟩:=z6 h hm hr;exact P9 h1
 |false=>
  obtain⟨⟨u,hu⟩,_⟩:=d7 h hm hr
  exact World.block_lt_of_cell? w ⟨b,o,none⟩ hu
theorem mH {w:World} {b:Nat} {s:TypeId×Nat} (h:w.shape? b=some s):b<w.heap.size:=by
 unfold World.shape? at h
 rcases Nat.lt_or_ge b w.heap.size with h'|h'
 ·exact h'
 ·rw [Array.getElem?_eq_none h']at h;cases h
structure RelO (K:Ctx) (w0:World) (M0:Bd) (L:Lk) (w:World):Prop where
 fr:Fr w0 M0.m w
 ok: ∀i p,L i=some p→okO L w p
 sep: ∀i j p q b o,L i=some p→L j=some q→inR p b o→inR q b o→i=j
 own: ∀b o,eq L b o→b<w0.heap.size→M0.m b o
 ff:L.F=M0.f
 fs: ∀b o,M0.f b o→b<w0.heap.size
 fo: ∀b o,eq L b o→ ¬M0.f b o
 g:K.G w
 gs:K.g0≤w.heap.size
 gb: ∀b o,eq L b o→K.g0≤b
theorem ON {L L':Lk} {w w':World} {p:Loc×Ob} (hT:Turn L L') (ht:Tr w (Mut L) w' (Mut L'))
 (hc: ∀b o,inR p b o→w'.cell? ⟨b,o,none⟩=w.cell? ⟨b,o,none⟩∧w'.frozen? ⟨b,o,none⟩=w.frozen? ⟨b,o,none⟩)
 (hs: ∀b s,w.shape? b=some s→w'.shape? b=some s)
 (hmp:nz p.2=true→ ∀b o,inR p b o→w'.heap[b]? =w.heap[b]?)
 (h:okO L w p):okO L' w' p:=by
 obtain⟨l,x⟩:=p
 cases x with
 |map kt vt ag xs=>
  obtain⟨b,es,h1,h2,h3⟩:=h
  refine⟨b,es,h1, ?_,Ents.mono (fun i x e=>tM ht) _ _ _ h3⟩
  rw [hmp rfl b 0 (.inl ⟨0,h1,Nat.le_refl _,by simp [ext]⟩)];exact h2
 |var cs=>
  obtain⟨b,o,vs,h1,h2,h3,h4,hbz⟩:=h
  refine⟨b,o,vs,h1,ci hT ht cs h2,h3,fun j hj=> ?_,fun t r e=> ?_⟩
  rotate_left
  ·obtain⟨g1,g2,g3⟩:=hbz t r e
   exact⟨g1,hs _ _ g2,g3⟩
  obtain⟨h5,h6⟩:=h4 j hj
  have hr:inR (l,Ob.var cs) b (o+j):=.inl ⟨o,h1,by omega,by simp only [ext];omega⟩
  obtain⟨h7,h8⟩:=hc _ _ hr
  exact⟨h7.trans h5,h8.trans h6⟩
 |arr e v z xs=>
  rcases h with h|⟨b,o,h1,h2,h3,h4,h5,h6,hq⟩
  ·exact .inl h
  ·have hout:z=false→ ∀i,i<xs.length→ ∀j,j<e.size→w'.cell? ⟨b,o+i*e.size+j,none⟩=w.cell? ⟨b,o+i*e.size+j,none⟩:=by
    intro hz i hi j hj
    subst hz
    have hlt:i*e.size+j<l.cap*e.size:=bY (Nat.lt_of_lt_of_le hi h2) hj
    exact(hc _ _ (.inl ⟨o,h1,by omega,by simp [ext];omega⟩)).1
   refine .inr ⟨b,o,h1,h2,fun i hi=> ?_,fun hz j hj=> ?_,fun hz j hj=> ?_,fun he=>(h6 he).imp fun n hn=>hs _ _ hn,fun hz=> ?_⟩
   rotate_right
   ·have hq:=hq hz
    unfold Dq at hq⊢
    split
    ·rename_i he;rw [he]at hq;exact hq
    ·rename_i he;rw [he]at hq
     obtain⟨q1,q2,rss,q3,q4,q5⟩:=hq
     have hcc: ∀b' o',cov l.dp b' o'→w'.cell? ⟨b',o',none⟩=w.cell? ⟨b',o',none⟩∧w'.frozen? ⟨b',o',none⟩=w.frozen? ⟨b',o',none⟩:=fun b' o' hcv=>hc b' o' (.inr ⟨by simp [kH,hz],hcv⟩)
     refine⟨fun b' o' hcv=> ?_,q2,rss,q3,q4,fun i hi=> ?_⟩
     ·obtain⟨⟨⟨u,k1⟩,k2⟩,k3⟩:=q1 b' o' hcv
      exact⟨⟨⟨u,(hcc _ _ hcv).1.trans k1⟩,(hcc _ _ hcv).2.trans k2⟩,k3⟩
     ·obtain⟨ds,k1,k2,k3⟩:=q5 i hi
      refine⟨ds,k1,lw e k2 fun b' o' hcv=>(hcc b' o' ?_).1,fun j hj=>(hout hz i hi j hj).trans (k3 j hj)⟩
      simp only at q3
      rw [q3]
      refine cov_flatten.2 ⟨_, ?_,hcv⟩
      rw [List.getD_eq_getElem?_getD,List.getElem?_eq_getElem (by omega)]
      exact List.getElem_mem _
   ·obtain⟨ds,h6,h7,h8⟩:=h3 i hi
    have h7':rd w' (Mz L' l z e) e xs[i] ds:=by
     unfold Mz at h7⊢
     cases hez:e.hasSlice&& !z with
     |false=>simp only [hez]at h7⊢;exact fW ht e h7
     |true=>
      simp only [hez]at h7⊢
      have hz:z=false:=by cases z<;>simp_all
      refine fW (fun b' o' v hn hv=>⟨hn, ?_⟩) e h7
      rw [(hc b' o' (.inr ⟨by simp [kH,hz],Classical.not_not.1 hn⟩)).1];exact hv
    refine⟨ds,h6,h7',fun j hj=> ?_⟩
    have h9:=h8 j hj
    have hd:ds[j]? =some (ds[j]'(by omega)):=by simp [h6,hj]
    cases z with
    |false=>
     have hlt:i*e.size+j<l.cap*e.size:=bY (Nat.lt_of_lt_of_le hi h2) hj
     have hr:inR (l,Ob.arr e v false xs) b (o+i*e.size+j):=.inl ⟨o,h1,by omega,by simp [ext];omega⟩
     exact(hc _ _ hr).1.trans h9
    |true=>
     have hlt:=bY hi hj
     have hn:=h5 rfl (i*e.size+j) hlt
     rw [←Nat.add_assoc]at hn
     rw [hd]at h9⊢
     exact(ht _ _ _ hn h9).2
   ·subst hz
    have hr:inR (l,Ob.arr e v false xs) b (o+j):=.inl ⟨o,h1,by omega,by simp [ext];omega⟩
    obtain⟨⟨u,h6⟩,h7⟩:=h4 rfl j hj
    exact⟨⟨u,(hc _ _ hr).1.trans h6⟩,(hc _ _ hr).2.trans h7⟩
   ·have hn:=h5 hz j hj
    have hj':j/e.size<xs.length:=Nat.div_lt_of_lt_mul (by rw [Nat.mul_comm];exact hj)
    obtain⟨ds,h6,_,h8⟩:=h3 _ hj'
    have hes:0<e.size:=by
     rcases Nat.eq_zero_or_pos e.size with h|h
     ·rw [h]at hj;simp at hj
     ·exact h
    have h9:=h8 (j % e.size) (Nat.mod_lt _ hes)
    have hd:ds[j % e.size]? =some (ds[j % e.size]'(by rw [h6];exact Nat.mod_lt _ hes)):=by
     rw [List.getElem?_eq_getElem]
    rw [hd]at h9
    have e1:o+j/e.size*e.size+j % e.size=o+j:=by
     have:=Nat.div_add_mod j e.size
     rw [Nat.mul_comm]at this;omega
    rw [e1]at h9
    exact(ht _ _ _ hn h9).1
theorem RelO.chg {K:Ctx} {w0:World} {M0:Bd} {L:Lk} {w:World} (h:RelO K w0 M0 L w) (hK:K.Ok) {N:Nat→Nat→Prop} {L':Lk} {w':World} (D:Nat→Prop)
 (hF:Fr w N w') (hN: ∀b o,N b o→eq L b o) (hL:L'.F=L.F) (hT:Turn L L')
 (hk: ∀i p,L' i=some p→ ¬D i→L i=some p∧ ∀b o,inR p b o→ ¬N b o)
 (hd: ∀i p,L' i=some p→D i→(Tr w (Mut L) w' (Mut L')→okO L' w' p)∧ ∀b o,inR p b o→N b o∨w.heap.size≤b)
 (hs: ∀i j p q b o,L' i=some p→L' j=some q→D i→D j→inR p b o→inR q b o→i=j):
 RelO K w0 M0 L' w'∧Tr w (Mut L) w' (Mut L'):=by
 have hmO: ∀b o,eq L' b o→eq L b o∨w.heap.size≤b:=by
  rintro b o ⟨i,p,hp,hr⟩
  by_cases hi:D i
  ·rcases(hd i p hp hi).2 b o hr with h1|h1
   ·exact .inl (hN _ _ h1)
   ·exact .inr h1
  ·exact .inl ⟨i,p,(hk i p hp hi).1,hr⟩
 have hm: ∀b o,Mut L' b o→Mut L b o∨w.heap.size≤b:=by
  rintro b o (hf|ho)
  ·rw [hL]at hf;exact .inl (.inl hf)
  ·exact(hmO b o ho).imp .inr id
 have ht:Tr w (Mut L) w' (Mut L'):=by
  intro b o v hn hv
  have hb:=World.block_lt_of_cell? w ⟨b,o,none⟩ hv
  simp only at hb
  refine⟨fun hm'=> ?_, ?_⟩
  ·rcases hm b o hm' with h1|h1
   ·exact hn h1
   ·omega
  ·rw [hF.cel b o hb fun h1=>hn (.inr (hN _ _ h1))];exact hv
 refine⟨⟨?_, ?_, ?_, ?_, ?_,h.fs, ?_, ?_, ?_, ?_⟩,ht⟩
 ·exact h.fr.trans hF fun b o hb hn=>h.own b o (hN b o hn) hb
 ·intro i p hp
  by_cases hi:D i
  ·exact(hd i p hp hi).1 ht
  ·obtain⟨h1,h2⟩:=hk i p hp hi
   have hok:=h.ok i p h1
   refine ON hT ht (fun b o hr=>⟨hF.cel b o (ew hok hr) (h2 b o hr),hF.frz b o (ew hok hr) (h2 b o hr)⟩) (fun b s h=>(hF.shp b (mH h)).trans h) (fun hmp b o hr=> ?_) hok
   obtain⟨rfl,es,n,hes⟩:=z6 hok hmp hr
   refine hF.blk b (ew hok hr) fun o hn=> ?_
   obtain⟨j,q,hq,hr'⟩:=hN b o hn
   have hokq:=h.ok j q hq
   cases hmq:nz q.2 with
   |true=>
    obtain⟨rfl,_⟩:=z6 hokq hmq hr'
    exact h2 b _ hr hn
   |false=>
    obtain⟨⟨u,hu⟩,_⟩:=d7 hokq hmq hr'
    simp only [World.cell?,hes]at hu
    cases hu
 ·intro i j p q b o hp hq hr hr'
  by_cases hi:D i
  ·by_cases hj:D j
   ·exact hs i j p q b o hp hq hi hj hr hr'
   ·obtain⟨h1,h2⟩:=hk j q hq hj
    rcases(hd i p hp hi).2 b o hr with h3|h3
    ·exact absurd h3 (h2 b o hr')
    ·have:=ew (h.ok j q h1) hr';omega
  ·obtain⟨h1,h2⟩:=hk i p hp hi
   by_cases hj:D j
   ·rcases(hd j q hq hj).2 b o hr' with h3|h3
    ·exact absurd h3 (h2 b o hr)
    ·have:=ew (h.ok i p h1) hr;omega
   ·exact h.sep i j p q b o h1 (hk j q hq hj).1 hr hr'
 ·intro b o hm' hb
  rcases hmO b o hm' with h1|h1
  ·exact h.own b o h1 hb
  ·have:=h.fr.size;omega
 ·exact hL.trans h.ff
 ·intro b o hm' hf
  rcases hmO b o hm' with h1|h1
  ·exact h.fo b o h1 hf
  ·have:=h.fr.size;have:=h.fs b o hf;omega
 ·exact hK.gst w w' N hF h.gs (fun b o hb hn=>by have:=h.gb b o (hN b o hn);omega) h.g
 ·exact Nat.le_trans h.gs hF.size
 ·intro b o hm'
  rcases hmO b o hm' with h1|h1
  ·exact h.gb b o h1
  ·have:=h.gs;omega
def upd (L:Lk) (i:Nat) (p:Loc×Ob):Lk:=⟨fun j=>if j=i then some p else L j,L.F⟩
theorem av (L:Lk) (i:Nat) (p:Loc×Ob):upd L i p i=some p:=by simp [upd]
theorem aG (L:Lk) {i j:Nat} (p:Loc×Ob) (h:j≠i):upd L i p j=L j:=by simp [upd,h]
theorem RelO.new {K:Ctx} {w0:World} {M0:Bd} {L:Lk} {w w':World} (h:RelO K w0 M0 L w) (hK:K.Ok) {i:Nat} {p:Loc×Ob} (hi:L i=none)
 (hF:Fr w (fun _ _=>False) w') (hp:Tr w (Mut L) w' (Mut (upd L i p))→okO (upd L i p) w' p) (hr: ∀b o,inR p b o→w.heap.size≤b):
 RelO K w0 M0 (upd L i p) w'∧Tr w (Mut L) w' (Mut (upd L i p))∧Turn L (upd L i p):=by
 have hT:Turn L (upd L i p):=by
  intro j l x hj
  have hne:j≠i:=by intro e;subst e;rw [hi]at hj;cases hj
  obtain⟨l',x',h1,h2⟩:=Turn.refl L j l x hj
  exact⟨l',x',by rw [aG L p hne];exact h1,h2⟩
 obtain⟨h1,h2⟩:=h.chg hK (L':=upd L i p) (D:=(· =i)) hF (fun _ _=>False.elim) rfl hT
  (fun j q hq hj=>⟨by rw [aG L p hj]at hq;exact hq,fun _ _ _=>id⟩)
  (fun j q hq hj=>by
   subst hj
   rw [av]at hq;cases hq
   exact⟨hp,fun b o hr'=>.inr (hr b o hr')⟩)
  (fun j k q q' b o _ _ hj hk' _ _=>by rw [hj,hk'])
 exact⟨h1,h2,hT⟩
theorem RelO.put {K:Ctx} {w0:World} {M0:Bd} {L:Lk} {w w':World} (h:RelO K w0 M0 L w) (hK:K.Ok) {i:Nat} {p p':Loc×Ob} (hi:L i=some p)
 (hF:Fr w (inR p) w') (hT:Turn L (upd L i p')) (hp:Tr w (Mut L) w' (Mut (upd L i p'))→okO (upd L i p') w' p') (hr: ∀b o,inR p' b o→inR p b o∨w.heap.size≤b):
 RelO K w0 M0 (upd L i p') w'∧Tr w (Mut L) w' (Mut (upd L i p')):=by
 exact h.chg hK (L':=upd L i p') (D:=(· =i)) hF (fun b o hb=>⟨i,p,hi,hb⟩) rfl hT
  (fun j q hq hj=>by
   rw [aG L p' hj]at hq
   exact⟨hq,fun b o h1 h2=>hj (h.sep j i q p b o hq hi h1 h2)⟩)
  (fun j q hq hj=>by
   subst hj
   rw [av]at hq;cases hq
   exact⟨hp,hr⟩)
  (fun j k q q' b o _ _ hj hk' _ _=>by rw [hj,hk'])
end Go.Proofs.YtihabpimbfmhhaaGreatDoor.Ev
namespace Go.Proofs.YtihabpimbfmhhaaGreatDoor.Ev
open Go Go.RowKit
set_option linter.unusedSimpArgs false
def Cmd.ex:Cmd→St→List Ac→Option (St×List Ac)
 | .done,st,t=>some (st,t)
 | .fail,_,_=>none
 | .getS n c,st,t=>(c (Ev.getS st.env n)).ex st (.rS n::t)
 | .putS n v c,st,t=>c.ex ⟨Ev.putS st.env n v,st.objs⟩ (.wS n::t)
 | .getO o c,st,t=>match Ev.getO st.objs o with|some x=>(c x).ex st (.rO o::t)|none=>none
 | .putO o x c,st,t=>match Ev.getO st.objs o with|some y=>c.ex ⟨st.env,Ev.putO st.objs o x⟩ (acP o y x::t)|none=>none
 | .newO o x c,st,t=>match Ev.getO st.objs o with|some _=>none|none=>c.ex ⟨st.env,Ev.putO st.objs o x⟩ (.wO o::t)
 | .ite b x y,st,t=>match b with|true=>x.ex st t|false=>y.ex st t
theorem jt {R:Type}: ∀(c:Cmd) (st:St) (t:List Ac) (k:St→Option R),c.run st k=match c.ex st t with|some (st',_)=>k st'|none=>none
 | .done,_,_,_=>rfl
 | .fail,_,_,_=>rfl
 | .getS n c,st,t,k=>by simp only [Cmd.run,Cmd.ex];exact jt _ _ _ _
 | .putS n v c,st,t,k=>by simp only [Cmd.run,Cmd.ex];exact jt _ _ _ _
 | .getO o c,st,t,k=>by simp only [Cmd.run,Cmd.ex];cases Ev.getO st.objs o<;>simp only<;>exact jt _ _ _ _
 | .putO o x c,st,t,k=>by simp only [Cmd.run,Cmd.ex];cases Ev.getO st.objs o<;>simp only<;>exact jt _ _ _ _
 | .newO o x c,st,t,k=>by simp only [Cmd.run,Cmd.ex];cases Ev.getO st.objs o<;>simp only<;>exact jt _ _ _ _
 | .ite b x y,st,t,k=>by cases b<;>simp only [Cmd.run,Cmd.ex]<;>exact jt _ _ _ _
theorem iK {R:Type}: ∀(c:Cmd) (st:St) (t:List Ac) (k:St→List Ac→Option R),c.runT st t k=match c.ex st t with|some (st',t')=>k st' t'|none=>none
 | .done,_,_,_=>rfl
 | .fail,_,_,_=>rfl
 | .getS n c,st,t,k=>by simp only [Cmd.runT,Cmd.ex];exact iK _ _ _ _
 | .putS n v c,st,t,k=>by simp only [Cmd.runT,Cmd.ex];exact iK _ _ _ _
 | .getO o c,st,t,k=>by simp only [Cmd.runT,Cmd.ex];cases Ev.getO st.objs o<;>simp only<;>exact iK _ _ _ _
 | .putO o x c,st,t,k=>by simp only [Cmd.runT,Cmd.ex];cases Ev.getO st.objs o<;>simp only<;>exact iK _ _ _ _
 | .newO o x c,st,t,k=>by simp only [Cmd.runT,Cmd.ex];cases Ev.getO st.objs o<;>simp only<;>exact iK _ _ _ _
 | .ite b x y,st,t,k=>by cases b<;>simp only [Cmd.runT,Cmd.ex]<;>exact iK _ _ _ _
abbrev Rz:=St×List Ac
theorem ab {st:St} {t:List Ac} {r:Rz} (h:Cmd.fail.ex st t=some r):False:=by simp [Cmd.ex]at h
theorem bw {b:Bool} {c:Cmd} {st:St} {t:List Ac} {r:Rz} (h:(chk b c).ex st t=some r):b=true∧c.ex st t=some r:=by
 cases b<;>simp [Cmd.ex]at h;exact⟨rfl,h⟩
theorem br {o:Nat} {c:Ob→Cmd} {st:St} {t:List Ac} {r:Rz} (h:(Cmd.getO o c).ex st t=some r): ∃x,getO st.objs o=some x∧(c x).ex st (.rO o::t)=some r:=by
 simp only [Cmd.ex]at h;split at h
 ·exact⟨_,by assumption,h⟩
 ·cases h
theorem cj {o:Nat} {x:Ob} {c:Cmd} {st:St} {t:List Ac} {r:Rz} (h:(Cmd.putO o x c).ex st t=some r):(∃y,getO st.objs o=some y)∧c.ex ⟨st.env,putO st.objs o x⟩ (acS st.objs o x::t)=some r:=by
 simp only [Cmd.ex]at h;split at h
 ·rename_i y hy
  exact⟨⟨y,hy⟩,by unfold acS;rw [hy];exact h⟩
 ·cases h
theorem cW {o:Nat} {x:Ob} {c:Cmd} {st:St} {t:List Ac} {r:Rz} (h:(Cmd.newO o x c).ex st t=some r):getO st.objs o=none∧c.ex ⟨st.env,putO st.objs o x⟩ (.wO o::t)=some r:=by
 simp only [Cmd.ex]at h;split at h
 ·cases h
 ·exact⟨by assumption,h⟩
theorem aV: ∀(l:List (Nat×Ob)) (o:Nat) (x:Ob) (i:Nat),getO (putO l o x) i=if i=o then some x else getO l i
 | [],o,x,i=>by simp [putO,getO,eq_comm]
 |(k,y)::l,o,x,i=>by
  simp only [putO]
  split
  ·rename_i h;subst h
   simp only [getO]
   by_cases hi:k=i
   ·subst hi;simp
   ·simp [hi,Ne.symm hi]
  ·split
   ·simp only [getO]
    by_cases hi:o=i
    ·subst hi;simp
    ·simp [hi,Ne.symm hi]
   ·rename_i h _
    simp only [getO,aV l o x i]
    by_cases hi:k=i
    ·subst hi;simp [h]
    ·simp [hi]
structure Rl (K:Ctx) (w0:World) (M0:Bd) (L:Lk) (st:St) (a:Act) (w:World):Prop where
 ro:RelO K w0 M0 L w
 ob: ∀i,getO st.objs i=(L i).map (·.2)
 env:aK L w (Mut L) st.env a.tmps.toList
 df:a.defers=[]
def Does (K:Ctx) (w0:World) (M0:Bd) (o:Oper) (a:Act) (w:World) (L:Lk) (objs:List (Nat×Ob)) (v:AV):Prop:=
 ∀(next:Act→World→Prop) (Q:Exit→Act→World→Prop),
  (∀L' w' v',RelO K w0 M0 L' w'→(∀i,getO objs i=(L' i).map (·.2))→Turn L L'→Tr w (Mut L) w' (Mut L')→rel L' w' (Mut L') v v'→next (a.put o.dst v') w')→
  o.wp K.P a w next Q
variable {K:Ctx} {w0:World} {M0:Bd} {L:Lk} {st:St} {a:Act} {w:World} {o:Oper}
theorem Tr.refl (w:World) (M:Nat→Nat→Prop):Tr w M w M:=fun _ _ _ h h'=>⟨h,h'⟩
theorem Does.val {L':Lk} {w':World} {objs:List (Nat×Ob)} {v:AV} {v':Value} (hr:(execOp a.eval o).run K.P w= .ok (.value v') w') (ro:RelO K w0 M0 L' w') (ob: ∀i,getO objs i=(L' i).map (·.2))
 (hT:Turn L L') (ht:Tr w (Mut L) w' (Mut L')) (hv:rel L' w' (Mut L') v v'):Does K w0 M0 o a w L objs v:=by
 intro next Q hn
 show o.upon K.P a next Q ((execOp a.eval o).run K.P w)
 rw [hr]
 exact hn L' w' v' ro ob hT ht hv
theorem Does.skip {L':Lk} {w':World} {objs:List (Nat×Ob)} (hr:(execOp a.eval o).run K.P w= .ok .skip w') (ro:RelO K w0 M0 L' w') (ob: ∀i,getO objs i=(L' i).map (·.2))
 (hT:Turn L L') (ht:Tr w (Mut L) w' (Mut L')):Does K w0 M0 o a w L objs .undef:=by
 intro next Q hn
 show o.upon K.P a next Q ((execOp a.eval o).run K.P w)
 rw [hr]
 exact hn L' w' undef ro ob hT ht (by simp [rel])
theorem Does.same (R:Rl K w0 M0 L st a w) {v:AV} {v':Value} (hr:(execOp a.eval o).run K.P w= .ok (.value v') w) (hv:rel L w (Mut L) v v'):Does K w0 M0 o a w L st.objs v:=
 Does.val hr R.ro R.ob (Turn.refl L) (Tr.refl w _) hv
def ic (K:Ctx) (C:cy) (O:Opt) (o:Oper):Prop:= ∀(w0:World) (M0:Bd) (L:Lk) (st:St) (a:Act) (w:World) (d:Nat) (k:AV→Cmd) (t:List Ac) (r:Rz),Rl K w0 M0 L st a w→
 (op1 K C O d o.type o.op k).ex st t=some r→ ∃v objs t',(k v).ex ⟨st.env,objs⟩ t'=some r∧Does K w0 M0 o a w L objs v
theorem Act.eval_tmp (a:Act) (s:Nat):a.eval (.tmp s)=a.tmps.toList.getD s undef:=by
 simp [Act.eval,Array.getD_eq_getD_getElem?,List.getD_eq_getElem?_getD]
theorem P_ (t:TypeId): ∀(v:Value),rel L w (Mut L) (cst K t v) v
 | .int k n=>by simp [cst,rel]
 | .bool b=>by simp [cst,rel]
 | .string s=>by simp [cst,rel]
 | .slice (some _) _ _=>by simp [cst,rel]
 | .slice none 0 0=>by simp only [cst];split<;>simp [rel]
 | .slice none 0 (_+1)=>by simp [cst,rel]
 | .slice none (_+1) _=>by simp [cst,rel]
 | .pointer none=>by simp [cst,rel]
 | .pointer (some _)=>by simp [cst,rel]
 | .nilFunc=>by simp [cst,rel]
 | .nilIface=>by simp [cst,rel]
 | .float _ _=>by simp [cst,rel]
 | .complex _ _ _=>by simp [cst,rel]
 | .map _=>by simp [cst,rel]
 | .chan _=>by simp [cst,rel]
 | .func _ _ _=>by simp [cst,rel]
 | .iface _ _=>by simp [cst,rel]
 | .agg _=>by simp [cst,rel]
 | .tuple _=>by simp [cst,rel]
theorem a7 (R:Rl K w0 M0 L st a w) {t:TypeId} {x:Operand} {k:AV→Cmd} {ts:List Ac} {r:Rz} (h:(opd K t x k).ex st ts=some r):
 ∃v ts',(k v).ex st ts'=some r∧rel L w (Mut L) v (a.eval x):=by
 cases x with
 |tmp s=>exact⟨_,_,h,by rw [Act.eval_tmp];exact dn R.env s⟩
 |const v=>exact⟨_,_,h,P_ t v⟩
 |func f=>exact⟨_,_,h,by simp [rel,Act.eval,aK]⟩
 |global g=>exact⟨_,_,h,by simp [rel]⟩
theorem ga (R:Rl K w0 M0 L st a w): ∀{ts:List TypeId} {xs:List Operand} {k:List AV→Cmd} {t:List Ac} {r:Rz},(Hw K ts xs k).ex st t=some r→
 ∃vs t',(k vs).ex st t'=some r∧aK L w (Mut L) vs (xs.map a.eval)
 | [],[],k,t,r,h=>⟨[],t,h,by simp [aK]⟩
 |_::_,[],k,t,r,h=>⟨[],t,h,by simp [aK]⟩
 | [],x::xs,k,t,r,h=>by
   simp only [Hw]at h
   obtain⟨v,t1,h1,hv⟩:=a7 R h
   obtain⟨vs,t2,h2,hvs⟩:=ga R h1
   exact⟨v::vs,t2,h2,by simp only [List.map_cons,aK];exact⟨_,_,rfl,hv,hvs⟩⟩
 |ty::ts,x::xs,k,t,r,h=>by
  simp only [Hw]at h
  obtain⟨v,t1,h1,hv⟩:=a7 R h
  obtain⟨vs,t2,h2,hvs⟩:=ga R h1
  exact⟨v::vs,t2,h2,by simp only [List.map_cons,aK];exact⟨_,_,rfl,hv,hvs⟩⟩
theorem Qa {C:cy} {O:Opt} {x:Operand} (h:o.op= .move x):ic K C O o:=by
 intro w0 M0 L st a w d k t r R he
 have he':(opd K o.type x k).ex st t=some r:=by rw [h]at he;exact he
 obtain⟨v,t',h1,hv⟩:=a7 R he'
 exact⟨v,st.objs,t',h1,Does.same R (by simp [execOp,h]) hv⟩
theorem Qb {C:cy} {O:Opt} {c x y:Operand} (h:o.op= .pick c x y):ic K C O o:=by
 intro w0 M0 L st a w d k t r R he
 rw [h]at he
 simp only [op1]at he
 obtain⟨v,t1,h1,hv⟩:=a7 R he
 cases v<;>try exact(ab h1).elim
 rename_i b
 simp only [rel]at hv
 cases b with
 |true=>
  simp only [Cmd.ex]at h1
  obtain⟨u,t2,h2,hu⟩:=a7 R h1
  exact⟨u,st.objs,t2,h2,Does.same R (by simp [execOp,h,hv,asBool]) hu⟩
 |false=>
  simp only [Cmd.ex]at h1
  obtain⟨u,t2,h2,hu⟩:=a7 R h1
  exact⟨u,st.objs,t2,h2,Does.same R (by simp [execOp,h,hv,asBool]) hu⟩
theorem z7 {C:cy} {O:Opt} {x:Operand} (h:o.op= .nilCheck x):ic K C O o:=by
 intro w0 M0 L st a w d k t r R he
 rw [h]at he
 simp only [op1]at he
 obtain⟨v,t1,h1,hv⟩:=a7 R he
 cases v with
 |ptr i off=>
  obtain⟨b,off,cap,cs,_,e⟩:=id hv
  exact⟨_,st.objs,t1,h1,Does.same R (v':=a.eval x) (by simp [execOp,h,e]) hv⟩
 |eptr i ver j off=>
  obtain⟨y,h2,h3⟩:=br h1
  cases y with
  |var _=>exact(ab h3).elim
  |map _ _ _ _=>exact(ab h3).elim
  |arr e v' z xs=>
   simp only at h3
   split at h3
   ·refine⟨_,st.objs,_,h3, ?_⟩
    obtain⟨l,e',cur,z',xs',p,h4,h5,e,h6⟩:=id hv
    exact Does.same R (v':=a.eval x) (by simp [execOp,h,e]) hv
   ·exact(ab h3).elim
 |sel e y off=>
  obtain⟨b,off,ds,e,_⟩:=id hv
  exact⟨_,st.objs,t1,h1,Does.same R (v':=a.eval x) (by simp [execOp,h,e]) hv⟩
 |fn f cap=>
  obtain⟨cs,e,_⟩:=id hv
  exact⟨_,st.objs,t1,h1,Does.same R (v':=a.eval x) (by simp [execOp,h,e]) hv⟩
 |_=>exact(ab h1).elim
end Go.Proofs.YtihabpimbfmhhaaGreatDoor.Ev
namespace Go.Proofs.YtihabpimbfmhhaaGreatDoor.Ev
open Go Go.RowKit
set_option linter.unusedSimpArgs false
variable {K:Ctx} {w0:World} {M0:Bd} {L:Lk} {st:St} {a:Act} {w:World} {o:Oper} {M:Nat→Nat→Prop}
theorem fi {e:Ty} {v:Value} (h:rel L w M (.nil e) v):v= .slice none 0 0:=by simpa [rel]using h
theorem cN: ∀(t:Ty) {x:Den t} {cs:List Value},rd w M t x cs→aK L w M (cL t x) cs
 | .int k,_,_,h=>by cases h;simp [cL,aK,rel]
 | .bool,_,_,h=>by cases h;simp [cL,aK,rel]
 | .str,_,_,h=>by cases h;simp [cL,aK,rel]
 | .slice e,_,_,h=>by
   obtain⟨a,n,c,rfl,h2⟩:=id h
   simp only [cL,aK,rel]
   exact⟨_,_,rfl,h,rfl⟩
 | .pair a b,_,_,h=>by
   obtain⟨c,d,rfl,h1,h2⟩:=h
   exact fg (cN a h1) (cN b h2)
 | .unit,_,_,h=>by cases h;simp [cL,aK]
theorem dh {cs:List Value} (h:aK L w M [] cs):cs=[]:=by simpa [aK]using h
theorem aL {x:AV} {xs:List AV} {cs:List Value} (h:aK L w M (x::xs) cs): ∃c cs',cs=c::cs'∧rel L w M x c∧aK L w M xs cs':=by simpa only [aK]using h
theorem tN: ∀(t:Ty) {vs rest:List AV} {x:Den t} {cs:List Value},aK L w M vs cs→cM t vs=some (x,rest)→ ∃c d,cs=c++d∧rd w M t x c∧aK L w M rest d
 | .int k,vs,rest,x,cs,h,hp=>by
   cases vs with
   |nil=>simp [cM]at hp
   |cons v vs=>
    cases v<;>simp [cM]at hp
    obtain⟨rfl,rfl,rfl⟩:=hp
    obtain⟨c,cs',rfl,h1,h2⟩:=aL h
    simp only [rel]at h1
    subst h1
    exact⟨[_],cs',rfl,by simp [rd],h2⟩
 | .bool,vs,rest,x,cs,h,hp=>by
   cases vs with
   |nil=>simp [cM]at hp
   |cons v vs=>
    cases v<;>simp [cM]at hp
    obtain⟨rfl,rfl⟩:=hp
    obtain⟨c,cs',rfl,h1,h2⟩:=aL h
    simp only [rel]at h1
    subst h1
    exact⟨[_],cs',rfl,by simp [rd],h2⟩
 | .str,vs,rest,x,cs,h,hp=>by
   cases vs with
   |nil=>simp [cM]at hp
   |cons v vs=>
    cases v<;>simp [cM]at hp
    obtain⟨rfl,rfl⟩:=hp
    obtain⟨c,cs',rfl,h1,h2⟩:=aL h
    simp only [rel]at h1
    subst h1
    exact⟨[_],cs',rfl,by simp [rd],h2⟩
 | .slice e,vs,rest,x,cs,h,hp=>by
   cases vs with
   |nil=>simp [cM]at hp
   |cons v vs=>
    cases v with
    |sh e' l=>
     simp only [cM]at hp
     split at hp
     ·rename_i he
      subst he
      simp only [Option.some.injEq,Prod.mk.injEq]at hp
      obtain⟨rfl,rfl⟩:=hp
      obtain⟨c,cs',rfl,h1,h2⟩:=aL h
      simp only [rel]at h1
      exact⟨[_],cs',rfl,h1,h2⟩
     ·cases hp
    |nil e'=>
     simp only [cM]at hp
     split at hp
     ·simp only [Option.some.injEq,Prod.mk.injEq]at hp
      obtain⟨rfl,rfl⟩:=hp
      obtain⟨c,cs',rfl,h1,h2⟩:=aL h
      have:=fi h1
      subst this
      exact⟨[_],cs',rfl,⟨none,0,0,rfl,rfl,Nat.le_refl _,.inl rfl⟩,h2⟩
     ·cases hp
    |_=>simp [cM]at hp
 | .pair p q,vs,rest,x,cs,h,hp=>by
   unfold cM at hp
   split at hp
   ·rename_i x1 cs1 h1
    split at hp
    ·rename_i y r h2
     simp only [Option.some.injEq,Prod.mk.injEq]at hp
     obtain⟨rfl,rfl⟩:=hp
     obtain⟨c,d,rfl,h3,h4⟩:=tN p h h1
     obtain⟨c',d',rfl,h5,h6⟩:=tN q h4 h2
     exact⟨c++c',d',by simp,⟨c,c',rfl,h3,h5⟩,h6⟩
    ·cases hp
   ·cases hp
 | .unit,vs,rest,x,cs,h,hp=>by
   simp only [cM,Option.some.injEq,Prod.mk.injEq]at hp
   obtain⟨_,rfl⟩:=hp
   exact⟨[],cs,rfl,rfl,h⟩
theorem fj {t:Ty} {vs:List AV} {x:Den t} {cs:List Value} (h:aK L w M vs cs) (hp:dg t vs=some x):rd w M t x cs:=by
 unfold dg at hp
 split at hp
 ·rename_i y h1
  cases hp
  obtain⟨c,d,rfl,h2,h3⟩:=tN t h h1
  have:=dh h3
  subst this
  simpa using h2
 ·cases hp
theorem nA {v:AV} {v':Value} {vs:List AV} (h:rel L w M v v') (hl:lvs v=some vs):aK L w M vs v'.cells.toList∧ ∀c∈v'.cells.toList,c.oneCell'=true:=by
 cases v with
 |undef=>cases hl
 |tup _=>cases hl
 |bz _=>cases hl
 |agg xs=>
  cases hl
  simp only [rel]at h
  obtain⟨cs,rfl,h1,h2⟩:=h
  exact⟨by simpa [Value.cells]using h1,by simpa [Value.cells]using h2⟩
 |_=>
  cases hl
  have hc:v'.cells.toList=[v']∧v'.oneCell'=true:=by
   simp only [rel]at h
   first
    |(subst h;exact⟨rfl,rfl⟩)
    |(obtain⟨_,_,_,e,_⟩:=h;injection e with e;subst e;exact⟨rfl,rfl⟩)
    |(obtain⟨_,_,_,e,_⟩:=h;subst e;exact⟨rfl,rfl⟩)
    |(obtain⟨_,e,_⟩:=h;subst e;exact⟨rfl,rfl⟩)
    |(obtain⟨_,_,e⟩:=h;subst e;exact⟨rfl,rfl⟩)
    |(obtain⟨_,_,_,_,_,e⟩:=h;subst e;exact⟨rfl,rfl⟩)
    |(obtain⟨_,_,_,_,_,_,_,_,_,_,e,_⟩:=h;subst e;exact⟨rfl,rfl⟩)
    |(obtain⟨_,_,_,_,_,_,_,_,e,_⟩:=h;subst e;exact⟨rfl,rfl⟩)
    |(obtain⟨_,_,_,_,_,_,_,e⟩:=h;subst e;exact⟨rfl,rfl⟩)
    |(obtain⟨_,_,_,e,_⟩:=h;simp only [List.cons.injEq,and_true]at e;subst e;exact⟨rfl,rfl⟩)
  rw [hc.1]
  refine⟨?_,by simpa using hc.2⟩
  simp only [aK]
  exact⟨_,_,rfl,h,rfl⟩
def ie (ag:Bool) (vs:List Value):Value:=if ag then .agg vs.toArray else vs.headD undef
theorem nB {ag:Bool} {cs:List AV} {vs:List Value} {v:AV} (h:aK L w M cs vs) (h1: ∀c∈vs,c.oneCell'=true) (hm:mkv ag cs=some v):rel L w M v (ie ag vs):=by
 cases ag with
 |true=>
  simp only [mkv,Option.some.injEq]at hm
  subst hm
  simp only [rel,ie,if_true]
  exact⟨_,rfl,by simpa using h,by simpa using h1⟩
 |false=>
  match cs,hm with
  | [x],hm=>
    simp only [mkv,Option.some.injEq]at hm
    subst hm
    obtain⟨c,cs',rfl,h2,h3⟩:=aL h
    simpa [ie]using h2
theorem vQ: ∀(n:Nat) {xs:List AV} {vs:List Value},aK L w M xs vs→aK L w M (xs.drop n) (vs.drop n)
 |0,_,_,h=>by simpa using h
 |n+1,[],_,h=>by have:=dh h;subst this;simp [aK]
 |n+1,x::xs,_,h=>by
  obtain⟨c,cs',rfl,_,h2⟩:=aL h
  simpa using vQ n h2
theorem vR: ∀(n:Nat) {xs:List AV} {vs:List Value},aK L w M xs vs→aK L w M (xs.take n) (vs.take n)
 |0,_,_,h=>by simp [aK]
 |n+1,[],_,h=>by have:=dh h;subst this;simp [aK]
 |n+1,x::xs,_,h=>by
  obtain⟨c,cs',rfl,h1,h2⟩:=aL h
  simp only [List.take_succ_cons,aK]
  exact⟨_,_,rfl,h1,vR n h2⟩
theorem mI {xs:List AV} {vs:List Value} (h:aK L w M xs vs) (off n:Nat):aK L w M (sub xs off n) (sub vs off n):=vR n (vQ off h)
theorem HK {α:Type} (l:List α) (off n j:Nat) (hj:j<n):(sub l off n)[j]? =l[off+j]? :=by
 simp [sub,List.getElem?_take,hj]
theorem q_ {α:Type} (l:List α) (off n:Nat) (h:off+n≤l.length):(sub l off n).length=n:=by
 simp [sub];omega
theorem tO {α:Type} {l:List α} {off n:Nat} {x:α} (h:x∈sub l off n):x∈l:=List.mem_of_mem_drop (List.mem_of_mem_take h)
theorem nC {α:Type}: ∀(l vs:List α),(nu l vs).length=l.length
 |l,[]=>by cases l<;>simp [nu]
 | [],_::_=>by simp [nu]
 |_::l,v::vs=>by simp [nu,nC l vs]
theorem cD {α:Type}: ∀(l:List α) (n:Nat) (vs:List α),(spl l n vs).length=l.length
 |l,0,vs=>by cases l<;>simp [spl,nC]
 | [],n+1,vs=>by simp [spl]
 |a::l,n+1,vs=>by simp [spl,cD l n vs]
theorem B_ {α:Type}: ∀(l vs:List α) (j:Nat),vs.length≤l.length→(nu l vs)[j]? =if j<vs.length then vs[j]? else l[j]?
 |l,[],j,_=>by cases l<;>simp [nu]
 | [],v::vs,j,h=>by simp at h
 |x::l,v::vs,0,h=>by simp [nu]
 |x::l,v::vs,j+1,h=>by simp [nu,B_ l vs j (by simpa using h)]
theorem eh {α:Type}: ∀(l:List α) (n:Nat) (vs:List α) (j:Nat),n+vs.length≤l.length→(spl l n vs)[j]? =if n≤j∧j<n+vs.length then vs[j-n]? else l[j]?
 |l,0,vs,j,h=>by
  have h1:=B_ l vs j (by omega)
  have h2:spl l 0 vs=nu l vs:=by cases l<;>rfl
  rw [h2,h1];simp
 | [],n+1,vs,j,h=>by simp at h
 |x::l,n+1,vs,0,h=>by simp [spl]
 |x::l,n+1,vs,j+1,h=>by
  simp only [spl,List.getElem?_cons_succ,eh l n vs j (by simp at h;omega)]
  have:(n+1≤j+1∧j+1<n+1+vs.length)↔(n≤j∧j<n+vs.length):=by omega
  simp only [this]
  congr 2;omega
theorem nD: ∀{xs ys:List AV} {vs us:List Value},aK L w M xs vs→aK L w M ys us→aK L w M (nu xs ys) (nu vs us)
 |xs,[],_,_,h,h'=>by
  have:=dh h';subst this
  cases xs with
  |nil=>have:=dh h;subst this;simp [nu,aK]
  |cons x xs=>obtain⟨c,cs',rfl,h1,h2⟩:=aL h;simpa only [nu]using h
 | [],y::ys,_,_,h,h'=>by
   have:=dh h;subst this
   obtain⟨c,cs',rfl,h1,h2⟩:=aL h'
   simp [nu,aK]
 |x::xs,y::ys,_,_,h,h'=>by
  obtain⟨c,cs',rfl,h1,h2⟩:=aL h
  obtain⟨d,ds,rfl,h3,h4⟩:=aL h'
  simp only [nu,aK]
  exact⟨d,_,rfl,h3,nD h2 h4⟩
theorem mJ: ∀(n:Nat) {xs ys:List AV} {vs us:List Value},aK L w M xs vs→aK L w M ys us→aK L w M (spl xs n ys) (spl vs n us)
 |0,xs,ys,vs,us,h,h'=>by
  cases xs with
  |nil=>have:=dh h;subst this;simpa only [spl]using nD h h'
  |cons x xs=>obtain⟨c,cs',rfl,h1,h2⟩:=aL h;simpa only [spl]using nD h h'
 |n+1,[],_,_,_,h,_=>by have:=dh h;subst this;simp [spl,aK]
 |n+1,x::xs,_,_,_,h,h'=>by
  obtain⟨c,cs',rfl,h1,h2⟩:=aL h
  simp only [spl,aK]
  exact⟨c,_,rfl,h1,mJ n h2 h'⟩
theorem tP {α:Type}: ∀{l vs:List α} {x:α},x∈nu l vs→x∈l∨x∈vs
 | [],[],_,h=>by simp [nu]at h
 |_::_,[],_,h=>.inl (by simpa [nu]using h)
 | [],_::_,_,h=>by simp [nu]at h
 |y::l,v::vs,x,h=>by
  simp only [nu,List.mem_cons]at h⊢
  rcases h with h|h
  ·exact .inr (.inl h)
  ·rcases tP h with h|h
   ·exact .inl (.inr h)
   ·exact .inr (.inr h)
theorem z8 {α:Type}: ∀(n:Nat) {l vs:List α} {x:α},x∈spl l n vs→x∈l∨x∈vs
 |0,[],_,_,h=>by simp only [spl]at h;exact tP h
 |0,_::_,_,_,h=>by simp only [spl]at h;exact tP h
 |n+1,[],_,_,h=>by simp [spl]at h
 |n+1,y::l,vs,x,h=>by
  simp only [spl,List.mem_cons]at h⊢
  rcases h with h|h
  ·exact .inl (.inl h)
  ·rcases z8 n h with h|h
   ·exact .inl (.inr h)
   ·exact .inr h
theorem add_lit (b o n:Nat):(⟨b,o,none⟩:Addr).add n=⟨b,o+n,none⟩:=Addr.add_lit b o n
theorem nE (hK:K.Ok) {t:TypeId} {cs:List CT} {ag:Bool} (hl:K.lay t=some (cs,ag)) {b off:Nat} {vs:List Value} (hn:vs.length=cs.length)
 (hc: ∀j,j<cs.length→w.cell? ⟨b,off+j,none⟩=vs[j]?):(Instr.loadAt t (.pointer (some ⟨b,off,none⟩))).run K.P w= .ok (ie ag vs) w:=by
 obtain⟨i,d,h1,h2,h3,h4,h5,h6⟩:=hK.lay t cs ag hl
 have hcells:(loadCells ⟨b,off,none⟩ cs.length).run K.P w= .ok vs.toArray w:=by
  have:=run_loadCells_list (P:=K.P) w ⟨b,off,none⟩ vs (fun j v hj=>by
   have hlt:j<cs.length:=by rw [←hn];exact(List.getElem?_eq_some_iff.1 hj).1
   rw [add_lit,hc j hlt,hj])
  rw [hn]at this
  exact this
 have hag:(isAgg t).run K.P w= .ok ag w:=by
  rw [←h5]
  cases d<;>simp [isAgg,run_underlying h2,sm,iI]
 unfold Instr.loadAt loadVar
 simp only [Instr.sureAddr,Sem.run_bind,Sem.run_pure,Result.andThen_ok,hag]
 cases ag with
 |true=>simp [sizeOf,typeInfo,h1,h3,hcells,ie]
 |false=>
  have h0:=h6
  have:cs.length=1:=by
   have h5':iI (sm d)=false:=h5
   revert h5' h6
   cases sm d<;>simp [iI,HI]<;>(match cs with| []=>simp| [_]=>simp|_::_::_=>simp)
  match vs,hn,hc with
  | [v],_,hc=>
    have:=hc 0 (by omega)
    simp at this
    simp [ie,this]
  | [],hn,_=>simp at hn;omega
  |_::_::_,hn,_=>simp at hn;omega
theorem Qc {C:cy} {O:Opt} (hK:K.Ok) {ty:TypeId} {x:Operand} (h:o.op= .load ty x):ic K C O o:=by
 intro w0 M0 L st a w d k t r R he
 rw [h]at he
 simp only [op1]at he
 split at he
 case h_2=>exact(ab he).elim
 rename_i cs ag hl
 obtain⟨v,t1,h1,hv⟩:=a7 R he
 have fin: ∀{xs:List AV} {vs:List Value} {off:Nat} {u:AV} {t2:List Ac} (b o0:Nat),aK L w (Mut L) xs vs→(∀c∈vs,c.oneCell'=true)→off+cs.length≤xs.length→mkv ag (sub xs off cs.length)=some u→
  (∀j,j<xs.length→w.cell? ⟨b,o0+j,none⟩=vs[j]?)→a.eval x= .pointer (some ⟨b,o0+off,none⟩)→(k u).ex st t2=some r→
  ∃v objs t',(k v).ex ⟨st.env,objs⟩ t'=some r∧Does K w0 M0 o a w L objs v:=by
  intro xs vs off u t2 b o0 hr hone hle hm hc ha hk
  have hlen:=bp hr
  refine⟨u,st.objs,t2,hk,Does.same R (v':=ie ag (sub vs off cs.length)) ?_ (nB (mI hr off cs.length) (fun c hc=>hone c (tO hc)) hm)⟩
  have:=nE hK (w:=w) hl (b:=b) (off:=o0+off) (vs:=sub vs off cs.length) (q_ _ _ _ (by omega)) (fun j hj=>by
   rw [HK _ _ _ _ hj,Nat.add_assoc,hc _ (by omega)])
  simp [execOp,h,ha,this]
 cases v with
 |ptr i off=>
  obtain⟨y,h2,h3⟩:=br h1
  cases y with
  |arr _ _ _ _=>exact(ab h3).elim
  |map _ _ _ _=>exact(ab h3).elim
  |var xs=>
   simp only at h3
   split at h3
   case isFalse=>exact(ab h3).elim
   rename_i hle
   split at h3
   case h_2=>exact(ab h3).elim
   rename_i u hm
   simp only [rel]at hv
   obtain⟨b,o0,cap,cs',h4,h5⟩:=hv
   have hob:=R.ob i
   rw [h2,h4]at hob
   simp only [Option.map_some,Option.some.injEq,Ob.var.injEq]at hob
   subst hob
   obtain⟨b',o',vs,h6,h7,h8,h9,_⟩:=R.ro.ok i _ h4
   simp only [Option.some.injEq,Prod.mk.injEq]at h6
   obtain⟨rfl,rfl⟩:=h6
   exact fin b o0 h7 h8 hle hm (fun j hj=>(h9 j hj).1) h5 h3
 |eptr i ver n off=>
  obtain⟨y,h2,h3⟩:=br h1
  cases y with
  |var _=>exact(ab h3).elim
  |map _ _ _ _=>exact(ab h3).elim
  |arr e v' z xs=>
   simp only at h3
   split at h3
   case isFalse=>exact(ab h3).elim
   rename_i hle
   split at h3
   case h_2=>exact(ab h3).elim
   rename_i hze
   split at h3
   case h_2=>exact(ab h3).elim
   rename_i u hm
   simp only [rel]at hv
   obtain⟨l,e',cur,z',xs',p,h4,h5,h6,h7⟩:=hv
   have hob:=R.ob i
   rw [h2,h4]at hob
   simp only [Option.map_some,Option.some.injEq,Ob.arr.injEq]at hob
   obtain⟨rfl,rfl,rfl,hxs⟩:=hob
   have hxs:=eq_of_heq hxs
   subst hxs
   obtain⟨b,o0,hb,hn0,hn1,rfl⟩:=h7 hle.1
   rcases R.ro.ok i _ h4 with⟨h8,_⟩|⟨b',o',h8,h9,h10,_,_⟩
   ·simp only at h8;rw [hb]at h8;cases h8
   ·simp only at h8
    rw [hb]at h8
    simp only [Option.some.injEq,Prod.mk.injEq]at h8
    obtain⟨rfl,rfl⟩:=h8
    have hlt:n.toNat<xs.length:=by omega
    obtain⟨ds,h11,h12,h13⟩:=h10 n.toNat hlt
    rw [f_ hze]at h12
    have hg:xs.getD n.toNat (Den.zero e)=xs[n.toNat]:=by simp [List.getD,hlt]
    rw [hg]at hm
    have hll:(cL e xs[n.toNat]).length=e.size:=by have:=bp (cN (L:=L) e h12);omega
    exact fin b (o0+n.toNat*e.size) (cN e h12) (ny e h12) (by rw [hll];exact hle.2) hm (fun j hj=>h13 j (by omega)) h6 h3
 |sel e y off=>
  simp only at h1
  split at h1
  case isFalse=>exact(ab h1).elim
  rename_i hle
  split at h1
  case h_2=>exact(ab h1).elim
  rename_i u hm
  simp only [rel]at hv
  obtain⟨b,o0,ds,h2,h3,h4,h5⟩:=hv
  have hll:(cL e y).length=e.size:=by have:=bp (cN (L:=L) e h4);omega
  exact fin b o0 (cN e h4) (ny e h4) (by rw [hll];exact hle) hm (fun j hj=>(h5 j (by omega)).1) h2 h1
 |_=>exact(ab h1).elim
end Go.Proofs.YtihabpimbfmhhaaGreatDoor.Ev
namespace Go.Proofs.YtihabpimbfmhhaaGreatDoor.Ev
open Go Go.RowKit
set_option linter.unusedSimpArgs false
variable {K:Ctx} {w0:World} {M0:Bd} {L:Lk} {st:St} {a:Act} {w:World} {o:Oper} {M:Nat→Nat→Prop}
theorem nF (R:Rl K w0 M0 L st a w) {i:Nat} (h:getO st.objs i=none):L i=none:=by
 have:=R.ob i
 rw [h]at this
 cases hL:L i with
 |none=>rfl
 |some p=>rw [hL]at this;cases this
theorem ey (R:Rl K w0 M0 L st a w) (i:Nat) (l:Loc) (x:Ob): ∀j,getO (putO st.objs i x) j=((upd L i (l,x)) j).map (·.2):=by
 intro j
 rw [aV]
 by_cases hj:j=i
 ·subst hj;simp [upd]
 ·simp [upd,hj,R.ob j]
theorem fk (w:World) (c:Array Value) (t:TypeId):(w.alloc (.cells c t)).shape? w.heap.size=some (t,c.size):=by
 simp [World.shape?,World.alloc, -World.alloc_eq]
theorem vS (w:World) (c:Array Value) (t:TypeId) (m:Nat×Nat):(w.alloc (.cells c t m)).shape? w.heap.size=some (t,c.size):=by
 simp [World.shape?,World.alloc, -World.alloc_eq]
theorem HL (hK:K.Ok) (R:Rl K w0 M0 L st a w) {i:Nat} (hi:getO st.objs i=none) {xs:List AV} {v:Value} {t:TypeId} (hr:aK L w (Mut L) xs v.cells.toList) (h1: ∀c∈v.cells.toList,c.oneCell'=true) (hbz: ∀u r,xs= .bz u::r→u=t∧ ∃vs',v.cells.toList= .pointer none::vs')
 (hrun:(execOp a.eval o).run K.P w= .ok (.value (.pointer (some ⟨w.heap.size,0,none⟩))) (w.alloc (.cells v.cells t))):
 Does K w0 M0 o a w L (putO st.objs i (.var xs)) (.ptr i 0):=by
 have hlen:=bp hr
 obtain⟨h2,h3,h4⟩:=R.ro.new hK (nF R hi) (p:=(⟨some (w.heap.size,0),0,[]⟩,.var xs)) (w':=w.alloc (.cells v.cells t)) (Fr.alloc w _ _)
  (fun ht=>⟨w.heap.size,0,v.cells.toList,rfl,by
   have hT:Turn L (upd L i (⟨some (w.heap.size,0),0,[]⟩,.var xs)):=by
    intro j l x hj
    have hne:j≠i:=by intro e;subst e;rw [nF R hi]at hj;cases hj
    obtain⟨l',x',h1,h2⟩:=Turn.refl L j l x hj
    exact⟨l',x',by rw [aG L _ hne];exact h1,h2⟩
   exact ci hT ht xs hr,h1,fun j hj=>by
    constructor
    ·rw [Nat.zero_add,World.cell?_alloc_new];simp
    ·rw [Nat.zero_add,World.frozen?_alloc_new],fun u r e=>by
    obtain⟨rfl,vs',e2⟩:=hbz u r e
    refine⟨rfl, ?_,none,vs',e2,.inl rfl⟩
    show(w.alloc (.cells v.cells u)).shape? w.heap.size=some (u,xs.length)
    rw [fk,←hlen];simp⟩)
  (fun b o' hr'=>by obtain⟨o0,e,_,_⟩:=cg rfl hr';simp only [Option.some.injEq,Prod.mk.injEq]at e;omega)
 refine Does.val hrun h2 (ey R i _ _) h4 h3 ?_
 simp only [rel]
 exact⟨w.heap.size,0,0,xs,av _ _ _,rfl⟩
theorem MH: ∀(c:CT),rel L w M c.zero (zv c)
 | .int k=>by simp [CT.zero,zv,rel]
 | .bool=>by simp [CT.zero,zv,rel]
 | .str=>by simp [CT.zero,zv,rel]
 | .slice e=>by simp [CT.zero,zv,rel]
 | .ptr=>by simp [CT.zero,zv,rel]
 | .fn=>by simp [CT.zero,zv,rel]
 | .map=>by simp [CT.zero,zv,rel]
 | .iface=>by simp [CT.zero,zv,rel]
 | .bptr _=>by simp [CT.zero,rel]
theorem ju: ∀(cs:List CT),aK L w M (cs.map CT.zero) (cs.map zv)
 | []=>by simp [aK]
 |c::cs=>by simp only [List.map_cons,aK];exact⟨_,_,rfl,MH c,ju cs⟩
theorem HM (c:CT):(zv c).oneCell'=true:=by cases c<;>rfl
theorem MI (c:CT):(zv c).cells= #[zv c]:=by cases c<;>rfl
theorem z_ (hK:K.Ok) {t:TypeId} {cs:List CT} (hl:K.lay t=some (cs,false)): ∃c,cs=[c]:=by
 obtain⟨i,d,h1,h2,h3,h4,h5,h6⟩:=hK.lay t cs false hl
 revert h5 h6
 cases sm d<;>simp [iI,HI]<;>(match cs with| []=>simp| [c]=>simp|_::_::_=>simp)
theorem kK (hK:K.Ok) {t:TypeId} {cs:List CT} {ag:Bool} (hl:K.lay t=some (cs,ag)):(jm cs ag).cells.toList=cs.map zv:=by
 cases ag with
 |true=>simp [jm,Value.cells]
 |false=>
  obtain⟨c,rfl⟩:=z_ hK hl
  simp [jm,MI]
theorem jv (hK:K.Ok) {t:TypeId} {cs:List CT} {ag:Bool} (hl:K.lay t=some (cs,ag)) (w:World):(zeroValue t).run K.P w= .ok (jm cs ag) w:=by
 obtain⟨i,d,h1,h2,h3,h4,h5,h6⟩:=hK.lay t cs ag hl
 simp [zeroValue,typeInfo,h1,h4]
theorem dz (hK:K.Ok) {t:TypeId} {cs:List CT} {ag:Bool} (hl:K.lay t=some (cs,ag)) (w:World):(sizeOf t).run K.P w= .ok cs.length w:=by
 obtain⟨i,d,h1,h2,h3,h4,h5,h6⟩:=hK.lay t cs ag hl
 simp [sizeOf,typeInfo,h1,h3]
theorem HN (hK:K.Ok) {t:TypeId} {cs:List CT} {ag:Bool} (hl:K.lay t=some (cs,ag)) (w:World):(isAgg t).run K.P w= .ok ag w:=by
 obtain⟨i,d,h1,h2,h3,h4,h5,h6⟩:=hK.lay t cs ag hl
 rw [←h5]
 cases d<;>simp [isAgg,run_underlying h2,sm,iI]
theorem MJ {C:cy} {O:Opt} (hK:K.Ok) {ty:TypeId} (h:o.op= .alloc ty):ic K C O o:=by
 intro w0 M0 L st a w d k t r R he
 rw [h]at he
 simp only [op1]at he
 split at he
 case h_2=>exact(ab he).elim
 rename_i cs ag hl
 obtain⟨h1,h2⟩:=cW he
 have hz:=kK hK hl
 refine⟨_,_,_,h2,HL hK R h1 (v:=jm cs ag) (t:=ty) (by rw [hz];exact ju cs) (by
  rw [hz];intro c hc;obtain⟨x,_,rfl⟩:=List.mem_map.1 hc;exact HM x) (by
  intro u r e
  cases cs with
  |nil=>cases e
  |cons c cs=>
   simp only [List.map_cons,List.cons.injEq]at e
   have hc:c= .bptr u:=by cases c<;>simp [CT.zero]at e<;>simp [e.1]
   subst hc
   exact⟨hK.bz ty _ ag u cs hl rfl,_,by rw [hz,List.map_cons];rfl⟩) ?_⟩
 simp [execOp,h,Instr.alloc,jv hK hl,newVar,newRow]
theorem RC {C:cy} {O:Opt} (hK:K.Ok) {ty:TypeId} {x:Operand} (h:o.op= .box ty x):ic K C O o:=by
 intro w0 M0 L st a w d k t r R he
 rw [h]at he
 simp only [op1]at he
 split at he
 case h_2=>exact(ab he).elim
 rename_i cs ag hl
 obtain⟨v,t1,h1,hv⟩:=a7 R he
 split at h1
 case h_2=>exact(ab h1).elim
 rename_i vs hvs
 split at h1
 case isFalse=>exact(ab h1).elim
 rename_i hcnd
 obtain⟨h2,h3⟩:=cW h1
 obtain⟨h4,h5⟩:=nA hv hvs
 refine⟨_,_,_,h3,HL hK R h2 (v:=a.eval x) (t:=ty) h4 h5 (fun u r e=>by have:=hcnd.2;rw [e]at this;cases this) ?_⟩
 simp [execOp,h,Instr.box,newVar,newRow]
theorem Fr.setCells {N:Nat→Nat→Prop} (b:Nat): ∀(vs:List Value) (o:Nat) (w:World),(∀j,j<vs.length→N b (o+j))→Fr w N (w.setCells b o vs)
 | [],_,w,_=>Fr.refl w N
 |v::vs,o,w,h=>(Fr.setCell w b o v (by simpa using h 0 (by simp))).trans (Fr.setCells b vs (o+1) _ fun j hj=>by
   have:=h (j+1) (by simpa using hj);rwa [show o+1+j=o+(j+1) by omega]) fun _ _ _=>id
theorem gc (hK:K.Ok) {t:TypeId} {cs:List CT} {ag:Bool} (hl:K.lay t=some (cs,ag)) {b off:Nat} {v:Value} (hn:v.cells.toList.length=cs.length) (h1: ∀c∈v.cells.toList,c.oneCell'=true)
 (hc: ∀j,j<cs.length→(∃u,w.cell? ⟨b,off+j,none⟩=some u)∧w.frozen? ⟨b,off+j,none⟩=false):(Instr.storeAt t (.pointer (some ⟨b,off,none⟩)) v).run K.P w= .ok () (w.setCells b off v.cells.toList):=by
 have hst:=run_storeCells_cells (P:=K.P) b off v.cells.toList 0 w (fun j hj=>by
  obtain⟨⟨u,hu⟩,_⟩:=hc j (by omega);simp [hu]) (fun j hj=>by simpa using(hc j (by omega)).2) h1
 simp only [Nat.add_zero]at hst
 have hn':v.cells.size=cs.length:=by rw [←hn];simp
 simp [Instr.storeAt,storeVar,Instr.sureAddr,dz hK hl,hn',hst]
theorem bC {b o:Nat} {vs:List Value} {w:World} (hc: ∀j,j<vs.length→ ∃u,w.cell? ⟨b,o+j,none⟩=some u) (x:Nat):
 (w.setCells b o vs).cell? ⟨b,x,none⟩=if o≤x∧x<o+vs.length then vs[x-o]? else w.cell? ⟨b,x,none⟩:=by
 split
 ·rename_i h
  obtain⟨j,rfl⟩: ∃j,x=o+j:=⟨x-o,by omega⟩
  rw [World.cell?_setCells_in b vs o w (fun j hj=>by obtain⟨u,hu⟩:=hc j hj;simp [hu]) j (by omega)]
  simp only [Nat.add_sub_cancel_left]
  rw [List.getElem?_eq_getElem]
 ·rename_i h
  exact World.cell?_setCells_out b vs o w _ fun _ _=>by simp only;omega
theorem RD {w w':World} {b o off:Nat} {xs vs:List AV} {us ws:List Value} (hbz:T4 w b o xs us) (hnb:PW vs=true) (hlen:vs.length=ws.length) (hul:us.length=xs.length) (hle:off+vs.length≤xs.length)
 (hsh:w'.shape? b=w.shape? b):T4 w' b o (spl xs off vs) (spl us off ws):=by
 intro t r e
 have key:xs.head?=some (.bz t)→(spl us off ws).head?=us.head?→o=0∧w'.shape? b=some (t,(spl xs off vs).length)∧ ∃p vs',spl us off ws= .pointer p::vs'∧(p=none∨p=some ⟨b,0,none⟩):=by
  intro h1 h2
  cases xs with
  |nil=>cases h1
  |cons x xs=>
   simp only [List.head?_cons,Option.some.injEq]at h1
   subst h1
   obtain⟨g1,g2,p,vs',g3,g4⟩:=hbz t xs rfl
   have h3:us.head?=some (.pointer p):=by rw [g3];rfl
   rw [h3]at h2
   refine⟨g1,by rw [hsh,cD];exact g2,p, ?_⟩
   cases hq:spl us off ws with
   |nil=>rw [hq]at h2;cases h2
   |cons q qs=>rw [hq]at h2;simp only [List.head?_cons,Option.some.injEq]at h2;subst h2;exact⟨qs,rfl,g4⟩
 cases off with
 |zero=>
  cases vs with
  |nil=>
   have:ws=[]:=List.length_eq_zero_iff.1 hlen.symm
   subst this
   have e1:spl xs 0 []=xs:=by cases xs<;>rfl
   have e2:spl us 0 []=us:=by cases us<;>rfl
   rw [e1]at e
   exact key (by rw [e];rfl) (by rw [e2])
  |cons v vs=>
   cases xs with
   |nil=>simp at hle
   |cons x xs=>
    simp only [spl,nu,List.cons.injEq]at e
    rw [e.1]at hnb;cases hnb
 |succ n=>
  cases xs with
  |nil=>simp at hle
  |cons x xs=>
   cases us with
   |nil=>cases hul
   |cons u us=>
    simp only [spl,List.cons.injEq]at e
    exact key (by rw [e.1];rfl) rfl
end Go.Proofs.YtihabpimbfmhhaaGreatDoor.Ev
