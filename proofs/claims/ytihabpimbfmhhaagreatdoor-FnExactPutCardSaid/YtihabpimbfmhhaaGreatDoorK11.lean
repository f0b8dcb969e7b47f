/- The texts Ev26, one behind the other. -/
import Derived.Test.YtihabpimbfmhhaaGreatDoorK10
import Derived.ChangeArms
import Derived.SizedLaws
import Derived.DataReads
import Derived.DataElems
namespace Go.Proofs.YtihabpimbfmhhaaGreatDoor.Ev
open Go Go.RowKit
set_option linter.unusedSimpArgs false
set_option linter.unusedVariables false
def If (P:Program) (v:TypeId→Option Ty):Nat→List Field→Option Ty
 |_,[]=>none
 |off,f::fs=>match v f.type with
  |some y=>match decide (f.offset=off)&&decide (P.cellsOf f.type=y.size)with
   |true=>match fs with
    | []=>some y
    |_::_=>match If P v (off+y.size) fs with
     |some z=>some (.pair y z)
     |none=>none
   |false=>none
  |none=>none
def OV (P:Program):Nat→TypeId→Option Ty
 |0,_=>none
 |k+1,t=>match P.underlying t with
  |some (.int q)=>some (.int q)
  |some .bool=>some .bool
  |some .string=>some .str
  |some (.slice e)=>match OV P k e with
   |some y=>match decide (P.cellsOf e=y.size)&&decide (0<P.bytesOf e)&&decide (0<y.size)with
    |true=>some (.slice y)
    |false=>none
   |none=>none
  |some (.struct fs)=>match If P (OV P k) 0 fs.toList with
   |some y=>match decide (P.cellsOf t=y.size)with
    |true=>some y
    |false=>none
   |none=>none
  |_=>none
def wj:(t:Ty)→Den t→Prop
 | .int k,n=>(Lit.int k n).wf=true
 | .bool,_=>True
 | .str,s=>s.length≤reachBytes
 | .slice e,l=>l.length≤reachBytes∧ ∀x∈l,wj e x
 | .pair a b,x=>wj a x.1∧wj b x.2
 | .unit,_=>True
theorem Qn {α:Type} {n:Nat} {p:Nat→α→Prop} (h: ∀i,i<n→ ∃x,p i x): ∃l:List α,l.length=n∧ ∀i (hi:i<l.length),p i l[i]:=by
 induction n with
 |zero=>exact⟨[],rfl,fun i hi=>by simp at hi⟩
 |succ n ih=>
  obtain⟨l,hl,hp⟩:=ih fun i hi=>h i (by omega)
  obtain⟨x,hx⟩:=h n (by omega)
  refine⟨l++[x],by simp [hl],fun i hi=> ?_⟩
  by_cases hi':i<l.length
  ·rw [List.getElem_append_left hi'];exact hp i hi'
  ·have:i=n:=by simp at hi;omega
   subst this
   rw [List.getElem_append_right (by omega)]
   simpa [hl]using hx
section
variable {H:Type} {enc:TypeId×Value→H} {P:Program} {w:World} {base:Nat} {spare:Nat→Bool} {held:Bool}
theorem ip {e:TypeId}: ∀{l:List (DataW H)} {d:DataW H},d∈l→ ∀m∈d.weights P e,m∈DataW.weightsAll P e l
 |x::l,d,hd,m,hm=>by
  simp only [DataW.weightsAll,List.mem_append]
  rcases List.mem_cons.1 hd with rfl|hd
  ·exact .inl hm
  ·exact .inr (ip hd m hm)
theorem rl {v:TypeId→Option Ty} {n:Nat} (ih: ∀{t y} (_:v t=some y) {cs:List Value} {d:DataW H} {ps:List MemPlace},DataW.trod enc P w base spare held n t cs=some (d,ps)→(∀m∈d.weights P t,m≤reachBytes)→ ∃x:Den y,rd w (fun _ _=>False) y x cs∧wj y x):
 ∀(fs:List Field) {off:Nat} {y:Ty} (_:If P v off fs=some y) {cs:List Value} {xs:List (DataW H×List MemPlace)},cs.length=off+y.size→xs.length=fs.length→
 (∀(i:Nat) (f:Field),fs[i]? =some f→DataW.trod enc P w base spare held n f.type ((cs.drop f.offset).take (P.cellsOf f.type))=xs[i]?)→(∀m∈DataW.weightsEach P (fs.map (·.type)) (xs.map (·.1)),m≤reachBytes)→
 ∃x:Den y,rd w (fun _ _=>False) y x (cs.drop off)∧wj y x
 | [],off,y,hv,cs,xs,_,_,_,_=>by simp [If]at hv
 |f::fs,off,y,hv,cs,xs,hl,hxl,hf,hz=>by
  simp only [If]at hv
  split at hv
  case h_2=>cases hv
  rename_i y1 hy1
  split at hv
  case h_2=>cases hv
  rename_i hc
  simp only [Bool.and_eq_true,decide_eq_true_eq]at hc
  obtain⟨hoff,hsz⟩:=hc
  match xs,hxl with
  |⟨d,ps⟩::xs,hxl=>
   have h0:=hf 0 f rfl
   simp only [List.getElem?_cons_zero]at h0
   simp only [List.map_cons,DataW.weightsEach,List.mem_append]at hz
   obtain⟨x1,r1,g1⟩:=ih hy1 h0 fun m hm=>hz m (.inl hm)
   rw [hoff,hsz]at r1
   cases fs with
   |nil=>
    cases hv
    refine⟨x1, ?_,g1⟩
    rwa [List.take_of_length_le (by simp;omega)]at r1
   |cons f2 fs2=>
    simp only at hv
    split at hv
    case h_2=>cases hv
    rename_i z hzv
    cases hv
    have hps:(Ty.pair y1 z).size=y1.size+z.size:=by simp [Ty.size,Ty.cts]
    obtain⟨x2,r2,g2⟩:=rl ih (f2::fs2) hzv (cs:=cs) (xs:=xs) (by omega) (by simpa using hxl) (fun i f' hi=>by simpa using hf (i+1) f' (by simpa using hi)) fun m hm=>hz m (.inr hm)
    refine⟨(x1,x2), ?_,g1,g2⟩
    simp only [rd]
    refine⟨_,_, ?_,r1,r2⟩
    rw [←List.drop_drop,List.take_append_drop]
theorem n7: ∀(k:Nat) {t:TypeId} {y:Ty} (_:OV P k t=some y) {n:Nat} {cs:List Value} {d:DataW H} {ps:List MemPlace},DataW.trod enc P w base spare held n t cs=some (d,ps)→(∀m∈d.weights P t,m≤reachBytes)→
 ∃x:Den y,rd w (fun _ _=>False) y x cs∧wj y x
 |0,t,y,hv,n,cs,d,ps,h,hz=>by simp [OV]at hv
 |k+1,t,y,hv,n,cs,d,ps,h,hz=>by
  simp only [OV]at hv
  split at hv
  ·rename_i q hu
   cases hv
   obtain⟨m,rfl,hx,hw⟩:=DataW.trod_int hu h
   exact⟨m,rfl,hw⟩
  ·rename_i hu
   cases hv
   obtain⟨b,rfl,hx⟩:=DataW.trod_bool hu h
   exact⟨b,rfl,trivial⟩
  ·rename_i hu
   cases hv
   obtain⟨s,rfl,hx,hs⟩:=DataW.trod_string hu h
   simp only [Prod.mk.injEq]at hx
   obtain⟨rfl,_⟩:=hx
   refine⟨s.data.toList,by simp [rd], ?_⟩
   exact hz _ (by simp [DataW.weights])
  ·rename_i e hu
   split at hv
   case h_2=>cases hv
   rename_i ye hye
   split at hv
   case h_2=>cases hv
   rename_i hc
   simp only [Bool.and_eq_true,decide_eq_true_eq]at hc
   cases hv
   rcases DataW.trod_slice hu h with⟨rfl,hx⟩|⟨a,len,cap,elems,rest,m,_,rfl,hx,hb,hl,hm,hlen,hel,_,_⟩
   ·exact⟨[],by simp only [rd];exact⟨none,0,0,rfl,rfl,Nat.le_refl _,.inl trivial⟩,by simp [wj]⟩
   ·simp only [Prod.mk.injEq]at hx
    obtain⟨rfl,_⟩:=hx
    have hw1:(elems.length+rest.length)*P.bytesOf e≤reachBytes:=by
     have:=hz ((elems.length+rest.length)*P.bytesOf e) (by simp [DataW.weights,hu])
     exact this
    have hle:elems.length≤reachBytes:=by
     have:elems.length*1≤(elems.length+rest.length)*P.bytesOf e:=Nat.mul_le_mul (by omega) hc.1.2
     omega
    have hall: ∀i,i<elems.length→ ∃x:Den ye,wj ye x∧ ∃ds:List Value,ds.length=ye.size∧rd w (fun _ _=>False) ye x ds∧ ∀j,j<ye.size→w.cell? (a.add (i*ye.size+j))=ds[j]? :=fun i hi=>by
     have h1:=hel i (by omega)
     rw [List.getElem?_eq_getElem hi,Option.bind_eq_some_iff]at h1
     obtain⟨ds,hds,h2⟩:=h1
     obtain⟨_,h4,h5⟩:=World.cells?_some hds
     obtain⟨x,r,g⟩:=n7 k hye (d:=elems[i].1) (ps:=elems[i].2) h2 fun q hq=>hz q (by
      simp only [DataW.weights,hu,List.mem_cons,List.mem_append]
      exact .inr (.inl (ip (List.mem_map_of_mem (List.getElem_mem _)) q hq)))
     refine⟨x,g,ds,by rw [h4,hc.1.1],r,fun j hj=> ?_⟩
     have:=h5 j (by rw [hc.1.1];exact hj)
     rw [hc.1.1]at this
     rw [←this]
     congr 1
     rw [Addr.add_add]
    obtain⟨l,hll,hlp⟩:=Qn hall
    refine⟨l, ?_,by omega,fun x hx=> ?_⟩
    ·simp only [rd]
     refine⟨_,_,_,rfl,by omega,hl, ?_⟩
     by_cases hn:l=[]
     ·exact .inl hn
     ·right
      obtain⟨b,off,spot⟩:=a
      have hpos:0<l.length:=List.length_pos_iff.2 hn
      have hsp:spot=none:=by
       obtain⟨_,ds,h1,_,h3⟩:=hlp 0 hpos
       have h4:=h3 0 hc.2
       rw [List.getElem?_eq_getElem (by omega)]at h4
       cases spot with
       |none=>rfl
       |some s=>
        simp only [World.cell?,Addr.add]at h4
        split at h4<;>first|(simp at h4;done)|simp_all
      subst hsp
      refine⟨b,off,rfl,fun i hi=> ?_⟩
      obtain⟨_,ds,h1,h2,h3⟩:=hlp i hi
      refine⟨ds,h1,h2,fun j hj=>⟨?_,fun h=>h⟩⟩
      have:=h3 j hj
      rw [←this]
      simp [add_lit,Nat.add_assoc]
    ·obtain⟨i,hi,rfl⟩:=List.mem_iff_getElem.1 hx
     exact(hlp i hi).1
  ·rename_i fs hu
   split at hv
   case h_2=>cases hv
   rename_i y' hy'
   split at hv
   case h_2=>cases hv
   rename_i hc
   simp only [decide_eq_true_eq]at hc
   cases hv
   obtain⟨xs,m,_,hx,hl,hlen,hf⟩:=DataW.trod_struct hu h
   simp only [Prod.mk.injEq]at hx
   obtain⟨rfl,_⟩:=hx
   have:=rl (fun hv'=>n7 k hv') fs.toList hy' (cs:=cs) (xs:=xs) (by omega) (by simpa using hlen) (fun i f hi=>hf i f (by simpa using hi)) (by simpa only [DataW.weights,hu]using hz)
   simpa using this
  ·cases hv
end
end Go.Proofs.YtihabpimbfmhhaaGreatDoor.Ev
