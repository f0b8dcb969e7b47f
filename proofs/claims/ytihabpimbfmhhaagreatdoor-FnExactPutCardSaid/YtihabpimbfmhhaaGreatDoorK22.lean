/- The texts JoinS, CutS, one behind the other. -/
import Derived.Test.YtihabpimbfmhhaaGreatDoorK13
import Derived.Test.YtihabpimbfmhhaaGreatDoorK21
namespace Go.Proofs.YtihabpimbfmhhaaGreatDoor.Ev
open Go Go.RowKit
set_option linter.unusedVariables false
set_option linter.unusedSimpArgs false
noncomputable section
def dZ (l:List aa) (sep:aa):aa:=Lib.join l sep
def Ph:List AV→List Ob→Br
 | [.sh .str l,.str sep],[]=>.ite (decide (l.length≤1000000)&&decide ((dZ l sep).length≤1000000)) (.ret (.str (dZ l sep)) []) .fail
 |_,_=>.fail
theorem Dz:Sound Kx 262 Ph:=by
 refine bU Tryz.func262 (by kernel_rfl) rfl fun args objs res objs' hv w L vs hR hr=> ?_
 unfold Ph at hv
 split at hv
 case h_2=>cases hv
 rename_i l sep
 obtain⟨h1,h2⟩:=af hv
 cases h2
 simp only [Bool.and_eq_true,decide_eq_true_eq]at h1
 refine⟨rfl, ?_⟩
 simp only [aK,rel,rd]at hr
 obtain⟨v,vs',rfl,⟨a,n,c,hv1,rfl,hc,hq⟩,v2,vs2,rfl,rfl,rfl⟩:=hr
 obtain rfl:v= .slice a l.length c:=by simpa using hv1
 by_cases hl:l=[]
 ·subst hl
  refine(Tryz.strings_Join_none a c ⟨sep.toArray⟩ w).mono ?_
  rintro e w' ⟨rfl,rfl⟩
  exact⟨_,rfl,Below.refl _ _,by simp only [rel];rfl⟩
 ·rcases hq with hq|⟨b,o,rfl,hq⟩
  ·exact absurd hq hl
  have hcell: ∀(j:Nat) x,(l.map fun s=>(⟨s.toArray⟩:ByteArray))[j]? =some x→w.cell? ⟨b,o+j,none⟩=some (.string x):=by
   intro j x hx
   rw [List.getElem?_map]at hx
   obtain⟨s,hs,rfl⟩:=Option.map_eq_some_iff.1 hx
   obtain⟨hj,rfl⟩:=List.getElem?_eq_some_iff.1 hs
   obtain⟨ds,g1,rfl,g3⟩:=hq j hj
   have:=(g3 0 (by decide)).1
   simp only [Ty.size,Ty.cts,List.length_singleton,Nat.mul_one,Nat.add_zero]at this
   rw [this];rfl
  have hmap:(l.map fun s=>(⟨s.toArray⟩:ByteArray)).map (·.data.toList)=l:=by
   rw [List.map_map];conv=>rhs;rw [←List.map_id l]
   exact List.map_congr_left fun s _=>rfl
  have hlt:b<w.heap.size:=World.block_lt_of_cell? w ⟨b,o+0,none⟩ (hcell 0 ⟨(l[0]'(List.length_pos_iff.2 hl)).toArray⟩ (by simp [List.length_pos_iff.2 hl]))
  have:=Tryz.strings_Join b o c (l.map fun s=>⟨s.toArray⟩) ⟨sep.toArray⟩ w hcell hlt (by rw [List.length_map];omega) (by rw [List.length_map];exact hc) (by rw [hmap];have:=h1.2;unfold dZ at this;show(Lib.join l sep).length≤_;omega)
  rw [List.length_map]at this
  refine this.mono ?_
  rintro e w' ⟨rfl,hb⟩
  refine⟨_,rfl,hb, ?_⟩
  simp only [rel]
  rw [hmap];rfl
def so (s sep:aa):aa×aa×Bool:=Lib.cut s sep
def Sz:List AV→List Ob→Br
 | [.str s,.str sep],[]=>.ite (decide (s.length≤1000000)) (.ret (.tup [.str (so s sep).1,.str (so s sep).2.1,.bool (so s sep).2.2]) []) .fail
 |_,_=>.fail
theorem Jv:Sound Kx 219 Sz:=by
 refine bU Tryz.func219 (by kernel_rfl) rfl fun args objs res objs' hv w L vs hR hr=> ?_
 unfold Sz at hv
 split at hv
 case h_2=>cases hv
 rename_i s sep
 obtain⟨h1,h2⟩:=af hv
 cases h2
 rw [decide_eq_true_eq]at h1
 refine⟨rfl, ?_⟩
 simp only [aK,rel]at hr
 obtain⟨v,vs',rfl,rfl,v2,vs2,rfl,rfl,rfl⟩:=hr
 obtain⟨m,hm⟩:=hR.g.2.1 0 (by kernel_rfl)
 refine(Tryz.strings_Cut ⟨s.toArray⟩ ⟨sep.toArray⟩ m w (by show s.toArray.size<_;simp;omega) hm).mono ?_
 rintro e w' ⟨rfl,n,rfl⟩
 refine⟨_,rfl,⟨rfl,rfl,rfl,Nat.le_refl _,fun _ _=>rfl⟩, ?_⟩
 simp only [rel,aK]
 exact⟨_,rfl,_,_,rfl,rfl,_,_,rfl,rfl,_,_,rfl,rfl,rfl⟩
end
end Go.Proofs.YtihabpimbfmhhaaGreatDoor.Ev
