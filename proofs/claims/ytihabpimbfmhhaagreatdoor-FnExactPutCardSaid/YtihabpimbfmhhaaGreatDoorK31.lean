/- The texts AtoiS, one behind the other. -/
import Derived.Test.YtihabpimbfmhhaaGreatDoorK26
import Derived.Test.YtihabpimbfmhhaaGreatDoorK13
import Derived.Test.YtihabpimbfmhhaaGreatDoorK30
namespace Go.Proofs.YtihabpimbfmhhaaGreatDoor.Ev
open Go Go.RowKit
set_option linter.unusedVariables false
set_option linter.unusedSimpArgs false
noncomputable section
def Pq:List AV→List Ob→Br
 | [.str s],[]=>.ite (decide (s.length≤1000000)) (.ite (eN s) (.ret (.tup [.int .i64 (dq s),.noerr]) []) (.ret (.tup [.int .i64 (dq s),.err]) [])) .fail
 |_,_=>.fail
theorem NI:Sound Kx 284 Pq:=by
 refine bU Tryz.func284 (by kernel_rfl) rfl fun args objs res objs' hv w L vs hR hr=> ?_
 unfold Pq at hv
 split at hv
 case h_2=>cases hv
 rename_i s
 obtain⟨h1,h2⟩:=af hv
 rw [decide_eq_true_eq]at h1
 have hsz:(⟨s.toArray⟩:ByteArray).size=s.length:=by show s.toArray.size=_;simp
 simp only [aK,rel]at hr
 obtain⟨v,vs',rfl,rfl,rfl⟩:=hr
 cases ha:Lib.atoiAll s with
 |ok n=>
  have e1:eN s=true:=by unfold eN;rw [ha]
  have e2:dq s=n:=by unfold dq;rw [ha]
  rw [e1]at h2
  cases h2
  refine⟨rfl,(Tryz.strconv_Atoi_ok ⟨s.toArray⟩ (by rw [hsz];omega) n ha w).mono ?_⟩
  rintro e w' ⟨rfl,hw⟩
  refine⟨_,rfl, ?_, ?_⟩
  ·rcases hw with rfl|⟨t,rfl⟩
   ·exact Below.refl _ _
   ·exact Lib.bytesWorld_below _ _ _
  ·rw [e2]
   simp only [rel,aK]
   exact⟨_,rfl,_,_,rfl,rfl,_,_,rfl,rfl,rfl⟩
 |range=>
  have e1:eN s=false:=by unfold eN;rw [ha]
  have e2:dq s=Lib.atoiSat s:=by unfold dq;rw [ha]
  rw [e1]at h2
  cases h2
  obtain⟨tp,p,hp⟩:=hR.g.2.2.2 3 (by kernel_rfl)
  refine⟨rfl,(Tryz.strconv_Atoi_range ⟨s.toArray⟩ (by rw [hsz];omega) ha _ w hp (.inr ⟨tp,p,rfl⟩)).mono ?_⟩
  rintro e w' ⟨k,rfl,_,_,hb⟩
  refine⟨_,rfl,hb, ?_⟩
  rw [e2]
  simp only [rel,aK]
  exact⟨_,rfl,_,_,rfl,rfl,_,_,rfl,⟨_,_,rfl⟩,rfl⟩
 |_=>
  have e1:eN s=false:=by unfold eN;rw [ha]
  have e2:dq s=0:=by unfold dq;rw [ha]
  rw [e1]at h2
  cases h2
  obtain⟨tp,p,hp⟩:=hR.g.2.2.1 2 (by kernel_rfl)
  refine⟨rfl,(Tryz.strconv_Atoi_syntax ⟨s.toArray⟩ (by rw [hsz];omega) ha _ w hp (.inr ⟨tp,p,rfl⟩)).mono ?_⟩
  rintro e w' ⟨k,rfl,_,_,hb⟩
  refine⟨_,rfl,hb, ?_⟩
  rw [e2]
  simp only [rel,aK]
  exact⟨_,rfl,_,_,rfl,rfl,_,_,rfl,⟨_,_,rfl⟩,rfl⟩
end
end Go.Proofs.YtihabpimbfmhhaaGreatDoor.Ev
