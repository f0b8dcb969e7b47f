/- The texts AnyS, one behind the other. -/
import Derived.Test.YtihabpimbfmhhaaGreatDoorK27
import Derived.Test.YtihabpimbfmhhaaGreatDoorK28
namespace Go.Proofs.YtihabpimbfmhhaaGreatDoor.Ev
open Go Go.RowKit
set_option linter.unusedVariables false
set_option linter.unusedSimpArgs false
noncomputable section
def Mp (s:aa):Bool:=bb (fun n=>decide (n<128)) s
theorem uZ {s:aa} (h:Mp s=true): ∀(j:Nat) b,s[j]? =some b→b.toNat<128:=by
 intro j b hb
 unfold Mp bb at h
 rw [List.all_eq_true]at h
 have:=h b (List.mem_of_getElem? hb)
 rw [decide_eq_true_eq]at this
 unfold by8 at this;omega
def lf (s cs:aa):Int:=Lib.indexAny s cs
def Ka:List AV→List Ob→Br
 | [.str s,.str cs],[]=>.ite (decide (s.length≤1000000)&&decide (cs.length≤1000000)&&Mp s&&Mp cs) (.ret (.int .i64 (lf s cs)) []) .fail
 |_,_=>.fail
theorem Kb:Sound Kx 218 Ka:=by
 refine bU Tryz.func218 (by kernel_rfl) rfl fun args objs res objs' hv w L vs hR hr=> ?_
 unfold Ka at hv
 split at hv
 case h_2=>cases hv
 rename_i s cs
 obtain⟨h1,h2⟩:=af hv
 cases h2
 simp only [Bool.and_eq_true,decide_eq_true_eq]at h1
 refine⟨rfl, ?_⟩
 simp only [aK,rel]at hr
 obtain⟨v,vs',rfl,rfl,v2,vs2,rfl,rfl,rfl⟩:=hr
 refine(Tryz.strings_IndexAny_laid ⟨s.toArray⟩ ⟨cs.toArray⟩ w (by show s.toArray.size<_;simp;omega) (by show cs.toArray.size<_;simp;omega) (uZ h1.1.2) (uZ h1.2)).mono ?_
 rintro e w' ⟨rfl,hb⟩
 exact⟨_,rfl,hb,by simp only [rel];rfl⟩
def Kc:List AV→List Ob→Br
 | [.str s,.str cs],[]=>.ite (decide (s.length≤1000000)&&decide (cs.length≤1000000)&&Mp s&&Mp cs) (.ret (.bool (decide (0≤lf s cs))) []) .fail
 |_,_=>.fail
theorem Kd:Sound Kx 286 Kc:=by
 refine bU Tryz.func286 (by kernel_rfl) rfl fun args objs res objs' hv w L vs hR hr=> ?_
 unfold Kc at hv
 split at hv
 case h_2=>cases hv
 rename_i s cs
 obtain⟨h1,h2⟩:=af hv
 cases h2
 simp only [Bool.and_eq_true,decide_eq_true_eq]at h1
 refine⟨rfl, ?_⟩
 simp only [aK,rel]at hr
 obtain⟨v,vs',rfl,rfl,v2,vs2,rfl,rfl,rfl⟩:=hr
 refine(Tryz.strings_ContainsAny_laid ⟨s.toArray⟩ ⟨cs.toArray⟩ w (by show s.toArray.size<_;simp;omega) (by show cs.toArray.size<_;simp;omega) (uZ h1.1.2) (uZ h1.2)).mono ?_
 rintro e w' ⟨rfl,hb⟩
 exact⟨_,rfl,hb,by simp only [rel];rfl⟩
def Pp:List AV→List Ob→Br
 | [.str s,.str [c]],[]=>.ret (.bool (cS s (by8 c))) []
 |_,_=>.fail
theorem u5 (s:aa) (c:UInt8):decide (0≤Lib.indexByte s c)=cS s (by8 c):=by
 have:=IW s (by8 c) (Cw c) (Cx c)
 unfold Mo at this
 have e:(by8 c).toNat.toUInt8=c:=by simp [by8]
 rw [e]at this;exact this
theorem DY:Sound Kx 217 Pp:=by
 refine bU Tryz.func217 (by kernel_rfl) rfl fun args objs res objs' hv w L vs hR hr=> ?_
 unfold Pp at hv
 split at hv
 case h_2=>cases hv
 rename_i s c
 cases hv
 refine⟨rfl, ?_⟩
 simp only [aK,rel]at hr
 obtain⟨v,vs',rfl,rfl,v2,vs2,rfl,rfl,rfl⟩:=hr
 refine(Tryz.strings_Contains_one ⟨s.toArray⟩ c w).mono ?_
 rintro e w' ⟨rfl,rfl⟩
 refine⟨_,rfl,Below.refl _ _, ?_⟩
 simp only [rel]
 rw [←u5 s c]
theorem i7 (a b:UInt8): ∀s:aa,lf s [a,b]=bif cS s (by8 a)||cS s (by8 b)then((aF (aF s (by8 b)) (by8 a)).length:Int)else-1
 | []=>rfl
 |x::r=>by
  have ih:=i7 a b r
  unfold lf at ih⊢
  unfold Lib.indexAny
  have e1:cS (x::r) (by8 a)=(decide (by8 x=by8 a)||cS r (by8 a)):=rfl
  have e2:cS (x::r) (by8 b)=(decide (by8 x=by8 b)||cS r (by8 b)):=rfl
  have hx: ∀c:UInt8,decide (by8 x=by8 c)=decide (x=c):=fun c=>by
   rw [Bool.eq_iff_iff,decide_eq_true_eq,decide_eq_true_eq];exact⟨Ao,fun h=>by rw [h]⟩
  have hc: [a,b].contains x=(decide (x=a)||decide (x=b)):=by
   simp only [List.contains_cons,List.contains_nil,Bool.or_false]
   cases h1:decide (x=a)<;>cases h2:decide (x=b)<;>simp_all
  rw [hc,e1,e2,hx a,hx b,ih]
  unfold aF
  rw [List.takeWhile_cons,hx b]
  cases h2:decide (x=b)
  ·simp only [Bool.not_false,if_true,List.takeWhile_cons,hx a,Bool.or_false,Bool.false_or]
   cases h1:decide (x=a)
   ·simp only [Bool.not_false,if_true,Bool.false_or,Bool.false_eq_true,if_false,List.length_cons]
    cases cS r (by8 a)||cS r (by8 b)
    ·rfl
    ·have:((((r.takeWhile fun x=> !decide (by8 x=by8 b)).takeWhile fun x=> !decide (by8 x=by8 a)).length:Int)== -1)=false:=by rw [beq_eq_false_iff_ne];omega
     rw [cond_true,this];simp
   ·simp
  ·simp
end
end Go.Proofs.YtihabpimbfmhhaaGreatDoor.Ev
