/- The texts ItoaS, one behind the other. -/
import Derived.Test.YtihabpimbfmhhaaGreatDoorK13
import Derived.Test.YtihabpimbfmhhaaGreatDoorK16
namespace Go.Proofs.YtihabpimbfmhhaaGreatDoor.Ev
open Go Go.RowKit
set_option linter.unusedVariables false
set_option linter.unusedSimpArgs false
noncomputable def bO:Int→aa:=vG fun n=>Lib.decDigits n.toNat
theorem dv (n:Int):bO n=Lib.decDigits n.toNat:=by unfold bO;rw [jq]
def bD (n:Int):Bool:=decide (0≤n)&&decide (n≤999999999999999)
noncomputable def Pa:List AV→List Ob→Br
 | [.int .i64 n],[]=>.ite (bD n) (.ret (.str (bO n)) []) .fail
 |_,_=>.fail
theorem xM:(Tryz.prog.globalNamed "internal/strconv.uint64pow10").isNone=false:=by kernel_rfl
theorem o9 (w:World) (k:Nat) (os:Array Obj):Below w.heap.size w (Go.Sort.grow (w.drewN k) os):=
 ⟨rfl,rfl,rfl,by show w.heap.size≤(w.heap++os).size;rw [Array.size_append];omega,fun j hj=>Go.Sort.heap_grow_old (w.drewN k) os (by exact hj)⟩
theorem Je:Sound Kx 196 Pa:=by
 refine bU Tryz.func196 (by kernel_rfl) rfl fun args objs res objs' hv w L vs hR hr=> ?_
 unfold Pa at hv
 split at hv
 case h_2=>cases hv
 rename_i n
 obtain⟨h1,h2⟩:=af hv
 simp only [bD,Bool.and_eq_true,decide_eq_true_eq]at h1
 cases h2
 refine⟨rfl, ?_⟩
 simp only [aK,rel]at hr
 obtain⟨v,vs',rfl,rfl,rfl⟩:=hr
 have ht:kO w:=by
  rcases hR.g.1 with h|h
  ·have:=xM;rw [h]at this;cases this
  ·exact h
 refine(Tryz.strconv_Itoa n (by omega) (by omega) w ht).mono ?_
 rintro e w' ⟨rfl,k,os,rfl⟩
 refine⟨_,rfl,o9 w k os, ?_⟩
 simp only [rel]
 rw [dv]
 unfold Lib.itoa
 rw [if_neg (by omega)]
end Go.Proofs.YtihabpimbfmhhaaGreatDoor.Ev
