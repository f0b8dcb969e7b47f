/- The texts SplitS, one behind the other. -/
import Derived.Test.YtgknmoadpgpdeaaGreatDoorK24
import Derived.Test.YtgknmoadpgpdeaaGreatDoorK26
namespace Go.Proofs.YtgknmoadpgpdeaaGreatDoor.Ev
open Go Go.RowKit
set_option linter.unusedVariables false
set_option linter.unusedSimpArgs false
noncomputable section
theorem aek {w: World} {L: Lk} (hR: RelO Kx w ⟨lC L,L.F⟩ L w) {b o: Nat} (h: Mut L b o): b < w.heap.size:=by
 rcases h with h | ⟨i,p,hp,hr⟩
 · exact hR.fs b o h
 · exact m_ (hR.ok i p hp) hr
def Rg: List AV→List Ob→Br
 | [.str s, .str [c]],[]=> .ite (decide (s.length≤1000000)) (.ret (.sh .str (j5 s (by8 c))) []) .fail
 | _,_=> .fail
theorem Dl: Sound Kx 318 Rg:=by
 refine cO Tryz.func318 (by kernel_rfl) rfl fun args objs res objs' hv w L vs hR hr=>?_
 unfold Rg at hv
 split at hv
 case h_2=>cases hv
 rename_i s c
 obtain ⟨h1,h2⟩:=al hv
 cases h2
 rw [decide_eq_true_eq] at h1
 refine ⟨rfl,?_⟩
 simp only [aX,rel] at hr
 obtain ⟨v,vs',rfl,rfl,v2,vs2,rfl,rfl,rfl⟩:=hr
 obtain ⟨m,hm⟩:=hR.g.2.1 0 (by kernel_rfl)
 have key:=Tryz.strings_Split ⟨s.toArray⟩ ⟨#[c]⟩ m w (by show s.toArray.size < _;simp;omega) hm (Nat.le_refl 1)
 have hl: ((Lib.splitB ⟨#[c]⟩ 0 (Lib.countB ⟨s.toArray⟩ ⟨#[c]⟩) ⟨s.toArray⟩).map (·.data.toList))=j5 s (by8 c):=by
  rw [Lib.splitB_data]
  exact Q2 c s
 have hlen:=congrArg List.length hl
 rw [List.length_map] at hlen
 have hcnt: Lib.countB ⟨s.toArray⟩ ⟨#[c]⟩ + 1=(j5 s (by8 c)).length:=by
  rw [← hlen];exact (Lib.splitB_all ⟨#[c]⟩ (Nat.le_refl 1) 0 _ ⟨s.toArray⟩ rfl).symm
 generalize hL: Lib.splitB ⟨#[c]⟩ 0 (Lib.countB ⟨s.toArray⟩ ⟨#[c]⟩) ⟨s.toArray⟩=l at key hl hlen
 rw [hcnt] at key
 refine key.mono ?_
 rintro e w' ⟨rfl,rfl⟩
 refine ⟨_,rfl,(Below.refl _ _).alloc (Nat.le_refl _) _,?_⟩
 simp only [rel,rd]
 refine ⟨_,_,_,rfl,rfl,Nat.le_refl _, .inr ⟨w.heap.size,0,rfl,fun i hi=>⟨[.string ⟨(j5 s (by8 c))[i].toArray⟩],rfl,rfl,fun j hj=>?_⟩⟩⟩
 obtain rfl: j=0:=by simp only [Ty.size,Ty.cts,List.length_singleton] at hj;omega
 refine ⟨?_,fun hm=>absurd (aek hR hm) (Nat.lt_irrefl _)⟩
 have hi': i < l.length:=by omega
 have hget: (j5 s (by8 c))[i]=l[i].data.toList:=by
  have: (l.map (·.data.toList))[i]? =(j5 s (by8 c))[i]? :=by rw [hl]
  rw [List.getElem?_map,List.getElem?_eq_getElem hi',List.getElem?_eq_getElem hi] at this
  simpa using this.symm
 rw [hget]
 simp only [Ty.size,Ty.cts,List.length_singleton,Nat.mul_one,Nat.add_zero,Nat.zero_add]
 rw [World.cell?_alloc_new]
 simp [List.getElem?_eq_getElem hi']
end
end Go.Proofs.YtgknmoadpgpdeaaGreatDoor.Ev
