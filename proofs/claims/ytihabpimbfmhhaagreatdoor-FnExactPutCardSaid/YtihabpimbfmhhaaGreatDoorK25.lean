/- The texts Pd, one behind the other. -/
import Derived.Test.YtihabpimbfmhhaaGreatDoorK24
import Derived.Lib.IndexBytes
namespace Go.Proofs.YtihabpimbfmhhaaGreatDoor.Ev
open Go Go.RowKit
set_option linter.unusedVariables false
set_option linter.unusedSimpArgs false
noncomputable section
def SG:List AV→List Ob→Br
 | [.sh .str l,.str x],[]=>.ite (decide (l.length≤1000000)) (.ret (.bool (inP l x)) []) .fail
 |_,_=>.fail
theorem ND:Sound Kx 162 SG:=conS_ok.of fun args objs r h=>by
 unfold SG at h
 split at h
 ·rename_i l x
  obtain⟨h1,h2⟩:=af h
  cases h2
  show(Bc l x).val=_
  unfold Bc
  rw [Pn x l 0 (Int.le_refl 0)]
  exact aR h1
 ·cases h
def aF (s:aa) (b:Int):aa:=s.takeWhile fun x=> !decide (by8 x=b)
theorem QN (p r:aa):Ev.cut (p++r) 0 ((p.length:Nat):Int)=p:=by unfold Ev.cut;simp
theorem Gw (s:aa) (hl:s.length≤4611686018427387904) (b:Int) (k0:aa→aa→OR') (k1:aa→OR') (K:aa→OR') (h0: ∀x,k0 s x=K x) (h1:k1 s=K s): ∀(r p:aa) (i:Int) (n:Nat),s=p++r→i=(p.length:Int)→r.length<n→
 gS n s b i k0 k1=K (p++aF r b):=by
 intro r;induction r with
 |nil=>
  intro p i n hs hi hn;obtain⟨n,rfl⟩:=bh hn
  have h:At s i ([]:aa):=⟨p,hs,hi⟩
  unfold gS nd
  rw [h.dge,cond_false,h1,hs];rfl
 |cons a r ih=>
  intro p i n hs hi hn;obtain⟨n,rfl⟩:=bh hn
  have h:At s i (a::r):=⟨p,hs,hi⟩
  simp only [List.length_cons]at hn
  have hle:decide (i≤(s.length:Int))=true:=dT' (by have:=h.lt;omega)
  have hcut:Ev.cut s 0 i=p:=by rw [hs,hi];exact QN p _
  have hr:=ih (p++[a]) (i+1) n (by rw [hs];simp) (by rw [hi];simp) (by omega)
  unfold gS nd
  simp only [h.dlt,h.dnn,h.str,hle,cond_true,h.next hl,hcut,h0,hr]
  unfold aF
  rw [List.takeWhile_cons]
  cases decide (by8 a=b)<;>simp
def UD:List AV→List Ob→Br
 | [.str s,.int .u8 b],[]=>.ite (isM s) (.ret (.str (aF s b)) []) .fail
 |_,_=>.fail
theorem yg:Sound Kx 203 UD:=by
 refine(Gv (φ:=fun s b=>.ite (isM s) (.ret (.str (aF s b)) []) .fail) (fun s _=>s.length+1) fun s b r h=> ?_).of fun args objs r h=> ?_
 ·obtain⟨h1,h2⟩:=af h
  cases h2
  unfold yd
  exact Gw s (cv h1) b _ _ (fun x=>some (.str x,[])) (fun _=>rfl) rfl s [] 0 _ rfl rfl (by omega)
 ·unfold UD at h;split at h
  ·exact h
  ·cases h
theorem ne (c:UInt8): ∀s:aa,so s [c]=(aF s (by8 c),s.drop ((aF s (by8 c)).length+1), !decide ((aF s (by8 c)).length=s.length))
 | []=>by simp [so,Lib.cut,Lib.index,aF]
 |a::r=>by
  have ih:=ne c r
  unfold so Lib.cut at ih⊢
  rw [Lib.index_one]at ih⊢
  unfold aF at ih⊢
  rw [List.takeWhile_cons]
  unfold Lib.indexByte
  by_cases h:a=c
  ·subst h;simp
  ·have hb:(a==c)=false:=by simpa using h
   have hd:decide (by8 a=by8 c)=false:=dF' fun e=>h (Ao e)
   have hge:=Lib.indexByte_ge r c
   rw [hb,hd]
   simp only [Bool.false_eq_true,if_false,Bool.not_false,if_true]
   by_cases hm:Lib.indexByte r c= -1
   ·rw [hm]at ih
    simp only [Prod.mk.injEq,show ¬(0:Int)≤ -1 by decide,if_false]at ih
    have e:(Lib.indexByte r c== -1)=true:=by simpa using hm
    rw [e]
    simp only [if_true,show ¬(0:Int)≤ -1 by decide,if_false,Prod.mk.injEq]
    refine⟨by rw [←ih.1], ?_, ?_⟩
    ·rw [←ih.1];simp
    ·rw [←ih.1];simp
   ·have e:(Lib.indexByte r c== -1)=false:=by simpa using hm
    rw [e]
    have h0:0≤Lib.indexByte r c:=by omega
    rw [if_pos h0]at ih
    simp only [Prod.mk.injEq]at ih
    simp only [Bool.false_eq_true,if_false]
    rw [if_pos (by omega)]
    have e1:(Lib.indexByte r c+1).toNat=(Lib.indexByte r c).toNat+1:=by omega
    obtain⟨i1,i2,i3⟩:=ih
    rw [e1]
    simp only [Prod.mk.injEq,List.take_succ_cons,List.length_cons,List.length_singleton,List.length_nil]
    refine⟨by rw [i1], ?_, ?_⟩
    ·rw [show(Lib.indexByte r c).toNat+1+(0+1)=((Lib.indexByte r c).toNat+1)+1 by omega,List.drop_succ_cons,List.drop_succ_cons]
     simpa using i2
    ·have:=i3
     simp only [Bool.true_eq,Bool.not_eq_true',decide_eq_false_iff_not]at this⊢
     omega
end
end Go.Proofs.YtihabpimbfmhhaaGreatDoor.Ev
