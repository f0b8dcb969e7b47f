/- The texts Pa, Pb, Pq, Pc, one behind the other. -/
import Derived.Test.YtihabpimbfmhhaaGreatDoorK18
import Derived.Test.YtihabpimbfmhhaaGreatDoorK23
import Derived.Test.YtihabpimbfmhhaaGreatDoorK22
import Derived.Test.YtihabpimbfmhhaaGreatDoorK13
namespace Go.Proofs.YtihabpimbfmhhaaGreatDoor.Ev
open Go Go.RowKit
set_option linter.unusedVariables false
set_option linter.unusedSimpArgs false
noncomputable section
def JQ:Opt:={live:=[(2,[0,1,5])],outs:=[(2,[0,4])]}
def nd (an:aa) (aq aP:Int) (U5:aa→Int→Int→OR') (bK:aa→aa→OR') (cA:aa→OR'):OR':=
 (bif(decide (aP< (an.length:Int)))then(bif(decide (0≤aP))then(bif(decide (aP< (an.length:Int)))then(bif(decide ((au an aP)=aq))then(bif(decide (0≤aP))then(bif(decide (aP≤(an.length:Int)))then(bK an (cut an 0 aP))else(none))else(none))else(U5 an aq (ac (aP+1))))else(none))else(none))else(cA an))
def gS:Nat→aa→Int→Int→(aa→aa→OR')→(aa→OR')→OR'
 |0,_,_,_,_,_=>none
 |n+1,an,aq,aP,bK,cA=>nd an aq aP (fun an aq aP=>gS n an aq aP bK cA) bK cA
abbrev supto_p2:SP:=⟨21,[0,1,5],[(.v .s),(.v (.i .u8)),(.v (.i .i64))],[]⟩
noncomputable def DN:Code:=ax (aD Tryz.f203) [1,0,1,0,0]
def DO (f:(aa→aa→OR')→(aa→OR')→OR') (k:KT):OR':=f (fun bP eU=>k Ex.ret ((St.mk (aw 0 21 [(0,(AV.str bP)),(4,(AV.str eU))]) ([]:(List (Nat×(Ob))))))) (fun dV=>k (Ex.exit 0) ((St.mk (aw 0 21 [(0,(AV.str dV))]) ([]:(List (Nat×(Ob)))))))
def DP (n:Nat) (d:supto_p2.D):KT→OR':=DO (gS n d.1.1 d.1.2.1 d.1.2.2.1)
def JR (N:Nat):Lam:=bf [⟨2,supto_p2,DP N⟩]
theorem JS (N:Nat):OkL Kx noS JQ 0 N (JR N) DN:=okL supto_p2 (DP) (fun d kR=>DO (nd d.1.1 d.1.2.1 d.1.2.2.1 (fun an aq aP=>kR ((an,aq,aP,()),())))) (fun _ _=>by kernel_rfl) (fun _ _ _=>by kernel_rfl) (fun _ _=>by kernel_rfl) (fun _ _ _ _=>by kernel_rfl) (ah (l':=[]) (by kernel_rfl) trivial)
def yd (N:Nat) (s:aa) (b:Int):OR':=(gS N s b 0 (fun bP=>(fun eU=>(some ((AV.str eU),[])))) (fun dV=>(some ((AV.str dV),[]))))
def yf (φ:aa→Int→Br):List AV→List Ob→Br
 | [.str s,.int .u8 b],[]=>φ s b
 |_,_=>.fail
theorem Gv {φ:aa→Int→Br} (fu:aa→Int→Nat) (hv: ∀s b res_,(φ s b).val=some res_→yd (fu s b) s b=some res_):Sound Kx 203 (yf φ):=aj (C:=[]) (O:=JQ) Tryz.func203 (by kernel_rfl) fun args objs=>by
 unfold yf;split
 ·rename_i s b;exact .inr fun _ hyp_=>aO (Λ:=JR (fu s b)) (by kernel_rfl) (ah (l':=[DN]) (by kernel_rfl) ⟨JS _,trivial⟩) (by kernel_rfl) (hv s b _ hyp_)
 ·exact .inl rfl
def Pk:Opt:={live:=[(2,[0,1,7,8])],outs:=[(2,[4])]}
def uU (an:(List aa)) (aq:aa) (aP Ht:Int) (U5:(List aa)→aa→Int→Int→OR') (bK:Int→OR') (cA:OR'):OR':=
 (bif(decide (Ht<aP))then(bif(decide (0≤Ht))then(bif(decide (Ht< (an.length:Int)))then(bif(decide (aq=(List.getD an (Int.toNat Ht) ([]:aa))))then(bK Ht)else(U5 an aq aP (ac (Ht+1))))else(none))else(none))else cA)
def k_:Nat→(List aa)→aa→Int→Int→(Int→OR')→(OR')→OR'
 |0,_,_,_,_,_,_=>none
 |n+1,an,aq,aP,Ht,bK,cA=>uU an aq aP Ht (fun an aq aP Ht=>k_ n an aq aP Ht bK cA) bK cA
abbrev hasS_p2:SP:=⟨19,[0,1,7,8],[(.v (.sh Ty.str)),(.v .s),(.v (.i .i64)),(.v (.i .i64))],[]⟩
noncomputable def JT:Code:=ax (aD Tryz.f226) [1,0,1,0,0]
def JU (f:(Int→OR')→(OR')→OR') (k:KT):OR':=f (fun bP=>k Ex.ret ((St.mk (aw 0 19 [(4,(AV.int .i64 bP))]) ([]:(List (Nat×(Ob))))))) (k (Ex.exit 0) ((St.mk (aw 0 19 []) ([]:(List (Nat×(Ob)))))))
def JV (n:Nat) (d:hasS_p2.D):KT→OR':=JU (k_ n d.1.1 d.1.2.1 d.1.2.2.1 d.1.2.2.2.1)
def Pl (N:Nat):Lam:=bf [⟨2,hasS_p2,JV N⟩]
theorem NB (N:Nat):OkL Kx noS Pk 0 N (Pl N) JT:=okL hasS_p2 (JV) (fun d kR=>JU (uU d.1.1 d.1.2.1 d.1.2.2.1 d.1.2.2.2.1 (fun an aq aP Ht=>kR ((an,aq,aP,Ht,()),())))) (fun _ _=>by kernel_rfl) (fun _ _ _=>by kernel_rfl) (fun _ _=>by kernel_rfl) (fun _ _ _ _=>by kernel_rfl) (ah (l':=[]) (by kernel_rfl) trivial)
def DQ (N:Nat) (l:List aa) (x:aa):OR':=(k_ N l x (l.length:Int) 0 (fun bP=>(some ((AV.int .i64 bP),[]))) (some ((AV.int .i64 (-1)),[])))
def DR (φ:(List aa)→aa→Br):List AV→List Ob→Br
 | [.sh .str l,.str x],[]=>φ l x
 |_,_=>.fail
theorem JW {φ:(List aa)→aa→Br} (fu:(List aa)→aa→Nat) (hv: ∀l x res_,(φ l x).val=some res_→DQ (fu l x) l x=some res_):Sound Kx 226 (DR φ):=aj (C:=[]) (O:=Pk) Tryz.func226 (by kernel_rfl) fun args objs=>by
 unfold DR;split
 ·rename_i l x;exact .inr fun _ hyp_=>aO (Λ:=Pl (fu l x)) (by kernel_rfl) (ah (l':=[JT]) (by kernel_rfl) ⟨NB _,trivial⟩) (by kernel_rfl) (hv l x _ hyp_)
 ·exact .inl rfl
def Pm {α:Type} [DecidableEq α] (x:α):List α→Int→Int
 | [],_=> -1
 |a::r,i=>bif decide (x=a)then i else Pm x r (i+1)
theorem JX (l:List aa) (hl:l.length≤4611686018427387904) (x:aa) (k0:Int→OR') (k1:OR') (K:Int→OR') (h0: ∀i,k0 i=K i) (h1:k1=K (-1)): ∀(r:List aa) (i:Int) (n:Nat),At l i r→r.length<n→
 k_ n l x (l.length:Int) i k0 k1=K (Pm x r i):=by
 intro r;induction r with
 |nil=>intro i n h hn;obtain⟨n,rfl⟩:=bh hn;unfold k_ uU;simp only [h.dge,cond_false,h1];rfl
 |cons a r ih=>
  intro i n h hn;obtain⟨n,rfl⟩:=bh hn
  have hs:=ih (i+1) n h.step (by simp at hn;omega)
  unfold k_ uU
  simp only [h.dlt,h.dnn,h.get,cond_true,h.next hl,hs,h0,Pm]
  cases decide (x=a)<;>rfl
def SE:List AV→List Ob→Br
 | [.sh .str l,.str x],[]=>.ite (decide (l.length≤1000000)) (.ret (.int .i64 (Pm x l 0)) []) .fail
 |_,_=>.fail
theorem NC:Sound Kx 226 SE:=by
 refine(JW (φ:=fun l x=>.ite (decide (l.length≤1000000)) (.ret (.int .i64 (Pm x l 0)) []) .fail) (fun l _=>l.length+1) fun l x r h=> ?_).of fun args objs r h=> ?_
 ·obtain⟨h1,h2⟩:=af h
  cases h2
  rw [decide_eq_true_eq]at h1
  unfold DQ
  exact JX l (by omega) x _ _ (fun i=>some (.int .i64 i,[])) (fun _=>rfl) rfl l 0 _ (At.start l) (by omega)
 ·unfold SE at h;split at h
  ·exact h
  ·cases h
theorem Pn {α:Type} [DecidableEq α] (x:α): ∀(l:List α) (i:Int),0≤i→decide (0≤Pm x l i)=l.any fun a=>decide (a=x)
 | [],i,h=>by rfl
 |a::r,i,h=>by
  unfold Pm
  rw [List.any_cons]
  by_cases c:x=a
  ·rw [dT' c,cond_true,dT' h,dT' c.symm];rfl
  ·have c2:decide (a=x)=false:=dF' fun e=>c e.symm
   rw [dF' c,cond_false,c2,Bool.false_or]
   exact Pn x r (i+1) (by omega)
def SF:SC:=[⟨226,_,NC⟩]
def Bc (l:List aa) (x:aa):Br:=(Br.ite (decide (l.length≤1000000)) (Br.ret (AV.bool (decide (0≤(Pm x l 0)))) []) Br.fail)
def Po:List AV→List Ob→Br
 | [.sh .str l,.str x],[]=>Bc l x
 |_,_=>.fail
theorem conS_ok:Sound Kx 162 Po:=ae (C:=SF) (O:=O0) Tryz.func162 (by kernel_rfl) fun args objs=>by
 unfold Po;split
 ·exact .inr (by kernel_rfl)
 ·exact .inl rfl
end
end Go.Proofs.YtihabpimbfmhhaaGreatDoor.Ev
