/- The texts Pa, Pb, Pq, Pc, one behind the other. -/
import Derived.Test.YtihabpimbfmhhaaGreatDoorK18
import Derived.Test.YtihabpimbfmhhaaGreatDoorK23
import Derived.Test.YtihabpimbfmhhaaGreatDoorK22
import Derived.Test.YtihabpimbfmhhaaGreatDoorK13
namespace Go.Proofs.YtihabpimbfmhhaaGreatDoor.Ev
open Go Go.RowKit
set_option linter.unusedVariables false
set_option linter.unusedSimpArgs false
noncomputable section
def EZ:Opt:={live:=[(2,[0,1,5])],outs:=[(2,[0,4])]}
def kW (al:aa) (ap aN:Int) (O_:aa→Int→Int→OR') (bG:aa→aa→OR') (cz:aa→OR'):OR':=
 (bif(decide (aN< (al.length:Int)))then(bif(decide (0≤aN))then(bif(decide (aN< (al.length:Int)))then(bif(decide ((av al aN)=ap))then(bif(decide (0≤aN))then(bif(decide (aN≤(al.length:Int)))then(bG al (cut al 0 aN))else(none))else(none))else(O_ al ap (ac (aN+1))))else(none))else(none))else(cz al))
def fQ:Nat→aa→Int→Int→(aa→aa→OR')→(aa→OR')→OR'
 |0,_,_,_,_,_=>none
 |n+1,al,ap,aN,bG,cz=>kW al ap aN (fun al ap aN=>fQ n al ap aN bG cz) bG cz
abbrev supto_p2:SP:=⟨21,[0,1,5],[(.v .s),(.v (.i .u8)),(.v (.i .i64))],[]⟩
noncomputable def zB:Code:=aG (aI Tryz.f203) [1,0,1,0,0]
def zC (f:(aa→aa→OR')→(aa→OR')→OR') (k:KT):OR':=f (fun bH ee=>k Ex.ret ((St.mk (aE 0 21 [(0,(AV.str bH)),(4,(AV.str ee))]) ([]:(List (Nat×(Ob))))))) (fun dB=>k (Ex.exit 0) ((St.mk (aE 0 21 [(0,(AV.str dB))]) ([]:(List (Nat×(Ob)))))))
def zD (n:Nat) (d:supto_p2.D):KT→OR':=zC (fQ n d.1.1 d.1.2.1 d.1.2.2.1)
def E0 (N:Nat):Lam:=bD [⟨2,supto_p2,zD N⟩]
theorem E1 (N:Nat):OkL Kx noS EZ 0 N (E0 N) zB:=okL supto_p2 (zD) (fun d kR=>zC (kW d.1.1 d.1.2.1 d.1.2.2.1 (fun al ap aN=>kR ((al,ap,aN,()),())))) (fun _ _=>by kernel_rfl) (fun _ _ _=>by kernel_rfl) (fun _ _=>by kernel_rfl) (fun _ _ _ _=>by kernel_rfl) (ah (l':=[]) (by kernel_rfl) trivial)
def uD (N:Nat) (s:aa) (b:Int):OR':=(fQ N s b 0 (fun bH=>(fun ee=>(some ((AV.str ee),[])))) (fun dB=>(some ((AV.str dB),[]))))
def uE (φ:aa→Int→Br):List AV→List Ob→Br
 | [.str s,.int .u8 b],[]=>φ s b
 |_,_=>.fail
theorem B1 {φ:aa→Int→Br} (fu:aa→Int→Nat) (hv: ∀s b res_,(φ s b).val=some res_→uD (fu s b) s b=some res_):Sound Kx 203 (uE φ):=an (C:=[]) (O:=EZ) Tryz.func203 (by kernel_rfl) fun args objs=>by
 unfold uE;split
 ·rename_i s b;exact .inr fun _ hyp_=>aV (Λ:=E0 (fu s b)) (by kernel_rfl) (ah (l':=[zB]) (by kernel_rfl) ⟨E1 _,trivial⟩) (by kernel_rfl) (hv s b _ hyp_)
 ·exact .inl rfl
def JK:Opt:={live:=[(2,[0,1,7,8])],outs:=[(2,[4])]}
def rz (al:(List aa)) (ap:aa) (aN CW:Int) (O_:(List aa)→aa→Int→Int→OR') (bG:Int→OR') (cz:OR'):OR':=
 (bif(decide (CW<aN))then(bif(decide (0≤CW))then(bif(decide (CW< (al.length:Int)))then(bif(decide (ap=(List.getD al (Int.toNat CW) ([]:aa))))then(bG CW)else(O_ al ap aN (ac (CW+1))))else(none))else(none))else cz)
def jh:Nat→(List aa)→aa→Int→Int→(Int→OR')→(OR')→OR'
 |0,_,_,_,_,_,_=>none
 |n+1,al,ap,aN,CW,bG,cz=>rz al ap aN CW (fun al ap aN CW=>jh n al ap aN CW bG cz) bG cz
abbrev hasS_p2:SP:=⟨19,[0,1,7,8],[(.v (.sh Ty.str)),(.v .s),(.v (.i .i64)),(.v (.i .i64))],[]⟩
noncomputable def E2:Code:=aG (aI Tryz.f226) [1,0,1,0,0]
def E3 (f:(Int→OR')→(OR')→OR') (k:KT):OR':=f (fun bH=>k Ex.ret ((St.mk (aE 0 19 [(4,(AV.int .i64 bH))]) ([]:(List (Nat×(Ob))))))) (k (Ex.exit 0) ((St.mk (aE 0 19 []) ([]:(List (Nat×(Ob)))))))
def E4 (n:Nat) (d:hasS_p2.D):KT→OR':=E3 (jh n d.1.1 d.1.2.1 d.1.2.2.1 d.1.2.2.2.1)
def JL (N:Nat):Lam:=bD [⟨2,hasS_p2,E4 N⟩]
theorem Ic (N:Nat):OkL Kx noS JK 0 N (JL N) E2:=okL hasS_p2 (E4) (fun d kR=>E3 (rz d.1.1 d.1.2.1 d.1.2.2.1 d.1.2.2.2.1 (fun al ap aN CW=>kR ((al,ap,aN,CW,()),())))) (fun _ _=>by kernel_rfl) (fun _ _ _=>by kernel_rfl) (fun _ _=>by kernel_rfl) (fun _ _ _ _=>by kernel_rfl) (ah (l':=[]) (by kernel_rfl) trivial)
def zE (N:Nat) (l:List aa) (x:aa):OR':=(jh N l x (l.length:Int) 0 (fun bH=>(some ((AV.int .i64 bH),[]))) (some ((AV.int .i64 (-1)),[])))
def zF (φ:(List aa)→aa→Br):List AV→List Ob→Br
 | [.sh .str l,.str x],[]=>φ l x
 |_,_=>.fail
theorem E5 {φ:(List aa)→aa→Br} (fu:(List aa)→aa→Nat) (hv: ∀l x res_,(φ l x).val=some res_→zE (fu l x) l x=some res_):Sound Kx 226 (zF φ):=an (C:=[]) (O:=JK) Tryz.func226 (by kernel_rfl) fun args objs=>by
 unfold zF;split
 ·rename_i l x;exact .inr fun _ hyp_=>aV (Λ:=JL (fu l x)) (by kernel_rfl) (ah (l':=[E2]) (by kernel_rfl) ⟨Ic _,trivial⟩) (by kernel_rfl) (hv l x _ hyp_)
 ·exact .inl rfl
def JM {α:Type} [DecidableEq α] (x:α):List α→Int→Int
 | [],_=> -1
 |a::r,i=>bif decide (x=a)then i else JM x r (i+1)
theorem E6 (l:List aa) (hl:l.length≤4611686018427387904) (x:aa) (k0:Int→OR') (k1:OR') (K:Int→OR') (h0: ∀i,k0 i=K i) (h1:k1=K (-1)): ∀(r:List aa) (i:Int) (n:Nat),At l i r→r.length<n→
 jh n l x (l.length:Int) i k0 k1=K (JM x r i):=by
 intro r;induction r with
 |nil=>intro i n h hn;obtain⟨n,rfl⟩:=bC hn;unfold jh rz;simp only [h.dge,cond_false,h1];rfl
 |cons a r ih=>
  intro i n h hn;obtain⟨n,rfl⟩:=bC hn
  have hs:=ih (i+1) n h.step (by simp at hn;omega)
  unfold jh rz
  simp only [h.dlt,h.dnn,h.get,cond_true,h.next hl,hs,h0,JM]
  cases decide (x=a)<;>rfl
def MQ:List AV→List Ob→Br
 | [.sh .str l,.str x],[]=>.ite (decide (l.length≤1000000)) (.ret (.int .i64 (JM x l 0)) []) .fail
 |_,_=>.fail
theorem Id:Sound Kx 226 MQ:=by
 refine(E5 (φ:=fun l x=>.ite (decide (l.length≤1000000)) (.ret (.int .i64 (JM x l 0)) []) .fail) (fun l _=>l.length+1) fun l x r h=> ?_).of fun args objs r h=> ?_
 ·obtain⟨h1,h2⟩:=af h
  cases h2
  rw [decide_eq_true_eq]at h1
  unfold zE
  exact E6 l (by omega) x _ _ (fun i=>some (.int .i64 i,[])) (fun _=>rfl) rfl l 0 _ (At.start l) (by omega)
 ·unfold MQ at h;split at h
  ·exact h
  ·cases h
theorem JN {α:Type} [DecidableEq α] (x:α): ∀(l:List α) (i:Int),0≤i→decide (0≤JM x l i)=l.any fun a=>decide (a=x)
 | [],i,h=>by rfl
 |a::r,i,h=>by
  unfold JM
  rw [List.any_cons]
  by_cases c:x=a
  ·rw [dT' c,cond_true,dT' h,dT' c.symm];rfl
  ·have c2:decide (a=x)=false:=dF' fun e=>c e.symm
   rw [dF' c,cond_false,c2,Bool.false_or]
   exact JN x r (i+1) (by omega)
def MR:SC:=[⟨226,_,Id⟩]
def xj (l:List aa) (x:aa):Br:=(Br.ite (decide (l.length≤1000000)) (Br.ret (AV.bool (decide (0≤(JM x l 0)))) []) Br.fail)
def JO:List AV→List Ob→Br
 | [.sh .str l,.str x],[]=>xj l x
 |_,_=>.fail
theorem conS_ok:Sound Kx 162 JO:=ae (C:=MR) (O:=O0) Tryz.func162 (by kernel_rfl) fun args objs=>by
 unfold JO;split
 ·exact .inr (by kernel_rfl)
 ·exact .inl rfl
end
end Go.Proofs.YtihabpimbfmhhaaGreatDoor.Ev
