/- The texts Ud, Ue, Uf, Ug, Uh, Ui, Uj, Uk, Ul, Um, Un, Uo, Va, Vb, Vc, Vd, Ve, Vf, Vg, Vh, Xa, Xb, Xc, Xd, Vi, Vj, Vk, Vl, Vm, Vn, Wa, Wb, Vo, Xe, Xf, Xg, Xh, Xi, Xj, Th, one behind the other. -/
import Derived.Test.YtgknmoadpgpdeaaGreatDoorK24
import Derived.Test.YtgknmoadpgpdeaaGreatDoorK27
import Derived.Test.YtgknmoadpgpdeaaGreatDoorK28
import Derived.Test.YtgknmoadpgpdeaaGreatDoorK13
import Derived.Test.YtgknmoadpgpdeaaGreatDoorK19
import Derived.Test.YtgknmoadpgpdeaaGreatDoorK21
import Derived.Test.YtgknmoadpgpdeaaGreatDoorK23
namespace Go.Proofs.YtgknmoadpgpdeaaGreatDoor.Ev
open Go Go.RowKit
set_option linter.unusedVariables false
set_option linter.unusedSimpArgs false
noncomputable section
def Rh: Opt:={ live:=[(3,[0,3,4])],outs:=[(3,[2,3])] }
def iunes_C: SC:=[⟨336,_,MY⟩,⟨335,_,Q6⟩]
def rL (aL: aa) (aA: Int) (bu: (List Int)) (kR3: aa→Int→(List Int)→OR') (eK: (List Int)→OR'): OR':=
 (bif (decide (aA < (aL.length: Int))) then (bif (decide (0≤aA)) then (bif (decide (aA < (aL.length: Int))) then (bif (!(decide ((aC aL aA)=37))) then (bif (decide (0≤aA)) then (bif (decide (aA < (aL.length: Int))) then (bif (decide (((bu.length + (List.length (List.set (List.replicate 1 (0 : Int)) 0 (aC aL aA)))) * 1)≤140737488355328)) then (kR3 aL (ai (aA + 1)) (bu++(List.set (List.replicate 1 (0 : Int)) 0 (aC aL aA)))) else none) else none) else none) else (bif (decide ((aL.length: Int)≤(ai (aA + 2)))) then (bif (decide (0≤aA)) then (bif (decide (aA < (aL.length: Int))) then (bif (decide (((bu.length + (List.length (List.set (List.replicate 1 (0 : Int)) 0 (aC aL aA)))) * 1)≤140737488355328)) then (kR3 aL (ai (aA + 1)) (bu++(List.set (List.replicate 1 (0 : Int)) 0 (aC aL aA)))) else none) else none) else none) else (bif (decide (0≤(ai (aA + 1)))) then (bif (decide ((ai (aA + 1)) < (aL.length: Int))) then (bif (decide ((eG (aC aL (ai (aA + 1)))) < 0)) then (bif (decide (0≤aA)) then (bif (decide (aA < (aL.length: Int))) then (bif (decide (((bu.length + (List.length (List.set (List.replicate 1 (0 : Int)) 0 (aC aL aA)))) * 1)≤140737488355328)) then (kR3 aL (ai (aA + 1)) (bu++(List.set (List.replicate 1 (0 : Int)) 0 (aC aL aA)))) else none) else none) else none) else (bif (decide (0≤(ai (aA + 2)))) then (bif (decide ((ai (aA + 2)) < (aL.length: Int))) then (bif (decide ((eG (aC aL (ai (aA + 2)))) < 0)) then (bif (decide (0≤aA)) then (bif (decide (aA < (aL.length: Int))) then (bif (decide (((bu.length + (List.length (List.set (List.replicate 1 (0 : Int)) 0 (aC aL aA)))) * 1)≤140737488355328)) then (kR3 aL (ai (aA + 1)) (bu++(List.set (List.replicate 1 (0 : Int)) 0 (aC aL aA)))) else none) else none) else none) else (bif (decide (0≤(ai (aA + 1)))) then (bif (decide ((ai (aA + 1)) < (aL.length: Int))) then (bif (decide (0≤(ai (aA + 2)))) then (bif (decide ((ai (aA + 2)) < (aL.length: Int))) then (bif (rb (wk8 (ai ((ai (16 * (eG (aC aL (ai (aA + 1)))))) + (eG (aC aL (ai (aA + 2)))))))) then (bif (decide (((bu.length + (List.length (List.set (List.replicate 1 (0 : Int)) 0 (wk8 (ai ((ai (16 * (eG (aC aL (ai (aA + 1)))))) + (eG (aC aL (ai (aA + 2)))))))))) * 1)≤140737488355328)) then (kR3 aL (ai ((ai (aA + 2)) + 1)) (bu++(List.set (List.replicate 1 (0 : Int)) 0 (wk8 (ai ((ai (16 * (eG (aC aL (ai (aA + 1)))))) + (eG (aC aL (ai (aA + 2)))))))))) else none) else (bif (decide (0≤(Int.fdiv (wk8 (ai ((ai (16 * (eG (aC aL (ai (aA + 1)))))) + (eG (aC aL (ai (aA + 2))))))) 16))) then (bif (decide ((Int.fdiv (wk8 (ai ((ai (16 * (eG (aC aL (ai (aA + 1)))))) + (eG (aC aL (ai (aA + 2))))))) 16) < 16)) then (bif (decide (0≤(wkk .u8 (((BitVec.toNat ((BitVec.ofInt 8 (wk8 (ai ((ai (16 * (eG (aC aL (ai (aA + 1)))))) + (eG (aC aL (ai (aA + 2))))))))&&& (BitVec.ofInt 8 15))): Nat): Int)))) then (bif (decide ((wkk .u8 (((BitVec.toNat ((BitVec.ofInt 8 (wk8 (ai ((ai (16 * (eG (aC aL (ai (aA + 1)))))) + (eG (aC aL (ai (aA + 2))))))))&&& (BitVec.ofInt 8 15))): Nat): Int)) < 16)) then (bif (decide (((bu.length + (List.length (List.set (List.set (List.set (List.replicate 3 (0 : Int)) 0 37) 1 (aC ([48,49,50,51,52,53,54,55,56,57,65,66,67,68,69,70]: aa) (Int.fdiv (wk8 (ai ((ai (16 * (eG (aC aL (ai (aA + 1)))))) + (eG (aC aL (ai (aA + 2))))))) 16))) 2 (aC ([48,49,50,51,52,53,54,55,56,57,65,66,67,68,69,70]: aa) (wkk .u8 (((BitVec.toNat ((BitVec.ofInt 8 (wk8 (ai ((ai (16 * (eG (aC aL (ai (aA + 1)))))) + (eG (aC aL (ai (aA + 2))))))))&&& (BitVec.ofInt 8 15))): Nat): Int)))))) * 1)≤140737488355328)) then (kR3 aL (ai ((ai (aA + 2)) + 1)) (bu++(List.set (List.set (List.set (List.replicate 3 (0 : Int)) 0 37) 1 (aC ([48,49,50,51,52,53,54,55,56,57,65,66,67,68,69,70]: aa) (Int.fdiv (wk8 (ai ((ai (16 * (eG (aC aL (ai (aA + 1)))))) + (eG (aC aL (ai (aA + 2))))))) 16))) 2 (aC ([48,49,50,51,52,53,54,55,56,57,65,66,67,68,69,70]: aa) (wkk .u8 (((BitVec.toNat ((BitVec.ofInt 8 (wk8 (ai ((ai (16 * (eG (aC aL (ai (aA + 1)))))) + (eG (aC aL (ai (aA + 2))))))))&&& (BitVec.ofInt 8 15))): Nat): Int)))))) else none) else none) else none) else none) else none)) else none) else none) else none) else none)) else none) else none)) else none) else none))) else none) else none) else (eK bu))
def k7: Nat→aa→Int→(List Int)→((List Int)→OR')→OR'
 | 0,_,_,_,_=>none
 | n + 1,aL,aA,bu,eK=>rL aL aA bu (fun aL aA bu=>k7 n aL aA bu eK) eK
abbrev iunes_p3: SP:=⟨77,[0,3,4],[(.v .s),(.v (.ref 256 0)),(.v (.i .i64))],[(256, .arr (Ty.int .u8) 0 false)]⟩
noncomputable def JN: Code:=aD (aG Tryz.f319) [1,1,0,1,0,0]
def JO (f: ((List Int)→OR')→OR') (k: KT): OR':=f (fun ab=>k (Ex.exit 0) ((St.mk (aH 0 77 [(3,(AV.ref 256 0))]) ((256,(Ob.arr (Ty.int .u8) 0 false ab))::([]: (List (Nat×(Ob))))))))
def JP (n: Nat) (d: iunes_p3.D): KT→OR':=JO (k7 n d.1.1 d.1.2.2.1 d.2.1)
def Ri (N: Nat): Lam:=bw [⟨3,iunes_p3,JP N⟩]
theorem Rj (N: Nat): OkL Kx iunes_C.s Rh 0 N (Ri N) JN:=okL iunes_p3 (JP) (fun d kR=>JO (rL d.1.1 d.1.2.2.1 d.2.1 (fun aL aA bu=>kR ((aL,(),aA,()),(bu,()))))) (fun _ _=>by kernel_rfl) (fun _ _ _=>by kernel_rfl) (fun _ _=>by kernel_rfl) (fun _ _ _ _=>by kernel_rfl) (am (l':=[]) (by kernel_rfl) trivial)
def Dm (N: Nat) (s: aa): OR':=(k7 N s 0 ([]: (List Int)) (fun ab=>(some ((AV.str (bQ ab)),[]))))
def Dn (φ: aa→Br): List AV→List Ob→Br
 | [.str s],[]=>φ s
 | _,_=> .fail
theorem M4 {φ: aa→Br} (fu: aa→Nat) (hv: ∀ s res_,(φ s).val=some res_→Dm (fu s) s=some res_): Sound Kx 319 (Dn φ):=ar (C:=iunes_C) (O:=Rh) Tryz.func319 (by kernel_rfl) fun args objs=>by
 unfold Dn;split
 · rename_i s;exact .inr fun _ hyp_=>aS (Λ:=Ri (fu s)) (by kernel_rfl) (am (l':=[JN]) (by kernel_rfl) ⟨Rj _,trivial⟩) (by kernel_rfl) (hv s _ hyp_)
 · exact .inl rfl
def Rk: Opt:={ live:=[(3,[0,3,4])],outs:=[(3,[2,3])] }
def sunes_C: SC:=[⟨323,_,Dg⟩,⟨324,_,Q7⟩,⟨325,_,MZ⟩]
def rM (aL: aa) (aA: Int) (bu: (List Int)) (kR3: aa→Int→(List Int)→OR') (eK: (List Int)→OR'): OR':=
 (bif (decide (aA < (aL.length: Int))) then (bif (decide (0≤aA)) then (bif (decide (aA < (aL.length: Int))) then (bif (!(decide ((aC aL aA)=37))) then (bif (decide (0≤aA)) then (bif (decide (aA < (aL.length: Int))) then (bif (decide (((bu.length + (List.length (List.set (List.replicate 1 (0 : Int)) 0 (aC aL aA)))) * 1)≤140737488355328)) then (kR3 aL (ai (aA + 1)) (bu++(List.set (List.replicate 1 (0 : Int)) 0 (aC aL aA)))) else none) else none) else none) else (bif (decide ((aL.length: Int)≤(ai (aA + 2)))) then (bif (decide (0≤aA)) then (bif (decide (aA < (aL.length: Int))) then (bif (decide (((bu.length + (List.length (List.set (List.replicate 1 (0 : Int)) 0 (aC aL aA)))) * 1)≤140737488355328)) then (kR3 aL (ai (aA + 1)) (bu++(List.set (List.replicate 1 (0 : Int)) 0 (aC aL aA)))) else none) else none) else none) else (bif (decide (0≤(ai (aA + 1)))) then (bif (decide ((ai (aA + 1))≤(ai (aA + 3)))) then (bif (decide ((ai (aA + 3))≤(aL.length: Int))) then (bif (!(ee (cut aL (ai (aA + 1)) (ai (aA + 3)))).2) then (bif (decide (0≤aA)) then (bif (decide (aA < (aL.length: Int))) then (bif (decide (((bu.length + (List.length (List.set (List.replicate 1 (0 : Int)) 0 (aC aL aA)))) * 1)≤140737488355328)) then (kR3 aL (ai (aA + 1)) (bu++(List.set (List.replicate 1 (0 : Int)) 0 (aC aL aA)))) else none) else none) else none) else (bif ((decide (0≤(wk8 (ee (cut aL (ai (aA + 1)) (ai (aA + 3)))).1)))&&(decide ((wk8 (ee (cut aL (ai (aA + 1)) (ai (aA + 3)))).1) < 256))) then (bif (rb (wk8 (ee (cut aL (ai (aA + 1)) (ai (aA + 3)))).1)) then (bif (decide (((bu.length + (List.length (List.set (List.replicate 1 (0 : Int)) 0 (wk8 (ee (cut aL (ai (aA + 1)) (ai (aA + 3)))).1)))) * 1)≤140737488355328)) then (kR3 aL (ai ((ai (aA + 2)) + 1)) (bu++(List.set (List.replicate 1 (0 : Int)) 0 (wk8 (ee (cut aL (ai (aA + 1)) (ai (aA + 3)))).1)))) else none) else (bif (decide (0≤(ai (aA + 1)))) then (bif (decide ((ai (aA + 1)) < (aL.length: Int))) then (bif (decide (0≤(ai (aA + 2)))) then (bif (decide ((ai (aA + 2)) < (aL.length: Int))) then (bif (decide (((bu.length + (List.length (List.set (List.set (List.set (List.replicate 3 (0 : Int)) 0 37) 1 (upI (aC aL (ai (aA + 1))))) 2 (upI (aC aL (ai (aA + 2))))))) * 1)≤140737488355328)) then (kR3 aL (ai ((ai (aA + 2)) + 1)) (bu++(List.set (List.set (List.set (List.replicate 3 (0 : Int)) 0 37) 1 (upI (aC aL (ai (aA + 1))))) 2 (upI (aC aL (ai (aA + 2))))))) else none) else none) else none) else none) else none)) else none)) else none) else none) else none))) else none) else none) else (eK bu))
def k8: Nat→aa→Int→(List Int)→((List Int)→OR')→OR'
 | 0,_,_,_,_=>none
 | n + 1,aL,aA,bu,eK=>rM aL aA bu (fun aL aA bu=>k8 n aL aA bu eK) eK
abbrev sunes_p3: SP:=⟨75,[0,3,4],[(.v .s),(.v (.ref 256 0)),(.v (.i .i64))],[(256, .arr (Ty.int .u8) 0 false)]⟩
noncomputable def JQ: Code:=aD (aG Tryz.f302) [1,1,0,1,0,0]
def JR (f: ((List Int)→OR')→OR') (k: KT): OR':=f (fun ab=>k (Ex.exit 0) ((St.mk (aH 0 75 [(3,(AV.ref 256 0))]) ((256,(Ob.arr (Ty.int .u8) 0 false ab))::([]: (List (Nat×(Ob))))))))
def JS (n: Nat) (d: sunes_p3.D): KT→OR':=JR (k8 n d.1.1 d.1.2.2.1 d.2.1)
def Rm (N: Nat): Lam:=bw [⟨3,sunes_p3,JS N⟩]
theorem Rn (N: Nat): OkL Kx sunes_C.s Rk 0 N (Rm N) JQ:=okL sunes_p3 (JS) (fun d kR=>JR (rM d.1.1 d.1.2.2.1 d.2.1 (fun aL aA bu=>kR ((aL,(),aA,()),(bu,()))))) (fun _ _=>by kernel_rfl) (fun _ _ _=>by kernel_rfl) (fun _ _=>by kernel_rfl) (fun _ _ _ _=>by kernel_rfl) (am (l':=[]) (by kernel_rfl) trivial)
def Do (N: Nat) (s: aa): OR':=(k8 N s 0 ([]: (List Int)) (fun ab=>(some ((AV.str (bQ ab)),[]))))
def Dp (φ: aa→Br): List AV→List Ob→Br
 | [.str s],[]=>φ s
 | _,_=> .fail
theorem M5 {φ: aa→Br} (fu: aa→Nat) (hv: ∀ s res_,(φ s).val=some res_→Do (fu s) s=some res_): Sound Kx 302 (Dp φ):=ar (C:=sunes_C) (O:=Rk) Tryz.func302 (by kernel_rfl) fun args objs=>by
 unfold Dp;split
 · rename_i s;exact .inr fun _ hyp_=>aS (Λ:=Rm (fu s)) (by kernel_rfl) (am (l':=[JQ]) (by kernel_rfl) ⟨Rn _,trivial⟩) (by kernel_rfl) (hv s _ hyp_)
 · exact .inl rfl
def Dq: Opt:={ live:=[(2,[0,1,5])],outs:=[(2,[4])] }
def allHost_C: SC:=[⟨337,_,Q5⟩]
def k9 (aK: aa) (aM: Int) (kR2: aa→Int→OR') (cu dn: OR'): OR':=
 (bif (decide (aM < (aK.length: Int))) then (bif (decide (0≤aM)) then (bif (decide (aM < (aK.length: Int))) then (bif (!(hoB (aC aK aM))) then cu else (kR2 aK (ai (aM + 1)))) else none) else none) else dn)
def gn: Nat→aa→Int→(OR')→(OR')→OR'
 | 0,_,_,_,_=>none
 | n + 1,aK,aM,cu,dn=>k9 aK aM (fun aK aM=>gn n aK aM cu dn) cu dn
abbrev allHost_p2: SP:=⟨18,[0,1,5],[(.v .s),(.v (.fn 337 [])),(.v (.i .i64))],[]⟩
noncomputable def xg: Code:=aD (aG Tryz.f74) [1,0,1,0,0]
def xh (f: (OR')→(OR')→OR') (k: KT): OR':=f (k Ex.ret ((St.mk (aH 0 18 [(4,(AV.bool false))]) ([]: (List (Nat×(Ob))))))) (k (Ex.exit 0) ((St.mk (aH 0 18 []) ([]: (List (Nat×(Ob)))))))
def xi (n: Nat) (d: allHost_p2.D): KT→OR':=xh (gn n d.1.1 d.1.2.2.1)
def Dr (N: Nat): Lam:=bw [⟨2,allHost_p2,xi N⟩]
theorem Gg (N: Nat): OkL Kx allHost_C.s Dq 0 N (Dr N) xg:=okL allHost_p2 (xi) (fun d kR=>xh (k9 d.1.1 d.1.2.2.1 (fun aK aM=>kR ((aK,(),aM,()),())))) (fun _ _=>by kernel_rfl) (fun _ _ _=>by kernel_rfl) (fun _ _=>by kernel_rfl) (fun _ _ _ _=>by kernel_rfl) (am (l':=[]) (by kernel_rfl) trivial)
def uj (N: Nat) (s: aa): OR':=(gn N s 0 (some ((AV.bool false),[])) (some ((AV.bool true),[])))
def mA (φ: aa→Br): List AV→List Ob→Br
 | [.str s, .fn 337 []],[]=>φ s
 | _,_=> .fail
theorem Ds {φ: aa→Br} (fu: aa→Nat) (hv: ∀ s res_,(φ s).val=some res_→uj (fu s) s=some res_): Sound Kx 74 (mA φ):=ar (C:=allHost_C) (O:=Dq) Tryz.func74 (by kernel_rfl) fun args objs=>by
 unfold mA;split
 · rename_i s;exact .inr fun _ hyp_=>aS (Λ:=Dr (fu s)) (by kernel_rfl) (am (l':=[xg]) (by kernel_rfl) ⟨Gg _,trivial⟩) (by kernel_rfl) (hv s _ hyp_)
 · exact .inl rfl
def Gh: Opt:={ live:=[(10,[3,4,5]),(5,[3,4])],outs:=[(10,[2,3,4]),(5,[2])] }
def sHost_C: SC:=[⟨213,_,iD⟩,⟨301,_,xe⟩]
def nK (fQ jc: Int) (gg: (List aa)) (af4: Int→Int→(List aa)→OR') (UO YD: Int→(List aa)→OR'): OR':=
 (bif (decide (0≤fQ)) then (bif (decide (fQ < (gg.length: Int))) then (bif (decide (jc < ((List.length (List.getD gg (Int.toNat fQ) ([]: aa))): Int))) then (bif (decide (0≤fQ)) then (bif (decide (fQ < (gg.length: Int))) then (bif (decide (0≤jc)) then (bif (decide (jc < ((List.length (List.getD gg (Int.toNat fQ) ([]: aa))): Int))) then (bif (decide (97≤(aC (List.getD gg (Int.toNat fQ) ([]: aa)) jc))) then (bif (!(decide ((aC (List.getD gg (Int.toNat fQ) ([]: aa)) jc)≤122))) then (bif (!(aJ (aC (List.getD gg (Int.toNat fQ) ([]: aa)) jc))) then (bif (!(decide ((aC (List.getD gg (Int.toNat fQ) ([]: aa)) jc)=45))) then (UO fQ gg) else (af4 fQ (ai (jc + 1)) gg)) else (af4 fQ (ai (jc + 1)) gg)) else (af4 fQ (ai (jc + 1)) gg)) else (bif (!(aJ (aC (List.getD gg (Int.toNat fQ) ([]: aa)) jc))) then (bif (!(decide ((aC (List.getD gg (Int.toNat fQ) ([]: aa)) jc)=45))) then (UO fQ gg) else (af4 fQ (ai (jc + 1)) gg)) else (af4 fQ (ai (jc + 1)) gg))) else none) else none) else none) else none) else (YD fQ gg)) else none) else none)
def iT: Nat→Int→Int→(List aa)→(Int→(List aa)→OR')→(Int→(List aa)→OR')→OR'
 | 0,_,_,_,_,_=>none
 | n + 1,fQ,jc,gg,UO,YD=>nK fQ jc gg (fun fQ jc gg=>iT n fQ jc gg UO YD) UO YD
abbrev sHost_p10: SP:=⟨59,[3,4,5],[(.v (.ref 256 0)),(.v (.i .i64)),(.v (.i .i64))],[(256, .arr Ty.str 0 false)]⟩
noncomputable def uk: Code:=aD (aG Tryz.f303) [1,1,1,0,1,0,0,1,0,0,1,1,0,0]
def Dt (f: (Int→(List aa)→OR')→(Int→(List aa)→OR')→OR') (k: KT): OR':=f (fun UP UQ=>k Ex.ret ((St.mk (aH 0 59 [(2,(AV.bool false)),(3,(AV.ref 256 0)),(4,(AV.int .i64 UP))]) ((256,(Ob.arr Ty.str 0 false UQ))::([]: (List (Nat×(Ob)))))))) (fun G9 G_=>k (Ex.exit 2) ((St.mk (aH 0 59 [(3,(AV.ref 256 0)),(4,(AV.int .i64 G9))]) ((256,(Ob.arr Ty.str 0 false G_))::([]: (List (Nat×(Ob))))))))
def Du (n: Nat) (d: sHost_p10.D): KT→OR':=Dt (iT n d.1.2.1 d.1.2.2.1 d.2.1)
def rN (N: Nat) (aI: Int) (aR: (List aa)) (kR5: Int→(List aa)→OR') (cR Lq: OR'): OR':=
 (bif (decide (aI < (aR.length: Int))) then (bif (decide (0≤aI)) then (bif (decide (aI < (aR.length: Int))) then (bif (decide ((List.getD aR (Int.toNat aI) ([]: aa))=([]: aa))) then cR else (iT N aI 0 aR (fun UP UQ=>cR) (fun G9 G_=>(kR5 (ai (G9 + 1)) G_)))) else none) else none) else Lq)
def k_ (N: Nat): Nat→Int→(List aa)→(OR')→(OR')→OR'
 | 0,_,_,_,_=>none
 | n + 1,aI,aR,cR,Lq=>rN N aI aR (fun aI aR=>k_ N n aI aR cR Lq) cR Lq
abbrev sHost_p5: SP:=⟨59,[3,4],[(.v (.ref 256 0)),(.v (.i .i64))],[(256, .arr Ty.str 0 false)]⟩
noncomputable def JT: Code:=aD (aG Tryz.f303) [1,1,1,0,1,0,0]
def JU (f: (OR')→(OR')→OR') (k: KT): OR':=f (k Ex.ret ((St.mk (aH 0 59 [(2,(AV.bool false))]) ([]: (List (Nat×(Ob))))))) (k (Ex.exit 0) ((St.mk (aH 0 59 []) ([]: (List (Nat×(Ob)))))))
def JV (N n: Nat) (d: sHost_p5.D): KT→OR':=JU (k_ N n d.1.2.1 d.2.1)
def Gi (N: Nat): Lam:=bw [⟨10,sHost_p10,Du N⟩,⟨5,sHost_p5,JV N N⟩]
theorem xj (N: Nat): OkL Kx sHost_C.s Gh 0 N (Gi N) uk:=okL sHost_p10 (Du) (fun d kR=>Dt (nK d.1.2.1 d.1.2.2.1 d.2.1 (fun fQ jc gg=>kR (((),fQ,jc,()),(gg,()))))) (fun _ _=>by kernel_rfl) (fun _ _ _=>by kernel_rfl) (fun _ _=>by kernel_rfl) (fun _ _ _ _=>by kernel_rfl) (am (l':=[]) (by kernel_rfl) trivial)
theorem Ro (N: Nat): OkL Kx sHost_C.s Gh 0 N (Gi N) JT:=okL sHost_p5 (JV N) (fun d kR=>JU (rN N d.1.2.1 d.2.1 (fun aI aR=>kR (((),aI,()),(aR,()))))) (fun _ _=>by kernel_rfl) (fun _ _ _=>by kernel_rfl) (fun _ _=>by kernel_rfl) (fun _ _ _ _=>by kernel_rfl) (am (l':=[uk]) (by kernel_rfl) ⟨xj _,trivial⟩)
def Dv (N: Nat) (s: aa): OR':=(bif (decide ((s.length: Int)=0)) then (some ((AV.bool false),[])) else (bif (decide (60 < (s.length: Int))) then (some ((AV.bool false),[])) else (bif (decide (s.length≤1000000)) then (k_ N N 0 (j5 s 46) (some ((AV.bool false),[])) (some ((AV.bool true),[]))) else none)))
def Dw (φ: aa→Br): List AV→List Ob→Br
 | [.str s],[]=>φ s
 | _,_=> .fail
theorem M6 {φ: aa→Br} (fu: aa→Nat) (hv: ∀ s res_,(φ s).val=some res_→Dv (fu s) s=some res_): Sound Kx 303 (Dw φ):=ar (C:=sHost_C) (O:=Gh) Tryz.func303 (by kernel_rfl) fun args objs=>by
 unfold Dw;split
 · rename_i s;exact .inr fun _ hyp_=>aS (Λ:=Gi (fu s)) (by kernel_rfl) (am (l':=[JT,uk]) (by kernel_rfl) ⟨Ro _,xj _,trivial⟩) (by kernel_rfl) (hv s _ hyp_)
 · exact .inl rfl
def abM: SC:=[⟨201,_,dX⟩,⟨232,_,Fg⟩]
def zc (n: Int): Br:=(.ite (decide (0≤n)) (.ite (!(decide (n≤999999999999999))) (.ret (AV.str ([]: aa)) []) (.ite (bC n) (.ret (AV.str (bT n)) []) .fail)) (.ret (AV.str ([]: aa)) []))
def Rp: List AV→List Ob→Br
 | [.int .i64 n],[]=>zc n
 | _,_=> .fail
theorem iDecT_ok: Sound Kx 316 Rp:=ah (C:=abM) (O:=O0) Tryz.func316 (by kernel_rfl) fun args objs=>by
 unfold Rp;split
 · exact .inr (by kernel_rfl)
 · exact .inl rfl
def xk: Opt:={ live:=[(5,[0,4,5])],outs:=[(5,[0,2,3,4])] }
def sReadDec_C: SC:=[⟨213,_,iD⟩,⟨191,_,oD⟩]
def jC (aI: aa) (aR aF: Int) (kR5: aa→Int→Int→OR') (cR Lq: aa→Int→OR'): OR':=
 (bif (decide (aF < (aI.length: Int))) then (bif (decide (0≤aF)) then (bif (decide (aF < (aI.length: Int))) then (bif (!(aJ (aC aI aF))) then (cR aI aR) else (bif (decide (0≤aF)) then (bif (decide (aF < (aI.length: Int))) then (kR5 aI (ai ((ai (aR * 10)) + (ai (wk8 ((aC aI aF) - 48))))) (ai (aF + 1))) else none) else none)) else none) else none) else (Lq aI aR))
def fj: Nat→aa→Int→Int→(aa→Int→OR')→(aa→Int→OR')→OR'
 | 0,_,_,_,_,_=>none
 | n + 1,aI,aR,aF,cR,Lq=>jC aI aR aF (fun aI aR aF=>fj n aI aR aF cR Lq) cR Lq
abbrev sReadDec_p5: SP:=⟨38,[0,4,5],[(.v .s),(.v (.i .i64)),(.v (.i .i64))],[]⟩
noncomputable def ul: Code:=aD (aG Tryz.f274) [1,1,1,0,1,0,0]
def um (f: (aa→Int→OR')→(aa→Int→OR')→OR') (k: KT): OR':=f (fun ap a_=>k Ex.ret ((St.mk (aH 0 38 [(0,(AV.str ap)),(2,(AV.int .i64 0)),(3,(AV.bool false)),(4,(AV.int .i64 a_))]) ([]: (List (Nat×(Ob))))))) (fun va EK=>k (Ex.exit 0) ((St.mk (aH 0 38 [(0,(AV.str va)),(4,(AV.int .i64 EK))]) ([]: (List (Nat×(Ob)))))))
def uo (n: Nat) (d: sReadDec_p5.D): KT→OR':=um (fj n d.1.1 d.1.2.1 d.1.2.2.1)
def xl (N: Nat): Lam:=bw [⟨5,sReadDec_p5,uo N⟩]
theorem Dx (N: Nat): OkL Kx sReadDec_C.s xk 0 N (xl N) ul:=okL sReadDec_p5 (uo) (fun d kR=>um (jC d.1.1 d.1.2.1 d.1.2.2.1 (fun aI aR aF=>kR ((aI,aR,aF,()),())))) (fun _ _=>by kernel_rfl) (fun _ _ _=>by kernel_rfl) (fun _ _=>by kernel_rfl) (fun _ _ _ _=>by kernel_rfl) (am (l':=[]) (by kernel_rfl) trivial)
def qF (N: Nat) (s: aa): OR':=(bif (decide ((s.length: Int)=0)) then (some ((AV.tup [.int .i64 0,.bool false]),[])) else (bif (decide (15 < (s.length: Int))) then (some ((AV.tup [.int .i64 0,.bool false]),[])) else (fj N s 0 0 (fun ap a_=>(some ((AV.tup [.int .i64 0,.bool false]),[]))) (fun va EK=>(bif (bC EK) then (bif (!(decide ((bT EK)=va))) then (some ((AV.tup [.int .i64 0,.bool false]),[])) else (some ((AV.tup [.int .i64 EK,.bool true]),[]))) else none)))))
def qG (φ: aa→Br): List AV→List Ob→Br
 | [.str s],[]=>φ s
 | _,_=> .fail
theorem zd {φ: aa→Br} (fu: aa→Nat) (hv: ∀ s res_,(φ s).val=some res_→qF (fu s) s=some res_): Sound Kx 274 (qG φ):=ar (C:=sReadDec_C) (O:=xk) Tryz.func274 (by kernel_rfl) fun args objs=>by
 unfold qG;split
 · rename_i s;exact .inr fun _ hyp_=>aS (Λ:=xl (fu s)) (by kernel_rfl) (am (l':=[ul]) (by kernel_rfl) ⟨Dx _,trivial⟩) (by kernel_rfl) (hv s _ hyp_)
 · exact .inl rfl
theorem abN: ∀ k: Fin 256,0≤eG (k.val: Int)→aC Q4 (eG (k.val: Int))=upI (k.val: Int):=by decide +kernel
theorem ZB (a: UInt8) (h: 0≤eG (by8 a)): aC Q4 (eG (by8 a))=upI (by8 a):=abN ⟨a.toNat,a.toNat_lt⟩ h
theorem ael: ∀ k: Fin 256,0≤upI (k.val: Int)∧upI (k.val: Int) < 256:=by decide +kernel
theorem aem (a: UInt8): 0≤upI (by8 a)∧upI (by8 a) < 256:=ael ⟨a.toNat,a.toNat_lt⟩
theorem abO: ∀ x y: Fin 16,IntKind.u8.wrap ((BitVec.ofInt 8 (16 * (x.val: Int) + (y.val: Int))&&& BitVec.ofInt 8 15).toNat: Int)=(y.val: Int):=by decide +kernel
theorem abP (x y: Int) (hx: 0≤x) (hx': x < 16) (hy: 0≤y) (hy': y < 16): wkk .u8 ((BitVec.ofInt 8 (16 * x + y)&&& BitVec.ofInt 8 15).toNat: Int)=y:=by
 have h:=abO ⟨x.toNat,by omega⟩ ⟨y.toNat,by omega⟩
 simp only at h
 rw [show ((x.toNat: Nat): Int)=x by omega,show ((y.toNat: Nat): Int)=y by omega] at h
 rw [sf];exact h
theorem uq (n: Int) (h0: 0≤n) (h1: n < 256): by8 (UInt8.ofNat n.toNat)=n:=by
 unfold by8;rw [UInt8.toNat_ofNat'];omega
theorem qH (c: UInt8) (r: aa): bytesOf (c::r)=by8 c::bytesOf r:=rfl
theorem ut (a b: aa): bytesOf (a++b)=bytesOf a++bytesOf b:=by simp [bytesOf]
theorem rP (c a b: UInt8) (r: aa): e9 (c::a::b::r)=bif uh c a b then xb a b++e9 r else c::e9 (a::b::r):=by rw [e9]
theorem qI (a b: UInt8) (h0: 0≤ed a b) (h1: ed a b < 256): bytesOf (xb a b)=bif rb (ed a b) then [ed a b] else [37,upI (by8 a),upI (by8 b)]:=by
 have ha:=aem a
 have hb:=aem b
 unfold xb
 cases rb (ed a b)
 · simp only [cond_false,qH,uq _ ha.1 ha.2,uq _ hb.1 hb.2];rfl
 · simp only [cond_true,qH,uq _ h0 h1];rfl
theorem mC {α: Type} {b: Bool} {x y: α} (h: b=true): (bif b then x else y)=x:=by rw [h];rfl
theorem ahv (a b c: Int): List.set (List.set (List.set (List.replicate 3 (0 : Int)) 0 a) 1 b) 2 c=[a,b,c]:=rfl
theorem Rq: ((48 : UInt8)::((49 : UInt8)::((50 : UInt8)::((51 : UInt8)::((52 : UInt8)::((53 : UInt8)::((54 : UInt8)::((55 : UInt8)::((56 : UInt8)::((57 : UInt8)::((65 : UInt8)::((66 : UInt8)::((67 : UInt8)::((68 : UInt8)::((69 : UInt8)::((70 : UInt8)::([]: (List UInt8))))))))))))))))))=Q4:=rfl
theorem M7 (s: aa) (hl: s.length≤1000000) (k: List Int→OR'): ∀ (n: Nat) (r: aa) (i: Int) (out: List Int),At s i r→r.length < n→out.length + r.length≤s.length→
 k7 n s i out k=k (out++bytesOf (e9 r)):=by
 intro n;induction n with
 | zero=>intro r i out h hn;omega
 | succ n ih=>
   intro r i out h hn ho
   cases r with
   | nil=>unfold k7 rL;simp only [h.dge,cond_false,e9];simp [bytesOf]
   | cons c r=>
     simp only [List.length_cons] at hn ho
     have hap: decide ((out.length + [by8 c].length) * 1≤140737488355328)=true:=dT' (by simp only [List.length_singleton];omega)
     have hi:=h.nn
     have hle:=h.le
     simp only [List.length_cons] at hle
     have w1: ai (i + 1)=i + 1:=w64 (by omega) (by omega)
     have w2: ai (i + 2)=i + 2:=w64 (by omega) (by omega)
     have hstep:=ih r (i + 1) (out++[by8 c]) h.step (by omega) (by simp;omega)
     have hst': k (out++[by8 c]++bytesOf (e9 r))=k (out++by8 c::bytesOf (e9 r)):=by simp
     rw [hst'] at hstep
     unfold k7 rL
     simp only [h.dlt,h.dnn,h.str,cond_true,cm,hap,w1,w2,hstep]
     cases c1: decide (by8 c=37)
     · simp only [Bool.not_false,cond_true]
       have e: ∀ a b,uh c a b=false:=fun a b=>by unfold uh;rw [c1];rfl
       cases r with
       | nil=>rfl
       | cons a r=>cases r with
         | nil=>rfl
         | cons b r=>rw [rP,e a b,cond_false];rfl
     · simp only [Bool.not_true,cond_false]
       cases r with
       | nil=>
         rw [dT' (show (s.length: Int)≤i + 2 by simp at hle;omega),cond_true];rfl
       | cons a r=>cases r with
         | nil=>
           rw [dT' (show (s.length: Int)≤i + 2 by simp at hle;omega),cond_true];rfl
         | cons b r=>
           simp only [List.length_cons] at hle hn ho
           have h2:=h.step
           have h3:=h2.step
           have e2: i + 1 + 1=i + 2:=by omega
           rw [e2] at h3
           rw [dF' (show ¬ (s.length: Int)≤i + 2 by omega),cond_false,rP]
           simp only [h2.dlt,h2.dnn,h2.str,h3.dlt,h3.dnn,h3.str,cond_true]
           unfold uh
           rw [c1,Bool.true_and]
           have hxa:=ug (by8 a)
           have hxb:=ug (by8 b)
           cases c2: decide (eG (by8 a) < 0)
           · cases c3: decide (eG (by8 b) < 0)
             · have g2:=of_decide_eq_false c2
               have g3:=of_decide_eq_false c3
               have hp: wk8 (ai (ai (16 * eG (by8 a)) + eG (by8 b)))=ed a b:=by unfold ed;simp (disch:=omega) only [w8,w64]
               have p0: 0≤ed a b:=by unfold ed;omega
               have p1: ed a b < 256:=by unfold ed;omega
               have hd: (ed a b).fdiv 16=eG (by8 a):=by unfold ed;rw [Int.fdiv_eq_ediv_of_nonneg _ (by decide)];omega
               have hm: wkk .u8 ((BitVec.ofInt 8 (ed a b)&&& BitVec.ofInt 8 15).toNat: Int)=eG (by8 b):=abP _ _ (by omega) hxa (by omega) hxb
               have w3: ai (i + 2 + 1)=i + 3:=by rw [w64 (by omega) (by omega)];omega
               have ha3: decide ((out.length + [37,upI (by8 a),upI (by8 b)].length) * 1≤140737488355328)=true:=dT' (by simp only [List.length_cons,List.length_nil];omega)
               have ha1: decide ((out.length + [ed a b].length) * 1≤140737488355328)=true:=dT' (by simp only [List.length_cons,List.length_nil];omega)
               have q1: decide (0≤eG (by8 a))=true:=dT' (by omega)
               have q2: decide (eG (by8 a) < 16)=true:=dT' hxa
               have q3: decide (0≤eG (by8 b))=true:=dT' (by omega)
               have q4: decide (eG (by8 b) < 16)=true:=dT' hxb
               simp only [hp,hd,hm,Bool.not_false,Bool.and_self,cond_true,cond_false,ut,qI a b p0 p1,ahv,Rq,ZB a (by omega),ZB b (by omega),w3,cm,ha3,ha1,q1,q2,q3,q4]
               have h4:=h3.step
               rw [show i + 2 + 1=i + 3 by omega] at h4
               cases rb (ed a b)
               · have:=ih r (i + 3) (out++[37,upI (by8 a),upI (by8 b)]) h4 (by omega) (by simp;omega)
                 rw [cond_false,this,List.append_assoc];rfl
               · have:=ih r (i + 3) (out++[ed a b]) h4 (by omega) (by simp;omega)
                 rw [cond_true,this,List.append_assoc];rfl
             · simp only [Bool.not_false,Bool.not_true,Bool.and_false,cond_true,cond_false];rfl
           · simp only [Bool.not_true,Bool.false_and,cond_true,cond_false];rfl
def W9: List AV→List Ob→Br
 | [.str s],[]=> .ite (decide (s.length≤1000000)) (.ret (.str (e9 s)) []) .fail
 | _,_=> .fail
theorem Rr: Sound Kx 319 W9:=by
 refine (M4 (φ:=fun s=> .ite (decide (s.length≤1000000)) (.ret (.str (e9 s)) []) .fail) (fun s=>s.length + 1) fun s r h=>?_).of fun args objs r h=>?_
 · obtain ⟨h1,h2⟩:=al h
   cases h2
   rw [decide_eq_true_eq] at h1
   unfold Dm
   rw [M7 s h1 _ _ s 0 [] (At.start s) (by omega) (by simp),List.nil_append,sP]
 · unfold W9 at h;split at h
   · exact h
   · cases h
theorem Rt (a b: UInt8): ee [a,b]=bif !decide (eG (by8 a) < 0)&& !decide (eG (by8 b) < 0) then (ed a b,true) else (0,false):=by
 have e1: aU fc [a,b]=(!decide (eG (by8 a) < 0)&& !decide (eG (by8 b) < 0)):=by
  show (fc (by8 a)&&(fc (by8 b)&&true))=_
  rw [Bool.and_true];rfl
 have e2: ac7 [a,b] 0=ed a b:=by
  show (0 * 16 + eG (by8 a)) * 16 + eG (by8 b)=_
  unfold ed;omega
 unfold ee
 rw [e1,e2];rfl
theorem M8 (s: aa) (hl: s.length≤1000000) (k: List Int→OR'): ∀ (n: Nat) (r: aa) (i: Int) (out: List Int),At s i r→r.length < n→out.length + r.length≤s.length→
 k8 n s i out k=k (out++bytesOf (e9 r)):=by
 intro n;induction n with
 | zero=>intro r i out h hn;omega
 | succ n ih=>
   intro r i out h hn ho
   cases r with
   | nil=>unfold k8 rM;simp only [h.dge,cond_false,e9];simp [bytesOf]
   | cons c r=>
     simp only [List.length_cons] at hn ho
     have hap: decide ((out.length + [by8 c].length) * 1≤140737488355328)=true:=dT' (by simp only [List.length_singleton];omega)
     have hi:=h.nn
     have hle:=h.le
     simp only [List.length_cons] at hle
     have w1: ai (i + 1)=i + 1:=w64 (by omega) (by omega)
     have w2: ai (i + 2)=i + 2:=w64 (by omega) (by omega)
     have w3': ai (i + 3)=i + 3:=w64 (by omega) (by omega)
     have hstep:=ih r (i + 1) (out++[by8 c]) h.step (by omega) (by simp;omega)
     have hst': k (out++[by8 c]++bytesOf (e9 r))=k (out++by8 c::bytesOf (e9 r)):=by simp
     rw [hst'] at hstep
     unfold k8 rM
     simp only [h.dlt,h.dnn,h.str,cond_true,cm,hap,w1,w2,w3',hstep]
     cases c1: decide (by8 c=37)
     · simp only [Bool.not_false,cond_true]
       have e: ∀ a b,uh c a b=false:=fun a b=>by unfold uh;rw [c1];rfl
       cases r with
       | nil=>rfl
       | cons a r=>cases r with
         | nil=>rfl
         | cons b r=>rw [rP,e a b,cond_false];rfl
     · simp only [Bool.not_true,cond_false]
       cases r with
       | nil=>
         rw [dT' (show (s.length: Int)≤i + 2 by simp at hle;omega),cond_true];rfl
       | cons a r=>cases r with
         | nil=>
           rw [dT' (show (s.length: Int)≤i + 2 by simp at hle;omega),cond_true];rfl
         | cons b r=>
           simp only [List.length_cons] at hle hn ho
           have h2:=h.step
           have h3:=h2.step
           have e2: i + 1 + 1=i + 2:=by omega
           rw [e2] at h3
           have hcut: cut s (i + 1) (i + 3)=[a,b]:=by
            obtain ⟨p,hs,hp⟩:=h
            exact Q1 (p:=p++[c]) (r:=r) (by rw [hs];simp) (by rw [hp];simp) (by simp;omega)
           rw [dF' (show ¬ (s.length: Int)≤i + 2 by omega),cond_false,rP]
           rw [dT' (show i + 1≤i + 3 by omega),dT' (show i + 3≤(s.length: Int) by omega)]
           simp only [h2.dlt,h2.dnn,h2.str,h3.dlt,h3.dnn,h3.str,cond_true,hcut,Rt]
           unfold uh
           rw [c1,Bool.true_and]
           have hxa:=ug (by8 a)
           have hxb:=ug (by8 b)
           cases c2: decide (eG (by8 a) < 0)
           · cases c3: decide (eG (by8 b) < 0)
             · have g2:=of_decide_eq_false c2
               have g3:=of_decide_eq_false c3
               have p0: 0≤ed a b:=by unfold ed;omega
               have p1: ed a b < 256:=by unfold ed;omega
               have hp: wk8 (ed a b)=ed a b:=w8 p0 p1
               have w3: ai (i + 2 + 1)=i + 3:=by rw [w64 (by omega) (by omega)];omega
               have ha3: decide ((out.length + [37,upI (by8 a),upI (by8 b)].length) * 1≤140737488355328)=true:=dT' (by simp only [List.length_cons,List.length_nil];omega)
               have ha1: decide ((out.length + [ed a b].length) * 1≤140737488355328)=true:=dT' (by simp only [List.length_cons,List.length_nil];omega)
               simp only [Bool.not_false,Bool.and_self,cond_true,cond_false,Bool.not_true,hp,dT' p0,dT' p1,ut,qI a b p0 p1,ahv,w3,cm,ha3,ha1]
               have h4:=h3.step
               rw [show i + 2 + 1=i + 3 by omega] at h4
               cases rb (ed a b)
               · have:=ih r (i + 3) (out++[37,upI (by8 a),upI (by8 b)]) h4 (by omega) (by simp;omega)
                 rw [cond_false]
                 refine Eq.trans (mC ha3) ?_
                 rw [this,List.append_assoc];rfl
               · have:=ih r (i + 3) (out++[ed a b]) h4 (by omega) (by simp;omega)
                 rw [cond_true,this,List.append_assoc];rfl
             · simp only [Bool.not_false,Bool.not_true,Bool.and_false,cond_true,cond_false];rfl
           · simp only [Bool.not_true,Bool.not_false,Bool.false_and,cond_true,cond_false];rfl
theorem Ru: Sound Kx 302 W9:=by
 refine (M5 (φ:=fun s=> .ite (decide (s.length≤1000000)) (.ret (.str (e9 s)) []) .fail) (fun s=>s.length + 1) fun s r h=>?_).of fun args objs r h=>?_
 · obtain ⟨h1,h2⟩:=al h
   cases h2
   rw [decide_eq_true_eq] at h1
   unfold Do
   rw [M8 s h1 _ _ s 0 [] (At.start s) (by omega) (by simp),List.nil_append,sP]
 · unfold W9 at h;split at h
   · exact h
   · cases h
theorem Dy (l: aa) (hl: l.length≤4611686018427387904) (k0 k1: OR'): ∀ (r: aa) (i: Int) (n: Nat),At l i r→r.length < n→gn n l i k0 k1=bif aU hoB r then k1 else k0:=by
 intro r;induction r with
 | nil=>intro i n h hn;obtain ⟨n,rfl⟩:=bF hn;unfold gn k9;simp only [h.dge,cond_false,aU,List.all_nil,cond_true]
 | cons a r ih=>
   intro i n h hn;obtain ⟨n,rfl⟩:=bF hn
   have hs:=ih (i + 1) n h.step (by simp at hn;omega)
   unfold gn k9;simp only [h.dlt,h.dnn,h.str,cond_true,h.next hl,hs,aU,List.all_cons]
   cases hoB (by8 a) <;> rfl
def Rv:=mA fun s=> .ite (isM s) (.ret (.bool (aU hoB s)) []) .fail
theorem Gj: Sound Kx 74 Rv:=by
 refine Ds (fun s=>s.length + 1) fun s r h=>?_
 obtain ⟨h1,h2⟩:=al h
 unfold uj
 rw [Dy s (fZ h1) _ _ s 0 _ (At.start s) (by omega),← h2]
 cases aU hoB s <;> rfl
def laB (n: Int): Bool:=jV n||aJ n||decide (n=45)
theorem Gk (l: List aa) (j: Int) (r0: List aa) (w: aa) (hw: w.length≤1000000) (hj: At l j (w::r0)) (k0 k1: Int→List aa→OR'): ∀ (r: aa) (i: Int) (n: Nat),At w i r→r.length < n→
 iT n j i l k0 k1=bif aU laB r then k1 j l else k0 j l:=by
 intro r;induction r with
 | nil=>intro i n h hn;obtain ⟨n,rfl⟩:=bF hn;unfold iT nK;simp only [hj.dlt,hj.dnn,hj.get,cond_true,h.dge,cond_false];rfl
 | cons a r ih=>
   intro i n h hn;obtain ⟨n,rfl⟩:=bF hn
   have hs:=ih (i + 1) n h.step (by simp at hn;omega)
   have hall: aU laB (a::r)=(laB (by8 a)&&aU laB r):=rfl
   unfold iT nK
   simp only [hj.dlt,hj.dnn,hj.get,cond_true,h.dlt,h.dnn,h.str,h.next (show w.length≤4611686018427387904 by omega),hs,hall]
   unfold laB jV
   cases decide (97≤by8 a) <;> cases decide (by8 a≤122) <;> cases aJ (by8 a) <;> cases decide (by8 a=45) <;> rfl
theorem M9 (N: Nat) (l: List aa) (hl: l.length≤1000000) (hN: ∀ w ∈ l,w.length < N∧w.length≤1000000) (k0 k1: OR'): ∀ (r: List aa) (j: Int) (n: Nat),At l j r→r.length < n→
 k_ N n j l k0 k1=bif r.all (fun w=> !decide (w=[])&&aU laB w) then k1 else k0:=by
 intro r;induction r with
 | nil=>intro j n h hn;obtain ⟨n,rfl⟩:=bF hn;unfold k_ rN;simp only [h.dge,cond_false];rfl
 | cons w r ih=>
   intro j n h hn;obtain ⟨n,rfl⟩:=bF hn
   have hs:=ih (j + 1) n h.step (by simp at hn;omega)
   have hw: w ∈ l:=by obtain ⟨p,rfl,_⟩:=h;simp
   unfold k_ rN
   simp only [h.dlt,h.dnn,h.get,cond_true,List.all_cons]
   cases c: decide (w=[])
   · rw [cond_false,Gk l j r w (hN w hw).2 h _ _ w 0 N (At.start w) (hN w hw).1]
     simp only [h.next (show l.length≤4611686018427387904 by omega),hs,Bool.not_false,Bool.true_and]
     cases aU laB w <;> rfl
   · simp only [cond_true,Bool.not_true,Bool.false_and,cond_false]
theorem Gl (b: Int): ∀ (r cur: aa) (w: aa),w ∈ oQ b cur r→w.length≤cur.length + r.length
 | [],cur,w,h=>by
   have: w=cur:=by simpa [oQ] using h
   subst this;simp
 | x::r,cur,w,h=>by
   rw [uc] at h
   cases c: decide (by8 x=b)
   · rw [c,cond_false] at h
     have:=Gl b r _ w h
     simp at this ⊢;omega
   · rw [c,cond_true] at h
     rcases List.mem_cons.1 h with h | h
     · subst h;simp
     · have:=Gl b r _ w h
       simp at this ⊢;omega
theorem JW {α: Type} (p q: α→Bool): ∀ l: List α,l.all (fun x=>p x&&q x)=(l.all p&&l.all q)
 | []=>rfl
 | a::l=>by simp only [List.all_cons];rw [JW p q l];cases p a <;> cases q a <;> cases l.all p <;> rfl
theorem aen (l: List aa): (l.all fun w=> !decide (w=[]))= !inP l []:=by
 unfold inP
 induction l with
 | nil=>rfl
 | cons a l ih=>rw [List.all_cons,List.any_cons,ih];cases decide (a=[]) <;> rfl
theorem M_ {p q: Int→Bool} (h: ∀ n,p n=q n) (s: aa): aU p s=aU q s:=by
 have: p=q:=funext h
 rw [this]
theorem W_ (s: aa): ((j5 s 46).all fun w=> !decide (w=[])&&aU laB w)=(aU hoB s&& !inP (j5 s 46) []):=by
 rw [JW,aen]
 have:=y6 46 laB s []
 rw [show (j5 s 46).all (fun s=>aU laB s)=(oQ 46 [] s).all (fun s=>aU laB s) from rfl,this]
 rw [show aU laB []=true from rfl,Bool.true_and,M_ (q:=hoB) (fun n=>by
  unfold laB hoB
  cases jV n <;> cases aJ n <;> cases decide (n=45) <;> cases decide (n=46) <;> rfl),Bool.and_comm]
def ahw: List AV→List Ob→Br
 | [.str s],[]=> .ret (.bool (ly s)) []
 | _,_=> .fail
theorem Rw: Sound Kx 303 ahw:=by
 refine (M6 (φ:=fun s=> .ret (.bool (ly s)) []) (fun s=>s.length + 3) fun s r h=>?_).of fun args objs r h=>?_
 · cases h
   unfold Dv ly
   cases c1: decide ((s.length: Int)=0)
   · have c1':=of_decide_eq_false c1
     cases c2: decide ((60 : Int) < (s.length: Int))
     · have c2':=of_decide_eq_false c2
       rw [dT' (show 1≤s.length by omega),dT' (show s.length≤60 by omega),dT' (show s.length≤1000000 by omega)]
       simp only [cond_false,cond_true,Bool.true_and]
       have hlen:=uf s 46
       rw [M9 _ (j5 s 46) (by omega) (fun w hw=>by have:=Gl 46 s [] w hw;simp at this;omega) _ _ _ 0 _ (At.start _) (by omega),W_]
       cases aU hoB s&& !inP (j5 s 46) [] <;> rfl
     · have c2':=of_decide_eq_true c2
       rw [dF' (show ¬ s.length≤60 by omega),Bool.and_false,Bool.false_and,Bool.false_and];rfl
   · have c1':=of_decide_eq_true c1
     rw [dF' (show ¬ 1≤s.length by omega),Bool.false_and,Bool.false_and,Bool.false_and];rfl
 · unfold ahw at h;split at h
   · exact h
   · cases h
def ahx: List AV→List Ob→Br
 | [.int .i64 n],[]=> .ret (.str (bif bC n then bT n else [])) []
 | _,_=> .fail
theorem Rx: Sound Kx 316 ahx:=iDecT_ok.of fun args objs r h=>by
 unfold ahx at h
 split at h
 case h_2=>cases h
 rename_i n
 cases h
 show (zc n).val=_
 unfold zc bC
 cases decide (0≤n) <;> cases decide (n≤999999999999999) <;> rfl
theorem ze (s: aa) (hl: s.length≤15) (k0 k1: aa→Int→OR') (K0: OR') (h0: ∀ x,k0 s x=K0): ∀ (r: aa) (v i: Int) (n: Nat),At s i r→r.length < n→0≤v→(v + 1) * 10 ^ r.length≤1000000000000000→
 fj n s v i k0 k1=bif aU aJ r then k1 s (tY r v) else K0:=by
 intro r;induction r with
 | nil=>intro v i n h hn hv hb;obtain ⟨n,rfl⟩:=bF hn;unfold fj jC;simp only [h.dge,cond_false];rfl
 | cons a r ih=>
   intro v i n h hn hv hb;obtain ⟨n,rfl⟩:=bF hn
   simp only [List.length_cons] at hn hb
   have hp: (1 : Int)≤10 ^ r.length:=by have h0: (0 : Int) < 10 ^ r.length:=Int.pow_pos (by decide);omega
   have hb': ((v + 1) * 10) * 10 ^ r.length≤1000000000000000:=by rw [Int.pow_succ,Int.mul_comm (10 ^ r.length) 10,← Int.mul_assoc] at hb;exact hb
   have hv10: (v + 1) * 10≤1000000000000000:=Int.le_trans (by have:=Int.mul_le_mul_of_nonneg_left hp (show 0≤(v + 1) * 10 by omega);rwa [Int.mul_one] at this) hb'
   have hall: aU aJ (a::r)=(aJ (by8 a)&&aU aJ r):=rfl
   have hN: tY (a::r) v=tY r (v * 10 + (by8 a - 48)):=rfl
   unfold fj jC
   simp only [h.dlt,h.dnn,h.str,cond_true,h.next (show s.length≤4611686018427387904 by omega),h0,hall,hN]
   cases c1: aJ (by8 a)
   · rfl
   · have c1':=c1
     simp only [aJ,Bool.and_eq_true,decide_eq_true_eq] at c1'
     have e: ai (ai (v * 10) + ai (wk8 (by8 a - 48)))=v * 10 + (by8 a - 48):=by simp (disch:=omega) only [w8,w64]
     simp only [Bool.not_true,cond_false,Bool.true_and,e]
     exact ih _ (i + 1) n h.step (by omega) (by omega) (Int.le_trans (Int.mul_le_mul_of_nonneg_right (show v * 10 + (by8 a - 48) + 1≤(v + 1) * 10 by omega) (by omega)) hb')
def ahy: List AV→List Ob→Br
 | [.str s],[]=> .ret (.tup [.int .i64 (jY s).1, .bool (jY s).2]) []
 | _,_=> .fail
theorem Dz: Sound Kx 274 ahy:=by
 refine (zd (φ:=fun s=> .ret (.tup [.int .i64 (jY s).1, .bool (jY s).2]) []) (fun s=>s.length + 1) fun s r h=>?_).of fun args objs r h=>?_
 · cases h
   unfold qF jY
   cases c1: decide ((s.length: Int)=0)
   · have c1':=of_decide_eq_false c1
     cases c2: decide ((15 : Int) < (s.length: Int))
     · have c2':=of_decide_eq_false c2
       simp only [cond_false]
       rw [ze s (by omega) _ _ (some (AV.tup [AV.int .i64 0,AV.bool false],[])) (fun _=>rfl) s 0 0 _ (At.start s) (by omega) (by omega) ?_,dT' (show 1≤s.length by omega),dT' (show s.length≤15 by omega)]
       · cases ha: aU aJ s
         · rfl
         · have:=Jj s ha (by omega)
           have h15: bC (tY s 0)=true:=by unfold bC;rw [dT' this.1,dT' this.2];rfl
           simp only [h15,cond_true,Bool.true_and]
           cases decide (bT (tY s 0)=s) <;> rfl
       · have h3: (10 : Nat) ^ s.length≤10 ^ 15:=Nat.pow_le_pow_right (by decide) (by omega)
         have e: (10 : Int) ^ s.length=((10 ^ s.length: Nat): Int):=by rw [Int.natCast_pow];rfl
         rw [e]
         have e2: (10 : Nat) ^ 15=1000000000000000:=by decide
         omega
     · have c2':=of_decide_eq_true c2
       rw [dF' (show ¬ s.length≤15 by omega),Bool.and_false,Bool.false_and,Bool.false_and];rfl
   · have c1':=of_decide_eq_true c1
     rw [dF' (show ¬ 1≤s.length by omega),Bool.false_and,Bool.false_and,Bool.false_and];rfl
 · unfold ahy at h;split at h
   · exact h
   · cases h
def JX: Opt:={ cons:=[49],live:=[(6,[3,4,29,30,31])],outs:=[(6,[2,3,4])] }
def iClean_C: SC:=[⟨117,_,Ql⟩,⟨74,_,kT⟩,⟨317,_,Ra⟩,⟨319,_,Rr⟩,⟨318,_,Dl⟩,⟨223,_,Ih⟩]
def nL (dU ec: (List aa)) (ej eJ: Int) (iz: (List aa)) (kR6: (List aa)→(List aa)→Int→Int→(List aa)→OR') (sd: (List aa)→(List aa)→OR'): OR':=
 (bif (decide (eJ < ej)) then (bif (decide (0≤eJ)) then (bif (decide (eJ < (ec.length: Int))) then (bif (decide ((List.getD ec (Int.toNat eJ) ([]: aa))=([46]: aa))) then (kR6 dU ec ej (ai (eJ + 1)) iz) else (bif (decide ((List.getD ec (Int.toNat eJ) ([]: aa))=([46,46]: aa))) then (bif (decide (0≤(if (0 < (ai ((iz.length: Int) - 1))) then (ai ((iz.length: Int) - 1)) else 0))) then (bif (decide ((if (0 < (ai ((iz.length: Int) - 1))) then (ai ((iz.length: Int) - 1)) else 0)≤(iz.length: Int))) then (kR6 dU ec ej (ai (eJ + 1)) (cut iz 0 (if (0 < (ai ((iz.length: Int) - 1))) then (ai ((iz.length: Int) - 1)) else 0))) else none) else none) else (bif (decide (((iz.length + (List.length (List.set (List.replicate 1 ([]: aa)) 0 (List.getD ec (Int.toNat eJ) ([]: aa))))) * 16)≤140737488355328)) then (kR6 dU ec ej (ai (eJ + 1)) (iz++(List.set (List.replicate 1 ([]: aa)) 0 (List.getD ec (Int.toNat eJ) ([]: aa))))) else none))) else none) else none) else (sd dU iz))
def iU: Nat→(List aa)→(List aa)→Int→Int→(List aa)→((List aa)→(List aa)→OR')→OR'
 | 0,_,_,_,_,_,_=>none
 | n + 1,dU,ec,ej,eJ,iz,sd=>nL dU ec ej eJ iz (fun dU ec ej eJ iz=>iU n dU ec ej eJ iz sd) sd
abbrev iClean_p6: SP:=⟨69,[3,4,29,30,31],[(.v (.ref 256 0)),(.v (.sh Ty.str)),(.v (.sh Ty.str)),(.v (.i .i64)),(.v (.i .i64))],[(256, .arr Ty.str 0 false)]⟩
noncomputable def DA: Code:=aD (aG Tryz.f286) [1,1,1,1,0,1,0,0]
def DB (f: ((List aa)→(List aa)→OR')→OR') (k: KT): OR':=f (fun de dV=>k (Ex.exit 0) ((St.mk (aH 0 69 [(3,(AV.ref 256 0)),(4,(AV.sh Ty.str de))]) ((256,(Ob.arr Ty.str 0 false dV))::([]: (List (Nat×(Ob))))))))
def DC (n: Nat) (d: iClean_p6.D): KT→OR':=DB (iU n d.1.2.1 d.1.2.2.1 d.1.2.2.2.1 d.1.2.2.2.2.1 d.2.1)
def JY (N: Nat): Lam:=bw [⟨6,iClean_p6,DC N⟩]
theorem Na (N: Nat): OkL Kx iClean_C.s JX 0 N (JY N) DA:=okL iClean_p6 (DC) (fun d kR=>DB (nL d.1.2.1 d.1.2.2.1 d.1.2.2.2.1 d.1.2.2.2.2.1 d.2.1 (fun dU ec ej eJ iz=>kR (((),dU,ec,ej,eJ,()),(iz,()))))) (fun _ _=>by kernel_rfl) (fun _ _ _=>by kernel_rfl) (fun _ _=>by kernel_rfl) (fun _ _ _ _=>by kernel_rfl) (am (l':=[]) (by kernel_rfl) trivial)
def xm (N: Nat) (p: aa): OR':=(bif (decide (1≤(p.length: Int))) then (bif (decide (1≤(p.length: Int))) then (bif (!(decide ((cut p 0 1)=([47]: aa)))) then (some ((AV.str ([]: aa)),[])) else (bif (decide (200 < (p.length: Int))) then (some ((AV.str ([]: aa)),[])) else (bif (isM p) then (bif (!(aU dD p)) then (some ((AV.str ([]: aa)),[])) else (bif ((((decide (p.length≤1000000))&&true)&&(VB p))&&true) then (bif (decide (0≤(oR p ([35,63]: aa)))) then (some ((AV.str ([]: aa)),[])) else (bif (decide (p.length≤1000000)) then (bif (decide (1≤((List.length (e9 p)): Int))) then (bif (decide ((List.length (cut (e9 p) 1 ((List.length (e9 p)): Int)))≤1000000)) then (iU N (j5 (cut (e9 p) 1 ((List.length (e9 p)): Int)) 47) (j5 (cut (e9 p) 1 ((List.length (e9 p)): Int)) 47) ((List.length (j5 (cut (e9 p) 1 ((List.length (e9 p)): Int)) 47)): Int) 0 ([]: (List aa)) (fun de dV=>(bif (decide (0≤(ai ((de.length: Int) - 1)))) then (bif (decide ((ai ((de.length: Int) - 1)) < (de.length: Int))) then (bif (decide ((List.getD de (Int.toNat (ai ((de.length: Int) - 1))) ([]: aa))=([46]: aa))) then (bif (decide (((dV.length + 1) * 16)≤140737488355328)) then (bif ((decide ((List.length (dV++(List.set (List.replicate 1 ([]: aa)) 0 ([]: aa))))≤1000000))&&(decide ((List.length (gW (dV++(List.set (List.replicate 1 ([]: aa)) 0 ([]: aa))) ([47]: aa)))≤1000000))) then (bif (decide ((1 + (List.length (gW (dV++(List.set (List.replicate 1 ([]: aa)) 0 ([]: aa))) ([47]: aa))))≤9223372036854775807)) then (some ((AV.str (([47]: aa)++(gW (dV++(List.set (List.replicate 1 ([]: aa)) 0 ([]: aa))) ([47]: aa)))),[])) else none) else none) else none) else (bif (decide ((List.getD de (Int.toNat (ai ((de.length: Int) - 1))) ([]: aa))=([46,46]: aa))) then (bif (decide (((dV.length + 1) * 16)≤140737488355328)) then (bif ((decide ((List.length (dV++(List.set (List.replicate 1 ([]: aa)) 0 ([]: aa))))≤1000000))&&(decide ((List.length (gW (dV++(List.set (List.replicate 1 ([]: aa)) 0 ([]: aa))) ([47]: aa)))≤1000000))) then (bif (decide ((1 + (List.length (gW (dV++(List.set (List.replicate 1 ([]: aa)) 0 ([]: aa))) ([47]: aa))))≤9223372036854775807)) then (some ((AV.str (([47]: aa)++(gW (dV++(List.set (List.replicate 1 ([]: aa)) 0 ([]: aa))) ([47]: aa)))),[])) else none) else none) else none) else (bif ((decide (dV.length≤1000000))&&(decide ((List.length (gW dV ([47]: aa)))≤1000000))) then (bif (decide ((1 + (List.length (gW dV ([47]: aa))))≤9223372036854775807)) then (some ((AV.str (([47]: aa)++(gW dV ([47]: aa)))),[])) else none) else none))) else none) else none))) else none) else none) else none)) else none)) else none))) else none) else (some ((AV.str ([]: aa)),[])))
def xn (φ: aa→Br): List AV→List Ob→Br
 | [.str p],[]=>φ p
 | _,_=> .fail
theorem Gm {φ: aa→Br} (fu: aa→Nat) (hv: ∀ p res_,(φ p).val=some res_→xm (fu p) p=some res_): Sound Kx 286 (xn φ):=ar (C:=iClean_C) (O:=JX) Tryz.func286 (by kernel_rfl) fun args objs=>by
 unfold xn;split
 · rename_i p;exact .inr fun _ hyp_=>aS (Λ:=JY (fu p)) (by kernel_rfl) (am (l':=[DA]) (by kernel_rfl) ⟨Na _,trivial⟩) (by kernel_rfl) (hv p _ hyp_)
 · exact .inl rfl
def rQ: Opt:={ cons:=[80],live:=[(22,[5,8,9]),(11,[4,5,6]),(4,[0,3])],outs:=[(22,[2,8]),(11,[2,5]),(4,[0,2])] }
def sClean_C: SC:=[⟨188,_,rD⟩,⟨302,_,Ru⟩,⟨301,_,xe⟩]
def nM (bI: aa) (bK: Int) (kR4: aa→Int→OR') (fU jI: aa→OR'): OR':=
 (bif (decide (bK < (bI.length: Int))) then (bif (decide (0≤bK)) then (bif (decide (bK < (bI.length: Int))) then (bif (decide ((aC bI bK)=35)) then (fU bI) else (bif (decide (0≤bK)) then (bif (decide (bK < (bI.length: Int))) then (bif (decide ((aC bI bK)=63)) then (fU bI) else (kR4 bI (ai (bK + 1)))) else none) else none)) else none) else none) else (jI bI))
def iV: Nat→aa→Int→(aa→OR')→(aa→OR')→OR'
 | 0,_,_,_,_=>none
 | n + 1,bI,bK,fU,jI=>nM bI bK (fun bI bK=>iV n bI bK fU jI) fU jI
abbrev sClean_p4: SP:=⟨114,[0,3],[(.v .s),(.v (.i .i64))],[]⟩
noncomputable def DD: Code:=aD (aG Tryz.f275) [1,1,0,1,0,0]
def DE (f: (aa→OR')→(aa→OR')→OR') (k: KT): OR':=f (fun ja=>k Ex.ret ((St.mk (aH 0 114 [(0,(AV.str ja)),(2,(AV.str ([]: aa)))]) ([]: (List (Nat×(Ob))))))) (fun dT=>k (Ex.exit 0) ((St.mk (aH 0 114 [(0,(AV.str dT))]) ([]: (List (Nat×(Ob)))))))
def DF (n: Nat) (d: sClean_p4.D): KT→OR':=DE (iV n d.1.1 d.1.2.1)
def iW (bZ: Int) (cA cB: (List aa)) (Ha: Int→(List aa)→(List aa)→OR') (YE: (List aa)→OR'): OR':=
 (bif (decide (bZ < (cA.length: Int))) then (bif (decide (0≤bZ)) then (bif (decide (bZ < (cA.length: Int))) then (bif (decide ((List.getD cA (Int.toNat bZ) ([]: aa))=([46]: aa))) then (bif (decide (0≤bZ)) then (bif (decide (bZ < (cA.length: Int))) then (bif (decide ((List.getD cA (Int.toNat bZ) ([]: aa))=([46,46]: aa))) then (bif (decide (0 < (cB.length: Int))) then (bif (decide (0≤(ai ((cB.length: Int) - 1)))) then (bif (decide ((ai ((cB.length: Int) - 1))≤(cB.length: Int))) then (bif (decide ((ai (bZ + 1))=(cA.length: Int))) then (bif (decide ((((List.length (cut cB 0 (ai ((cB.length: Int) - 1)))) + 1) * 16)≤140737488355328)) then (Ha (ai (bZ + 1)) cA ((cut cB 0 (ai ((cB.length: Int) - 1)))++(List.set (List.replicate 1 ([]: aa)) 0 ([]: aa)))) else none) else (Ha (ai (bZ + 1)) cA (cut cB 0 (ai ((cB.length: Int) - 1))))) else none) else none) else (bif (decide ((ai (bZ + 1))=(cA.length: Int))) then (bif (decide (((cB.length + 1) * 16)≤140737488355328)) then (Ha (ai (bZ + 1)) cA (cB++(List.set (List.replicate 1 ([]: aa)) 0 ([]: aa)))) else none) else (Ha (ai (bZ + 1)) cA cB))) else (bif (decide ((ai (bZ + 1))=(cA.length: Int))) then (bif (decide (((cB.length + 1) * 16)≤140737488355328)) then (Ha (ai (bZ + 1)) cA (cB++(List.set (List.replicate 1 ([]: aa)) 0 ([]: aa)))) else none) else (Ha (ai (bZ + 1)) cA cB))) else none) else none) else (bif (decide (0≤bZ)) then (bif (decide (bZ < (cA.length: Int))) then (bif (decide (0≤bZ)) then (bif (decide (bZ < (cA.length: Int))) then (bif (decide ((List.getD cA (Int.toNat bZ) ([]: aa))=([46,46]: aa))) then (bif (decide (0 < (cB.length: Int))) then (bif (decide (0≤(ai ((cB.length: Int) - 1)))) then (bif (decide ((ai ((cB.length: Int) - 1))≤(cB.length: Int))) then (bif (!(decide ((List.getD cA (Int.toNat bZ) ([]: aa))=([46,46]: aa)))) then (bif (decide (0≤bZ)) then (bif (decide (bZ < (cA.length: Int))) then (bif (decide ((((List.length (cut cB 0 (ai ((cB.length: Int) - 1)))) + (List.length (List.set (List.replicate 1 ([]: aa)) 0 (List.getD cA (Int.toNat bZ) ([]: aa))))) * 16)≤140737488355328)) then (Ha (ai (bZ + 1)) cA ((cut cB 0 (ai ((cB.length: Int) - 1)))++(List.set (List.replicate 1 ([]: aa)) 0 (List.getD cA (Int.toNat bZ) ([]: aa))))) else none) else none) else none) else (bif (decide ((ai (bZ + 1))=(cA.length: Int))) then (bif (decide ((((List.length (cut cB 0 (ai ((cB.length: Int) - 1)))) + 1) * 16)≤140737488355328)) then (Ha (ai (bZ + 1)) cA ((cut cB 0 (ai ((cB.length: Int) - 1)))++(List.set (List.replicate 1 ([]: aa)) 0 ([]: aa)))) else none) else (Ha (ai (bZ + 1)) cA (cut cB 0 (ai ((cB.length: Int) - 1)))))) else none) else none) else (bif (!(decide ((List.getD cA (Int.toNat bZ) ([]: aa))=([46,46]: aa)))) then (bif (decide (0≤bZ)) then (bif (decide (bZ < (cA.length: Int))) then (bif (decide (((cB.length + (List.length (List.set (List.replicate 1 ([]: aa)) 0 (List.getD cA (Int.toNat bZ) ([]: aa))))) * 16)≤140737488355328)) then (Ha (ai (bZ + 1)) cA (cB++(List.set (List.replicate 1 ([]: aa)) 0 (List.getD cA (Int.toNat bZ) ([]: aa))))) else none) else none) else none) else (bif (decide ((ai (bZ + 1))=(cA.length: Int))) then (bif (decide (((cB.length + 1) * 16)≤140737488355328)) then (Ha (ai (bZ + 1)) cA (cB++(List.set (List.replicate 1 ([]: aa)) 0 ([]: aa)))) else none) else (Ha (ai (bZ + 1)) cA cB)))) else (bif (!(decide ((List.getD cA (Int.toNat bZ) ([]: aa))=([46,46]: aa)))) then (bif (decide (0≤bZ)) then (bif (decide (bZ < (cA.length: Int))) then (bif (decide (((cB.length + (List.length (List.set (List.replicate 1 ([]: aa)) 0 (List.getD cA (Int.toNat bZ) ([]: aa))))) * 16)≤140737488355328)) then (Ha (ai (bZ + 1)) cA (cB++(List.set (List.replicate 1 ([]: aa)) 0 (List.getD cA (Int.toNat bZ) ([]: aa))))) else none) else none) else none) else (bif (decide ((ai (bZ + 1))=(cA.length: Int))) then (bif (decide (((cB.length + 1) * 16)≤140737488355328)) then (Ha (ai (bZ + 1)) cA (cB++(List.set (List.replicate 1 ([]: aa)) 0 ([]: aa)))) else none) else (Ha (ai (bZ + 1)) cA cB)))) else none) else none) else none) else none)) else none) else none) else (YE cB))
def dC: Nat→Int→(List aa)→(List aa)→((List aa)→OR')→OR'
 | 0,_,_,_,_=>none
 | n + 1,bZ,cA,cB,YE=>iW bZ cA cB (fun bZ cA cB=>dC n bZ cA cB YE) YE
abbrev sClean_p11: SP:=⟨114,[4,5,6],[(.v (.ref 320 0)),(.v (.ref 384 0)),(.v (.i .i64))],[(320, .arr Ty.str 0 false),(384, .arr Ty.str 0 false)]⟩
noncomputable def xo: Code:=aD (aG Tryz.f275) [1,1,1,1,1,0,1,0,0]
def xp (f: ((List aa)→OR')→OR') (k: KT): OR':=f (fun Hb=>k (Ex.exit 2) ((St.mk (aH 0 114 [(5,(AV.ref 384 0))]) ((384,(Ob.arr Ty.str 0 false Hb))::([]: (List (Nat×(Ob))))))))
def xq (n: Nat) (d: sClean_p11.D): KT→OR':=xp (dC n d.1.2.2.1 d.2.1 d.2.2.1)
def la (vL: aa) (rg: Int) (vb: (List aa)) (aij: aa→Int→(List aa)→OR') (YF: aa→OR'): OR':=
 (bif (decide (rg < (vb.length: Int))) then (bif (decide ((vL.length + 1)≤9223372036854775807)) then (bif (decide (0≤rg)) then (bif (decide (rg < (vb.length: Int))) then (bif (decide (((List.length (vL++([47]: aa))) + (List.length (List.getD vb (Int.toNat rg) ([]: aa))))≤9223372036854775807)) then (aij ((vL++([47]: aa))++(List.getD vb (Int.toNat rg) ([]: aa))) (ai (rg + 1)) vb) else none) else none) else none) else none) else (YF vL))
def go: Nat→aa→Int→(List aa)→(aa→OR')→OR'
 | 0,_,_,_,_=>none
 | n + 1,vL,rg,vb,YF=>la vL rg vb (fun vL rg vb=>go n vL rg vb YF) YF
abbrev sClean_p22: SP:=⟨114,[5,8,9],[(.v (.ref 384 0)),(.v .s),(.v (.i .i64))],[(384, .arr Ty.str 0 false)]⟩
noncomputable def xr: Code:=aD (aG Tryz.f275) [1,1,1,1,1,1,1,0,1,0,0]
def xu (f: (aa→OR')→OR') (k: KT): OR':=f (fun Ae=>k (Ex.exit 4) ((St.mk (aH 0 114 [(8,(AV.str Ae))]) ([]: (List (Nat×(Ob)))))))
def xw (n: Nat) (d: sClean_p22.D): KT→OR':=xu (go n d.1.2.1 d.1.2.2.1 d.2.1)
def rR (N: Nat): Lam:=bw [⟨4,sClean_p4,DF N⟩,⟨11,sClean_p11,xq N⟩,⟨22,sClean_p22,xw N⟩]
theorem Nb (N: Nat): OkL Kx sClean_C.s rQ 0 N (rR N) DD:=okL sClean_p4 (DF) (fun d kR=>DE (nM d.1.1 d.1.2.1 (fun bI bK=>kR ((bI,bK,()),())))) (fun _ _=>by kernel_rfl) (fun _ _ _=>by kernel_rfl) (fun _ _=>by kernel_rfl) (fun _ _ _ _=>by kernel_rfl) (am (l':=[]) (by kernel_rfl) trivial)
theorem Gn (N: Nat): OkL Kx sClean_C.s rQ 0 N (rR N) xo:=okL sClean_p11 (xq) (fun d kR=>xp (iW d.1.2.2.1 d.2.1 d.2.2.1 (fun bZ cA cB=>kR (((),(),bZ,()),(cA,cB,()))))) (fun _ _=>by kernel_rfl) (fun _ _ _=>by kernel_rfl) (fun _ _=>by kernel_rfl) (fun _ _ _ _=>by kernel_rfl) (am (l':=[]) (by kernel_rfl) trivial)
theorem Gp (N: Nat): OkL Kx sClean_C.s rQ 0 N (rR N) xr:=okL sClean_p22 (xw) (fun d kR=>xu (la d.1.2.1 d.1.2.2.1 d.2.1 (fun vL rg vb=>kR (((),vL,rg,()),(vb,()))))) (fun _ _=>by kernel_rfl) (fun _ _ _=>by kernel_rfl) (fun _ _=>by kernel_rfl) (fun _ _ _ _=>by kernel_rfl) (am (l':=[]) (by kernel_rfl) trivial)
def xx (N: Nat) (p: aa): OR':=(bif (decide ((p.length: Int)=0)) then (some ((AV.str ([]: aa)),[])) else (bif (decide (200 < (p.length: Int))) then (some ((AV.str ([]: aa)),[])) else (bif (decide (0 < (p.length: Int))) then (bif (!(decide ((aC p 0)=47))) then (some ((AV.str ([]: aa)),[])) else (bif (isM p) then (bif (!((aU dD p)&&(decide (0 < (p.length: Int))))) then (some ((AV.str ([]: aa)),[])) else (iV N p 0 (fun ja=>(some ((AV.str ([]: aa)),[]))) (fun dT=>(bif (decide (dT.length≤1000000)) then (bif (decide (1≤((List.length (e9 dT)): Int))) then (bif (decide ((List.length (cut (e9 dT) 1 ((List.length (e9 dT)): Int)))≤1000000)) then (dC N 0 (j5 (cut (e9 dT) 1 ((List.length (e9 dT)): Int)) 47) ([]: (List aa)) (fun Hb=>(go N ([]: aa) 0 Hb (fun Ae=>(bif (decide (Ae=([]: aa))) then (some ((AV.str ([47]: aa)),[])) else (some ((AV.str Ae),[]))))))) else none) else none) else none)))) else none)) else none)))
def xy (φ: aa→Br): List AV→List Ob→Br
 | [.str p],[]=>φ p
 | _,_=> .fail
theorem Gq {φ: aa→Br} (fu: aa→Nat) (hv: ∀ p res_,(φ p).val=some res_→xx (fu p) p=some res_): Sound Kx 275 (xy φ):=ar (C:=sClean_C) (O:=rQ) Tryz.func275 (by kernel_rfl) fun args objs=>by
 unfold xy;split
 · rename_i p;exact .inr fun _ hyp_=>aS (Λ:=rR (fu p)) (by kernel_rfl) (am (l':=[DD,xo,xr]) (by kernel_rfl) ⟨Nb _,Gn _,Gp _,trivial⟩) (by kernel_rfl) (hv p _ hyp_)
 · exact .inl rfl
def abQ: SC:=[⟨201,_,dX⟩,⟨74,_,Gj⟩,⟨318,_,Dl⟩,⟨103,_,JJ⟩]
def zf (s: aa): Br:=(.ite (decide (1≤(s.length: Int))) (.ite (!(decide ((s.length: Int)≤60))) (.ret (AV.bool false) []) (.ite (isM s) (.ite (!(aU hoB s)) (.ret (AV.bool false) []) (.ite (decide (s.length≤1000000)) (.ite (decide ((List.length (j5 s 46))≤1000000)) (.ret (AV.bool (!(inP (j5 s 46) ([]: aa)))) []) .fail) .fail)) .fail)) (.ret (AV.bool false) []))
def Ry: List AV→List Ob→Br
 | [.str s],[]=>zf s
 | _,_=> .fail
theorem iHost_ok: Sound Kx 320 Ry:=ah (C:=abQ) (O:=O0) Tryz.func320 (by kernel_rfl) fun args objs=>by
 unfold Ry;split
 · exact .inr (by kernel_rfl)
 · exact .inl rfl
def Nc: SC:=[⟨315,_,W8⟩,⟨201,_,dX⟩,⟨316,_,Rx⟩]
def mD (s: aa): Br:=(.ite (decide (s.length≤1000000)) (.ite (iO s) (.ite (decide (0≤(fL s))) (.ite (!(decide ((fL s)≤999999999999999))) (.ret (AV.tup [.int .i64 0,.bool false]) []) (.ite (!(decide ((bif (bC (fL s)) then (bT (fL s)) else ([]: aa))=s))) (.ret (AV.tup [.int .i64 0,.bool false]) []) (.ret (AV.tup [.int .i64 (fL s),.bool true]) []))) (.ret (AV.tup [.int .i64 0,.bool false]) [])) (.ret (AV.tup [.int .i64 0,.bool false]) [])) .fail)
def xz: List AV→List Ob→Br
 | [.str s],[]=>mD s
 | _,_=> .fail
theorem iReadDec_ok: Sound Kx 285 xz:=ah (C:=Nc) (O:=O0) Tryz.func285 (by kernel_rfl) fun args objs=>by
 unfold xz;split
 · exact .inr (by kernel_rfl)
 · exact .inl rfl
def bP: List aa→aa
 | []=>[]
 | w::r=>47::(w++bP r)
theorem Nd (w: aa) (r: List aa): bP (w::r)=47::(w++bP r):=rfl
theorem agQ {a b: Bool} (h: a=true) (k: b=true): (a&&b)=true:=by rw [h,k];rfl
theorem Nf (l: List aa): Lib.joinTail [47] l=bP l:=by
 induction l with
 | nil=>rfl
 | cons w r ih=>
   unfold bP
   rw [← ih]
   simp [Lib.joinTail]
theorem xA (l: List aa): 47::gW l [47]=bif decide (bP l=[]) then [47] else bP l:=by
 cases l with
 | nil=>rfl
 | cons w r=>
   unfold gW
   rw [Lib.join_cons,Nf,Nd,dF' (by simp)];rfl
theorem uu (a b: List aa): bP (a++b)=bP a++bP b:=by
 induction a with
 | nil=>rfl
 | cons w a ih=>simp only [List.cons_append,bP,ih];simp
theorem DG (l: List aa): l.length≤(bP l).length:=by
 induction l with
 | nil=>exact Nat.le_refl _
 | cons w r ih=>simp only [bP,List.length_cons,List.length_append];omega
theorem uv (b: Int): ∀ (r cur: aa),(bP (oQ b cur r)).length=cur.length + r.length + 1
 | [],cur=>by simp [oQ,bP]
 | x::r,cur=>by
   rw [uc]
   cases decide (by8 x=b)
   · rw [cond_false,uv b r];simp;try omega
   · rw [cond_true];simp only [bP,List.length_cons,List.length_append,uv b r];simp;try omega
theorem Ng (l: List aa): (bP l.dropLast).length≤(bP l).length:=by
 cases h: l.reverse with
 | nil=>have: l=[]:=by simpa using h
        subst this;exact Nat.le_refl _
 | cons w r=>
   have e: l=r.reverse++[w]:=by rw [← List.reverse_reverse l,h];simp
   rw [e,List.dropLast_concat,uu];simp
theorem Nh (out: List aa) (w: aa): (bP (gd out w)).length≤(bP out).length + w.length + 1:=by
 unfold gd
 cases decide (w=[46])
 · cases decide (w=[46,46])
   · simp only [cond_false,uu,List.length_append,bP,List.length_cons];simp;omega
   · have:=Ng out;simp only [cond_true,cond_false];omega
 · rw [cond_true];omega
theorem oT: ∀ (l out: List aa),(bP (l.foldl gd out)).length≤(bP out).length + (bP l).length
 | [],out=>by simp
 | w::l,out=>by
   have h1:=Nh out w
   have h2:=oT l (gd out w)
   simp only [List.foldl_cons,bP,List.length_cons,List.length_append];omega
theorem oU (l: List aa): (bP (mv l)).length≤(bP l).length + 1:=by
 unfold mv
 have:=oT l []
 rw [uu]
 cases Gc (l.getLastD [])
 · simp [bP] at this ⊢;omega
 · simp [bP] at this ⊢;omega
theorem JZ (l: List aa): ∀ out: List aa,(l.foldl gd out).length≤out.length + l.length:=by
 induction l with
 | nil=>intro out;simp
 | cons w l ih=>intro out;have:=ih (gd out w);have:=ui out w;simp only [List.foldl_cons,List.length_cons];omega
theorem J0 (l: List aa): (gW l [47]).length≤(bP l).length:=by
 have:=congrArg List.length (xA l)
 simp only [List.length_cons] at this
 cases h: decide (bP l=[])
 · rw [h,cond_false] at this;omega
 · rw [h,cond_true] at this;simp only [List.length_cons,List.length_nil] at this;omega
theorem J1 (l: List aa) (v: Int) (h: v=((l.length - 1 : Nat): Int)): cut l 0 v=l.dropLast:=by
 subst h
 unfold cut
 rw [Int.toNat_natCast]
 simp [List.dropLast_eq_take]
theorem DH: ∀ (l: List aa),l≠[]→l.getD (l.length - 1) []=l.getLastD []
 | [],h=>absurd rfl h
 | [w],_=>rfl
 | w::x::r,_=>by
   have ih:=DH (x::r) (by simp)
   simp only [List.length_cons,Nat.add_sub_cancel] at ih ⊢
   rw [List.getD_cons_succ,ih]
   rfl
theorem Gr (l0 l: List aa) (hl: l.length≤1000000) (k: List aa→List aa→OR'): ∀ (r: List aa) (i: Int) (out: List aa) (n: Nat),At l i r→r.length < n→out.length + r.length≤1000000→
 iU n l0 l (l.length: Int) i out k=k l0 (r.foldl gd out):=by
 intro r;induction r with
 | nil=>intro i out n h hn ho;obtain ⟨n,rfl⟩:=bF hn;unfold iU nL;simp only [h.dge,cond_false];rfl
 | cons w r ih=>
   intro i out n h hn ho;obtain ⟨n,rfl⟩:=bF hn
   simp only [List.length_cons] at hn ho
   have hs:=ui out w
   have hr:=ih (i + 1) (gd out w) n h.step (by omega) (by omega)
   have hap: decide ((out.length + [w].length) * 16≤140737488355328)=true:=dT' (by simp only [List.length_singleton];omega)
   have hv: (if (0 : Int) < ai ((out.length: Int) - 1) then ai ((out.length: Int) - 1) else 0)=((out.length - 1 : Nat): Int):=by
    rw [w64 (by omega) (by omega)]
    split <;> omega
   have q1: decide ((0 : Int)≤((out.length - 1 : Nat): Int))=true:=dT' (by omega)
   have q2: decide (((out.length - 1 : Nat): Int)≤(out.length: Int))=true:=dT' (by omega)
   unfold iU nL
   simp only [h.dlt,h.dnn,h.get,cond_true,h.next (show l.length≤4611686018427387904 by omega),cm,hap,hv,q1,q2,J1 out _ rfl]
   simp only [List.foldl_cons]
   unfold gd at hr ⊢
   cases c1: decide (w=[46])
   · cases c2: decide (w=[46,46])
     · rw [c1,c2] at hr;exact hr
     · rw [c1,c2] at hr;exact hr
   · rw [c1] at hr;exact hr
theorem lb (c: UInt8) (r: aa) (h: c≠47): a8 (c::r)=[]:=by
 unfold a8
 split
 · rename_i e;injection e with e1 e2;exact absurd e1 h
 · rfl
theorem nN (r: aa): a8 (47::r)=bif qD (47::r) then 47::gW (mv (j5 (e9 r) 47)) [47] else []:=rfl
theorem RA (s: aa) (h: aU dD s=true): VB s=true:=by
 unfold VB aU at *
 rw [List.all_eq_true] at *
 intro c hc
 have:=h c hc
 simp only [dD,Bool.and_eq_true,decide_eq_true_eq] at this
 exact dT' (by omega)
theorem Xa (s: aa) (a b: UInt8): decide (0≤oR s [a,b])=(cW s (by8 a)||cW s (by8 b)):=by
 rw [my]
 cases cW s (by8 a)||cW s (by8 b)
 · rfl
 · rw [cond_true];exact dT' (by omega)
theorem Gs (r: aa) (h: r.length≤200): (j5 (e9 r) 47).length≤201∧(bP (j5 (e9 r) 47)).length≤201:=by
 have h1:=nI r
 have h2:=uf (e9 r) 47
 have h3:=uv 47 (e9 r) []
 unfold j5 at h2 ⊢
 simp only [List.length_nil] at h3
 omega
def ah5 (p: aa→AV): List AV→List Ob→Br
 | [.str s],[]=> .ite (isM s) (.ret (p s) []) .fail
 | _,_=> .fail
theorem xB: Sound Kx 286 (oy fun s=> .str (a8 s)):=by
 refine (Gm (φ:=fun s=> .ite (isM s) (.ret (.str (a8 s)) []) .fail) (fun s=>s.length + 3) fun p r h=>?_).of fun args objs r h=>?_
 · obtain ⟨hM,h2⟩:=al h
   cases h2
   unfold xm
   cases p with
   | nil=>rfl
   | cons c r=>
     have e1: decide ((1 : Int)≤((c::r).length: Int))=true:=dT' (by simp only [List.length_cons];omega)
     have e2: cut (c::r) 0 1=[c]:=rfl
     simp only [e1,cond_true,e2]
     by_cases hc: c=47
     · subst hc
       rw [nN]
       unfold qD
       simp only [decide_true,Bool.not_true,cond_false,hM,cond_true]
       cases d1: decide ((200 : Int) < ((47::r: aa).length: Int))
       · have d1':=of_decide_eq_false d1
         simp only [List.length_cons] at d1'
         rw [dT' (show (47::r: aa).length≤200 by simp only [List.length_cons];omega)]
         simp only [cond_false,Bool.true_and]
         cases d2: aU dD (47::r)
         · rfl
         have a1:=RA _ d2
         have m1: decide ((47::r: aa).length≤1000000)=true:=dT' (by simp only [List.length_cons];omega)
         simp only [Bool.not_true,cond_false,Bool.true_and,Bool.and_true,a1,m1,cond_true,Xa]
         rw [show by8 35=35 from rfl,show by8 63=63 from rfl]
         cases d3: cW (47::r) 35
         · cases d4: cW (47::r) 63
           · simp only [Bool.or_false,cond_false,Bool.not_false,Bool.and_self,cond_true,xc]
             have hcut: cut (47::e9 r) 1 ((47::e9 r).length: Int)=e9 r:=by
              exact Q1 (p:=[47]) (r:=[]) (by simp) rfl (by simp only [List.length_cons];omega)
             have hb:=Gs r (by omega)
             have hp:=nI r
             rw [hcut]
             have n1: decide ((1 : Int)≤((47::e9 r).length: Int))=true:=dT' (by simp only [List.length_cons];omega)
             have n2: decide ((e9 r).length≤1000000)=true:=dT' (by omega)
             rw [n1,n2]
             simp only [cond_true]
             generalize hL: j5 (e9 r) 47=L at hb
             have hne: L≠[]:=by rw [← hL];exact Q3 47 _ _
             rw [Gr L L (by omega) _ L 0 [] _ (At.start L) (by have:=uf (e9 r) 47;rw [hL] at this;simp only [List.length_cons];omega) (by simp;omega)]
             have hlen: 1≤L.length:=List.length_pos_iff.2 hne
             have w1: ai ((L.length: Int) - 1)=(L.length: Int) - 1:=w64 (by omega) (by omega)
             have t1: ((L.length: Int) - 1).toNat=L.length - 1:=by omega
             have g1:=oU L
             have g2:=J0 (mv L)
             have g3:=DG (mv L)
             have g4:=oT L []
             have g5:=JZ L []
             have q1: decide ((0 : Int)≤(L.length: Int) - 1)=true:=dT' (by omega)
             have q2: decide ((L.length: Int) - 1 < (L.length: Int))=true:=dT' (by omega)
             have q3: decide (((L.foldl gd []).length + 1) * 16≤140737488355328)=true:=dT' (by simp at g5;omega)
             simp only [w1,t1,q1,q2,q3,cond_true,DH L hne,cm]
             have hsd: Gc (L.getLastD [])=(decide (L.getLastD []=[46])||decide (L.getLastD []=[46,46])):=rfl
             unfold mv at g1 g2 g3 ⊢
             rw [hsd] at g1 g2 g3 ⊢
             cases z1: decide (L.getLastD []=[46])
             · cases z2: decide (L.getLastD []=[46,46])
               · rw [z1,z2] at g1 g2 g3
                 simp only [Bool.or_false,cond_false,List.append_nil] at g1 g2 g3 ⊢
                 exact Eq.trans (mC (agQ (dT' (by omega)) (dT' (by omega)))) (Eq.trans (mC (dT' (by omega))) rfl)
               · rw [z1,z2] at g1 g2 g3
                 simp only [Bool.or_true,cond_true,cond_false] at g1 g2 g3 ⊢
                 exact Eq.trans (mC (agQ (dT' (by omega)) (dT' (by omega)))) (Eq.trans (mC (dT' (by omega))) rfl)
             · rw [z1] at g1 g2 g3
               simp only [Bool.true_or,cond_true] at g1 g2 g3 ⊢
               exact Eq.trans (mC (agQ (dT' (by omega)) (dT' (by omega)))) (Eq.trans (mC (dT' (by omega))) rfl)
           · rfl
         · rfl
       · have d1':=of_decide_eq_true d1
         rw [dF' (show ¬ (47::r: aa).length≤200 by omega)]
         rfl
     · rw [lb c r hc,dF' (show ¬ [c]=[47] from fun e=>hc (by injection e))]
       rfl
 · unfold oy at h;split at h
   · exact h
   · cases h
theorem DI (p: aa) (hl: p.length≤4611686018427387904) (k0 k1: aa→OR'): ∀ (r: aa) (i: Int) (n: Nat),At p i r→r.length < n→
 iV n p i k0 k1=bif cW r 35||cW r 63 then k0 p else k1 p:=by
 intro r;induction r with
 | nil=>intro i n h hn;obtain ⟨n,rfl⟩:=bF hn;unfold iV nM;simp only [h.dge,cond_false];rfl
 | cons a r ih=>
   intro i n h hn;obtain ⟨n,rfl⟩:=bF hn
   have hs:=ih (i + 1) n h.step (by simp at hn;omega)
   have e1: cW (a::r) 35=(decide (by8 a=35)||cW r 35):=rfl
   have e2: cW (a::r) 63=(decide (by8 a=63)||cW r 63):=rfl
   unfold iV nM
   simp only [h.dlt,h.dnn,h.str,cond_true,h.next hl,hs,e1,e2]
   cases decide (by8 a=35) <;> cases decide (by8 a=63) <;> cases cW r 35 <;> cases cW r 63 <;> rfl
def uw: List aa→List aa→List aa
 | out,[]=>out
 | out,w::r=>uw (gd out w++(bif decide (r=[])&&Gc w then [[]] else [])) r
theorem J2: ∀ (r out: List aa),uw out r=r.foldl gd out++(bif Gc (r.getLastD []) then [[]] else [])
 | [],out=>by simp [uw,Gc]
 | [w],out=>by
   unfold uw uw
   rw [dT' rfl,Bool.true_and];rfl
 | w::x::r,out=>by
   unfold uw
   rw [dF' (by simp),Bool.false_and,cond_false,List.append_nil,J2 (x::r)]
   rfl
theorem Gt (l: List aa) (hl: l.length≤1000000) (k: List aa→OR'): ∀ (r: List aa) (i: Int) (out: List aa) (n: Nat),At l i r→r.length < n→out.length + r.length≤1000000→
 dC n i l out k=k (uw out r):=by
 intro r;induction r with
 | nil=>intro i out n h hn ho;obtain ⟨n,rfl⟩:=bF hn;unfold dC iW;simp only [h.dge,cond_false];rfl
 | cons w r ih=>
   intro i out n h hn ho;obtain ⟨n,rfl⟩:=bF hn
   simp only [List.length_cons] at hn ho
   have hs:=ui out w
   have hle:=h.le
   simp only [List.length_cons] at hle
   have hi:=h.nn
   have hlast: decide (i + 1=(l.length: Int))=decide (r=[]):=by
    rw [Bool.eq_iff_iff,decide_eq_true_eq,decide_eq_true_eq]
    constructor
    · intro e;exact List.length_eq_zero_iff.1 (by omega)
    · intro e;have: r.length=0:=by rw [e];rfl
      omega
   have hlen: (gd out w++(bif decide (r=[])&&Gc w then [[]] else [])).length + r.length≤1000000∨r=[]:=by
    cases r with
    | nil=>exact .inr rfl
    | cons x r=>rw [dF' (by simp),Bool.false_and,cond_false,List.append_nil];exact .inl (by omega)
   have hr: ∀ o,o.length + r.length≤1000000→dC n (i + 1) l o k=k (uw o r):=fun o ho'=>ih (i + 1) o n h.step (by omega) ho'
   have hend: ∀ o: List aa,r=[]→dC n (i + 1) l o k=k o:=fun o hr0=>by
    subst hr0
    obtain ⟨m,rfl⟩: ∃ m,n=m + 1:=⟨n - 1,by simp at hn;omega⟩
    have h2:=h.step
    unfold dC iW;simp only [h2.dge,cond_false]
   have hany: ∀ o,(o.length + r.length≤1000000∨r=[])→dC n (i + 1) l o k=k (uw o r):=fun o ho'=>by
    rcases ho' with ho' | ho'
    · exact hr o ho'
    · rw [hend o ho',ho'];rfl
   have hap: decide ((out.length + [w].length) * 16≤140737488355328)=true:=dT' (by simp only [List.length_singleton];omega)
   have hap1: decide ((out.length + 1) * 16≤140737488355328)=true:=dT' (by omega)
   have hw1: ai ((out.length: Int) - 1)=(out.length: Int) - 1:=w64 (by omega) (by omega)
   have main: uw out (w::r)=uw (gd out w++(bif decide (r=[])&&Gc w then [[]] else [])) r:=rfl
   rw [main]
   unfold dC iW
   simp only [h.dlt,h.dnn,h.get,cond_true,h.next (show l.length≤4611686018427387904 by omega),cm,hap,hap1,hw1,hlast]
   by_cases g1: w=[46]
   · have g2: decide (w=[46,46])=false:=dF' (by rw [g1];decide)
     have g3: Gc w=true:=by rw [g1];rfl
     have g4: gd out w=out:=by unfold gd;rw [dT' g1];rfl
     rw [dT' g1,g2,g3,g4,Bool.and_true]
     rw [g3,g4,Bool.and_true] at hlen
     simp only [cond_true,cond_false]
     cases z: decide (r=[])
     · rw [z] at hlen;rw [cond_false] at hlen ⊢;rw [cond_false,hany _ (by simpa using hlen)];simp
     · rw [z] at hlen;rw [cond_true] at hlen ⊢;rw [cond_true,hany _ hlen]
   · have g1': decide (w=[46])=false:=dF' g1
     by_cases g2: w=[46,46]
     · have g2': decide (w=[46,46])=true:=dT' g2
       have g3: Gc w=true:=by unfold Gc;rw [g1',g2'];rfl
       have g4: gd out w=out.dropLast:=by unfold gd;rw [g1',g2'];rfl
       rw [g1',g2',g3,g4,Bool.and_true]
       rw [g3,g4,Bool.and_true] at hlen
       simp only [cond_true,cond_false,Bool.not_true]
       cases ho0: decide ((0 : Int) < (out.length: Int))
       · have: out=[]:=List.length_eq_zero_iff.1 (by have:=of_decide_eq_false ho0;omega)
         subst this
         simp only [List.dropLast_nil] at hlen ⊢
         simp only [cond_false]
         cases z: decide (r=[])
         · rw [z] at hlen;rw [cond_false] at hlen ⊢;rw [cond_false,hany _ (by simpa using hlen)];simp
         · rw [z] at hlen;rw [cond_true] at hlen ⊢;rw [cond_true,hany _ hlen]
       · have ho1:=of_decide_eq_true ho0
         have hc:=J1 out ((out.length: Int) - 1) (by omega)
         have hap2: decide ((out.dropLast.length + 1) * 16≤140737488355328)=true:=dT' (by simp;omega)
         rw [dT' (show (0 : Int)≤(out.length: Int) - 1 by omega),dT' (show (out.length: Int) - 1≤(out.length: Int) by omega)]
         simp only [cond_true,hc,hap2]
         cases z: decide (r=[])
         · rw [z] at hlen;rw [cond_false] at hlen ⊢;rw [cond_false,hany _ (by simpa using hlen)];simp
         · rw [z] at hlen;rw [cond_true] at hlen ⊢;rw [cond_true,hany _ hlen]
     · have g2': decide (w=[46,46])=false:=dF' g2
       have g3: Gc w=false:=by unfold Gc;rw [g1',g2'];rfl
       have g4: gd out w=out++[w]:=by unfold gd;rw [g1',g2'];rfl
       rw [g1',g2',g3,g4,Bool.and_false]
       rw [g3,g4,Bool.and_false] at hlen
       simp only [cond_false,Bool.not_false,cond_true]
       rw [hany _ (by simpa using hlen)];simp
theorem Gu (l: List aa) (hl: l.length≤1000000) (k: aa→OR'): ∀ (r: List aa) (i: Int) (acc: aa) (n: Nat),At l i r→r.length < n→acc.length + (bP r).length≤1000000→
 go n acc i l k=k (acc++bP r):=by
 intro r;induction r with
 | nil=>intro i acc n h hn ho;obtain ⟨n,rfl⟩:=bF hn;unfold go la;simp only [h.dge,cond_false,bP,List.append_nil]
 | cons w r ih=>
   intro i acc n h hn ho;obtain ⟨n,rfl⟩:=bF hn
   simp only [List.length_cons,bP,List.length_append] at hn ho
   have hr:=ih (i + 1) (acc++[47]++w) n h.step (by omega) (by simp;omega)
   have q1: decide (acc.length + 1≤9223372036854775807)=true:=dT' (by omega)
   have q2: decide ((acc++[47]).length + w.length≤9223372036854775807)=true:=dT' (by simp;omega)
   unfold go la
   simp only [h.dlt,h.dnn,h.get,cond_true,h.next (show l.length≤4611686018427387904 by omega),q1,q2,hr,bP]
   simp
theorem xC: Sound Kx 275 (oy fun s=> .str (a8 s)):=by
 refine (Gq (φ:=fun s=> .ite (isM s) (.ret (.str (a8 s)) []) .fail) (fun s=>s.length + 5) fun p r h=>?_).of fun args objs r h=>?_
 · obtain ⟨hM,h2⟩:=al h
   cases h2
   unfold xx
   cases p with
   | nil=>rfl
   | cons c r=>
     have e0: decide (((c::r).length: Int)=0)=false:=dF' (by simp only [List.length_cons];omega)
     have e1: decide ((0 : Int) < ((c::r).length: Int))=true:=dT' (by simp only [List.length_cons];omega)
     have e2: aC (c::r) 0=by8 c:=rfl
     simp only [e0,e1,cond_true,cond_false,e2,hM,Bool.and_true]
     by_cases hc: c=47
     · subst hc
       rw [nN]
       unfold qD
       rw [show decide (by8 47=47)=true from rfl]
       simp only [Bool.not_true,cond_false]
       cases d1: decide ((200 : Int) < ((47::r: aa).length: Int))
       · have d1':=of_decide_eq_false d1
         simp only [List.length_cons] at d1'
         rw [dT' (show (47::r: aa).length≤200 by simp only [List.length_cons];omega)]
         simp only [cond_false,Bool.true_and]
         cases d2: aU dD (47::r)
         · rfl
         have m1: decide ((47::r: aa).length≤1000000)=true:=dT' (by simp only [List.length_cons];omega)
         simp only [Bool.not_true,cond_false,Bool.true_and]
         rw [DI _ (by simp only [List.length_cons];omega) _ _ (47::r) 0 _ (At.start _) (by simp only [List.length_cons];omega)]
         cases d3: cW (47::r) 35
         · cases d4: cW (47::r) 63
           · simp only [Bool.or_false,cond_false,Bool.not_false,Bool.and_self,cond_true,xc,m1]
             have hcut: cut (47::e9 r) 1 ((47::e9 r).length: Int)=e9 r:=by
              exact Q1 (p:=[47]) (r:=[]) (by simp) rfl (by simp only [List.length_cons];omega)
             have hb:=Gs r (by omega)
             have hp:=nI r
             rw [hcut]
             have n1: decide ((1 : Int)≤((47::e9 r).length: Int))=true:=dT' (by simp only [List.length_cons];omega)
             have n2: decide ((e9 r).length≤1000000)=true:=dT' (by omega)
             rw [n1,n2]
             simp only [cond_true]
             have hL0:=uf (e9 r) 47
             generalize hL: j5 (e9 r) 47=L at hb hL0
             rw [Gt L (by omega) _ L 0 [] _ (At.start L) (by simp only [List.length_cons];omega) (by simp;omega),J2]
             have g1:=oU L
             have g3:=DG (mv L)
             have g5:=JZ L []
             rw [show L.foldl gd []++(bif Gc (L.getLastD []) then [[]] else [])=mv L from rfl]
             have g6: (mv L).length≤L.length + 1:=by
              unfold mv
              rw [List.length_append]
              cases Gc (L.getLastD []) <;> simp at g5 ⊢ <;> omega
             rw [Gu (mv L) (by omega) _ (mv L) 0 [] _ (At.start _) (by simp only [List.length_cons];omega) (by simp;omega),List.nil_append,xA]
             cases decide (bP (mv L)=[]) <;> rfl
           · rfl
         · rfl
       · have d1':=of_decide_eq_true d1
         rw [dF' (show ¬ (47::r: aa).length≤200 by omega)]
         rfl
     · rw [lb c r hc,dF' (show ¬ by8 c=47 from fun e=>hc (Fa e))]
       cases decide ((200 : Int) < ((c::r).length: Int)) <;> rfl
 · unfold oy at h;split at h
   · exact h
   · cases h
theorem RB: Sound Kx 320 (oy fun s=> .bool (ly s)):=iHost_ok.of fun args objs r h=>by
 unfold oy at h
 split at h
 case h_2=>cases h
 rename_i s
 obtain ⟨hM,h2⟩:=al h
 cases h2
 show (zf s).val=some (.bool (ly s),[])
 unfold zf ly
 cases d1: decide ((1 : Int)≤(s.length: Int))
 · have d1':=of_decide_eq_false d1
   rw [dF' (show ¬ 1≤s.length by omega)];rfl
 · have d1':=of_decide_eq_true d1
   rw [dT' (show 1≤s.length by omega)]
   cases d2: decide ((s.length: Int)≤60)
   · have d2':=of_decide_eq_false d2
     rw [dF' (show ¬ s.length≤60 by omega)];rfl
   · have d2':=of_decide_eq_true d2
     have hlen:=uf s 46
     rw [dT' (show s.length≤60 by omega),hM]
     cases aU hoB s
     · rfl
     · refine (bX rfl).trans ((fK rfl).trans ((bX rfl).trans ((fK rfl).trans ((bX (dT' (by omega))).trans ((bX (dT' (by omega))).trans rfl)))))
def aeo: List AV→List Ob→Br
 | [.str s],[]=> .ite (decide (s.length≤1000000)) (.ret (.tup [.int .i64 (jY s).1, .bool (jY s).2]) []) .fail
 | _,_=> .fail
theorem DJ: Sound Kx 285 aeo:=iReadDec_ok.of fun args objs r h=>by
 unfold aeo at h
 split at h
 case h_2=>cases h
 rename_i s
 obtain ⟨hM,h2⟩:=al h
 cases h2
 show (mD s).val=_
 unfold mD
 refine (bX hM).trans ?_
 rw [QC]
 cases c1: iO s
 · rfl
 · cases c2: decide (0≤fL s)
   · rfl
   · cases c3: decide (fL s≤999999999999999)
     · rfl
     · have h15: bC (fL s)=true:=by unfold bC;rw [c2,c3];rfl
       rw [h15]
       cases c4: decide (bT (fL s)=s)
       · refine (bX rfl).trans ((bX rfl).trans ((fK rfl).trans ((bX ?_).trans rfl)))
         rw [cond_true,c4];rfl
       · refine (bX rfl).trans ((bX rfl).trans ((fK rfl).trans ((fK ?_).trans rfl)))
         rw [cond_true,c4];rfl
def abR: SC:=[⟨232,_,Fg⟩]
def Xb (h: aa) (po: Int) (pa q: aa) (hq: Bool): Br:=(.ite (decide (po=80)) (.ret (AV.str ([]: aa)) []) (.ite (bC po) (.ite (decide ((1 + (List.length (bT po)))≤9223372036854775807)) (.ret (AV.str (([58]: aa)++(bT po))) []) .fail) .fail))
def RC: List AV→List Ob→Br
 | [.agg [.str h, .int .i64 po, .str pa, .str q, .bool hq]],[]=>Xb h po pa q hq
 | _,_=> .fail
theorem Xc: Sound Kx 288 RC:=ah (C:=abR) (O:=O0) Tryz.func288 (by kernel_rfl) fun args objs=>by
 unfold RC;split
 · exact .inr (by kernel_rfl)
 · exact .inl rfl
def RD (h: aa) (po: Int) (pa q: aa) (hq: Bool): Br:=(.ite hq (.ite (decide ((pa.length + 1)≤9223372036854775807)) (.ite (decide (((List.length (pa++([63]: aa))) + q.length)≤9223372036854775807)) (.ret (AV.str ((pa++([63]: aa))++q)) []) .fail) .fail) (.ret (AV.str pa) []))
def J3: List AV→List Ob→Br
 | [.agg [.str h, .int .i64 po, .str pa, .str q, .bool hq]],[]=>RD h po pa q hq
 | _,_=> .fail
theorem RE: Sound Kx 289 J3:=ah (C:=[]) (O:=O0) Tryz.func289 (by kernel_rfl) fun args objs=>by
 unfold J3;split
 · exact .inr (by kernel_rfl)
 · exact .inl rfl
def abS: SC:=[⟨288,_,Xc⟩,⟨289,_,RE⟩]
def zg (h: aa) (po: Int) (pa q: aa) (hq: Bool): Br:=(.ite (decide ((7 + h.length)≤9223372036854775807)) (.ite (decide (po=80)) (.ite (decide (((List.length (([104,116,116,112,58,47,47]: aa)++h)) + 0)≤9223372036854775807)) (.ite hq (.ite (decide ((pa.length + 1)≤9223372036854775807)) (.ite (decide (((List.length (pa++([63]: aa))) + q.length)≤9223372036854775807)) (.ite (decide (((List.length ((([104,116,116,112,58,47,47]: aa)++h)++([]: aa))) + (List.length ((pa++([63]: aa))++q)))≤9223372036854775807)) (.ret (AV.str (((([104,116,116,112,58,47,47]: aa)++h)++([]: aa))++((pa++([63]: aa))++q))) []) .fail) .fail) .fail) (.ite (decide (((List.length ((([104,116,116,112,58,47,47]: aa)++h)++([]: aa))) + pa.length)≤9223372036854775807)) (.ret (AV.str (((([104,116,116,112,58,47,47]: aa)++h)++([]: aa))++pa)) []) .fail)) .fail) (.ite (bC po) (.ite (decide ((1 + (List.length (bT po)))≤9223372036854775807)) (.ite (decide (((List.length (([104,116,116,112,58,47,47]: aa)++h)) + (List.length (([58]: aa)++(bT po))))≤9223372036854775807)) (.ite hq (.ite (decide ((pa.length + 1)≤9223372036854775807)) (.ite (decide (((List.length (pa++([63]: aa))) + q.length)≤9223372036854775807)) (.ite (decide (((List.length ((([104,116,116,112,58,47,47]: aa)++h)++(([58]: aa)++(bT po)))) + (List.length ((pa++([63]: aa))++q)))≤9223372036854775807)) (.ret (AV.str (((([104,116,116,112,58,47,47]: aa)++h)++(([58]: aa)++(bT po)))++((pa++([63]: aa))++q))) []) .fail) .fail) .fail) (.ite (decide (((List.length ((([104,116,116,112,58,47,47]: aa)++h)++(([58]: aa)++(bT po)))) + pa.length)≤9223372036854775807)) (.ret (AV.str (((([104,116,116,112,58,47,47]: aa)++h)++(([58]: aa)++(bT po)))++pa)) []) .fail)) .fail) .fail) .fail)) .fail)
def RF: List AV→List Ob→Br
 | [.agg [.str h, .int .i64 po, .str pa, .str q, .bool hq]],[]=>zg h po pa q hq
 | _,_=> .fail
theorem Xd: Sound Kx 243 RF:=ah (C:=abS) (O:=O0) Tryz.func243 (by kernel_rfl) fun args objs=>by
 unfold RF;split
 · exact .inr (by kernel_rfl)
 · exact .inl rfl
def abT: SC:=[⟨191,_,oD⟩]
def Xe (h: aa) (po: Int) (pa q: aa) (hq: Bool): Br:=(.ite (decide (po=80)) (.ret (AV.str ([]: aa)) []) (.ite (bC po) (.ite (decide ((1 + (List.length (bT po)))≤9223372036854775807)) (.ret (AV.str (([58]: aa)++(bT po))) []) .fail) .fail))
def RG: List AV→List Ob→Br
 | [.agg [.str h, .int .i64 po, .str pa, .str q, .bool hq]],[]=>Xe h po pa q hq
 | _,_=> .fail
theorem Xf: Sound Kx 304 RG:=ah (C:=abT) (O:=O0) Tryz.func304 (by kernel_rfl) fun args objs=>by
 unfold RG;split
 · exact .inr (by kernel_rfl)
 · exact .inl rfl
def RH (h: aa) (po: Int) (pa q: aa) (hq: Bool): Br:=(.ite hq (.ite (decide ((1 + q.length)≤9223372036854775807)) (.ret (AV.str (([63]: aa)++q)) []) .fail) (.ret (AV.str ([]: aa)) []))
def J4: List AV→List Ob→Br
 | [.agg [.str h, .int .i64 po, .str pa, .str q, .bool hq]],[]=>RH h po pa q hq
 | _,_=> .fail
theorem RI: Sound Kx 305 J4:=ah (C:=[]) (O:=O0) Tryz.func305 (by kernel_rfl) fun args objs=>by
 unfold J4;split
 · exact .inr (by kernel_rfl)
 · exact .inl rfl
def abU: SC:=[⟨304,_,Xf⟩,⟨305,_,RI⟩]
def zh (h: aa) (po: Int) (pa q: aa) (hq: Bool): Br:=(.ite (decide ((7 + h.length)≤9223372036854775807)) (.ite (decide (po=80)) (.ite (decide (((List.length (([104,116,116,112,58,47,47]: aa)++h)) + 0)≤9223372036854775807)) (.ite (decide (((List.length ((([104,116,116,112,58,47,47]: aa)++h)++([]: aa))) + pa.length)≤9223372036854775807)) (.ite hq (.ite (decide ((1 + q.length)≤9223372036854775807)) (.ite (decide (((List.length (((([104,116,116,112,58,47,47]: aa)++h)++([]: aa))++pa)) + (List.length (([63]: aa)++q)))≤9223372036854775807)) (.ret (AV.str ((((([104,116,116,112,58,47,47]: aa)++h)++([]: aa))++pa)++(([63]: aa)++q))) []) .fail) .fail) (.ite (decide (((List.length (((([104,116,116,112,58,47,47]: aa)++h)++([]: aa))++pa)) + 0)≤9223372036854775807)) (.ret (AV.str ((((([104,116,116,112,58,47,47]: aa)++h)++([]: aa))++pa)++([]: aa))) []) .fail)) .fail) .fail) (.ite (bC po) (.ite (decide ((1 + (List.length (bT po)))≤9223372036854775807)) (.ite (decide (((List.length (([104,116,116,112,58,47,47]: aa)++h)) + (List.length (([58]: aa)++(bT po))))≤9223372036854775807)) (.ite (decide (((List.length ((([104,116,116,112,58,47,47]: aa)++h)++(([58]: aa)++(bT po)))) + pa.length)≤9223372036854775807)) (.ite hq (.ite (decide ((1 + q.length)≤9223372036854775807)) (.ite (decide (((List.length (((([104,116,116,112,58,47,47]: aa)++h)++(([58]: aa)++(bT po)))++pa)) + (List.length (([63]: aa)++q)))≤9223372036854775807)) (.ret (AV.str ((((([104,116,116,112,58,47,47]: aa)++h)++(([58]: aa)++(bT po)))++pa)++(([63]: aa)++q))) []) .fail) .fail) (.ite (decide (((List.length (((([104,116,116,112,58,47,47]: aa)++h)++(([58]: aa)++(bT po)))++pa)) + 0)≤9223372036854775807)) (.ret (AV.str ((((([104,116,116,112,58,47,47]: aa)++h)++(([58]: aa)++(bT po)))++pa)++([]: aa))) []) .fail)) .fail) .fail) .fail) .fail)) .fail)
def RJ: List AV→List Ob→Br
 | [.agg [.str h, .int .i64 po, .str pa, .str q, .bool hq]],[]=>zh h po pa q hq
 | _,_=> .fail
theorem Xg: Sound Kx 277 RJ:=ah (C:=abU) (O:=O0) Tryz.func277 (by kernel_rfl) fun args objs=>by
 unfold RJ;split
 · exact .inr (by kernel_rfl)
 · exact .inl rfl
def Gv: SC:=[⟨179,_,PA⟩]
def DK (s: aa): Br:=(.ite (decide (s.length≤1000000)) (.ret (AV.agg [.str ([]: aa),.int .i64 0,.str (wd s ([63]: aa)).1,.str (wd s ([63]: aa)).2.1,.bool (wd s ([63]: aa)).2.2]) []) .fail)
def ux: List AV→List Ob→Br
 | [.str s],[]=>DK s
 | _,_=> .fail
theorem DL: Sound Kx 284 ux:=ah (C:=Gv) (O:=O0) Tryz.func284 (by kernel_rfl) fun args objs=>by
 unfold ux;split
 · exact .inr (by kernel_rfl)
 · exact .inl rfl
def smU (h: aa) (po: Int) (pa q: aa): Bool:=decide (h.length≤1000000)&&bC po&&decide (pa.length≤1000000)&&isM q
def aep (p: aa→Int→aa→aa→Bool→Bool) (v: aa→Int→aa→aa→Bool→AV): List AV→List Ob→Br
 | [.agg [.str h, .int .i64 po, .str pa, .str q, .bool hq]],[]=> .ite (p h po pa q hq) (.ret (v h po pa q hq) []) .fail
 | _,_=> .fail
def ahz: List AV→List Ob→Br:=aep (fun h po pa q _=>smU h po pa q) (fun h po pa q hq=> .str (vp h po pa q hq))
theorem RK {n: Nat} {s: List AV→List Ob→Br} (hs: Sound Kx n s) {p: aa→Int→aa→aa→Bool→Bool} {v: aa→Int→aa→aa→Bool→AV} (h: ∀ ho po pa q hq,p ho po pa q hq=true→(s [.agg [.str ho, .int .i64 po, .str pa, .str q, .bool hq]] []).val=some (v ho po pa q hq,[])): Sound Kx n (aep p v):=hs.of fun args objs r hv=>by
 unfold aep at hv
 split at hv
 case h_2=>cases hv
 obtain ⟨h1,h2⟩:=al hv
 cases h2
 exact h _ _ _ _ _ h1
theorem DM (n: Int) (h: bC n=true): (bT n).length≤15:=by
 unfold bC at h
 simp only [Bool.and_eq_true,decide_eq_true_eq] at h
 rw [dh];exact tZ _ (by omega)
theorem ZC {h: aa} {po: Int} {pa q: aa} (hs: smU h po pa q=true): h.length≤1000000∧bC po=true∧pa.length≤1000000∧q.length≤4611686018427387904:=by
 unfold smU at hs
 simp only [Bool.and_eq_true,decide_eq_true_eq] at hs
 exact ⟨hs.1.1.1,hs.1.1.2,hs.1.2,fZ hs.2⟩
theorem DN: Sound Kx 243 ahz:=RK Xd fun h po pa q hq hs=>by
 obtain ⟨h1,h2,h3,h4⟩:=ZC hs
 have hd:=DM po h2
 show (zg h po pa q hq).val=some (.str (vp h po pa q hq),[])
 unfold zg vp abG JL y7
 cases decide (po=80) <;> cases hq <;>
  simp (disch:=(first | omega | (simp only [List.length_append,List.length_cons,List.length_nil];omega))) only [Br.val,dle,h2,cond_true,cond_false,List.append_assoc,List.cons_append,List.nil_append,List.append_nil]
theorem DO: Sound Kx 277 ahz:=RK Xg fun h po pa q hq hs=>by
 obtain ⟨h1,h2,h3,h4⟩:=ZC hs
 have hd:=DM po h2
 show (zh h po pa q hq).val=some (.str (vp h po pa q hq),[])
 unfold zh vp abG JL y7
 cases decide (po=80) <;> cases hq <;>
  simp (disch:=(first | omega | (simp only [List.length_append,List.length_cons,List.length_nil];omega))) only [Br.val,dle,h2,cond_true,cond_false,List.append_assoc,List.cons_append,List.nil_append,List.append_nil]
def Xh: Opt:={ split:=true }
def Xi: SC:=[⟨320,_,RB⟩,⟨201,_,dX⟩,⟨286,_,xB⟩,⟨74,_,kT⟩,⟨246,_,JM⟩,⟨243,_,DN⟩]
def uy (h: aa) (po: Int) (pa q: aa) (hq: Bool): Br:=(.ite (isM h) (.ite (ly h) (.ite (decide (1≤po)) (.ite (decide (po≤65535)) (.ite (decide (pa=([]: aa))) (.ret (AV.bool false) []) (.ite (isM pa) (.ite (!(decide ((a8 pa)=pa))) (.ret (AV.bool false) []) (.ite (isM q) (.ite (!(aU dD q)) (.ret (AV.bool false) []) (.ite (cW q 35) (.ret (AV.bool false) []) (.ite (!hq) (.ite (!(decide (q=([]: aa)))) (.ret (AV.bool false) []) (.ite (smU h po pa q) (.ret (AV.bool (decide (((List.length (vp h po pa q hq)): Int)≤200))) []) .fail)) (.ite (smU h po pa q) (.ret (AV.bool (decide (((List.length (vp h po pa q hq)): Int)≤200))) []) .fail)))) .fail)) .fail)) (.ret (AV.bool false) [])) (.ret (AV.bool false) [])) (.ret (AV.bool false) [])) .fail)
def J5: List AV→List Ob→Br
 | [.agg [.str h, .int .i64 po, .str pa, .str q, .bool hq]],[]=>uy h po pa q hq
 | _,_=> .fail
theorem RL: Sound Kx 287 J5:=ah (C:=Xi) (O:=Xh) Tryz.func287 (by kernel_rfl) fun args objs=>by
 unfold J5;split
 · exact .inr (by kernel_rfl)
 · exact .inl rfl
def Xj: Opt:={ split:=true }
def Xk: SC:=[⟨303,_,Rw⟩,⟨275,_,xC⟩,⟨188,_,rD⟩,⟨273,_,De⟩,⟨277,_,DO⟩]
def uz (h: aa) (po: Int) (pa q: aa) (hq: Bool): Br:=(.ite (ly h) (.ite (decide (po < 1)) (.ret (AV.bool false) []) (.ite (decide (65535 < po)) (.ret (AV.bool false) []) (.ite (decide (pa=([]: aa))) (.ret (AV.bool false) []) (.ite (isM pa) (.ite (!(decide ((a8 pa)=pa))) (.ret (AV.bool false) []) (.ite hq (.ite (decide (200 < (q.length: Int))) (.ret (AV.bool false) []) (.ite (!(decide (q=([]: aa)))) (.ite (isM q) (.ite ((aU dD q)&&(decide (0 < (q.length: Int)))) (.ite (isM q) (.ite (!(decide ((aB q 35)=q))) (.ret (AV.bool false) []) (.ite (smU h po pa q) (.ret (AV.bool (decide (((List.length (vp h po pa q hq)): Int)≤200))) []) .fail)) .fail) (.ret (AV.bool false) [])) .fail) (.ite (isM q) (.ite (!(decide ((aB q 35)=q))) (.ret (AV.bool false) []) (.ite (smU h po pa q) (.ret (AV.bool (decide (((List.length (vp h po pa q hq)): Int)≤200))) []) .fail)) .fail))) (.ite (!(decide (q=([]: aa)))) (.ret (AV.bool false) []) (.ite (decide (200 < (q.length: Int))) (.ret (AV.bool false) []) (.ite (!(decide (q=([]: aa)))) (.ite (isM q) (.ite ((aU dD q)&&(decide (0 < (q.length: Int)))) (.ite (isM q) (.ite (!(decide ((aB q 35)=q))) (.ret (AV.bool false) []) (.ite (smU h po pa q) (.ret (AV.bool (decide (((List.length (vp h po pa q hq)): Int)≤200))) []) .fail)) .fail) (.ret (AV.bool false) [])) .fail) (.ite (isM q) (.ite (!(decide ((aB q 35)=q))) (.ret (AV.bool false) []) (.ite (smU h po pa q) (.ret (AV.bool (decide (((List.length (vp h po pa q hq)): Int)≤200))) []) .fail)) .fail)))))) .fail)))) (.ret (AV.bool false) []))
def J6: List AV→List Ob→Br
 | [.agg [.str h, .int .i64 po, .str pa, .str q, .bool hq]],[]=>uz h po pa q hq
 | _,_=> .fail
theorem RM: Sound Kx 276 J6:=ah (C:=Xk) (O:=Xj) Tryz.func276 (by kernel_rfl) fun args objs=>by
 unfold J6;split
 · exact .inr (by kernel_rfl)
 · exact .inl rfl
theorem DP {pa: aa} (h: a8 pa=pa) (h0: pa≠[]): pa.length≤200:=by
 cases pa with
 | nil=>exact absurd rfl h0
 | cons c r=>
   by_cases hc: c=47
   · subst hc
     rw [nN] at h
     cases ho: qD (47::r)
     · rw [ho,cond_false] at h;exact absurd h.symm h0
     · unfold qD at ho
       simp only [Bool.and_eq_true,decide_eq_true_eq] at ho
       exact ho.1.1.1
   · rw [lb c r hc] at h;exact absurd h.symm h0
theorem J7 {h: aa} (hh: ly h=true): h.length≤60:=by
 unfold ly at hh
 simp only [Bool.and_eq_true,decide_eq_true_eq] at hh
 exact hh.1.1.2
theorem RN (n: Nat): decide ((n: Int)≤200)=decide (n≤200):=by
 rw [Bool.eq_iff_iff,decide_eq_true_eq,decide_eq_true_eq];omega
theorem rT (s: aa) (b: Int): decide (aB s b=s)= !cW s b:=by
 induction s with
 | nil=>rfl
 | cons c s ih=>
   have e: cW (c::s) b=(decide (by8 c=b)||cW s b):=rfl
   unfold aB at ih ⊢
   rw [e,List.takeWhile_cons]
   cases decide (by8 c=b)
   · simp only [Bool.not_false,if_true,Bool.false_or]
     rw [← ih,Bool.eq_iff_iff,decide_eq_true_eq,decide_eq_true_eq]
     simp
   · simp
theorem ZD (h: aa) (po: Int) (pa q: aa): q.length≤(vp h po pa q true).length:=by
 unfold vp JL
 simp only [cond_true,List.length_append,List.length_cons];omega
def ahA: List AV→List Ob→Br:=aep (fun h _ pa q _=>isM h&&isM pa&&isM q) (fun h po pa q hq=> .bool (bf h po pa q hq))
theorem J8 {h: aa} {po: Int} {pa q: aa} (h1: ly h=true) (h2: decide (1≤po)=true) (h3: decide (po≤65535)=true) (h4: decide (pa=[])=false) (h5: decide (a8 pa=pa)=true) (h6: isM q=true): smU h po pa q=true:=by
 have a:=J7 h1
 have b:=DP (of_decide_eq_true h5) (of_decide_eq_false h4)
 have c:=of_decide_eq_true h2
 have d:=of_decide_eq_true h3
 unfold smU bC
 rw [dT' (show h.length≤1000000 by omega),dT' (show 0≤po by omega),dT' (show po≤999999999999999 by omega),dT' (show pa.length≤1000000 by omega),h6];rfl
theorem Ni: Sound Kx 287 ahA:=RK RL fun h po pa q hq hs=>by
 simp only [Bool.and_eq_true] at hs
 obtain ⟨⟨m1,m2⟩,m3⟩:=hs
 show (uy h po pa q hq).val=some (.bool (bf h po pa q hq),[])
 unfold uy bf
 rw [m1,m2,m3,RN]
 cases d1: ly h
 · rfl
 cases d2: decide (1≤po)
 · rfl
 cases d3: decide (po≤65535)
 · rfl
 cases d4: decide (pa=[])
 case true=>rfl
 cases d5: decide (a8 pa=pa)
 · rfl
 rw [J8 d1 d2 d3 d4 d5 m3]
 cases aU dD q
 · rfl
 cases cW q 35
 case true=>rfl
 cases hq <;> cases decide (q=[]) <;> rfl
theorem xD: Sound Kx 276 ahA:=RK RM fun h po pa q hq hs=>by
 simp only [Bool.and_eq_true] at hs
 obtain ⟨⟨m1,m2⟩,m3⟩:=hs
 show (uz h po pa q hq).val=some (.bool (bf h po pa q hq),[])
 unfold uz bf
 rw [m2,m3,RN,rT]
 have e2: decide (po < 1)= !decide (1≤po):=by rw [Bool.eq_iff_iff];simp
 have e3: decide (65535 < po)= !decide (po≤65535):=by rw [Bool.eq_iff_iff];simp
 rw [e2,e3]
 cases d1: ly h
 · rfl
 cases d2: decide (1≤po)
 · rfl
 cases d3: decide (po≤65535)
 · rfl
 cases d4: decide (pa=[])
 case true=>rfl
 cases d5: decide (a8 pa=pa)
 · rfl
 rw [J8 d1 d2 d3 d4 d5 m3]
 by_cases hq0: q=[]
 · subst hq0
   cases hq <;> rfl
 · have z: decide (q=[])=false:=dF' hq0
   have zl: decide ((0 : Int) < (q.length: Int))=true:=dT' (by have:=List.length_pos_iff.2 hq0;omega)
   rw [z,zl]
   cases hq
   · cases aU dD q <;> cases cW q 35 <;> rfl
   · cases d6: decide ((200 : Int) < (q.length: Int))
     · cases aU dD q <;> cases cW q 35 <;> rfl
     · have:=of_decide_eq_true d6
       have hl:=ZD h po pa q
       rw [dF' (show ¬ (vp h po pa q true).length≤200 by omega),Bool.and_false];rfl
def Nj: Opt:={ split:=true }
def Nk: SC:=[⟨74,_,kT⟩,⟨246,_,JM⟩,⟨118,_,iF⟩,⟨283,_,Q9⟩,⟨179,_,PA⟩,⟨284,_,DL⟩,⟨285,_,DJ⟩,⟨286,_,xB⟩,⟨287,_,Ni⟩]
abbrev aO (s: aa):=(wd (cut (cut s 7 (s.length: Int)) (oR (cut s 7 (s.length: Int)) ([47,63]: aa)) ((List.length (cut s 7 (s.length: Int))): Int)) ([63]: aa))
abbrev aP (s: aa):=(wd (cut (cut s 7 (s.length: Int)) ((List.length (cut s 7 (s.length: Int))): Int) ((List.length (cut s 7 (s.length: Int))): Int)) ([63]: aa))
abbrev bv (s: aa):=(Br.ret (AV.tup ((AV.agg ((AV.str ([]: aa))::((AV.int .i64 0)::((AV.str ([]: aa))::((AV.str ([]: aa))::((AV.bool false)::[]))))))::((AV.bool false)::[]))) [])
abbrev aV (s: aa):=(wd (cut (cut s 7 (s.length: Int)) 0 (oR (cut s 7 (s.length: Int)) ([47,63]: aa))) ([58]: aa))
abbrev aW (s: aa):=(wd (cut (cut s 7 (s.length: Int)) 0 ((List.length (cut s 7 (s.length: Int))): Int)) ([58]: aa))
abbrev bU (s: aa):=((List.length (cut s 7 (s.length: Int))): Int)
abbrev dP (s: aa):=(oR (cut s 7 (s.length: Int)) ([47,63]: aa))
abbrev gC (s: aa):=((AV.str (aP s).2.1)::((AV.bool (aP s).2.2)::[]))
abbrev gD (s: aa):=((AV.str (aO s).2.1)::((AV.bool (aO s).2.2)::[]))
def mE (s: aa): Br:=(.ite (decide (200 < (s.length: Int))) (bv s) (.ite (isM s) (.ite (!(aU dD s)) (bv s) (.ite (cW s 35) (bv s) (.ite (decide ((s.length: Int) < 7)) (bv s) (.ite (decide (7≤(s.length: Int))) (.ite (isM (cut s 0 7)) (.ite (!(decide ((ay (cut s 0 7))=([104,116,116,112,58,47,47]: aa)))) (bv s) (.ite (decide (7≤(s.length: Int))) (.ite ((((decide ((List.length (cut s 7 (s.length: Int)))≤1000000))&&true)&&(VB (cut s 7 (s.length: Int))))&&true) (.ite (decide ((dP s) < 0)) (.ite (decide (0≤(bU s))) (.ite (decide ((bU s)≤(bU s))) (.ite (decide ((List.length (cut (cut s 7 (s.length: Int)) 0 (bU s)))≤1000000)) (.ite (decide (0≤(bU s))) (.ite (decide ((bU s)≤(bU s))) (.ite (decide ((List.length (cut (cut s 7 (s.length: Int)) (bU s) (bU s)))≤1000000)) (.ite (isM (aW s).1) (.ite (aW s).2.2 (.ite (decide ((List.length (aW s).2.1)≤1000000)) (.ite (!(jY (aW s).2.1).2) (bv s) (.ite (decide ((aP s).1=([]: aa))) (.ite (((isM (ay (aW s).1))&&true)&&(isM (aP s).2.1)) (.ite (!(bf (ay (aW s).1) (jY (aW s).2.1).1 ([47]: aa) (aP s).2.1 (aP s).2.2)) (bv s) (.ret (AV.tup [.agg ((AV.str (ay (aW s).1))::((AV.int .i64 (jY (aW s).2.1).1)::((AV.str ([47]: aa))::(gC s)))),.bool true]) [])) .fail) (.ite (isM (aP s).1) (.ite (((isM (ay (aW s).1))&&(isM (a8 (aP s).1)))&&(isM (aP s).2.1)) (.ite (!(bf (ay (aW s).1) (jY (aW s).2.1).1 (a8 (aP s).1) (aP s).2.1 (aP s).2.2)) (bv s) (.ret (AV.tup [.agg ((AV.str (ay (aW s).1))::((AV.int .i64 (jY (aW s).2.1).1)::((AV.str (a8 (aP s).1))::(gC s)))),.bool true]) [])) .fail) .fail))) .fail) (.ite (decide ((aP s).1=([]: aa))) (.ite (((isM (ay (aW s).1))&&true)&&(isM (aP s).2.1)) (.ite (!(bf (ay (aW s).1) 80 ([47]: aa) (aP s).2.1 (aP s).2.2)) (bv s) (.ret (AV.tup [.agg ((AV.str (ay (aW s).1))::((AV.int .i64 80)::((AV.str ([47]: aa))::(gC s)))),.bool true]) [])) .fail) (.ite (isM (aP s).1) (.ite (((isM (ay (aW s).1))&&(isM (a8 (aP s).1)))&&(isM (aP s).2.1)) (.ite (!(bf (ay (aW s).1) 80 (a8 (aP s).1) (aP s).2.1 (aP s).2.2)) (bv s) (.ret (AV.tup [.agg ((AV.str (ay (aW s).1))::((AV.int .i64 80)::((AV.str (a8 (aP s).1))::(gC s)))),.bool true]) [])) .fail) .fail))) .fail) .fail) .fail) .fail) .fail) .fail) .fail) (.ite (decide (0≤(dP s))) (.ite (decide ((dP s)≤(bU s))) (.ite (decide ((List.length (cut (cut s 7 (s.length: Int)) 0 (dP s)))≤1000000)) (.ite (decide (0≤(dP s))) (.ite (decide ((dP s)≤(bU s))) (.ite (decide ((List.length (cut (cut s 7 (s.length: Int)) (dP s) (bU s)))≤1000000)) (.ite (isM (aV s).1) (.ite (aV s).2.2 (.ite (decide ((List.length (aV s).2.1)≤1000000)) (.ite (!(jY (aV s).2.1).2) (bv s) (.ite (decide ((aO s).1=([]: aa))) (.ite (((isM (ay (aV s).1))&&true)&&(isM (aO s).2.1)) (.ite (!(bf (ay (aV s).1) (jY (aV s).2.1).1 ([47]: aa) (aO s).2.1 (aO s).2.2)) (bv s) (.ret (AV.tup [.agg ((AV.str (ay (aV s).1))::((AV.int .i64 (jY (aV s).2.1).1)::((AV.str ([47]: aa))::(gD s)))),.bool true]) [])) .fail) (.ite (isM (aO s).1) (.ite (((isM (ay (aV s).1))&&(isM (a8 (aO s).1)))&&(isM (aO s).2.1)) (.ite (!(bf (ay (aV s).1) (jY (aV s).2.1).1 (a8 (aO s).1) (aO s).2.1 (aO s).2.2)) (bv s) (.ret (AV.tup [.agg ((AV.str (ay (aV s).1))::((AV.int .i64 (jY (aV s).2.1).1)::((AV.str (a8 (aO s).1))::(gD s)))),.bool true]) [])) .fail) .fail))) .fail) (.ite (decide ((aO s).1=([]: aa))) (.ite (((isM (ay (aV s).1))&&true)&&(isM (aO s).2.1)) (.ite (!(bf (ay (aV s).1) 80 ([47]: aa) (aO s).2.1 (aO s).2.2)) (bv s) (.ret (AV.tup [.agg ((AV.str (ay (aV s).1))::((AV.int .i64 80)::((AV.str ([47]: aa))::(gD s)))),.bool true]) [])) .fail) (.ite (isM (aO s).1) (.ite (((isM (ay (aV s).1))&&(isM (a8 (aO s).1)))&&(isM (aO s).2.1)) (.ite (!(bf (ay (aV s).1) 80 (a8 (aO s).1) (aO s).2.1 (aO s).2.2)) (bv s) (.ret (AV.tup [.agg ((AV.str (ay (aV s).1))::((AV.int .i64 80)::((AV.str (a8 (aO s).1))::(gD s)))),.bool true]) [])) .fail) .fail))) .fail) .fail) .fail) .fail) .fail) .fail) .fail)) .fail) .fail)) .fail) .fail)))) .fail))
def xE: List AV→List Ob→Br
 | [.str s],[]=>mE s
 | _,_=> .fail
theorem iReadUrl_ok: Sound Kx 242 xE:=ah (C:=Nk) (O:=Nj) Tryz.func242 (by kernel_rfl) fun args objs=>by
 unfold xE;split
 · exact .inr (by kernel_rfl)
 · exact .inl rfl
def Nl: Opt:={ split:=true }
def Nm: SC:=[⟨188,_,rD⟩,⟨273,_,De⟩,⟨91,_,iG⟩,⟨274,_,Dz⟩,⟨275,_,xC⟩,⟨276,_,xD⟩]
abbrev bj (s: aa):=(aB (cut s 7 (s.length: Int)) 63)
abbrev bG (s: aa):=(Br.ret (AV.tup ((AV.agg ((AV.str ([]: aa))::((AV.int .i64 0)::((AV.str ([]: aa))::((AV.str ([]: aa))::((AV.bool false)::[]))))))::((AV.bool false)::[]))) [])
abbrev bV (s: aa):=(cut (cut s 7 (s.length: Int)) (ai (((List.length (bj s)): Int) + 1)) ((List.length (cut s 7 (s.length: Int))): Int))
abbrev bH (s: aa):=(cut (bj s) ((List.length (aB (bj s) 47)): Int) ((List.length (bj s)): Int))
abbrev cP (s: aa):=(jY (cut (aB (bj s) 47) (ai (((List.length (aB (aB (bj s) 47) 58)): Int) + 1)) ((List.length (aB (bj s) 47)): Int)))
abbrev aQ (s: aa):=(ay (aB (aB (bj s) 47) 58))
abbrev bl (s: aa):=((List.length (bj s)): Int)
abbrev dj (s: aa):=((List.length (aB (bj s) 47)): Int)
abbrev dm (s: aa):=((List.length (cut s 7 (s.length: Int))): Int)
def mF (s: aa): Br:=(.ite (decide (200 < (s.length: Int))) (bG s) (.ite (decide ((s.length: Int) < 8)) (bG s) (.ite (isM s) (.ite (!((aU dD s)&&(decide (0 < (s.length: Int))))) (bG s) (.ite (isM s) (.ite (!(decide ((aB s 35)=s))) (bG s) (.ite (decide (7≤(s.length: Int))) (.ite (isM (cut s 0 7)) (.ite (!(decide ((ay (cut s 0 7))=([104,116,116,112,58,47,47]: aa)))) (bG s) (.ite (decide (7≤(s.length: Int))) (.ite (isM (cut s 7 (s.length: Int))) (.ite (isM (bj s)) (.ite (isM (aB (bj s) 47)) (.ite (isM (aB (aB (bj s) 47) 58)) (.ite (decide (((List.length (aB (aB (bj s) 47) 58)): Int) < (dj s))) (.ite (decide (0≤(ai (((List.length (aB (aB (bj s) 47) 58)): Int) + 1)))) (.ite (decide ((ai (((List.length (aB (aB (bj s) 47) 58)): Int) + 1))≤(dj s))) (.ite (!(cP s).2) (bG s) (.ite (decide ((dj s) < (bl s))) (.ite (decide (0≤(dj s))) (.ite (decide ((dj s)≤(bl s))) (.ite (isM (bH s)) (.ite (decide ((bl s) < (dm s))) (.ite (decide (0≤(ai ((bl s) + 1)))) (.ite (decide ((ai ((bl s) + 1))≤(dm s))) (.ite (((isM (aQ s))&&(isM (a8 (bH s))))&&(isM (bV s))) (.ite (!(bf (aQ s) (cP s).1 (a8 (bH s)) (bV s) true)) (bG s) (.ret (AV.tup [.agg [.str (aQ s),.int .i64 (cP s).1,.str (a8 (bH s)),.str (bV s),.bool true],.bool true]) [])) .fail) .fail) .fail) (.ite (((isM (aQ s))&&(isM (a8 (bH s))))&&true) (.ite (!(bf (aQ s) (cP s).1 (a8 (bH s)) ([]: aa) false)) (bG s) (.ret (AV.tup [.agg [.str (aQ s),.int .i64 (cP s).1,.str (a8 (bH s)),.str ([]: aa),.bool false],.bool true]) [])) .fail)) .fail) .fail) .fail) (.ite (decide ((bl s) < (dm s))) (.ite (decide (0≤(ai ((bl s) + 1)))) (.ite (decide ((ai ((bl s) + 1))≤(dm s))) (.ite (((isM (aQ s))&&true)&&(isM (bV s))) (.ite (!(bf (aQ s) (cP s).1 ([47]: aa) (bV s) true)) (bG s) (.ret (AV.tup [.agg [.str (aQ s),.int .i64 (cP s).1,.str ([47]: aa),.str (bV s),.bool true],.bool true]) [])) .fail) .fail) .fail) (.ite (((isM (aQ s))&&true)&&true) (.ite (!(bf (aQ s) (cP s).1 ([47]: aa) ([]: aa) false)) (bG s) (.ret (AV.tup [.agg [.str (aQ s),.int .i64 (cP s).1,.str ([47]: aa),.str ([]: aa),.bool false],.bool true]) [])) .fail)))) .fail) .fail) (.ite (decide ((dj s) < (bl s))) (.ite (decide (0≤(dj s))) (.ite (decide ((dj s)≤(bl s))) (.ite (isM (bH s)) (.ite (decide ((bl s) < (dm s))) (.ite (decide (0≤(ai ((bl s) + 1)))) (.ite (decide ((ai ((bl s) + 1))≤(dm s))) (.ite (((isM (aQ s))&&(isM (a8 (bH s))))&&(isM (bV s))) (.ite (!(bf (aQ s) 80 (a8 (bH s)) (bV s) true)) (bG s) (.ret (AV.tup [.agg [.str (aQ s),.int .i64 80,.str (a8 (bH s)),.str (bV s),.bool true],.bool true]) [])) .fail) .fail) .fail) (.ite (((isM (aQ s))&&(isM (a8 (bH s))))&&true) (.ite (!(bf (aQ s) 80 (a8 (bH s)) ([]: aa) false)) (bG s) (.ret (AV.tup [.agg [.str (aQ s),.int .i64 80,.str (a8 (bH s)),.str ([]: aa),.bool false],.bool true]) [])) .fail)) .fail) .fail) .fail) (.ite (decide ((bl s) < (dm s))) (.ite (decide (0≤(ai ((bl s) + 1)))) (.ite (decide ((ai ((bl s) + 1))≤(dm s))) (.ite (((isM (aQ s))&&true)&&(isM (bV s))) (.ite (!(bf (aQ s) 80 ([47]: aa) (bV s) true)) (bG s) (.ret (AV.tup [.agg [.str (aQ s),.int .i64 80,.str ([47]: aa),.str (bV s),.bool true],.bool true]) [])) .fail) .fail) .fail) (.ite (((isM (aQ s))&&true)&&true) (.ite (!(bf (aQ s) 80 ([47]: aa) ([]: aa) false)) (bG s) (.ret (AV.tup [.agg [.str (aQ s),.int .i64 80,.str ([47]: aa),.str ([]: aa),.bool false],.bool true]) [])) .fail)))) .fail) .fail) .fail) .fail) .fail)) .fail) .fail)) .fail)) .fail)))
def xF: List AV→List Ob→Br
 | [.str s],[]=>mF s
 | _,_=> .fail
theorem sReadUrl_ok: Sound Kx 227 xF:=ah (C:=Nm) (O:=Nl) Tryz.func227 (by kernel_rfl) fun args objs=>by
 unfold xF;split
 · exact .inr (by kernel_rfl)
 · exact .inl rfl
def Nn: Opt:={ split:=true }
def No: SC:=[⟨276,_,xD⟩,⟨277,_,DO⟩]
def mG (h: aa) (po: Int) (pa q: aa) (hq: Bool): Br:=(.ite (((isM h)&&(isM pa))&&(isM q)) (.ite (!(bf h po pa q hq)) (.ret (AV.str ([]: aa)) []) (.ite (smU h po pa q) (.ret (AV.str (vp h po pa q hq)) []) .fail)) .fail)
def xG: List AV→List Ob→Br
 | [.agg [.str h, .int .i64 po, .str pa, .str q, .bool hq]],[]=>mG h po pa q hq
 | _,_=> .fail
theorem Gw: Sound Kx 228 xG:=ah (C:=No) (O:=Nn) Tryz.func228 (by kernel_rfl) fun args objs=>by
 unfold xG;split
 · exact .inr (by kernel_rfl)
 · exact .inl rfl
theorem DQ (b: Int): ∀ (r: aa) (k: Nat),k≤(aB r b).length→aB (r.drop k) b=(aB r b).drop k
 | r,0,_=>rfl
 | [],k + 1,h=>by simp [aB] at h
 | x::r,k + 1,h=>by
   have ih:=DQ b r k
   unfold aB at ih h ⊢
   rw [List.takeWhile_cons] at h ⊢
   cases c: decide (by8 x=b)
   · rw [c] at h
     simp only [Bool.not_false,if_true,List.length_cons] at h ⊢
     rw [List.drop_succ_cons,List.drop_succ_cons]
     exact ih (by omega)
   · rw [c] at h;simp at h
theorem mH {l: aa} {k: Nat} {i: Int} (h: i=(k: Int)): cut l i (l.length: Int)=l.drop k:=by
 subst h;unfold cut;simp
theorem zi {l: aa} {k: Nat} {i: Int} (h: i=(k: Int)): cut l 0 i=l.take k:=by
 subst h;unfold cut;simp
theorem RO (a b: Nat): decide ((a: Int) < (b: Int))=decide (a < b):=by
 rw [Bool.eq_iff_iff,decide_eq_true_eq,decide_eq_true_eq];omega
theorem DR (p: aa): (a8 p).length≤1000:=by
 cases p with
 | nil=>exact Nat.zero_le _
 | cons c r=>
   by_cases hc: c=47
   · subst hc
     rw [nN]
     cases ho: qD (47::r)
     · exact Nat.zero_le _
     · unfold qD at ho
       simp only [Bool.and_eq_true,decide_eq_true_eq,List.length_cons] at ho
       have h1:=Gs r (by omega)
       have h2:=oU (j5 (e9 r) 47)
       have h3:=J0 (mv (j5 (e9 r) 47))
       simp only [cond_true,List.length_cons];omega
   · rw [lb c r hc];exact Nat.zero_le _
def urA (u: Ur): AV:= .agg [.str u.h, .int .i64 u.po, .str u.pa, .str u.q, .bool u.hq]
theorem fH {s: aa} (h: xd s=false): bi s=(u0,false):=by unfold bi;rw [h];rfl
theorem uA {s: aa} (h: xd s=true): bi s=bif (MX (vG (s.drop 7))).2&&(WX (s.drop 7)).ok then (WX (s.drop 7),true) else (u0,false):=by
 unfold bi;rw [h,Bool.true_and]
theorem qJ (s: aa): xd s=(decide (s.length≤200)&&decide (7≤s.length)&&aU dD s&& !cW s 35&&decide (ay (s.take 7)=y7)):=rfl
theorem Xl: (WX []).ok=false:=by
 unfold WX Ur.ok bf
 have e: ly (ay (aB (vG []) 58))=false:=rfl
 simp only [e,Bool.false_and]
def agd: List AV→List Ob→Br:=oy fun s=> .tup [urA (bi s).1, .bool (bi s).2]
theorem DS: Sound Kx 227 agd:=sReadUrl_ok.of fun args objs r h=>by
 unfold agd oy at h
 split at h
 case h_2=>cases h
 rename_i s
 obtain ⟨hM,h2⟩:=al h
 cases h2
 show (mF s).val=some (.tup [urA (bi s).1, .bool (bi s).2],[])
 unfold mF dm dj bl aQ cP bH bV bG bj
 have hok:=qJ s
 cases d1: decide ((200 : Int) < (s.length: Int))
 case true=>
  have:=of_decide_eq_true d1
  rw [dF' (show ¬ s.length≤200 by omega)] at hok
  rw [fH (by rw [hok];rfl)];rfl
 have d1':=of_decide_eq_false d1
 rw [dT' (show s.length≤200 by omega)] at hok
 cases d2: decide ((s.length: Int) < 8)
 case true=>
  have d2':=of_decide_eq_true d2
  refine (fK rfl).trans ((bX rfl).trans ?_)
  have: bi s=(u0,false):=by
   cases hr: xd s
   · exact fH hr
   · rw [uA hr]
     rw [hok] at hr
     simp only [Bool.and_eq_true,decide_eq_true_eq] at hr
     have e: s.drop 7=[]:=List.drop_eq_nil_of_le (by omega)
     rw [e,Xl,Bool.and_false];rfl
  rw [this];rfl
 have d2':=of_decide_eq_false d2
 rw [dT' (show 7≤s.length by omega)] at hok
 rw [hM,rT,dT' (show (0 : Int) < (s.length: Int) by omega),dT' (show (7 : Int)≤(s.length: Int) by omega),show cut s 0 7=s.take 7 from zi (k:=7) rfl,show cut s 7 (s.length: Int)=s.drop 7 from mH (k:=7) rfl]
 cases d3: aU dD s
 · rw [d3] at hok
   rw [fH (by rw [hok];rfl)];rfl
 rw [d3] at hok
 cases d4: cW s 35
 case true=>
  rw [d4] at hok
  rw [fH (by rw [hok];rfl)];rfl
 rw [d4] at hok
 have e7: isM (s.take 7)=true:=bW (n:=7) (by rw [List.length_take];exact Nat.min_le_left _ _)
 rw [e7]
 cases d5: decide (ay (s.take 7)=[104,116,116,112,58,47,47])
 · rw [show decide (ay (s.take 7)=y7)=false from d5] at hok
   rw [fH (by rw [hok];rfl)];rfl
 rw [show decide (ay (s.take 7)=y7)=true from d5] at hok
 rw [uA (by rw [hok];rfl)]
 generalize hr: s.drop 7=r
 have hrl: r.length≤200:=by rw [← hr,List.length_drop];omega
 refine (fK rfl).trans ((fK rfl).trans ((bX rfl).trans ((fK rfl).trans ((bX rfl).trans ((fK rfl).trans ((bX rfl).trans ((bX rfl).trans ((fK rfl).trans ((bX rfl).trans ?_)))))))))
 unfold WX abH MX vG qE Ur.ok urA
 have lF:=jz r 63
 generalize hF: aB r 63=F at lF
 have lA:=jz F 47
 generalize hA: aB F 47=A at lA
 have lH:=jz A 58
 generalize hH: aB A 58=H at lH
 have w1: ai ((H.length: Int) + 1)=((H.length + 1 : Nat): Int):=by rw [w64 (by omega) (by omega)];rfl
 have w2: ai ((F.length: Int) + 1)=((F.length + 1 : Nat): Int):=by rw [w64 (by omega) (by omega)];rfl
 have m1: isM r=true:=bW (n:=200) (by omega)
 have m2: isM F=true:=bW (n:=200) (by omega)
 have m3: isM A=true:=bW (n:=200) (by omega)
 have m4: isM H=true:=bW (n:=200) (by omega)
 have m5: isM (ay H)=true:=bW (n:=200) (by rw [tg];omega)
 have m6: ∀ p,isM (a8 p)=true:=fun p=>bW (n:=1000) (DR p)
 have m7: isM (F.drop A.length)=true:=bW (n:=200) (by rw [List.length_drop];omega)
 have m8: isM (r.drop (F.length + 1))=true:=bW (n:=200) (by rw [List.length_drop];omega)
 have q0: ∀ n: Nat,decide ((0 : Int)≤(n: Int))=true:=fun n=>dT' (by omega)
 have qA: decide ((A.length: Int)≤(F.length: Int))=true:=dT' (by omega)
 rw [m1,m2,m3,m4,w1,w2,mH (l:=A) rfl,mH (l:=F) rfl,mH (l:=r) rfl,m5,m7,m8,RO,RO,RO,q0,q0,q0,qA]
 simp only [m6]
 cases t1: decide (H.length < A.length)
 · cases t2: decide (A.length < F.length)
   · cases t3: decide (F.length < r.length)
     · simp only [Br.val,cond_true,cond_false,Bool.and_true,Bool.true_and]
       cases bf (ay H) 80 [47] [] false <;> rfl
     · have t3':=of_decide_eq_true t3
       rw [dT' (show ((F.length + 1 : Nat): Int)≤(r.length: Int) by omega)]
       simp only [Br.val,cond_true,cond_false,Bool.and_true,Bool.true_and]
       cases bf (ay H) 80 [47] (r.drop (F.length + 1)) true <;> rfl
   · cases t3: decide (F.length < r.length)
     · simp only [Br.val,cond_true,cond_false,Bool.and_true,Bool.true_and]
       cases bf (ay H) 80 (a8 (F.drop A.length)) [] false <;> rfl
     · have t3':=of_decide_eq_true t3
       rw [dT' (show ((F.length + 1 : Nat): Int)≤(r.length: Int) by omega)]
       simp only [Br.val,cond_true,cond_false,Bool.and_true,Bool.true_and]
       cases bf (ay H) 80 (a8 (F.drop A.length)) (r.drop (F.length + 1)) true <;> rfl
 · have t1':=of_decide_eq_true t1
   rw [dT' (show ((H.length + 1 : Nat): Int)≤(A.length: Int) by omega)]
   cases t4: (jY (A.drop (H.length + 1))).2
   · simp only [Br.val,cond_true,cond_false,Bool.false_and,t4,Bool.not_false];rfl
   · cases t2: decide (A.length < F.length)
     · cases t3: decide (F.length < r.length)
       · simp only [Br.val,cond_true,cond_false,Bool.and_true,Bool.true_and,t4,Bool.not_true]
         cases bf (ay H) (jY (A.drop (H.length + 1))).1 [47] [] false <;> rfl
       · have t3':=of_decide_eq_true t3
         rw [dT' (show ((F.length + 1 : Nat): Int)≤(r.length: Int) by omega)]
         simp only [Br.val,cond_true,cond_false,Bool.and_true,Bool.true_and,t4,Bool.not_true]
         cases bf (ay H) (jY (A.drop (H.length + 1))).1 [47] (r.drop (F.length + 1)) true <;> rfl
     · cases t3: decide (F.length < r.length)
       · simp only [Br.val,cond_true,cond_false,Bool.and_true,Bool.true_and,t4,Bool.not_true]
         cases bf (ay H) (jY (A.drop (H.length + 1))).1 (a8 (F.drop A.length)) [] false <;> rfl
       · have t3':=of_decide_eq_true t3
         rw [dT' (show ((F.length + 1 : Nat): Int)≤(r.length: Int) by omega)]
         simp only [Br.val,cond_true,cond_false,Bool.and_true,Bool.true_and,t4,Bool.not_true]
         cases bf (ay H) (jY (A.drop (H.length + 1))).1 (a8 (F.drop A.length)) (r.drop (F.length + 1)) true <;> rfl
theorem RP (r: aa): r.take (aB (aB r 63) 47).length=aB (aB r 63) 47:=by
 have h1:=ue r 63
 have h2:=ue (aB r 63) 47
 have h3:=jz (aB r 63) 47
 calc r.take (aB (aB r 63) 47).length=(r.take (aB r 63).length).take (aB (aB r 63) 47).length:=by rw [List.take_take,Nat.min_eq_left h3]
  _=(aB r 63).take (aB (aB r 63) 47).length:=by rw [h1]
  _=aB (aB r 63) 47:=h2
theorem abV (r: aa): (decide (oR r [47,63] < 0)=true→(aB (aB r 63) 47).length=r.length)∧(decide (oR r [47,63] < 0)=false→oR r [47,63]=((aB (aB r 63) 47).length: Int)):=by
 rw [my,show by8 47=47 from rfl,show by8 63=63 from rfl]
 cases h: cW r 47||cW r 63
 · rw [cond_false]
   rw [Bool.or_eq_false_iff] at h
   have h1: aB r 63=r:=by have:=rT r 63;rw [h.2] at this;exact of_decide_eq_true this
   have h2: aB r 47=r:=by have:=rT r 47;rw [h.1] at this;exact of_decide_eq_true this
   rw [h1,h2]
   exact ⟨fun _=>rfl,fun e=>by simp at e⟩
 · rw [cond_true]
   exact ⟨fun e=>by have:=of_decide_eq_true e;omega,fun _=>rfl⟩
theorem J9 {l: aa} {k: Nat} : decide (l.drop k=[])= !decide (k < l.length):=by
 rw [Bool.eq_iff_iff];simp
theorem aeq {a b: Nat} (h: a≤b): (!decide (a=b))=decide (a < b):=by
 rw [Bool.eq_iff_iff];simp;omega
theorem DT: Sound Kx 242 agd:=iReadUrl_ok.of fun args objs r h=>by
 unfold agd oy at h
 split at h
 case h_2=>cases h
 rename_i s
 obtain ⟨hM,h2⟩:=al h
 cases h2
 show (mE s).val=some (.tup [urA (bi s).1, .bool (bi s).2],[])
 unfold mE gD gC dP bU aW aV bv aP aO
 have hok:=qJ s
 cases d1: decide ((200 : Int) < (s.length: Int))
 case true=>
  have:=of_decide_eq_true d1
  rw [dF' (show ¬ s.length≤200 by omega)] at hok
  rw [fH (by rw [hok];rfl)];rfl
 have d1':=of_decide_eq_false d1
 rw [dT' (show s.length≤200 by omega)] at hok
 rw [hM]
 cases d3: aU dD s
 · rw [d3] at hok
   rw [fH (by rw [hok];simp)];rfl
 rw [d3] at hok
 cases d4: cW s 35
 case true=>
  rw [d4] at hok
  rw [fH (by rw [hok];simp)];rfl
 rw [d4] at hok
 cases d2: decide ((s.length: Int) < 7)
 case true=>
  have d2':=of_decide_eq_true d2
  rw [dF' (show ¬ 7≤s.length by omega)] at hok
  rw [fH (by rw [hok];rfl)];rfl
 have d2':=of_decide_eq_false d2
 rw [dT' (show 7≤s.length by omega)] at hok
 rw [dT' (show (7 : Int)≤(s.length: Int) by omega),show cut s 0 7=s.take 7 from zi (k:=7) rfl,show cut s 7 (s.length: Int)=s.drop 7 from mH (k:=7) rfl]
 have e7: isM (s.take 7)=true:=bW (n:=7) (by rw [List.length_take];exact Nat.min_le_left _ _)
 rw [e7]
 cases d5: decide (ay (s.take 7)=[104,116,116,112,58,47,47])
 · rw [show decide (ay (s.take 7)=y7)=false from d5] at hok
   rw [fH (by rw [hok];rfl)];rfl
 rw [show decide (ay (s.take 7)=y7)=true from d5] at hok
 rw [uA (by rw [hok];rfl)]
 have hvis: aU dD (s.drop 7)=true:=by
  have e:=en dD (s.take 7) (s.drop 7)
  rw [List.take_append_drop,d3] at e
  cases hh: aU dD (s.drop 7)
  · rw [hh,Bool.and_false] at e;cases e
  · rfl
 have hasc:=RA _ hvis
 generalize hr: s.drop 7=r at hasc
 have hrl: r.length≤200:=by rw [← hr,List.length_drop];omega
 have hend:=abV r
 have hat:=RP r
 have mr: decide (r.length≤1000000)=true:=dT' (by omega)
 refine (fK rfl).trans ((bX rfl).trans ((fK rfl).trans ((fK rfl).trans ((fK rfl).trans ((bX rfl).trans ((bX rfl).trans ((fK rfl).trans ((bX rfl).trans ((bX (by rw [mr,hasc];rfl)).trans ?_)))))))))
 unfold WX abH MX vG qE Ur.ok urA
 have lF:=jz r 63
 have ud:=DQ 63 r (aB (aB r 63) 47).length (jz _ _)
 generalize hF: aB r 63=F at lF hend hat ud
 have lA:=jz F 47
 generalize hA: aB F 47=A at lA hend hat ud
 have lH:=jz A 58
 have ct: cut r 0 (A.length: Int)=A:=(zi rfl).trans hat
 have cd: cut r (A.length: Int) (r.length: Int)=r.drop A.length:=mH rfl
 have x1:=rK 58 A
 rw [show by8 58=58 from rfl] at x1
 have x2:=rK 63 (r.drop A.length)
 rw [show by8 63=63 from rfl,ud] at x2
 generalize hH: aB A 58=H at lH x1
 have y1: (wd A [58]).1=H:=by rw [x1]
 have y2: (wd A [58]).2.1=A.drop (H.length + 1):=by rw [x1]
 have y3: (wd A [58]).2.2=decide (H.length < A.length):=by rw [x1];exact aeq lH
 have z1: (wd (r.drop A.length) [63]).1=F.drop A.length:=by rw [x2]
 have z2: (wd (r.drop A.length) [63]).2.1=bif decide (F.length < r.length) then r.drop (F.length + 1) else []:=by
  rw [x2]
  simp only [List.length_drop,List.drop_drop]
  cases t: decide (F.length < r.length)
  · have:=of_decide_eq_false t
    rw [cond_false]
    exact List.drop_eq_nil_of_le (by omega)
  · rw [cond_true]
    congr 1;omega
 have z3: (wd (r.drop A.length) [63]).2.2=decide (F.length < r.length):=by
  rw [x2]
  simp only [List.length_drop]
  rw [aeq (by omega),Bool.eq_iff_iff,decide_eq_true_eq,decide_eq_true_eq];omega
 have m4: isM H=true:=bW (n:=200) (by omega)
 have m5: isM (ay H)=true:=bW (n:=200) (by rw [tg];omega)
 have m6: ∀ p,isM (a8 p)=true:=fun p=>bW (n:=1000) (DR p)
 have m7: isM (F.drop A.length)=true:=bW (n:=200) (by rw [List.length_drop];omega)
 have m8: isM (bif decide (F.length < r.length) then r.drop (F.length + 1) else [])=true:=by
  refine bW (n:=200) ?_
  cases decide (F.length < r.length)
  · exact Nat.zero_le _
  · rw [cond_true,List.length_drop];omega
 have q0: ∀ n: Nat,decide ((0 : Int)≤(n: Int))=true:=fun n=>dT' (by omega)
 have qA: decide ((A.length: Int)≤(r.length: Int))=true:=dT' (by omega)
 have q1: decide (A.length≤1000000)=true:=dT' (by omega)
 have q2: decide ((r.drop A.length).length≤1000000)=true:=dT' (by rw [List.length_drop];omega)
 have q3: decide ((A.drop (H.length + 1)).length≤1000000)=true:=dT' (by rw [List.length_drop];omega)
 cases t0: decide (oR r [47,63] < 0)
 · rw [hend.2 t0]
   simp only [Br.val,cond_true,cond_false,q0,qA,ct,cd,q1,q2,y1,y2,y3,z1,z2,z3,m4,m5,m6,m7,m8,q3,Bool.and_self,Bool.and_true,J9]
   cases t1: decide (H.length < A.length)
   · cases t2: decide (A.length < F.length)
     · simp only [Br.val,cond_true,cond_false,Bool.not_false,Bool.true_and]
       cases bf (ay H) 80 [47] (bif decide (F.length < r.length) then r.drop (F.length + 1) else []) (decide (F.length < r.length)) <;> rfl
     · simp only [Br.val,cond_true,cond_false,Bool.not_true,Bool.true_and]
       cases bf (ay H) 80 (a8 (F.drop A.length)) (bif decide (F.length < r.length) then r.drop (F.length + 1) else []) (decide (F.length < r.length)) <;> rfl
   · cases t4: (jY (A.drop (H.length + 1))).2
     · simp only [Br.val,cond_true,cond_false,Bool.not_false,Bool.false_and,t4];rfl
     · cases t2: decide (A.length < F.length)
       · simp only [Br.val,cond_true,cond_false,Bool.not_false,Bool.not_true,Bool.true_and,t4]
         cases bf (ay H) (jY (A.drop (H.length + 1))).1 [47] (bif decide (F.length < r.length) then r.drop (F.length + 1) else []) (decide (F.length < r.length)) <;> rfl
       · simp only [Br.val,cond_true,cond_false,Bool.not_true,Bool.true_and,t4]
         cases bf (ay H) (jY (A.drop (H.length + 1))).1 (a8 (F.drop A.length)) (bif decide (F.length < r.length) then r.drop (F.length + 1) else []) (decide (F.length < r.length)) <;> rfl
 · have hl:=hend.1 t0
   have ct2: cut r 0 (r.length: Int)=A:=by rw [hl] at ct;exact ct
   have cd2: cut r (r.length: Int) (r.length: Int)=r.drop A.length:=by
    rw [mH (l:=r) (k:=r.length) rfl,hl]
   have qB: decide ((r.length: Int)≤(r.length: Int))=true:=dT' (Int.le_refl _)
   simp only [Br.val,cond_true,cond_false,q0,qB,ct2,cd2,q1,q2,y1,y2,y3,z1,z2,z3,m4,m5,m6,m7,m8,q3,Bool.and_self,Bool.and_true,J9]
   cases t1: decide (H.length < A.length)
   · cases t2: decide (A.length < F.length)
     · simp only [Br.val,cond_true,cond_false,Bool.not_false,Bool.true_and]
       cases bf (ay H) 80 [47] (bif decide (F.length < r.length) then r.drop (F.length + 1) else []) (decide (F.length < r.length)) <;> rfl
     · simp only [Br.val,cond_true,cond_false,Bool.not_true,Bool.true_and]
       cases bf (ay H) 80 (a8 (F.drop A.length)) (bif decide (F.length < r.length) then r.drop (F.length + 1) else []) (decide (F.length < r.length)) <;> rfl
   · cases t4: (jY (A.drop (H.length + 1))).2
     · simp only [Br.val,cond_true,cond_false,Bool.not_false,Bool.false_and,t4];rfl
     · cases t2: decide (A.length < F.length)
       · simp only [Br.val,cond_true,cond_false,Bool.not_false,Bool.not_true,Bool.true_and,t4]
         cases bf (ay H) (jY (A.drop (H.length + 1))).1 [47] (bif decide (F.length < r.length) then r.drop (F.length + 1) else []) (decide (F.length < r.length)) <;> rfl
       · simp only [Br.val,cond_true,cond_false,Bool.not_true,Bool.true_and,t4]
         cases bf (ay H) (jY (A.drop (H.length + 1))).1 (a8 (F.drop A.length)) (bif decide (F.length < r.length) then r.drop (F.length + 1) else []) (decide (F.length < r.length)) <;> rfl
theorem DU: Sound Kx 228 (aep (fun h po pa q _=>isM h&&isM pa&&isM q) (fun h po pa q hq=> .str (bif bf h po pa q hq then vp h po pa q hq else []))):=RK Gw fun h po pa q hq hs=>by
 show (mG h po pa q hq).val=some (.str (bif bf h po pa q hq then vp h po pa q hq else []),[])
 unfold mG
 refine (bX hs).trans ?_
 cases ho: bf h po pa q hq
 · rfl
 · simp only [Bool.and_eq_true] at hs
   have ho':=ho
   unfold bf at ho'
   simp only [Bool.and_eq_true,Bool.not_eq_true',decide_eq_false_iff_not] at ho'
   obtain ⟨⟨⟨⟨⟨⟨⟨h1,h2,h3⟩,h4⟩,h5⟩,_⟩,_⟩,_⟩,_⟩:=ho'
   exact (fK rfl).trans ((bX (J8 h1 h2 h3 (dF' h4) h5 hs.2)).trans rfl)
def Xm: SC:=[⟨242,_,DT⟩,⟨243,_,DN⟩]
def uB (s: aa): Br:=(.ite (isM s) (.ite (!(bi s).2) (.ret (AV.tup [.str ([]: aa),.bool false]) []) (.ite (smU (bi s).1.1 (bi s).1.2 (bi s).1.3 (bi s).1.4) (.ret (AV.tup [.str (vp (bi s).1.1 (bi s).1.2 (bi s).1.3 (bi s).1.4 (bi s).1.5),.bool true]) []) .fail)) .fail)
def J_: List AV→List Ob→Br
 | [.str s],[]=>uB s
 | _,_=> .fail
theorem iCanon_ok: Sound Kx 200 J_:=ah (C:=Xm) (O:=O0) Tryz.func200 (by kernel_rfl) fun args objs=>by
 unfold J_;split
 · exact .inr (by kernel_rfl)
 · exact .inl rfl
def Xn: SC:=[⟨227,_,DS⟩,⟨228,_,DU⟩]
def uC (s: aa): Br:=(.ite (isM s) (.ite (!(bi s).2) (.ret (AV.tup [.str ([]: aa),.bool false]) []) (.ite (((isM (bi s).1.1)&&(isM (bi s).1.3))&&(isM (bi s).1.4)) (.ret (AV.tup [.str (bif (bf (bi s).1.1 (bi s).1.2 (bi s).1.3 (bi s).1.4 (bi s).1.5) then (vp (bi s).1.1 (bi s).1.2 (bi s).1.3 (bi s).1.4 (bi s).1.5) else ([]: aa)),.bool true]) []) .fail)) .fail)
def Ka: List AV→List Ob→Br
 | [.str s],[]=>uC s
 | _,_=> .fail
theorem sCanon_ok: Sound Kx 167 Ka:=ah (C:=Xn) (O:=O0) Tryz.func167 (by kernel_rfl) fun args objs=>by
 unfold Ka;split
 · exact .inr (by kernel_rfl)
 · exact .inl rfl
theorem Kb {s: aa} (h: (bi s).2=true): (bi s).1.ok=true:=by
 unfold bi at h ⊢
 cases c: xd s&&(MX (vG (s.drop 7))).2&&(WX (s.drop 7)).ok
 · rw [c] at h;cases h
 · rw [cond_true]
   simp only [Bool.and_eq_true] at c
   exact c.2
theorem Kc {h: aa} {po: Int} {pa q: aa} {hq: Bool} (ho: bf h po pa q hq=true): ly h=true∧decide (1≤po)=true∧decide (po≤65535)=true∧decide (pa=[])=false∧decide (a8 pa=pa)=true∧(vp h po pa q hq).length≤200:=by
 unfold bf at ho
 simp only [Bool.and_eq_true,Bool.not_eq_true',decide_eq_false_iff_not] at ho
 obtain ⟨⟨⟨⟨⟨⟨⟨h1,h2,h3⟩,h4⟩,h5⟩,_⟩,_⟩,_⟩,h8⟩:=ho
 exact ⟨h1,h2,h3,dF' h4,h5,of_decide_eq_true h8⟩
theorem agR {h: aa} {po: Int} {pa q: aa} {hq: Bool} (ho: bf h po pa q hq=true): q.length≤200:=by
 have hl:=(Kc ho).2.2.2.2.2
 unfold bf at ho
 simp only [Bool.and_eq_true,Bool.or_eq_true,decide_eq_true_eq] at ho
 rcases ho.1.2 with h' | h'
 · subst h'
   have:=ZD h po pa q;omega
 · rw [h'];exact Nat.zero_le _
theorem Kd {u: Ur} (ho: u.ok=true): smU u.h u.po u.pa u.q=true∧(isM u.h&&isM u.pa&&isM u.q)=true:=by
 unfold Ur.ok at ho
 obtain ⟨h1,h2,h3,h4,h5,_⟩:=Kc ho
 have hq: isM u.q=true:=bW (n:=200) (agR ho)
 have a:=J7 h1
 have b:=DP (of_decide_eq_true h5) (of_decide_eq_false h4)
 exact ⟨J8 h1 h2 h3 h4 h5 hq,by rw [hq,bW (n:=60) a,bW (n:=200) b];rfl⟩
def age: List AV→List Ob→Br:=oy fun s=> .tup [.str (f0 s).1, .bool (f0 s).2]
theorem Np: Sound Kx 200 age:=iCanon_ok.of fun args objs r h=>by
 unfold age oy at h
 split at h
 case h_2=>cases h
 rename_i s
 obtain ⟨hM,h2⟩:=al h
 cases h2
 show (uB s).val=some (.tup [.str (f0 s).1, .bool (f0 s).2],[])
 unfold uB f0
 refine (bX hM).trans ?_
 cases c: (bi s).2
 · rfl
 · exact (fK rfl).trans ((bX (Kd (Kb c)).1).trans rfl)
theorem Nq: Sound Kx 167 age:=sCanon_ok.of fun args objs r h=>by
 unfold age oy at h
 split at h
 case h_2=>cases h
 rename_i s
 obtain ⟨hM,h2⟩:=al h
 cases h2
 show (uC s).val=some (.tup [.str (f0 s).1, .bool (f0 s).2],[])
 unfold uC f0
 refine (bX hM).trans ?_
 cases c: (bi s).2
 · rfl
 · have ho:=Kb c
   have ho': bf (bi s).1.h (bi s).1.po (bi s).1.pa (bi s).1.q (bi s).1.hq=true:=ho
   refine (fK rfl).trans ((bX (Kd ho).2).trans ?_)
   rw [ho'];rfl
def Xo: SC:=[⟨200,_,Np⟩]
def uD (s: aa): Br:=(.ite (isM s) (.ite (f0 s).2 (.ret (AV.bool (decide ((f0 s).1=s))) []) (.ret (AV.bool false) [])) .fail)
def Ke: List AV→List Ob→Br
 | [.str s],[]=>uD s
 | _,_=> .fail
theorem iIsCan_ok: Sound Kx 129 Ke:=ah (C:=Xo) (O:=O0) Tryz.func129 (by kernel_rfl) fun args objs=>by
 unfold Ke;split
 · exact .inr (by kernel_rfl)
 · exact .inl rfl
def Xp: SC:=[⟨167,_,Nq⟩]
def uE (s: aa): Br:=(.ite (isM s) (.ite (f0 s).2 (.ret (AV.bool (decide ((f0 s).1=s))) []) (.ret (AV.bool false) [])) .fail)
def Kf: List AV→List Ob→Br
 | [.str s],[]=>uE s
 | _,_=> .fail
theorem sIsCan_ok: Sound Kx 94 Kf:=ah (C:=Xp) (O:=O0) Tryz.func94 (by kernel_rfl) fun args objs=>by
 unfold Kf;split
 · exact .inr (by kernel_rfl)
 · exact .inl rfl
def abW: SC:=[⟨201,_,dX⟩]
def Xq (n: Int): Br:=(.ite (decide (0≤n)) (.ret (AV.bool (decide (n≤253402300799))) []) (.ret (AV.bool false) []))
def RQ: List AV→List Ob→Br
 | [.int .i64 n],[]=>Xq n
 | _,_=> .fail
theorem Xr: Sound Kx 130 RQ:=ah (C:=abW) (O:=O0) Tryz.func130 (by kernel_rfl) fun args objs=>by
 unfold RQ;split
 · exact .inr (by kernel_rfl)
 · exact .inl rfl
def Xs (n: Int): Br:=(.ite (decide (0≤n)) (.ret (AV.bool (decide (n≤253402300799))) []) (.ret (AV.bool false) []))
def RR: List AV→List Ob→Br
 | [.int .i64 n],[]=>Xs n
 | _,_=> .fail
theorem Xt: Sound Kx 95 RR:=ah (C:=[]) (O:=O0) Tryz.func95 (by kernel_rfl) fun args objs=>by
 unfold RR;split
 · exact .inr (by kernel_rfl)
 · exact .inl rfl
theorem Nr: Sound Kx 129 (oy fun s=> .bool (kA s)):=iIsCan_ok.of fun args objs r h=>by
 unfold oy at h
 split at h
 case h_2=>cases h
 rename_i s
 obtain ⟨hM,h2⟩:=al h
 cases h2
 show (uD s).val=some (.bool (kA s),[])
 unfold uD kA
 refine (bX hM).trans ?_
 cases (f0 s).2 <;> rfl
theorem Ns: Sound Kx 94 (oy fun s=> .bool (kA s)):=sIsCan_ok.of fun args objs r h=>by
 unfold oy at h
 split at h
 case h_2=>cases h
 rename_i s
 obtain ⟨hM,h2⟩:=al h
 cases h2
 show (uE s).val=some (.bool (kA s),[])
 unfold uE kA
 refine (bX hM).trans ?_
 cases (f0 s).2 <;> rfl
theorem kB: Sound Kx 130 (abe fb):=PH Xr fun b=>yy _ _
theorem uF: Sound Kx 95 (abe fb):=PH Xt fun b=>yy _ _
theorem Nt {me ta re bo: aa} {st: Int} {ba: Bool} {fs: List Fd} (h: eF me ta st re ba fs bo=true): hdG me ta st re fs bo=true∧(iL me ta st re ba fs bo).length≤1500∧bo.length≤600:=by
 unfold eF at h
 simp only [Bool.and_eq_true,Bool.not_eq_true',decide_eq_true_eq,decide_eq_false_iff_not] at h
 obtain ⟨⟨⟨⟨⟨h1,h2⟩,h3⟩,h4⟩,h5⟩,h6⟩:=h
 exact ⟨Qw h1 h3 h5,by omega,by omega⟩
abbrev En:=aa×Int×Int×List Fd×Mg
@[match_pattern] abbrev EnT: Ty:=(.pair .str (.pair (.int .i64) (.pair (.int .i64) (.pair (.slice (.pair .str .str)) (.pair .str (.pair .str (.pair (.int .i64) (.pair .str (.pair .bool (.pair (.slice (.pair .str .str)) .str))))))))))
abbrev en0: En:=(([]: List UInt8),((0 : Int),((0 : Int),(([]: List (List UInt8×List UInt8)),(([]: List UInt8),(([]: List UInt8),((0 : Int),(([]: List UInt8),(false,(([]: List (List UInt8×List UInt8)),([]: List UInt8)))))))))))
def agS (g: En→Bool) (p: En→AV): List AV→List Ob→Br
 | [.agg [.str ur, .int .i64 t1, .int .i64 t2, .sh (.pair .str .str) ak, .str me, .str ta, .int .i64 st, .str re, .bool ba, .sh (.pair .str .str) fs, .str bo]],[]=>
   .ite (g (ur,t1,t2,ak,me,ta,st,re,ba,fs,bo)) (.ret (p (ur,t1,t2,ak,me,ta,st,re,ba,fs,bo)) []) .fail
 | _,_=> .fail
theorem aer {n: Nat} {s: List AV→List Ob→Br} (hs: Sound Kx n s) {g: En→Bool} {p: En→AV}
 (h: ∀ ur t1 t2 ak me ta st re ba fs bo,g (ur,t1,t2,ak,me,ta,st,re,ba,fs,bo)=true→(s [.agg [.str ur, .int .i64 t1, .int .i64 t2, .sh (.pair .str .str) ak, .str me, .str ta, .int .i64 st, .str re, .bool ba, .sh (.pair .str .str) fs, .str bo]] []).val=some (p (ur,t1,t2,ak,me,ta,st,re,ba,fs,bo),[])): Sound Kx n (agS g p):=hs.of fun args objs r hv=>by
 unfold agS at hv
 split at hv
 case h_2=>cases hv
 obtain ⟨h1,h2⟩:=al hv
 cases h2
 exact h _ _ _ _ _ _ _ _ _ _ _ h1
def lz (e: En): Bool:=
 kA e.1&&fb e.2.1&&fb e.2.2.1&&decide (e.2.1≤e.2.2.1)&&bd e.2.2.2.1&&eF e.2.2.2.2.1 e.2.2.2.2.2.1 e.2.2.2.2.2.2.1 e.2.2.2.2.2.2.2.1 e.2.2.2.2.2.2.2.2.1 e.2.2.2.2.2.2.2.2.2.1 e.2.2.2.2.2.2.2.2.2.2&&decide (e.2.2.2.2.1=[])&& !e.2.2.2.2.2.2.2.2.1
def Nu: Opt:={ split:=true }
def Nv: SC:=[⟨129,_,Nr⟩,⟨130,_,kB⟩,⟨84,_,cK⟩,⟨101,_,wW⟩]
def mI (ur: aa) (t1 t2: Int) (ak: List Fd) (me ta: aa) (st: Int) (re: aa) (ba: Bool) (fs: List Fd) (bo: aa): Br:=(.ite (isM ur) (.ite (kA ur) (.ite (fb t1) (.ite (fb t2) (.ite (decide (t1≤t2)) (.ite (bd ak) (.ite (eF me ta st re ba fs bo) (.ite (decide (me=([]: aa))) (.ret (AV.bool (!ba)) []) (.ret (AV.bool false) [])) (.ret (AV.bool false) [])) (.ret (AV.bool false) [])) (.ret (AV.bool false) [])) (.ret (AV.bool false) [])) (.ret (AV.bool false) [])) (.ret (AV.bool false) [])) .fail)
def xH: List AV→List Ob→Br
 | [.agg [.str ur, .int .i64 t1, .int .i64 t2, .sh (.pair .str .str) ak, .str me, .str ta, .int .i64 st, .str re, .bool ba, .sh (.pair .str .str) fs, .str bo]],[]=>mI ur t1 t2 ak me ta st re ba fs bo
 | _,_=> .fail
theorem Gx: Sound Kx 49 xH:=ah (C:=Nv) (O:=Nu) Tryz.func49 (by kernel_rfl) fun args objs=>by
 unfold xH;split
 · exact .inr (by kernel_rfl)
 · exact .inl rfl
def Nw: Opt:={ split:=true }
def Nx: SC:=[⟨94,_,Ns⟩,⟨95,_,uF⟩,⟨96,_,eQ⟩,⟨41,_,wY⟩]
def mJ (ur: aa) (t1 t2: Int) (ak: List Fd) (me ta: aa) (st: Int) (re: aa) (ba: Bool) (fs: List Fd) (bo: aa): Br:=(.ite (isM ur) (.ite (kA ur) (.ite (fb t1) (.ite (fb t2) (.ite (decide (t1≤t2)) (.ite (bd ak) (.ite (eF me ta st re ba fs bo) (.ite (decide (me=([]: aa))) (.ret (AV.bool (!ba)) []) (.ret (AV.bool false) [])) (.ret (AV.bool false) [])) (.ret (AV.bool false) [])) (.ret (AV.bool false) [])) (.ret (AV.bool false) [])) (.ret (AV.bool false) [])) (.ret (AV.bool false) [])) .fail)
def xI: List AV→List Ob→Br
 | [.agg [.str ur, .int .i64 t1, .int .i64 t2, .sh (.pair .str .str) ak, .str me, .str ta, .int .i64 st, .str re, .bool ba, .sh (.pair .str .str) fs, .str bo]],[]=>mJ ur t1 t2 ak me ta st re ba fs bo
 | _,_=> .fail
theorem Gy: Sound Kx 36 xI:=ah (C:=Nx) (O:=Nw) Tryz.func36 (by kernel_rfl) fun args objs=>by
 unfold xI;split
 · exact .inr (by kernel_rfl)
 · exact .inl rfl
def ahB: List AV→List Ob→Br:=agS (fun e=>isM e.1) (fun e=> .bool (lz e))
theorem fN: Sound Kx 49 ahB:=aer Gx fun ur t1 t2 ak me ta st re ba fs bo h=>by
 show (mI ur t1 t2 ak me ta st re ba fs bo).val=some (.bool (lz (ur,t1,t2,ak,me,ta,st,re,ba,fs,bo)),[])
 unfold mI lz
 refine (bX h).trans ?_
 simp only
 cases kA ur <;> cases fb t1 <;> cases fb t2 <;> cases decide (t1≤t2) <;> cases bd ak <;> cases eF me ta st re ba fs bo <;> cases decide (me=[]) <;> rfl
theorem DV: Sound Kx 36 ahB:=aer Gy fun ur t1 t2 ak me ta st re ba fs bo h=>by
 show (mJ ur t1 t2 ak me ta st re ba fs bo).val=some (.bool (lz (ur,t1,t2,ak,me,ta,st,re,ba,fs,bo)),[])
 unfold mJ lz
 refine (bX h).trans ?_
 simp only
 cases kA ur <;> cases fb t1 <;> cases fb t2 <;> cases decide (t1≤t2) <;> cases bd ak <;> cases eF me ta st re ba fs bo <;> cases decide (me=[]) <;> rfl
def ZE: Opt:={ live:=[(4,[0,1,12,13])],outs:=[(4,[4])] }
def zj (bI bK: (List aa)) (cz fa: Int) (kR4: (List aa)→(List aa)→Int→Int→OR') (fU jI: OR'): OR':=
 (bif (decide (fa < cz)) then (bif (decide (0≤fa)) then (bif (decide (fa < (bI.length: Int))) then (bif (decide (0≤fa)) then (bif (decide (fa < (bK.length: Int))) then (bif (!(decide ((List.getD bI (Int.toNat fa) ([]: aa))=(List.getD bK (Int.toNat fa) ([]: aa))))) then fU else (kR4 bI bK cz (ai (fa + 1)))) else none) else none) else none) else none) else jI)
def oV: Nat→(List aa)→(List aa)→Int→Int→(OR')→(OR')→OR'
 | 0,_,_,_,_,_,_=>none
 | n + 1,bI,bK,cz,fa,fU,jI=>zj bI bK cz fa (fun bI bK cz fa=>oV n bI bK cz fa fU jI) fU jI
abbrev eqSl_p4: SP:=⟨26,[0,1,12,13],[(.v (.sh Ty.str)),(.v (.sh Ty.str)),(.v (.i .i64)),(.v (.i .i64))],[]⟩
noncomputable def RS: Code:=aD (aG Tryz.f93) [1,1,0,1,0,0]
def RT (f: (OR')→(OR')→OR') (k: KT): OR':=f (k Ex.ret ((St.mk (aH 0 26 [(4,(AV.bool false))]) ([]: (List (Nat×(Ob))))))) (k (Ex.exit 0) ((St.mk (aH 0 26 []) ([]: (List (Nat×(Ob)))))))
def RU (n: Nat) (d: eqSl_p4.D): KT→OR':=RT (oV n d.1.1 d.1.2.1 d.1.2.2.1 d.1.2.2.2.1)
def ZF (N: Nat): Lam:=bw [⟨4,eqSl_p4,RU N⟩]
theorem Xu (N: Nat): OkL Kx noS ZE 0 N (ZF N) RS:=okL eqSl_p4 (RU) (fun d kR=>RT (zj d.1.1 d.1.2.1 d.1.2.2.1 d.1.2.2.2.1 (fun bI bK cz fa=>kR ((bI,bK,cz,fa,()),())))) (fun _ _=>by kernel_rfl) (fun _ _ _=>by kernel_rfl) (fun _ _=>by kernel_rfl) (fun _ _ _ _=>by kernel_rfl) (am (l':=[]) (by kernel_rfl) trivial)
def Kg (N: Nat) (a b: List aa): OR':=(bif (!(decide ((a.length: Int)=(b.length: Int)))) then (some ((AV.bool false),[])) else (oV N a b (a.length: Int) 0 (some ((AV.bool false),[])) (some ((AV.bool true),[]))))
def Kh (φ: (List aa)→(List aa)→Br): List AV→List Ob→Br
 | [.sh .str a, .sh .str b],[]=>φ a b
 | _,_=> .fail
theorem RV {φ: (List aa)→(List aa)→Br} (fu: (List aa)→(List aa)→Nat) (hv: ∀ a b res_,(φ a b).val=some res_→Kg (fu a b) a b=some res_): Sound Kx 93 (Kh φ):=ar (C:=[]) (O:=ZE) Tryz.func93 (by kernel_rfl) fun args objs=>by
 unfold Kh;split
 · rename_i a b;exact .inr fun _ hyp_=>aS (Λ:=ZF (fu a b)) (by kernel_rfl) (am (l':=[RS]) (by kernel_rfl) ⟨Xu _,trivial⟩) (by kernel_rfl) (hv a b _ hyp_)
 · exact .inl rfl
def ahC: List AV→List Ob→Br
 | [.sh .str a, .sh .str b],[]=> .ite (decide (a.length≤1000000)) (.ret (.bool (decide (a=b))) []) .fail
 | _,_=> .fail
theorem RW (a b: List aa) (hl: a.length≤4611686018427387904) (k0 k1: OR'): ∀ (r r': List aa) (i: Int) (n: Nat),At a i r→At b i r'→r.length=r'.length→r.length < n→
 oV n a b (a.length: Int) i k0 k1=bif decide (r=r') then k1 else k0:=by
 intro r;induction r with
 | nil=>
   intro r' i n h h' he hn;obtain ⟨n,rfl⟩:=bF hn
   obtain rfl: r'=[]:=List.length_eq_zero_iff.1 he.symm
   unfold oV zj;simp only [h.dge,cond_false,decide_true,cond_true]
 | cons x r ih=>
   intro r' i n h h' he hn;obtain ⟨n,rfl⟩:=bF hn
   cases r' with
   | nil=>cases he
   | cons y r'=>
     have hs:=ih r' (i + 1) n h.step h'.step (by simpa using he) (by simp at hn;omega)
     unfold oV zj;simp only [h.dlt,h'.dlt,h.dnn,h.get,h'.get,cond_true,h.next hl,hs]
     by_cases c1: x=y <;> by_cases c2: r=r' <;> simp [c1,c2]
theorem Xv: Sound Kx 93 ahC:=by
 refine (RV (φ:=fun a b=> .ite (decide (a.length≤1000000)) (.ret (.bool (decide (a=b))) []) .fail) (fun a _=>a.length + 1) fun a b r h=>?_).of fun args objs r h=>?_
 · obtain ⟨h1,h2⟩:=al h
   cases h2
   rw [decide_eq_true_eq] at h1
   unfold Kg
   by_cases c: a.length=b.length
   · rw [dT' (show (a.length: Int)=(b.length: Int) by omega)]
     refine (RW a b (by omega) _ _ a b 0 _ (At.start a) (At.start b) c (by omega)).trans ?_
     cases decide (a=b) <;> rfl
   · rw [dF' (show ¬ (a.length: Int)=(b.length: Int) by omega),dF' (show ¬ a=b from fun e=>c (by rw [e]))]
     rfl
 · unfold ahC at h;split at h
   · exact h
   · cases h
theorem RX (s: aa): ∀ (l: List aa) (x: aa),x ∈ w5 l s→x=s∨x ∈ l
 | [],x,h=>by simp [w5] at h;exact .inl h
 | a::l,x,h=>by
   unfold w5 at h
   cases c: bytesLess s a
   · rw [c,cond_false] at h
     rcases List.mem_cons.1 h with rfl | h
     · exact .inr (List.mem_cons_self ..)
     · rcases RX s l x h with h | h
       · exact .inl h
       · exact .inr (List.mem_cons_of_mem _ h)
   · rw [c,cond_true] at h
     rcases List.mem_cons.1 h with h | h
     · exact .inl h
     · exact .inr h
theorem abX (l: List aa) (s x: aa) (h: x ∈ q_ l s): x=s∨x ∈ l:=by
 unfold q_ at h
 cases c: inP l s
 · rw [c,cond_false] at h;exact RX s l x h
 · rw [c,cond_true] at h;exact .inr h
theorem Ki: ∀ (ws out: List aa),(∀ x ∈ out,x.length≤4000)→(∀ x ∈ ws,x.length≤4000)→∀ x ∈ ws.foldl (fun o w=>q_ o (ay w)) out,x.length≤4000
 | [],out,h,_=>h
 | w::ws,out,h,hw=>by
   rw [List.foldl_cons]
   refine Ki ws _ (fun x hx=>?_) fun x hx=>hw x (List.mem_cons_of_mem _ hx)
   rcases abX _ _ _ hx with rfl | hx
   · rw [tg];exact hw w (List.mem_cons_self ..)
   · exact h x hx
theorem Xw (l: List Fd): ∀ x ∈ oN l,x.length≤4000:=Ki _ [] (fun x h=>by cases h) fun x hx=>(F7 _).2 x hx
def DW: Opt:={ live:=[(4,[1,2,18,19,20])],outs:=[(4,[4])] }
def iChosen_C: SC:=[⟨49,_,fN⟩,⟨84,_,cK⟩,⟨92,_,QR⟩,⟨87,_,kY⟩,⟨93,_,Xv⟩]
def ld (bI: (List Fd)) (bK cz: Int) (fa: aa) (mY EI: Int) (Ad: (List Fd)) (AQ EJ: aa) (AR: Int) (Hc: aa) (Hd: Bool) (He: (List Fd)) (Hf: aa) (n5: (List aa)) (kR4: (List Fd)→Int→Int→aa→Int→Int→(List Fd)→aa→aa→Int→aa→Bool→(List Fd)→aa→(List aa)→OR') (fU jI: OR'): OR':=
 (bif (decide (cz < bK)) then (bif (decide (0≤cz)) then (bif (decide (cz < (n5.length: Int))) then (bif (decide ((List.getD n5 (Int.toNat cz) ([]: aa))=([42]: aa))) then fU else (bif (isM (List.getD n5 (Int.toNat cz) ([]: aa))) then (bif (isM (List.getD n5 (Int.toNat cz) ([]: aa))) then (bif (decide ((List.length (bJ Ad (List.getD n5 (Int.toNat cz) ([]: aa))))≤1000000)) then (bif (!(decide ((bJ Ad (List.getD n5 (Int.toNat cz) ([]: aa)))=(bJ bI (List.getD n5 (Int.toNat cz) ([]: aa)))))) then fU else (kR4 bI bK (ai (cz + 1)) fa mY EI Ad AQ EJ AR Hc Hd He Hf n5)) else none) else none) else none)) else none) else none) else jI)
def gp: Nat→(List Fd)→Int→Int→aa→Int→Int→(List Fd)→aa→aa→Int→aa→Bool→(List Fd)→aa→(List aa)→(OR')→(OR')→OR'
 | 0,_,_,_,_,_,_,_,_,_,_,_,_,_,_,_,_,_=>none
 | n + 1,bI,bK,cz,fa,mY,EI,Ad,AQ,EJ,AR,Hc,Hd,He,Hf,n5,fU,jI=>ld bI bK cz fa mY EI Ad AQ EJ AR Hc Hd He Hf n5 (fun bI bK cz fa mY EI Ad AQ EJ AR Hc Hd He Hf n5=>gp n bI bK cz fa mY EI Ad AQ EJ AR Hc Hd He Hf n5 fU jI) fU jI
abbrev iChosen_p4: SP:=⟨38,[1,2,18,19,20],[(.v (.sh (Ty.pair Ty.str Ty.str))),(.v (.ptr 192 0)),(.v (.ref 1216 0)),(.v (.i .i64)),(.v (.i .i64))],[(192, .var [.s,(.i .i64),(.i .i64),(.sh (Ty.pair Ty.str Ty.str)), .s, .s,(.i .i64), .s, .b,(.sh (Ty.pair Ty.str Ty.str)), .s]),(1216, .arr Ty.str 0 false)]⟩
noncomputable def xJ: Code:=aD (aG Tryz.f35) [1,1,0,1,0,0]
def xK (f: (OR')→(OR')→OR') (k: KT): OR':=f (k Ex.ret ((St.mk (aH 0 38 [(4,(AV.bool false))]) ([]: (List (Nat×(Ob))))))) (k (Ex.exit 0) ((St.mk (aH 0 38 []) ([]: (List (Nat×(Ob)))))))
def xL (n: Nat) (d: iChosen_p4.D): KT→OR':=xK (gp n d.1.1 d.1.2.2.2.1 d.1.2.2.2.2.1 d.2.1.1 d.2.1.2.1 d.2.1.2.2.1 d.2.1.2.2.2.1 d.2.1.2.2.2.2.1 d.2.1.2.2.2.2.2.1 d.2.1.2.2.2.2.2.2.1 d.2.1.2.2.2.2.2.2.2.1 d.2.1.2.2.2.2.2.2.2.2.1 d.2.1.2.2.2.2.2.2.2.2.2.1 d.2.1.2.2.2.2.2.2.2.2.2.2.1 d.2.2.1)
def DX (N: Nat): Lam:=bw [⟨4,iChosen_p4,xL N⟩]
theorem Gz (N: Nat): OkL Kx iChosen_C.s DW 0 N (DX N) xJ:=okL iChosen_p4 (xL) (fun d kR=>xK (ld d.1.1 d.1.2.2.2.1 d.1.2.2.2.2.1 d.2.1.1 d.2.1.2.1 d.2.1.2.2.1 d.2.1.2.2.2.1 d.2.1.2.2.2.2.1 d.2.1.2.2.2.2.2.1 d.2.1.2.2.2.2.2.2.1 d.2.1.2.2.2.2.2.2.2.1 d.2.1.2.2.2.2.2.2.2.2.1 d.2.1.2.2.2.2.2.2.2.2.2.1 d.2.1.2.2.2.2.2.2.2.2.2.2.1 d.2.2.1 (fun bI bK cz fa mY EI Ad AQ EJ AR Hc Hd He Hf n5=>kR ((bI,(),(),bK,cz,()),((fa,mY,EI,Ad,AQ,EJ,AR,Hc,Hd,He,Hf,()),n5,()))))) (fun _ _=>by kernel_rfl) (fun _ _ _=>by kernel_rfl) (fun _ _=>by kernel_rfl) (fun _ _ _ _=>by kernel_rfl) (am (l':=[]) (by kernel_rfl) trivial)
def uG (N: Nat) (ur: aa) (t1 t2: Int) (ak: List Fd) (me ta: aa) (st: Int) (re: aa) (ba: Bool) (fs: List Fd) (bo: aa) (l: List Fd): OR':=(bif (isM ur) then (bif (!(lz (ur,(t1,(t2,(ak,(me,(ta,(st,(re,(ba,(fs,bo)))))))))))) then (some ((AV.bool false),[])) else (bif (!(bd l)) then (some ((AV.bool false),[])) else (gp N l ((List.length (oN fs)): Int) 0 ur t1 t2 ak me ta st re ba fs bo (oN fs) (some ((AV.bool false),[])) (some ((AV.bool true),[]))))) else none)
def uH (φ: aa→Int→Int→(List Fd)→aa→aa→Int→aa→Bool→(List Fd)→aa→(List Fd)→Br): List AV→List Ob→Br
 | [.agg [.str ur, .int .i64 t1, .int .i64 t2, .sh (.pair .str .str) ak, .str me, .str ta, .int .i64 st, .str re, .bool ba, .sh (.pair .str .str) fs, .str bo], .sh (.pair .str .str) l],[]=>φ ur t1 t2 ak me ta st re ba fs bo l
 | _,_=> .fail
theorem DY {φ: aa→Int→Int→(List Fd)→aa→aa→Int→aa→Bool→(List Fd)→aa→(List Fd)→Br} (fu: aa→Int→Int→(List Fd)→aa→aa→Int→aa→Bool→(List Fd)→aa→(List Fd)→Nat) (hv: ∀ ur t1 t2 ak me ta st re ba fs bo l res_,(φ ur t1 t2 ak me ta st re ba fs bo l).val=some res_→uG (fu ur t1 t2 ak me ta st re ba fs bo l) ur t1 t2 ak me ta st re ba fs bo l=some res_): Sound Kx 35 (uH φ):=ar (C:=iChosen_C) (O:=DW) Tryz.func35 (by kernel_rfl) fun args objs=>by
 unfold uH;split
 · rename_i ur t1 t2 ak me ta st re ba fs bo l;exact .inr fun _ hyp_=>aS (Λ:=DX (fu ur t1 t2 ak me ta st re ba fs bo l)) (by kernel_rfl) (am (l':=[xJ]) (by kernel_rfl) ⟨Gz _,trivial⟩) (by kernel_rfl) (hv ur t1 t2 ak me ta st re ba fs bo l _ hyp_)
 · exact .inl rfl
def Xx (ak l: List Fd) (n: aa): Bool:=bif decide (n=[42]) then false else decide (bJ ak n=bJ l n)
def mK (e: En) (l: List Fd): Bool:=lz e&&bd l&&(oN e.2.2.2.2.2.2.2.2.2.1).all (Xx e.2.2.2.1 l)
theorem RY (ak: List Fd) (n: aa): decide ((bJ ak n).length≤1000000)=true:=dT' (by have:=(jy ak n).1;omega)
theorem DZ (ws: List aa) (hl: ws.length≤100000) (ur: aa) (t1 t2: Int) (ak: List Fd) (me ta: aa) (st: Int) (re: aa) (ba: Bool) (fs: List Fd) (bo: aa) (l: List Fd) (k0 k1: OR'):
 ∀ (r: List aa) (i: Int) (n: Nat),At ws i r→r.length < n→(∀ x ∈ r,x.length≤4000)→
 gp n l (ws.length: Int) i ur t1 t2 ak me ta st re ba fs bo ws k0 k1=bif r.all (Xx ak l) then k1 else k0:=by
 intro r;induction r with
 | nil=>intro i n h hn hm;obtain ⟨n,rfl⟩:=bF hn;unfold gp ld;simp only [h.dge,cond_false,List.all_nil,cond_true]
 | cons e r ih=>
   intro i n h hn hm;obtain ⟨n,rfl⟩:=bF hn
   simp only [List.length_cons] at hn
   have hM: isM e=true:=bW (n:=4000) (hm e (List.mem_cons_self ..))
   have hr:=ih (i + 1) n h.step (by omega) (fun x hx=>hm x (List.mem_cons_of_mem _ hx))
   unfold gp ld
   simp only [h.dlt,h.dnn,h.get,cond_true,h.next (show ws.length≤4611686018427387904 by omega),hM,hr,List.all_cons,RY]
   unfold Xx
   cases decide (e=[42]) <;> cases decide (bJ ak e=bJ l e) <;> rfl
def ahD: List AV→List Ob→Br
 | [.agg [.str ur, .int .i64 t1, .int .i64 t2, .sh (.pair .str .str) ak, .str me, .str ta, .int .i64 st, .str re, .bool ba, .sh (.pair .str .str) fs, .str bo], .sh (.pair .str .str) l],[]=> .ite (isM ur) (.ret (.bool (mK (ur,t1,t2,ak,me,ta,st,re,ba,fs,bo) l)) []) .fail
 | _,_=> .fail
theorem GA: Sound Kx 35 ahD:=by
 refine (DY (φ:=fun ur t1 t2 ak me ta st re ba fs bo l=> .ite (isM ur) (.ret (.bool (mK (ur,t1,t2,ak,me,ta,st,re,ba,fs,bo) l)) []) .fail) (fun _ _ _ _ _ _ _ _ _ fs _ _=>(oN fs).length + 1)
  fun ur t1 t2 ak me ta st re ba fs bo l r h=>?_).of fun args objs r h=>?_
 · obtain ⟨h1,h2⟩:=al h
   cases h2
   unfold uG mK
   rw [h1,cond_true,DZ (oN fs) (by have:=WS fs;omega) ur t1 t2 ak me ta st re ba fs bo l _ _ (oN fs) 0 ((oN fs).length + 1) (At.start _) (by omega) (Xw fs)]
   cases lz (ur,t1,t2,ak,me,ta,st,re,ba,fs,bo) <;> cases bd l <;> cases (oN fs).all (Xx ak l) <;> rfl
 · unfold ahD at h;split at h
   · exact h
   · cases h
end
end Go.Proofs.YtgknmoadpgpdeaaGreatDoor.Ev
namespace Go.Proofs.YtgknmoadpgpdeaaGreatDoor.Ev
open Go Go.RowKit
set_option linter.unusedVariables false
set_option linter.unusedSimpArgs false
end Go.Proofs.YtgknmoadpgpdeaaGreatDoor.Ev
namespace Go.Proofs.YtgknmoadpgpdeaaGreatDoor.Ev
open Go Go.RowKit
set_option linter.unusedVariables false
set_option linter.unusedSimpArgs false
noncomputable section
end
end Go.Proofs.YtgknmoadpgpdeaaGreatDoor.Ev
namespace Go.Proofs.YtgknmoadpgpdeaaGreatDoor.Ev
open Go Go.RowKit
set_option linter.unusedVariables false
set_option linter.unusedSimpArgs false
end Go.Proofs.YtgknmoadpgpdeaaGreatDoor.Ev
namespace Go.Proofs.YtgknmoadpgpdeaaGreatDoor.Ev
open Go Go.RowKit
set_option linter.unusedVariables false
set_option linter.unusedSimpArgs false
noncomputable section
end
end Go.Proofs.YtgknmoadpgpdeaaGreatDoor.Ev
