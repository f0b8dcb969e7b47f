/- The texts Ud, Ue, Uf, Ug, Uh, Ui, Uj, Uk, Ul, Um, Un, Uo, Va, Vb, Vc, Vd, Ve, Vf, Vg, Vh, Xa, Xb, Xc, Xd, Vi, Vj, Vk, Vl, Vm, Vn, Wa, Wb, Vo, Xe, Xf, Xg, Xh, Xi, Xj, Th, one behind the other. -/
import Derived.Test.YtgknmoadpgpdeaaGreatDoorK24
import Derived.Test.YtgknmoadpgpdeaaGreatDoorK27
import Derived.Test.YtgknmoadpgpdeaaGreatDoorK28
import Derived.Test.YtgknmoadpgpdeaaGreatDoorK13
import Derived.Test.YtgknmoadpgpdeaaGreatDoorK19
import Derived.Test.YtgknmoadpgpdeaaGreatDoorK21
import Derived.Test.YtgknmoadpgpdeaaGreatDoorK23
namespace Go.Proofs.YtgknmoadpgpdeaaGreatDoor.Ev
open Go Go.RowKit
set_option linter.unusedVariables false
set_option linter.unusedSimpArgs false
noncomputable section
def Ti: Opt:={ live:=[(3,[0,3,4])],outs:=[(3,[2,3])] }
def iunes_C: SC:=[⟨336,_,OP⟩,⟨335,_,S7⟩]
def sx (aI: aa) (aA: Int) (bp: (List Int)) (kR3: aa→Int→(List Int)→OR') (ei: (List Int)→OR'): OR':=
 (bif (decide (aA < (aI.length: Int))) then (bif (decide (0≤aA)) then (bif (decide (aA < (aI.length: Int))) then (bif (!(decide ((aq aI aA)=37))) then (bif (decide (0≤aA)) then (bif (decide (aA < (aI.length: Int))) then (bif (decide (((bp.length + (List.length (List.set (List.replicate 1 (0 : Int)) 0 (aq aI aA)))) * 1)≤140737488355328)) then (kR3 aI (ad (aA + 1)) (bp++(List.set (List.replicate 1 (0 : Int)) 0 (aq aI aA)))) else none) else none) else none) else (bif (decide ((aI.length: Int)≤(ad (aA + 2)))) then (bif (decide (0≤aA)) then (bif (decide (aA < (aI.length: Int))) then (bif (decide (((bp.length + (List.length (List.set (List.replicate 1 (0 : Int)) 0 (aq aI aA)))) * 1)≤140737488355328)) then (kR3 aI (ad (aA + 1)) (bp++(List.set (List.replicate 1 (0 : Int)) 0 (aq aI aA)))) else none) else none) else none) else (bif (decide (0≤(ad (aA + 1)))) then (bif (decide ((ad (aA + 1)) < (aI.length: Int))) then (bif (decide ((ee (aq aI (ad (aA + 1)))) < 0)) then (bif (decide (0≤aA)) then (bif (decide (aA < (aI.length: Int))) then (bif (decide (((bp.length + (List.length (List.set (List.replicate 1 (0 : Int)) 0 (aq aI aA)))) * 1)≤140737488355328)) then (kR3 aI (ad (aA + 1)) (bp++(List.set (List.replicate 1 (0 : Int)) 0 (aq aI aA)))) else none) else none) else none) else (bif (decide (0≤(ad (aA + 2)))) then (bif (decide ((ad (aA + 2)) < (aI.length: Int))) then (bif (decide ((ee (aq aI (ad (aA + 2)))) < 0)) then (bif (decide (0≤aA)) then (bif (decide (aA < (aI.length: Int))) then (bif (decide (((bp.length + (List.length (List.set (List.replicate 1 (0 : Int)) 0 (aq aI aA)))) * 1)≤140737488355328)) then (kR3 aI (ad (aA + 1)) (bp++(List.set (List.replicate 1 (0 : Int)) 0 (aq aI aA)))) else none) else none) else none) else (bif (decide (0≤(ad (aA + 1)))) then (bif (decide ((ad (aA + 1)) < (aI.length: Int))) then (bif (decide (0≤(ad (aA + 2)))) then (bif (decide ((ad (aA + 2)) < (aI.length: Int))) then (bif (rN (wk8 (ad ((ad (16 * (ee (aq aI (ad (aA + 1)))))) + (ee (aq aI (ad (aA + 2)))))))) then (bif (decide (((bp.length + (List.length (List.set (List.replicate 1 (0 : Int)) 0 (wk8 (ad ((ad (16 * (ee (aq aI (ad (aA + 1)))))) + (ee (aq aI (ad (aA + 2)))))))))) * 1)≤140737488355328)) then (kR3 aI (ad ((ad (aA + 2)) + 1)) (bp++(List.set (List.replicate 1 (0 : Int)) 0 (wk8 (ad ((ad (16 * (ee (aq aI (ad (aA + 1)))))) + (ee (aq aI (ad (aA + 2)))))))))) else none) else (bif (decide (0≤(Int.fdiv (wk8 (ad ((ad (16 * (ee (aq aI (ad (aA + 1)))))) + (ee (aq aI (ad (aA + 2))))))) 16))) then (bif (decide ((Int.fdiv (wk8 (ad ((ad (16 * (ee (aq aI (ad (aA + 1)))))) + (ee (aq aI (ad (aA + 2))))))) 16) < 16)) then (bif (decide (0≤(wkk .u8 (((BitVec.toNat ((BitVec.ofInt 8 (wk8 (ad ((ad (16 * (ee (aq aI (ad (aA + 1)))))) + (ee (aq aI (ad (aA + 2))))))))&&& (BitVec.ofInt 8 15))): Nat): Int)))) then (bif (decide ((wkk .u8 (((BitVec.toNat ((BitVec.ofInt 8 (wk8 (ad ((ad (16 * (ee (aq aI (ad (aA + 1)))))) + (ee (aq aI (ad (aA + 2))))))))&&& (BitVec.ofInt 8 15))): Nat): Int)) < 16)) then (bif (decide (((bp.length + (List.length (List.set (List.set (List.set (List.replicate 3 (0 : Int)) 0 37) 1 (aq ([48,49,50,51,52,53,54,55,56,57,65,66,67,68,69,70]: aa) (Int.fdiv (wk8 (ad ((ad (16 * (ee (aq aI (ad (aA + 1)))))) + (ee (aq aI (ad (aA + 2))))))) 16))) 2 (aq ([48,49,50,51,52,53,54,55,56,57,65,66,67,68,69,70]: aa) (wkk .u8 (((BitVec.toNat ((BitVec.ofInt 8 (wk8 (ad ((ad (16 * (ee (aq aI (ad (aA + 1)))))) + (ee (aq aI (ad (aA + 2))))))))&&& (BitVec.ofInt 8 15))): Nat): Int)))))) * 1)≤140737488355328)) then (kR3 aI (ad ((ad (aA + 2)) + 1)) (bp++(List.set (List.set (List.set (List.replicate 3 (0 : Int)) 0 37) 1 (aq ([48,49,50,51,52,53,54,55,56,57,65,66,67,68,69,70]: aa) (Int.fdiv (wk8 (ad ((ad (16 * (ee (aq aI (ad (aA + 1)))))) + (ee (aq aI (ad (aA + 2))))))) 16))) 2 (aq ([48,49,50,51,52,53,54,55,56,57,65,66,67,68,69,70]: aa) (wkk .u8 (((BitVec.toNat ((BitVec.ofInt 8 (wk8 (ad ((ad (16 * (ee (aq aI (ad (aA + 1)))))) + (ee (aq aI (ad (aA + 2))))))))&&& (BitVec.ofInt 8 15))): Nat): Int)))))) else none) else none) else none) else none) else none)) else none) else none) else none) else none)) else none) else none)) else none) else none))) else none) else none) else (ei bp))
def kL: Nat→aa→Int→(List Int)→((List Int)→OR')→OR'
 | 0,_,_,_,_=>none
 | n + 1,aI,aA,bp,ei=>sx aI aA bp (fun aI aA bp=>kL n aI aA bp ei) ei
abbrev iunes_p3: SP:=⟨77,[0,3,4],[(.v .s),(.v (.ref 256 0)),(.v (.i .i64))],[(256, .arr (Ty.int .u8) 0 false)]⟩
noncomputable def L_: Code:=aC (aG Tryz.f319) [1,1,0,1,0,0]
def Ma (f: ((List Int)→OR')→OR') (k: KT): OR':=f (fun ab=>k (Ex.exit 0) ((St.mk (aF 0 77 [(3,(AV.ref 256 0))]) ((256,(Ob.arr (Ty.int .u8) 0 false ab))::([]: (List (Nat×(Ob))))))))
def Mb (n: Nat) (d: iunes_p3.D): KT→OR':=Ma (kL n d.1.1 d.1.2.2.1 d.2.1)
def Tj (N: Nat): Lam:=bH [⟨3,iunes_p3,Mb N⟩]
theorem Tk (N: Nat): OkL Kx iunes_C.s Ti 0 N (Tj N) L_:=okL iunes_p3 (Mb) (fun d kR=>Ma (sx d.1.1 d.1.2.2.1 d.2.1 (fun aI aA bp=>kR ((aI,(),aA,()),(bp,()))))) (fun _ _=>by kernel_rfl) (fun _ _ _=>by kernel_rfl) (fun _ _=>by kernel_rfl) (fun _ _ _ _=>by kernel_rfl) (al (l':=[]) (by kernel_rfl) trivial)
def EX (N: Nat) (s: aa): OR':=(kL N s 0 ([]: (List Int)) (fun ab=>(some ((AV.str (bG ab)),[]))))
def EY (φ: aa→Br): List AV→List Ob→Br
 | [.str s],[]=>φ s
 | _,_=> .fail
theorem OR {φ: aa→Br} (fu: aa→Nat) (hv: ∀ s res_,(φ s).val=some res_→EX (fu s) s=some res_): Sound Kx 319 (EY φ):=ap (C:=iunes_C) (O:=Ti) Tryz.func319 (by kernel_rfl) fun args objs=>by
 unfold EY;split
 · rename_i s;exact .inr fun _ hyp_=>aO (Λ:=Tj (fu s)) (by kernel_rfl) (al (l':=[L_]) (by kernel_rfl) ⟨Tk _,trivial⟩) (by kernel_rfl) (hv s _ hyp_)
 · exact .inl rfl
def Tl: Opt:={ live:=[(3,[0,3,4])],outs:=[(3,[2,3])] }
def sunes_C: SC:=[⟨323,_,ER⟩,⟨324,_,S8⟩,⟨325,_,OQ⟩]
def sy (aI: aa) (aA: Int) (bp: (List Int)) (kR3: aa→Int→(List Int)→OR') (ei: (List Int)→OR'): OR':=
 (bif (decide (aA < (aI.length: Int))) then (bif (decide (0≤aA)) then (bif (decide (aA < (aI.length: Int))) then (bif (!(decide ((aq aI aA)=37))) then (bif (decide (0≤aA)) then (bif (decide (aA < (aI.length: Int))) then (bif (decide (((bp.length + (List.length (List.set (List.replicate 1 (0 : Int)) 0 (aq aI aA)))) * 1)≤140737488355328)) then (kR3 aI (ad (aA + 1)) (bp++(List.set (List.replicate 1 (0 : Int)) 0 (aq aI aA)))) else none) else none) else none) else (bif (decide ((aI.length: Int)≤(ad (aA + 2)))) then (bif (decide (0≤aA)) then (bif (decide (aA < (aI.length: Int))) then (bif (decide (((bp.length + (List.length (List.set (List.replicate 1 (0 : Int)) 0 (aq aI aA)))) * 1)≤140737488355328)) then (kR3 aI (ad (aA + 1)) (bp++(List.set (List.replicate 1 (0 : Int)) 0 (aq aI aA)))) else none) else none) else none) else (bif (decide (0≤(ad (aA + 1)))) then (bif (decide ((ad (aA + 1))≤(ad (aA + 3)))) then (bif (decide ((ad (aA + 3))≤(aI.length: Int))) then (bif (!(iE (cut aI (ad (aA + 1)) (ad (aA + 3)))).2) then (bif (decide (0≤aA)) then (bif (decide (aA < (aI.length: Int))) then (bif (decide (((bp.length + (List.length (List.set (List.replicate 1 (0 : Int)) 0 (aq aI aA)))) * 1)≤140737488355328)) then (kR3 aI (ad (aA + 1)) (bp++(List.set (List.replicate 1 (0 : Int)) 0 (aq aI aA)))) else none) else none) else none) else (bif ((decide (0≤(wk8 (iE (cut aI (ad (aA + 1)) (ad (aA + 3)))).1)))&&(decide ((wk8 (iE (cut aI (ad (aA + 1)) (ad (aA + 3)))).1) < 256))) then (bif (rN (wk8 (iE (cut aI (ad (aA + 1)) (ad (aA + 3)))).1)) then (bif (decide (((bp.length + (List.length (List.set (List.replicate 1 (0 : Int)) 0 (wk8 (iE (cut aI (ad (aA + 1)) (ad (aA + 3)))).1)))) * 1)≤140737488355328)) then (kR3 aI (ad ((ad (aA + 2)) + 1)) (bp++(List.set (List.replicate 1 (0 : Int)) 0 (wk8 (iE (cut aI (ad (aA + 1)) (ad (aA + 3)))).1)))) else none) else (bif (decide (0≤(ad (aA + 1)))) then (bif (decide ((ad (aA + 1)) < (aI.length: Int))) then (bif (decide (0≤(ad (aA + 2)))) then (bif (decide ((ad (aA + 2)) < (aI.length: Int))) then (bif (decide (((bp.length + (List.length (List.set (List.set (List.set (List.replicate 3 (0 : Int)) 0 37) 1 (upI (aq aI (ad (aA + 1))))) 2 (upI (aq aI (ad (aA + 2))))))) * 1)≤140737488355328)) then (kR3 aI (ad ((ad (aA + 2)) + 1)) (bp++(List.set (List.set (List.set (List.replicate 3 (0 : Int)) 0 37) 1 (upI (aq aI (ad (aA + 1))))) 2 (upI (aq aI (ad (aA + 2))))))) else none) else none) else none) else none) else none)) else none)) else none) else none) else none))) else none) else none) else (ei bp))
def kM: Nat→aa→Int→(List Int)→((List Int)→OR')→OR'
 | 0,_,_,_,_=>none
 | n + 1,aI,aA,bp,ei=>sy aI aA bp (fun aI aA bp=>kM n aI aA bp ei) ei
abbrev sunes_p3: SP:=⟨75,[0,3,4],[(.v .s),(.v (.ref 256 0)),(.v (.i .i64))],[(256, .arr (Ty.int .u8) 0 false)]⟩
noncomputable def Mc: Code:=aC (aG Tryz.f302) [1,1,0,1,0,0]
def Md (f: ((List Int)→OR')→OR') (k: KT): OR':=f (fun ab=>k (Ex.exit 0) ((St.mk (aF 0 75 [(3,(AV.ref 256 0))]) ((256,(Ob.arr (Ty.int .u8) 0 false ab))::([]: (List (Nat×(Ob))))))))
def Me (n: Nat) (d: sunes_p3.D): KT→OR':=Md (kM n d.1.1 d.1.2.2.1 d.2.1)
def Tm (N: Nat): Lam:=bH [⟨3,sunes_p3,Me N⟩]
theorem Tn (N: Nat): OkL Kx sunes_C.s Tl 0 N (Tm N) Mc:=okL sunes_p3 (Me) (fun d kR=>Md (sy d.1.1 d.1.2.2.1 d.2.1 (fun aI aA bp=>kR ((aI,(),aA,()),(bp,()))))) (fun _ _=>by kernel_rfl) (fun _ _ _=>by kernel_rfl) (fun _ _=>by kernel_rfl) (fun _ _ _ _=>by kernel_rfl) (al (l':=[]) (by kernel_rfl) trivial)
def EZ (N: Nat) (s: aa): OR':=(kM N s 0 ([]: (List Int)) (fun ab=>(some ((AV.str (bG ab)),[]))))
def E0 (φ: aa→Br): List AV→List Ob→Br
 | [.str s],[]=>φ s
 | _,_=> .fail
theorem OS {φ: aa→Br} (fu: aa→Nat) (hv: ∀ s res_,(φ s).val=some res_→EZ (fu s) s=some res_): Sound Kx 302 (E0 φ):=ap (C:=sunes_C) (O:=Tl) Tryz.func302 (by kernel_rfl) fun args objs=>by
 unfold E0;split
 · rename_i s;exact .inr fun _ hyp_=>aO (Λ:=Tm (fu s)) (by kernel_rfl) (al (l':=[Mc]) (by kernel_rfl) ⟨Tn _,trivial⟩) (by kernel_rfl) (hv s _ hyp_)
 · exact .inl rfl
def E1: Opt:={ live:=[(2,[0,1,5])],outs:=[(2,[4])] }
def allHost_C: SC:=[⟨337,_,S6⟩]
def kN (aD: aa) (aH: Int) (kR2: aa→Int→OR') (ca cI: OR'): OR':=
 (bif (decide (aH < (aD.length: Int))) then (bif (decide (0≤aH)) then (bif (decide (aH < (aD.length: Int))) then (bif (!(hoB (aq aD aH))) then ca else (kR2 aD (ad (aH + 1)))) else none) else none) else cI)
def f8: Nat→aa→Int→(OR')→(OR')→OR'
 | 0,_,_,_,_=>none
 | n + 1,aD,aH,ca,cI=>kN aD aH (fun aD aH=>f8 n aD aH ca cI) ca cI
abbrev allHost_p2: SP:=⟨18,[0,1,5],[(.v .s),(.v (.fn 337 [])),(.v (.i .i64))],[]⟩
noncomputable def yr: Code:=aC (aG Tryz.f74) [1,0,1,0,0]
def yu (f: (OR')→(OR')→OR') (k: KT): OR':=f (k Ex.ret ((St.mk (aF 0 18 [(4,(AV.bool false))]) ([]: (List (Nat×(Ob))))))) (k (Ex.exit 0) ((St.mk (aF 0 18 []) ([]: (List (Nat×(Ob)))))))
def yw (n: Nat) (d: allHost_p2.D): KT→OR':=yu (f8 n d.1.1 d.1.2.2.1)
def E2 (N: Nat): Lam:=bH [⟨2,allHost_p2,yw N⟩]
theorem H1 (N: Nat): OkL Kx allHost_C.s E1 0 N (E2 N) yr:=okL allHost_p2 (yw) (fun d kR=>yu (kN d.1.1 d.1.2.2.1 (fun aD aH=>kR ((aD,(),aH,()),())))) (fun _ _=>by kernel_rfl) (fun _ _ _=>by kernel_rfl) (fun _ _=>by kernel_rfl) (fun _ _ _ _=>by kernel_rfl) (al (l':=[]) (by kernel_rfl) trivial)
def vd (N: Nat) (s: aa): OR':=(f8 N s 0 (some ((AV.bool false),[])) (some ((AV.bool true),[])))
def mh (φ: aa→Br): List AV→List Ob→Br
 | [.str s, .fn 337 []],[]=>φ s
 | _,_=> .fail
theorem E3 {φ: aa→Br} (fu: aa→Nat) (hv: ∀ s res_,(φ s).val=some res_→vd (fu s) s=some res_): Sound Kx 74 (mh φ):=ap (C:=allHost_C) (O:=E1) Tryz.func74 (by kernel_rfl) fun args objs=>by
 unfold mh;split
 · rename_i s;exact .inr fun _ hyp_=>aO (Λ:=E2 (fu s)) (by kernel_rfl) (al (l':=[yr]) (by kernel_rfl) ⟨H1 _,trivial⟩) (by kernel_rfl) (hv s _ hyp_)
 · exact .inl rfl
def H3: Opt:={ live:=[(10,[3,4,5]),(5,[3,4])],outs:=[(10,[2,3,4]),(5,[2])] }
def sHost_C: SC:=[⟨213,_,fW⟩,⟨301,_,yp⟩]
def n5 (fw iR: Int) (fV: (List aa)) (agh: Int→Int→(List aa)→OR') (VQ Zc: Int→(List aa)→OR'): OR':=
 (bif (decide (0≤fw)) then (bif (decide (fw < (fV.length: Int))) then (bif (decide (iR < ((List.length (List.getD fV (Int.toNat fw) ([]: aa))): Int))) then (bif (decide (0≤fw)) then (bif (decide (fw < (fV.length: Int))) then (bif (decide (0≤iR)) then (bif (decide (iR < ((List.length (List.getD fV (Int.toNat fw) ([]: aa))): Int))) then (bif (decide (97≤(aq (List.getD fV (Int.toNat fw) ([]: aa)) iR))) then (bif (!(decide ((aq (List.getD fV (Int.toNat fw) ([]: aa)) iR)≤122))) then (bif (!(aB (aq (List.getD fV (Int.toNat fw) ([]: aa)) iR))) then (bif (!(decide ((aq (List.getD fV (Int.toNat fw) ([]: aa)) iR)=45))) then (VQ fw fV) else (agh fw (ad (iR + 1)) fV)) else (agh fw (ad (iR + 1)) fV)) else (agh fw (ad (iR + 1)) fV)) else (bif (!(aB (aq (List.getD fV (Int.toNat fw) ([]: aa)) iR))) then (bif (!(decide ((aq (List.getD fV (Int.toNat fw) ([]: aa)) iR)=45))) then (VQ fw fV) else (agh fw (ad (iR + 1)) fV)) else (agh fw (ad (iR + 1)) fV))) else none) else none) else none) else none) else (Zc fw fV)) else none) else none)
def iF: Nat→Int→Int→(List aa)→(Int→(List aa)→OR')→(Int→(List aa)→OR')→OR'
 | 0,_,_,_,_,_=>none
 | n + 1,fw,iR,fV,VQ,Zc=>n5 fw iR fV (fun fw iR fV=>iF n fw iR fV VQ Zc) VQ Zc
abbrev sHost_p10: SP:=⟨59,[3,4,5],[(.v (.ref 256 0)),(.v (.i .i64)),(.v (.i .i64))],[(256, .arr Ty.str 0 false)]⟩
noncomputable def ve: Code:=aC (aG Tryz.f303) [1,1,1,0,1,0,0,1,0,0,1,1,0,0]
def E4 (f: (Int→(List aa)→OR')→(Int→(List aa)→OR')→OR') (k: KT): OR':=f (fun VR VS=>k Ex.ret ((St.mk (aF 0 59 [(2,(AV.bool false)),(3,(AV.ref 256 0)),(4,(AV.int .i64 VR))]) ((256,(Ob.arr Ty.str 0 false VS))::([]: (List (Nat×(Ob)))))))) (fun I6 I7=>k (Ex.exit 2) ((St.mk (aF 0 59 [(3,(AV.ref 256 0)),(4,(AV.int .i64 I6))]) ((256,(Ob.arr Ty.str 0 false I7))::([]: (List (Nat×(Ob))))))))
def E5 (n: Nat) (d: sHost_p10.D): KT→OR':=E4 (iF n d.1.2.1 d.1.2.2.1 d.2.1)
def sz (N: Nat) (aZ: Int) (bi: (List aa)) (kR5: Int→(List aa)→OR') (eg Bw: OR'): OR':=
 (bif (decide (aZ < (bi.length: Int))) then (bif (decide (0≤aZ)) then (bif (decide (aZ < (bi.length: Int))) then (bif (decide ((List.getD bi (Int.toNat aZ) ([]: aa))=([]: aa))) then eg else (iF N aZ 0 bi (fun VR VS=>eg) (fun I6 I7=>(kR5 (ad (I6 + 1)) I7)))) else none) else none) else Bw)
def kO (N: Nat): Nat→Int→(List aa)→(OR')→(OR')→OR'
 | 0,_,_,_,_=>none
 | n + 1,aZ,bi,eg,Bw=>sz N aZ bi (fun aZ bi=>kO N n aZ bi eg Bw) eg Bw
abbrev sHost_p5: SP:=⟨59,[3,4],[(.v (.ref 256 0)),(.v (.i .i64))],[(256, .arr Ty.str 0 false)]⟩
noncomputable def Mf: Code:=aC (aG Tryz.f303) [1,1,1,0,1,0,0]
def Mh (f: (OR')→(OR')→OR') (k: KT): OR':=f (k Ex.ret ((St.mk (aF 0 59 [(2,(AV.bool false))]) ([]: (List (Nat×(Ob))))))) (k (Ex.exit 0) ((St.mk (aF 0 59 []) ([]: (List (Nat×(Ob)))))))
def Mi (N n: Nat) (d: sHost_p5.D): KT→OR':=Mh (kO N n d.1.2.1 d.2.1)
def H4 (N: Nat): Lam:=bH [⟨10,sHost_p10,E5 N⟩,⟨5,sHost_p5,Mi N N⟩]
theorem yx (N: Nat): OkL Kx sHost_C.s H3 0 N (H4 N) ve:=okL sHost_p10 (E5) (fun d kR=>E4 (n5 d.1.2.1 d.1.2.2.1 d.2.1 (fun fw iR fV=>kR (((),fw,iR,()),(fV,()))))) (fun _ _=>by kernel_rfl) (fun _ _ _=>by kernel_rfl) (fun _ _=>by kernel_rfl) (fun _ _ _ _=>by kernel_rfl) (al (l':=[]) (by kernel_rfl) trivial)
theorem To (N: Nat): OkL Kx sHost_C.s H3 0 N (H4 N) Mf:=okL sHost_p5 (Mi N) (fun d kR=>Mh (sz N d.1.2.1 d.2.1 (fun aZ bi=>kR (((),aZ,()),(bi,()))))) (fun _ _=>by kernel_rfl) (fun _ _ _=>by kernel_rfl) (fun _ _=>by kernel_rfl) (fun _ _ _ _=>by kernel_rfl) (al (l':=[ve]) (by kernel_rfl) ⟨yx _,trivial⟩)
def E6 (N: Nat) (s: aa): OR':=(bif (decide ((s.length: Int)=0)) then (some ((AV.bool false),[])) else (bif (decide (60 < (s.length: Int))) then (some ((AV.bool false),[])) else (bif (decide (s.length≤1000000)) then (kO N N 0 (jD s 46) (some ((AV.bool false),[])) (some ((AV.bool true),[]))) else none)))
def E7 (φ: aa→Br): List AV→List Ob→Br
 | [.str s],[]=>φ s
 | _,_=> .fail
theorem OT {φ: aa→Br} (fu: aa→Nat) (hv: ∀ s res_,(φ s).val=some res_→E6 (fu s) s=some res_): Sound Kx 303 (E7 φ):=ap (C:=sHost_C) (O:=H3) Tryz.func303 (by kernel_rfl) fun args objs=>by
 unfold E7;split
 · rename_i s;exact .inr fun _ hyp_=>aO (Λ:=H4 (fu s)) (by kernel_rfl) (al (l':=[Mf,ve]) (by kernel_rfl) ⟨To _,yx _,trivial⟩) (by kernel_rfl) (hv s _ hyp_)
 · exact .inl rfl
def ab5: SC:=[⟨201,_,dx⟩,⟨232,_,GM⟩]
def AL (n: Int): Br:=(.ite (decide (0≤n)) (.ite (!(decide (n≤999999999999999))) (.ret (AV.str ([]: aa)) []) (.ite (bD n) (.ret (AV.str (bR n)) []) .fail)) (.ret (AV.str ([]: aa)) []))
def Tp: List AV→List Ob→Br
 | [.int .i64 n],[]=>AL n
 | _,_=> .fail
theorem iDecT_ok: Sound Kx 316 Tp:=ae (C:=ab5) (O:=O0) Tryz.func316 (by kernel_rfl) fun args objs=>by
 unfold Tp;split
 · exact .inr (by kernel_rfl)
 · exact .inl rfl
def yy: Opt:={ live:=[(5,[0,4,5])],outs:=[(5,[0,2,3,4])] }
def sReadDec_C: SC:=[⟨213,_,fW⟩,⟨191,_,px⟩]
def jn (aZ: aa) (bi a7: Int) (kR5: aa→Int→Int→OR') (eg Bw: aa→Int→OR'): OR':=
 (bif (decide (a7 < (aZ.length: Int))) then (bif (decide (0≤a7)) then (bif (decide (a7 < (aZ.length: Int))) then (bif (!(aB (aq aZ a7))) then (eg aZ bi) else (bif (decide (0≤a7)) then (bif (decide (a7 < (aZ.length: Int))) then (kR5 aZ (ad ((ad (bi * 10)) + (ad (wk8 ((aq aZ a7) - 48))))) (ad (a7 + 1))) else none) else none)) else none) else none) else (Bw aZ bi))
def eR: Nat→aa→Int→Int→(aa→Int→OR')→(aa→Int→OR')→OR'
 | 0,_,_,_,_,_=>none
 | n + 1,aZ,bi,a7,eg,Bw=>jn aZ bi a7 (fun aZ bi a7=>eR n aZ bi a7 eg Bw) eg Bw
abbrev sReadDec_p5: SP:=⟨38,[0,4,5],[(.v .s),(.v (.i .i64)),(.v (.i .i64))],[]⟩
noncomputable def vf: Code:=aC (aG Tryz.f274) [1,1,1,0,1,0,0]
def vg (f: (aa→Int→OR')→(aa→Int→OR')→OR') (k: KT): OR':=f (fun av bY=>k Ex.ret ((St.mk (aF 0 38 [(0,(AV.str av)),(2,(AV.int .i64 0)),(3,(AV.bool false)),(4,(AV.int .i64 bY))]) ([]: (List (Nat×(Ob))))))) (fun kf Gb=>k (Ex.exit 0) ((St.mk (aF 0 38 [(0,(AV.str kf)),(4,(AV.int .i64 Gb))]) ([]: (List (Nat×(Ob)))))))
def vh (n: Nat) (d: sReadDec_p5.D): KT→OR':=vg (eR n d.1.1 d.1.2.1 d.1.2.2.1)
def yz (N: Nat): Lam:=bH [⟨5,sReadDec_p5,vh N⟩]
theorem E8 (N: Nat): OkL Kx sReadDec_C.s yy 0 N (yz N) vf:=okL sReadDec_p5 (vh) (fun d kR=>vg (jn d.1.1 d.1.2.1 d.1.2.2.1 (fun aZ bi a7=>kR ((aZ,bi,a7,()),())))) (fun _ _=>by kernel_rfl) (fun _ _ _=>by kernel_rfl) (fun _ _=>by kernel_rfl) (fun _ _ _ _=>by kernel_rfl) (al (l':=[]) (by kernel_rfl) trivial)
def rq (N: Nat) (s: aa): OR':=(bif (decide ((s.length: Int)=0)) then (some ((AV.tup [.int .i64 0,.bool false]),[])) else (bif (decide (15 < (s.length: Int))) then (some ((AV.tup [.int .i64 0,.bool false]),[])) else (eR N s 0 0 (fun av bY=>(some ((AV.tup [.int .i64 0,.bool false]),[]))) (fun kf Gb=>(bif (bD Gb) then (bif (!(decide ((bR Gb)=kf))) then (some ((AV.tup [.int .i64 0,.bool false]),[])) else (some ((AV.tup [.int .i64 Gb,.bool true]),[]))) else none)))))
def rr (φ: aa→Br): List AV→List Ob→Br
 | [.str s],[]=>φ s
 | _,_=> .fail
theorem AM {φ: aa→Br} (fu: aa→Nat) (hv: ∀ s res_,(φ s).val=some res_→rq (fu s) s=some res_): Sound Kx 274 (rr φ):=ap (C:=sReadDec_C) (O:=yy) Tryz.func274 (by kernel_rfl) fun args objs=>by
 unfold rr;split
 · rename_i s;exact .inr fun _ hyp_=>aO (Λ:=yz (fu s)) (by kernel_rfl) (al (l':=[vf]) (by kernel_rfl) ⟨E8 _,trivial⟩) (by kernel_rfl) (hv s _ hyp_)
 · exact .inl rfl
theorem ab6: ∀ k: Fin 256,0≤ee (k.val: Int)→aq S5 (ee (k.val: Int))=upI (k.val: Int):=by decide +kernel
theorem aad (a: UInt8) (h: 0≤ee (by8 a)): aq S5 (ee (by8 a))=upI (by8 a):=ab6 ⟨a.toNat,a.toNat_lt⟩ h
theorem aeN: ∀ k: Fin 256,0≤upI (k.val: Int)∧upI (k.val: Int) < 256:=by decide +kernel
theorem aeO (a: UInt8): 0≤upI (by8 a)∧upI (by8 a) < 256:=aeN ⟨a.toNat,a.toNat_lt⟩
theorem ab7: ∀ x y: Fin 16,IntKind.u8.wrap ((BitVec.ofInt 8 (16 * (x.val: Int) + (y.val: Int))&&& BitVec.ofInt 8 15).toNat: Int)=(y.val: Int):=by decide +kernel
theorem ab8 (x y: Int) (hx: 0≤x) (hx': x < 16) (hy: 0≤y) (hy': y < 16): wkk .u8 ((BitVec.ofInt 8 (16 * x + y)&&& BitVec.ofInt 8 15).toNat: Int)=y:=by
 have h:=ab7 ⟨x.toNat,by omega⟩ ⟨y.toNat,by omega⟩
 simp only at h
 rw [show ((x.toNat: Nat): Int)=x by omega,show ((y.toNat: Nat): Int)=y by omega] at h
 rw [sS];exact h
theorem vi (n: Int) (h0: 0≤n) (h1: n < 256): by8 (UInt8.ofNat n.toNat)=n:=by
 unfold by8;rw [UInt8.toNat_ofNat'];omega
theorem rt (c: UInt8) (r: aa): bytesOf (c::r)=by8 c::bytesOf r:=rfl
theorem vj (a b: aa): bytesOf (a++b)=bytesOf a++bytesOf b:=by simp [bytesOf]
theorem sA (c a b: UInt8) (r: aa): eF (c::a::b::r)=bif vb c a b then yl a b++eF r else c::eF (a::b::r):=by rw [eF]
theorem ru (a b: UInt8) (h0: 0≤dK a b) (h1: dK a b < 256): bytesOf (yl a b)=bif rN (dK a b) then [dK a b] else [37,upI (by8 a),upI (by8 b)]:=by
 have ha:=aeO a
 have hb:=aeO b
 unfold yl
 cases rN (dK a b)
 · simp only [cond_false,rt,vi _ ha.1 ha.2,vi _ hb.1 hb.2];rfl
 · simp only [cond_true,rt,vi _ h0 h1];rfl
theorem mj {α: Type} {b: Bool} {x y: α} (h: b=true): (bif b then x else y)=x:=by rw [h];rfl
theorem ah0 (a b c: Int): List.set (List.set (List.set (List.replicate 3 (0 : Int)) 0 a) 1 b) 2 c=[a,b,c]:=rfl
theorem Tq: ((48 : UInt8)::((49 : UInt8)::((50 : UInt8)::((51 : UInt8)::((52 : UInt8)::((53 : UInt8)::((54 : UInt8)::((55 : UInt8)::((56 : UInt8)::((57 : UInt8)::((65 : UInt8)::((66 : UInt8)::((67 : UInt8)::((68 : UInt8)::((69 : UInt8)::((70 : UInt8)::([]: (List UInt8))))))))))))))))))=S5:=rfl
theorem OU (s: aa) (hl: s.length≤1000000) (k: List Int→OR'): ∀ (n: Nat) (r: aa) (i: Int) (out: List Int),At s i r→r.length < n→out.length + r.length≤s.length→
 kL n s i out k=k (out++bytesOf (eF r)):=by
 intro n;induction n with
 | zero=>intro r i out h hn;omega
 | succ n ih=>
   intro r i out h hn ho
   cases r with
   | nil=>unfold kL sx;simp only [h.dge,cond_false,eF];simp [bytesOf]
   | cons c r=>
     simp only [List.length_cons] at hn ho
     have hap: decide ((out.length + [by8 c].length) * 1≤140737488355328)=true:=dT' (by simp only [List.length_singleton];omega)
     have hi:=h.nn
     have hle:=h.le
     simp only [List.length_cons] at hle
     have w1: ad (i + 1)=i + 1:=w64 (by omega) (by omega)
     have w2: ad (i + 2)=i + 2:=w64 (by omega) (by omega)
     have hstep:=ih r (i + 1) (out++[by8 c]) h.step (by omega) (by simp;omega)
     have hst': k (out++[by8 c]++bytesOf (eF r))=k (out++by8 c::bytesOf (eF r)):=by simp
     rw [hst'] at hstep
     unfold kL sx
     simp only [h.dlt,h.dnn,h.str,cond_true,bO,hap,w1,w2,hstep]
     cases c1: decide (by8 c=37)
     · simp only [Bool.not_false,cond_true]
       have e: ∀ a b,vb c a b=false:=fun a b=>by unfold vb;rw [c1];rfl
       cases r with
       | nil=>rfl
       | cons a r=>cases r with
         | nil=>rfl
         | cons b r=>rw [sA,e a b,cond_false];rfl
     · simp only [Bool.not_true,cond_false]
       cases r with
       | nil=>
         rw [dT' (show (s.length: Int)≤i + 2 by simp at hle;omega),cond_true];rfl
       | cons a r=>cases r with
         | nil=>
           rw [dT' (show (s.length: Int)≤i + 2 by simp at hle;omega),cond_true];rfl
         | cons b r=>
           simp only [List.length_cons] at hle hn ho
           have h2:=h.step
           have h3:=h2.step
           have e2: i + 1 + 1=i + 2:=by omega
           rw [e2] at h3
           rw [dF' (show ¬ (s.length: Int)≤i + 2 by omega),cond_false,sA]
           simp only [h2.dlt,h2.dnn,h2.str,h3.dlt,h3.dnn,h3.str,cond_true]
           unfold vb
           rw [c1,Bool.true_and]
           have hxa:=va (by8 a)
           have hxb:=va (by8 b)
           cases c2: decide (ee (by8 a) < 0)
           · cases c3: decide (ee (by8 b) < 0)
             · have g2:=of_decide_eq_false c2
               have g3:=of_decide_eq_false c3
               have hp: wk8 (ad (ad (16 * ee (by8 a)) + ee (by8 b)))=dK a b:=by unfold dK;simp (disch:=omega) only [w8,w64]
               have p0: 0≤dK a b:=by unfold dK;omega
               have p1: dK a b < 256:=by unfold dK;omega
               have hd: (dK a b).fdiv 16=ee (by8 a):=by unfold dK;rw [Int.fdiv_eq_ediv_of_nonneg _ (by decide)];omega
               have hm: wkk .u8 ((BitVec.ofInt 8 (dK a b)&&& BitVec.ofInt 8 15).toNat: Int)=ee (by8 b):=ab8 _ _ (by omega) hxa (by omega) hxb
               have w3: ad (i + 2 + 1)=i + 3:=by rw [w64 (by omega) (by omega)];omega
               have ha3: decide ((out.length + [37,upI (by8 a),upI (by8 b)].length) * 1≤140737488355328)=true:=dT' (by simp only [List.length_cons,List.length_nil];omega)
               have ha1: decide ((out.length + [dK a b].length) * 1≤140737488355328)=true:=dT' (by simp only [List.length_cons,List.length_nil];omega)
               have q1: decide (0≤ee (by8 a))=true:=dT' (by omega)
               have q2: decide (ee (by8 a) < 16)=true:=dT' hxa
               have q3: decide (0≤ee (by8 b))=true:=dT' (by omega)
               have q4: decide (ee (by8 b) < 16)=true:=dT' hxb
               simp only [hp,hd,hm,Bool.not_false,Bool.and_self,cond_true,cond_false,vj,ru a b p0 p1,ah0,Tq,aad a (by omega),aad b (by omega),w3,bO,ha3,ha1,q1,q2,q3,q4]
               have h4:=h3.step
               rw [show i + 2 + 1=i + 3 by omega] at h4
               cases rN (dK a b)
               · have:=ih r (i + 3) (out++[37,upI (by8 a),upI (by8 b)]) h4 (by omega) (by simp;omega)
                 rw [cond_false,this,List.append_assoc];rfl
               · have:=ih r (i + 3) (out++[dK a b]) h4 (by omega) (by simp;omega)
                 rw [cond_true,this,List.append_assoc];rfl
             · simp only [Bool.not_false,Bool.not_true,Bool.and_false,cond_true,cond_false];rfl
           · simp only [Bool.not_true,Bool.false_and,cond_true,cond_false];rfl
def XX: List AV→List Ob→Br
 | [.str s],[]=> .ite (decide (s.length≤1000000)) (.ret (.str (eF s)) []) .fail
 | _,_=> .fail
theorem Ts: Sound Kx 319 XX:=by
 refine (OR (φ:=fun s=> .ite (decide (s.length≤1000000)) (.ret (.str (eF s)) []) .fail) (fun s=>s.length + 1) fun s r h=>?_).of fun args objs r h=>?_
 · obtain ⟨h1,h2⟩:=ai h
   cases h2
   rw [decide_eq_true_eq] at h1
   unfold EX
   rw [OU s h1 _ _ s 0 [] (At.start s) (by omega) (by simp),List.nil_append,lC]
 · unfold XX at h;split at h
   · exact h
   · cases h
theorem Tt (a b: UInt8): iE [a,b]=bif !decide (ee (by8 a) < 0)&& !decide (ee (by8 b) < 0) then (dK a b,true) else (0,false):=by
 have e1: aP eJ [a,b]=(!decide (ee (by8 a) < 0)&& !decide (ee (by8 b) < 0)):=by
  show (eJ (by8 a)&&(eJ (by8 b)&&true))=_
  rw [Bool.and_true];rfl
 have e2: ado [a,b] 0=dK a b:=by
  show (0 * 16 + ee (by8 a)) * 16 + ee (by8 b)=_
  unfold dK;omega
 unfold iE
 rw [e1,e2];rfl
theorem OV (s: aa) (hl: s.length≤1000000) (k: List Int→OR'): ∀ (n: Nat) (r: aa) (i: Int) (out: List Int),At s i r→r.length < n→out.length + r.length≤s.length→
 kM n s i out k=k (out++bytesOf (eF r)):=by
 intro n;induction n with
 | zero=>intro r i out h hn;omega
 | succ n ih=>
   intro r i out h hn ho
   cases r with
   | nil=>unfold kM sy;simp only [h.dge,cond_false,eF];simp [bytesOf]
   | cons c r=>
     simp only [List.length_cons] at hn ho
     have hap: decide ((out.length + [by8 c].length) * 1≤140737488355328)=true:=dT' (by simp only [List.length_singleton];omega)
     have hi:=h.nn
     have hle:=h.le
     simp only [List.length_cons] at hle
     have w1: ad (i + 1)=i + 1:=w64 (by omega) (by omega)
     have w2: ad (i + 2)=i + 2:=w64 (by omega) (by omega)
     have w3': ad (i + 3)=i + 3:=w64 (by omega) (by omega)
     have hstep:=ih r (i + 1) (out++[by8 c]) h.step (by omega) (by simp;omega)
     have hst': k (out++[by8 c]++bytesOf (eF r))=k (out++by8 c::bytesOf (eF r)):=by simp
     rw [hst'] at hstep
     unfold kM sy
     simp only [h.dlt,h.dnn,h.str,cond_true,bO,hap,w1,w2,w3',hstep]
     cases c1: decide (by8 c=37)
     · simp only [Bool.not_false,cond_true]
       have e: ∀ a b,vb c a b=false:=fun a b=>by unfold vb;rw [c1];rfl
       cases r with
       | nil=>rfl
       | cons a r=>cases r with
         | nil=>rfl
         | cons b r=>rw [sA,e a b,cond_false];rfl
     · simp only [Bool.not_true,cond_false]
       cases r with
       | nil=>
         rw [dT' (show (s.length: Int)≤i + 2 by simp at hle;omega),cond_true];rfl
       | cons a r=>cases r with
         | nil=>
           rw [dT' (show (s.length: Int)≤i + 2 by simp at hle;omega),cond_true];rfl
         | cons b r=>
           simp only [List.length_cons] at hle hn ho
           have h2:=h.step
           have h3:=h2.step
           have e2: i + 1 + 1=i + 2:=by omega
           rw [e2] at h3
           have hcut: cut s (i + 1) (i + 3)=[a,b]:=by
            obtain ⟨p,hs,hp⟩:=h
            exact S1 (p:=p++[c]) (r:=r) (by rw [hs];simp) (by rw [hp];simp) (by simp;omega)
           rw [dF' (show ¬ (s.length: Int)≤i + 2 by omega),cond_false,sA]
           rw [dT' (show i + 1≤i + 3 by omega),dT' (show i + 3≤(s.length: Int) by omega)]
           simp only [h2.dlt,h2.dnn,h2.str,h3.dlt,h3.dnn,h3.str,cond_true,hcut,Tt]
           unfold vb
           rw [c1,Bool.true_and]
           have hxa:=va (by8 a)
           have hxb:=va (by8 b)
           cases c2: decide (ee (by8 a) < 0)
           · cases c3: decide (ee (by8 b) < 0)
             · have g2:=of_decide_eq_false c2
               have g3:=of_decide_eq_false c3
               have p0: 0≤dK a b:=by unfold dK;omega
               have p1: dK a b < 256:=by unfold dK;omega
               have hp: wk8 (dK a b)=dK a b:=w8 p0 p1
               have w3: ad (i + 2 + 1)=i + 3:=by rw [w64 (by omega) (by omega)];omega
               have ha3: decide ((out.length + [37,upI (by8 a),upI (by8 b)].length) * 1≤140737488355328)=true:=dT' (by simp only [List.length_cons,List.length_nil];omega)
               have ha1: decide ((out.length + [dK a b].length) * 1≤140737488355328)=true:=dT' (by simp only [List.length_cons,List.length_nil];omega)
               simp only [Bool.not_false,Bool.and_self,cond_true,cond_false,Bool.not_true,hp,dT' p0,dT' p1,vj,ru a b p0 p1,ah0,w3,bO,ha3,ha1]
               have h4:=h3.step
               rw [show i + 2 + 1=i + 3 by omega] at h4
               cases rN (dK a b)
               · have:=ih r (i + 3) (out++[37,upI (by8 a),upI (by8 b)]) h4 (by omega) (by simp;omega)
                 rw [cond_false]
                 refine Eq.trans (mj ha3) ?_
                 rw [this,List.append_assoc];rfl
               · have:=ih r (i + 3) (out++[dK a b]) h4 (by omega) (by simp;omega)
                 rw [cond_true,this,List.append_assoc];rfl
             · simp only [Bool.not_false,Bool.not_true,Bool.and_false,cond_true,cond_false];rfl
           · simp only [Bool.not_true,Bool.not_false,Bool.false_and,cond_true,cond_false];rfl
theorem Tu: Sound Kx 302 XX:=by
 refine (OS (φ:=fun s=> .ite (decide (s.length≤1000000)) (.ret (.str (eF s)) []) .fail) (fun s=>s.length + 1) fun s r h=>?_).of fun args objs r h=>?_
 · obtain ⟨h1,h2⟩:=ai h
   cases h2
   rw [decide_eq_true_eq] at h1
   unfold EZ
   rw [OV s h1 _ _ s 0 [] (At.start s) (by omega) (by simp),List.nil_append,lC]
 · unfold XX at h;split at h
   · exact h
   · cases h
theorem E9 (l: aa) (hl: l.length≤4611686018427387904) (k0 k1: OR'): ∀ (r: aa) (i: Int) (n: Nat),At l i r→r.length < n→f8 n l i k0 k1=bif aP hoB r then k1 else k0:=by
 intro r;induction r with
 | nil=>intro i n h hn;obtain ⟨n,rfl⟩:=bL hn;unfold f8 kN;simp only [h.dge,cond_false,aP,List.all_nil,cond_true]
 | cons a r ih=>
   intro i n h hn;obtain ⟨n,rfl⟩:=bL hn
   have hs:=ih (i + 1) n h.step (by simp at hn;omega)
   unfold f8 kN;simp only [h.dlt,h.dnn,h.str,cond_true,h.next hl,hs,aP,List.all_cons]
   cases hoB (by8 a) <;> rfl
def Tv:=mh fun s=> .ite (isM s) (.ret (.bool (aP hoB s)) []) .fail
theorem H5: Sound Kx 74 Tv:=by
 refine E3 (fun s=>s.length + 1) fun s r h=>?_
 obtain ⟨h1,h2⟩:=ai h
 unfold vd
 rw [E9 s (fh h1) _ _ s 0 _ (At.start s) (by omega),← h2]
 cases aP hoB s <;> rfl
def laB (n: Int): Bool:=jy n||aB n||decide (n=45)
theorem H6 (l: List aa) (j: Int) (r0: List aa) (w: aa) (hw: w.length≤1000000) (hj: At l j (w::r0)) (k0 k1: Int→List aa→OR'): ∀ (r: aa) (i: Int) (n: Nat),At w i r→r.length < n→
 iF n j i l k0 k1=bif aP laB r then k1 j l else k0 j l:=by
 intro r;induction r with
 | nil=>intro i n h hn;obtain ⟨n,rfl⟩:=bL hn;unfold iF n5;simp only [hj.dlt,hj.dnn,hj.get,cond_true,h.dge,cond_false];rfl
 | cons a r ih=>
   intro i n h hn;obtain ⟨n,rfl⟩:=bL hn
   have hs:=ih (i + 1) n h.step (by simp at hn;omega)
   have hall: aP laB (a::r)=(laB (by8 a)&&aP laB r):=rfl
   unfold iF n5
   simp only [hj.dlt,hj.dnn,hj.get,cond_true,h.dlt,h.dnn,h.str,h.next (show w.length≤4611686018427387904 by omega),hs,hall]
   unfold laB jy
   cases decide (97≤by8 a) <;> cases decide (by8 a≤122) <;> cases aB (by8 a) <;> cases decide (by8 a=45) <;> rfl
theorem OW (N: Nat) (l: List aa) (hl: l.length≤1000000) (hN: ∀ w ∈ l,w.length < N∧w.length≤1000000) (k0 k1: OR'): ∀ (r: List aa) (j: Int) (n: Nat),At l j r→r.length < n→
 kO N n j l k0 k1=bif r.all (fun w=> !decide (w=[])&&aP laB w) then k1 else k0:=by
 intro r;induction r with
 | nil=>intro j n h hn;obtain ⟨n,rfl⟩:=bL hn;unfold kO sz;simp only [h.dge,cond_false];rfl
 | cons w r ih=>
   intro j n h hn;obtain ⟨n,rfl⟩:=bL hn
   have hs:=ih (j + 1) n h.step (by simp at hn;omega)
   have hw: w ∈ l:=by obtain ⟨p,rfl,_⟩:=h;simp
   unfold kO sz
   simp only [h.dlt,h.dnn,h.get,cond_true,List.all_cons]
   cases c: decide (w=[])
   · rw [cond_false,H6 l j r w (hN w hw).2 h _ _ w 0 N (At.start w) (hN w hw).1]
     simp only [h.next (show l.length≤4611686018427387904 by omega),hs,Bool.not_false,Bool.true_and]
     cases aP laB w <;> rfl
   · simp only [cond_true,Bool.not_true,Bool.false_and,cond_false]
theorem H7 (b: Int): ∀ (r cur: aa) (w: aa),w ∈ pL b cur r→w.length≤cur.length + r.length
 | [],cur,w,h=>by
   have: w=cur:=by simpa [pL] using h
   subst this;simp
 | x::r,cur,w,h=>by
   rw [u7] at h
   cases c: decide (by8 x=b)
   · rw [c,cond_false] at h
     have:=H7 b r _ w h
     simp at this ⊢;omega
   · rw [c,cond_true] at h
     rcases List.mem_cons.1 h with h | h
     · subst h;simp
     · have:=H7 b r _ w h
       simp at this ⊢;omega
theorem Mj {α: Type} (p q: α→Bool): ∀ l: List α,l.all (fun x=>p x&&q x)=(l.all p&&l.all q)
 | []=>rfl
 | a::l=>by simp only [List.all_cons];rw [Mj p q l];cases p a <;> cases q a <;> cases l.all p <;> rfl
theorem aeP (l: List aa): (l.all fun w=> !decide (w=[]))= !inP l []:=by
 unfold inP
 induction l with
 | nil=>rfl
 | cons a l ih=>rw [List.all_cons,List.any_cons,ih];cases decide (a=[]) <;> rfl
theorem OX {p q: Int→Bool} (h: ∀ n,p n=q n) (s: aa): aP p s=aP q s:=by
 have: p=q:=funext h
 rw [this]
theorem XY (s: aa): ((jD s 46).all fun w=> !decide (w=[])&&aP laB w)=(aP hoB s&& !inP (jD s 46) []):=by
 rw [Mj,aeP]
 have:=AE 46 laB s []
 rw [show (jD s 46).all (fun s=>aP laB s)=(pL 46 [] s).all (fun s=>aP laB s) from rfl,this]
 rw [show aP laB []=true from rfl,Bool.true_and,OX (q:=hoB) (fun n=>by
  unfold laB hoB
  cases jy n <;> cases aB n <;> cases decide (n=45) <;> cases decide (n=46) <;> rfl),Bool.and_comm]
def ah1: List AV→List Ob→Br
 | [.str s],[]=> .ret (.bool (lb s)) []
 | _,_=> .fail
theorem Tw: Sound Kx 303 ah1:=by
 refine (OT (φ:=fun s=> .ret (.bool (lb s)) []) (fun s=>s.length + 3) fun s r h=>?_).of fun args objs r h=>?_
 · cases h
   unfold E6 lb
   cases c1: decide ((s.length: Int)=0)
   · have c1':=of_decide_eq_false c1
     cases c2: decide ((60 : Int) < (s.length: Int))
     · have c2':=of_decide_eq_false c2
       rw [dT' (show 1≤s.length by omega),dT' (show s.length≤60 by omega),dT' (show s.length≤1000000 by omega)]
       simp only [cond_false,cond_true,Bool.true_and]
       have hlen:=u_ s 46
       rw [OW _ (jD s 46) (by omega) (fun w hw=>by have:=H7 46 s [] w hw;simp at this;omega) _ _ _ 0 _ (At.start _) (by omega),XY]
       cases aP hoB s&& !inP (jD s 46) [] <;> rfl
     · have c2':=of_decide_eq_true c2
       rw [dF' (show ¬ s.length≤60 by omega),Bool.and_false,Bool.false_and,Bool.false_and];rfl
   · have c1':=of_decide_eq_true c1
     rw [dF' (show ¬ 1≤s.length by omega),Bool.false_and,Bool.false_and,Bool.false_and];rfl
 · unfold ah1 at h;split at h
   · exact h
   · cases h
def ah2: List AV→List Ob→Br
 | [.int .i64 n],[]=> .ret (.str (bif bD n then bR n else [])) []
 | _,_=> .fail
theorem Tx: Sound Kx 316 ah2:=iDecT_ok.of fun args objs r h=>by
 unfold ah2 at h
 split at h
 case h_2=>cases h
 rename_i n
 cases h
 show (AL n).val=_
 unfold AL bD
 cases decide (0≤n) <;> cases decide (n≤999999999999999) <;> rfl
theorem AN (s: aa) (hl: s.length≤15) (k0 k1: aa→Int→OR') (K0: OR') (h0: ∀ x,k0 s x=K0): ∀ (r: aa) (v i: Int) (n: Nat),At s i r→r.length < n→0≤v→(v + 1) * 10 ^ r.length≤1000000000000000→
 eR n s v i k0 k1=bif aP aB r then k1 s (uH r v) else K0:=by
 intro r;induction r with
 | nil=>intro v i n h hn hv hb;obtain ⟨n,rfl⟩:=bL hn;unfold eR jn;simp only [h.dge,cond_false];rfl
 | cons a r ih=>
   intro v i n h hn hv hb;obtain ⟨n,rfl⟩:=bL hn
   simp only [List.length_cons] at hn hb
   have hp: (1 : Int)≤10 ^ r.length:=by have h0: (0 : Int) < 10 ^ r.length:=Int.pow_pos (by decide);omega
   have hb': ((v + 1) * 10) * 10 ^ r.length≤1000000000000000:=by rw [Int.pow_succ,Int.mul_comm (10 ^ r.length) 10,← Int.mul_assoc] at hb;exact hb
   have hv10: (v + 1) * 10≤1000000000000000:=Int.le_trans (by have:=Int.mul_le_mul_of_nonneg_left hp (show 0≤(v + 1) * 10 by omega);rwa [Int.mul_one] at this) hb'
   have hall: aP aB (a::r)=(aB (by8 a)&&aP aB r):=rfl
   have hN: uH (a::r) v=uH r (v * 10 + (by8 a - 48)):=rfl
   unfold eR jn
   simp only [h.dlt,h.dnn,h.str,cond_true,h.next (show s.length≤4611686018427387904 by omega),h0,hall,hN]
   cases c1: aB (by8 a)
   · rfl
   · have c1':=c1
     simp only [aB,Bool.and_eq_true,decide_eq_true_eq] at c1'
     have e: ad (ad (v * 10) + ad (wk8 (by8 a - 48)))=v * 10 + (by8 a - 48):=by simp (disch:=omega) only [w8,w64]
     simp only [Bool.not_true,cond_false,Bool.true_and,e]
     exact ih _ (i + 1) n h.step (by omega) (by omega) (Int.le_trans (Int.mul_le_mul_of_nonneg_right (show v * 10 + (by8 a - 48) + 1≤(v + 1) * 10 by omega) (by omega)) hb')
def ah3: List AV→List Ob→Br
 | [.str s],[]=> .ret (.tup [.int .i64 (jA s).1, .bool (jA s).2]) []
 | _,_=> .fail
theorem E_: Sound Kx 274 ah3:=by
 refine (AM (φ:=fun s=> .ret (.tup [.int .i64 (jA s).1, .bool (jA s).2]) []) (fun s=>s.length + 1) fun s r h=>?_).of fun args objs r h=>?_
 · cases h
   unfold rq jA
   cases c1: decide ((s.length: Int)=0)
   · have c1':=of_decide_eq_false c1
     cases c2: decide ((15 : Int) < (s.length: Int))
     · have c2':=of_decide_eq_false c2
       simp only [cond_false]
       rw [AN s (by omega) _ _ (some (AV.tup [AV.int .i64 0,AV.bool false],[])) (fun _=>rfl) s 0 0 _ (At.start s) (by omega) (by omega) ?_,dT' (show 1≤s.length by omega),dT' (show s.length≤15 by omega)]
       · cases ha: aP aB s
         · rfl
         · have:=Lo s ha (by omega)
           have h15: bD (uH s 0)=true:=by unfold bD;rw [dT' this.1,dT' this.2];rfl
           simp only [h15,cond_true,Bool.true_and]
           cases decide (bR (uH s 0)=s) <;> rfl
       · have h3: (10 : Nat) ^ s.length≤10 ^ 15:=Nat.pow_le_pow_right (by decide) (by omega)
         have e: (10 : Int) ^ s.length=((10 ^ s.length: Nat): Int):=by rw [Int.natCast_pow];rfl
         rw [e]
         have e2: (10 : Nat) ^ 15=1000000000000000:=by decide
         omega
     · have c2':=of_decide_eq_true c2
       rw [dF' (show ¬ s.length≤15 by omega),Bool.and_false,Bool.false_and,Bool.false_and];rfl
   · have c1':=of_decide_eq_true c1
     rw [dF' (show ¬ 1≤s.length by omega),Bool.false_and,Bool.false_and,Bool.false_and];rfl
 · unfold ah3 at h;split at h
   · exact h
   · cases h
def Mk: Opt:={ cons:=[49],live:=[(6,[3,4,29,30,31])],outs:=[(6,[2,3,4])] }
def iClean_C: SC:=[⟨117,_,aek⟩,⟨74,_,kA⟩,⟨317,_,Tb⟩,⟨319,_,Ts⟩,⟨318,_,EW⟩,⟨223,_,Ki⟩]
def n6 (cx cg: (List aa)) (dX fG: Int) (ic: (List aa)) (kR6: (List aa)→(List aa)→Int→Int→(List aa)→OR') (mD: (List aa)→(List aa)→OR'): OR':=
 (bif (decide (fG < dX)) then (bif (decide (0≤fG)) then (bif (decide (fG < (cg.length: Int))) then (bif (decide ((List.getD cg (Int.toNat fG) ([]: aa))=([46]: aa))) then (kR6 cx cg dX (ad (fG + 1)) ic) else (bif (decide ((List.getD cg (Int.toNat fG) ([]: aa))=([46,46]: aa))) then (bif (decide (0≤(if (0 < (ad ((ic.length: Int) - 1))) then (ad ((ic.length: Int) - 1)) else 0))) then (bif (decide ((if (0 < (ad ((ic.length: Int) - 1))) then (ad ((ic.length: Int) - 1)) else 0)≤(ic.length: Int))) then (kR6 cx cg dX (ad (fG + 1)) (cut ic 0 (if (0 < (ad ((ic.length: Int) - 1))) then (ad ((ic.length: Int) - 1)) else 0))) else none) else none) else (bif (decide (((ic.length + (List.length (List.set (List.replicate 1 ([]: aa)) 0 (List.getD cg (Int.toNat fG) ([]: aa))))) * 16)≤140737488355328)) then (kR6 cx cg dX (ad (fG + 1)) (ic++(List.set (List.replicate 1 ([]: aa)) 0 (List.getD cg (Int.toNat fG) ([]: aa))))) else none))) else none) else none) else (mD cx ic))
def iG: Nat→(List aa)→(List aa)→Int→Int→(List aa)→((List aa)→(List aa)→OR')→OR'
 | 0,_,_,_,_,_,_=>none
 | n + 1,cx,cg,dX,fG,ic,mD=>n6 cx cg dX fG ic (fun cx cg dX fG ic=>iG n cx cg dX fG ic mD) mD
abbrev iClean_p6: SP:=⟨69,[3,4,29,30,31],[(.v (.ref 256 0)),(.v (.sh Ty.str)),(.v (.sh Ty.str)),(.v (.i .i64)),(.v (.i .i64))],[(256, .arr Ty.str 0 false)]⟩
noncomputable def Fa: Code:=aC (aG Tryz.f286) [1,1,1,1,0,1,0,0]
def Fb (f: ((List aa)→(List aa)→OR')→OR') (k: KT): OR':=f (fun di dv=>k (Ex.exit 0) ((St.mk (aF 0 69 [(3,(AV.ref 256 0)),(4,(AV.sh Ty.str di))]) ((256,(Ob.arr Ty.str 0 false dv))::([]: (List (Nat×(Ob))))))))
def Fe (n: Nat) (d: iClean_p6.D): KT→OR':=Fb (iG n d.1.2.1 d.1.2.2.1 d.1.2.2.2.1 d.1.2.2.2.2.1 d.2.1)
def Ml (N: Nat): Lam:=bH [⟨6,iClean_p6,Fe N⟩]
theorem OY (N: Nat): OkL Kx iClean_C.s Mk 0 N (Ml N) Fa:=okL iClean_p6 (Fe) (fun d kR=>Fb (n6 d.1.2.1 d.1.2.2.1 d.1.2.2.2.1 d.1.2.2.2.2.1 d.2.1 (fun cx cg dX fG ic=>kR (((),cx,cg,dX,fG,()),(ic,()))))) (fun _ _=>by kernel_rfl) (fun _ _ _=>by kernel_rfl) (fun _ _=>by kernel_rfl) (fun _ _ _ _=>by kernel_rfl) (al (l':=[]) (by kernel_rfl) trivial)
def yA (N: Nat) (p: aa): OR':=(bif (decide (1≤(p.length: Int))) then (bif (decide (1≤(p.length: Int))) then (bif (!(decide ((cut p 0 1)=([47]: aa)))) then (some ((AV.str ([]: aa)),[])) else (bif (decide (200 < (p.length: Int))) then (some ((AV.str ([]: aa)),[])) else (bif (isM p) then (bif (!(aP cZ p)) then (some ((AV.str ([]: aa)),[])) else (bif ((((decide (p.length≤1000000))&&true)&&(Wb p))&&true) then (bif (decide (0≤(pM p ([35,63]: aa)))) then (some ((AV.str ([]: aa)),[])) else (bif (decide (p.length≤1000000)) then (bif (decide (1≤((List.length (eF p)): Int))) then (bif (decide ((List.length (cut (eF p) 1 ((List.length (eF p)): Int)))≤1000000)) then (iG N (jD (cut (eF p) 1 ((List.length (eF p)): Int)) 47) (jD (cut (eF p) 1 ((List.length (eF p)): Int)) 47) ((List.length (jD (cut (eF p) 1 ((List.length (eF p)): Int)) 47)): Int) 0 ([]: (List aa)) (fun di dv=>(bif (decide (0≤(ad ((di.length: Int) - 1)))) then (bif (decide ((ad ((di.length: Int) - 1)) < (di.length: Int))) then (bif (decide ((List.getD di (Int.toNat (ad ((di.length: Int) - 1))) ([]: aa))=([46]: aa))) then (bif (decide (((dv.length + 1) * 16)≤140737488355328)) then (bif ((decide ((List.length (dv++(List.set (List.replicate 1 ([]: aa)) 0 ([]: aa))))≤1000000))&&(decide ((List.length (eI (dv++(List.set (List.replicate 1 ([]: aa)) 0 ([]: aa))) ([47]: aa)))≤1000000))) then (bif (decide ((1 + (List.length (eI (dv++(List.set (List.replicate 1 ([]: aa)) 0 ([]: aa))) ([47]: aa))))≤9223372036854775807)) then (some ((AV.str (([47]: aa)++(eI (dv++(List.set (List.replicate 1 ([]: aa)) 0 ([]: aa))) ([47]: aa)))),[])) else none) else none) else none) else (bif (decide ((List.getD di (Int.toNat (ad ((di.length: Int) - 1))) ([]: aa))=([46,46]: aa))) then (bif (decide (((dv.length + 1) * 16)≤140737488355328)) then (bif ((decide ((List.length (dv++(List.set (List.replicate 1 ([]: aa)) 0 ([]: aa))))≤1000000))&&(decide ((List.length (eI (dv++(List.set (List.replicate 1 ([]: aa)) 0 ([]: aa))) ([47]: aa)))≤1000000))) then (bif (decide ((1 + (List.length (eI (dv++(List.set (List.replicate 1 ([]: aa)) 0 ([]: aa))) ([47]: aa))))≤9223372036854775807)) then (some ((AV.str (([47]: aa)++(eI (dv++(List.set (List.replicate 1 ([]: aa)) 0 ([]: aa))) ([47]: aa)))),[])) else none) else none) else none) else (bif ((decide (dv.length≤1000000))&&(decide ((List.length (eI dv ([47]: aa)))≤1000000))) then (bif (decide ((1 + (List.length (eI dv ([47]: aa))))≤9223372036854775807)) then (some ((AV.str (([47]: aa)++(eI dv ([47]: aa)))),[])) else none) else none))) else none) else none))) else none) else none) else none)) else none)) else none))) else none) else (some ((AV.str ([]: aa)),[])))
def yB (φ: aa→Br): List AV→List Ob→Br
 | [.str p],[]=>φ p
 | _,_=> .fail
theorem H8 {φ: aa→Br} (fu: aa→Nat) (hv: ∀ p res_,(φ p).val=some res_→yA (fu p) p=some res_): Sound Kx 286 (yB φ):=ap (C:=iClean_C) (O:=Mk) Tryz.func286 (by kernel_rfl) fun args objs=>by
 unfold yB;split
 · rename_i p;exact .inr fun _ hyp_=>aO (Λ:=Ml (fu p)) (by kernel_rfl) (al (l':=[Fa]) (by kernel_rfl) ⟨OY _,trivial⟩) (by kernel_rfl) (hv p _ hyp_)
 · exact .inl rfl
def sB: Opt:={ cons:=[80],live:=[(22,[5,8,9]),(11,[4,5,6]),(4,[0,3])],outs:=[(22,[2,8]),(11,[2,5]),(4,[0,2])] }
def sClean_C: SC:=[⟨188,_,sk⟩,⟨302,_,Tu⟩,⟨301,_,yp⟩]
def n7 (a_: aa) (a8: Int) (kR4: aa→Int→OR') (eK kX: aa→OR'): OR':=
 (bif (decide (a8 < (a_.length: Int))) then (bif (decide (0≤a8)) then (bif (decide (a8 < (a_.length: Int))) then (bif (decide ((aq a_ a8)=35)) then (eK a_) else (bif (decide (0≤a8)) then (bif (decide (a8 < (a_.length: Int))) then (bif (decide ((aq a_ a8)=63)) then (eK a_) else (kR4 a_ (ad (a8 + 1)))) else none) else none)) else none) else none) else (kX a_))
def iH: Nat→aa→Int→(aa→OR')→(aa→OR')→OR'
 | 0,_,_,_,_=>none
 | n + 1,a_,a8,eK,kX=>n7 a_ a8 (fun a_ a8=>iH n a_ a8 eK kX) eK kX
abbrev sClean_p4: SP:=⟨114,[0,3],[(.v .s),(.v (.i .i64))],[]⟩
noncomputable def Ff: Code:=aC (aG Tryz.f275) [1,1,0,1,0,0]
def Fg (f: (aa→OR')→(aa→OR')→OR') (k: KT): OR':=f (fun dh=>k Ex.ret ((St.mk (aF 0 114 [(0,(AV.str dh)),(2,(AV.str ([]: aa)))]) ([]: (List (Nat×(Ob))))))) (fun du=>k (Ex.exit 0) ((St.mk (aF 0 114 [(0,(AV.str du))]) ([]: (List (Nat×(Ob)))))))
def Fh (n: Nat) (d: sClean_p4.D): KT→OR':=Fg (iH n d.1.1 d.1.2.1)
def iI (bX: Int) (co cr: (List aa)) (I8: Int→(List aa)→(List aa)→OR') (Zd: (List aa)→OR'): OR':=
 (bif (decide (bX < (co.length: Int))) then (bif (decide (0≤bX)) then (bif (decide (bX < (co.length: Int))) then (bif (decide ((List.getD co (Int.toNat bX) ([]: aa))=([46]: aa))) then (bif (decide (0≤bX)) then (bif (decide (bX < (co.length: Int))) then (bif (decide ((List.getD co (Int.toNat bX) ([]: aa))=([46,46]: aa))) then (bif (decide (0 < (cr.length: Int))) then (bif (decide (0≤(ad ((cr.length: Int) - 1)))) then (bif (decide ((ad ((cr.length: Int) - 1))≤(cr.length: Int))) then (bif (decide ((ad (bX + 1))=(co.length: Int))) then (bif (decide ((((List.length (cut cr 0 (ad ((cr.length: Int) - 1)))) + 1) * 16)≤140737488355328)) then (I8 (ad (bX + 1)) co ((cut cr 0 (ad ((cr.length: Int) - 1)))++(List.set (List.replicate 1 ([]: aa)) 0 ([]: aa)))) else none) else (I8 (ad (bX + 1)) co (cut cr 0 (ad ((cr.length: Int) - 1))))) else none) else none) else (bif (decide ((ad (bX + 1))=(co.length: Int))) then (bif (decide (((cr.length + 1) * 16)≤140737488355328)) then (I8 (ad (bX + 1)) co (cr++(List.set (List.replicate 1 ([]: aa)) 0 ([]: aa)))) else none) else (I8 (ad (bX + 1)) co cr))) else (bif (decide ((ad (bX + 1))=(co.length: Int))) then (bif (decide (((cr.length + 1) * 16)≤140737488355328)) then (I8 (ad (bX + 1)) co (cr++(List.set (List.replicate 1 ([]: aa)) 0 ([]: aa)))) else none) else (I8 (ad (bX + 1)) co cr))) else none) else none) else (bif (decide (0≤bX)) then (bif (decide (bX < (co.length: Int))) then (bif (decide (0≤bX)) then (bif (decide (bX < (co.length: Int))) then (bif (decide ((List.getD co (Int.toNat bX) ([]: aa))=([46,46]: aa))) then (bif (decide (0 < (cr.length: Int))) then (bif (decide (0≤(ad ((cr.length: Int) - 1)))) then (bif (decide ((ad ((cr.length: Int) - 1))≤(cr.length: Int))) then (bif (!(decide ((List.getD co (Int.toNat bX) ([]: aa))=([46,46]: aa)))) then (bif (decide (0≤bX)) then (bif (decide (bX < (co.length: Int))) then (bif (decide ((((List.length (cut cr 0 (ad ((cr.length: Int) - 1)))) + (List.length (List.set (List.replicate 1 ([]: aa)) 0 (List.getD co (Int.toNat bX) ([]: aa))))) * 16)≤140737488355328)) then (I8 (ad (bX + 1)) co ((cut cr 0 (ad ((cr.length: Int) - 1)))++(List.set (List.replicate 1 ([]: aa)) 0 (List.getD co (Int.toNat bX) ([]: aa))))) else none) else none) else none) else (bif (decide ((ad (bX + 1))=(co.length: Int))) then (bif (decide ((((List.length (cut cr 0 (ad ((cr.length: Int) - 1)))) + 1) * 16)≤140737488355328)) then (I8 (ad (bX + 1)) co ((cut cr 0 (ad ((cr.length: Int) - 1)))++(List.set (List.replicate 1 ([]: aa)) 0 ([]: aa)))) else none) else (I8 (ad (bX + 1)) co (cut cr 0 (ad ((cr.length: Int) - 1)))))) else none) else none) else (bif (!(decide ((List.getD co (Int.toNat bX) ([]: aa))=([46,46]: aa)))) then (bif (decide (0≤bX)) then (bif (decide (bX < (co.length: Int))) then (bif (decide (((cr.length + (List.length (List.set (List.replicate 1 ([]: aa)) 0 (List.getD co (Int.toNat bX) ([]: aa))))) * 16)≤140737488355328)) then (I8 (ad (bX + 1)) co (cr++(List.set (List.replicate 1 ([]: aa)) 0 (List.getD co (Int.toNat bX) ([]: aa))))) else none) else none) else none) else (bif (decide ((ad (bX + 1))=(co.length: Int))) then (bif (decide (((cr.length + 1) * 16)≤140737488355328)) then (I8 (ad (bX + 1)) co (cr++(List.set (List.replicate 1 ([]: aa)) 0 ([]: aa)))) else none) else (I8 (ad (bX + 1)) co cr)))) else (bif (!(decide ((List.getD co (Int.toNat bX) ([]: aa))=([46,46]: aa)))) then (bif (decide (0≤bX)) then (bif (decide (bX < (co.length: Int))) then (bif (decide (((cr.length + (List.length (List.set (List.replicate 1 ([]: aa)) 0 (List.getD co (Int.toNat bX) ([]: aa))))) * 16)≤140737488355328)) then (I8 (ad (bX + 1)) co (cr++(List.set (List.replicate 1 ([]: aa)) 0 (List.getD co (Int.toNat bX) ([]: aa))))) else none) else none) else none) else (bif (decide ((ad (bX + 1))=(co.length: Int))) then (bif (decide (((cr.length + 1) * 16)≤140737488355328)) then (I8 (ad (bX + 1)) co (cr++(List.set (List.replicate 1 ([]: aa)) 0 ([]: aa)))) else none) else (I8 (ad (bX + 1)) co cr)))) else none) else none) else none) else none)) else none) else none) else (Zd cr))
def cY: Nat→Int→(List aa)→(List aa)→((List aa)→OR')→OR'
 | 0,_,_,_,_=>none
 | n + 1,bX,co,cr,Zd=>iI bX co cr (fun bX co cr=>cY n bX co cr Zd) Zd
abbrev sClean_p11: SP:=⟨114,[4,5,6],[(.v (.ref 320 0)),(.v (.ref 384 0)),(.v (.i .i64))],[(320, .arr Ty.str 0 false),(384, .arr Ty.str 0 false)]⟩
noncomputable def yC: Code:=aC (aG Tryz.f275) [1,1,1,1,1,0,1,0,0]
def yD (f: ((List aa)→OR')→OR') (k: KT): OR':=f (fun I9=>k (Ex.exit 2) ((St.mk (aF 0 114 [(5,(AV.ref 384 0))]) ((384,(Ob.arr Ty.str 0 false I9))::([]: (List (Nat×(Ob))))))))
def yE (n: Nat) (d: sClean_p11.D): KT→OR':=yD (cY n d.1.2.2.1 d.2.1 d.2.2.1)
def kP (wQ: aa) (rR: Int) (vY: (List aa)) (aiU: aa→Int→(List aa)→OR') (Ze: aa→OR'): OR':=
 (bif (decide (rR < (vY.length: Int))) then (bif (decide ((wQ.length + 1)≤9223372036854775807)) then (bif (decide (0≤rR)) then (bif (decide (rR < (vY.length: Int))) then (bif (decide (((List.length (wQ++([47]: aa))) + (List.length (List.getD vY (Int.toNat rR) ([]: aa))))≤9223372036854775807)) then (aiU ((wQ++([47]: aa))++(List.getD vY (Int.toNat rR) ([]: aa))) (ad (rR + 1)) vY) else none) else none) else none) else none) else (Ze wQ))
def f9: Nat→aa→Int→(List aa)→(aa→OR')→OR'
 | 0,_,_,_,_=>none
 | n + 1,wQ,rR,vY,Ze=>kP wQ rR vY (fun wQ rR vY=>f9 n wQ rR vY Ze) Ze
abbrev sClean_p22: SP:=⟨114,[5,8,9],[(.v (.ref 384 0)),(.v .s),(.v (.i .i64))],[(384, .arr Ty.str 0 false)]⟩
noncomputable def yF: Code:=aC (aG Tryz.f275) [1,1,1,1,1,1,1,0,1,0,0]
def yG (f: (aa→OR')→OR') (k: KT): OR':=f (fun BZ=>k (Ex.exit 4) ((St.mk (aF 0 114 [(8,(AV.str BZ))]) ([]: (List (Nat×(Ob)))))))
def yH (n: Nat) (d: sClean_p22.D): KT→OR':=yG (f9 n d.1.2.1 d.1.2.2.1 d.2.1)
def sC (N: Nat): Lam:=bH [⟨4,sClean_p4,Fh N⟩,⟨11,sClean_p11,yE N⟩,⟨22,sClean_p22,yH N⟩]
theorem OZ (N: Nat): OkL Kx sClean_C.s sB 0 N (sC N) Ff:=okL sClean_p4 (Fh) (fun d kR=>Fg (n7 d.1.1 d.1.2.1 (fun a_ a8=>kR ((a_,a8,()),())))) (fun _ _=>by kernel_rfl) (fun _ _ _=>by kernel_rfl) (fun _ _=>by kernel_rfl) (fun _ _ _ _=>by kernel_rfl) (al (l':=[]) (by kernel_rfl) trivial)
theorem H9 (N: Nat): OkL Kx sClean_C.s sB 0 N (sC N) yC:=okL sClean_p11 (yE) (fun d kR=>yD (iI d.1.2.2.1 d.2.1 d.2.2.1 (fun bX co cr=>kR (((),(),bX,()),(co,cr,()))))) (fun _ _=>by kernel_rfl) (fun _ _ _=>by kernel_rfl) (fun _ _=>by kernel_rfl) (fun _ _ _ _=>by kernel_rfl) (al (l':=[]) (by kernel_rfl) trivial)
theorem H_ (N: Nat): OkL Kx sClean_C.s sB 0 N (sC N) yF:=okL sClean_p22 (yH) (fun d kR=>yG (kP d.1.2.1 d.1.2.2.1 d.2.1 (fun wQ rR vY=>kR (((),wQ,rR,()),(vY,()))))) (fun _ _=>by kernel_rfl) (fun _ _ _=>by kernel_rfl) (fun _ _=>by kernel_rfl) (fun _ _ _ _=>by kernel_rfl) (al (l':=[]) (by kernel_rfl) trivial)
def yI (N: Nat) (p: aa): OR':=(bif (decide ((p.length: Int)=0)) then (some ((AV.str ([]: aa)),[])) else (bif (decide (200 < (p.length: Int))) then (some ((AV.str ([]: aa)),[])) else (bif (decide (0 < (p.length: Int))) then (bif (!(decide ((aq p 0)=47))) then (some ((AV.str ([]: aa)),[])) else (bif (isM p) then (bif (!((aP cZ p)&&(decide (0 < (p.length: Int))))) then (some ((AV.str ([]: aa)),[])) else (iH N p 0 (fun dh=>(some ((AV.str ([]: aa)),[]))) (fun du=>(bif (decide (du.length≤1000000)) then (bif (decide (1≤((List.length (eF du)): Int))) then (bif (decide ((List.length (cut (eF du) 1 ((List.length (eF du)): Int)))≤1000000)) then (cY N 0 (jD (cut (eF du) 1 ((List.length (eF du)): Int)) 47) ([]: (List aa)) (fun I9=>(f9 N ([]: aa) 0 I9 (fun BZ=>(bif (decide (BZ=([]: aa))) then (some ((AV.str ([47]: aa)),[])) else (some ((AV.str BZ),[]))))))) else none) else none) else none)))) else none)) else none)))
def yJ (φ: aa→Br): List AV→List Ob→Br
 | [.str p],[]=>φ p
 | _,_=> .fail
theorem Ia {φ: aa→Br} (fu: aa→Nat) (hv: ∀ p res_,(φ p).val=some res_→yI (fu p) p=some res_): Sound Kx 275 (yJ φ):=ap (C:=sClean_C) (O:=sB) Tryz.func275 (by kernel_rfl) fun args objs=>by
 unfold yJ;split
 · rename_i p;exact .inr fun _ hyp_=>aO (Λ:=sC (fu p)) (by kernel_rfl) (al (l':=[Ff,yC,yF]) (by kernel_rfl) ⟨OZ _,H9 _,H_ _,trivial⟩) (by kernel_rfl) (hv p _ hyp_)
 · exact .inl rfl
def ab9: SC:=[⟨201,_,dx⟩,⟨74,_,H5⟩,⟨318,_,EW⟩,⟨103,_,LX⟩]
def AO (s: aa): Br:=(.ite (decide (1≤(s.length: Int))) (.ite (!(decide ((s.length: Int)≤60))) (.ret (AV.bool false) []) (.ite (isM s) (.ite (!(aP hoB s)) (.ret (AV.bool false) []) (.ite (decide (s.length≤1000000)) (.ite (decide ((List.length (jD s 46))≤1000000)) (.ret (AV.bool (!(inP (jD s 46) ([]: aa)))) []) .fail) .fail)) .fail)) (.ret (AV.bool false) []))
def Tz: List AV→List Ob→Br
 | [.str s],[]=>AO s
 | _,_=> .fail
theorem iHost_ok: Sound Kx 320 Tz:=ae (C:=ab9) (O:=O0) Tryz.func320 (by kernel_rfl) fun args objs=>by
 unfold Tz;split
 · exact .inr (by kernel_rfl)
 · exact .inl rfl
def O1: SC:=[⟨315,_,XW⟩,⟨201,_,dx⟩,⟨316,_,Tx⟩]
def mm (s: aa): Br:=(.ite (decide (s.length≤1000000)) (.ite (iw s) (.ite (decide (0≤(fj s))) (.ite (!(decide ((fj s)≤999999999999999))) (.ret (AV.tup [.int .i64 0,.bool false]) []) (.ite (!(decide ((bif (bD (fj s)) then (bR (fj s)) else ([]: aa))=s))) (.ret (AV.tup [.int .i64 0,.bool false]) []) (.ret (AV.tup [.int .i64 (fj s),.bool true]) []))) (.ret (AV.tup [.int .i64 0,.bool false]) [])) (.ret (AV.tup [.int .i64 0,.bool false]) [])) .fail)
def yK: List AV→List Ob→Br
 | [.str s],[]=>mm s
 | _,_=> .fail
theorem iReadDec_ok: Sound Kx 285 yK:=ae (C:=O1) (O:=O0) Tryz.func285 (by kernel_rfl) fun args objs=>by
 unfold yK;split
 · exact .inr (by kernel_rfl)
 · exact .inl rfl
def bN: List aa→aa
 | []=>[]
 | w::r=>47::(w++bN r)
theorem O2 (w: aa) (r: List aa): bN (w::r)=47::(w++bN r):=rfl
theorem ag8 {a b: Bool} (h: a=true) (k: b=true): (a&&b)=true:=by rw [h,k];rfl
theorem O3 (l: List aa): Lib.joinTail [47] l=bN l:=by
 induction l with
 | nil=>rfl
 | cons w r ih=>
   unfold bN
   rw [← ih]
   simp [Lib.joinTail]
theorem yL (l: List aa): 47::eI l [47]=bif decide (bN l=[]) then [47] else bN l:=by
 cases l with
 | nil=>rfl
 | cons w r=>
   unfold eI
   rw [Lib.join_cons,O3,O2,dF' (by simp)];rfl
theorem vk (a b: List aa): bN (a++b)=bN a++bN b:=by
 induction a with
 | nil=>rfl
 | cons w a ih=>simp only [List.cons_append,bN,ih];simp
theorem Fi (l: List aa): l.length≤(bN l).length:=by
 induction l with
 | nil=>exact Nat.le_refl _
 | cons w r ih=>simp only [bN,List.length_cons,List.length_append];omega
theorem vl (b: Int): ∀ (r cur: aa),(bN (pL b cur r)).length=cur.length + r.length + 1
 | [],cur=>by simp [pL,bN]
 | x::r,cur=>by
   rw [u7]
   cases decide (by8 x=b)
   · rw [cond_false,vl b r];simp;try omega
   · rw [cond_true];simp only [bN,List.length_cons,List.length_append,vl b r];simp;try omega
theorem O4 (l: List aa): (bN l.dropLast).length≤(bN l).length:=by
 cases h: l.reverse with
 | nil=>have: l=[]:=by simpa using h
        subst this;exact Nat.le_refl _
 | cons w r=>
   have e: l=r.reverse++[w]:=by rw [← List.reverse_reverse l,h];simp
   rw [e,List.dropLast_concat,vk];simp
theorem O5 (out: List aa) (w: aa): (bN (fT out w)).length≤(bN out).length + w.length + 1:=by
 unfold fT
 cases decide (w=[46])
 · cases decide (w=[46,46])
   · simp only [cond_false,vk,List.length_append,bN,List.length_cons];simp;omega
   · have:=O4 out;simp only [cond_true,cond_false];omega
 · rw [cond_true];omega
theorem pO: ∀ (l out: List aa),(bN (l.foldl fT out)).length≤(bN out).length + (bN l).length
 | [],out=>by simp
 | w::l,out=>by
   have h1:=O5 out w
   have h2:=pO l (fT out w)
   simp only [List.foldl_cons,bN,List.length_cons,List.length_append];omega
theorem pP (l: List aa): (bN (l_ l)).length≤(bN l).length + 1:=by
 unfold l_
 have:=pO l []
 rw [vk]
 cases HX (l.getLastD [])
 · simp [bN] at this ⊢;omega
 · simp [bN] at this ⊢;omega
theorem Mm (l: List aa): ∀ out: List aa,(l.foldl fT out).length≤out.length + l.length:=by
 induction l with
 | nil=>intro out;simp
 | cons w l ih=>intro out;have:=ih (fT out w);have:=vc out w;simp only [List.foldl_cons,List.length_cons];omega
theorem Mn (l: List aa): (eI l [47]).length≤(bN l).length:=by
 have:=congrArg List.length (yL l)
 simp only [List.length_cons] at this
 cases h: decide (bN l=[])
 · rw [h,cond_false] at this;omega
 · rw [h,cond_true] at this;simp only [List.length_cons,List.length_nil] at this;omega
theorem Mo (l: List aa) (v: Int) (h: v=((l.length - 1 : Nat): Int)): cut l 0 v=l.dropLast:=by
 subst h
 unfold cut
 rw [Int.toNat_natCast]
 simp [List.dropLast_eq_take]
theorem Fj: ∀ (l: List aa),l≠[]→l.getD (l.length - 1) []=l.getLastD []
 | [],h=>absurd rfl h
 | [w],_=>rfl
 | w::x::r,_=>by
   have ih:=Fj (x::r) (by simp)
   simp only [List.length_cons,Nat.add_sub_cancel] at ih ⊢
   rw [List.getD_cons_succ,ih]
   rfl
theorem Ib (l0 l: List aa) (hl: l.length≤1000000) (k: List aa→List aa→OR'): ∀ (r: List aa) (i: Int) (out: List aa) (n: Nat),At l i r→r.length < n→out.length + r.length≤1000000→
 iG n l0 l (l.length: Int) i out k=k l0 (r.foldl fT out):=by
 intro r;induction r with
 | nil=>intro i out n h hn ho;obtain ⟨n,rfl⟩:=bL hn;unfold iG n6;simp only [h.dge,cond_false];rfl
 | cons w r ih=>
   intro i out n h hn ho;obtain ⟨n,rfl⟩:=bL hn
   simp only [List.length_cons] at hn ho
   have hs:=vc out w
   have hr:=ih (i + 1) (fT out w) n h.step (by omega) (by omega)
   have hap: decide ((out.length + [w].length) * 16≤140737488355328)=true:=dT' (by simp only [List.length_singleton];omega)
   have hv: (if (0 : Int) < ad ((out.length: Int) - 1) then ad ((out.length: Int) - 1) else 0)=((out.length - 1 : Nat): Int):=by
    rw [w64 (by omega) (by omega)]
    split <;> omega
   have q1: decide ((0 : Int)≤((out.length - 1 : Nat): Int))=true:=dT' (by omega)
   have q2: decide (((out.length - 1 : Nat): Int)≤(out.length: Int))=true:=dT' (by omega)
   unfold iG n6
   simp only [h.dlt,h.dnn,h.get,cond_true,h.next (show l.length≤4611686018427387904 by omega),bO,hap,hv,q1,q2,Mo out _ rfl]
   simp only [List.foldl_cons]
   unfold fT at hr ⊢
   cases c1: decide (w=[46])
   · cases c2: decide (w=[46,46])
     · rw [c1,c2] at hr;exact hr
     · rw [c1,c2] at hr;exact hr
   · rw [c1] at hr;exact hr
theorem kQ (c: UInt8) (r: aa) (h: c≠47): bb (c::r)=[]:=by
 unfold bb
 split
 · rename_i e;injection e with e1 e2;exact absurd e1 h
 · rfl
theorem n8 (r: aa): bb (47::r)=bif rn (47::r) then 47::eI (l_ (jD (eF r) 47)) [47] else []:=rfl
theorem TA (s: aa) (h: aP cZ s=true): Wb s=true:=by
 unfold Wb aP at *
 rw [List.all_eq_true] at *
 intro c hc
 have:=h c hc
 simp only [cZ,Bool.and_eq_true,decide_eq_true_eq] at this
 exact dT' (by omega)
theorem XZ (s: aa) (a b: UInt8): decide (0≤pM s [a,b])=(cH s (by8 a)||cH s (by8 b)):=by
 rw [mc]
 cases cH s (by8 a)||cH s (by8 b)
 · rfl
 · rw [cond_true];exact dT' (by omega)
theorem Ic (r: aa) (h: r.length≤200): (jD (eF r) 47).length≤201∧(bN (jD (eF r) 47)).length≤201:=by
 have h1:=nZ r
 have h2:=u_ (eF r) 47
 have h3:=vl 47 (eF r) []
 unfold jD at h2 ⊢
 simp only [List.length_nil] at h3
 omega
def aiG (p: aa→AV): List AV→List Ob→Br
 | [.str s],[]=> .ite (isM s) (.ret (p s) []) .fail
 | _,_=> .fail
theorem yM: Sound Kx 286 (wa fun s=> .str (bb s)):=by
 refine (H8 (φ:=fun s=> .ite (isM s) (.ret (.str (bb s)) []) .fail) (fun s=>s.length + 3) fun p r h=>?_).of fun args objs r h=>?_
 · obtain ⟨hM,h2⟩:=ai h
   cases h2
   unfold yA
   cases p with
   | nil=>rfl
   | cons c r=>
     have e1: decide ((1 : Int)≤((c::r).length: Int))=true:=dT' (by simp only [List.length_cons];omega)
     have e2: cut (c::r) 0 1=[c]:=rfl
     simp only [e1,cond_true,e2]
     by_cases hc: c=47
     · subst hc
       rw [n8]
       unfold rn
       simp only [decide_true,Bool.not_true,cond_false,hM,cond_true]
       cases d1: decide ((200 : Int) < ((47::r: aa).length: Int))
       · have d1':=of_decide_eq_false d1
         simp only [List.length_cons] at d1'
         rw [dT' (show (47::r: aa).length≤200 by simp only [List.length_cons];omega)]
         simp only [cond_false,Bool.true_and]
         cases d2: aP cZ (47::r)
         · rfl
         have a1:=TA _ d2
         have m1: decide ((47::r: aa).length≤1000000)=true:=dT' (by simp only [List.length_cons];omega)
         simp only [Bool.not_true,cond_false,Bool.true_and,Bool.and_true,a1,m1,cond_true,XZ]
         rw [show by8 35=35 from rfl,show by8 63=63 from rfl]
         cases d3: cH (47::r) 35
         · cases d4: cH (47::r) 63
           · simp only [Bool.or_false,cond_false,Bool.not_false,Bool.and_self,cond_true,ym]
             have hcut: cut (47::eF r) 1 ((47::eF r).length: Int)=eF r:=by
              exact S1 (p:=[47]) (r:=[]) (by simp) rfl (by simp only [List.length_cons];omega)
             have hb:=Ic r (by omega)
             have hp:=nZ r
             rw [hcut]
             have n1: decide ((1 : Int)≤((47::eF r).length: Int))=true:=dT' (by simp only [List.length_cons];omega)
             have n2: decide ((eF r).length≤1000000)=true:=dT' (by omega)
             rw [n1,n2]
             simp only [cond_true]
             generalize hL: jD (eF r) 47=L at hb
             have hne: L≠[]:=by rw [← hL];exact S4 47 _ _
             rw [Ib L L (by omega) _ L 0 [] _ (At.start L) (by have:=u_ (eF r) 47;rw [hL] at this;simp only [List.length_cons];omega) (by simp;omega)]
             have hlen: 1≤L.length:=List.length_pos_iff.2 hne
             have w1: ad ((L.length: Int) - 1)=(L.length: Int) - 1:=w64 (by omega) (by omega)
             have t1: ((L.length: Int) - 1).toNat=L.length - 1:=by omega
             have g1:=pP L
             have g2:=Mn (l_ L)
             have g3:=Fi (l_ L)
             have g4:=pO L []
             have g5:=Mm L []
             have q1: decide ((0 : Int)≤(L.length: Int) - 1)=true:=dT' (by omega)
             have q2: decide ((L.length: Int) - 1 < (L.length: Int))=true:=dT' (by omega)
             have q3: decide (((L.foldl fT []).length + 1) * 16≤140737488355328)=true:=dT' (by simp at g5;omega)
             simp only [w1,t1,q1,q2,q3,cond_true,Fj L hne,bO]
             have hsd: HX (L.getLastD [])=(decide (L.getLastD []=[46])||decide (L.getLastD []=[46,46])):=rfl
             unfold l_ at g1 g2 g3 ⊢
             rw [hsd] at g1 g2 g3 ⊢
             cases z1: decide (L.getLastD []=[46])
             · cases z2: decide (L.getLastD []=[46,46])
               · rw [z1,z2] at g1 g2 g3
                 simp only [Bool.or_false,cond_false,List.append_nil] at g1 g2 g3 ⊢
                 exact Eq.trans (mj (ag8 (dT' (by omega)) (dT' (by omega)))) (Eq.trans (mj (dT' (by omega))) rfl)
               · rw [z1,z2] at g1 g2 g3
                 simp only [Bool.or_true,cond_true,cond_false] at g1 g2 g3 ⊢
                 exact Eq.trans (mj (ag8 (dT' (by omega)) (dT' (by omega)))) (Eq.trans (mj (dT' (by omega))) rfl)
             · rw [z1] at g1 g2 g3
               simp only [Bool.true_or,cond_true] at g1 g2 g3 ⊢
               exact Eq.trans (mj (ag8 (dT' (by omega)) (dT' (by omega)))) (Eq.trans (mj (dT' (by omega))) rfl)
           · rfl
         · rfl
       · have d1':=of_decide_eq_true d1
         rw [dF' (show ¬ (47::r: aa).length≤200 by omega)]
         rfl
     · rw [kQ c r hc,dF' (show ¬ [c]=[47] from fun e=>hc (by injection e))]
       rfl
 · unfold wa at h;split at h
   · exact h
   · cases h
theorem Fk (p: aa) (hl: p.length≤4611686018427387904) (k0 k1: aa→OR'): ∀ (r: aa) (i: Int) (n: Nat),At p i r→r.length < n→
 iH n p i k0 k1=bif cH r 35||cH r 63 then k0 p else k1 p:=by
 intro r;induction r with
 | nil=>intro i n h hn;obtain ⟨n,rfl⟩:=bL hn;unfold iH n7;simp only [h.dge,cond_false];rfl
 | cons a r ih=>
   intro i n h hn;obtain ⟨n,rfl⟩:=bL hn
   have hs:=ih (i + 1) n h.step (by simp at hn;omega)
   have e1: cH (a::r) 35=(decide (by8 a=35)||cH r 35):=rfl
   have e2: cH (a::r) 63=(decide (by8 a=63)||cH r 63):=rfl
   unfold iH n7
   simp only [h.dlt,h.dnn,h.str,cond_true,h.next hl,hs,e1,e2]
   cases decide (by8 a=35) <;> cases decide (by8 a=63) <;> cases cH r 35 <;> cases cH r 63 <;> rfl
def vm: List aa→List aa→List aa
 | out,[]=>out
 | out,w::r=>vm (fT out w++(bif decide (r=[])&&HX w then [[]] else [])) r
theorem Mp: ∀ (r out: List aa),vm out r=r.foldl fT out++(bif HX (r.getLastD []) then [[]] else [])
 | [],out=>by simp [vm,HX]
 | [w],out=>by
   unfold vm vm
   rw [dT' rfl,Bool.true_and];rfl
 | w::x::r,out=>by
   unfold vm
   rw [dF' (by simp),Bool.false_and,cond_false,List.append_nil,Mp (x::r)]
   rfl
theorem Id (l: List aa) (hl: l.length≤1000000) (k: List aa→OR'): ∀ (r: List aa) (i: Int) (out: List aa) (n: Nat),At l i r→r.length < n→out.length + r.length≤1000000→
 cY n i l out k=k (vm out r):=by
 intro r;induction r with
 | nil=>intro i out n h hn ho;obtain ⟨n,rfl⟩:=bL hn;unfold cY iI;simp only [h.dge,cond_false];rfl
 | cons w r ih=>
   intro i out n h hn ho;obtain ⟨n,rfl⟩:=bL hn
   simp only [List.length_cons] at hn ho
   have hs:=vc out w
   have hle:=h.le
   simp only [List.length_cons] at hle
   have hi:=h.nn
   have hlast: decide (i + 1=(l.length: Int))=decide (r=[]):=by
    rw [Bool.eq_iff_iff,decide_eq_true_eq,decide_eq_true_eq]
    constructor
    · intro e;exact List.length_eq_zero_iff.1 (by omega)
    · intro e;have: r.length=0:=by rw [e];rfl
      omega
   have hlen: (fT out w++(bif decide (r=[])&&HX w then [[]] else [])).length + r.length≤1000000∨r=[]:=by
    cases r with
    | nil=>exact .inr rfl
    | cons x r=>rw [dF' (by simp),Bool.false_and,cond_false,List.append_nil];exact .inl (by omega)
   have hr: ∀ o,o.length + r.length≤1000000→cY n (i + 1) l o k=k (vm o r):=fun o ho'=>ih (i + 1) o n h.step (by omega) ho'
   have hend: ∀ o: List aa,r=[]→cY n (i + 1) l o k=k o:=fun o hr0=>by
    subst hr0
    obtain ⟨m,rfl⟩: ∃ m,n=m + 1:=⟨n - 1,by simp at hn;omega⟩
    have h2:=h.step
    unfold cY iI;simp only [h2.dge,cond_false]
   have hany: ∀ o,(o.length + r.length≤1000000∨r=[])→cY n (i + 1) l o k=k (vm o r):=fun o ho'=>by
    rcases ho' with ho' | ho'
    · exact hr o ho'
    · rw [hend o ho',ho'];rfl
   have hap: decide ((out.length + [w].length) * 16≤140737488355328)=true:=dT' (by simp only [List.length_singleton];omega)
   have hap1: decide ((out.length + 1) * 16≤140737488355328)=true:=dT' (by omega)
   have hw1: ad ((out.length: Int) - 1)=(out.length: Int) - 1:=w64 (by omega) (by omega)
   have main: vm out (w::r)=vm (fT out w++(bif decide (r=[])&&HX w then [[]] else [])) r:=rfl
   rw [main]
   unfold cY iI
   simp only [h.dlt,h.dnn,h.get,cond_true,h.next (show l.length≤4611686018427387904 by omega),bO,hap,hap1,hw1,hlast]
   by_cases g1: w=[46]
   · have g2: decide (w=[46,46])=false:=dF' (by rw [g1];decide)
     have g3: HX w=true:=by rw [g1];rfl
     have g4: fT out w=out:=by unfold fT;rw [dT' g1];rfl
     rw [dT' g1,g2,g3,g4,Bool.and_true]
     rw [g3,g4,Bool.and_true] at hlen
     simp only [cond_true,cond_false]
     cases z: decide (r=[])
     · rw [z] at hlen;rw [cond_false] at hlen ⊢;rw [cond_false,hany _ (by simpa using hlen)];simp
     · rw [z] at hlen;rw [cond_true] at hlen ⊢;rw [cond_true,hany _ hlen]
   · have g1': decide (w=[46])=false:=dF' g1
     by_cases g2: w=[46,46]
     · have g2': decide (w=[46,46])=true:=dT' g2
       have g3: HX w=true:=by unfold HX;rw [g1',g2'];rfl
       have g4: fT out w=out.dropLast:=by unfold fT;rw [g1',g2'];rfl
       rw [g1',g2',g3,g4,Bool.and_true]
       rw [g3,g4,Bool.and_true] at hlen
       simp only [cond_true,cond_false,Bool.not_true]
       cases ho0: decide ((0 : Int) < (out.length: Int))
       · have: out=[]:=List.length_eq_zero_iff.1 (by have:=of_decide_eq_false ho0;omega)
         subst this
         simp only [List.dropLast_nil] at hlen ⊢
         simp only [cond_false]
         cases z: decide (r=[])
         · rw [z] at hlen;rw [cond_false] at hlen ⊢;rw [cond_false,hany _ (by simpa using hlen)];simp
         · rw [z] at hlen;rw [cond_true] at hlen ⊢;rw [cond_true,hany _ hlen]
       · have ho1:=of_decide_eq_true ho0
         have hc:=Mo out ((out.length: Int) - 1) (by omega)
         have hap2: decide ((out.dropLast.length + 1) * 16≤140737488355328)=true:=dT' (by simp;omega)
         rw [dT' (show (0 : Int)≤(out.length: Int) - 1 by omega),dT' (show (out.length: Int) - 1≤(out.length: Int) by omega)]
         simp only [cond_true,hc,hap2]
         cases z: decide (r=[])
         · rw [z] at hlen;rw [cond_false] at hlen ⊢;rw [cond_false,hany _ (by simpa using hlen)];simp
         · rw [z] at hlen;rw [cond_true] at hlen ⊢;rw [cond_true,hany _ hlen]
     · have g2': decide (w=[46,46])=false:=dF' g2
       have g3: HX w=false:=by unfold HX;rw [g1',g2'];rfl
       have g4: fT out w=out++[w]:=by unfold fT;rw [g1',g2'];rfl
       rw [g1',g2',g3,g4,Bool.and_false]
       rw [g3,g4,Bool.and_false] at hlen
       simp only [cond_false,Bool.not_false,cond_true]
       rw [hany _ (by simpa using hlen)];simp
theorem Ie (l: List aa) (hl: l.length≤1000000) (k: aa→OR'): ∀ (r: List aa) (i: Int) (acc: aa) (n: Nat),At l i r→r.length < n→acc.length + (bN r).length≤1000000→
 f9 n acc i l k=k (acc++bN r):=by
 intro r;induction r with
 | nil=>intro i acc n h hn ho;obtain ⟨n,rfl⟩:=bL hn;unfold f9 kP;simp only [h.dge,cond_false,bN,List.append_nil]
 | cons w r ih=>
   intro i acc n h hn ho;obtain ⟨n,rfl⟩:=bL hn
   simp only [List.length_cons,bN,List.length_append] at hn ho
   have hr:=ih (i + 1) (acc++[47]++w) n h.step (by omega) (by simp;omega)
   have q1: decide (acc.length + 1≤9223372036854775807)=true:=dT' (by omega)
   have q2: decide ((acc++[47]).length + w.length≤9223372036854775807)=true:=dT' (by simp;omega)
   unfold f9 kP
   simp only [h.dlt,h.dnn,h.get,cond_true,h.next (show l.length≤4611686018427387904 by omega),q1,q2,hr,bN]
   simp
theorem yN: Sound Kx 275 (wa fun s=> .str (bb s)):=by
 refine (Ia (φ:=fun s=> .ite (isM s) (.ret (.str (bb s)) []) .fail) (fun s=>s.length + 5) fun p r h=>?_).of fun args objs r h=>?_
 · obtain ⟨hM,h2⟩:=ai h
   cases h2
   unfold yI
   cases p with
   | nil=>rfl
   | cons c r=>
     have e0: decide (((c::r).length: Int)=0)=false:=dF' (by simp only [List.length_cons];omega)
     have e1: decide ((0 : Int) < ((c::r).length: Int))=true:=dT' (by simp only [List.length_cons];omega)
     have e2: aq (c::r) 0=by8 c:=rfl
     simp only [e0,e1,cond_true,cond_false,e2,hM,Bool.and_true]
     by_cases hc: c=47
     · subst hc
       rw [n8]
       unfold rn
       rw [show decide (by8 47=47)=true from rfl]
       simp only [Bool.not_true,cond_false]
       cases d1: decide ((200 : Int) < ((47::r: aa).length: Int))
       · have d1':=of_decide_eq_false d1
         simp only [List.length_cons] at d1'
         rw [dT' (show (47::r: aa).length≤200 by simp only [List.length_cons];omega)]
         simp only [cond_false,Bool.true_and]
         cases d2: aP cZ (47::r)
         · rfl
         have m1: decide ((47::r: aa).length≤1000000)=true:=dT' (by simp only [List.length_cons];omega)
         simp only [Bool.not_true,cond_false,Bool.true_and]
         rw [Fk _ (by simp only [List.length_cons];omega) _ _ (47::r) 0 _ (At.start _) (by simp only [List.length_cons];omega)]
         cases d3: cH (47::r) 35
         · cases d4: cH (47::r) 63
           · simp only [Bool.or_false,cond_false,Bool.not_false,Bool.and_self,cond_true,ym,m1]
             have hcut: cut (47::eF r) 1 ((47::eF r).length: Int)=eF r:=by
              exact S1 (p:=[47]) (r:=[]) (by simp) rfl (by simp only [List.length_cons];omega)
             have hb:=Ic r (by omega)
             have hp:=nZ r
             rw [hcut]
             have n1: decide ((1 : Int)≤((47::eF r).length: Int))=true:=dT' (by simp only [List.length_cons];omega)
             have n2: decide ((eF r).length≤1000000)=true:=dT' (by omega)
             rw [n1,n2]
             simp only [cond_true]
             have hL0:=u_ (eF r) 47
             generalize hL: jD (eF r) 47=L at hb hL0
             rw [Id L (by omega) _ L 0 [] _ (At.start L) (by simp only [List.length_cons];omega) (by simp;omega),Mp]
             have g1:=pP L
             have g3:=Fi (l_ L)
             have g5:=Mm L []
             rw [show L.foldl fT []++(bif HX (L.getLastD []) then [[]] else [])=l_ L from rfl]
             have g6: (l_ L).length≤L.length + 1:=by
              unfold l_
              rw [List.length_append]
              cases HX (L.getLastD []) <;> simp at g5 ⊢ <;> omega
             rw [Ie (l_ L) (by omega) _ (l_ L) 0 [] _ (At.start _) (by simp only [List.length_cons];omega) (by simp;omega),List.nil_append,yL]
             cases decide (bN (l_ L)=[]) <;> rfl
           · rfl
         · rfl
       · have d1':=of_decide_eq_true d1
         rw [dF' (show ¬ (47::r: aa).length≤200 by omega)]
         rfl
     · rw [kQ c r hc,dF' (show ¬ by8 c=47 from fun e=>hc (GJ e))]
       cases decide ((200 : Int) < ((c::r).length: Int)) <;> rfl
 · unfold wa at h;split at h
   · exact h
   · cases h
theorem TB: Sound Kx 320 (wa fun s=> .bool (lb s)):=iHost_ok.of fun args objs r h=>by
 unfold wa at h
 split at h
 case h_2=>cases h
 rename_i s
 obtain ⟨hM,h2⟩:=ai h
 cases h2
 show (AO s).val=some (.bool (lb s),[])
 unfold AO lb
 cases d1: decide ((1 : Int)≤(s.length: Int))
 · have d1':=of_decide_eq_false d1
   rw [dF' (show ¬ 1≤s.length by omega)];rfl
 · have d1':=of_decide_eq_true d1
   rw [dT' (show 1≤s.length by omega)]
   cases d2: decide ((s.length: Int)≤60)
   · have d2':=of_decide_eq_false d2
     rw [dF' (show ¬ s.length≤60 by omega)];rfl
   · have d2':=of_decide_eq_true d2
     have hlen:=u_ s 46
     rw [dT' (show s.length≤60 by omega),hM]
     cases aP hoB s
     · rfl
     · refine (bv rfl).trans ((eH rfl).trans ((bv rfl).trans ((eH rfl).trans ((bv (dT' (by omega))).trans ((bv (dT' (by omega))).trans rfl)))))
def aeQ: List AV→List Ob→Br
 | [.str s],[]=> .ite (decide (s.length≤1000000)) (.ret (.tup [.int .i64 (jA s).1, .bool (jA s).2]) []) .fail
 | _,_=> .fail
theorem Fl: Sound Kx 285 aeQ:=iReadDec_ok.of fun args objs r h=>by
 unfold aeQ at h
 split at h
 case h_2=>cases h
 rename_i s
 obtain ⟨hM,h2⟩:=ai h
 cases h2
 show (mm s).val=_
 unfold mm
 refine (bv hM).trans ?_
 rw [Sb]
 cases c1: iw s
 · rfl
 · cases c2: decide (0≤fj s)
   · rfl
   · cases c3: decide (fj s≤999999999999999)
     · rfl
     · have h15: bD (fj s)=true:=by unfold bD;rw [c2,c3];rfl
       rw [h15]
       cases c4: decide (bR (fj s)=s)
       · refine (bv rfl).trans ((bv rfl).trans ((eH rfl).trans ((bv ?_).trans rfl)))
         rw [cond_true,c4];rfl
       · refine (bv rfl).trans ((bv rfl).trans ((eH rfl).trans ((eH ?_).trans rfl)))
         rw [cond_true,c4];rfl
def ab_: SC:=[⟨232,_,GM⟩]
def X0 (h: aa) (po: Int) (pa q: aa) (hq: Bool): Br:=(.ite (decide (po=80)) (.ret (AV.str ([]: aa)) []) (.ite (bD po) (.ite (decide ((1 + (List.length (bR po)))≤9223372036854775807)) (.ret (AV.str (([58]: aa)++(bR po))) []) .fail) .fail))
def TC: List AV→List Ob→Br
 | [.agg [.str h, .int .i64 po, .str pa, .str q, .bool hq]],[]=>X0 h po pa q hq
 | _,_=> .fail
theorem X1: Sound Kx 288 TC:=ae (C:=ab_) (O:=O0) Tryz.func288 (by kernel_rfl) fun args objs=>by
 unfold TC;split
 · exact .inr (by kernel_rfl)
 · exact .inl rfl
def TD (h: aa) (po: Int) (pa q: aa) (hq: Bool): Br:=(.ite hq (.ite (decide ((pa.length + 1)≤9223372036854775807)) (.ite (decide (((List.length (pa++([63]: aa))) + q.length)≤9223372036854775807)) (.ret (AV.str ((pa++([63]: aa))++q)) []) .fail) .fail) (.ret (AV.str pa) []))
def Mq: List AV→List Ob→Br
 | [.agg [.str h, .int .i64 po, .str pa, .str q, .bool hq]],[]=>TD h po pa q hq
 | _,_=> .fail
theorem TE: Sound Kx 289 Mq:=ae (C:=[]) (O:=O0) Tryz.func289 (by kernel_rfl) fun args objs=>by
 unfold Mq;split
 · exact .inr (by kernel_rfl)
 · exact .inl rfl
def aca: SC:=[⟨288,_,X1⟩,⟨289,_,TE⟩]
def AP (h: aa) (po: Int) (pa q: aa) (hq: Bool): Br:=(.ite (decide ((7 + h.length)≤9223372036854775807)) (.ite (decide (po=80)) (.ite (decide (((List.length (([104,116,116,112,58,47,47]: aa)++h)) + 0)≤9223372036854775807)) (.ite hq (.ite (decide ((pa.length + 1)≤9223372036854775807)) (.ite (decide (((List.length (pa++([63]: aa))) + q.length)≤9223372036854775807)) (.ite (decide (((List.length ((([104,116,116,112,58,47,47]: aa)++h)++([]: aa))) + (List.length ((pa++([63]: aa))++q)))≤9223372036854775807)) (.ret (AV.str (((([104,116,116,112,58,47,47]: aa)++h)++([]: aa))++((pa++([63]: aa))++q))) []) .fail) .fail) .fail) (.ite (decide (((List.length ((([104,116,116,112,58,47,47]: aa)++h)++([]: aa))) + pa.length)≤9223372036854775807)) (.ret (AV.str (((([104,116,116,112,58,47,47]: aa)++h)++([]: aa))++pa)) []) .fail)) .fail) (.ite (bD po) (.ite (decide ((1 + (List.length (bR po)))≤9223372036854775807)) (.ite (decide (((List.length (([104,116,116,112,58,47,47]: aa)++h)) + (List.length (([58]: aa)++(bR po))))≤9223372036854775807)) (.ite hq (.ite (decide ((pa.length + 1)≤9223372036854775807)) (.ite (decide (((List.length (pa++([63]: aa))) + q.length)≤9223372036854775807)) (.ite (decide (((List.length ((([104,116,116,112,58,47,47]: aa)++h)++(([58]: aa)++(bR po)))) + (List.length ((pa++([63]: aa))++q)))≤9223372036854775807)) (.ret (AV.str (((([104,116,116,112,58,47,47]: aa)++h)++(([58]: aa)++(bR po)))++((pa++([63]: aa))++q))) []) .fail) .fail) .fail) (.ite (decide (((List.length ((([104,116,116,112,58,47,47]: aa)++h)++(([58]: aa)++(bR po)))) + pa.length)≤9223372036854775807)) (.ret (AV.str (((([104,116,116,112,58,47,47]: aa)++h)++(([58]: aa)++(bR po)))++pa)) []) .fail)) .fail) .fail) .fail)) .fail)
def TF: List AV→List Ob→Br
 | [.agg [.str h, .int .i64 po, .str pa, .str q, .bool hq]],[]=>AP h po pa q hq
 | _,_=> .fail
theorem X2: Sound Kx 243 TF:=ae (C:=aca) (O:=O0) Tryz.func243 (by kernel_rfl) fun args objs=>by
 unfold TF;split
 · exact .inr (by kernel_rfl)
 · exact .inl rfl
def acb: SC:=[⟨191,_,px⟩]
def X3 (h: aa) (po: Int) (pa q: aa) (hq: Bool): Br:=(.ite (decide (po=80)) (.ret (AV.str ([]: aa)) []) (.ite (bD po) (.ite (decide ((1 + (List.length (bR po)))≤9223372036854775807)) (.ret (AV.str (([58]: aa)++(bR po))) []) .fail) .fail))
def TG: List AV→List Ob→Br
 | [.agg [.str h, .int .i64 po, .str pa, .str q, .bool hq]],[]=>X3 h po pa q hq
 | _,_=> .fail
theorem X4: Sound Kx 304 TG:=ae (C:=acb) (O:=O0) Tryz.func304 (by kernel_rfl) fun args objs=>by
 unfold TG;split
 · exact .inr (by kernel_rfl)
 · exact .inl rfl
def TH (h: aa) (po: Int) (pa q: aa) (hq: Bool): Br:=(.ite hq (.ite (decide ((1 + q.length)≤9223372036854775807)) (.ret (AV.str (([63]: aa)++q)) []) .fail) (.ret (AV.str ([]: aa)) []))
def Mr: List AV→List Ob→Br
 | [.agg [.str h, .int .i64 po, .str pa, .str q, .bool hq]],[]=>TH h po pa q hq
 | _,_=> .fail
theorem TI: Sound Kx 305 Mr:=ae (C:=[]) (O:=O0) Tryz.func305 (by kernel_rfl) fun args objs=>by
 unfold Mr;split
 · exact .inr (by kernel_rfl)
 · exact .inl rfl
def acd: SC:=[⟨304,_,X4⟩,⟨305,_,TI⟩]
def AQ (h: aa) (po: Int) (pa q: aa) (hq: Bool): Br:=(.ite (decide ((7 + h.length)≤9223372036854775807)) (.ite (decide (po=80)) (.ite (decide (((List.length (([104,116,116,112,58,47,47]: aa)++h)) + 0)≤9223372036854775807)) (.ite (decide (((List.length ((([104,116,116,112,58,47,47]: aa)++h)++([]: aa))) + pa.length)≤9223372036854775807)) (.ite hq (.ite (decide ((1 + q.length)≤9223372036854775807)) (.ite (decide (((List.length (((([104,116,116,112,58,47,47]: aa)++h)++([]: aa))++pa)) + (List.length (([63]: aa)++q)))≤9223372036854775807)) (.ret (AV.str ((((([104,116,116,112,58,47,47]: aa)++h)++([]: aa))++pa)++(([63]: aa)++q))) []) .fail) .fail) (.ite (decide (((List.length (((([104,116,116,112,58,47,47]: aa)++h)++([]: aa))++pa)) + 0)≤9223372036854775807)) (.ret (AV.str ((((([104,116,116,112,58,47,47]: aa)++h)++([]: aa))++pa)++([]: aa))) []) .fail)) .fail) .fail) (.ite (bD po) (.ite (decide ((1 + (List.length (bR po)))≤9223372036854775807)) (.ite (decide (((List.length (([104,116,116,112,58,47,47]: aa)++h)) + (List.length (([58]: aa)++(bR po))))≤9223372036854775807)) (.ite (decide (((List.length ((([104,116,116,112,58,47,47]: aa)++h)++(([58]: aa)++(bR po)))) + pa.length)≤9223372036854775807)) (.ite hq (.ite (decide ((1 + q.length)≤9223372036854775807)) (.ite (decide (((List.length (((([104,116,116,112,58,47,47]: aa)++h)++(([58]: aa)++(bR po)))++pa)) + (List.length (([63]: aa)++q)))≤9223372036854775807)) (.ret (AV.str ((((([104,116,116,112,58,47,47]: aa)++h)++(([58]: aa)++(bR po)))++pa)++(([63]: aa)++q))) []) .fail) .fail) (.ite (decide (((List.length (((([104,116,116,112,58,47,47]: aa)++h)++(([58]: aa)++(bR po)))++pa)) + 0)≤9223372036854775807)) (.ret (AV.str ((((([104,116,116,112,58,47,47]: aa)++h)++(([58]: aa)++(bR po)))++pa)++([]: aa))) []) .fail)) .fail) .fail) .fail) .fail)) .fail)
def TJ: List AV→List Ob→Br
 | [.agg [.str h, .int .i64 po, .str pa, .str q, .bool hq]],[]=>AQ h po pa q hq
 | _,_=> .fail
theorem X5: Sound Kx 277 TJ:=ae (C:=acd) (O:=O0) Tryz.func277 (by kernel_rfl) fun args objs=>by
 unfold TJ;split
 · exact .inr (by kernel_rfl)
 · exact .inl rfl
def If: SC:=[⟨179,_,GN⟩]
def Fm (s: aa): Br:=(.ite (decide (s.length≤1000000)) (.ret (AV.agg [.str ([]: aa),.int .i64 0,.str (dD s ([63]: aa)).1,.str (dD s ([63]: aa)).2.1,.bool (dD s ([63]: aa)).2.2]) []) .fail)
def vn: List AV→List Ob→Br
 | [.str s],[]=>Fm s
 | _,_=> .fail
theorem Fo: Sound Kx 284 vn:=ae (C:=If) (O:=O0) Tryz.func284 (by kernel_rfl) fun args objs=>by
 unfold vn;split
 · exact .inr (by kernel_rfl)
 · exact .inl rfl
def smU (h: aa) (po: Int) (pa q: aa): Bool:=decide (h.length≤1000000)&&bD po&&decide (pa.length≤1000000)&&isM q
def agt (p: aa→Int→aa→aa→Bool→Bool) (v: aa→Int→aa→aa→Bool→AV): List AV→List Ob→Br
 | [.agg [.str h, .int .i64 po, .str pa, .str q, .bool hq]],[]=> .ite (p h po pa q hq) (.ret (v h po pa q hq) []) .fail
 | _,_=> .fail
def ah4: List AV→List Ob→Br:=agt (fun h po pa q _=>smU h po pa q) (fun h po pa q hq=> .str (B9 h po pa q hq))
theorem X6 {n: Nat} {s: List AV→List Ob→Br} (hs: Sound Kx n s) {p: aa→Int→aa→aa→Bool→Bool} {v: aa→Int→aa→aa→Bool→AV} (h: ∀ ho po pa q hq,p ho po pa q hq=true→(s [.agg [.str ho, .int .i64 po, .str pa, .str q, .bool hq]] []).val=some (v ho po pa q hq,[])): Sound Kx n (agt p v):=hs.of fun args objs r hv=>by
 unfold agt at hv
 split at hv
 case h_2=>cases hv
 obtain ⟨h1,h2⟩:=ai hv
 cases h2
 exact h _ _ _ _ _ h1
theorem Fp (n: Int) (h: bD n=true): (bR n).length≤15:=by
 unfold bD at h
 simp only [Bool.and_eq_true,decide_eq_true_eq] at h
 rw [cQ];exact uI _ (by omega)
theorem aae {h: aa} {po: Int} {pa q: aa} (hs: smU h po pa q=true): h.length≤1000000∧bD po=true∧pa.length≤1000000∧q.length≤4611686018427387904:=by
 unfold smU at hs
 simp only [Bool.and_eq_true,decide_eq_true_eq] at hs
 exact ⟨hs.1.1.1,hs.1.1.2,hs.1.2,fh hs.2⟩
theorem Fq: Sound Kx 243 ah4:=X6 X2 fun h po pa q hq hs=>by
 obtain ⟨h1,h2,h3,h4⟩:=aae hs
 have hd:=Fp po h2
 show (AP h po pa q hq).val=some (.str (B9 h po pa q hq),[])
 unfold AP B9 abZ L8 AF
 cases decide (po=80) <;> cases hq <;>
  simp (disch:=(first | omega | (simp only [List.length_append,List.length_cons,List.length_nil];omega))) only [Br.val,dle,h2,cond_true,cond_false,List.append_assoc,List.cons_append,List.nil_append,List.append_nil]
theorem TK: Sound Kx 277 ah4:=X6 X5 fun h po pa q hq hs=>by
 obtain ⟨h1,h2,h3,h4⟩:=aae hs
 have hd:=Fp po h2
 show (AQ h po pa q hq).val=some (.str (B9 h po pa q hq),[])
 unfold AQ B9 abZ L8 AF
 cases decide (po=80) <;> cases hq <;>
  simp (disch:=(first | omega | (simp only [List.length_append,List.length_cons,List.length_nil];omega))) only [Br.val,dle,h2,cond_true,cond_false,List.append_assoc,List.cons_append,List.nil_append,List.append_nil]
def X7: Opt:={ split:=true }
def X8: SC:=[⟨320,_,TB⟩,⟨201,_,dx⟩,⟨286,_,yM⟩,⟨74,_,kA⟩,⟨246,_,L9⟩,⟨243,_,Fq⟩]
def vo (h: aa) (po: Int) (pa q: aa) (hq: Bool): Br:=(.ite (isM h) (.ite (lb h) (.ite (decide (1≤po)) (.ite (decide (po≤65535)) (.ite (decide (pa=([]: aa))) (.ret (AV.bool false) []) (.ite (isM pa) (.ite (!(decide ((bb pa)=pa))) (.ret (AV.bool false) []) (.ite (isM q) (.ite (!(aP cZ q)) (.ret (AV.bool false) []) (.ite (cH q 35) (.ret (AV.bool false) []) (.ite (!hq) (.ite (!(decide (q=([]: aa)))) (.ret (AV.bool false) []) (.ite (smU h po pa q) (.ret (AV.bool (decide (((List.length (B9 h po pa q hq)): Int)≤200))) []) .fail)) (.ite (smU h po pa q) (.ret (AV.bool (decide (((List.length (B9 h po pa q hq)): Int)≤200))) []) .fail)))) .fail)) .fail)) (.ret (AV.bool false) [])) (.ret (AV.bool false) [])) (.ret (AV.bool false) [])) .fail)
def Ms: List AV→List Ob→Br
 | [.agg [.str h, .int .i64 po, .str pa, .str q, .bool hq]],[]=>vo h po pa q hq
 | _,_=> .fail
theorem TL: Sound Kx 287 Ms:=ae (C:=X8) (O:=X7) Tryz.func287 (by kernel_rfl) fun args objs=>by
 unfold Ms;split
 · exact .inr (by kernel_rfl)
 · exact .inl rfl
def X9: Opt:={ split:=true }
def X_: SC:=[⟨303,_,Tw⟩,⟨275,_,yN⟩,⟨188,_,sk⟩,⟨273,_,uW⟩,⟨277,_,TK⟩]
def vp (h: aa) (po: Int) (pa q: aa) (hq: Bool): Br:=(.ite (lb h) (.ite (decide (po < 1)) (.ret (AV.bool false) []) (.ite (decide (65535 < po)) (.ret (AV.bool false) []) (.ite (decide (pa=([]: aa))) (.ret (AV.bool false) []) (.ite (isM pa) (.ite (!(decide ((bb pa)=pa))) (.ret (AV.bool false) []) (.ite hq (.ite (decide (200 < (q.length: Int))) (.ret (AV.bool false) []) (.ite (!(decide (q=([]: aa)))) (.ite (isM q) (.ite ((aP cZ q)&&(decide (0 < (q.length: Int)))) (.ite (isM q) (.ite (!(decide ((an q 35)=q))) (.ret (AV.bool false) []) (.ite (smU h po pa q) (.ret (AV.bool (decide (((List.length (B9 h po pa q hq)): Int)≤200))) []) .fail)) .fail) (.ret (AV.bool false) [])) .fail) (.ite (isM q) (.ite (!(decide ((an q 35)=q))) (.ret (AV.bool false) []) (.ite (smU h po pa q) (.ret (AV.bool (decide (((List.length (B9 h po pa q hq)): Int)≤200))) []) .fail)) .fail))) (.ite (!(decide (q=([]: aa)))) (.ret (AV.bool false) []) (.ite (decide (200 < (q.length: Int))) (.ret (AV.bool false) []) (.ite (!(decide (q=([]: aa)))) (.ite (isM q) (.ite ((aP cZ q)&&(decide (0 < (q.length: Int)))) (.ite (isM q) (.ite (!(decide ((an q 35)=q))) (.ret (AV.bool false) []) (.ite (smU h po pa q) (.ret (AV.bool (decide (((List.length (B9 h po pa q hq)): Int)≤200))) []) .fail)) .fail) (.ret (AV.bool false) [])) .fail) (.ite (isM q) (.ite (!(decide ((an q 35)=q))) (.ret (AV.bool false) []) (.ite (smU h po pa q) (.ret (AV.bool (decide (((List.length (B9 h po pa q hq)): Int)≤200))) []) .fail)) .fail)))))) .fail)))) (.ret (AV.bool false) []))
def Mt: List AV→List Ob→Br
 | [.agg [.str h, .int .i64 po, .str pa, .str q, .bool hq]],[]=>vp h po pa q hq
 | _,_=> .fail
theorem TM: Sound Kx 276 Mt:=ae (C:=X_) (O:=X9) Tryz.func276 (by kernel_rfl) fun args objs=>by
 unfold Mt;split
 · exact .inr (by kernel_rfl)
 · exact .inl rfl
theorem Ft {pa: aa} (h: bb pa=pa) (h0: pa≠[]): pa.length≤200:=by
 cases pa with
 | nil=>exact absurd rfl h0
 | cons c r=>
   by_cases hc: c=47
   · subst hc
     rw [n8] at h
     cases ho: rn (47::r)
     · rw [ho,cond_false] at h;exact absurd h.symm h0
     · unfold rn at ho
       simp only [Bool.and_eq_true,decide_eq_true_eq] at ho
       exact ho.1.1.1
   · rw [kQ c r hc] at h;exact absurd h.symm h0
theorem Mu {h: aa} (hh: lb h=true): h.length≤60:=by
 unfold lb at hh
 simp only [Bool.and_eq_true,decide_eq_true_eq] at hh
 exact hh.1.1.2
theorem TN (n: Nat): decide ((n: Int)≤200)=decide (n≤200):=by
 rw [Bool.eq_iff_iff,decide_eq_true_eq,decide_eq_true_eq];omega
theorem sD (s: aa) (b: Int): decide (an s b=s)= !cH s b:=by
 induction s with
 | nil=>rfl
 | cons c s ih=>
   have e: cH (c::s) b=(decide (by8 c=b)||cH s b):=rfl
   unfold an at ih ⊢
   rw [e,List.takeWhile_cons]
   cases decide (by8 c=b)
   · simp only [Bool.not_false,if_true,Bool.false_or]
     rw [← ih,Bool.eq_iff_iff,decide_eq_true_eq,decide_eq_true_eq]
     simp
   · simp
theorem aaf (h: aa) (po: Int) (pa q: aa): q.length≤(B9 h po pa q true).length:=by
 unfold B9 L8
 simp only [cond_true,List.length_append,List.length_cons];omega
def ah5: List AV→List Ob→Br:=agt (fun h _ pa q _=>isM h&&isM pa&&isM q) (fun h po pa q hq=> .bool (bA h po pa q hq))
theorem TO {h: aa} {po: Int} {pa q: aa} (h1: lb h=true) (h2: decide (1≤po)=true) (h3: decide (po≤65535)=true) (h4: decide (pa=[])=false) (h5: decide (bb pa=pa)=true) (h6: isM q=true): smU h po pa q=true:=by
 have a:=Mu h1
 have b:=Ft (of_decide_eq_true h5) (of_decide_eq_false h4)
 have c:=of_decide_eq_true h2
 have d:=of_decide_eq_true h3
 unfold smU bD
 rw [dT' (show h.length≤1000000 by omega),dT' (show 0≤po by omega),dT' (show po≤999999999999999 by omega),dT' (show pa.length≤1000000 by omega),h6];rfl
theorem O6: Sound Kx 287 ah5:=X6 TL fun h po pa q hq hs=>by
 simp only [Bool.and_eq_true] at hs
 obtain ⟨⟨m1,m2⟩,m3⟩:=hs
 show (vo h po pa q hq).val=some (.bool (bA h po pa q hq),[])
 unfold vo bA
 rw [m1,m2,m3,TN]
 cases d1: lb h
 · rfl
 cases d2: decide (1≤po)
 · rfl
 cases d3: decide (po≤65535)
 · rfl
 cases d4: decide (pa=[])
 case true=>rfl
 cases d5: decide (bb pa=pa)
 · rfl
 rw [TO d1 d2 d3 d4 d5 m3]
 cases aP cZ q
 · rfl
 cases cH q 35
 case true=>rfl
 cases hq <;> cases decide (q=[]) <;> rfl
theorem O7: Sound Kx 276 ah5:=X6 TM fun h po pa q hq hs=>by
 simp only [Bool.and_eq_true] at hs
 obtain ⟨⟨m1,m2⟩,m3⟩:=hs
 show (vp h po pa q hq).val=some (.bool (bA h po pa q hq),[])
 unfold vp bA
 rw [m2,m3,TN,sD]
 have e2: decide (po < 1)= !decide (1≤po):=by rw [Bool.eq_iff_iff];simp
 have e3: decide (65535 < po)= !decide (po≤65535):=by rw [Bool.eq_iff_iff];simp
 rw [e2,e3]
 cases d1: lb h
 · rfl
 cases d2: decide (1≤po)
 · rfl
 cases d3: decide (po≤65535)
 · rfl
 cases d4: decide (pa=[])
 case true=>rfl
 cases d5: decide (bb pa=pa)
 · rfl
 rw [TO d1 d2 d3 d4 d5 m3]
 by_cases hq0: q=[]
 · subst hq0
   cases hq <;> rfl
 · have z: decide (q=[])=false:=dF' hq0
   have zl: decide ((0 : Int) < (q.length: Int))=true:=dT' (by have:=List.length_pos_iff.2 hq0;omega)
   rw [z,zl]
   cases hq
   · cases aP cZ q <;> cases cH q 35 <;> rfl
   · cases d6: decide ((200 : Int) < (q.length: Int))
     · cases aP cZ q <;> cases cH q 35 <;> rfl
     · have:=of_decide_eq_true d6
       have hl:=aaf h po pa q
       rw [dF' (show ¬ (B9 h po pa q true).length≤200 by omega),Bool.and_false];rfl
def O8: Opt:={ split:=true }
def O9: SC:=[⟨74,_,kA⟩,⟨246,_,L9⟩,⟨118,_,nj⟩,⟨283,_,S_⟩,⟨179,_,GN⟩,⟨284,_,Fo⟩,⟨285,_,Fl⟩,⟨286,_,yM⟩,⟨287,_,O6⟩]
abbrev aK (s: aa):=(dD (cut (cut s 7 (s.length: Int)) (pM (cut s 7 (s.length: Int)) ([47,63]: aa)) ((List.length (cut s 7 (s.length: Int))): Int)) ([63]: aa))
abbrev aL (s: aa):=(dD (cut (cut s 7 (s.length: Int)) ((List.length (cut s 7 (s.length: Int))): Int) ((List.length (cut s 7 (s.length: Int))): Int)) ([63]: aa))
abbrev bu (s: aa):=(Br.ret (AV.tup ((AV.agg ((AV.str ([]: aa))::((AV.int .i64 0)::((AV.str ([]: aa))::((AV.str ([]: aa))::((AV.bool false)::[]))))))::((AV.bool false)::[]))) [])
abbrev aR (s: aa):=(dD (cut (cut s 7 (s.length: Int)) 0 (pM (cut s 7 (s.length: Int)) ([47,63]: aa))) ([58]: aa))
abbrev aS (s: aa):=(dD (cut (cut s 7 (s.length: Int)) 0 ((List.length (cut s 7 (s.length: Int))): Int)) ([58]: aa))
abbrev bS (s: aa):=((List.length (cut s 7 (s.length: Int))): Int)
abbrev dt (s: aa):=(pM (cut s 7 (s.length: Int)) ([47,63]: aa))
abbrev gn (s: aa):=((AV.str (aL s).2.1)::((AV.bool (aL s).2.2)::[]))
abbrev go (s: aa):=((AV.str (aK s).2.1)::((AV.bool (aK s).2.2)::[]))
def mn (s: aa): Br:=(.ite (decide (200 < (s.length: Int))) (bu s) (.ite (isM s) (.ite (!(aP cZ s)) (bu s) (.ite (cH s 35) (bu s) (.ite (decide ((s.length: Int) < 7)) (bu s) (.ite (decide (7≤(s.length: Int))) (.ite (isM (cut s 0 7)) (.ite (!(decide ((ay (cut s 0 7))=([104,116,116,112,58,47,47]: aa)))) (bu s) (.ite (decide (7≤(s.length: Int))) (.ite ((((decide ((List.length (cut s 7 (s.length: Int)))≤1000000))&&true)&&(Wb (cut s 7 (s.length: Int))))&&true) (.ite (decide ((dt s) < 0)) (.ite (decide (0≤(bS s))) (.ite (decide ((bS s)≤(bS s))) (.ite (decide ((List.length (cut (cut s 7 (s.length: Int)) 0 (bS s)))≤1000000)) (.ite (decide (0≤(bS s))) (.ite (decide ((bS s)≤(bS s))) (.ite (decide ((List.length (cut (cut s 7 (s.length: Int)) (bS s) (bS s)))≤1000000)) (.ite (isM (aS s).1) (.ite (aS s).2.2 (.ite (decide ((List.length (aS s).2.1)≤1000000)) (.ite (!(jA (aS s).2.1).2) (bu s) (.ite (decide ((aL s).1=([]: aa))) (.ite (((isM (ay (aS s).1))&&true)&&(isM (aL s).2.1)) (.ite (!(bA (ay (aS s).1) (jA (aS s).2.1).1 ([47]: aa) (aL s).2.1 (aL s).2.2)) (bu s) (.ret (AV.tup [.agg ((AV.str (ay (aS s).1))::((AV.int .i64 (jA (aS s).2.1).1)::((AV.str ([47]: aa))::(gn s)))),.bool true]) [])) .fail) (.ite (isM (aL s).1) (.ite (((isM (ay (aS s).1))&&(isM (bb (aL s).1)))&&(isM (aL s).2.1)) (.ite (!(bA (ay (aS s).1) (jA (aS s).2.1).1 (bb (aL s).1) (aL s).2.1 (aL s).2.2)) (bu s) (.ret (AV.tup [.agg ((AV.str (ay (aS s).1))::((AV.int .i64 (jA (aS s).2.1).1)::((AV.str (bb (aL s).1))::(gn s)))),.bool true]) [])) .fail) .fail))) .fail) (.ite (decide ((aL s).1=([]: aa))) (.ite (((isM (ay (aS s).1))&&true)&&(isM (aL s).2.1)) (.ite (!(bA (ay (aS s).1) 80 ([47]: aa) (aL s).2.1 (aL s).2.2)) (bu s) (.ret (AV.tup [.agg ((AV.str (ay (aS s).1))::((AV.int .i64 80)::((AV.str ([47]: aa))::(gn s)))),.bool true]) [])) .fail) (.ite (isM (aL s).1) (.ite (((isM (ay (aS s).1))&&(isM (bb (aL s).1)))&&(isM (aL s).2.1)) (.ite (!(bA (ay (aS s).1) 80 (bb (aL s).1) (aL s).2.1 (aL s).2.2)) (bu s) (.ret (AV.tup [.agg ((AV.str (ay (aS s).1))::((AV.int .i64 80)::((AV.str (bb (aL s).1))::(gn s)))),.bool true]) [])) .fail) .fail))) .fail) .fail) .fail) .fail) .fail) .fail) .fail) (.ite (decide (0≤(dt s))) (.ite (decide ((dt s)≤(bS s))) (.ite (decide ((List.length (cut (cut s 7 (s.length: Int)) 0 (dt s)))≤1000000)) (.ite (decide (0≤(dt s))) (.ite (decide ((dt s)≤(bS s))) (.ite (decide ((List.length (cut (cut s 7 (s.length: Int)) (dt s) (bS s)))≤1000000)) (.ite (isM (aR s).1) (.ite (aR s).2.2 (.ite (decide ((List.length (aR s).2.1)≤1000000)) (.ite (!(jA (aR s).2.1).2) (bu s) (.ite (decide ((aK s).1=([]: aa))) (.ite (((isM (ay (aR s).1))&&true)&&(isM (aK s).2.1)) (.ite (!(bA (ay (aR s).1) (jA (aR s).2.1).1 ([47]: aa) (aK s).2.1 (aK s).2.2)) (bu s) (.ret (AV.tup [.agg ((AV.str (ay (aR s).1))::((AV.int .i64 (jA (aR s).2.1).1)::((AV.str ([47]: aa))::(go s)))),.bool true]) [])) .fail) (.ite (isM (aK s).1) (.ite (((isM (ay (aR s).1))&&(isM (bb (aK s).1)))&&(isM (aK s).2.1)) (.ite (!(bA (ay (aR s).1) (jA (aR s).2.1).1 (bb (aK s).1) (aK s).2.1 (aK s).2.2)) (bu s) (.ret (AV.tup [.agg ((AV.str (ay (aR s).1))::((AV.int .i64 (jA (aR s).2.1).1)::((AV.str (bb (aK s).1))::(go s)))),.bool true]) [])) .fail) .fail))) .fail) (.ite (decide ((aK s).1=([]: aa))) (.ite (((isM (ay (aR s).1))&&true)&&(isM (aK s).2.1)) (.ite (!(bA (ay (aR s).1) 80 ([47]: aa) (aK s).2.1 (aK s).2.2)) (bu s) (.ret (AV.tup [.agg ((AV.str (ay (aR s).1))::((AV.int .i64 80)::((AV.str ([47]: aa))::(go s)))),.bool true]) [])) .fail) (.ite (isM (aK s).1) (.ite (((isM (ay (aR s).1))&&(isM (bb (aK s).1)))&&(isM (aK s).2.1)) (.ite (!(bA (ay (aR s).1) 80 (bb (aK s).1) (aK s).2.1 (aK s).2.2)) (bu s) (.ret (AV.tup [.agg ((AV.str (ay (aR s).1))::((AV.int .i64 80)::((AV.str (bb (aK s).1))::(go s)))),.bool true]) [])) .fail) .fail))) .fail) .fail) .fail) .fail) .fail) .fail) .fail)) .fail) .fail)) .fail) .fail)))) .fail))
def yO: List AV→List Ob→Br
 | [.str s],[]=>mn s
 | _,_=> .fail
theorem iReadUrl_ok: Sound Kx 242 yO:=ae (C:=O9) (O:=O8) Tryz.func242 (by kernel_rfl) fun args objs=>by
 unfold yO;split
 · exact .inr (by kernel_rfl)
 · exact .inl rfl
def O_: Opt:={ split:=true }
def Pa: SC:=[⟨188,_,sk⟩,⟨273,_,uW⟩,⟨91,_,ik⟩,⟨274,_,E_⟩,⟨275,_,yN⟩,⟨276,_,O7⟩]
abbrev bj (s: aa):=(an (cut s 7 (s.length: Int)) 63)
abbrev bI (s: aa):=(Br.ret (AV.tup ((AV.agg ((AV.str ([]: aa))::((AV.int .i64 0)::((AV.str ([]: aa))::((AV.str ([]: aa))::((AV.bool false)::[]))))))::((AV.bool false)::[]))) [])
abbrev bT (s: aa):=(cut (cut s 7 (s.length: Int)) (ad (((List.length (bj s)): Int) + 1)) ((List.length (cut s 7 (s.length: Int))): Int))
abbrev bJ (s: aa):=(cut (bj s) ((List.length (an (bj s) 47)): Int) ((List.length (bj s)): Int))
abbrev cF (s: aa):=(jA (cut (an (bj s) 47) (ad (((List.length (an (an (bj s) 47) 58)): Int) + 1)) ((List.length (an (bj s) 47)): Int)))
abbrev aM (s: aa):=(ay (an (an (bj s) 47) 58))
abbrev bl (s: aa):=((List.length (bj s)): Int)
abbrev cT (s: aa):=((List.length (an (bj s) 47)): Int)
abbrev cU (s: aa):=((List.length (cut s 7 (s.length: Int))): Int)
def mq (s: aa): Br:=(.ite (decide (200 < (s.length: Int))) (bI s) (.ite (decide ((s.length: Int) < 8)) (bI s) (.ite (isM s) (.ite (!((aP cZ s)&&(decide (0 < (s.length: Int))))) (bI s) (.ite (isM s) (.ite (!(decide ((an s 35)=s))) (bI s) (.ite (decide (7≤(s.length: Int))) (.ite (isM (cut s 0 7)) (.ite (!(decide ((ay (cut s 0 7))=([104,116,116,112,58,47,47]: aa)))) (bI s) (.ite (decide (7≤(s.length: Int))) (.ite (isM (cut s 7 (s.length: Int))) (.ite (isM (bj s)) (.ite (isM (an (bj s) 47)) (.ite (isM (an (an (bj s) 47) 58)) (.ite (decide (((List.length (an (an (bj s) 47) 58)): Int) < (cT s))) (.ite (decide (0≤(ad (((List.length (an (an (bj s) 47) 58)): Int) + 1)))) (.ite (decide ((ad (((List.length (an (an (bj s) 47) 58)): Int) + 1))≤(cT s))) (.ite (!(cF s).2) (bI s) (.ite (decide ((cT s) < (bl s))) (.ite (decide (0≤(cT s))) (.ite (decide ((cT s)≤(bl s))) (.ite (isM (bJ s)) (.ite (decide ((bl s) < (cU s))) (.ite (decide (0≤(ad ((bl s) + 1)))) (.ite (decide ((ad ((bl s) + 1))≤(cU s))) (.ite (((isM (aM s))&&(isM (bb (bJ s))))&&(isM (bT s))) (.ite (!(bA (aM s) (cF s).1 (bb (bJ s)) (bT s) true)) (bI s) (.ret (AV.tup [.agg [.str (aM s),.int .i64 (cF s).1,.str (bb (bJ s)),.str (bT s),.bool true],.bool true]) [])) .fail) .fail) .fail) (.ite (((isM (aM s))&&(isM (bb (bJ s))))&&true) (.ite (!(bA (aM s) (cF s).1 (bb (bJ s)) ([]: aa) false)) (bI s) (.ret (AV.tup [.agg [.str (aM s),.int .i64 (cF s).1,.str (bb (bJ s)),.str ([]: aa),.bool false],.bool true]) [])) .fail)) .fail) .fail) .fail) (.ite (decide ((bl s) < (cU s))) (.ite (decide (0≤(ad ((bl s) + 1)))) (.ite (decide ((ad ((bl s) + 1))≤(cU s))) (.ite (((isM (aM s))&&true)&&(isM (bT s))) (.ite (!(bA (aM s) (cF s).1 ([47]: aa) (bT s) true)) (bI s) (.ret (AV.tup [.agg [.str (aM s),.int .i64 (cF s).1,.str ([47]: aa),.str (bT s),.bool true],.bool true]) [])) .fail) .fail) .fail) (.ite (((isM (aM s))&&true)&&true) (.ite (!(bA (aM s) (cF s).1 ([47]: aa) ([]: aa) false)) (bI s) (.ret (AV.tup [.agg [.str (aM s),.int .i64 (cF s).1,.str ([47]: aa),.str ([]: aa),.bool false],.bool true]) [])) .fail)))) .fail) .fail) (.ite (decide ((cT s) < (bl s))) (.ite (decide (0≤(cT s))) (.ite (decide ((cT s)≤(bl s))) (.ite (isM (bJ s)) (.ite (decide ((bl s) < (cU s))) (.ite (decide (0≤(ad ((bl s) + 1)))) (.ite (decide ((ad ((bl s) + 1))≤(cU s))) (.ite (((isM (aM s))&&(isM (bb (bJ s))))&&(isM (bT s))) (.ite (!(bA (aM s) 80 (bb (bJ s)) (bT s) true)) (bI s) (.ret (AV.tup [.agg [.str (aM s),.int .i64 80,.str (bb (bJ s)),.str (bT s),.bool true],.bool true]) [])) .fail) .fail) .fail) (.ite (((isM (aM s))&&(isM (bb (bJ s))))&&true) (.ite (!(bA (aM s) 80 (bb (bJ s)) ([]: aa) false)) (bI s) (.ret (AV.tup [.agg [.str (aM s),.int .i64 80,.str (bb (bJ s)),.str ([]: aa),.bool false],.bool true]) [])) .fail)) .fail) .fail) .fail) (.ite (decide ((bl s) < (cU s))) (.ite (decide (0≤(ad ((bl s) + 1)))) (.ite (decide ((ad ((bl s) + 1))≤(cU s))) (.ite (((isM (aM s))&&true)&&(isM (bT s))) (.ite (!(bA (aM s) 80 ([47]: aa) (bT s) true)) (bI s) (.ret (AV.tup [.agg [.str (aM s),.int .i64 80,.str ([47]: aa),.str (bT s),.bool true],.bool true]) [])) .fail) .fail) .fail) (.ite (((isM (aM s))&&true)&&true) (.ite (!(bA (aM s) 80 ([47]: aa) ([]: aa) false)) (bI s) (.ret (AV.tup [.agg [.str (aM s),.int .i64 80,.str ([47]: aa),.str ([]: aa),.bool false],.bool true]) [])) .fail)))) .fail) .fail) .fail) .fail) .fail)) .fail) .fail)) .fail)) .fail)))
def yP: List AV→List Ob→Br
 | [.str s],[]=>mq s
 | _,_=> .fail
theorem sReadUrl_ok: Sound Kx 227 yP:=ae (C:=Pa) (O:=O_) Tryz.func227 (by kernel_rfl) fun args objs=>by
 unfold yP;split
 · exact .inr (by kernel_rfl)
 · exact .inl rfl
theorem Fu (b: Int): ∀ (r: aa) (k: Nat),k≤(an r b).length→an (r.drop k) b=(an r b).drop k
 | r,0,_=>rfl
 | [],k + 1,h=>by simp [an] at h
 | x::r,k + 1,h=>by
   have ih:=Fu b r k
   unfold an at ih h ⊢
   rw [List.takeWhile_cons] at h ⊢
   cases c: decide (by8 x=b)
   · rw [c] at h
     simp only [Bool.not_false,if_true,List.length_cons] at h ⊢
     rw [List.drop_succ_cons,List.drop_succ_cons]
     exact ih (by omega)
   · rw [c] at h;simp at h
theorem mt {l: aa} {k: Nat} {i: Int} (h: i=(k: Int)): cut l i (l.length: Int)=l.drop k:=by
 subst h;unfold cut;simp
theorem AR {l: aa} {k: Nat} {i: Int} (h: i=(k: Int)): cut l 0 i=l.take k:=by
 subst h;unfold cut;simp
theorem TP (a b: Nat): decide ((a: Int) < (b: Int))=decide (a < b):=by
 rw [Bool.eq_iff_iff,decide_eq_true_eq,decide_eq_true_eq];omega
theorem Fv (p: aa): (bb p).length≤1000:=by
 cases p with
 | nil=>exact Nat.zero_le _
 | cons c r=>
   by_cases hc: c=47
   · subst hc
     rw [n8]
     cases ho: rn (47::r)
     · exact Nat.zero_le _
     · unfold rn at ho
       simp only [Bool.and_eq_true,decide_eq_true_eq,List.length_cons] at ho
       have h1:=Ic r (by omega)
       have h2:=pP (jD (eF r) 47)
       have h3:=Mn (l_ (jD (eF r) 47))
       simp only [cond_true,List.length_cons];omega
   · rw [kQ c r hc];exact Nat.zero_le _
def urA (u: Ur): AV:= .agg [.str u.h, .int .i64 u.po, .str u.pa, .str u.q, .bool u.hq]
theorem fb {s: aa} (h: yn s=false): cK s=(u0,false):=by unfold cK;rw [h];rfl
theorem vq {s: aa} (h: yn s=true): cK s=bif (OO (wL (s.drop 7))).2&&(XL (s.drop 7)).ok then (XL (s.drop 7),true) else (u0,false):=by
 unfold cK;rw [h,Bool.true_and]
theorem rv (s: aa): yn s=(decide (s.length≤200)&&decide (7≤s.length)&&aP cZ s&& !cH s 35&&decide (ay (s.take 7)=AF)):=rfl
theorem Ya: (XL []).ok=false:=by
 unfold XL Ur.ok bA
 have e: lb (ay (an (wL []) 58))=false:=rfl
 simp only [e,Bool.false_and]
def agu: List AV→List Ob→Br:=wa fun s=> .tup [urA (cK s).1, .bool (cK s).2]
theorem aag: Sound Kx 227 agu:=sReadUrl_ok.of fun args objs r h=>by
 unfold agu wa at h
 split at h
 case h_2=>cases h
 rename_i s
 obtain ⟨hM,h2⟩:=ai h
 cases h2
 show (mq s).val=some (.tup [urA (cK s).1, .bool (cK s).2],[])
 unfold mq cU cT bl aM cF bJ bT bI bj
 have hok:=rv s
 cases d1: decide ((200 : Int) < (s.length: Int))
 case true=>
  have:=of_decide_eq_true d1
  rw [dF' (show ¬ s.length≤200 by omega)] at hok
  rw [fb (by rw [hok];rfl)];rfl
 have d1':=of_decide_eq_false d1
 rw [dT' (show s.length≤200 by omega)] at hok
 cases d2: decide ((s.length: Int) < 8)
 case true=>
  have d2':=of_decide_eq_true d2
  refine (eH rfl).trans ((bv rfl).trans ?_)
  have: cK s=(u0,false):=by
   cases hr: yn s
   · exact fb hr
   · rw [vq hr]
     rw [hok] at hr
     simp only [Bool.and_eq_true,decide_eq_true_eq] at hr
     have e: s.drop 7=[]:=List.drop_eq_nil_of_le (by omega)
     rw [e,Ya,Bool.and_false];rfl
  rw [this];rfl
 have d2':=of_decide_eq_false d2
 rw [dT' (show 7≤s.length by omega)] at hok
 rw [hM,sD,dT' (show (0 : Int) < (s.length: Int) by omega),dT' (show (7 : Int)≤(s.length: Int) by omega),show cut s 0 7=s.take 7 from AR (k:=7) rfl,show cut s 7 (s.length: Int)=s.drop 7 from mt (k:=7) rfl]
 cases d3: aP cZ s
 · rw [d3] at hok
   rw [fb (by rw [hok];rfl)];rfl
 rw [d3] at hok
 cases d4: cH s 35
 case true=>
  rw [d4] at hok
  rw [fb (by rw [hok];rfl)];rfl
 rw [d4] at hok
 have e7: isM (s.take 7)=true:=bn (n:=7) (by rw [List.length_take];exact Nat.min_le_left _ _)
 rw [e7]
 cases d5: decide (ay (s.take 7)=[104,116,116,112,58,47,47])
 · rw [show decide (ay (s.take 7)=AF)=false from d5] at hok
   rw [fb (by rw [hok];rfl)];rfl
 rw [show decide (ay (s.take 7)=AF)=true from d5] at hok
 rw [vq (by rw [hok];rfl)]
 generalize hr: s.drop 7=r
 have hrl: r.length≤200:=by rw [← hr,List.length_drop];omega
 refine (eH rfl).trans ((eH rfl).trans ((bv rfl).trans ((eH rfl).trans ((bv rfl).trans ((eH rfl).trans ((bv rfl).trans ((bv rfl).trans ((eH rfl).trans ((bv rfl).trans ?_)))))))))
 unfold XL ab0 OO wL rp Ur.ok urA
 have lF:=jk r 63
 generalize hF: an r 63=F at lF
 have lA:=jk F 47
 generalize hA: an F 47=A at lA
 have lH:=jk A 58
 generalize hH: an A 58=H at lH
 have w1: ad ((H.length: Int) + 1)=((H.length + 1 : Nat): Int):=by rw [w64 (by omega) (by omega)];rfl
 have w2: ad ((F.length: Int) + 1)=((F.length + 1 : Nat): Int):=by rw [w64 (by omega) (by omega)];rfl
 have m1: isM r=true:=bn (n:=200) (by omega)
 have m2: isM F=true:=bn (n:=200) (by omega)
 have m3: isM A=true:=bn (n:=200) (by omega)
 have m4: isM H=true:=bn (n:=200) (by omega)
 have m5: isM (ay H)=true:=bn (n:=200) (by rw [tV];omega)
 have m6: ∀ p,isM (bb p)=true:=fun p=>bn (n:=1000) (Fv p)
 have m7: isM (F.drop A.length)=true:=bn (n:=200) (by rw [List.length_drop];omega)
 have m8: isM (r.drop (F.length + 1))=true:=bn (n:=200) (by rw [List.length_drop];omega)
 have q0: ∀ n: Nat,decide ((0 : Int)≤(n: Int))=true:=fun n=>dT' (by omega)
 have qA: decide ((A.length: Int)≤(F.length: Int))=true:=dT' (by omega)
 rw [m1,m2,m3,m4,w1,w2,mt (l:=A) rfl,mt (l:=F) rfl,mt (l:=r) rfl,m5,m7,m8,TP,TP,TP,q0,q0,q0,qA]
 simp only [m6]
 cases t1: decide (H.length < A.length)
 · cases t2: decide (A.length < F.length)
   · cases t3: decide (F.length < r.length)
     · simp only [Br.val,cond_true,cond_false,Bool.and_true,Bool.true_and]
       cases bA (ay H) 80 [47] [] false <;> rfl
     · have t3':=of_decide_eq_true t3
       rw [dT' (show ((F.length + 1 : Nat): Int)≤(r.length: Int) by omega)]
       simp only [Br.val,cond_true,cond_false,Bool.and_true,Bool.true_and]
       cases bA (ay H) 80 [47] (r.drop (F.length + 1)) true <;> rfl
   · cases t3: decide (F.length < r.length)
     · simp only [Br.val,cond_true,cond_false,Bool.and_true,Bool.true_and]
       cases bA (ay H) 80 (bb (F.drop A.length)) [] false <;> rfl
     · have t3':=of_decide_eq_true t3
       rw [dT' (show ((F.length + 1 : Nat): Int)≤(r.length: Int) by omega)]
       simp only [Br.val,cond_true,cond_false,Bool.and_true,Bool.true_and]
       cases bA (ay H) 80 (bb (F.drop A.length)) (r.drop (F.length + 1)) true <;> rfl
 · have t1':=of_decide_eq_true t1
   rw [dT' (show ((H.length + 1 : Nat): Int)≤(A.length: Int) by omega)]
   cases t4: (jA (A.drop (H.length + 1))).2
   · simp only [Br.val,cond_true,cond_false,Bool.false_and,t4,Bool.not_false];rfl
   · cases t2: decide (A.length < F.length)
     · cases t3: decide (F.length < r.length)
       · simp only [Br.val,cond_true,cond_false,Bool.and_true,Bool.true_and,t4,Bool.not_true]
         cases bA (ay H) (jA (A.drop (H.length + 1))).1 [47] [] false <;> rfl
       · have t3':=of_decide_eq_true t3
         rw [dT' (show ((F.length + 1 : Nat): Int)≤(r.length: Int) by omega)]
         simp only [Br.val,cond_true,cond_false,Bool.and_true,Bool.true_and,t4,Bool.not_true]
         cases bA (ay H) (jA (A.drop (H.length + 1))).1 [47] (r.drop (F.length + 1)) true <;> rfl
     · cases t3: decide (F.length < r.length)
       · simp only [Br.val,cond_true,cond_false,Bool.and_true,Bool.true_and,t4,Bool.not_true]
         cases bA (ay H) (jA (A.drop (H.length + 1))).1 (bb (F.drop A.length)) [] false <;> rfl
       · have t3':=of_decide_eq_true t3
         rw [dT' (show ((F.length + 1 : Nat): Int)≤(r.length: Int) by omega)]
         simp only [Br.val,cond_true,cond_false,Bool.and_true,Bool.true_and,t4,Bool.not_true]
         cases bA (ay H) (jA (A.drop (H.length + 1))).1 (bb (F.drop A.length)) (r.drop (F.length + 1)) true <;> rfl
theorem TQ (r: aa): r.take (an (an r 63) 47).length=an (an r 63) 47:=by
 have h1:=u9 r 63
 have h2:=u9 (an r 63) 47
 have h3:=jk (an r 63) 47
 calc r.take (an (an r 63) 47).length=(r.take (an r 63).length).take (an (an r 63) 47).length:=by rw [List.take_take,Nat.min_eq_left h3]
  _=(an r 63).take (an (an r 63) 47).length:=by rw [h1]
  _=an (an r 63) 47:=h2
theorem ace (r: aa): (decide (pM r [47,63] < 0)=true→(an (an r 63) 47).length=r.length)∧(decide (pM r [47,63] < 0)=false→pM r [47,63]=((an (an r 63) 47).length: Int)):=by
 rw [mc,show by8 47=47 from rfl,show by8 63=63 from rfl]
 cases h: cH r 47||cH r 63
 · rw [cond_false]
   rw [Bool.or_eq_false_iff] at h
   have h1: an r 63=r:=by have:=sD r 63;rw [h.2] at this;exact of_decide_eq_true this
   have h2: an r 47=r:=by have:=sD r 47;rw [h.1] at this;exact of_decide_eq_true this
   rw [h1,h2]
   exact ⟨fun _=>rfl,fun e=>by simp at e⟩
 · rw [cond_true]
   exact ⟨fun e=>by have:=of_decide_eq_true e;omega,fun _=>rfl⟩
theorem Mv {l: aa} {k: Nat} : decide (l.drop k=[])= !decide (k < l.length):=by
 rw [Bool.eq_iff_iff];simp
theorem aeR {a b: Nat} (h: a≤b): (!decide (a=b))=decide (a < b):=by
 rw [Bool.eq_iff_iff];simp;omega
theorem Fw: Sound Kx 242 agu:=iReadUrl_ok.of fun args objs r h=>by
 unfold agu wa at h
 split at h
 case h_2=>cases h
 rename_i s
 obtain ⟨hM,h2⟩:=ai h
 cases h2
 show (mn s).val=some (.tup [urA (cK s).1, .bool (cK s).2],[])
 unfold mn go gn dt bS aS aR bu aL aK
 have hok:=rv s
 cases d1: decide ((200 : Int) < (s.length: Int))
 case true=>
  have:=of_decide_eq_true d1
  rw [dF' (show ¬ s.length≤200 by omega)] at hok
  rw [fb (by rw [hok];rfl)];rfl
 have d1':=of_decide_eq_false d1
 rw [dT' (show s.length≤200 by omega)] at hok
 rw [hM]
 cases d3: aP cZ s
 · rw [d3] at hok
   rw [fb (by rw [hok];simp)];rfl
 rw [d3] at hok
 cases d4: cH s 35
 case true=>
  rw [d4] at hok
  rw [fb (by rw [hok];simp)];rfl
 rw [d4] at hok
 cases d2: decide ((s.length: Int) < 7)
 case true=>
  have d2':=of_decide_eq_true d2
  rw [dF' (show ¬ 7≤s.length by omega)] at hok
  rw [fb (by rw [hok];rfl)];rfl
 have d2':=of_decide_eq_false d2
 rw [dT' (show 7≤s.length by omega)] at hok
 rw [dT' (show (7 : Int)≤(s.length: Int) by omega),show cut s 0 7=s.take 7 from AR (k:=7) rfl,show cut s 7 (s.length: Int)=s.drop 7 from mt (k:=7) rfl]
 have e7: isM (s.take 7)=true:=bn (n:=7) (by rw [List.length_take];exact Nat.min_le_left _ _)
 rw [e7]
 cases d5: decide (ay (s.take 7)=[104,116,116,112,58,47,47])
 · rw [show decide (ay (s.take 7)=AF)=false from d5] at hok
   rw [fb (by rw [hok];rfl)];rfl
 rw [show decide (ay (s.take 7)=AF)=true from d5] at hok
 rw [vq (by rw [hok];rfl)]
 have hvis: aP cZ (s.drop 7)=true:=by
  have e:=dN cZ (s.take 7) (s.drop 7)
  rw [List.take_append_drop,d3] at e
  cases hh: aP cZ (s.drop 7)
  · rw [hh,Bool.and_false] at e;cases e
  · rfl
 have hasc:=TA _ hvis
 generalize hr: s.drop 7=r at hasc
 have hrl: r.length≤200:=by rw [← hr,List.length_drop];omega
 have hend:=ace r
 have hat:=TQ r
 have mr: decide (r.length≤1000000)=true:=dT' (by omega)
 refine (eH rfl).trans ((bv rfl).trans ((eH rfl).trans ((eH rfl).trans ((eH rfl).trans ((bv rfl).trans ((bv rfl).trans ((eH rfl).trans ((bv rfl).trans ((bv (by rw [mr,hasc];rfl)).trans ?_)))))))))
 unfold XL ab0 OO wL rp Ur.ok urA
 have lF:=jk r 63
 have ud:=Fu 63 r (an (an r 63) 47).length (jk _ _)
 generalize hF: an r 63=F at lF hend hat ud
 have lA:=jk F 47
 generalize hA: an F 47=A at lA hend hat ud
 have lH:=jk A 58
 have ct: cut r 0 (A.length: Int)=A:=(AR rfl).trans hat
 have cd: cut r (A.length: Int) (r.length: Int)=r.drop A.length:=mt rfl
 have x1:=nM 58 A
 rw [show by8 58=58 from rfl] at x1
 have x2:=nM 63 (r.drop A.length)
 rw [show by8 63=63 from rfl,ud] at x2
 generalize hH: an A 58=H at lH x1
 have y1: (dD A [58]).1=H:=by rw [x1]
 have y2: (dD A [58]).2.1=A.drop (H.length + 1):=by rw [x1]
 have y3: (dD A [58]).2.2=decide (H.length < A.length):=by rw [x1];exact aeR lH
 have z1: (dD (r.drop A.length) [63]).1=F.drop A.length:=by rw [x2]
 have z2: (dD (r.drop A.length) [63]).2.1=bif decide (F.length < r.length) then r.drop (F.length + 1) else []:=by
  rw [x2]
  simp only [List.length_drop,List.drop_drop]
  cases t: decide (F.length < r.length)
  · have:=of_decide_eq_false t
    rw [cond_false]
    exact List.drop_eq_nil_of_le (by omega)
  · rw [cond_true]
    congr 1;omega
 have z3: (dD (r.drop A.length) [63]).2.2=decide (F.length < r.length):=by
  rw [x2]
  simp only [List.length_drop]
  rw [aeR (by omega),Bool.eq_iff_iff,decide_eq_true_eq,decide_eq_true_eq];omega
 have m4: isM H=true:=bn (n:=200) (by omega)
 have m5: isM (ay H)=true:=bn (n:=200) (by rw [tV];omega)
 have m6: ∀ p,isM (bb p)=true:=fun p=>bn (n:=1000) (Fv p)
 have m7: isM (F.drop A.length)=true:=bn (n:=200) (by rw [List.length_drop];omega)
 have m8: isM (bif decide (F.length < r.length) then r.drop (F.length + 1) else [])=true:=by
  refine bn (n:=200) ?_
  cases decide (F.length < r.length)
  · exact Nat.zero_le _
  · rw [cond_true,List.length_drop];omega
 have q0: ∀ n: Nat,decide ((0 : Int)≤(n: Int))=true:=fun n=>dT' (by omega)
 have qA: decide ((A.length: Int)≤(r.length: Int))=true:=dT' (by omega)
 have q1: decide (A.length≤1000000)=true:=dT' (by omega)
 have q2: decide ((r.drop A.length).length≤1000000)=true:=dT' (by rw [List.length_drop];omega)
 have q3: decide ((A.drop (H.length + 1)).length≤1000000)=true:=dT' (by rw [List.length_drop];omega)
 cases t0: decide (pM r [47,63] < 0)
 · rw [hend.2 t0]
   simp only [Br.val,cond_true,cond_false,q0,qA,ct,cd,q1,q2,y1,y2,y3,z1,z2,z3,m4,m5,m6,m7,m8,q3,Bool.and_self,Bool.and_true,Mv]
   cases t1: decide (H.length < A.length)
   · cases t2: decide (A.length < F.length)
     · simp only [Br.val,cond_true,cond_false,Bool.not_false,Bool.true_and]
       cases bA (ay H) 80 [47] (bif decide (F.length < r.length) then r.drop (F.length + 1) else []) (decide (F.length < r.length)) <;> rfl
     · simp only [Br.val,cond_true,cond_false,Bool.not_true,Bool.true_and]
       cases bA (ay H) 80 (bb (F.drop A.length)) (bif decide (F.length < r.length) then r.drop (F.length + 1) else []) (decide (F.length < r.length)) <;> rfl
   · cases t4: (jA (A.drop (H.length + 1))).2
     · simp only [Br.val,cond_true,cond_false,Bool.not_false,Bool.false_and,t4];rfl
     · cases t2: decide (A.length < F.length)
       · simp only [Br.val,cond_true,cond_false,Bool.not_false,Bool.not_true,Bool.true_and,t4]
         cases bA (ay H) (jA (A.drop (H.length + 1))).1 [47] (bif decide (F.length < r.length) then r.drop (F.length + 1) else []) (decide (F.length < r.length)) <;> rfl
       · simp only [Br.val,cond_true,cond_false,Bool.not_true,Bool.true_and,t4]
         cases bA (ay H) (jA (A.drop (H.length + 1))).1 (bb (F.drop A.length)) (bif decide (F.length < r.length) then r.drop (F.length + 1) else []) (decide (F.length < r.length)) <;> rfl
 · have hl:=hend.1 t0
   have ct2: cut r 0 (r.length: Int)=A:=by rw [hl] at ct;exact ct
   have cd2: cut r (r.length: Int) (r.length: Int)=r.drop A.length:=by
    rw [mt (l:=r) (k:=r.length) rfl,hl]
   have qB: decide ((r.length: Int)≤(r.length: Int))=true:=dT' (Int.le_refl _)
   simp only [Br.val,cond_true,cond_false,q0,qB,ct2,cd2,q1,q2,y1,y2,y3,z1,z2,z3,m4,m5,m6,m7,m8,q3,Bool.and_self,Bool.and_true,Mv]
   cases t1: decide (H.length < A.length)
   · cases t2: decide (A.length < F.length)
     · simp only [Br.val,cond_true,cond_false,Bool.not_false,Bool.true_and]
       cases bA (ay H) 80 [47] (bif decide (F.length < r.length) then r.drop (F.length + 1) else []) (decide (F.length < r.length)) <;> rfl
     · simp only [Br.val,cond_true,cond_false,Bool.not_true,Bool.true_and]
       cases bA (ay H) 80 (bb (F.drop A.length)) (bif decide (F.length < r.length) then r.drop (F.length + 1) else []) (decide (F.length < r.length)) <;> rfl
   · cases t4: (jA (A.drop (H.length + 1))).2
     · simp only [Br.val,cond_true,cond_false,Bool.not_false,Bool.false_and,t4];rfl
     · cases t2: decide (A.length < F.length)
       · simp only [Br.val,cond_true,cond_false,Bool.not_false,Bool.not_true,Bool.true_and,t4]
         cases bA (ay H) (jA (A.drop (H.length + 1))).1 [47] (bif decide (F.length < r.length) then r.drop (F.length + 1) else []) (decide (F.length < r.length)) <;> rfl
       · simp only [Br.val,cond_true,cond_false,Bool.not_true,Bool.true_and,t4]
         cases bA (ay H) (jA (A.drop (H.length + 1))).1 (bb (F.drop A.length)) (bif decide (F.length < r.length) then r.drop (F.length + 1) else []) (decide (F.length < r.length)) <;> rfl
def Yb: SC:=[⟨242,_,Fw⟩,⟨243,_,Fq⟩]
def vr (s: aa): Br:=(.ite (isM s) (.ite (!(cK s).2) (.ret (AV.tup [.str ([]: aa),.bool false]) []) (.ite (smU (cK s).1.1 (cK s).1.2 (cK s).1.3 (cK s).1.4) (.ret (AV.tup [.str (B9 (cK s).1.1 (cK s).1.2 (cK s).1.3 (cK s).1.4 (cK s).1.5),.bool true]) []) .fail)) .fail)
def Mw: List AV→List Ob→Br
 | [.str s],[]=>vr s
 | _,_=> .fail
theorem iCanon_ok: Sound Kx 200 Mw:=ae (C:=Yb) (O:=O0) Tryz.func200 (by kernel_rfl) fun args objs=>by
 unfold Mw;split
 · exact .inr (by kernel_rfl)
 · exact .inl rfl
theorem Yc {s: aa} (h: (cK s).2=true): (cK s).1.ok=true:=by
 unfold cK at h ⊢
 cases c: yn s&&(OO (wL (s.drop 7))).2&&(XL (s.drop 7)).ok
 · rw [c] at h;cases h
 · rw [cond_true]
   simp only [Bool.and_eq_true] at c
   exact c.2
theorem Mx {h: aa} {po: Int} {pa q: aa} {hq: Bool} (ho: bA h po pa q hq=true): lb h=true∧decide (1≤po)=true∧decide (po≤65535)=true∧decide (pa=[])=false∧decide (bb pa=pa)=true∧(B9 h po pa q hq).length≤200:=by
 unfold bA at ho
 simp only [Bool.and_eq_true,Bool.not_eq_true',decide_eq_false_iff_not] at ho
 obtain ⟨⟨⟨⟨⟨⟨⟨h1,h2,h3⟩,h4⟩,h5⟩,_⟩,_⟩,_⟩,h8⟩:=ho
 exact ⟨h1,h2,h3,dF' h4,h5,of_decide_eq_true h8⟩
theorem ag9 {h: aa} {po: Int} {pa q: aa} {hq: Bool} (ho: bA h po pa q hq=true): q.length≤200:=by
 have hl:=(Mx ho).2.2.2.2.2
 unfold bA at ho
 simp only [Bool.and_eq_true,Bool.or_eq_true,decide_eq_true_eq] at ho
 rcases ho.1.2 with h' | h'
 · subst h'
   have:=aaf h po pa q;omega
 · rw [h'];exact Nat.zero_le _
theorem Yd {u: Ur} (ho: u.ok=true): smU u.h u.po u.pa u.q=true∧(isM u.h&&isM u.pa&&isM u.q)=true:=by
 unfold Ur.ok at ho
 obtain ⟨h1,h2,h3,h4,h5,_⟩:=Mx ho
 have hq: isM u.q=true:=bn (n:=200) (ag9 ho)
 have a:=Mu h1
 have b:=Ft (of_decide_eq_true h5) (of_decide_eq_false h4)
 exact ⟨TO h1 h2 h3 h4 h5 hq,by rw [hq,bn (n:=60) a,bn (n:=200) b];rfl⟩
def ah6: List AV→List Ob→Br:=wa fun s=> .tup [.str (ln s).1, .bool (ln s).2]
theorem Pb: Sound Kx 200 ah6:=iCanon_ok.of fun args objs r h=>by
 unfold ah6 wa at h
 split at h
 case h_2=>cases h
 rename_i s
 obtain ⟨hM,h2⟩:=ai h
 cases h2
 show (vr s).val=some (.tup [.str (ln s).1, .bool (ln s).2],[])
 unfold vr ln
 refine (bv hM).trans ?_
 cases c: (cK s).2
 · rfl
 · exact (eH rfl).trans ((bv (Yd (Yc c)).1).trans rfl)
def Ye: SC:=[⟨200,_,Pb⟩]
def vu (s: aa): Br:=(.ite (isM s) (.ite (ln s).2 (.ret (AV.bool (decide ((ln s).1=s))) []) (.ret (AV.bool false) [])) .fail)
def My: List AV→List Ob→Br
 | [.str s],[]=>vu s
 | _,_=> .fail
theorem iIsCan_ok: Sound Kx 129 My:=ae (C:=Ye) (O:=O0) Tryz.func129 (by kernel_rfl) fun args objs=>by
 unfold My;split
 · exact .inr (by kernel_rfl)
 · exact .inl rfl
def acf: SC:=[⟨201,_,dx⟩]
def Yf (n: Int): Br:=(.ite (decide (0≤n)) (.ret (AV.bool (decide (n≤253402300799))) []) (.ret (AV.bool false) []))
def TR: List AV→List Ob→Br
 | [.int .i64 n],[]=>Yf n
 | _,_=> .fail
theorem Yg: Sound Kx 130 TR:=ae (C:=acf) (O:=O0) Tryz.func130 (by kernel_rfl) fun args objs=>by
 unfold TR;split
 · exact .inr (by kernel_rfl)
 · exact .inl rfl
def Yh (n: Int): Br:=(.ite (decide (0≤n)) (.ret (AV.bool (decide (n≤253402300799))) []) (.ret (AV.bool false) []))
def TS: List AV→List Ob→Br
 | [.int .i64 n],[]=>Yh n
 | _,_=> .fail
theorem Yi: Sound Kx 95 TS:=ae (C:=[]) (O:=O0) Tryz.func95 (by kernel_rfl) fun args objs=>by
 unfold TS;split
 · exact .inr (by kernel_rfl)
 · exact .inl rfl
theorem Pc: Sound Kx 129 (wa fun s=> .bool (yo s)):=iIsCan_ok.of fun args objs r h=>by
 unfold wa at h
 split at h
 case h_2=>cases h
 rename_i s
 obtain ⟨hM,h2⟩:=ai h
 cases h2
 show (vu s).val=some (.bool (yo s),[])
 unfold vu yo
 refine (bv hM).trans ?_
 cases (ln s).2 <;> rfl
theorem jW: Sound Kx 130 (WX fx):=GQ Yg fun b=>zL _ _
theorem Fx: Sound Kx 95 (WX fx):=GQ Yi fun b=>zL _ _
abbrev En:=aa×Int×Int×List Fd×Mg
@[match_pattern] abbrev EnT: Ty:=(.pair .str (.pair (.int .i64) (.pair (.int .i64) (.pair (.slice (.pair .str .str)) (.pair .str (.pair .str (.pair (.int .i64) (.pair .str (.pair .bool (.pair (.slice (.pair .str .str)) .str))))))))))
abbrev en0: En:=(([]: List UInt8),((0 : Int),((0 : Int),(([]: List (List UInt8×List UInt8)),(([]: List UInt8),(([]: List UInt8),((0 : Int),(([]: List UInt8),(false,(([]: List (List UInt8×List UInt8)),([]: List UInt8)))))))))))
def ag_ (g: En→Bool) (p: En→AV): List AV→List Ob→Br
 | [.agg [.str ur, .int .i64 t1, .int .i64 t2, .sh (.pair .str .str) ak, .str me, .str ta, .int .i64 st, .str re, .bool ba, .sh (.pair .str .str) fs, .str bo]],[]=>
   .ite (g (ur,t1,t2,ak,me,ta,st,re,ba,fs,bo)) (.ret (p (ur,t1,t2,ak,me,ta,st,re,ba,fs,bo)) []) .fail
 | _,_=> .fail
theorem aha {n: Nat} {s: List AV→List Ob→Br} (hs: Sound Kx n s) {g: En→Bool} {p: En→AV}
 (h: ∀ ur t1 t2 ak me ta st re ba fs bo,g (ur,t1,t2,ak,me,ta,st,re,ba,fs,bo)=true→(s [.agg [.str ur, .int .i64 t1, .int .i64 t2, .sh (.pair .str .str) ak, .str me, .str ta, .int .i64 st, .str re, .bool ba, .sh (.pair .str .str) fs, .str bo]] []).val=some (p (ur,t1,t2,ak,me,ta,st,re,ba,fs,bo),[])): Sound Kx n (ag_ g p):=hs.of fun args objs r hv=>by
 unfold ag_ at hv
 split at hv
 case h_2=>cases hv
 obtain ⟨h1,h2⟩:=ai hv
 cases h2
 exact h _ _ _ _ _ _ _ _ _ _ _ h1
def Ig (e: En): Bool:=
 yo e.1&&fx e.2.1&&fx e.2.2.1&&decide (e.2.1≤e.2.2.1)&&cw e.2.2.2.1&&dc e.2.2.2.2.1 e.2.2.2.2.2.1 e.2.2.2.2.2.2.1 e.2.2.2.2.2.2.2.1 e.2.2.2.2.2.2.2.2.1 e.2.2.2.2.2.2.2.2.2.1 e.2.2.2.2.2.2.2.2.2.2&&decide (e.2.2.2.2.1=[])&& !e.2.2.2.2.2.2.2.2.1
def Pd: Opt:={ split:=true }
def Pe: SC:=[⟨129,_,Pc⟩,⟨130,_,jW⟩,⟨84,_,dy⟩,⟨101,_,xS⟩]
def mu (ur: aa) (t1 t2: Int) (ak: List Fd) (me ta: aa) (st: Int) (re: aa) (ba: Bool) (fs: List Fd) (bo: aa): Br:=(.ite (isM ur) (.ite (yo ur) (.ite (fx t1) (.ite (fx t2) (.ite (decide (t1≤t2)) (.ite (cw ak) (.ite (dc me ta st re ba fs bo) (.ite (decide (me=([]: aa))) (.ret (AV.bool (!ba)) []) (.ret (AV.bool false) [])) (.ret (AV.bool false) [])) (.ret (AV.bool false) [])) (.ret (AV.bool false) [])) (.ret (AV.bool false) [])) (.ret (AV.bool false) [])) (.ret (AV.bool false) [])) .fail)
def yQ: List AV→List Ob→Br
 | [.agg [.str ur, .int .i64 t1, .int .i64 t2, .sh (.pair .str .str) ak, .str me, .str ta, .int .i64 st, .str re, .bool ba, .sh (.pair .str .str) fs, .str bo]],[]=>mu ur t1 t2 ak me ta st re ba fs bo
 | _,_=> .fail
theorem Ih: Sound Kx 49 yQ:=ae (C:=Pe) (O:=Pd) Tryz.func49 (by kernel_rfl) fun args objs=>by
 unfold yQ;split
 · exact .inr (by kernel_rfl)
 · exact .inl rfl
def aiH: List AV→List Ob→Br:=ag_ (fun e=>isM e.1) (fun e=> .bool (Ig e))
theorem jX: Sound Kx 49 aiH:=aha Ih fun ur t1 t2 ak me ta st re ba fs bo h=>by
 show (mu ur t1 t2 ak me ta st re ba fs bo).val=some (.bool (Ig (ur,t1,t2,ak,me,ta,st,re,ba,fs,bo)),[])
 unfold mu Ig
 refine (bv h).trans ?_
 simp only
 cases yo ur <;> cases fx t1 <;> cases fx t2 <;> cases decide (t1≤t2) <;> cases cw ak <;> cases dc me ta st re ba fs bo <;> cases decide (me=[]) <;> rfl
def aah: Opt:={ live:=[(4,[0,1,12,13])],outs:=[(4,[4])] }
def AS (a_ a8: (List aa)) (aQ cz: Int) (kR4: (List aa)→(List aa)→Int→Int→OR') (eK kX: OR'): OR':=
 (bif (decide (cz < aQ)) then (bif (decide (0≤cz)) then (bif (decide (cz < (a_.length: Int))) then (bif (decide (0≤cz)) then (bif (decide (cz < (a8.length: Int))) then (bif (!(decide ((List.getD a_ (Int.toNat cz) ([]: aa))=(List.getD a8 (Int.toNat cz) ([]: aa))))) then eK else (kR4 a_ a8 aQ (ad (cz + 1)))) else none) else none) else none) else none) else kX)
def pQ: Nat→(List aa)→(List aa)→Int→Int→(OR')→(OR')→OR'
 | 0,_,_,_,_,_,_=>none
 | n + 1,a_,a8,aQ,cz,eK,kX=>AS a_ a8 aQ cz (fun a_ a8 aQ cz=>pQ n a_ a8 aQ cz eK kX) eK kX
abbrev eqSl_p4: SP:=⟨26,[0,1,12,13],[(.v (.sh Ty.str)),(.v (.sh Ty.str)),(.v (.i .i64)),(.v (.i .i64))],[]⟩
noncomputable def TT: Code:=aC (aG Tryz.f93) [1,1,0,1,0,0]
def TU (f: (OR')→(OR')→OR') (k: KT): OR':=f (k Ex.ret ((St.mk (aF 0 26 [(4,(AV.bool false))]) ([]: (List (Nat×(Ob))))))) (k (Ex.exit 0) ((St.mk (aF 0 26 []) ([]: (List (Nat×(Ob)))))))
def TV (n: Nat) (d: eqSl_p4.D): KT→OR':=TU (pQ n d.1.1 d.1.2.1 d.1.2.2.1 d.1.2.2.2.1)
def aai (N: Nat): Lam:=bH [⟨4,eqSl_p4,TV N⟩]
theorem Yj (N: Nat): OkL Kx noS aah 0 N (aai N) TT:=okL eqSl_p4 (TV) (fun d kR=>TU (AS d.1.1 d.1.2.1 d.1.2.2.1 d.1.2.2.2.1 (fun a_ a8 aQ cz=>kR ((a_,a8,aQ,cz,()),())))) (fun _ _=>by kernel_rfl) (fun _ _ _=>by kernel_rfl) (fun _ _=>by kernel_rfl) (fun _ _ _ _=>by kernel_rfl) (al (l':=[]) (by kernel_rfl) trivial)
def Mz (N: Nat) (a b: List aa): OR':=(bif (!(decide ((a.length: Int)=(b.length: Int)))) then (some ((AV.bool false),[])) else (pQ N a b (a.length: Int) 0 (some ((AV.bool false),[])) (some ((AV.bool true),[]))))
def MA (φ: (List aa)→(List aa)→Br): List AV→List Ob→Br
 | [.sh .str a, .sh .str b],[]=>φ a b
 | _,_=> .fail
theorem TW {φ: (List aa)→(List aa)→Br} (fu: (List aa)→(List aa)→Nat) (hv: ∀ a b res_,(φ a b).val=some res_→Mz (fu a b) a b=some res_): Sound Kx 93 (MA φ):=ap (C:=[]) (O:=aah) Tryz.func93 (by kernel_rfl) fun args objs=>by
 unfold MA;split
 · rename_i a b;exact .inr fun _ hyp_=>aO (Λ:=aai (fu a b)) (by kernel_rfl) (al (l':=[TT]) (by kernel_rfl) ⟨Yj _,trivial⟩) (by kernel_rfl) (hv a b _ hyp_)
 · exact .inl rfl
def ah7: List AV→List Ob→Br
 | [.sh .str a, .sh .str b],[]=> .ite (decide (a.length≤1000000)) (.ret (.bool (decide (a=b))) []) .fail
 | _,_=> .fail
theorem TX (a b: List aa) (hl: a.length≤4611686018427387904) (k0 k1: OR'): ∀ (r r': List aa) (i: Int) (n: Nat),At a i r→At b i r'→r.length=r'.length→r.length < n→
 pQ n a b (a.length: Int) i k0 k1=bif decide (r=r') then k1 else k0:=by
 intro r;induction r with
 | nil=>
   intro r' i n h h' he hn;obtain ⟨n,rfl⟩:=bL hn
   obtain rfl: r'=[]:=List.length_eq_zero_iff.1 he.symm
   unfold pQ AS;simp only [h.dge,cond_false,decide_true,cond_true]
 | cons x r ih=>
   intro r' i n h h' he hn;obtain ⟨n,rfl⟩:=bL hn
   cases r' with
   | nil=>cases he
   | cons y r'=>
     have hs:=ih r' (i + 1) n h.step h'.step (by simpa using he) (by simp at hn;omega)
     unfold pQ AS;simp only [h.dlt,h'.dlt,h.dnn,h.get,h'.get,cond_true,h.next hl,hs]
     by_cases c1: x=y <;> by_cases c2: r=r' <;> simp [c1,c2]
theorem Yk: Sound Kx 93 ah7:=by
 refine (TW (φ:=fun a b=> .ite (decide (a.length≤1000000)) (.ret (.bool (decide (a=b))) []) .fail) (fun a _=>a.length + 1) fun a b r h=>?_).of fun args objs r h=>?_
 · obtain ⟨h1,h2⟩:=ai h
   cases h2
   rw [decide_eq_true_eq] at h1
   unfold Mz
   by_cases c: a.length=b.length
   · rw [dT' (show (a.length: Int)=(b.length: Int) by omega)]
     refine (TX a b (by omega) _ _ a b 0 _ (At.start a) (At.start b) c (by omega)).trans ?_
     cases decide (a=b) <;> rfl
   · rw [dF' (show ¬ (a.length: Int)=(b.length: Int) by omega),dF' (show ¬ a=b from fun e=>c (by rw [e]))]
     rfl
 · unfold ah7 at h;split at h
   · exact h
   · cases h
theorem TY (s: aa): ∀ (l: List aa) (x: aa),x ∈ B7 l s→x=s∨x ∈ l
 | [],x,h=>by simp [B7] at h;exact .inl h
 | a::l,x,h=>by
   unfold B7 at h
   cases c: bytesLess s a
   · rw [c,cond_false] at h
     rcases List.mem_cons.1 h with rfl | h
     · exact .inr (List.mem_cons_self ..)
     · rcases TY s l x h with h | h
       · exact .inl h
       · exact .inr (List.mem_cons_of_mem _ h)
   · rw [c,cond_true] at h
     rcases List.mem_cons.1 h with h | h
     · exact .inl h
     · exact .inr h
theorem acg (l: List aa) (s x: aa) (h: x ∈ xY l s): x=s∨x ∈ l:=by
 unfold xY at h
 cases c: inP l s
 · rw [c,cond_false] at h;exact TY s l x h
 · rw [c,cond_true] at h;exact .inr h
theorem MB: ∀ (ws out: List aa),(∀ x ∈ out,x.length≤4000)→(∀ x ∈ ws,x.length≤4000)→∀ x ∈ ws.foldl (fun o w=>xY o (ay w)) out,x.length≤4000
 | [],out,h,_=>h
 | w::ws,out,h,hw=>by
   rw [List.foldl_cons]
   refine MB ws _ (fun x hx=>?_) fun x hx=>hw x (List.mem_cons_of_mem _ hx)
   rcases acg _ _ _ hx with rfl | hx
   · rw [tV];exact hw w (List.mem_cons_self ..)
   · exact h x hx
theorem Yl (l: List Fd): ∀ x ∈ fQ l,x.length≤4000:=MB _ [] (fun x h=>by cases h) fun x hx=>(An _).2 x hx
def Fy: Opt:={ live:=[(4,[1,2,18,19,20])],outs:=[(4,[4])] }
def iChosen_C: SC:=[⟨49,_,jX⟩,⟨84,_,dy⟩,⟨92,_,Em⟩,⟨87,_,kF⟩,⟨93,_,Yk⟩]
def kS (a_: (List Fd)) (a8 aQ: Int) (cz: aa) (dR fE: Int) (fv: (List Fd)) (fy fF: aa) (fA: Int) (cM: aa) (cN: Bool) (cO: (List Fd)) (cV: aa) (cy: (List aa)) (kR4: (List Fd)→Int→Int→aa→Int→Int→(List Fd)→aa→aa→Int→aa→Bool→(List Fd)→aa→(List aa)→OR') (eK kX: OR'): OR':=
 (bif (decide (aQ < a8)) then (bif (decide (0≤aQ)) then (bif (decide (aQ < (cy.length: Int))) then (bif (decide ((List.getD cy (Int.toNat aQ) ([]: aa))=([42]: aa))) then eK else (bif (isM (List.getD cy (Int.toNat aQ) ([]: aa))) then (bif (isM (List.getD cy (Int.toNat aQ) ([]: aa))) then (bif (decide ((List.length (aN fv (List.getD cy (Int.toNat aQ) ([]: aa))))≤1000000)) then (bif (!(decide ((aN fv (List.getD cy (Int.toNat aQ) ([]: aa)))=(aN a_ (List.getD cy (Int.toNat aQ) ([]: aa)))))) then eK else (kR4 a_ a8 (ad (aQ + 1)) cz dR fE fv fy fF fA cM cN cO cV cy)) else none) else none) else none)) else none) else none) else kX)
def f_: Nat→(List Fd)→Int→Int→aa→Int→Int→(List Fd)→aa→aa→Int→aa→Bool→(List Fd)→aa→(List aa)→(OR')→(OR')→OR'
 | 0,_,_,_,_,_,_,_,_,_,_,_,_,_,_,_,_,_=>none
 | n + 1,a_,a8,aQ,cz,dR,fE,fv,fy,fF,fA,cM,cN,cO,cV,cy,eK,kX=>kS a_ a8 aQ cz dR fE fv fy fF fA cM cN cO cV cy (fun a_ a8 aQ cz dR fE fv fy fF fA cM cN cO cV cy=>f_ n a_ a8 aQ cz dR fE fv fy fF fA cM cN cO cV cy eK kX) eK kX
abbrev iChosen_p4: SP:=⟨38,[1,2,18,19,20],[(.v (.sh (Ty.pair Ty.str Ty.str))),(.v (.ptr 192 0)),(.v (.ref 1216 0)),(.v (.i .i64)),(.v (.i .i64))],[(192, .var [.s,(.i .i64),(.i .i64),(.sh (Ty.pair Ty.str Ty.str)), .s, .s,(.i .i64), .s, .b,(.sh (Ty.pair Ty.str Ty.str)), .s]),(1216, .arr Ty.str 0 false)]⟩
noncomputable def yR: Code:=aC (aG Tryz.f35) [1,1,0,1,0,0]
def yS (f: (OR')→(OR')→OR') (k: KT): OR':=f (k Ex.ret ((St.mk (aF 0 38 [(4,(AV.bool false))]) ([]: (List (Nat×(Ob))))))) (k (Ex.exit 0) ((St.mk (aF 0 38 []) ([]: (List (Nat×(Ob)))))))
def yT (n: Nat) (d: iChosen_p4.D): KT→OR':=yS (f_ n d.1.1 d.1.2.2.2.1 d.1.2.2.2.2.1 d.2.1.1 d.2.1.2.1 d.2.1.2.2.1 d.2.1.2.2.2.1 d.2.1.2.2.2.2.1 d.2.1.2.2.2.2.2.1 d.2.1.2.2.2.2.2.2.1 d.2.1.2.2.2.2.2.2.2.1 d.2.1.2.2.2.2.2.2.2.2.1 d.2.1.2.2.2.2.2.2.2.2.2.1 d.2.1.2.2.2.2.2.2.2.2.2.2.1 d.2.2.1)
def Fz (N: Nat): Lam:=bH [⟨4,iChosen_p4,yT N⟩]
theorem Ii (N: Nat): OkL Kx iChosen_C.s Fy 0 N (Fz N) yR:=okL iChosen_p4 (yT) (fun d kR=>yS (kS d.1.1 d.1.2.2.2.1 d.1.2.2.2.2.1 d.2.1.1 d.2.1.2.1 d.2.1.2.2.1 d.2.1.2.2.2.1 d.2.1.2.2.2.2.1 d.2.1.2.2.2.2.2.1 d.2.1.2.2.2.2.2.2.1 d.2.1.2.2.2.2.2.2.2.1 d.2.1.2.2.2.2.2.2.2.2.1 d.2.1.2.2.2.2.2.2.2.2.2.1 d.2.1.2.2.2.2.2.2.2.2.2.2.1 d.2.2.1 (fun a_ a8 aQ cz dR fE fv fy fF fA cM cN cO cV cy=>kR ((a_,(),(),a8,aQ,()),((cz,dR,fE,fv,fy,fF,fA,cM,cN,cO,cV,()),cy,()))))) (fun _ _=>by kernel_rfl) (fun _ _ _=>by kernel_rfl) (fun _ _=>by kernel_rfl) (fun _ _ _ _=>by kernel_rfl) (al (l':=[]) (by kernel_rfl) trivial)
def vv (N: Nat) (ur: aa) (t1 t2: Int) (ak: List Fd) (me ta: aa) (st: Int) (re: aa) (ba: Bool) (fs: List Fd) (bo: aa) (l: List Fd): OR':=(bif (isM ur) then (bif (!(Ig (ur,(t1,(t2,(ak,(me,(ta,(st,(re,(ba,(fs,bo)))))))))))) then (some ((AV.bool false),[])) else (bif (!(cw l)) then (some ((AV.bool false),[])) else (f_ N l ((List.length (fQ fs)): Int) 0 ur t1 t2 ak me ta st re ba fs bo (fQ fs) (some ((AV.bool false),[])) (some ((AV.bool true),[]))))) else none)
def vw (φ: aa→Int→Int→(List Fd)→aa→aa→Int→aa→Bool→(List Fd)→aa→(List Fd)→Br): List AV→List Ob→Br
 | [.agg [.str ur, .int .i64 t1, .int .i64 t2, .sh (.pair .str .str) ak, .str me, .str ta, .int .i64 st, .str re, .bool ba, .sh (.pair .str .str) fs, .str bo], .sh (.pair .str .str) l],[]=>φ ur t1 t2 ak me ta st re ba fs bo l
 | _,_=> .fail
theorem FA {φ: aa→Int→Int→(List Fd)→aa→aa→Int→aa→Bool→(List Fd)→aa→(List Fd)→Br} (fu: aa→Int→Int→(List Fd)→aa→aa→Int→aa→Bool→(List Fd)→aa→(List Fd)→Nat) (hv: ∀ ur t1 t2 ak me ta st re ba fs bo l res_,(φ ur t1 t2 ak me ta st re ba fs bo l).val=some res_→vv (fu ur t1 t2 ak me ta st re ba fs bo l) ur t1 t2 ak me ta st re ba fs bo l=some res_): Sound Kx 35 (vw φ):=ap (C:=iChosen_C) (O:=Fy) Tryz.func35 (by kernel_rfl) fun args objs=>by
 unfold vw;split
 · rename_i ur t1 t2 ak me ta st re ba fs bo l;exact .inr fun _ hyp_=>aO (Λ:=Fz (fu ur t1 t2 ak me ta st re ba fs bo l)) (by kernel_rfl) (al (l':=[yR]) (by kernel_rfl) ⟨Ii _,trivial⟩) (by kernel_rfl) (hv ur t1 t2 ak me ta st re ba fs bo l _ hyp_)
 · exact .inl rfl
def Ym (ak l: List Fd) (n: aa): Bool:=bif decide (n=[42]) then false else decide (aN ak n=aN l n)
def mv (e: En) (l: List Fd): Bool:=Ig e&&cw l&&(fQ e.2.2.2.2.2.2.2.2.2.1).all (Ym e.2.2.2.1 l)
theorem TZ (ak: List Fd) (n: aa): decide ((aN ak n).length≤1000000)=true:=dT' (by have:=(fP ak n).1;omega)
theorem FB (ws: List aa) (hl: ws.length≤100000) (ur: aa) (t1 t2: Int) (ak: List Fd) (me ta: aa) (st: Int) (re: aa) (ba: Bool) (fs: List Fd) (bo: aa) (l: List Fd) (k0 k1: OR'):
 ∀ (r: List aa) (i: Int) (n: Nat),At ws i r→r.length < n→(∀ x ∈ r,x.length≤4000)→
 f_ n l (ws.length: Int) i ur t1 t2 ak me ta st re ba fs bo ws k0 k1=bif r.all (Ym ak l) then k1 else k0:=by
 intro r;induction r with
 | nil=>intro i n h hn hm;obtain ⟨n,rfl⟩:=bL hn;unfold f_ kS;simp only [h.dge,cond_false,List.all_nil,cond_true]
 | cons e r ih=>
   intro i n h hn hm;obtain ⟨n,rfl⟩:=bL hn
   simp only [List.length_cons] at hn
   have hM: isM e=true:=bn (n:=4000) (hm e (List.mem_cons_self ..))
   have hr:=ih (i + 1) n h.step (by omega) (fun x hx=>hm x (List.mem_cons_of_mem _ hx))
   unfold f_ kS
   simp only [h.dlt,h.dnn,h.get,cond_true,h.next (show ws.length≤4611686018427387904 by omega),hM,hr,List.all_cons,TZ]
   unfold Ym
   cases decide (e=[42]) <;> cases decide (aN ak e=aN l e) <;> rfl
def ah8: List AV→List Ob→Br
 | [.agg [.str ur, .int .i64 t1, .int .i64 t2, .sh (.pair .str .str) ak, .str me, .str ta, .int .i64 st, .str re, .bool ba, .sh (.pair .str .str) fs, .str bo], .sh (.pair .str .str) l],[]=> .ite (isM ur) (.ret (.bool (mv (ur,t1,t2,ak,me,ta,st,re,ba,fs,bo) l)) []) .fail
 | _,_=> .fail
theorem Ij: Sound Kx 35 ah8:=by
 refine (FA (φ:=fun ur t1 t2 ak me ta st re ba fs bo l=> .ite (isM ur) (.ret (.bool (mv (ur,t1,t2,ak,me,ta,st,re,ba,fs,bo) l)) []) .fail) (fun _ _ _ _ _ _ _ _ _ fs _ _=>(fQ fs).length + 1)
  fun ur t1 t2 ak me ta st re ba fs bo l r h=>?_).of fun args objs r h=>?_
 · obtain ⟨h1,h2⟩:=ai h
   cases h2
   unfold vv mv
   rw [h1,cond_true,FB (fQ fs) (by have:=Ao fs;omega) ur t1 t2 ak me ta st re ba fs bo l _ _ (fQ fs) 0 ((fQ fs).length + 1) (At.start _) (by omega) (Yl fs)]
   cases Ig (ur,t1,t2,ak,me,ta,st,re,ba,fs,bo) <;> cases cw l <;> cases (fQ fs).all (Ym ak l) <;> rfl
 · unfold ah8 at h;split at h
   · exact h
   · cases h
end
end Go.Proofs.YtgknmoadpgpdeaaGreatDoor.Ev
namespace Go.Proofs.YtgknmoadpgpdeaaGreatDoor.Ev
open Go Go.RowKit
set_option linter.unusedVariables false
set_option linter.unusedSimpArgs false
end Go.Proofs.YtgknmoadpgpdeaaGreatDoor.Ev
namespace Go.Proofs.YtgknmoadpgpdeaaGreatDoor.Ev
open Go Go.RowKit
set_option linter.unusedVariables false
set_option linter.unusedSimpArgs false
noncomputable section
end
end Go.Proofs.YtgknmoadpgpdeaaGreatDoor.Ev
namespace Go.Proofs.YtgknmoadpgpdeaaGreatDoor.Ev
open Go Go.RowKit
set_option linter.unusedVariables false
set_option linter.unusedSimpArgs false
end Go.Proofs.YtgknmoadpgpdeaaGreatDoor.Ev
namespace Go.Proofs.YtgknmoadpgpdeaaGreatDoor.Ev
open Go Go.RowKit
set_option linter.unusedVariables false
set_option linter.unusedSimpArgs false
noncomputable section
end
end Go.Proofs.YtgknmoadpgpdeaaGreatDoor.Ev
