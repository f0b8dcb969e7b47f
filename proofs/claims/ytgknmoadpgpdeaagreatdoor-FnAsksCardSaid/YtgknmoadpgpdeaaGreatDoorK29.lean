/- The texts Ud, Ue, Uf, Ug, Uh, Ui, Uj, Uk, Ul, Um, Un, Uo, Va, Vb, Vc, Vd, Ve, Vf, Vg, Vh, Xa, Xb, Xc, Xd, Vi, Vj, Vk, Vl, Vm, Vn, Wa, Wb, Vo, Xe, Xf, Xg, Xh, Xi, Xj, Th, one behind the other. -/
import Derived.Test.YtgknmoadpgpdeaaGreatDoorK24
import Derived.Test.YtgknmoadpgpdeaaGreatDoorK27
import Derived.Test.YtgknmoadpgpdeaaGreatDoorK28
import Derived.Test.YtgknmoadpgpdeaaGreatDoorK13
import Derived.Test.YtgknmoadpgpdeaaGreatDoorK19
import Derived.Test.YtgknmoadpgpdeaaGreatDoorK21
import Derived.Test.YtgknmoadpgpdeaaGreatDoorK23
namespace Go.Proofs.YtgknmoadpgpdeaaGreatDoor.Ev
open Go Go.RowKit
set_option linter.unusedVariables false
set_option linter.unusedSimpArgs false
noncomputable section
def ON: Opt:={ live:=[(3,[0,3,4])],outs:=[(3,[2,3])] }
def iunes_C: SC:=[⟨336,_,Kl⟩,⟨335,_,OB⟩]
def px (ax: aa) (an: Int) (bl: (List Int)) (kR3: aa→Int→(List Int)→OR') (dH: (List Int)→OR'): OR':=
 (bif (decide (an < (ax.length: Int))) then (bif (decide (0≤an)) then (bif (decide (an < (ax.length: Int))) then (bif (!(decide ((aj ax an)=37))) then (bif (decide (0≤an)) then (bif (decide (an < (ax.length: Int))) then (bif (decide (((bl.length + (List.length (List.set (List.replicate 1 0) 0 (aj ax an)))) * 1)≤140737488355328)) then (kR3 ax (ad (an + 1)) (bl++(List.set (List.replicate 1 0) 0 (aj ax an)))) else none) else none) else none) else (bif (decide ((ax.length: Int)≤(ad (an + 2)))) then (bif (decide (0≤an)) then (bif (decide (an < (ax.length: Int))) then (bif (decide (((bl.length + (List.length (List.set (List.replicate 1 0) 0 (aj ax an)))) * 1)≤140737488355328)) then (kR3 ax (ad (an + 1)) (bl++(List.set (List.replicate 1 0) 0 (aj ax an)))) else none) else none) else none) else (bif (decide (0≤(ad (an + 1)))) then (bif (decide ((ad (an + 1)) < (ax.length: Int))) then (bif (decide ((dD (aj ax (ad (an + 1)))) < 0)) then (bif (decide (0≤an)) then (bif (decide (an < (ax.length: Int))) then (bif (decide (((bl.length + (List.length (List.set (List.replicate 1 0) 0 (aj ax an)))) * 1)≤140737488355328)) then (kR3 ax (ad (an + 1)) (bl++(List.set (List.replicate 1 0) 0 (aj ax an)))) else none) else none) else none) else (bif (decide (0≤(ad (an + 2)))) then (bif (decide ((ad (an + 2)) < (ax.length: Int))) then (bif (decide ((dD (aj ax (ad (an + 2)))) < 0)) then (bif (decide (0≤an)) then (bif (decide (an < (ax.length: Int))) then (bif (decide (((bl.length + (List.length (List.set (List.replicate 1 0) 0 (aj ax an)))) * 1)≤140737488355328)) then (kR3 ax (ad (an + 1)) (bl++(List.set (List.replicate 1 0) 0 (aj ax an)))) else none) else none) else none) else (bif (decide (0≤(ad (an + 1)))) then (bif (decide ((ad (an + 1)) < (ax.length: Int))) then (bif (decide (0≤(ad (an + 2)))) then (bif (decide ((ad (an + 2)) < (ax.length: Int))) then (bif (oQ (wk8 (ad ((ad (16 * (dD (aj ax (ad (an + 1)))))) + (dD (aj ax (ad (an + 2)))))))) then (bif (decide (((bl.length + (List.length (List.set (List.replicate 1 0) 0 (wk8 (ad ((ad (16 * (dD (aj ax (ad (an + 1)))))) + (dD (aj ax (ad (an + 2)))))))))) * 1)≤140737488355328)) then (kR3 ax (ad ((ad (an + 2)) + 1)) (bl++(List.set (List.replicate 1 0) 0 (wk8 (ad ((ad (16 * (dD (aj ax (ad (an + 1)))))) + (dD (aj ax (ad (an + 2)))))))))) else none) else (bif (decide (0≤(Int.fdiv (wk8 (ad ((ad (16 * (dD (aj ax (ad (an + 1)))))) + (dD (aj ax (ad (an + 2))))))) 16))) then (bif (decide ((Int.fdiv (wk8 (ad ((ad (16 * (dD (aj ax (ad (an + 1)))))) + (dD (aj ax (ad (an + 2))))))) 16) < 16)) then (bif (decide (0≤(wkk .u8 (((BitVec.toNat ((BitVec.ofInt 8 (wk8 (ad ((ad (16 * (dD (aj ax (ad (an + 1)))))) + (dD (aj ax (ad (an + 2))))))))&&& (BitVec.ofInt 8 15))): Nat): Int)))) then (bif (decide ((wkk .u8 (((BitVec.toNat ((BitVec.ofInt 8 (wk8 (ad ((ad (16 * (dD (aj ax (ad (an + 1)))))) + (dD (aj ax (ad (an + 2))))))))&&& (BitVec.ofInt 8 15))): Nat): Int)) < 16)) then (bif (decide (((bl.length + (List.length (List.set (List.set (List.set (List.replicate 3 0) 0 37) 1 (aj ([48,49,50,51,52,53,54,55,56,57,65,66,67,68,69,70]: aa) (Int.fdiv (wk8 (ad ((ad (16 * (dD (aj ax (ad (an + 1)))))) + (dD (aj ax (ad (an + 2))))))) 16))) 2 (aj ([48,49,50,51,52,53,54,55,56,57,65,66,67,68,69,70]: aa) (wkk .u8 (((BitVec.toNat ((BitVec.ofInt 8 (wk8 (ad ((ad (16 * (dD (aj ax (ad (an + 1)))))) + (dD (aj ax (ad (an + 2))))))))&&& (BitVec.ofInt 8 15))): Nat): Int)))))) * 1)≤140737488355328)) then (kR3 ax (ad ((ad (an + 2)) + 1)) (bl++(List.set (List.set (List.set (List.replicate 3 0) 0 37) 1 (aj ([48,49,50,51,52,53,54,55,56,57,65,66,67,68,69,70]: aa) (Int.fdiv (wk8 (ad ((ad (16 * (dD (aj ax (ad (an + 1)))))) + (dD (aj ax (ad (an + 2))))))) 16))) 2 (aj ([48,49,50,51,52,53,54,55,56,57,65,66,67,68,69,70]: aa) (wkk .u8 (((BitVec.toNat ((BitVec.ofInt 8 (wk8 (ad ((ad (16 * (dD (aj ax (ad (an + 1)))))) + (dD (aj ax (ad (an + 2))))))))&&& (BitVec.ofInt 8 15))): Nat): Int)))))) else none) else none) else none) else none) else none)) else none) else none) else none) else none)) else none) else none)) else none) else none))) else none) else none) else (dH bl))
def jq: Nat→aa→Int→(List Int)→((List Int)→OR')→OR'
 | 0,_,_,_,_=>none
 | n + 1,ax,an,bl,dH=>px ax an bl (fun ax an bl=>jq n ax an bl dH) dH
abbrev iunes_p3: SP:=⟨77,[0,3,4],[(.v .s),(.v (.ref 256 0)),(.v (.i .i64))],[(256, .arr (Ty.int .u8) 0 false)]⟩
noncomputable def Hz: Code:=ar (aC Tryz.f319) [1,1,0,1,0,0]
def HA (f: ((List Int)→OR')→OR') (k: KT): OR':=f (fun bd=>k (Ex.exit 0) ((St.mk (aA 0 77 [(3,(AV.ref 256 0))]) ((256,(Ob.arr (Ty.int .u8) 0 false bd))::([]: (List (Nat×(Ob))))))))
def HB (n: Nat) (d: iunes_p3.D): KT→OR':=HA (jq n d.1.1 d.1.2.2.1 d.2.1)
def OO (N: Nat): Lam:=bI [⟨3,iunes_p3,HB N⟩]
theorem OP (N: Nat): OkL Kx iunes_C.s ON 0 N (OO N) Hz:=okL iunes_p3 (HB) (fun d kR=>HA (px d.1.1 d.1.2.2.1 d.2.1 (fun ax an bl=>kR ((ax,(),an,()),(bl,()))))) (fun _ _=>by kernel_rfl) (fun _ _ _=>by kernel_rfl) (fun _ _=>by kernel_rfl) (fun _ _ _ _=>by kernel_rfl) (af (l':=[]) (by kernel_rfl) trivial)
def A1 (N: Nat) (s: aa): OR':=(jq N s 0 ([]: (List Int)) (fun bd=>(some ((AV.str (bP bd)),[]))))
def A2 (φ: aa→Br): List AV→List Ob→Br
 | [.str s],[]=>φ s
 | _,_=> .fail
theorem Kn {φ: aa→Br} (fu: aa→Nat) (hv: ∀ s res_,(φ s).val=some res_→A1 (fu s) s=some res_): Sound Kx 319 (A2 φ):=ah (C:=iunes_C) (O:=ON) Tryz.func319 (by kernel_rfl) fun args objs=>by
 unfold A2;split
 · rename_i s;exact .inr fun _ hyp_=>aL (Λ:=OO (fu s)) (by kernel_rfl) (af (l':=[Hz]) (by kernel_rfl) ⟨OP _,trivial⟩) (by kernel_rfl) (hv s _ hyp_)
 · exact .inl rfl
def OQ: Opt:={ live:=[(3,[0,3,4])],outs:=[(3,[2,3])] }
def sunes_C: SC:=[⟨323,_,AU⟩,⟨324,_,OC⟩,⟨325,_,Km⟩]
def py (ax: aa) (an: Int) (bl: (List Int)) (kR3: aa→Int→(List Int)→OR') (dH: (List Int)→OR'): OR':=
 (bif (decide (an < (ax.length: Int))) then (bif (decide (0≤an)) then (bif (decide (an < (ax.length: Int))) then (bif (!(decide ((aj ax an)=37))) then (bif (decide (0≤an)) then (bif (decide (an < (ax.length: Int))) then (bif (decide (((bl.length + (List.length (List.set (List.replicate 1 0) 0 (aj ax an)))) * 1)≤140737488355328)) then (kR3 ax (ad (an + 1)) (bl++(List.set (List.replicate 1 0) 0 (aj ax an)))) else none) else none) else none) else (bif (decide ((ax.length: Int)≤(ad (an + 2)))) then (bif (decide (0≤an)) then (bif (decide (an < (ax.length: Int))) then (bif (decide (((bl.length + (List.length (List.set (List.replicate 1 0) 0 (aj ax an)))) * 1)≤140737488355328)) then (kR3 ax (ad (an + 1)) (bl++(List.set (List.replicate 1 0) 0 (aj ax an)))) else none) else none) else none) else (bif (decide (0≤(ad (an + 1)))) then (bif (decide ((ad (an + 1))≤(ad (an + 3)))) then (bif (decide ((ad (an + 3))≤(ax.length: Int))) then (bif (!(gz (cut ax (ad (an + 1)) (ad (an + 3)))).2) then (bif (decide (0≤an)) then (bif (decide (an < (ax.length: Int))) then (bif (decide (((bl.length + (List.length (List.set (List.replicate 1 0) 0 (aj ax an)))) * 1)≤140737488355328)) then (kR3 ax (ad (an + 1)) (bl++(List.set (List.replicate 1 0) 0 (aj ax an)))) else none) else none) else none) else (bif ((decide (0≤(wk8 (gz (cut ax (ad (an + 1)) (ad (an + 3)))).1)))&&(decide ((wk8 (gz (cut ax (ad (an + 1)) (ad (an + 3)))).1) < 256))) then (bif (oQ (wk8 (gz (cut ax (ad (an + 1)) (ad (an + 3)))).1)) then (bif (decide (((bl.length + (List.length (List.set (List.replicate 1 0) 0 (wk8 (gz (cut ax (ad (an + 1)) (ad (an + 3)))).1)))) * 1)≤140737488355328)) then (kR3 ax (ad ((ad (an + 2)) + 1)) (bl++(List.set (List.replicate 1 0) 0 (wk8 (gz (cut ax (ad (an + 1)) (ad (an + 3)))).1)))) else none) else (bif (decide (0≤(ad (an + 1)))) then (bif (decide ((ad (an + 1)) < (ax.length: Int))) then (bif (decide (0≤(ad (an + 2)))) then (bif (decide ((ad (an + 2)) < (ax.length: Int))) then (bif (decide (((bl.length + (List.length (List.set (List.set (List.set (List.replicate 3 0) 0 37) 1 (upI (aj ax (ad (an + 1))))) 2 (upI (aj ax (ad (an + 2))))))) * 1)≤140737488355328)) then (kR3 ax (ad ((ad (an + 2)) + 1)) (bl++(List.set (List.set (List.set (List.replicate 3 0) 0 37) 1 (upI (aj ax (ad (an + 1))))) 2 (upI (aj ax (ad (an + 2))))))) else none) else none) else none) else none) else none)) else none)) else none) else none) else none))) else none) else none) else (dH bl))
def jr: Nat→aa→Int→(List Int)→((List Int)→OR')→OR'
 | 0,_,_,_,_=>none
 | n + 1,ax,an,bl,dH=>py ax an bl (fun ax an bl=>jr n ax an bl dH) dH
abbrev sunes_p3: SP:=⟨75,[0,3,4],[(.v .s),(.v (.ref 256 0)),(.v (.i .i64))],[(256, .arr (Ty.int .u8) 0 false)]⟩
noncomputable def HC: Code:=ar (aC Tryz.f302) [1,1,0,1,0,0]
def HD (f: ((List Int)→OR')→OR') (k: KT): OR':=f (fun bd=>k (Ex.exit 0) ((St.mk (aA 0 75 [(3,(AV.ref 256 0))]) ((256,(Ob.arr (Ty.int .u8) 0 false bd))::([]: (List (Nat×(Ob))))))))
def HE (n: Nat) (d: sunes_p3.D): KT→OR':=HD (jr n d.1.1 d.1.2.2.1 d.2.1)
def OR (N: Nat): Lam:=bI [⟨3,sunes_p3,HE N⟩]
theorem OS (N: Nat): OkL Kx sunes_C.s OQ 0 N (OR N) HC:=okL sunes_p3 (HE) (fun d kR=>HD (py d.1.1 d.1.2.2.1 d.2.1 (fun ax an bl=>kR ((ax,(),an,()),(bl,()))))) (fun _ _=>by kernel_rfl) (fun _ _ _=>by kernel_rfl) (fun _ _=>by kernel_rfl) (fun _ _ _ _=>by kernel_rfl) (af (l':=[]) (by kernel_rfl) trivial)
def A3 (N: Nat) (s: aa): OR':=(jr N s 0 ([]: (List Int)) (fun bd=>(some ((AV.str (bP bd)),[]))))
def A4 (φ: aa→Br): List AV→List Ob→Br
 | [.str s],[]=>φ s
 | _,_=> .fail
theorem Ko {φ: aa→Br} (fu: aa→Nat) (hv: ∀ s res_,(φ s).val=some res_→A3 (fu s) s=some res_): Sound Kx 302 (A4 φ):=ah (C:=sunes_C) (O:=OQ) Tryz.func302 (by kernel_rfl) fun args objs=>by
 unfold A4;split
 · rename_i s;exact .inr fun _ hyp_=>aL (Λ:=OR (fu s)) (by kernel_rfl) (af (l':=[HC]) (by kernel_rfl) ⟨OS _,trivial⟩) (by kernel_rfl) (hv s _ hyp_)
 · exact .inl rfl
def A5: Opt:={ live:=[(2,[0,1,5])],outs:=[(2,[4])] }
def allHost_C: SC:=[⟨337,_,OA⟩]
def js (ay: aa) (aB: Int) (kR2: aa→Int→OR') (cf cO: OR'): OR':=
 (bif (decide (aB < (ay.length: Int))) then (bif (decide (0≤aB)) then (bif (decide (aB < (ay.length: Int))) then (bif (!(hoB (aj ay aB))) then cf else (kR2 ay (ad (aB + 1)))) else none) else none) else cO)
def fg: Nat→aa→Int→(OR')→(OR')→OR'
 | 0,_,_,_,_=>none
 | n + 1,ay,aB,cf,cO=>js ay aB (fun ay aB=>fg n ay aB cf cO) cf cO
abbrev allHost_p2: SP:=⟨18,[0,1,5],[(.v .s),(.v (.fn 337 [])),(.v (.i .i64))],[]⟩
noncomputable def uO: Code:=ar (aC Tryz.f74) [1,0,1,0,0]
def uP (f: (OR')→(OR')→OR') (k: KT): OR':=f (k Ex.ret ((St.mk (aA 0 18 [(4,(AV.bool false))]) ([]: (List (Nat×(Ob))))))) (k (Ex.exit 0) ((St.mk (aA 0 18 []) ([]: (List (Nat×(Ob)))))))
def uQ (n: Nat) (d: allHost_p2.D): KT→OR':=uP (fg n d.1.1 d.1.2.2.1)
def A6 (N: Nat): Lam:=bI [⟨2,allHost_p2,uQ N⟩]
theorem DR (N: Nat): OkL Kx allHost_C.s A5 0 N (A6 N) uO:=okL allHost_p2 (uQ) (fun d kR=>uP (js d.1.1 d.1.2.2.1 (fun ay aB=>kR ((ay,(),aB,()),())))) (fun _ _=>by kernel_rfl) (fun _ _ _=>by kernel_rfl) (fun _ _=>by kernel_rfl) (fun _ _ _ _=>by kernel_rfl) (af (l':=[]) (by kernel_rfl) trivial)
def rF (N: Nat) (s: aa): OR':=(fg N s 0 (some ((AV.bool false),[])) (some ((AV.bool true),[])))
def kz (φ: aa→Br): List AV→List Ob→Br
 | [.str s, .fn 337 []],[]=>φ s
 | _,_=> .fail
theorem A7 {φ: aa→Br} (fu: aa→Nat) (hv: ∀ s res_,(φ s).val=some res_→rF (fu s) s=some res_): Sound Kx 74 (kz φ):=ah (C:=allHost_C) (O:=A5) Tryz.func74 (by kernel_rfl) fun args objs=>by
 unfold kz;split
 · rename_i s;exact .inr fun _ hyp_=>aL (Λ:=A6 (fu s)) (by kernel_rfl) (af (l':=[uO]) (by kernel_rfl) ⟨DR _,trivial⟩) (by kernel_rfl) (hv s _ hyp_)
 · exact .inl rfl
def DS: Opt:={ live:=[(10,[3,4,5]),(5,[3,4])],outs:=[(10,[2,3,4]),(5,[2])] }
def sHost_C: SC:=[⟨213,_,e_⟩,⟨301,_,uM⟩]
def lO (cQ dW: Int) (cV: (List aa)) (Wx: Int→Int→(List aa)→OR') (tm UX: Int→(List aa)→OR'): OR':=
 (bif (decide (0≤cQ)) then (bif (decide (cQ < (cV.length: Int))) then (bif (decide (dW < ((List.length (List.getD cV (Int.toNat cQ) ([]: aa))): Int))) then (bif (decide (0≤cQ)) then (bif (decide (cQ < (cV.length: Int))) then (bif (decide (0≤dW)) then (bif (decide (dW < ((List.length (List.getD cV (Int.toNat cQ) ([]: aa))): Int))) then (bif (decide (97≤(aj (List.getD cV (Int.toNat cQ) ([]: aa)) dW))) then (bif (!(decide ((aj (List.getD cV (Int.toNat cQ) ([]: aa)) dW)≤122))) then (bif (!(am (aj (List.getD cV (Int.toNat cQ) ([]: aa)) dW))) then (bif (!(decide ((aj (List.getD cV (Int.toNat cQ) ([]: aa)) dW)=45))) then (tm cQ cV) else (Wx cQ (ad (dW + 1)) cV)) else (Wx cQ (ad (dW + 1)) cV)) else (Wx cQ (ad (dW + 1)) cV)) else (bif (!(am (aj (List.getD cV (Int.toNat cQ) ([]: aa)) dW))) then (bif (!(decide ((aj (List.getD cV (Int.toNat cQ) ([]: aa)) dW)=45))) then (tm cQ cV) else (Wx cQ (ad (dW + 1)) cV)) else (Wx cQ (ad (dW + 1)) cV))) else none) else none) else none) else none) else (UX cQ cV)) else none) else none)
def gA: Nat→Int→Int→(List aa)→(Int→(List aa)→OR')→(Int→(List aa)→OR')→OR'
 | 0,_,_,_,_,_=>none
 | n + 1,cQ,dW,cV,tm,UX=>lO cQ dW cV (fun cQ dW cV=>gA n cQ dW cV tm UX) tm UX
abbrev sHost_p10: SP:=⟨59,[3,4,5],[(.v (.ref 256 0)),(.v (.i .i64)),(.v (.i .i64))],[(256, .arr Ty.str 0 false)]⟩
noncomputable def rG: Code:=ar (aC Tryz.f303) [1,1,1,0,1,0,0,1,0,0,1,1,0,0]
def A8 (f: (Int→(List aa)→OR')→(Int→(List aa)→OR')→OR') (k: KT): OR':=f (fun eN aG=>k Ex.ret ((St.mk (aA 0 59 [(2,(AV.bool false)),(3,(AV.ref 256 0)),(4,(AV.int .i64 eN))]) ((256,(Ob.arr Ty.str 0 false aG))::([]: (List (Nat×(Ob)))))))) (fun EH EI=>k (Ex.exit 2) ((St.mk (aA 0 59 [(3,(AV.ref 256 0)),(4,(AV.int .i64 EH))]) ((256,(Ob.arr Ty.str 0 false EI))::([]: (List (Nat×(Ob))))))))
def A9 (n: Nat) (d: sHost_p10.D): KT→OR':=A8 (gA n d.1.2.1 d.1.2.2.1 d.2.1)
def pz (N: Nat) (aY: Int) (a8: (List aa)) (kR5: Int→(List aa)→OR') (dh xX: OR'): OR':=
 (bif (decide (aY < (a8.length: Int))) then (bif (decide (0≤aY)) then (bif (decide (aY < (a8.length: Int))) then (bif (decide ((List.getD a8 (Int.toNat aY) ([]: aa))=([]: aa))) then dh else (gA N aY 0 a8 (fun eN aG=>dh) (fun EH EI=>(kR5 (ad (EH + 1)) EI)))) else none) else none) else xX)
def jt (N: Nat): Nat→Int→(List aa)→(OR')→(OR')→OR'
 | 0,_,_,_,_=>none
 | n + 1,aY,a8,dh,xX=>pz N aY a8 (fun aY a8=>jt N n aY a8 dh xX) dh xX
abbrev sHost_p5: SP:=⟨59,[3,4],[(.v (.ref 256 0)),(.v (.i .i64))],[(256, .arr Ty.str 0 false)]⟩
noncomputable def HF: Code:=ar (aC Tryz.f303) [1,1,1,0,1,0,0]
def HG (f: (OR')→(OR')→OR') (k: KT): OR':=f (k Ex.ret ((St.mk (aA 0 59 [(2,(AV.bool false))]) ([]: (List (Nat×(Ob))))))) (k (Ex.exit 0) ((St.mk (aA 0 59 []) ([]: (List (Nat×(Ob)))))))
def HH (N n: Nat) (d: sHost_p5.D): KT→OR':=HG (jt N n d.1.2.1 d.2.1)
def DT (N: Nat): Lam:=bI [⟨10,sHost_p10,A9 N⟩,⟨5,sHost_p5,HH N N⟩]
theorem uR (N: Nat): OkL Kx sHost_C.s DS 0 N (DT N) rG:=okL sHost_p10 (A9) (fun d kR=>A8 (lO d.1.2.1 d.1.2.2.1 d.2.1 (fun cQ dW cV=>kR (((),cQ,dW,()),(cV,()))))) (fun _ _=>by kernel_rfl) (fun _ _ _=>by kernel_rfl) (fun _ _=>by kernel_rfl) (fun _ _ _ _=>by kernel_rfl) (af (l':=[]) (by kernel_rfl) trivial)
theorem OT (N: Nat): OkL Kx sHost_C.s DS 0 N (DT N) HF:=okL sHost_p5 (HH N) (fun d kR=>HG (pz N d.1.2.1 d.2.1 (fun aY a8=>kR (((),aY,()),(a8,()))))) (fun _ _=>by kernel_rfl) (fun _ _ _=>by kernel_rfl) (fun _ _=>by kernel_rfl) (fun _ _ _ _=>by kernel_rfl) (af (l':=[rG]) (by kernel_rfl) ⟨uR _,trivial⟩)
def A_ (N: Nat) (s: aa): OR':=(bif (decide ((s.length: Int)=0)) then (some ((AV.bool false),[])) else (bif (decide (60 < (s.length: Int))) then (some ((AV.bool false),[])) else (bif (decide (s.length≤1000000)) then (jt N N 0 (iD s 46) (some ((AV.bool false),[])) (some ((AV.bool true),[]))) else none)))
def Ba (φ: aa→Br): List AV→List Ob→Br
 | [.str s],[]=>φ s
 | _,_=> .fail
theorem Kp {φ: aa→Br} (fu: aa→Nat) (hv: ∀ s res_,(φ s).val=some res_→A_ (fu s) s=some res_): Sound Kx 303 (Ba φ):=ah (C:=sHost_C) (O:=DS) Tryz.func303 (by kernel_rfl) fun args objs=>by
 unfold Ba;split
 · rename_i s;exact .inr fun _ hyp_=>aL (Λ:=DT (fu s)) (by kernel_rfl) (af (l':=[HF,rG]) (by kernel_rfl) ⟨OT _,uR _,trivial⟩) (by kernel_rfl) (hv s _ hyp_)
 · exact .inl rfl
def X0: SC:=[⟨201,_,dc⟩,⟨232,_,CQ⟩]
def wU (n: Int): Br:=(.ite (decide (0≤n)) (.ite (!(decide (n≤999999999999999))) (.ret (AV.str ([]: aa)) []) (.ite (bw n) (.ret (AV.str (bR n)) []) .fail)) (.ret (AV.str ([]: aa)) []))
def OU: List AV→List Ob→Br
 | [.int .i64 n],[]=>wU n
 | _,_=> .fail
theorem iDecT_ok: Sound Kx 316 OU:=ac (C:=X0) (O:=O0) Tryz.func316 (by kernel_rfl) fun args objs=>by
 unfold OU;split
 · exact .inr (by kernel_rfl)
 · exact .inl rfl
def uS: Opt:={ live:=[(5,[0,4,5])],outs:=[(5,[0,2,3,4])] }
def sReadDec_C: SC:=[⟨213,_,e_⟩,⟨191,_,mR⟩]
def im (aY: aa) (a8 bc: Int) (kR5: aa→Int→Int→OR') (dh xX: aa→Int→OR'): OR':=
 (bif (decide (bc < (aY.length: Int))) then (bif (decide (0≤bc)) then (bif (decide (bc < (aY.length: Int))) then (bif (!(am (aj aY bc))) then (dh aY a8) else (bif (decide (0≤bc)) then (bif (decide (bc < (aY.length: Int))) then (kR5 aY (ad ((ad (a8 * 10)) + (ad (wk8 ((aj aY bc) - 48))))) (ad (bc + 1))) else none) else none)) else none) else none) else (xX aY a8))
def en: Nat→aa→Int→Int→(aa→Int→OR')→(aa→Int→OR')→OR'
 | 0,_,_,_,_,_=>none
 | n + 1,aY,a8,bc,dh,xX=>im aY a8 bc (fun aY a8 bc=>en n aY a8 bc dh xX) dh xX
abbrev sReadDec_p5: SP:=⟨38,[0,4,5],[(.v .s),(.v (.i .i64)),(.v (.i .i64))],[]⟩
noncomputable def rH: Code:=ar (aC Tryz.f274) [1,1,1,0,1,0,0]
def rI (f: (aa→Int→OR')→(aa→Int→OR')→OR') (k: KT): OR':=f (fun ai bJ=>k Ex.ret ((St.mk (aA 0 38 [(0,(AV.str ai)),(2,(AV.int .i64 0)),(3,(AV.bool false)),(4,(AV.int .i64 bJ))]) ([]: (List (Nat×(Ob))))))) (fun sC Ch=>k (Ex.exit 0) ((St.mk (aA 0 38 [(0,(AV.str sC)),(4,(AV.int .i64 Ch))]) ([]: (List (Nat×(Ob)))))))
def rJ (n: Nat) (d: sReadDec_p5.D): KT→OR':=rI (en n d.1.1 d.1.2.1 d.1.2.2.1)
def uT (N: Nat): Lam:=bI [⟨5,sReadDec_p5,rJ N⟩]
theorem Bb (N: Nat): OkL Kx sReadDec_C.s uS 0 N (uT N) rH:=okL sReadDec_p5 (rJ) (fun d kR=>rI (im d.1.1 d.1.2.1 d.1.2.2.1 (fun aY a8 bc=>kR ((aY,a8,bc,()),())))) (fun _ _=>by kernel_rfl) (fun _ _ _=>by kernel_rfl) (fun _ _=>by kernel_rfl) (fun _ _ _ _=>by kernel_rfl) (af (l':=[]) (by kernel_rfl) trivial)
def oA (N: Nat) (s: aa): OR':=(bif (decide ((s.length: Int)=0)) then (some ((AV.tup [.int .i64 0,.bool false]),[])) else (bif (decide (15 < (s.length: Int))) then (some ((AV.tup [.int .i64 0,.bool false]),[])) else (en N s 0 0 (fun ai bJ=>(some ((AV.tup [.int .i64 0,.bool false]),[]))) (fun sC Ch=>(bif (bw Ch) then (bif (!(decide ((bR Ch)=sC))) then (some ((AV.tup [.int .i64 0,.bool false]),[])) else (some ((AV.tup [.int .i64 Ch,.bool true]),[]))) else none)))))
def oB (φ: aa→Br): List AV→List Ob→Br
 | [.str s],[]=>φ s
 | _,_=> .fail
theorem wV {φ: aa→Br} (fu: aa→Nat) (hv: ∀ s res_,(φ s).val=some res_→oA (fu s) s=some res_): Sound Kx 274 (oB φ):=ah (C:=sReadDec_C) (O:=uS) Tryz.func274 (by kernel_rfl) fun args objs=>by
 unfold oB;split
 · rename_i s;exact .inr fun _ hyp_=>aL (Λ:=uT (fu s)) (by kernel_rfl) (af (l':=[rH]) (by kernel_rfl) ⟨Bb _,trivial⟩) (by kernel_rfl) (hv s _ hyp_)
 · exact .inl rfl
theorem X1: ∀ k: Fin 256,0≤dD (k.val: Int)→aj Oz (dD (k.val: Int))=upI (k.val: Int):=by decide +kernel
theorem VT (a: UInt8) (h: 0≤dD (by8 a)): aj Oz (dD (by8 a))=upI (by8 a):=X1 ⟨a.toNat,a.toNat_lt⟩ h
theorem aay: ∀ k: Fin 256,0≤upI (k.val: Int)∧upI (k.val: Int) < 256:=by decide +kernel
theorem aaz (a: UInt8): 0≤upI (by8 a)∧upI (by8 a) < 256:=aay ⟨a.toNat,a.toNat_lt⟩
theorem X2: ∀ x y: Fin 16,IntKind.u8.wrap ((BitVec.ofInt 8 (16 * (x.val: Int) + (y.val: Int))&&& BitVec.ofInt 8 15).toNat: Int)=(y.val: Int):=by decide +kernel
theorem X3 (x y: Int) (hx: 0≤x) (hx': x < 16) (hy: 0≤y) (hy': y < 16): wkk .u8 ((BitVec.ofInt 8 (16 * x + y)&&& BitVec.ofInt 8 15).toNat: Int)=y:=by
 have h:=X2 ⟨x.toNat,by omega⟩ ⟨y.toNat,by omega⟩
 simp only at h
 rw [show ((x.toNat: Nat): Int)=x by omega,show ((y.toNat: Nat): Int)=y by omega] at h
 rw [pK];exact h
theorem rK (n: Int) (h0: 0≤n) (h1: n < 256): by8 (UInt8.ofNat n.toNat)=n:=by
 unfold by8;rw [UInt8.toNat_ofNat'];omega
theorem oC (c: UInt8) (r: aa): bytesOf (c::r)=by8 c::bytesOf r:=rfl
theorem rL (a b: aa): bytesOf (a++b)=bytesOf a++bytesOf b:=by simp [bytesOf]
theorem pA (c a b: UInt8) (r: aa): dY (c::a::b::r)=bif rD c a b then uJ a b++dY r else c::dY (a::b::r):=by rw [dY]
theorem oD (a b: UInt8) (h0: 0≤dm a b) (h1: dm a b < 256): bytesOf (uJ a b)=bif oQ (dm a b) then [dm a b] else [37,upI (by8 a),upI (by8 b)]:=by
 have ha:=aaz a
 have hb:=aaz b
 unfold uJ
 cases oQ (dm a b)
 · simp only [cond_false,oC,rK _ ha.1 ha.2,rK _ hb.1 hb.2];rfl
 · simp only [cond_true,oC,rK _ h0 h1];rfl
theorem kA {α: Type} {b: Bool} {x y: α} (h: b=true): (bif b then x else y)=x:=by rw [h];rfl
theorem ads (a b c: Int): List.set (List.set (List.set (List.replicate 3 (0 : Int)) 0 a) 1 b) 2 c=[a,b,c]:=rfl
theorem OV: ((48 : UInt8)::((49 : UInt8)::((50 : UInt8)::((51 : UInt8)::((52 : UInt8)::((53 : UInt8)::((54 : UInt8)::((55 : UInt8)::((56 : UInt8)::((57 : UInt8)::((65 : UInt8)::((66 : UInt8)::((67 : UInt8)::((68 : UInt8)::((69 : UInt8)::((70 : UInt8)::([]: (List UInt8))))))))))))))))))=Oz:=rfl
theorem Kq (s: aa) (hl: s.length≤1000000) (k: List Int→OR'): ∀ (n: Nat) (r: aa) (i: Int) (out: List Int),At s i r→r.length < n→out.length + r.length≤s.length→
 jq n s i out k=k (out++bytesOf (dY r)):=by
 intro n;induction n with
 | zero=>intro r i out h hn;omega
 | succ n ih=>
   intro r i out h hn ho
   cases r with
   | nil=>unfold jq px;simp only [h.dge,cond_false,dY];simp [bytesOf]
   | cons c r=>
     simp only [List.length_cons] at hn ho
     have hap: decide ((out.length + [by8 c].length) * 1≤140737488355328)=true:=dT' (by simp only [List.length_singleton];omega)
     have hi:=h.nn
     have hle:=h.le
     simp only [List.length_cons] at hle
     have w1: ad (i + 1)=i + 1:=w64 (by omega) (by omega)
     have w2: ad (i + 2)=i + 2:=w64 (by omega) (by omega)
     have hstep:=ih r (i + 1) (out++[by8 c]) h.step (by omega) (by simp;omega)
     have hst': k (out++[by8 c]++bytesOf (dY r))=k (out++by8 c::bytesOf (dY r)):=by simp
     rw [hst'] at hstep
     unfold jq px
     simp only [h.dlt,h.dnn,h.str,cond_true,ci,hap,w1,w2,hstep]
     cases c1: decide (by8 c=37)
     · simp only [Bool.not_false,cond_true]
       have e: ∀ a b,rD c a b=false:=fun a b=>by unfold rD;rw [c1];rfl
       cases r with
       | nil=>rfl
       | cons a r=>cases r with
         | nil=>rfl
         | cons b r=>rw [pA,e a b,cond_false];rfl
     · simp only [Bool.not_true,cond_false]
       cases r with
       | nil=>
         rw [dT' (show (s.length: Int)≤i + 2 by simp at hle;omega),cond_true];rfl
       | cons a r=>cases r with
         | nil=>
           rw [dT' (show (s.length: Int)≤i + 2 by simp at hle;omega),cond_true];rfl
         | cons b r=>
           simp only [List.length_cons] at hle hn ho
           have h2:=h.step
           have h3:=h2.step
           have e2: i + 1 + 1=i + 2:=by omega
           rw [e2] at h3
           rw [dF' (show ¬ (s.length: Int)≤i + 2 by omega),cond_false,pA]
           simp only [h2.dlt,h2.dnn,h2.str,h3.dlt,h3.dnn,h3.str,cond_true]
           unfold rD
           rw [c1,Bool.true_and]
           have hxa:=rC (by8 a)
           have hxb:=rC (by8 b)
           cases c2: decide (dD (by8 a) < 0)
           · cases c3: decide (dD (by8 b) < 0)
             · have g2:=of_decide_eq_false c2
               have g3:=of_decide_eq_false c3
               have hp: wk8 (ad (ad (16 * dD (by8 a)) + dD (by8 b)))=dm a b:=by unfold dm;simp (disch:=omega) only [w8,w64]
               have p0: 0≤dm a b:=by unfold dm;omega
               have p1: dm a b < 256:=by unfold dm;omega
               have hd: (dm a b).fdiv 16=dD (by8 a):=by unfold dm;rw [Int.fdiv_eq_ediv_of_nonneg _ (by decide)];omega
               have hm: wkk .u8 ((BitVec.ofInt 8 (dm a b)&&& BitVec.ofInt 8 15).toNat: Int)=dD (by8 b):=X3 _ _ (by omega) hxa (by omega) hxb
               have w3: ad (i + 2 + 1)=i + 3:=by rw [w64 (by omega) (by omega)];omega
               have ha3: decide ((out.length + [37,upI (by8 a),upI (by8 b)].length) * 1≤140737488355328)=true:=dT' (by simp only [List.length_cons,List.length_nil];omega)
               have ha1: decide ((out.length + [dm a b].length) * 1≤140737488355328)=true:=dT' (by simp only [List.length_cons,List.length_nil];omega)
               have q1: decide (0≤dD (by8 a))=true:=dT' (by omega)
               have q2: decide (dD (by8 a) < 16)=true:=dT' hxa
               have q3: decide (0≤dD (by8 b))=true:=dT' (by omega)
               have q4: decide (dD (by8 b) < 16)=true:=dT' hxb
               simp only [hp,hd,hm,Bool.not_false,Bool.and_self,cond_true,cond_false,rL,oD a b p0 p1,ads,OV,VT a (by omega),VT b (by omega),w3,ci,ha3,ha1,q1,q2,q3,q4]
               have h4:=h3.step
               rw [show i + 2 + 1=i + 3 by omega] at h4
               cases oQ (dm a b)
               · have:=ih r (i + 3) (out++[37,upI (by8 a),upI (by8 b)]) h4 (by omega) (by simp;omega)
                 rw [cond_false,this,List.append_assoc];rfl
               · have:=ih r (i + 3) (out++[dm a b]) h4 (by omega) (by simp;omega)
                 rw [cond_true,this,List.append_assoc];rfl
             · simp only [Bool.not_false,Bool.not_true,Bool.and_false,cond_true,cond_false];rfl
           · simp only [Bool.not_true,Bool.false_and,cond_true,cond_false];rfl
def TA: List AV→List Ob→Br
 | [.str s],[]=> .ite (decide (s.length≤1000000)) (.ret (.str (dY s)) []) .fail
 | _,_=> .fail
theorem OW: Sound Kx 319 TA:=by
 refine (Kn (φ:=fun s=> .ite (decide (s.length≤1000000)) (.ret (.str (dY s)) []) .fail) (fun s=>s.length + 1) fun s r h=>?_).of fun args objs r h=>?_
 · obtain ⟨h1,h2⟩:=ae h
   cases h2
   rw [decide_eq_true_eq] at h1
   unfold A1
   rw [Kq s h1 _ _ s 0 [] (At.start s) (by omega) (by simp),List.nil_append,qk]
 · unfold TA at h;split at h
   · exact h
   · cases h
theorem OX (a b: UInt8): gz [a,b]=bif !decide (dD (by8 a) < 0)&& !decide (dD (by8 b) < 0) then (dm a b,true) else (0,false):=by
 have e1: aH d9 [a,b]=(!decide (dD (by8 a) < 0)&& !decide (dD (by8 b) < 0)):=by
  show (d9 (by8 a)&&(d9 (by8 b)&&true))=_
  rw [Bool.and_true];rfl
 have e2: Ze [a,b] 0=dm a b:=by
  show (0 * 16 + dD (by8 a)) * 16 + dD (by8 b)=_
  unfold dm;omega
 unfold gz
 rw [e1,e2];rfl
theorem Kr (s: aa) (hl: s.length≤1000000) (k: List Int→OR'): ∀ (n: Nat) (r: aa) (i: Int) (out: List Int),At s i r→r.length < n→out.length + r.length≤s.length→
 jr n s i out k=k (out++bytesOf (dY r)):=by
 intro n;induction n with
 | zero=>intro r i out h hn;omega
 | succ n ih=>
   intro r i out h hn ho
   cases r with
   | nil=>unfold jr py;simp only [h.dge,cond_false,dY];simp [bytesOf]
   | cons c r=>
     simp only [List.length_cons] at hn ho
     have hap: decide ((out.length + [by8 c].length) * 1≤140737488355328)=true:=dT' (by simp only [List.length_singleton];omega)
     have hi:=h.nn
     have hle:=h.le
     simp only [List.length_cons] at hle
     have w1: ad (i + 1)=i + 1:=w64 (by omega) (by omega)
     have w2: ad (i + 2)=i + 2:=w64 (by omega) (by omega)
     have w3': ad (i + 3)=i + 3:=w64 (by omega) (by omega)
     have hstep:=ih r (i + 1) (out++[by8 c]) h.step (by omega) (by simp;omega)
     have hst': k (out++[by8 c]++bytesOf (dY r))=k (out++by8 c::bytesOf (dY r)):=by simp
     rw [hst'] at hstep
     unfold jr py
     simp only [h.dlt,h.dnn,h.str,cond_true,ci,hap,w1,w2,w3',hstep]
     cases c1: decide (by8 c=37)
     · simp only [Bool.not_false,cond_true]
       have e: ∀ a b,rD c a b=false:=fun a b=>by unfold rD;rw [c1];rfl
       cases r with
       | nil=>rfl
       | cons a r=>cases r with
         | nil=>rfl
         | cons b r=>rw [pA,e a b,cond_false];rfl
     · simp only [Bool.not_true,cond_false]
       cases r with
       | nil=>
         rw [dT' (show (s.length: Int)≤i + 2 by simp at hle;omega),cond_true];rfl
       | cons a r=>cases r with
         | nil=>
           rw [dT' (show (s.length: Int)≤i + 2 by simp at hle;omega),cond_true];rfl
         | cons b r=>
           simp only [List.length_cons] at hle hn ho
           have h2:=h.step
           have h3:=h2.step
           have e2: i + 1 + 1=i + 2:=by omega
           rw [e2] at h3
           have hcut: cut s (i + 1) (i + 3)=[a,b]:=by
            obtain ⟨p,hs,hp⟩:=h
            exact d8 (p:=p++[c]) (r:=r) (by rw [hs];simp) (by rw [hp];simp) (by simp;omega)
           rw [dF' (show ¬ (s.length: Int)≤i + 2 by omega),cond_false,pA]
           rw [dT' (show i + 1≤i + 3 by omega),dT' (show i + 3≤(s.length: Int) by omega)]
           simp only [h2.dlt,h2.dnn,h2.str,h3.dlt,h3.dnn,h3.str,cond_true,hcut,OX]
           unfold rD
           rw [c1,Bool.true_and]
           have hxa:=rC (by8 a)
           have hxb:=rC (by8 b)
           cases c2: decide (dD (by8 a) < 0)
           · cases c3: decide (dD (by8 b) < 0)
             · have g2:=of_decide_eq_false c2
               have g3:=of_decide_eq_false c3
               have p0: 0≤dm a b:=by unfold dm;omega
               have p1: dm a b < 256:=by unfold dm;omega
               have hp: wk8 (dm a b)=dm a b:=w8 p0 p1
               have w3: ad (i + 2 + 1)=i + 3:=by rw [w64 (by omega) (by omega)];omega
               have ha3: decide ((out.length + [37,upI (by8 a),upI (by8 b)].length) * 1≤140737488355328)=true:=dT' (by simp only [List.length_cons,List.length_nil];omega)
               have ha1: decide ((out.length + [dm a b].length) * 1≤140737488355328)=true:=dT' (by simp only [List.length_cons,List.length_nil];omega)
               simp only [Bool.not_false,Bool.and_self,cond_true,cond_false,Bool.not_true,hp,dT' p0,dT' p1,rL,oD a b p0 p1,ads,w3,ci,ha3,ha1]
               have h4:=h3.step
               rw [show i + 2 + 1=i + 3 by omega] at h4
               cases oQ (dm a b)
               · have:=ih r (i + 3) (out++[37,upI (by8 a),upI (by8 b)]) h4 (by omega) (by simp;omega)
                 rw [cond_false]
                 refine Eq.trans (kA ha3) ?_
                 rw [this,List.append_assoc];rfl
               · have:=ih r (i + 3) (out++[dm a b]) h4 (by omega) (by simp;omega)
                 rw [cond_true,this,List.append_assoc];rfl
             · simp only [Bool.not_false,Bool.not_true,Bool.and_false,cond_true,cond_false];rfl
           · simp only [Bool.not_true,Bool.not_false,Bool.false_and,cond_true,cond_false];rfl
theorem OY: Sound Kx 302 TA:=by
 refine (Ko (φ:=fun s=> .ite (decide (s.length≤1000000)) (.ret (.str (dY s)) []) .fail) (fun s=>s.length + 1) fun s r h=>?_).of fun args objs r h=>?_
 · obtain ⟨h1,h2⟩:=ae h
   cases h2
   rw [decide_eq_true_eq] at h1
   unfold A3
   rw [Kr s h1 _ _ s 0 [] (At.start s) (by omega) (by simp),List.nil_append,qk]
 · unfold TA at h;split at h
   · exact h
   · cases h
theorem Bc (l: aa) (hl: l.length≤4611686018427387904) (k0 k1: OR'): ∀ (r: aa) (i: Int) (n: Nat),At l i r→r.length < n→fg n l i k0 k1=bif aH hoB r then k1 else k0:=by
 intro r;induction r with
 | nil=>intro i n h hn;obtain ⟨n,rfl⟩:=bH hn;unfold fg js;simp only [h.dge,cond_false,aH,List.all_nil,cond_true]
 | cons a r ih=>
   intro i n h hn;obtain ⟨n,rfl⟩:=bH hn
   have hs:=ih (i + 1) n h.step (by simp at hn;omega)
   unfold fg js;simp only [h.dlt,h.dnn,h.str,cond_true,h.next hl,hs,aH,List.all_cons]
   cases hoB (by8 a) <;> rfl
def OZ:=kz fun s=> .ite (isM s) (.ret (.bool (aH hoB s)) []) .fail
theorem DU: Sound Kx 74 OZ:=by
 refine A7 (fun s=>s.length + 1) fun s r h=>?_
 obtain ⟨h1,h2⟩:=ae h
 unfold rF
 rw [Bc s (eO h1) _ _ s 0 _ (At.start s) (by omega),← h2]
 cases aH hoB s <;> rfl
def laB (n: Int): Bool:=iA n||am n||decide (n=45)
theorem DV (l: List aa) (j: Int) (r0: List aa) (w: aa) (hw: w.length≤1000000) (hj: At l j (w::r0)) (k0 k1: Int→List aa→OR'): ∀ (r: aa) (i: Int) (n: Nat),At w i r→r.length < n→
 gA n j i l k0 k1=bif aH laB r then k1 j l else k0 j l:=by
 intro r;induction r with
 | nil=>intro i n h hn;obtain ⟨n,rfl⟩:=bH hn;unfold gA lO;simp only [hj.dlt,hj.dnn,hj.get,cond_true,h.dge,cond_false];rfl
 | cons a r ih=>
   intro i n h hn;obtain ⟨n,rfl⟩:=bH hn
   have hs:=ih (i + 1) n h.step (by simp at hn;omega)
   have hall: aH laB (a::r)=(laB (by8 a)&&aH laB r):=rfl
   unfold gA lO
   simp only [hj.dlt,hj.dnn,hj.get,cond_true,h.dlt,h.dnn,h.str,h.next (show w.length≤4611686018427387904 by omega),hs,hall]
   unfold laB iA
   cases decide (97≤by8 a) <;> cases decide (by8 a≤122) <;> cases am (by8 a) <;> cases decide (by8 a=45) <;> rfl
theorem Ks (N: Nat) (l: List aa) (hl: l.length≤1000000) (hN: ∀ w ∈ l,w.length < N∧w.length≤1000000) (k0 k1: OR'): ∀ (r: List aa) (j: Int) (n: Nat),At l j r→r.length < n→
 jt N n j l k0 k1=bif r.all (fun w=> !decide (w=[])&&aH laB w) then k1 else k0:=by
 intro r;induction r with
 | nil=>intro j n h hn;obtain ⟨n,rfl⟩:=bH hn;unfold jt pz;simp only [h.dge,cond_false];rfl
 | cons w r ih=>
   intro j n h hn;obtain ⟨n,rfl⟩:=bH hn
   have hs:=ih (j + 1) n h.step (by simp at hn;omega)
   have hw: w ∈ l:=by obtain ⟨p,rfl,_⟩:=h;simp
   unfold jt pz
   simp only [h.dlt,h.dnn,h.get,cond_true,List.all_cons]
   cases c: decide (w=[])
   · rw [cond_false,DV l j r w (hN w hw).2 h _ _ w 0 N (At.start w) (hN w hw).1]
     simp only [h.next (show l.length≤4611686018427387904 by omega),hs,Bool.not_false,Bool.true_and]
     cases aH laB w <;> rfl
   · simp only [cond_true,Bool.not_true,Bool.false_and,cond_false]
theorem DW (b: Int): ∀ (r cur: aa) (w: aa),w ∈ nb b cur r→w.length≤cur.length + r.length
 | [],cur,w,h=>by
   have: w=cur:=by simpa [nb] using h
   subst this;simp
 | x::r,cur,w,h=>by
   rw [rz] at h
   cases c: decide (by8 x=b)
   · rw [c,cond_false] at h
     have:=DW b r _ w h
     simp at this ⊢;omega
   · rw [c,cond_true] at h
     rcases List.mem_cons.1 h with h | h
     · subst h;simp
     · have:=DW b r _ w h
       simp at this ⊢;omega
theorem HI {α: Type} (p q: α→Bool): ∀ l: List α,l.all (fun x=>p x&&q x)=(l.all p&&l.all q)
 | []=>rfl
 | a::l=>by simp only [List.all_cons];rw [HI p q l];cases p a <;> cases q a <;> cases l.all p <;> rfl
theorem aaA (l: List aa): (l.all fun w=> !decide (w=[]))= !inP l []:=by
 unfold inP
 induction l with
 | nil=>rfl
 | cons a l ih=>rw [List.all_cons,List.any_cons,ih];cases decide (a=[]) <;> rfl
theorem Kt {p q: Int→Bool} (h: ∀ n,p n=q n) (s: aa): aH p s=aH q s:=by
 have: p=q:=funext h
 rw [this]
theorem TB (s: aa): ((iD s 46).all fun w=> !decide (w=[])&&aH laB w)=(aH hoB s&& !inP (iD s 46) []):=by
 rw [HI,aaA]
 have:=wJ 46 laB s []
 rw [show (iD s 46).all (fun s=>aH laB s)=(nb 46 [] s).all (fun s=>aH laB s) from rfl,this]
 rw [show aH laB []=true from rfl,Bool.true_and,Kt (q:=hoB) (fun n=>by
  unfold laB hoB
  cases iA n <;> cases am n <;> cases decide (n=45) <;> cases decide (n=46) <;> rfl),Bool.and_comm]
def adt: List AV→List Ob→Br
 | [.str s],[]=> .ret (.bool (jL s)) []
 | _,_=> .fail
theorem O1: Sound Kx 303 adt:=by
 refine (Kp (φ:=fun s=> .ret (.bool (jL s)) []) (fun s=>s.length + 3) fun s r h=>?_).of fun args objs r h=>?_
 · cases h
   unfold A_ jL
   cases c1: decide ((s.length: Int)=0)
   · have c1':=of_decide_eq_false c1
     cases c2: decide ((60 : Int) < (s.length: Int))
     · have c2':=of_decide_eq_false c2
       rw [dT' (show 1≤s.length by omega),dT' (show s.length≤60 by omega),dT' (show s.length≤1000000 by omega)]
       simp only [cond_false,cond_true,Bool.true_and]
       have hlen:=rB s 46
       rw [Ks _ (iD s 46) (by omega) (fun w hw=>by have:=DW 46 s [] w hw;simp at this;omega) _ _ _ 0 _ (At.start _) (by omega),TB]
       cases aH hoB s&& !inP (iD s 46) [] <;> rfl
     · have c2':=of_decide_eq_true c2
       rw [dF' (show ¬ s.length≤60 by omega),Bool.and_false,Bool.false_and,Bool.false_and];rfl
   · have c1':=of_decide_eq_true c1
     rw [dF' (show ¬ 1≤s.length by omega),Bool.false_and,Bool.false_and,Bool.false_and];rfl
 · unfold adt at h;split at h
   · exact h
   · cases h
def adu: List AV→List Ob→Br
 | [.int .i64 n],[]=> .ret (.str (bif bw n then bR n else [])) []
 | _,_=> .fail
theorem O2: Sound Kx 316 adu:=iDecT_ok.of fun args objs r h=>by
 unfold adu at h
 split at h
 case h_2=>cases h
 rename_i n
 cases h
 show (wU n).val=_
 unfold wU bw
 cases decide (0≤n) <;> cases decide (n≤999999999999999) <;> rfl
theorem wW (s: aa) (hl: s.length≤15) (k0 k1: aa→Int→OR') (K0: OR') (h0: ∀ x,k0 s x=K0): ∀ (r: aa) (v i: Int) (n: Nat),At s i r→r.length < n→0≤v→(v + 1) * 10 ^ r.length≤1000000000000000→
 en n s v i k0 k1=bif aH am r then k1 s (rp r v) else K0:=by
 intro r;induction r with
 | nil=>intro v i n h hn hv hb;obtain ⟨n,rfl⟩:=bH hn;unfold en im;simp only [h.dge,cond_false];rfl
 | cons a r ih=>
   intro v i n h hn hv hb;obtain ⟨n,rfl⟩:=bH hn
   simp only [List.length_cons] at hn hb
   have hp: (1 : Int)≤10 ^ r.length:=by have h0: (0 : Int) < 10 ^ r.length:=Int.pow_pos (by decide);omega
   have hb': ((v + 1) * 10) * 10 ^ r.length≤1000000000000000:=by rw [Int.pow_succ,Int.mul_comm (10 ^ r.length) 10,← Int.mul_assoc] at hb;exact hb
   have hv10: (v + 1) * 10≤1000000000000000:=Int.le_trans (by have:=Int.mul_le_mul_of_nonneg_left hp (show 0≤(v + 1) * 10 by omega);rwa [Int.mul_one] at this) hb'
   have hall: aH am (a::r)=(am (by8 a)&&aH am r):=rfl
   have hN: rp (a::r) v=rp r (v * 10 + (by8 a - 48)):=rfl
   unfold en im
   simp only [h.dlt,h.dnn,h.str,cond_true,h.next (show s.length≤4611686018427387904 by omega),h0,hall,hN]
   cases c1: am (by8 a)
   · rfl
   · have c1':=c1
     simp only [am,Bool.and_eq_true,decide_eq_true_eq] at c1'
     have e: ad (ad (v * 10) + ad (wk8 (by8 a - 48)))=v * 10 + (by8 a - 48):=by simp (disch:=omega) only [w8,w64]
     simp only [Bool.not_true,cond_false,Bool.true_and,e]
     exact ih _ (i + 1) n h.step (by omega) (by omega) (Int.le_trans (Int.mul_le_mul_of_nonneg_right (show v * 10 + (by8 a - 48) + 1≤(v + 1) * 10 by omega) (by omega)) hb')
def adv: List AV→List Ob→Br
 | [.str s],[]=> .ret (.tup [.int .i64 (iC s).1, .bool (iC s).2]) []
 | _,_=> .fail
theorem Be: Sound Kx 274 adv:=by
 refine (wV (φ:=fun s=> .ret (.tup [.int .i64 (iC s).1, .bool (iC s).2]) []) (fun s=>s.length + 1) fun s r h=>?_).of fun args objs r h=>?_
 · cases h
   unfold oA iC
   cases c1: decide ((s.length: Int)=0)
   · have c1':=of_decide_eq_false c1
     cases c2: decide ((15 : Int) < (s.length: Int))
     · have c2':=of_decide_eq_false c2
       simp only [cond_false]
       rw [wW s (by omega) _ _ (some (AV.tup [AV.int .i64 0,AV.bool false],[])) (fun _=>rfl) s 0 0 _ (At.start s) (by omega) (by omega) ?_,dT' (show 1≤s.length by omega),dT' (show s.length≤15 by omega)]
       · cases ha: aH am s
         · rfl
         · have:=G1 s ha (by omega)
           have h15: bw (rp s 0)=true:=by unfold bw;rw [dT' this.1,dT' this.2];rfl
           simp only [h15,cond_true,Bool.true_and]
           cases decide (bR (rp s 0)=s) <;> rfl
       · have h3: (10 : Nat) ^ s.length≤10 ^ 15:=Nat.pow_le_pow_right (by decide) (by omega)
         have e: (10 : Int) ^ s.length=((10 ^ s.length: Nat): Int):=by rw [Int.natCast_pow];rfl
         rw [e]
         have e2: (10 : Nat) ^ 15=1000000000000000:=by decide
         omega
     · have c2':=of_decide_eq_true c2
       rw [dF' (show ¬ s.length≤15 by omega),Bool.and_false,Bool.false_and,Bool.false_and];rfl
   · have c1':=of_decide_eq_true c1
     rw [dF' (show ¬ 1≤s.length by omega),Bool.false_and,Bool.false_and,Bool.false_and];rfl
 · unfold adv at h;split at h
   · exact h
   · cases h
def HJ: Opt:={ cons:=[49],live:=[(6,[3,4,29,30,31])],outs:=[(6,[2,3,4])] }
def iClean_C: SC:=[⟨117,_,aac⟩,⟨74,_,jh⟩,⟨317,_,OG⟩,⟨319,_,OW⟩,⟨318,_,A0⟩,⟨223,_,FZ⟩]
def lP (f_ iw: (List aa)) (kX eM: Int) (ga: (List aa)) (kR6: (List aa)→(List aa)→Int→Int→(List aa)→OR') (IO: (List aa)→(List aa)→OR'): OR':=
 (bif (decide (eM < kX)) then (bif (decide (0≤eM)) then (bif (decide (eM < (iw.length: Int))) then (bif (decide ((List.getD iw (Int.toNat eM) ([]: aa))=([46]: aa))) then (kR6 f_ iw kX (ad (eM + 1)) ga) else (bif (decide ((List.getD iw (Int.toNat eM) ([]: aa))=([46,46]: aa))) then (bif (decide (0≤(if (0 < (ad ((ga.length: Int) - 1))) then (ad ((ga.length: Int) - 1)) else 0))) then (bif (decide ((if (0 < (ad ((ga.length: Int) - 1))) then (ad ((ga.length: Int) - 1)) else 0)≤(ga.length: Int))) then (kR6 f_ iw kX (ad (eM + 1)) (cut ga 0 (if (0 < (ad ((ga.length: Int) - 1))) then (ad ((ga.length: Int) - 1)) else 0))) else none) else none) else (bif (decide (((ga.length + (List.length (List.set (List.replicate 1 ([]: aa)) 0 (List.getD iw (Int.toNat eM) ([]: aa))))) * 16)≤140737488355328)) then (kR6 f_ iw kX (ad (eM + 1)) (ga++(List.set (List.replicate 1 ([]: aa)) 0 (List.getD iw (Int.toNat eM) ([]: aa))))) else none))) else none) else none) else (IO f_ ga))
def gB: Nat→(List aa)→(List aa)→Int→Int→(List aa)→((List aa)→(List aa)→OR')→OR'
 | 0,_,_,_,_,_,_=>none
 | n + 1,f_,iw,kX,eM,ga,IO=>lP f_ iw kX eM ga (fun f_ iw kX eM ga=>gB n f_ iw kX eM ga IO) IO
abbrev iClean_p6: SP:=⟨69,[3,4,29,30,31],[(.v (.ref 256 0)),(.v (.sh Ty.str)),(.v (.sh Ty.str)),(.v (.i .i64)),(.v (.i .i64))],[(256, .arr Ty.str 0 false)]⟩
noncomputable def Bf: Code:=ar (aC Tryz.f286) [1,1,1,1,0,1,0,0]
def Bg (f: ((List aa)→(List aa)→OR')→OR') (k: KT): OR':=f (fun ee da=>k (Ex.exit 0) ((St.mk (aA 0 69 [(3,(AV.ref 256 0)),(4,(AV.sh Ty.str ee))]) ((256,(Ob.arr Ty.str 0 false da))::([]: (List (Nat×(Ob))))))))
def Bh (n: Nat) (d: iClean_p6.D): KT→OR':=Bg (gB n d.1.2.1 d.1.2.2.1 d.1.2.2.2.1 d.1.2.2.2.2.1 d.2.1)
def HK (N: Nat): Lam:=bI [⟨6,iClean_p6,Bh N⟩]
theorem Ku (N: Nat): OkL Kx iClean_C.s HJ 0 N (HK N) Bf:=okL iClean_p6 (Bh) (fun d kR=>Bg (lP d.1.2.1 d.1.2.2.1 d.1.2.2.2.1 d.1.2.2.2.2.1 d.2.1 (fun f_ iw kX eM ga=>kR (((),f_,iw,kX,eM,()),(ga,()))))) (fun _ _=>by kernel_rfl) (fun _ _ _=>by kernel_rfl) (fun _ _=>by kernel_rfl) (fun _ _ _ _=>by kernel_rfl) (af (l':=[]) (by kernel_rfl) trivial)
def uU (N: Nat) (p: aa): OR':=(bif (decide (1≤(p.length: Int))) then (bif (decide (1≤(p.length: Int))) then (bif (!(decide ((cut p 0 1)=([47]: aa)))) then (some ((AV.str ([]: aa)),[])) else (bif (decide (200 < (p.length: Int))) then (some ((AV.str ([]: aa)),[])) else (bif (isM p) then (bif (!(aH cT p)) then (some ((AV.str ([]: aa)),[])) else (bif ((((decide (p.length≤1000000))&&true)&&(RT p))&&true) then (bif (decide (0≤(nc p ([35,63]: aa)))) then (some ((AV.str ([]: aa)),[])) else (bif (decide (p.length≤1000000)) then (bif (decide (1≤((List.length (dY p)): Int))) then (bif (decide ((List.length (cut (dY p) 1 ((List.length (dY p)): Int)))≤1000000)) then (gB N (iD (cut (dY p) 1 ((List.length (dY p)): Int)) 47) (iD (cut (dY p) 1 ((List.length (dY p)): Int)) 47) ((List.length (iD (cut (dY p) 1 ((List.length (dY p)): Int)) 47)): Int) 0 ([]: (List aa)) (fun ee da=>(bif (decide (0≤(ad ((ee.length: Int) - 1)))) then (bif (decide ((ad ((ee.length: Int) - 1)) < (ee.length: Int))) then (bif (decide ((List.getD ee (Int.toNat (ad ((ee.length: Int) - 1))) ([]: aa))=([46]: aa))) then (bif (decide (((da.length + 1) * 16)≤140737488355328)) then (bif ((decide ((List.length (da++(List.set (List.replicate 1 ([]: aa)) 0 ([]: aa))))≤1000000))&&(decide ((List.length (eV (da++(List.set (List.replicate 1 ([]: aa)) 0 ([]: aa))) ([47]: aa)))≤1000000))) then (bif (decide ((1 + (List.length (eV (da++(List.set (List.replicate 1 ([]: aa)) 0 ([]: aa))) ([47]: aa))))≤9223372036854775807)) then (some ((AV.str (([47]: aa)++(eV (da++(List.set (List.replicate 1 ([]: aa)) 0 ([]: aa))) ([47]: aa)))),[])) else none) else none) else none) else (bif (decide ((List.getD ee (Int.toNat (ad ((ee.length: Int) - 1))) ([]: aa))=([46,46]: aa))) then (bif (decide (((da.length + 1) * 16)≤140737488355328)) then (bif ((decide ((List.length (da++(List.set (List.replicate 1 ([]: aa)) 0 ([]: aa))))≤1000000))&&(decide ((List.length (eV (da++(List.set (List.replicate 1 ([]: aa)) 0 ([]: aa))) ([47]: aa)))≤1000000))) then (bif (decide ((1 + (List.length (eV (da++(List.set (List.replicate 1 ([]: aa)) 0 ([]: aa))) ([47]: aa))))≤9223372036854775807)) then (some ((AV.str (([47]: aa)++(eV (da++(List.set (List.replicate 1 ([]: aa)) 0 ([]: aa))) ([47]: aa)))),[])) else none) else none) else none) else (bif ((decide (da.length≤1000000))&&(decide ((List.length (eV da ([47]: aa)))≤1000000))) then (bif (decide ((1 + (List.length (eV da ([47]: aa))))≤9223372036854775807)) then (some ((AV.str (([47]: aa)++(eV da ([47]: aa)))),[])) else none) else none))) else none) else none))) else none) else none) else none)) else none)) else none))) else none) else (some ((AV.str ([]: aa)),[])))
def uV (φ: aa→Br): List AV→List Ob→Br
 | [.str p],[]=>φ p
 | _,_=> .fail
theorem DX {φ: aa→Br} (fu: aa→Nat) (hv: ∀ p res_,(φ p).val=some res_→uU (fu p) p=some res_): Sound Kx 286 (uV φ):=ah (C:=iClean_C) (O:=HJ) Tryz.func286 (by kernel_rfl) fun args objs=>by
 unfold uV;split
 · rename_i p;exact .inr fun _ hyp_=>aL (Λ:=HK (fu p)) (by kernel_rfl) (af (l':=[Bf]) (by kernel_rfl) ⟨Ku _,trivial⟩) (by kernel_rfl) (hv p _ hyp_)
 · exact .inl rfl
def pB: Opt:={ cons:=[80],live:=[(22,[5,8,9]),(11,[4,5,6]),(4,[0,3])],outs:=[(22,[2,8]),(11,[2,5]),(4,[0,2])] }
def sClean_C: SC:=[⟨188,_,pi⟩,⟨302,_,OY⟩,⟨301,_,uM⟩]
def lQ (bp: aa) (bm: Int) (kR4: aa→Int→OR') (d_ ir: aa→OR'): OR':=
 (bif (decide (bm < (bp.length: Int))) then (bif (decide (0≤bm)) then (bif (decide (bm < (bp.length: Int))) then (bif (decide ((aj bp bm)=35)) then (d_ bp) else (bif (decide (0≤bm)) then (bif (decide (bm < (bp.length: Int))) then (bif (decide ((aj bp bm)=63)) then (d_ bp) else (kR4 bp (ad (bm + 1)))) else none) else none)) else none) else none) else (ir bp))
def gC: Nat→aa→Int→(aa→OR')→(aa→OR')→OR'
 | 0,_,_,_,_=>none
 | n + 1,bp,bm,d_,ir=>lQ bp bm (fun bp bm=>gC n bp bm d_ ir) d_ ir
abbrev sClean_p4: SP:=⟨114,[0,3],[(.v .s),(.v (.i .i64))],[]⟩
noncomputable def Bi: Code:=ar (aC Tryz.f275) [1,1,0,1,0,0]
def Bj (f: (aa→OR')→(aa→OR')→OR') (k: KT): OR':=f (fun eH=>k Ex.ret ((St.mk (aA 0 114 [(0,(AV.str eH)),(2,(AV.str ([]: aa)))]) ([]: (List (Nat×(Ob))))))) (fun c_=>k (Ex.exit 0) ((St.mk (aA 0 114 [(0,(AV.str c_))]) ([]: (List (Nat×(Ob)))))))
def Bk (n: Nat) (d: sClean_p4.D): KT→OR':=Bj (gC n d.1.1 d.1.2.1)
def gD (bX: Int) (ck cm: (List aa)) (EJ: Int→(List aa)→(List aa)→OR') (UY: (List aa)→OR'): OR':=
 (bif (decide (bX < (ck.length: Int))) then (bif (decide (0≤bX)) then (bif (decide (bX < (ck.length: Int))) then (bif (decide ((List.getD ck (Int.toNat bX) ([]: aa))=([46]: aa))) then (bif (decide (0≤bX)) then (bif (decide (bX < (ck.length: Int))) then (bif (decide ((List.getD ck (Int.toNat bX) ([]: aa))=([46,46]: aa))) then (bif (decide (0 < (cm.length: Int))) then (bif (decide (0≤(ad ((cm.length: Int) - 1)))) then (bif (decide ((ad ((cm.length: Int) - 1))≤(cm.length: Int))) then (bif (decide ((ad (bX + 1))=(ck.length: Int))) then (bif (decide ((((List.length (cut cm 0 (ad ((cm.length: Int) - 1)))) + 1) * 16)≤140737488355328)) then (EJ (ad (bX + 1)) ck ((cut cm 0 (ad ((cm.length: Int) - 1)))++(List.set (List.replicate 1 ([]: aa)) 0 ([]: aa)))) else none) else (EJ (ad (bX + 1)) ck (cut cm 0 (ad ((cm.length: Int) - 1))))) else none) else none) else (bif (decide ((ad (bX + 1))=(ck.length: Int))) then (bif (decide (((cm.length + 1) * 16)≤140737488355328)) then (EJ (ad (bX + 1)) ck (cm++(List.set (List.replicate 1 ([]: aa)) 0 ([]: aa)))) else none) else (EJ (ad (bX + 1)) ck cm))) else (bif (decide ((ad (bX + 1))=(ck.length: Int))) then (bif (decide (((cm.length + 1) * 16)≤140737488355328)) then (EJ (ad (bX + 1)) ck (cm++(List.set (List.replicate 1 ([]: aa)) 0 ([]: aa)))) else none) else (EJ (ad (bX + 1)) ck cm))) else none) else none) else (bif (decide (0≤bX)) then (bif (decide (bX < (ck.length: Int))) then (bif (decide (0≤bX)) then (bif (decide (bX < (ck.length: Int))) then (bif (decide ((List.getD ck (Int.toNat bX) ([]: aa))=([46,46]: aa))) then (bif (decide (0 < (cm.length: Int))) then (bif (decide (0≤(ad ((cm.length: Int) - 1)))) then (bif (decide ((ad ((cm.length: Int) - 1))≤(cm.length: Int))) then (bif (!(decide ((List.getD ck (Int.toNat bX) ([]: aa))=([46,46]: aa)))) then (bif (decide (0≤bX)) then (bif (decide (bX < (ck.length: Int))) then (bif (decide ((((List.length (cut cm 0 (ad ((cm.length: Int) - 1)))) + (List.length (List.set (List.replicate 1 ([]: aa)) 0 (List.getD ck (Int.toNat bX) ([]: aa))))) * 16)≤140737488355328)) then (EJ (ad (bX + 1)) ck ((cut cm 0 (ad ((cm.length: Int) - 1)))++(List.set (List.replicate 1 ([]: aa)) 0 (List.getD ck (Int.toNat bX) ([]: aa))))) else none) else none) else none) else (bif (decide ((ad (bX + 1))=(ck.length: Int))) then (bif (decide ((((List.length (cut cm 0 (ad ((cm.length: Int) - 1)))) + 1) * 16)≤140737488355328)) then (EJ (ad (bX + 1)) ck ((cut cm 0 (ad ((cm.length: Int) - 1)))++(List.set (List.replicate 1 ([]: aa)) 0 ([]: aa)))) else none) else (EJ (ad (bX + 1)) ck (cut cm 0 (ad ((cm.length: Int) - 1)))))) else none) else none) else (bif (!(decide ((List.getD ck (Int.toNat bX) ([]: aa))=([46,46]: aa)))) then (bif (decide (0≤bX)) then (bif (decide (bX < (ck.length: Int))) then (bif (decide (((cm.length + (List.length (List.set (List.replicate 1 ([]: aa)) 0 (List.getD ck (Int.toNat bX) ([]: aa))))) * 16)≤140737488355328)) then (EJ (ad (bX + 1)) ck (cm++(List.set (List.replicate 1 ([]: aa)) 0 (List.getD ck (Int.toNat bX) ([]: aa))))) else none) else none) else none) else (bif (decide ((ad (bX + 1))=(ck.length: Int))) then (bif (decide (((cm.length + 1) * 16)≤140737488355328)) then (EJ (ad (bX + 1)) ck (cm++(List.set (List.replicate 1 ([]: aa)) 0 ([]: aa)))) else none) else (EJ (ad (bX + 1)) ck cm)))) else (bif (!(decide ((List.getD ck (Int.toNat bX) ([]: aa))=([46,46]: aa)))) then (bif (decide (0≤bX)) then (bif (decide (bX < (ck.length: Int))) then (bif (decide (((cm.length + (List.length (List.set (List.replicate 1 ([]: aa)) 0 (List.getD ck (Int.toNat bX) ([]: aa))))) * 16)≤140737488355328)) then (EJ (ad (bX + 1)) ck (cm++(List.set (List.replicate 1 ([]: aa)) 0 (List.getD ck (Int.toNat bX) ([]: aa))))) else none) else none) else none) else (bif (decide ((ad (bX + 1))=(ck.length: Int))) then (bif (decide (((cm.length + 1) * 16)≤140737488355328)) then (EJ (ad (bX + 1)) ck (cm++(List.set (List.replicate 1 ([]: aa)) 0 ([]: aa)))) else none) else (EJ (ad (bX + 1)) ck cm)))) else none) else none) else none) else none)) else none) else none) else (UY cm))
def cS: Nat→Int→(List aa)→(List aa)→((List aa)→OR')→OR'
 | 0,_,_,_,_=>none
 | n + 1,bX,ck,cm,UY=>gD bX ck cm (fun bX ck cm=>cS n bX ck cm UY) UY
abbrev sClean_p11: SP:=⟨114,[4,5,6],[(.v (.ref 320 0)),(.v (.ref 384 0)),(.v (.i .i64))],[(320, .arr Ty.str 0 false),(384, .arr Ty.str 0 false)]⟩
noncomputable def uW: Code:=ar (aC Tryz.f275) [1,1,1,1,1,0,1,0,0]
def uX (f: ((List aa)→OR')→OR') (k: KT): OR':=f (fun EK=>k (Ex.exit 2) ((St.mk (aA 0 114 [(5,(AV.ref 384 0))]) ((384,(Ob.arr Ty.str 0 false EK))::([]: (List (Nat×(Ob))))))))
def uY (n: Nat) (d: sClean_p11.D): KT→OR':=uX (cS n d.1.2.2.1 d.2.1 d.2.2.1)
def ju (tn: aa) (oU: Int) (sD: (List aa)) (ad5: aa→Int→(List aa)→OR') (UZ: aa→OR'): OR':=
 (bif (decide (oU < (sD.length: Int))) then (bif (decide ((tn.length + 1)≤9223372036854775807)) then (bif (decide (0≤oU)) then (bif (decide (oU < (sD.length: Int))) then (bif (decide (((List.length (tn++([47]: aa))) + (List.length (List.getD sD (Int.toNat oU) ([]: aa))))≤9223372036854775807)) then (ad5 ((tn++([47]: aa))++(List.getD sD (Int.toNat oU) ([]: aa))) (ad (oU + 1)) sD) else none) else none) else none) else none) else (UZ tn))
def fh: Nat→aa→Int→(List aa)→(aa→OR')→OR'
 | 0,_,_,_,_=>none
 | n + 1,tn,oU,sD,UZ=>ju tn oU sD (fun tn oU sD=>fh n tn oU sD UZ) UZ
abbrev sClean_p22: SP:=⟨114,[5,8,9],[(.v (.ref 384 0)),(.v .s),(.v (.i .i64))],[(384, .arr Ty.str 0 false)]⟩
noncomputable def uZ: Code:=ar (aC Tryz.f275) [1,1,1,1,1,1,1,0,1,0,0]
def u4 (f: (aa→OR')→OR') (k: KT): OR':=f (fun xZ=>k (Ex.exit 4) ((St.mk (aA 0 114 [(8,(AV.str xZ))]) ([]: (List (Nat×(Ob)))))))
def u5 (n: Nat) (d: sClean_p22.D): KT→OR':=u4 (fh n d.1.2.1 d.1.2.2.1 d.2.1)
def pC (N: Nat): Lam:=bI [⟨4,sClean_p4,Bk N⟩,⟨11,sClean_p11,uY N⟩,⟨22,sClean_p22,u5 N⟩]
theorem Kv (N: Nat): OkL Kx sClean_C.s pB 0 N (pC N) Bi:=okL sClean_p4 (Bk) (fun d kR=>Bj (lQ d.1.1 d.1.2.1 (fun bp bm=>kR ((bp,bm,()),())))) (fun _ _=>by kernel_rfl) (fun _ _ _=>by kernel_rfl) (fun _ _=>by kernel_rfl) (fun _ _ _ _=>by kernel_rfl) (af (l':=[]) (by kernel_rfl) trivial)
theorem DY (N: Nat): OkL Kx sClean_C.s pB 0 N (pC N) uW:=okL sClean_p11 (uY) (fun d kR=>uX (gD d.1.2.2.1 d.2.1 d.2.2.1 (fun bX ck cm=>kR (((),(),bX,()),(ck,cm,()))))) (fun _ _=>by kernel_rfl) (fun _ _ _=>by kernel_rfl) (fun _ _=>by kernel_rfl) (fun _ _ _ _=>by kernel_rfl) (af (l':=[]) (by kernel_rfl) trivial)
theorem DZ (N: Nat): OkL Kx sClean_C.s pB 0 N (pC N) uZ:=okL sClean_p22 (u5) (fun d kR=>u4 (ju d.1.2.1 d.1.2.2.1 d.2.1 (fun tn oU sD=>kR (((),tn,oU,()),(sD,()))))) (fun _ _=>by kernel_rfl) (fun _ _ _=>by kernel_rfl) (fun _ _=>by kernel_rfl) (fun _ _ _ _=>by kernel_rfl) (af (l':=[]) (by kernel_rfl) trivial)
def u6 (N: Nat) (p: aa): OR':=(bif (decide ((p.length: Int)=0)) then (some ((AV.str ([]: aa)),[])) else (bif (decide (200 < (p.length: Int))) then (some ((AV.str ([]: aa)),[])) else (bif (decide (0 < (p.length: Int))) then (bif (!(decide ((aj p 0)=47))) then (some ((AV.str ([]: aa)),[])) else (bif (isM p) then (bif (!((aH cT p)&&(decide (0 < (p.length: Int))))) then (some ((AV.str ([]: aa)),[])) else (gC N p 0 (fun eH=>(some ((AV.str ([]: aa)),[]))) (fun c_=>(bif (decide (c_.length≤1000000)) then (bif (decide (1≤((List.length (dY c_)): Int))) then (bif (decide ((List.length (cut (dY c_) 1 ((List.length (dY c_)): Int)))≤1000000)) then (cS N 0 (iD (cut (dY c_) 1 ((List.length (dY c_)): Int)) 47) ([]: (List aa)) (fun EK=>(fh N ([]: aa) 0 EK (fun xZ=>(bif (decide (xZ=([]: aa))) then (some ((AV.str ([47]: aa)),[])) else (some ((AV.str xZ),[]))))))) else none) else none) else none)))) else none)) else none)))
def u7 (φ: aa→Br): List AV→List Ob→Br
 | [.str p],[]=>φ p
 | _,_=> .fail
theorem D0 {φ: aa→Br} (fu: aa→Nat) (hv: ∀ p res_,(φ p).val=some res_→u6 (fu p) p=some res_): Sound Kx 275 (u7 φ):=ah (C:=sClean_C) (O:=pB) Tryz.func275 (by kernel_rfl) fun args objs=>by
 unfold u7;split
 · rename_i p;exact .inr fun _ hyp_=>aL (Λ:=pC (fu p)) (by kernel_rfl) (af (l':=[Bi,uW,uZ]) (by kernel_rfl) ⟨Kv _,DY _,DZ _,trivial⟩) (by kernel_rfl) (hv p _ hyp_)
 · exact .inl rfl
def X4: SC:=[⟨201,_,dc⟩,⟨74,_,DU⟩,⟨318,_,A0⟩,⟨103,_,To⟩]
def wX (s: aa): Br:=(.ite (decide (1≤(s.length: Int))) (.ite (!(decide ((s.length: Int)≤60))) (.ret (AV.bool false) []) (.ite (isM s) (.ite (!(aH hoB s)) (.ret (AV.bool false) []) (.ite (decide (s.length≤1000000)) (.ite (decide ((List.length (iD s 46))≤1000000)) (.ret (AV.bool (!(inP (iD s 46) ([]: aa)))) []) .fail) .fail)) .fail)) (.ret (AV.bool false) []))
def O3: List AV→List Ob→Br
 | [.str s],[]=>wX s
 | _,_=> .fail
theorem iHost_ok: Sound Kx 320 O3:=ac (C:=X4) (O:=O0) Tryz.func320 (by kernel_rfl) fun args objs=>by
 unfold O3;split
 · exact .inr (by kernel_rfl)
 · exact .inl rfl
def Kw: SC:=[⟨315,_,Tz⟩,⟨201,_,dc⟩,⟨316,_,O2⟩]
def kB (s: aa): Br:=(.ite (decide (s.length≤1000000)) (.ite (gt s) (.ite (decide (0≤(eD s))) (.ite (!(decide ((eD s)≤999999999999999))) (.ret (AV.tup [.int .i64 0,.bool false]) []) (.ite (!(decide ((bif (bw (eD s)) then (bR (eD s)) else ([]: aa))=s))) (.ret (AV.tup [.int .i64 0,.bool false]) []) (.ret (AV.tup [.int .i64 (eD s),.bool true]) []))) (.ret (AV.tup [.int .i64 0,.bool false]) [])) (.ret (AV.tup [.int .i64 0,.bool false]) [])) .fail)
def u9: List AV→List Ob→Br
 | [.str s],[]=>kB s
 | _,_=> .fail
theorem iReadDec_ok: Sound Kx 285 u9:=ac (C:=Kw) (O:=O0) Tryz.func285 (by kernel_rfl) fun args objs=>by
 unfold u9;split
 · exact .inr (by kernel_rfl)
 · exact .inl rfl
def bL: List aa→aa
 | []=>[]
 | w::r=>47::(w++bL r)
theorem Ky (w: aa) (r: List aa): bL (w::r)=47::(w++bL r):=rfl
theorem acQ {a b: Bool} (h: a=true) (k: b=true): (a&&b)=true:=by rw [h,k];rfl
theorem Kz (l: List aa): Lib.joinTail [47] l=bL l:=by
 induction l with
 | nil=>rfl
 | cons w r ih=>
   unfold bL
   rw [← ih]
   simp [Lib.joinTail]
theorem u_ (l: List aa): 47::eV l [47]=bif decide (bL l=[]) then [47] else bL l:=by
 cases l with
 | nil=>rfl
 | cons w r=>
   unfold eV
   rw [Lib.join_cons,Kz,Ky,dF' (by simp)];rfl
theorem rM (a b: List aa): bL (a++b)=bL a++bL b:=by
 induction a with
 | nil=>rfl
 | cons w a ih=>simp only [List.cons_append,bL,ih];simp
theorem Bl (l: List aa): l.length≤(bL l).length:=by
 induction l with
 | nil=>exact Nat.le_refl _
 | cons w r ih=>simp only [bL,List.length_cons,List.length_append];omega
theorem rN (b: Int): ∀ (r cur: aa),(bL (nb b cur r)).length=cur.length + r.length + 1
 | [],cur=>by simp [nb,bL]
 | x::r,cur=>by
   rw [rz]
   cases decide (by8 x=b)
   · rw [cond_false,rN b r];simp;try omega
   · rw [cond_true];simp only [bL,List.length_cons,List.length_append,rN b r];simp;try omega
theorem KA (l: List aa): (bL l.dropLast).length≤(bL l).length:=by
 cases h: l.reverse with
 | nil=>have: l=[]:=by simpa using h
        subst this;exact Nat.le_refl _
 | cons w r=>
   have e: l=r.reverse++[w]:=by rw [← List.reverse_reverse l,h];simp
   rw [e,List.dropLast_concat,rM];simp
theorem KB (out: List aa) (w: aa): (bL (eY out w)).length≤(bL out).length + w.length + 1:=by
 unfold eY
 cases decide (w=[46])
 · cases decide (w=[46,46])
   · simp only [cond_false,rM,List.length_append,bL,List.length_cons];simp;omega
   · have:=KA out;simp only [cond_true,cond_false];omega
 · rw [cond_true];omega
theorem ne: ∀ (l out: List aa),(bL (l.foldl eY out)).length≤(bL out).length + (bL l).length
 | [],out=>by simp
 | w::l,out=>by
   have h1:=KB out w
   have h2:=ne l (eY out w)
   simp only [List.foldl_cons,bL,List.length_cons,List.length_append];omega
theorem nf (l: List aa): (bL (kw l)).length≤(bL l).length + 1:=by
 unfold kw
 have:=ne l []
 rw [rM]
 cases DL (l.getLastD [])
 · simp [bL] at this ⊢;omega
 · simp [bL] at this ⊢;omega
theorem HL (l: List aa): ∀ out: List aa,(l.foldl eY out).length≤out.length + l.length:=by
 induction l with
 | nil=>intro out;simp
 | cons w l ih=>intro out;have:=ih (eY out w);have:=rE out w;simp only [List.foldl_cons,List.length_cons];omega
theorem HM (l: List aa): (eV l [47]).length≤(bL l).length:=by
 have:=congrArg List.length (u_ l)
 simp only [List.length_cons] at this
 cases h: decide (bL l=[])
 · rw [h,cond_false] at this;omega
 · rw [h,cond_true] at this;simp only [List.length_cons,List.length_nil] at this;omega
theorem HN (l: List aa) (v: Int) (h: v=((l.length - 1 : Nat): Int)): cut l 0 v=l.dropLast:=by
 subst h
 unfold cut
 rw [Int.toNat_natCast]
 simp [List.dropLast_eq_take]
theorem Bm: ∀ (l: List aa),l≠[]→l.getD (l.length - 1) []=l.getLastD []
 | [],h=>absurd rfl h
 | [w],_=>rfl
 | w::x::r,_=>by
   have ih:=Bm (x::r) (by simp)
   simp only [List.length_cons,Nat.add_sub_cancel] at ih ⊢
   rw [List.getD_cons_succ,ih]
   rfl
theorem D1 (l0 l: List aa) (hl: l.length≤1000000) (k: List aa→List aa→OR'): ∀ (r: List aa) (i: Int) (out: List aa) (n: Nat),At l i r→r.length < n→out.length + r.length≤1000000→
 gB n l0 l (l.length: Int) i out k=k l0 (r.foldl eY out):=by
 intro r;induction r with
 | nil=>intro i out n h hn ho;obtain ⟨n,rfl⟩:=bH hn;unfold gB lP;simp only [h.dge,cond_false];rfl
 | cons w r ih=>
   intro i out n h hn ho;obtain ⟨n,rfl⟩:=bH hn
   simp only [List.length_cons] at hn ho
   have hs:=rE out w
   have hr:=ih (i + 1) (eY out w) n h.step (by omega) (by omega)
   have hap: decide ((out.length + [w].length) * 16≤140737488355328)=true:=dT' (by simp only [List.length_singleton];omega)
   have hv: (if (0 : Int) < ad ((out.length: Int) - 1) then ad ((out.length: Int) - 1) else 0)=((out.length - 1 : Nat): Int):=by
    rw [w64 (by omega) (by omega)]
    split <;> omega
   have q1: decide ((0 : Int)≤((out.length - 1 : Nat): Int))=true:=dT' (by omega)
   have q2: decide (((out.length - 1 : Nat): Int)≤(out.length: Int))=true:=dT' (by omega)
   unfold gB lP
   simp only [h.dlt,h.dnn,h.get,cond_true,h.next (show l.length≤4611686018427387904 by omega),ci,hap,hv,q1,q2,HN out _ rfl]
   simp only [List.foldl_cons]
   unfold eY at hr ⊢
   cases c1: decide (w=[46])
   · cases c2: decide (w=[46,46])
     · rw [c1,c2] at hr;exact hr
     · rw [c1,c2] at hr;exact hr
   · rw [c1] at hr;exact hr
theorem jv (c: UInt8) (r: aa) (h: c≠47): a_ (c::r)=[]:=by
 unfold a_
 split
 · rename_i e;injection e with e1 e2;exact absurd e1 h
 · rfl
theorem lR (r: aa): a_ (47::r)=bif oy (47::r) then 47::eV (kw (iD (dY r) 47)) [47] else []:=rfl
theorem O4 (s: aa) (h: aH cT s=true): RT s=true:=by
 unfold RT aH at *
 rw [List.all_eq_true] at *
 intro c hc
 have:=h c hc
 simp only [cT,Bool.and_eq_true,decide_eq_true_eq] at this
 exact dT' (by omega)
theorem TC (s: aa) (a b: UInt8): decide (0≤nc s [a,b])=(cE s (by8 a)||cE s (by8 b)):=by
 rw [kx]
 cases cE s (by8 a)||cE s (by8 b)
 · rfl
 · rw [cond_true];exact dT' (by omega)
theorem D2 (r: aa) (h: r.length≤200): (iD (dY r) 47).length≤201∧(bL (iD (dY r) 47)).length≤201:=by
 have h1:=lN r
 have h2:=rB (dY r) 47
 have h3:=rN 47 (dY r) []
 unfold iD at h2 ⊢
 simp only [List.length_nil] at h3
 omega
def adV (p: aa→AV): List AV→List Ob→Br
 | [.str s],[]=> .ite (isM s) (.ret (p s) []) .fail
 | _,_=> .fail
theorem va: Sound Kx 286 (oP fun s=> .str (a_ s)):=by
 refine (DX (φ:=fun s=> .ite (isM s) (.ret (.str (a_ s)) []) .fail) (fun s=>s.length + 3) fun p r h=>?_).of fun args objs r h=>?_
 · obtain ⟨hM,h2⟩:=ae h
   cases h2
   unfold uU
   cases p with
   | nil=>rfl
   | cons c r=>
     have e1: decide ((1 : Int)≤((c::r).length: Int))=true:=dT' (by simp only [List.length_cons];omega)
     have e2: cut (c::r) 0 1=[c]:=rfl
     simp only [e1,cond_true,e2]
     by_cases hc: c=47
     · subst hc
       rw [lR]
       unfold oy
       simp only [decide_true,Bool.not_true,cond_false,hM,cond_true]
       cases d1: decide ((200 : Int) < ((47::r: aa).length: Int))
       · have d1':=of_decide_eq_false d1
         simp only [List.length_cons] at d1'
         rw [dT' (show (47::r: aa).length≤200 by simp only [List.length_cons];omega)]
         simp only [cond_false,Bool.true_and]
         cases d2: aH cT (47::r)
         · rfl
         have a1:=O4 _ d2
         have m1: decide ((47::r: aa).length≤1000000)=true:=dT' (by simp only [List.length_cons];omega)
         simp only [Bool.not_true,cond_false,Bool.true_and,Bool.and_true,a1,m1,cond_true,TC]
         rw [show by8 35=35 from rfl,show by8 63=63 from rfl]
         cases d3: cE (47::r) 35
         · cases d4: cE (47::r) 63
           · simp only [Bool.or_false,cond_false,Bool.not_false,Bool.and_self,cond_true,uK]
             have hcut: cut (47::dY r) 1 ((47::dY r).length: Int)=dY r:=by
              exact d8 (p:=[47]) (r:=[]) (by simp) rfl (by simp only [List.length_cons];omega)
             have hb:=D2 r (by omega)
             have hp:=lN r
             rw [hcut]
             have n1: decide ((1 : Int)≤((47::dY r).length: Int))=true:=dT' (by simp only [List.length_cons];omega)
             have n2: decide ((dY r).length≤1000000)=true:=dT' (by omega)
             rw [n1,n2]
             simp only [cond_true]
             generalize hL: iD (dY r) 47=L at hb
             have hne: L≠[]:=by rw [← hL];exact Oy 47 _ _
             rw [D1 L L (by omega) _ L 0 [] _ (At.start L) (by have:=rB (dY r) 47;rw [hL] at this;simp only [List.length_cons];omega) (by simp;omega)]
             have hlen: 1≤L.length:=List.length_pos_iff.2 hne
             have w1: ad ((L.length: Int) - 1)=(L.length: Int) - 1:=w64 (by omega) (by omega)
             have t1: ((L.length: Int) - 1).toNat=L.length - 1:=by omega
             have g1:=nf L
             have g2:=HM (kw L)
             have g3:=Bl (kw L)
             have g4:=ne L []
             have g5:=HL L []
             have q1: decide ((0 : Int)≤(L.length: Int) - 1)=true:=dT' (by omega)
             have q2: decide ((L.length: Int) - 1 < (L.length: Int))=true:=dT' (by omega)
             have q3: decide (((L.foldl eY []).length + 1) * 16≤140737488355328)=true:=dT' (by simp at g5;omega)
             simp only [w1,t1,q1,q2,q3,cond_true,Bm L hne,ci]
             have hsd: DL (L.getLastD [])=(decide (L.getLastD []=[46])||decide (L.getLastD []=[46,46])):=rfl
             unfold kw at g1 g2 g3 ⊢
             rw [hsd] at g1 g2 g3 ⊢
             cases z1: decide (L.getLastD []=[46])
             · cases z2: decide (L.getLastD []=[46,46])
               · rw [z1,z2] at g1 g2 g3
                 simp only [Bool.or_false,cond_false,List.append_nil] at g1 g2 g3 ⊢
                 exact Eq.trans (kA (acQ (dT' (by omega)) (dT' (by omega)))) (Eq.trans (kA (dT' (by omega))) rfl)
               · rw [z1,z2] at g1 g2 g3
                 simp only [Bool.or_true,cond_true,cond_false] at g1 g2 g3 ⊢
                 exact Eq.trans (kA (acQ (dT' (by omega)) (dT' (by omega)))) (Eq.trans (kA (dT' (by omega))) rfl)
             · rw [z1] at g1 g2 g3
               simp only [Bool.true_or,cond_true] at g1 g2 g3 ⊢
               exact Eq.trans (kA (acQ (dT' (by omega)) (dT' (by omega)))) (Eq.trans (kA (dT' (by omega))) rfl)
           · rfl
         · rfl
       · have d1':=of_decide_eq_true d1
         rw [dF' (show ¬ (47::r: aa).length≤200 by omega)]
         rfl
     · rw [jv c r hc,dF' (show ¬ [c]=[47] from fun e=>hc (by injection e))]
       rfl
 · unfold oP at h;split at h
   · exact h
   · cases h
theorem Bn (p: aa) (hl: p.length≤4611686018427387904) (k0 k1: aa→OR'): ∀ (r: aa) (i: Int) (n: Nat),At p i r→r.length < n→
 gC n p i k0 k1=bif cE r 35||cE r 63 then k0 p else k1 p:=by
 intro r;induction r with
 | nil=>intro i n h hn;obtain ⟨n,rfl⟩:=bH hn;unfold gC lQ;simp only [h.dge,cond_false];rfl
 | cons a r ih=>
   intro i n h hn;obtain ⟨n,rfl⟩:=bH hn
   have hs:=ih (i + 1) n h.step (by simp at hn;omega)
   have e1: cE (a::r) 35=(decide (by8 a=35)||cE r 35):=rfl
   have e2: cE (a::r) 63=(decide (by8 a=63)||cE r 63):=rfl
   unfold gC lQ
   simp only [h.dlt,h.dnn,h.str,cond_true,h.next hl,hs,e1,e2]
   cases decide (by8 a=35) <;> cases decide (by8 a=63) <;> cases cE r 35 <;> cases cE r 63 <;> rfl
def rP: List aa→List aa→List aa
 | out,[]=>out
 | out,w::r=>rP (eY out w++(bif decide (r=[])&&DL w then [[]] else [])) r
theorem HO: ∀ (r out: List aa),rP out r=r.foldl eY out++(bif DL (r.getLastD []) then [[]] else [])
 | [],out=>by simp [rP,DL]
 | [w],out=>by
   unfold rP rP
   rw [dT' rfl,Bool.true_and];rfl
 | w::x::r,out=>by
   unfold rP
   rw [dF' (by simp),Bool.false_and,cond_false,List.append_nil,HO (x::r)]
   rfl
theorem D3 (l: List aa) (hl: l.length≤1000000) (k: List aa→OR'): ∀ (r: List aa) (i: Int) (out: List aa) (n: Nat),At l i r→r.length < n→out.length + r.length≤1000000→
 cS n i l out k=k (rP out r):=by
 intro r;induction r with
 | nil=>intro i out n h hn ho;obtain ⟨n,rfl⟩:=bH hn;unfold cS gD;simp only [h.dge,cond_false];rfl
 | cons w r ih=>
   intro i out n h hn ho;obtain ⟨n,rfl⟩:=bH hn
   simp only [List.length_cons] at hn ho
   have hs:=rE out w
   have hle:=h.le
   simp only [List.length_cons] at hle
   have hi:=h.nn
   have hlast: decide (i + 1=(l.length: Int))=decide (r=[]):=by
    rw [Bool.eq_iff_iff,decide_eq_true_eq,decide_eq_true_eq]
    constructor
    · intro e;exact List.length_eq_zero_iff.1 (by omega)
    · intro e;have: r.length=0:=by rw [e];rfl
      omega
   have hlen: (eY out w++(bif decide (r=[])&&DL w then [[]] else [])).length + r.length≤1000000∨r=[]:=by
    cases r with
    | nil=>exact .inr rfl
    | cons x r=>rw [dF' (by simp),Bool.false_and,cond_false,List.append_nil];exact .inl (by omega)
   have hr: ∀ o,o.length + r.length≤1000000→cS n (i + 1) l o k=k (rP o r):=fun o ho'=>ih (i + 1) o n h.step (by omega) ho'
   have hend: ∀ o: List aa,r=[]→cS n (i + 1) l o k=k o:=fun o hr0=>by
    subst hr0
    obtain ⟨m,rfl⟩: ∃ m,n=m + 1:=⟨n - 1,by simp at hn;omega⟩
    have h2:=h.step
    unfold cS gD;simp only [h2.dge,cond_false]
   have hany: ∀ o,(o.length + r.length≤1000000∨r=[])→cS n (i + 1) l o k=k (rP o r):=fun o ho'=>by
    rcases ho' with ho' | ho'
    · exact hr o ho'
    · rw [hend o ho',ho'];rfl
   have hap: decide ((out.length + [w].length) * 16≤140737488355328)=true:=dT' (by simp only [List.length_singleton];omega)
   have hap1: decide ((out.length + 1) * 16≤140737488355328)=true:=dT' (by omega)
   have hw1: ad ((out.length: Int) - 1)=(out.length: Int) - 1:=w64 (by omega) (by omega)
   have main: rP out (w::r)=rP (eY out w++(bif decide (r=[])&&DL w then [[]] else [])) r:=rfl
   rw [main]
   unfold cS gD
   simp only [h.dlt,h.dnn,h.get,cond_true,h.next (show l.length≤4611686018427387904 by omega),ci,hap,hap1,hw1,hlast]
   by_cases g1: w=[46]
   · have g2: decide (w=[46,46])=false:=dF' (by rw [g1];decide)
     have g3: DL w=true:=by rw [g1];rfl
     have g4: eY out w=out:=by unfold eY;rw [dT' g1];rfl
     rw [dT' g1,g2,g3,g4,Bool.and_true]
     rw [g3,g4,Bool.and_true] at hlen
     simp only [cond_true,cond_false]
     cases z: decide (r=[])
     · rw [z] at hlen;rw [cond_false] at hlen ⊢;rw [cond_false,hany _ (by simpa using hlen)];simp
     · rw [z] at hlen;rw [cond_true] at hlen ⊢;rw [cond_true,hany _ hlen]
   · have g1': decide (w=[46])=false:=dF' g1
     by_cases g2: w=[46,46]
     · have g2': decide (w=[46,46])=true:=dT' g2
       have g3: DL w=true:=by unfold DL;rw [g1',g2'];rfl
       have g4: eY out w=out.dropLast:=by unfold eY;rw [g1',g2'];rfl
       rw [g1',g2',g3,g4,Bool.and_true]
       rw [g3,g4,Bool.and_true] at hlen
       simp only [cond_true,cond_false,Bool.not_true]
       cases ho0: decide ((0 : Int) < (out.length: Int))
       · have: out=[]:=List.length_eq_zero_iff.1 (by have:=of_decide_eq_false ho0;omega)
         subst this
         simp only [List.dropLast_nil] at hlen ⊢
         simp only [cond_false]
         cases z: decide (r=[])
         · rw [z] at hlen;rw [cond_false] at hlen ⊢;rw [cond_false,hany _ (by simpa using hlen)];simp
         · rw [z] at hlen;rw [cond_true] at hlen ⊢;rw [cond_true,hany _ hlen]
       · have ho1:=of_decide_eq_true ho0
         have hc:=HN out ((out.length: Int) - 1) (by omega)
         have hap2: decide ((out.dropLast.length + 1) * 16≤140737488355328)=true:=dT' (by simp;omega)
         rw [dT' (show (0 : Int)≤(out.length: Int) - 1 by omega),dT' (show (out.length: Int) - 1≤(out.length: Int) by omega)]
         simp only [cond_true,hc,hap2]
         cases z: decide (r=[])
         · rw [z] at hlen;rw [cond_false] at hlen ⊢;rw [cond_false,hany _ (by simpa using hlen)];simp
         · rw [z] at hlen;rw [cond_true] at hlen ⊢;rw [cond_true,hany _ hlen]
     · have g2': decide (w=[46,46])=false:=dF' g2
       have g3: DL w=false:=by unfold DL;rw [g1',g2'];rfl
       have g4: eY out w=out++[w]:=by unfold eY;rw [g1',g2'];rfl
       rw [g1',g2',g3,g4,Bool.and_false]
       rw [g3,g4,Bool.and_false] at hlen
       simp only [cond_false,Bool.not_false,cond_true]
       rw [hany _ (by simpa using hlen)];simp
theorem D4 (l: List aa) (hl: l.length≤1000000) (k: aa→OR'): ∀ (r: List aa) (i: Int) (acc: aa) (n: Nat),At l i r→r.length < n→acc.length + (bL r).length≤1000000→
 fh n acc i l k=k (acc++bL r):=by
 intro r;induction r with
 | nil=>intro i acc n h hn ho;obtain ⟨n,rfl⟩:=bH hn;unfold fh ju;simp only [h.dge,cond_false,bL,List.append_nil]
 | cons w r ih=>
   intro i acc n h hn ho;obtain ⟨n,rfl⟩:=bH hn
   simp only [List.length_cons,bL,List.length_append] at hn ho
   have hr:=ih (i + 1) (acc++[47]++w) n h.step (by omega) (by simp;omega)
   have q1: decide (acc.length + 1≤9223372036854775807)=true:=dT' (by omega)
   have q2: decide ((acc++[47]).length + w.length≤9223372036854775807)=true:=dT' (by simp;omega)
   unfold fh ju
   simp only [h.dlt,h.dnn,h.get,cond_true,h.next (show l.length≤4611686018427387904 by omega),q1,q2,hr,bL]
   simp
theorem vb: Sound Kx 275 (oP fun s=> .str (a_ s)):=by
 refine (D0 (φ:=fun s=> .ite (isM s) (.ret (.str (a_ s)) []) .fail) (fun s=>s.length + 5) fun p r h=>?_).of fun args objs r h=>?_
 · obtain ⟨hM,h2⟩:=ae h
   cases h2
   unfold u6
   cases p with
   | nil=>rfl
   | cons c r=>
     have e0: decide (((c::r).length: Int)=0)=false:=dF' (by simp only [List.length_cons];omega)
     have e1: decide ((0 : Int) < ((c::r).length: Int))=true:=dT' (by simp only [List.length_cons];omega)
     have e2: aj (c::r) 0=by8 c:=rfl
     simp only [e0,e1,cond_true,cond_false,e2,hM,Bool.and_true]
     by_cases hc: c=47
     · subst hc
       rw [lR]
       unfold oy
       rw [show decide (by8 47=47)=true from rfl]
       simp only [Bool.not_true,cond_false]
       cases d1: decide ((200 : Int) < ((47::r: aa).length: Int))
       · have d1':=of_decide_eq_false d1
         simp only [List.length_cons] at d1'
         rw [dT' (show (47::r: aa).length≤200 by simp only [List.length_cons];omega)]
         simp only [cond_false,Bool.true_and]
         cases d2: aH cT (47::r)
         · rfl
         have m1: decide ((47::r: aa).length≤1000000)=true:=dT' (by simp only [List.length_cons];omega)
         simp only [Bool.not_true,cond_false,Bool.true_and]
         rw [Bn _ (by simp only [List.length_cons];omega) _ _ (47::r) 0 _ (At.start _) (by simp only [List.length_cons];omega)]
         cases d3: cE (47::r) 35
         · cases d4: cE (47::r) 63
           · simp only [Bool.or_false,cond_false,Bool.not_false,Bool.and_self,cond_true,uK,m1]
             have hcut: cut (47::dY r) 1 ((47::dY r).length: Int)=dY r:=by
              exact d8 (p:=[47]) (r:=[]) (by simp) rfl (by simp only [List.length_cons];omega)
             have hb:=D2 r (by omega)
             have hp:=lN r
             rw [hcut]
             have n1: decide ((1 : Int)≤((47::dY r).length: Int))=true:=dT' (by simp only [List.length_cons];omega)
             have n2: decide ((dY r).length≤1000000)=true:=dT' (by omega)
             rw [n1,n2]
             simp only [cond_true]
             have hL0:=rB (dY r) 47
             generalize hL: iD (dY r) 47=L at hb hL0
             rw [D3 L (by omega) _ L 0 [] _ (At.start L) (by simp only [List.length_cons];omega) (by simp;omega),HO]
             have g1:=nf L
             have g3:=Bl (kw L)
             have g5:=HL L []
             rw [show L.foldl eY []++(bif DL (L.getLastD []) then [[]] else [])=kw L from rfl]
             have g6: (kw L).length≤L.length + 1:=by
              unfold kw
              rw [List.length_append]
              cases DL (L.getLastD []) <;> simp at g5 ⊢ <;> omega
             rw [D4 (kw L) (by omega) _ (kw L) 0 [] _ (At.start _) (by simp only [List.length_cons];omega) (by simp;omega),List.nil_append,u_]
             cases decide (bL (kw L)=[]) <;> rfl
           · rfl
         · rfl
       · have d1':=of_decide_eq_true d1
         rw [dF' (show ¬ (47::r: aa).length≤200 by omega)]
         rfl
     · rw [jv c r hc,dF' (show ¬ by8 c=47 from fun e=>hc (qj e))]
       cases decide ((200 : Int) < ((c::r).length: Int)) <;> rfl
 · unfold oP at h;split at h
   · exact h
   · cases h
theorem O5: Sound Kx 320 (oP fun s=> .bool (jL s)):=iHost_ok.of fun args objs r h=>by
 unfold oP at h
 split at h
 case h_2=>cases h
 rename_i s
 obtain ⟨hM,h2⟩:=ae h
 cases h2
 show (wX s).val=some (.bool (jL s),[])
 unfold wX jL
 cases d1: decide ((1 : Int)≤(s.length: Int))
 · have d1':=of_decide_eq_false d1
   rw [dF' (show ¬ 1≤s.length by omega)];rfl
 · have d1':=of_decide_eq_true d1
   rw [dT' (show 1≤s.length by omega)]
   cases d2: decide ((s.length: Int)≤60)
   · have d2':=of_decide_eq_false d2
     rw [dF' (show ¬ s.length≤60 by omega)];rfl
   · have d2':=of_decide_eq_true d2
     have hlen:=rB s 46
     rw [dT' (show s.length≤60 by omega),hM]
     cases aH hoB s
     · rfl
     · refine (bQ rfl).trans ((eh rfl).trans ((bQ rfl).trans ((eh rfl).trans ((bQ (dT' (by omega))).trans ((bQ (dT' (by omega))).trans rfl)))))
def aaB: List AV→List Ob→Br
 | [.str s],[]=> .ite (decide (s.length≤1000000)) (.ret (.tup [.int .i64 (iC s).1, .bool (iC s).2]) []) .fail
 | _,_=> .fail
theorem Bo: Sound Kx 285 aaB:=iReadDec_ok.of fun args objs r h=>by
 unfold aaB at h
 split at h
 case h_2=>cases h
 rename_i s
 obtain ⟨hM,h2⟩:=ae h
 cases h2
 show (kB s).val=_
 unfold kB
 refine (bQ hM).trans ?_
 rw [NX]
 cases c1: gt s
 · rfl
 · cases c2: decide (0≤eD s)
   · rfl
   · cases c3: decide (eD s≤999999999999999)
     · rfl
     · have h15: bw (eD s)=true:=by unfold bw;rw [c2,c3];rfl
       rw [h15]
       cases c4: decide (bR (eD s)=s)
       · refine (bQ rfl).trans ((bQ rfl).trans ((eh rfl).trans ((bQ ?_).trans rfl)))
         rw [cond_true,c4];rfl
       · refine (bQ rfl).trans ((bQ rfl).trans ((eh rfl).trans ((eh ?_).trans rfl)))
         rw [cond_true,c4];rfl
def X5: SC:=[⟨232,_,CQ⟩]
def TD (h: aa) (po: Int) (pa q: aa) (hq: Bool): Br:=(.ite (decide (po=80)) (.ret (AV.str ([]: aa)) []) (.ite (bw po) (.ite (decide ((1 + (List.length (bR po)))≤9223372036854775807)) (.ret (AV.str (([58]: aa)++(bR po))) []) .fail) .fail))
def O6: List AV→List Ob→Br
 | [.agg [.str h, .int .i64 po, .str pa, .str q, .bool hq]],[]=>TD h po pa q hq
 | _,_=> .fail
theorem TE: Sound Kx 288 O6:=ac (C:=X5) (O:=O0) Tryz.func288 (by kernel_rfl) fun args objs=>by
 unfold O6;split
 · exact .inr (by kernel_rfl)
 · exact .inl rfl
def O7 (h: aa) (po: Int) (pa q: aa) (hq: Bool): Br:=(.ite hq (.ite (decide ((pa.length + 1)≤9223372036854775807)) (.ite (decide (((List.length (pa++([63]: aa))) + q.length)≤9223372036854775807)) (.ret (AV.str ((pa++([63]: aa))++q)) []) .fail) .fail) (.ret (AV.str pa) []))
def HP: List AV→List Ob→Br
 | [.agg [.str h, .int .i64 po, .str pa, .str q, .bool hq]],[]=>O7 h po pa q hq
 | _,_=> .fail
theorem O8: Sound Kx 289 HP:=ac (C:=[]) (O:=O0) Tryz.func289 (by kernel_rfl) fun args objs=>by
 unfold HP;split
 · exact .inr (by kernel_rfl)
 · exact .inl rfl
def X6: SC:=[⟨288,_,TE⟩,⟨289,_,O8⟩]
def wY (h: aa) (po: Int) (pa q: aa) (hq: Bool): Br:=(.ite (decide ((7 + h.length)≤9223372036854775807)) (.ite (decide (po=80)) (.ite (decide (((List.length (([104,116,116,112,58,47,47]: aa)++h)) + 0)≤9223372036854775807)) (.ite hq (.ite (decide ((pa.length + 1)≤9223372036854775807)) (.ite (decide (((List.length (pa++([63]: aa))) + q.length)≤9223372036854775807)) (.ite (decide (((List.length ((([104,116,116,112,58,47,47]: aa)++h)++([]: aa))) + (List.length ((pa++([63]: aa))++q)))≤9223372036854775807)) (.ret (AV.str (((([104,116,116,112,58,47,47]: aa)++h)++([]: aa))++((pa++([63]: aa))++q))) []) .fail) .fail) .fail) (.ite (decide (((List.length ((([104,116,116,112,58,47,47]: aa)++h)++([]: aa))) + pa.length)≤9223372036854775807)) (.ret (AV.str (((([104,116,116,112,58,47,47]: aa)++h)++([]: aa))++pa)) []) .fail)) .fail) (.ite (bw po) (.ite (decide ((1 + (List.length (bR po)))≤9223372036854775807)) (.ite (decide (((List.length (([104,116,116,112,58,47,47]: aa)++h)) + (List.length (([58]: aa)++(bR po))))≤9223372036854775807)) (.ite hq (.ite (decide ((pa.length + 1)≤9223372036854775807)) (.ite (decide (((List.length (pa++([63]: aa))) + q.length)≤9223372036854775807)) (.ite (decide (((List.length ((([104,116,116,112,58,47,47]: aa)++h)++(([58]: aa)++(bR po)))) + (List.length ((pa++([63]: aa))++q)))≤9223372036854775807)) (.ret (AV.str (((([104,116,116,112,58,47,47]: aa)++h)++(([58]: aa)++(bR po)))++((pa++([63]: aa))++q))) []) .fail) .fail) .fail) (.ite (decide (((List.length ((([104,116,116,112,58,47,47]: aa)++h)++(([58]: aa)++(bR po)))) + pa.length)≤9223372036854775807)) (.ret (AV.str (((([104,116,116,112,58,47,47]: aa)++h)++(([58]: aa)++(bR po)))++pa)) []) .fail)) .fail) .fail) .fail)) .fail)
def O9: List AV→List Ob→Br
 | [.agg [.str h, .int .i64 po, .str pa, .str q, .bool hq]],[]=>wY h po pa q hq
 | _,_=> .fail
theorem TF: Sound Kx 243 O9:=ac (C:=X6) (O:=O0) Tryz.func243 (by kernel_rfl) fun args objs=>by
 unfold O9;split
 · exact .inr (by kernel_rfl)
 · exact .inl rfl
def X7: SC:=[⟨191,_,mR⟩]
def TG (h: aa) (po: Int) (pa q: aa) (hq: Bool): Br:=(.ite (decide (po=80)) (.ret (AV.str ([]: aa)) []) (.ite (bw po) (.ite (decide ((1 + (List.length (bR po)))≤9223372036854775807)) (.ret (AV.str (([58]: aa)++(bR po))) []) .fail) .fail))
def O_: List AV→List Ob→Br
 | [.agg [.str h, .int .i64 po, .str pa, .str q, .bool hq]],[]=>TG h po pa q hq
 | _,_=> .fail
theorem TH: Sound Kx 304 O_:=ac (C:=X7) (O:=O0) Tryz.func304 (by kernel_rfl) fun args objs=>by
 unfold O_;split
 · exact .inr (by kernel_rfl)
 · exact .inl rfl
def Pa (h: aa) (po: Int) (pa q: aa) (hq: Bool): Br:=(.ite hq (.ite (decide ((1 + q.length)≤9223372036854775807)) (.ret (AV.str (([63]: aa)++q)) []) .fail) (.ret (AV.str ([]: aa)) []))
def HQ: List AV→List Ob→Br
 | [.agg [.str h, .int .i64 po, .str pa, .str q, .bool hq]],[]=>Pa h po pa q hq
 | _,_=> .fail
theorem Pb: Sound Kx 305 HQ:=ac (C:=[]) (O:=O0) Tryz.func305 (by kernel_rfl) fun args objs=>by
 unfold HQ;split
 · exact .inr (by kernel_rfl)
 · exact .inl rfl
def X8: SC:=[⟨304,_,TH⟩,⟨305,_,Pb⟩]
def wZ (h: aa) (po: Int) (pa q: aa) (hq: Bool): Br:=(.ite (decide ((7 + h.length)≤9223372036854775807)) (.ite (decide (po=80)) (.ite (decide (((List.length (([104,116,116,112,58,47,47]: aa)++h)) + 0)≤9223372036854775807)) (.ite (decide (((List.length ((([104,116,116,112,58,47,47]: aa)++h)++([]: aa))) + pa.length)≤9223372036854775807)) (.ite hq (.ite (decide ((1 + q.length)≤9223372036854775807)) (.ite (decide (((List.length (((([104,116,116,112,58,47,47]: aa)++h)++([]: aa))++pa)) + (List.length (([63]: aa)++q)))≤9223372036854775807)) (.ret (AV.str ((((([104,116,116,112,58,47,47]: aa)++h)++([]: aa))++pa)++(([63]: aa)++q))) []) .fail) .fail) (.ite (decide (((List.length (((([104,116,116,112,58,47,47]: aa)++h)++([]: aa))++pa)) + 0)≤9223372036854775807)) (.ret (AV.str ((((([104,116,116,112,58,47,47]: aa)++h)++([]: aa))++pa)++([]: aa))) []) .fail)) .fail) .fail) (.ite (bw po) (.ite (decide ((1 + (List.length (bR po)))≤9223372036854775807)) (.ite (decide (((List.length (([104,116,116,112,58,47,47]: aa)++h)) + (List.length (([58]: aa)++(bR po))))≤9223372036854775807)) (.ite (decide (((List.length ((([104,116,116,112,58,47,47]: aa)++h)++(([58]: aa)++(bR po)))) + pa.length)≤9223372036854775807)) (.ite hq (.ite (decide ((1 + q.length)≤9223372036854775807)) (.ite (decide (((List.length (((([104,116,116,112,58,47,47]: aa)++h)++(([58]: aa)++(bR po)))++pa)) + (List.length (([63]: aa)++q)))≤9223372036854775807)) (.ret (AV.str ((((([104,116,116,112,58,47,47]: aa)++h)++(([58]: aa)++(bR po)))++pa)++(([63]: aa)++q))) []) .fail) .fail) (.ite (decide (((List.length (((([104,116,116,112,58,47,47]: aa)++h)++(([58]: aa)++(bR po)))++pa)) + 0)≤9223372036854775807)) (.ret (AV.str ((((([104,116,116,112,58,47,47]: aa)++h)++(([58]: aa)++(bR po)))++pa)++([]: aa))) []) .fail)) .fail) .fail) .fail) .fail)) .fail)
def Pc: List AV→List Ob→Br
 | [.agg [.str h, .int .i64 po, .str pa, .str q, .bool hq]],[]=>wZ h po pa q hq
 | _,_=> .fail
theorem TI: Sound Kx 277 Pc:=ac (C:=X8) (O:=O0) Tryz.func277 (by kernel_rfl) fun args objs=>by
 unfold Pc;split
 · exact .inr (by kernel_rfl)
 · exact .inl rfl
def D5: SC:=[⟨179,_,MT⟩]
def Bp (s: aa): Br:=(.ite (decide (s.length≤1000000)) (.ret (AV.agg [.str ([]: aa),.int .i64 0,.str (tM s ([63]: aa)).1,.str (tM s ([63]: aa)).2.1,.bool (tM s ([63]: aa)).2.2]) []) .fail)
def rQ: List AV→List Ob→Br
 | [.str s],[]=>Bp s
 | _,_=> .fail
theorem Bq: Sound Kx 284 rQ:=ac (C:=D5) (O:=O0) Tryz.func284 (by kernel_rfl) fun args objs=>by
 unfold rQ;split
 · exact .inr (by kernel_rfl)
 · exact .inl rfl
def smU (h: aa) (po: Int) (pa q: aa): Bool:=decide (h.length≤1000000)&&bw po&&decide (pa.length≤1000000)&&isM q
def aaC (p: aa→Int→aa→aa→Bool→Bool) (v: aa→Int→aa→aa→Bool→AV): List AV→List Ob→Br
 | [.agg [.str h, .int .i64 po, .str pa, .str q, .bool hq]],[]=> .ite (p h po pa q hq) (.ret (v h po pa q hq) []) .fail
 | _,_=> .fail
def adw: List AV→List Ob→Br:=aaC (fun h po pa q _=>smU h po pa q) (fun h po pa q hq=> .str (sS h po pa q hq))
theorem Pd {n: Nat} {s: List AV→List Ob→Br} (hs: Sound Kx n s) {p: aa→Int→aa→aa→Bool→Bool} {v: aa→Int→aa→aa→Bool→AV} (h: ∀ ho po pa q hq,p ho po pa q hq=true→(s [.agg [.str ho, .int .i64 po, .str pa, .str q, .bool hq]] []).val=some (v ho po pa q hq,[])): Sound Kx n (aaC p v):=hs.of fun args objs r hv=>by
 unfold aaC at hv
 split at hv
 case h_2=>cases hv
 obtain ⟨h1,h2⟩:=ae hv
 cases h2
 exact h _ _ _ _ _ h1
theorem Bs (n: Int) (h: bw n=true): (bR n).length≤15:=by
 unfold bw at h
 simp only [Bool.and_eq_true,decide_eq_true_eq] at h
 rw [cK];exact rq _ (by omega)
theorem VU {h: aa} {po: Int} {pa q: aa} (hs: smU h po pa q=true): h.length≤1000000∧bw po=true∧pa.length≤1000000∧q.length≤4611686018427387904:=by
 unfold smU at hs
 simp only [Bool.and_eq_true,decide_eq_true_eq] at hs
 exact ⟨hs.1.1.1,hs.1.1.2,hs.1.2,eO hs.2⟩
theorem Bt: Sound Kx 243 adw:=Pd TF fun h po pa q hq hs=>by
 obtain ⟨h1,h2,h3,h4⟩:=VU hs
 have hd:=Bs po h2
 show (wY h po pa q hq).val=some (.str (sS h po pa q hq),[])
 unfold wY sS XR Hu wK
 cases decide (po=80) <;> cases hq <;>
  simp (disch:=(first | omega | (simp only [List.length_append,List.length_cons,List.length_nil];omega))) only [Br.val,dle,h2,cond_true,cond_false,List.append_assoc,List.cons_append,List.nil_append,List.append_nil]
theorem Bu: Sound Kx 277 adw:=Pd TI fun h po pa q hq hs=>by
 obtain ⟨h1,h2,h3,h4⟩:=VU hs
 have hd:=Bs po h2
 show (wZ h po pa q hq).val=some (.str (sS h po pa q hq),[])
 unfold wZ sS XR Hu wK
 cases decide (po=80) <;> cases hq <;>
  simp (disch:=(first | omega | (simp only [List.length_append,List.length_cons,List.length_nil];omega))) only [Br.val,dle,h2,cond_true,cond_false,List.append_assoc,List.cons_append,List.nil_append,List.append_nil]
def TJ: Opt:={ split:=true }
def TK: SC:=[⟨320,_,O5⟩,⟨201,_,dc⟩,⟨286,_,va⟩,⟨74,_,jh⟩,⟨246,_,Hv⟩,⟨243,_,Bt⟩]
def rR (h: aa) (po: Int) (pa q: aa) (hq: Bool): Br:=(.ite (isM h) (.ite (jL h) (.ite (decide (1≤po)) (.ite (decide (po≤65535)) (.ite (decide (pa=([]: aa))) (.ret (AV.bool false) []) (.ite (isM pa) (.ite (!(decide ((a_ pa)=pa))) (.ret (AV.bool false) []) (.ite (isM q) (.ite (!(aH cT q)) (.ret (AV.bool false) []) (.ite (cE q 35) (.ret (AV.bool false) []) (.ite (!hq) (.ite (!(decide (q=([]: aa)))) (.ret (AV.bool false) []) (.ite (smU h po pa q) (.ret (AV.bool (decide (((List.length (sS h po pa q hq)): Int)≤200))) []) .fail)) (.ite (smU h po pa q) (.ret (AV.bool (decide (((List.length (sS h po pa q hq)): Int)≤200))) []) .fail)))) .fail)) .fail)) (.ret (AV.bool false) [])) (.ret (AV.bool false) [])) (.ret (AV.bool false) [])) .fail)
def HR: List AV→List Ob→Br
 | [.agg [.str h, .int .i64 po, .str pa, .str q, .bool hq]],[]=>rR h po pa q hq
 | _,_=> .fail
theorem Pe: Sound Kx 287 HR:=ac (C:=TK) (O:=TJ) Tryz.func287 (by kernel_rfl) fun args objs=>by
 unfold HR;split
 · exact .inr (by kernel_rfl)
 · exact .inl rfl
def TL: Opt:={ split:=true }
def TM: SC:=[⟨303,_,O1⟩,⟨275,_,vb⟩,⟨188,_,pi⟩,⟨273,_,AS⟩,⟨277,_,Bu⟩]
def rT (h: aa) (po: Int) (pa q: aa) (hq: Bool): Br:=(.ite (jL h) (.ite (decide (po < 1)) (.ret (AV.bool false) []) (.ite (decide (65535 < po)) (.ret (AV.bool false) []) (.ite (decide (pa=([]: aa))) (.ret (AV.bool false) []) (.ite (isM pa) (.ite (!(decide ((a_ pa)=pa))) (.ret (AV.bool false) []) (.ite hq (.ite (decide (200 < (q.length: Int))) (.ret (AV.bool false) []) (.ite (!(decide (q=([]: aa)))) (.ite (isM q) (.ite ((aH cT q)&&(decide (0 < (q.length: Int)))) (.ite (isM q) (.ite (!(decide ((aq q 35)=q))) (.ret (AV.bool false) []) (.ite (smU h po pa q) (.ret (AV.bool (decide (((List.length (sS h po pa q hq)): Int)≤200))) []) .fail)) .fail) (.ret (AV.bool false) [])) .fail) (.ite (isM q) (.ite (!(decide ((aq q 35)=q))) (.ret (AV.bool false) []) (.ite (smU h po pa q) (.ret (AV.bool (decide (((List.length (sS h po pa q hq)): Int)≤200))) []) .fail)) .fail))) (.ite (!(decide (q=([]: aa)))) (.ret (AV.bool false) []) (.ite (decide (200 < (q.length: Int))) (.ret (AV.bool false) []) (.ite (!(decide (q=([]: aa)))) (.ite (isM q) (.ite ((aH cT q)&&(decide (0 < (q.length: Int)))) (.ite (isM q) (.ite (!(decide ((aq q 35)=q))) (.ret (AV.bool false) []) (.ite (smU h po pa q) (.ret (AV.bool (decide (((List.length (sS h po pa q hq)): Int)≤200))) []) .fail)) .fail) (.ret (AV.bool false) [])) .fail) (.ite (isM q) (.ite (!(decide ((aq q 35)=q))) (.ret (AV.bool false) []) (.ite (smU h po pa q) (.ret (AV.bool (decide (((List.length (sS h po pa q hq)): Int)≤200))) []) .fail)) .fail)))))) .fail)))) (.ret (AV.bool false) []))
def HS: List AV→List Ob→Br
 | [.agg [.str h, .int .i64 po, .str pa, .str q, .bool hq]],[]=>rT h po pa q hq
 | _,_=> .fail
theorem Pf: Sound Kx 276 HS:=ac (C:=TM) (O:=TL) Tryz.func276 (by kernel_rfl) fun args objs=>by
 unfold HS;split
 · exact .inr (by kernel_rfl)
 · exact .inl rfl
theorem Bv {pa: aa} (h: a_ pa=pa) (h0: pa≠[]): pa.length≤200:=by
 cases pa with
 | nil=>exact absurd rfl h0
 | cons c r=>
   by_cases hc: c=47
   · subst hc
     rw [lR] at h
     cases ho: oy (47::r)
     · rw [ho,cond_false] at h;exact absurd h.symm h0
     · unfold oy at ho
       simp only [Bool.and_eq_true,decide_eq_true_eq] at ho
       exact ho.1.1.1
   · rw [jv c r hc] at h;exact absurd h.symm h0
theorem HT {h: aa} (hh: jL h=true): h.length≤60:=by
 unfold jL at hh
 simp only [Bool.and_eq_true,decide_eq_true_eq] at hh
 exact hh.1.1.2
theorem Pg (n: Nat): decide ((n: Int)≤200)=decide (n≤200):=by
 rw [Bool.eq_iff_iff,decide_eq_true_eq,decide_eq_true_eq];omega
theorem pD (s: aa) (b: Int): decide (aq s b=s)= !cE s b:=by
 induction s with
 | nil=>rfl
 | cons c s ih=>
   have e: cE (c::s) b=(decide (by8 c=b)||cE s b):=rfl
   unfold aq at ih ⊢
   rw [e,List.takeWhile_cons]
   cases decide (by8 c=b)
   · simp only [Bool.not_false,if_true,Bool.false_or]
     rw [← ih,Bool.eq_iff_iff,decide_eq_true_eq,decide_eq_true_eq]
     simp
   · simp
theorem VV (h: aa) (po: Int) (pa q: aa): q.length≤(sS h po pa q true).length:=by
 unfold sS Hu
 simp only [cond_true,List.length_append,List.length_cons];omega
def adx: List AV→List Ob→Br:=aaC (fun h _ pa q _=>isM h&&isM pa&&isM q) (fun h po pa q hq=> .bool (bb h po pa q hq))
theorem HU {h: aa} {po: Int} {pa q: aa} (h1: jL h=true) (h2: decide (1≤po)=true) (h3: decide (po≤65535)=true) (h4: decide (pa=[])=false) (h5: decide (a_ pa=pa)=true) (h6: isM q=true): smU h po pa q=true:=by
 have a:=HT h1
 have b:=Bv (of_decide_eq_true h5) (of_decide_eq_false h4)
 have c:=of_decide_eq_true h2
 have d:=of_decide_eq_true h3
 unfold smU bw
 rw [dT' (show h.length≤1000000 by omega),dT' (show 0≤po by omega),dT' (show po≤999999999999999 by omega),dT' (show pa.length≤1000000 by omega),h6];rfl
theorem KC: Sound Kx 287 adx:=Pd Pe fun h po pa q hq hs=>by
 simp only [Bool.and_eq_true] at hs
 obtain ⟨⟨m1,m2⟩,m3⟩:=hs
 show (rR h po pa q hq).val=some (.bool (bb h po pa q hq),[])
 unfold rR bb
 rw [m1,m2,m3,Pg]
 cases d1: jL h
 · rfl
 cases d2: decide (1≤po)
 · rfl
 cases d3: decide (po≤65535)
 · rfl
 cases d4: decide (pa=[])
 case true=>rfl
 cases d5: decide (a_ pa=pa)
 · rfl
 rw [HU d1 d2 d3 d4 d5 m3]
 cases aH cT q
 · rfl
 cases cE q 35
 case true=>rfl
 cases hq <;> cases decide (q=[]) <;> rfl
theorem vc: Sound Kx 276 adx:=Pd Pf fun h po pa q hq hs=>by
 simp only [Bool.and_eq_true] at hs
 obtain ⟨⟨m1,m2⟩,m3⟩:=hs
 show (rT h po pa q hq).val=some (.bool (bb h po pa q hq),[])
 unfold rT bb
 rw [m2,m3,Pg,pD]
 have e2: decide (po < 1)= !decide (1≤po):=by rw [Bool.eq_iff_iff];simp
 have e3: decide (65535 < po)= !decide (po≤65535):=by rw [Bool.eq_iff_iff];simp
 rw [e2,e3]
 cases d1: jL h
 · rfl
 cases d2: decide (1≤po)
 · rfl
 cases d3: decide (po≤65535)
 · rfl
 cases d4: decide (pa=[])
 case true=>rfl
 cases d5: decide (a_ pa=pa)
 · rfl
 rw [HU d1 d2 d3 d4 d5 m3]
 by_cases hq0: q=[]
 · subst hq0
   cases hq <;> rfl
 · have z: decide (q=[])=false:=dF' hq0
   have zl: decide ((0 : Int) < (q.length: Int))=true:=dT' (by have:=List.length_pos_iff.2 hq0;omega)
   rw [z,zl]
   cases hq
   · cases aH cT q <;> cases cE q 35 <;> rfl
   · cases d6: decide ((200 : Int) < (q.length: Int))
     · cases aH cT q <;> cases cE q 35 <;> rfl
     · have:=of_decide_eq_true d6
       have hl:=VV h po pa q
       rw [dF' (show ¬ (sS h po pa q true).length≤200 by omega),Bool.and_false];rfl
def KD: Opt:={ split:=true }
def KE: SC:=[⟨74,_,jh⟩,⟨246,_,Hv⟩,⟨118,_,qH⟩,⟨283,_,OE⟩,⟨179,_,MT⟩,⟨284,_,Bq⟩,⟨285,_,Bo⟩,⟨286,_,va⟩,⟨287,_,KC⟩]
abbrev aD (s: aa):=(tM (cut (cut s 7 (s.length: Int)) (nc (cut s 7 (s.length: Int)) ([47,63]: aa)) ((List.length (cut s 7 (s.length: Int))): Int)) ([63]: aa))
abbrev aE (s: aa):=(tM (cut (cut s 7 (s.length: Int)) ((List.length (cut s 7 (s.length: Int))): Int) ((List.length (cut s 7 (s.length: Int))): Int)) ([63]: aa))
abbrev bn (s: aa):=(Br.ret (AV.tup ((AV.agg ((AV.str ([]: aa))::((AV.int .i64 0)::((AV.str ([]: aa))::((AV.str ([]: aa))::((AV.bool false)::[]))))))::((AV.bool false)::[]))) [])
abbrev aM (s: aa):=(tM (cut (cut s 7 (s.length: Int)) 0 (nc (cut s 7 (s.length: Int)) ([47,63]: aa))) ([58]: aa))
abbrev aN (s: aa):=(tM (cut (cut s 7 (s.length: Int)) 0 ((List.length (cut s 7 (s.length: Int))): Int)) ([58]: aa))
abbrev bS (s: aa):=((List.length (cut s 7 (s.length: Int))): Int)
abbrev cY (s: aa):=(nc (cut s 7 (s.length: Int)) ([47,63]: aa))
abbrev fB (s: aa):=((AV.str (aE s).2.1)::((AV.bool (aE s).2.2)::[]))
abbrev fC (s: aa):=((AV.str (aD s).2.1)::((AV.bool (aD s).2.2)::[]))
def kC (s: aa): Br:=(.ite (decide (200 < (s.length: Int))) (bn s) (.ite (isM s) (.ite (!(aH cT s)) (bn s) (.ite (cE s 35) (bn s) (.ite (decide ((s.length: Int) < 7)) (bn s) (.ite (decide (7≤(s.length: Int))) (.ite (isM (cut s 0 7)) (.ite (!(decide ((aK (cut s 0 7))=([104,116,116,112,58,47,47]: aa)))) (bn s) (.ite (decide (7≤(s.length: Int))) (.ite ((((decide ((List.length (cut s 7 (s.length: Int)))≤1000000))&&true)&&(RT (cut s 7 (s.length: Int))))&&true) (.ite (decide ((cY s) < 0)) (.ite (decide (0≤(bS s))) (.ite (decide ((bS s)≤(bS s))) (.ite (decide ((List.length (cut (cut s 7 (s.length: Int)) 0 (bS s)))≤1000000)) (.ite (decide (0≤(bS s))) (.ite (decide ((bS s)≤(bS s))) (.ite (decide ((List.length (cut (cut s 7 (s.length: Int)) (bS s) (bS s)))≤1000000)) (.ite (isM (aN s).1) (.ite (aN s).2.2 (.ite (decide ((List.length (aN s).2.1)≤1000000)) (.ite (!(iC (aN s).2.1).2) (bn s) (.ite (decide ((aE s).1=([]: aa))) (.ite (((isM (aK (aN s).1))&&true)&&(isM (aE s).2.1)) (.ite (!(bb (aK (aN s).1) (iC (aN s).2.1).1 ([47]: aa) (aE s).2.1 (aE s).2.2)) (bn s) (.ret (AV.tup [.agg ((AV.str (aK (aN s).1))::((AV.int .i64 (iC (aN s).2.1).1)::((AV.str ([47]: aa))::(fB s)))),.bool true]) [])) .fail) (.ite (isM (aE s).1) (.ite (((isM (aK (aN s).1))&&(isM (a_ (aE s).1)))&&(isM (aE s).2.1)) (.ite (!(bb (aK (aN s).1) (iC (aN s).2.1).1 (a_ (aE s).1) (aE s).2.1 (aE s).2.2)) (bn s) (.ret (AV.tup [.agg ((AV.str (aK (aN s).1))::((AV.int .i64 (iC (aN s).2.1).1)::((AV.str (a_ (aE s).1))::(fB s)))),.bool true]) [])) .fail) .fail))) .fail) (.ite (decide ((aE s).1=([]: aa))) (.ite (((isM (aK (aN s).1))&&true)&&(isM (aE s).2.1)) (.ite (!(bb (aK (aN s).1) 80 ([47]: aa) (aE s).2.1 (aE s).2.2)) (bn s) (.ret (AV.tup [.agg ((AV.str (aK (aN s).1))::((AV.int .i64 80)::((AV.str ([47]: aa))::(fB s)))),.bool true]) [])) .fail) (.ite (isM (aE s).1) (.ite (((isM (aK (aN s).1))&&(isM (a_ (aE s).1)))&&(isM (aE s).2.1)) (.ite (!(bb (aK (aN s).1) 80 (a_ (aE s).1) (aE s).2.1 (aE s).2.2)) (bn s) (.ret (AV.tup [.agg ((AV.str (aK (aN s).1))::((AV.int .i64 80)::((AV.str (a_ (aE s).1))::(fB s)))),.bool true]) [])) .fail) .fail))) .fail) .fail) .fail) .fail) .fail) .fail) .fail) (.ite (decide (0≤(cY s))) (.ite (decide ((cY s)≤(bS s))) (.ite (decide ((List.length (cut (cut s 7 (s.length: Int)) 0 (cY s)))≤1000000)) (.ite (decide (0≤(cY s))) (.ite (decide ((cY s)≤(bS s))) (.ite (decide ((List.length (cut (cut s 7 (s.length: Int)) (cY s) (bS s)))≤1000000)) (.ite (isM (aM s).1) (.ite (aM s).2.2 (.ite (decide ((List.length (aM s).2.1)≤1000000)) (.ite (!(iC (aM s).2.1).2) (bn s) (.ite (decide ((aD s).1=([]: aa))) (.ite (((isM (aK (aM s).1))&&true)&&(isM (aD s).2.1)) (.ite (!(bb (aK (aM s).1) (iC (aM s).2.1).1 ([47]: aa) (aD s).2.1 (aD s).2.2)) (bn s) (.ret (AV.tup [.agg ((AV.str (aK (aM s).1))::((AV.int .i64 (iC (aM s).2.1).1)::((AV.str ([47]: aa))::(fC s)))),.bool true]) [])) .fail) (.ite (isM (aD s).1) (.ite (((isM (aK (aM s).1))&&(isM (a_ (aD s).1)))&&(isM (aD s).2.1)) (.ite (!(bb (aK (aM s).1) (iC (aM s).2.1).1 (a_ (aD s).1) (aD s).2.1 (aD s).2.2)) (bn s) (.ret (AV.tup [.agg ((AV.str (aK (aM s).1))::((AV.int .i64 (iC (aM s).2.1).1)::((AV.str (a_ (aD s).1))::(fC s)))),.bool true]) [])) .fail) .fail))) .fail) (.ite (decide ((aD s).1=([]: aa))) (.ite (((isM (aK (aM s).1))&&true)&&(isM (aD s).2.1)) (.ite (!(bb (aK (aM s).1) 80 ([47]: aa) (aD s).2.1 (aD s).2.2)) (bn s) (.ret (AV.tup [.agg ((AV.str (aK (aM s).1))::((AV.int .i64 80)::((AV.str ([47]: aa))::(fC s)))),.bool true]) [])) .fail) (.ite (isM (aD s).1) (.ite (((isM (aK (aM s).1))&&(isM (a_ (aD s).1)))&&(isM (aD s).2.1)) (.ite (!(bb (aK (aM s).1) 80 (a_ (aD s).1) (aD s).2.1 (aD s).2.2)) (bn s) (.ret (AV.tup [.agg ((AV.str (aK (aM s).1))::((AV.int .i64 80)::((AV.str (a_ (aD s).1))::(fC s)))),.bool true]) [])) .fail) .fail))) .fail) .fail) .fail) .fail) .fail) .fail) .fail)) .fail) .fail)) .fail) .fail)))) .fail))
def vd: List AV→List Ob→Br
 | [.str s],[]=>kC s
 | _,_=> .fail
theorem iReadUrl_ok: Sound Kx 242 vd:=ac (C:=KE) (O:=KD) Tryz.func242 (by kernel_rfl) fun args objs=>by
 unfold vd;split
 · exact .inr (by kernel_rfl)
 · exact .inl rfl
def KF: Opt:={ split:=true }
def KG: SC:=[⟨188,_,pi⟩,⟨273,_,AS⟩,⟨91,_,ll⟩,⟨274,_,Be⟩,⟨275,_,vb⟩,⟨276,_,vc⟩]
abbrev bg (s: aa):=(aq (cut s 7 (s.length: Int)) 63)
abbrev bD (s: aa):=(Br.ret (AV.tup ((AV.agg ((AV.str ([]: aa))::((AV.int .i64 0)::((AV.str ([]: aa))::((AV.str ([]: aa))::((AV.bool false)::[]))))))::((AV.bool false)::[]))) [])
abbrev bT (s: aa):=(cut (cut s 7 (s.length: Int)) (ad (((List.length (bg s)): Int) + 1)) ((List.length (cut s 7 (s.length: Int))): Int))
abbrev bE (s: aa):=(cut (bg s) ((List.length (aq (bg s) 47)): Int) ((List.length (bg s)): Int))
abbrev cC (s: aa):=(iC (cut (aq (bg s) 47) (ad (((List.length (aq (aq (bg s) 47) 58)): Int) + 1)) ((List.length (aq (bg s) 47)): Int)))
abbrev aF (s: aa):=(aK (aq (aq (bg s) 47) 58))
abbrev bh (s: aa):=((List.length (bg s)): Int)
abbrev cM (s: aa):=((List.length (aq (bg s) 47)): Int)
abbrev cN (s: aa):=((List.length (cut s 7 (s.length: Int))): Int)
def kD (s: aa): Br:=(.ite (decide (200 < (s.length: Int))) (bD s) (.ite (decide ((s.length: Int) < 8)) (bD s) (.ite (isM s) (.ite (!((aH cT s)&&(decide (0 < (s.length: Int))))) (bD s) (.ite (isM s) (.ite (!(decide ((aq s 35)=s))) (bD s) (.ite (decide (7≤(s.length: Int))) (.ite (isM (cut s 0 7)) (.ite (!(decide ((aK (cut s 0 7))=([104,116,116,112,58,47,47]: aa)))) (bD s) (.ite (decide (7≤(s.length: Int))) (.ite (isM (cut s 7 (s.length: Int))) (.ite (isM (bg s)) (.ite (isM (aq (bg s) 47)) (.ite (isM (aq (aq (bg s) 47) 58)) (.ite (decide (((List.length (aq (aq (bg s) 47) 58)): Int) < (cM s))) (.ite (decide (0≤(ad (((List.length (aq (aq (bg s) 47) 58)): Int) + 1)))) (.ite (decide ((ad (((List.length (aq (aq (bg s) 47) 58)): Int) + 1))≤(cM s))) (.ite (!(cC s).2) (bD s) (.ite (decide ((cM s) < (bh s))) (.ite (decide (0≤(cM s))) (.ite (decide ((cM s)≤(bh s))) (.ite (isM (bE s)) (.ite (decide ((bh s) < (cN s))) (.ite (decide (0≤(ad ((bh s) + 1)))) (.ite (decide ((ad ((bh s) + 1))≤(cN s))) (.ite (((isM (aF s))&&(isM (a_ (bE s))))&&(isM (bT s))) (.ite (!(bb (aF s) (cC s).1 (a_ (bE s)) (bT s) true)) (bD s) (.ret (AV.tup [.agg [.str (aF s),.int .i64 (cC s).1,.str (a_ (bE s)),.str (bT s),.bool true],.bool true]) [])) .fail) .fail) .fail) (.ite (((isM (aF s))&&(isM (a_ (bE s))))&&true) (.ite (!(bb (aF s) (cC s).1 (a_ (bE s)) ([]: aa) false)) (bD s) (.ret (AV.tup [.agg [.str (aF s),.int .i64 (cC s).1,.str (a_ (bE s)),.str ([]: aa),.bool false],.bool true]) [])) .fail)) .fail) .fail) .fail) (.ite (decide ((bh s) < (cN s))) (.ite (decide (0≤(ad ((bh s) + 1)))) (.ite (decide ((ad ((bh s) + 1))≤(cN s))) (.ite (((isM (aF s))&&true)&&(isM (bT s))) (.ite (!(bb (aF s) (cC s).1 ([47]: aa) (bT s) true)) (bD s) (.ret (AV.tup [.agg [.str (aF s),.int .i64 (cC s).1,.str ([47]: aa),.str (bT s),.bool true],.bool true]) [])) .fail) .fail) .fail) (.ite (((isM (aF s))&&true)&&true) (.ite (!(bb (aF s) (cC s).1 ([47]: aa) ([]: aa) false)) (bD s) (.ret (AV.tup [.agg [.str (aF s),.int .i64 (cC s).1,.str ([47]: aa),.str ([]: aa),.bool false],.bool true]) [])) .fail)))) .fail) .fail) (.ite (decide ((cM s) < (bh s))) (.ite (decide (0≤(cM s))) (.ite (decide ((cM s)≤(bh s))) (.ite (isM (bE s)) (.ite (decide ((bh s) < (cN s))) (.ite (decide (0≤(ad ((bh s) + 1)))) (.ite (decide ((ad ((bh s) + 1))≤(cN s))) (.ite (((isM (aF s))&&(isM (a_ (bE s))))&&(isM (bT s))) (.ite (!(bb (aF s) 80 (a_ (bE s)) (bT s) true)) (bD s) (.ret (AV.tup [.agg [.str (aF s),.int .i64 80,.str (a_ (bE s)),.str (bT s),.bool true],.bool true]) [])) .fail) .fail) .fail) (.ite (((isM (aF s))&&(isM (a_ (bE s))))&&true) (.ite (!(bb (aF s) 80 (a_ (bE s)) ([]: aa) false)) (bD s) (.ret (AV.tup [.agg [.str (aF s),.int .i64 80,.str (a_ (bE s)),.str ([]: aa),.bool false],.bool true]) [])) .fail)) .fail) .fail) .fail) (.ite (decide ((bh s) < (cN s))) (.ite (decide (0≤(ad ((bh s) + 1)))) (.ite (decide ((ad ((bh s) + 1))≤(cN s))) (.ite (((isM (aF s))&&true)&&(isM (bT s))) (.ite (!(bb (aF s) 80 ([47]: aa) (bT s) true)) (bD s) (.ret (AV.tup [.agg [.str (aF s),.int .i64 80,.str ([47]: aa),.str (bT s),.bool true],.bool true]) [])) .fail) .fail) .fail) (.ite (((isM (aF s))&&true)&&true) (.ite (!(bb (aF s) 80 ([47]: aa) ([]: aa) false)) (bD s) (.ret (AV.tup [.agg [.str (aF s),.int .i64 80,.str ([47]: aa),.str ([]: aa),.bool false],.bool true]) [])) .fail)))) .fail) .fail) .fail) .fail) .fail)) .fail) .fail)) .fail)) .fail)))
def ve: List AV→List Ob→Br
 | [.str s],[]=>kD s
 | _,_=> .fail
theorem sReadUrl_ok: Sound Kx 227 ve:=ac (C:=KG) (O:=KF) Tryz.func227 (by kernel_rfl) fun args objs=>by
 unfold ve;split
 · exact .inr (by kernel_rfl)
 · exact .inl rfl
def KH: Opt:={ split:=true }
def KI: SC:=[⟨276,_,vc⟩,⟨277,_,Bu⟩]
def kE (h: aa) (po: Int) (pa q: aa) (hq: Bool): Br:=(.ite (((isM h)&&(isM pa))&&(isM q)) (.ite (!(bb h po pa q hq)) (.ret (AV.str ([]: aa)) []) (.ite (smU h po pa q) (.ret (AV.str (sS h po pa q hq)) []) .fail)) .fail)
def vf: List AV→List Ob→Br
 | [.agg [.str h, .int .i64 po, .str pa, .str q, .bool hq]],[]=>kE h po pa q hq
 | _,_=> .fail
theorem D6: Sound Kx 228 vf:=ac (C:=KI) (O:=KH) Tryz.func228 (by kernel_rfl) fun args objs=>by
 unfold vf;split
 · exact .inr (by kernel_rfl)
 · exact .inl rfl
theorem Bw (b: Int): ∀ (r: aa) (k: Nat),k≤(aq r b).length→aq (r.drop k) b=(aq r b).drop k
 | r,0,_=>rfl
 | [],k + 1,h=>by simp [aq] at h
 | x::r,k + 1,h=>by
   have ih:=Bw b r k
   unfold aq at ih h ⊢
   rw [List.takeWhile_cons] at h ⊢
   cases c: decide (by8 x=b)
   · rw [c] at h
     simp only [Bool.not_false,if_true,List.length_cons] at h ⊢
     rw [List.drop_succ_cons,List.drop_succ_cons]
     exact ih (by omega)
   · rw [c] at h;simp at h
theorem kF {l: aa} {k: Nat} {i: Int} (h: i=(k: Int)): cut l i (l.length: Int)=l.drop k:=by
 subst h;unfold cut;simp
theorem w4 {l: aa} {k: Nat} {i: Int} (h: i=(k: Int)): cut l 0 i=l.take k:=by
 subst h;unfold cut;simp
theorem Ph (a b: Nat): decide ((a: Int) < (b: Int))=decide (a < b):=by
 rw [Bool.eq_iff_iff,decide_eq_true_eq,decide_eq_true_eq];omega
theorem Bx (p: aa): (a_ p).length≤1000:=by
 cases p with
 | nil=>exact Nat.zero_le _
 | cons c r=>
   by_cases hc: c=47
   · subst hc
     rw [lR]
     cases ho: oy (47::r)
     · exact Nat.zero_le _
     · unfold oy at ho
       simp only [Bool.and_eq_true,decide_eq_true_eq,List.length_cons] at ho
       have h1:=D2 r (by omega)
       have h2:=nf (iD (dY r) 47)
       have h3:=HM (kw (iD (dY r) 47))
       simp only [cond_true,List.length_cons];omega
   · rw [jv c r hc];exact Nat.zero_le _
def urA (u: Ur): AV:= .agg [.str u.h, .int .i64 u.po, .str u.pa, .str u.q, .bool u.hq]
theorem ey {s: aa} (h: uL s=false): bf s=(u0,false):=by unfold bf;rw [h];rfl
theorem rU {s: aa} (h: uL s=true): bf s=bif (Kk (tj (s.drop 7))).2&&(Tp (s.drop 7)).ok then (Tp (s.drop 7),true) else (u0,false):=by
 unfold bf;rw [h,Bool.true_and]
theorem oE (s: aa): uL s=(decide (s.length≤200)&&decide (7≤s.length)&&aH cT s&& !cE s 35&&decide (aK (s.take 7)=wK)):=rfl
theorem TN: (Tp []).ok=false:=by
 unfold Tp Ur.ok bb
 have e: jL (aK (aq (tj []) 58))=false:=rfl
 simp only [e,Bool.false_and]
def acb: List AV→List Ob→Br:=oP fun s=> .tup [urA (bf s).1, .bool (bf s).2]
theorem By: Sound Kx 227 acb:=sReadUrl_ok.of fun args objs r h=>by
 unfold acb oP at h
 split at h
 case h_2=>cases h
 rename_i s
 obtain ⟨hM,h2⟩:=ae h
 cases h2
 show (kD s).val=some (.tup [urA (bf s).1, .bool (bf s).2],[])
 unfold kD cN cM bh aF cC bE bT bD bg
 have hok:=oE s
 cases d1: decide ((200 : Int) < (s.length: Int))
 case true=>
  have:=of_decide_eq_true d1
  rw [dF' (show ¬ s.length≤200 by omega)] at hok
  rw [ey (by rw [hok];rfl)];rfl
 have d1':=of_decide_eq_false d1
 rw [dT' (show s.length≤200 by omega)] at hok
 cases d2: decide ((s.length: Int) < 8)
 case true=>
  have d2':=of_decide_eq_true d2
  refine (eh rfl).trans ((bQ rfl).trans ?_)
  have: bf s=(u0,false):=by
   cases hr: uL s
   · exact ey hr
   · rw [rU hr]
     rw [hok] at hr
     simp only [Bool.and_eq_true,decide_eq_true_eq] at hr
     have e: s.drop 7=[]:=List.drop_eq_nil_of_le (by omega)
     rw [e,TN,Bool.and_false];rfl
  rw [this];rfl
 have d2':=of_decide_eq_false d2
 rw [dT' (show 7≤s.length by omega)] at hok
 rw [hM,pD,dT' (show (0 : Int) < (s.length: Int) by omega),dT' (show (7 : Int)≤(s.length: Int) by omega),show cut s 0 7=s.take 7 from w4 (k:=7) rfl,show cut s 7 (s.length: Int)=s.drop 7 from kF (k:=7) rfl]
 cases d3: aH cT s
 · rw [d3] at hok
   rw [ey (by rw [hok];rfl)];rfl
 rw [d3] at hok
 cases d4: cE s 35
 case true=>
  rw [d4] at hok
  rw [ey (by rw [hok];rfl)];rfl
 rw [d4] at hok
 have e7: isM (s.take 7)=true:=bU (n:=7) (by rw [List.length_take];exact Nat.min_le_left _ _)
 rw [e7]
 cases d5: decide (aK (s.take 7)=[104,116,116,112,58,47,47])
 · rw [show decide (aK (s.take 7)=wK)=false from d5] at hok
   rw [ey (by rw [hok];rfl)];rfl
 rw [show decide (aK (s.take 7)=wK)=true from d5] at hok
 rw [rU (by rw [hok];rfl)]
 generalize hr: s.drop 7=r
 have hrl: r.length≤200:=by rw [← hr,List.length_drop];omega
 refine (eh rfl).trans ((eh rfl).trans ((bQ rfl).trans ((eh rfl).trans ((bQ rfl).trans ((eh rfl).trans ((bQ rfl).trans ((bQ rfl).trans ((eh rfl).trans ((bQ rfl).trans ?_)))))))))
 unfold Tp XS Kk tj oz Ur.ok urA
 have lF:=ii r 63
 generalize hF: aq r 63=F at lF
 have lA:=ii F 47
 generalize hA: aq F 47=A at lA
 have lH:=ii A 58
 generalize hH: aq A 58=H at lH
 have w1: ad ((H.length: Int) + 1)=((H.length + 1 : Nat): Int):=by rw [w64 (by omega) (by omega)];rfl
 have w2: ad ((F.length: Int) + 1)=((F.length + 1 : Nat): Int):=by rw [w64 (by omega) (by omega)];rfl
 have m1: isM r=true:=bU (n:=200) (by omega)
 have m2: isM F=true:=bU (n:=200) (by omega)
 have m3: isM A=true:=bU (n:=200) (by omega)
 have m4: isM H=true:=bU (n:=200) (by omega)
 have m5: isM (aK H)=true:=bU (n:=200) (by rw [qG];omega)
 have m6: ∀ p,isM (a_ p)=true:=fun p=>bU (n:=1000) (Bx p)
 have m7: isM (F.drop A.length)=true:=bU (n:=200) (by rw [List.length_drop];omega)
 have m8: isM (r.drop (F.length + 1))=true:=bU (n:=200) (by rw [List.length_drop];omega)
 have q0: ∀ n: Nat,decide ((0 : Int)≤(n: Int))=true:=fun n=>dT' (by omega)
 have qA: decide ((A.length: Int)≤(F.length: Int))=true:=dT' (by omega)
 rw [m1,m2,m3,m4,w1,w2,kF (l:=A) rfl,kF (l:=F) rfl,kF (l:=r) rfl,m5,m7,m8,Ph,Ph,Ph,q0,q0,q0,qA]
 simp only [m6]
 cases t1: decide (H.length < A.length)
 · cases t2: decide (A.length < F.length)
   · cases t3: decide (F.length < r.length)
     · simp only [Br.val,cond_true,cond_false,Bool.and_true,Bool.true_and]
       cases bb (aK H) 80 [47] [] false <;> rfl
     · have t3':=of_decide_eq_true t3
       rw [dT' (show ((F.length + 1 : Nat): Int)≤(r.length: Int) by omega)]
       simp only [Br.val,cond_true,cond_false,Bool.and_true,Bool.true_and]
       cases bb (aK H) 80 [47] (r.drop (F.length + 1)) true <;> rfl
   · cases t3: decide (F.length < r.length)
     · simp only [Br.val,cond_true,cond_false,Bool.and_true,Bool.true_and]
       cases bb (aK H) 80 (a_ (F.drop A.length)) [] false <;> rfl
     · have t3':=of_decide_eq_true t3
       rw [dT' (show ((F.length + 1 : Nat): Int)≤(r.length: Int) by omega)]
       simp only [Br.val,cond_true,cond_false,Bool.and_true,Bool.true_and]
       cases bb (aK H) 80 (a_ (F.drop A.length)) (r.drop (F.length + 1)) true <;> rfl
 · have t1':=of_decide_eq_true t1
   rw [dT' (show ((H.length + 1 : Nat): Int)≤(A.length: Int) by omega)]
   cases t4: (iC (A.drop (H.length + 1))).2
   · simp only [Br.val,cond_true,cond_false,Bool.false_and,t4,Bool.not_false];rfl
   · cases t2: decide (A.length < F.length)
     · cases t3: decide (F.length < r.length)
       · simp only [Br.val,cond_true,cond_false,Bool.and_true,Bool.true_and,t4,Bool.not_true]
         cases bb (aK H) (iC (A.drop (H.length + 1))).1 [47] [] false <;> rfl
       · have t3':=of_decide_eq_true t3
         rw [dT' (show ((F.length + 1 : Nat): Int)≤(r.length: Int) by omega)]
         simp only [Br.val,cond_true,cond_false,Bool.and_true,Bool.true_and,t4,Bool.not_true]
         cases bb (aK H) (iC (A.drop (H.length + 1))).1 [47] (r.drop (F.length + 1)) true <;> rfl
     · cases t3: decide (F.length < r.length)
       · simp only [Br.val,cond_true,cond_false,Bool.and_true,Bool.true_and,t4,Bool.not_true]
         cases bb (aK H) (iC (A.drop (H.length + 1))).1 (a_ (F.drop A.length)) [] false <;> rfl
       · have t3':=of_decide_eq_true t3
         rw [dT' (show ((F.length + 1 : Nat): Int)≤(r.length: Int) by omega)]
         simp only [Br.val,cond_true,cond_false,Bool.and_true,Bool.true_and,t4,Bool.not_true]
         cases bb (aK H) (iC (A.drop (H.length + 1))).1 (a_ (F.drop A.length)) (r.drop (F.length + 1)) true <;> rfl
theorem Pi (r: aa): r.take (aq (aq r 63) 47).length=aq (aq r 63) 47:=by
 have h1:=rA r 63
 have h2:=rA (aq r 63) 47
 have h3:=ii (aq r 63) 47
 calc r.take (aq (aq r 63) 47).length=(r.take (aq r 63).length).take (aq (aq r 63) 47).length:=by rw [List.take_take,Nat.min_eq_left h3]
  _=(aq r 63).take (aq (aq r 63) 47).length:=by rw [h1]
  _=aq (aq r 63) 47:=h2
theorem X9 (r: aa): (decide (nc r [47,63] < 0)=true→(aq (aq r 63) 47).length=r.length)∧(decide (nc r [47,63] < 0)=false→nc r [47,63]=((aq (aq r 63) 47).length: Int)):=by
 rw [kx,show by8 47=47 from rfl,show by8 63=63 from rfl]
 cases h: cE r 47||cE r 63
 · rw [cond_false]
   rw [Bool.or_eq_false_iff] at h
   have h1: aq r 63=r:=by have:=pD r 63;rw [h.2] at this;exact of_decide_eq_true this
   have h2: aq r 47=r:=by have:=pD r 47;rw [h.1] at this;exact of_decide_eq_true this
   rw [h1,h2]
   exact ⟨fun _=>rfl,fun e=>by simp at e⟩
 · rw [cond_true]
   exact ⟨fun e=>by have:=of_decide_eq_true e;omega,fun _=>rfl⟩
theorem HV {l: aa} {k: Nat} : decide (l.drop k=[])= !decide (k < l.length):=by
 rw [Bool.eq_iff_iff];simp
theorem aaD {a b: Nat} (h: a≤b): (!decide (a=b))=decide (a < b):=by
 rw [Bool.eq_iff_iff];simp;omega
theorem Bz: Sound Kx 242 acb:=iReadUrl_ok.of fun args objs r h=>by
 unfold acb oP at h
 split at h
 case h_2=>cases h
 rename_i s
 obtain ⟨hM,h2⟩:=ae h
 cases h2
 show (kC s).val=some (.tup [urA (bf s).1, .bool (bf s).2],[])
 unfold kC fC fB cY bS aN aM bn aE aD
 have hok:=oE s
 cases d1: decide ((200 : Int) < (s.length: Int))
 case true=>
  have:=of_decide_eq_true d1
  rw [dF' (show ¬ s.length≤200 by omega)] at hok
  rw [ey (by rw [hok];rfl)];rfl
 have d1':=of_decide_eq_false d1
 rw [dT' (show s.length≤200 by omega)] at hok
 rw [hM]
 cases d3: aH cT s
 · rw [d3] at hok
   rw [ey (by rw [hok];simp)];rfl
 rw [d3] at hok
 cases d4: cE s 35
 case true=>
  rw [d4] at hok
  rw [ey (by rw [hok];simp)];rfl
 rw [d4] at hok
 cases d2: decide ((s.length: Int) < 7)
 case true=>
  have d2':=of_decide_eq_true d2
  rw [dF' (show ¬ 7≤s.length by omega)] at hok
  rw [ey (by rw [hok];rfl)];rfl
 have d2':=of_decide_eq_false d2
 rw [dT' (show 7≤s.length by omega)] at hok
 rw [dT' (show (7 : Int)≤(s.length: Int) by omega),show cut s 0 7=s.take 7 from w4 (k:=7) rfl,show cut s 7 (s.length: Int)=s.drop 7 from kF (k:=7) rfl]
 have e7: isM (s.take 7)=true:=bU (n:=7) (by rw [List.length_take];exact Nat.min_le_left _ _)
 rw [e7]
 cases d5: decide (aK (s.take 7)=[104,116,116,112,58,47,47])
 · rw [show decide (aK (s.take 7)=wK)=false from d5] at hok
   rw [ey (by rw [hok];rfl)];rfl
 rw [show decide (aK (s.take 7)=wK)=true from d5] at hok
 rw [rU (by rw [hok];rfl)]
 have hvis: aH cT (s.drop 7)=true:=by
  have e:=dq cT (s.take 7) (s.drop 7)
  rw [List.take_append_drop,d3] at e
  cases hh: aH cT (s.drop 7)
  · rw [hh,Bool.and_false] at e;cases e
  · rfl
 have hasc:=O4 _ hvis
 generalize hr: s.drop 7=r at hasc
 have hrl: r.length≤200:=by rw [← hr,List.length_drop];omega
 have hend:=X9 r
 have hat:=Pi r
 have mr: decide (r.length≤1000000)=true:=dT' (by omega)
 refine (eh rfl).trans ((bQ rfl).trans ((eh rfl).trans ((eh rfl).trans ((eh rfl).trans ((bQ rfl).trans ((bQ rfl).trans ((eh rfl).trans ((bQ rfl).trans ((bQ (by rw [mr,hasc];rfl)).trans ?_)))))))))
 unfold Tp XS Kk tj oz Ur.ok urA
 have lF:=ii r 63
 have ud:=Bw 63 r (aq (aq r 63) 47).length (ii _ _)
 generalize hF: aq r 63=F at lF hend hat ud
 have lA:=ii F 47
 generalize hA: aq F 47=A at lA hend hat ud
 have lH:=ii A 58
 have ct: cut r 0 (A.length: Int)=A:=(w4 rfl).trans hat
 have cd: cut r (A.length: Int) (r.length: Int)=r.drop A.length:=kF rfl
 have x1:=pu 58 A
 rw [show by8 58=58 from rfl] at x1
 have x2:=pu 63 (r.drop A.length)
 rw [show by8 63=63 from rfl,ud] at x2
 generalize hH: aq A 58=H at lH x1
 have y1: (tM A [58]).1=H:=by rw [x1]
 have y2: (tM A [58]).2.1=A.drop (H.length + 1):=by rw [x1]
 have y3: (tM A [58]).2.2=decide (H.length < A.length):=by rw [x1];exact aaD lH
 have z1: (tM (r.drop A.length) [63]).1=F.drop A.length:=by rw [x2]
 have z2: (tM (r.drop A.length) [63]).2.1=bif decide (F.length < r.length) then r.drop (F.length + 1) else []:=by
  rw [x2]
  simp only [List.length_drop,List.drop_drop]
  cases t: decide (F.length < r.length)
  · have:=of_decide_eq_false t
    rw [cond_false]
    exact List.drop_eq_nil_of_le (by omega)
  · rw [cond_true]
    congr 1;omega
 have z3: (tM (r.drop A.length) [63]).2.2=decide (F.length < r.length):=by
  rw [x2]
  simp only [List.length_drop]
  rw [aaD (by omega),Bool.eq_iff_iff,decide_eq_true_eq,decide_eq_true_eq];omega
 have m4: isM H=true:=bU (n:=200) (by omega)
 have m5: isM (aK H)=true:=bU (n:=200) (by rw [qG];omega)
 have m6: ∀ p,isM (a_ p)=true:=fun p=>bU (n:=1000) (Bx p)
 have m7: isM (F.drop A.length)=true:=bU (n:=200) (by rw [List.length_drop];omega)
 have m8: isM (bif decide (F.length < r.length) then r.drop (F.length + 1) else [])=true:=by
  refine bU (n:=200) ?_
  cases decide (F.length < r.length)
  · exact Nat.zero_le _
  · rw [cond_true,List.length_drop];omega
 have q0: ∀ n: Nat,decide ((0 : Int)≤(n: Int))=true:=fun n=>dT' (by omega)
 have qA: decide ((A.length: Int)≤(r.length: Int))=true:=dT' (by omega)
 have q1: decide (A.length≤1000000)=true:=dT' (by omega)
 have q2: decide ((r.drop A.length).length≤1000000)=true:=dT' (by rw [List.length_drop];omega)
 have q3: decide ((A.drop (H.length + 1)).length≤1000000)=true:=dT' (by rw [List.length_drop];omega)
 cases t0: decide (nc r [47,63] < 0)
 · rw [hend.2 t0]
   simp only [Br.val,cond_true,cond_false,q0,qA,ct,cd,q1,q2,y1,y2,y3,z1,z2,z3,m4,m5,m6,m7,m8,q3,Bool.and_self,Bool.and_true,HV]
   cases t1: decide (H.length < A.length)
   · cases t2: decide (A.length < F.length)
     · simp only [Br.val,cond_true,cond_false,Bool.not_false,Bool.true_and]
       cases bb (aK H) 80 [47] (bif decide (F.length < r.length) then r.drop (F.length + 1) else []) (decide (F.length < r.length)) <;> rfl
     · simp only [Br.val,cond_true,cond_false,Bool.not_true,Bool.true_and]
       cases bb (aK H) 80 (a_ (F.drop A.length)) (bif decide (F.length < r.length) then r.drop (F.length + 1) else []) (decide (F.length < r.length)) <;> rfl
   · cases t4: (iC (A.drop (H.length + 1))).2
     · simp only [Br.val,cond_true,cond_false,Bool.not_false,Bool.false_and,t4];rfl
     · cases t2: decide (A.length < F.length)
       · simp only [Br.val,cond_true,cond_false,Bool.not_false,Bool.not_true,Bool.true_and,t4]
         cases bb (aK H) (iC (A.drop (H.length + 1))).1 [47] (bif decide (F.length < r.length) then r.drop (F.length + 1) else []) (decide (F.length < r.length)) <;> rfl
       · simp only [Br.val,cond_true,cond_false,Bool.not_true,Bool.true_and,t4]
         cases bb (aK H) (iC (A.drop (H.length + 1))).1 (a_ (F.drop A.length)) (bif decide (F.length < r.length) then r.drop (F.length + 1) else []) (decide (F.length < r.length)) <;> rfl
 · have hl:=hend.1 t0
   have ct2: cut r 0 (r.length: Int)=A:=by rw [hl] at ct;exact ct
   have cd2: cut r (r.length: Int) (r.length: Int)=r.drop A.length:=by
    rw [kF (l:=r) (k:=r.length) rfl,hl]
   have qB: decide ((r.length: Int)≤(r.length: Int))=true:=dT' (Int.le_refl _)
   simp only [Br.val,cond_true,cond_false,q0,qB,ct2,cd2,q1,q2,y1,y2,y3,z1,z2,z3,m4,m5,m6,m7,m8,q3,Bool.and_self,Bool.and_true,HV]
   cases t1: decide (H.length < A.length)
   · cases t2: decide (A.length < F.length)
     · simp only [Br.val,cond_true,cond_false,Bool.not_false,Bool.true_and]
       cases bb (aK H) 80 [47] (bif decide (F.length < r.length) then r.drop (F.length + 1) else []) (decide (F.length < r.length)) <;> rfl
     · simp only [Br.val,cond_true,cond_false,Bool.not_true,Bool.true_and]
       cases bb (aK H) 80 (a_ (F.drop A.length)) (bif decide (F.length < r.length) then r.drop (F.length + 1) else []) (decide (F.length < r.length)) <;> rfl
   · cases t4: (iC (A.drop (H.length + 1))).2
     · simp only [Br.val,cond_true,cond_false,Bool.not_false,Bool.false_and,t4];rfl
     · cases t2: decide (A.length < F.length)
       · simp only [Br.val,cond_true,cond_false,Bool.not_false,Bool.not_true,Bool.true_and,t4]
         cases bb (aK H) (iC (A.drop (H.length + 1))).1 [47] (bif decide (F.length < r.length) then r.drop (F.length + 1) else []) (decide (F.length < r.length)) <;> rfl
       · simp only [Br.val,cond_true,cond_false,Bool.not_true,Bool.true_and,t4]
         cases bb (aK H) (iC (A.drop (H.length + 1))).1 (a_ (F.drop A.length)) (bif decide (F.length < r.length) then r.drop (F.length + 1) else []) (decide (F.length < r.length)) <;> rfl
theorem BA: Sound Kx 228 (aaC (fun h po pa q _=>isM h&&isM pa&&isM q) (fun h po pa q hq=> .str (bif bb h po pa q hq then sS h po pa q hq else []))):=Pd D6 fun h po pa q hq hs=>by
 show (kE h po pa q hq).val=some (.str (bif bb h po pa q hq then sS h po pa q hq else []),[])
 unfold kE
 refine (bQ hs).trans ?_
 cases ho: bb h po pa q hq
 · rfl
 · simp only [Bool.and_eq_true] at hs
   have ho':=ho
   unfold bb at ho'
   simp only [Bool.and_eq_true,Bool.not_eq_true',decide_eq_false_iff_not] at ho'
   obtain ⟨⟨⟨⟨⟨⟨⟨h1,h2,h3⟩,h4⟩,h5⟩,_⟩,_⟩,_⟩,_⟩:=ho'
   exact (eh rfl).trans ((bQ (HU h1 h2 h3 (dF' h4) h5 hs.2)).trans rfl)
def TO: SC:=[⟨242,_,Bz⟩,⟨243,_,Bt⟩]
def rV (s: aa): Br:=(.ite (isM s) (.ite (!(bf s).2) (.ret (AV.tup [.str ([]: aa),.bool false]) []) (.ite (smU (bf s).1.1 (bf s).1.2 (bf s).1.3 (bf s).1.4) (.ret (AV.tup [.str (sS (bf s).1.1 (bf s).1.2 (bf s).1.3 (bf s).1.4 (bf s).1.5),.bool true]) []) .fail)) .fail)
def HW: List AV→List Ob→Br
 | [.str s],[]=>rV s
 | _,_=> .fail
theorem iCanon_ok: Sound Kx 200 HW:=ac (C:=TO) (O:=O0) Tryz.func200 (by kernel_rfl) fun args objs=>by
 unfold HW;split
 · exact .inr (by kernel_rfl)
 · exact .inl rfl
def TP: SC:=[⟨227,_,By⟩,⟨228,_,BA⟩]
def rW (s: aa): Br:=(.ite (isM s) (.ite (!(bf s).2) (.ret (AV.tup [.str ([]: aa),.bool false]) []) (.ite (((isM (bf s).1.1)&&(isM (bf s).1.3))&&(isM (bf s).1.4)) (.ret (AV.tup [.str (bif (bb (bf s).1.1 (bf s).1.2 (bf s).1.3 (bf s).1.4 (bf s).1.5) then (sS (bf s).1.1 (bf s).1.2 (bf s).1.3 (bf s).1.4 (bf s).1.5) else ([]: aa)),.bool true]) []) .fail)) .fail)
def HX: List AV→List Ob→Br
 | [.str s],[]=>rW s
 | _,_=> .fail
theorem sCanon_ok: Sound Kx 167 HX:=ac (C:=TP) (O:=O0) Tryz.func167 (by kernel_rfl) fun args objs=>by
 unfold HX;split
 · exact .inr (by kernel_rfl)
 · exact .inl rfl
theorem HY {s: aa} (h: (bf s).2=true): (bf s).1.ok=true:=by
 unfold bf at h ⊢
 cases c: uL s&&(Kk (tj (s.drop 7))).2&&(Tp (s.drop 7)).ok
 · rw [c] at h;cases h
 · rw [cond_true]
   simp only [Bool.and_eq_true] at c
   exact c.2
theorem HZ {h: aa} {po: Int} {pa q: aa} {hq: Bool} (ho: bb h po pa q hq=true): jL h=true∧decide (1≤po)=true∧decide (po≤65535)=true∧decide (pa=[])=false∧decide (a_ pa=pa)=true∧(sS h po pa q hq).length≤200:=by
 unfold bb at ho
 simp only [Bool.and_eq_true,Bool.not_eq_true',decide_eq_false_iff_not] at ho
 obtain ⟨⟨⟨⟨⟨⟨⟨h1,h2,h3⟩,h4⟩,h5⟩,_⟩,_⟩,_⟩,h8⟩:=ho
 exact ⟨h1,h2,h3,dF' h4,h5,of_decide_eq_true h8⟩
theorem acR {h: aa} {po: Int} {pa q: aa} {hq: Bool} (ho: bb h po pa q hq=true): q.length≤200:=by
 have hl:=(HZ ho).2.2.2.2.2
 unfold bb at ho
 simp only [Bool.and_eq_true,Bool.or_eq_true,decide_eq_true_eq] at ho
 rcases ho.1.2 with h' | h'
 · subst h'
   have:=VV h po pa q;omega
 · rw [h'];exact Nat.zero_le _
theorem H0 {u: Ur} (ho: u.ok=true): smU u.h u.po u.pa u.q=true∧(isM u.h&&isM u.pa&&isM u.q)=true:=by
 unfold Ur.ok at ho
 obtain ⟨h1,h2,h3,h4,h5,_⟩:=HZ ho
 have hq: isM u.q=true:=bU (n:=200) (acR ho)
 have a:=HT h1
 have b:=Bv (of_decide_eq_true h5) (of_decide_eq_false h4)
 exact ⟨HU h1 h2 h3 h4 h5 hq,by rw [hq,bU (n:=60) a,bU (n:=200) b];rfl⟩
def acd: List AV→List Ob→Br:=oP fun s=> .tup [.str (eQ s).1, .bool (eQ s).2]
theorem KJ: Sound Kx 200 acd:=iCanon_ok.of fun args objs r h=>by
 unfold acd oP at h
 split at h
 case h_2=>cases h
 rename_i s
 obtain ⟨hM,h2⟩:=ae h
 cases h2
 show (rV s).val=some (.tup [.str (eQ s).1, .bool (eQ s).2],[])
 unfold rV eQ
 refine (bQ hM).trans ?_
 cases c: (bf s).2
 · rfl
 · exact (eh rfl).trans ((bQ (H0 (HY c)).1).trans rfl)
theorem KK: Sound Kx 167 acd:=sCanon_ok.of fun args objs r h=>by
 unfold acd oP at h
 split at h
 case h_2=>cases h
 rename_i s
 obtain ⟨hM,h2⟩:=ae h
 cases h2
 show (rW s).val=some (.tup [.str (eQ s).1, .bool (eQ s).2],[])
 unfold rW eQ
 refine (bQ hM).trans ?_
 cases c: (bf s).2
 · rfl
 · have ho:=HY c
   have ho': bb (bf s).1.h (bf s).1.po (bf s).1.pa (bf s).1.q (bf s).1.hq=true:=ho
   refine (eh rfl).trans ((bQ (H0 ho).2).trans ?_)
   rw [ho'];rfl
def TQ: SC:=[⟨200,_,KJ⟩]
def rX (s: aa): Br:=(.ite (isM s) (.ite (eQ s).2 (.ret (AV.bool (decide ((eQ s).1=s))) []) (.ret (AV.bool false) [])) .fail)
def H1: List AV→List Ob→Br
 | [.str s],[]=>rX s
 | _,_=> .fail
theorem iIsCan_ok: Sound Kx 129 H1:=ac (C:=TQ) (O:=O0) Tryz.func129 (by kernel_rfl) fun args objs=>by
 unfold H1;split
 · exact .inr (by kernel_rfl)
 · exact .inl rfl
def TR: SC:=[⟨167,_,KK⟩]
def rY (s: aa): Br:=(.ite (isM s) (.ite (eQ s).2 (.ret (AV.bool (decide ((eQ s).1=s))) []) (.ret (AV.bool false) [])) .fail)
def H3: List AV→List Ob→Br
 | [.str s],[]=>rY s
 | _,_=> .fail
theorem sIsCan_ok: Sound Kx 94 H3:=ac (C:=TR) (O:=O0) Tryz.func94 (by kernel_rfl) fun args objs=>by
 unfold H3;split
 · exact .inr (by kernel_rfl)
 · exact .inl rfl
def X_: SC:=[⟨201,_,dc⟩]
def TS (n: Int): Br:=(.ite (decide (0≤n)) (.ret (AV.bool (decide (n≤253402300799))) []) (.ret (AV.bool false) []))
def Pj: List AV→List Ob→Br
 | [.int .i64 n],[]=>TS n
 | _,_=> .fail
theorem TT: Sound Kx 130 Pj:=ac (C:=X_) (O:=O0) Tryz.func130 (by kernel_rfl) fun args objs=>by
 unfold Pj;split
 · exact .inr (by kernel_rfl)
 · exact .inl rfl
def TU (n: Int): Br:=(.ite (decide (0≤n)) (.ret (AV.bool (decide (n≤253402300799))) []) (.ret (AV.bool false) []))
def Pk: List AV→List Ob→Br
 | [.int .i64 n],[]=>TU n
 | _,_=> .fail
theorem TV: Sound Kx 95 Pk:=ac (C:=[]) (O:=O0) Tryz.func95 (by kernel_rfl) fun args objs=>by
 unfold Pk;split
 · exact .inr (by kernel_rfl)
 · exact .inl rfl
theorem KL: Sound Kx 129 (oP fun s=> .bool (iU s)):=iIsCan_ok.of fun args objs r h=>by
 unfold oP at h
 split at h
 case h_2=>cases h
 rename_i s
 obtain ⟨hM,h2⟩:=ae h
 cases h2
 show (rX s).val=some (.bool (iU s),[])
 unfold rX iU
 refine (bQ hM).trans ?_
 cases (eQ s).2 <;> rfl
theorem KM: Sound Kx 94 (oP fun s=> .bool (iU s)):=sIsCan_ok.of fun args objs r h=>by
 unfold oP at h
 split at h
 case h_2=>cases h
 rename_i s
 obtain ⟨hM,h2⟩:=ae h
 cases h2
 show (rY s).val=some (.bool (iU s),[])
 unfold rY iU
 refine (bQ hM).trans ?_
 cases (eQ s).2 <;> rfl
theorem iW: Sound Kx 130 (Xp dZ):=M4 TT fun b=>v8 _ _
theorem rZ: Sound Kx 95 (Xp dZ):=M4 TV fun b=>v8 _ _
abbrev En:=aa×Int×Int×List Fd×Mg
@[match_pattern] abbrev EnT: Ty:=(.pair .str (.pair (.int .i64) (.pair (.int .i64) (.pair (.slice (.pair .str .str)) (.pair .str (.pair .str (.pair (.int .i64) (.pair .str (.pair .bool (.pair (.slice (.pair .str .str)) .str))))))))))
abbrev en0: En:=(([]: List UInt8),((0 : Int),((0 : Int),(([]: List (List UInt8×List UInt8)),(([]: List UInt8),(([]: List UInt8),((0 : Int),(([]: List UInt8),(false,(([]: List (List UInt8×List UInt8)),([]: List UInt8)))))))))))
def acT (g: En→Bool) (p: En→AV): List AV→List Ob→Br
 | [.agg [.str ur, .int .i64 t1, .int .i64 t2, .sh (.pair .str .str) ak, .str me, .str ta, .int .i64 st, .str re, .bool ba, .sh (.pair .str .str) fs, .str bo]],[]=>
   .ite (g (ur,t1,t2,ak,me,ta,st,re,ba,fs,bo)) (.ret (p (ur,t1,t2,ak,me,ta,st,re,ba,fs,bo)) []) .fail
 | _,_=> .fail
theorem aaE {n: Nat} {s: List AV→List Ob→Br} (hs: Sound Kx n s) {g: En→Bool} {p: En→AV}
 (h: ∀ ur t1 t2 ak me ta st re ba fs bo,g (ur,t1,t2,ak,me,ta,st,re,ba,fs,bo)=true→(s [.agg [.str ur, .int .i64 t1, .int .i64 t2, .sh (.pair .str .str) ak, .str me, .str ta, .int .i64 st, .str re, .bool ba, .sh (.pair .str .str) fs, .str bo]] []).val=some (p (ur,t1,t2,ak,me,ta,st,re,ba,fs,bo),[])): Sound Kx n (acT g p):=hs.of fun args objs r hv=>by
 unfold acT at hv
 split at hv
 case h_2=>cases hv
 obtain ⟨h1,h2⟩:=ae hv
 cases h2
 exact h _ _ _ _ _ _ _ _ _ _ _ h1
def oR (e: En): Bool:=
 iU e.1&&dZ e.2.1&&dZ e.2.2.1&&decide (e.2.1≤e.2.2.1)&&co e.2.2.2.1&&gr e.2.2.2.2.1 e.2.2.2.2.2.1 e.2.2.2.2.2.2.1 e.2.2.2.2.2.2.2.1 e.2.2.2.2.2.2.2.2.1 e.2.2.2.2.2.2.2.2.2.1 e.2.2.2.2.2.2.2.2.2.2&&decide (e.2.2.2.2.1=[])&& !e.2.2.2.2.2.2.2.2.1
def KN: Opt:={ split:=true }
def KO: SC:=[⟨129,_,KL⟩,⟨130,_,iW⟩,⟨84,_,dM⟩,⟨101,_,J3⟩]
def kG (ur: aa) (t1 t2: Int) (ak: List Fd) (me ta: aa) (st: Int) (re: aa) (ba: Bool) (fs: List Fd) (bo: aa): Br:=(.ite (isM ur) (.ite (iU ur) (.ite (dZ t1) (.ite (dZ t2) (.ite (decide (t1≤t2)) (.ite (co ak) (.ite (gr me ta st re ba fs bo) (.ite (decide (me=([]: aa))) (.ret (AV.bool (!ba)) []) (.ret (AV.bool false) [])) (.ret (AV.bool false) [])) (.ret (AV.bool false) [])) (.ret (AV.bool false) [])) (.ret (AV.bool false) [])) (.ret (AV.bool false) [])) (.ret (AV.bool false) [])) .fail)
def vg: List AV→List Ob→Br
 | [.agg [.str ur, .int .i64 t1, .int .i64 t2, .sh (.pair .str .str) ak, .str me, .str ta, .int .i64 st, .str re, .bool ba, .sh (.pair .str .str) fs, .str bo]],[]=>kG ur t1 t2 ak me ta st re ba fs bo
 | _,_=> .fail
theorem D7: Sound Kx 49 vg:=ac (C:=KO) (O:=KN) Tryz.func49 (by kernel_rfl) fun args objs=>by
 unfold vg;split
 · exact .inr (by kernel_rfl)
 · exact .inl rfl
def KP: Opt:={ split:=true }
def KQ: SC:=[⟨94,_,KM⟩,⟨95,_,rZ⟩,⟨96,_,hZ⟩,⟨41,_,J4⟩]
def kH (ur: aa) (t1 t2: Int) (ak: List Fd) (me ta: aa) (st: Int) (re: aa) (ba: Bool) (fs: List Fd) (bo: aa): Br:=(.ite (isM ur) (.ite (iU ur) (.ite (dZ t1) (.ite (dZ t2) (.ite (decide (t1≤t2)) (.ite (co ak) (.ite (gr me ta st re ba fs bo) (.ite (decide (me=([]: aa))) (.ret (AV.bool (!ba)) []) (.ret (AV.bool false) [])) (.ret (AV.bool false) [])) (.ret (AV.bool false) [])) (.ret (AV.bool false) [])) (.ret (AV.bool false) [])) (.ret (AV.bool false) [])) (.ret (AV.bool false) [])) .fail)
def vh: List AV→List Ob→Br
 | [.agg [.str ur, .int .i64 t1, .int .i64 t2, .sh (.pair .str .str) ak, .str me, .str ta, .int .i64 st, .str re, .bool ba, .sh (.pair .str .str) fs, .str bo]],[]=>kH ur t1 t2 ak me ta st re ba fs bo
 | _,_=> .fail
theorem D8: Sound Kx 36 vh:=ac (C:=KQ) (O:=KP) Tryz.func36 (by kernel_rfl) fun args objs=>by
 unfold vh;split
 · exact .inr (by kernel_rfl)
 · exact .inl rfl
def ady: List AV→List Ob→Br:=acT (fun e=>isM e.1) (fun e=> .bool (oR e))
theorem iX: Sound Kx 49 ady:=aaE D7 fun ur t1 t2 ak me ta st re ba fs bo h=>by
 show (kG ur t1 t2 ak me ta st re ba fs bo).val=some (.bool (oR (ur,t1,t2,ak,me,ta,st,re,ba,fs,bo)),[])
 unfold kG oR
 refine (bQ h).trans ?_
 simp only
 cases iU ur <;> cases dZ t1 <;> cases dZ t2 <;> cases decide (t1≤t2) <;> cases co ak <;> cases gr me ta st re ba fs bo <;> cases decide (me=[]) <;> rfl
theorem oF: Sound Kx 36 ady:=aaE D8 fun ur t1 t2 ak me ta st re ba fs bo h=>by
 show (kH ur t1 t2 ak me ta st re ba fs bo).val=some (.bool (oR (ur,t1,t2,ak,me,ta,st,re,ba,fs,bo)),[])
 unfold kH oR
 refine (bQ h).trans ?_
 simp only
 cases iU ur <;> cases dZ t1 <;> cases dZ t2 <;> cases decide (t1≤t2) <;> cases co ak <;> cases gr me ta st re ba fs bo <;> cases decide (me=[]) <;> rfl
def VW: Opt:={ live:=[(4,[0,1,12,13])],outs:=[(4,[4])] }
def w5 (bp bm: (List aa)) (bW d7: Int) (kR4: (List aa)→(List aa)→Int→Int→OR') (d_ ir: OR'): OR':=
 (bif (decide (d7 < bW)) then (bif (decide (0≤d7)) then (bif (decide (d7 < (bp.length: Int))) then (bif (decide (0≤d7)) then (bif (decide (d7 < (bm.length: Int))) then (bif (!(decide ((List.getD bp (Int.toNat d7) ([]: aa))=(List.getD bm (Int.toNat d7) ([]: aa))))) then d_ else (kR4 bp bm bW (ad (d7 + 1)))) else none) else none) else none) else none) else ir)
def ng: Nat→(List aa)→(List aa)→Int→Int→(OR')→(OR')→OR'
 | 0,_,_,_,_,_,_=>none
 | n + 1,bp,bm,bW,d7,d_,ir=>w5 bp bm bW d7 (fun bp bm bW d7=>ng n bp bm bW d7 d_ ir) d_ ir
abbrev eqSl_p4: SP:=⟨26,[0,1,12,13],[(.v (.sh Ty.str)),(.v (.sh Ty.str)),(.v (.i .i64)),(.v (.i .i64))],[]⟩
noncomputable def Pl: Code:=ar (aC Tryz.f93) [1,1,0,1,0,0]
def Pm (f: (OR')→(OR')→OR') (k: KT): OR':=f (k Ex.ret ((St.mk (aA 0 26 [(4,(AV.bool false))]) ([]: (List (Nat×(Ob))))))) (k (Ex.exit 0) ((St.mk (aA 0 26 []) ([]: (List (Nat×(Ob)))))))
def Pn (n: Nat) (d: eqSl_p4.D): KT→OR':=Pm (ng n d.1.1 d.1.2.1 d.1.2.2.1 d.1.2.2.2.1)
def VX (N: Nat): Lam:=bI [⟨4,eqSl_p4,Pn N⟩]
theorem TW (N: Nat): OkL Kx noS VW 0 N (VX N) Pl:=okL eqSl_p4 (Pn) (fun d kR=>Pm (w5 d.1.1 d.1.2.1 d.1.2.2.1 d.1.2.2.2.1 (fun bp bm bW d7=>kR ((bp,bm,bW,d7,()),())))) (fun _ _=>by kernel_rfl) (fun _ _ _=>by kernel_rfl) (fun _ _=>by kernel_rfl) (fun _ _ _ _=>by kernel_rfl) (af (l':=[]) (by kernel_rfl) trivial)
def H4 (N: Nat) (a b: List aa): OR':=(bif (!(decide ((a.length: Int)=(b.length: Int)))) then (some ((AV.bool false),[])) else (ng N a b (a.length: Int) 0 (some ((AV.bool false),[])) (some ((AV.bool true),[]))))
def H5 (φ: (List aa)→(List aa)→Br): List AV→List Ob→Br
 | [.sh .str a, .sh .str b],[]=>φ a b
 | _,_=> .fail
theorem Po {φ: (List aa)→(List aa)→Br} (fu: (List aa)→(List aa)→Nat) (hv: ∀ a b res_,(φ a b).val=some res_→H4 (fu a b) a b=some res_): Sound Kx 93 (H5 φ):=ah (C:=[]) (O:=VW) Tryz.func93 (by kernel_rfl) fun args objs=>by
 unfold H5;split
 · rename_i a b;exact .inr fun _ hyp_=>aL (Λ:=VX (fu a b)) (by kernel_rfl) (af (l':=[Pl]) (by kernel_rfl) ⟨TW _,trivial⟩) (by kernel_rfl) (hv a b _ hyp_)
 · exact .inl rfl
def adz: List AV→List Ob→Br
 | [.sh .str a, .sh .str b],[]=> .ite (decide (a.length≤1000000)) (.ret (.bool (decide (a=b))) []) .fail
 | _,_=> .fail
theorem Pp (a b: List aa) (hl: a.length≤4611686018427387904) (k0 k1: OR'): ∀ (r r': List aa) (i: Int) (n: Nat),At a i r→At b i r'→r.length=r'.length→r.length < n→
 ng n a b (a.length: Int) i k0 k1=bif decide (r=r') then k1 else k0:=by
 intro r;induction r with
 | nil=>
   intro r' i n h h' he hn;obtain ⟨n,rfl⟩:=bH hn
   obtain rfl: r'=[]:=List.length_eq_zero_iff.1 he.symm
   unfold ng w5;simp only [h.dge,cond_false,decide_true,cond_true]
 | cons x r ih=>
   intro r' i n h h' he hn;obtain ⟨n,rfl⟩:=bH hn
   cases r' with
   | nil=>cases he
   | cons y r'=>
     have hs:=ih r' (i + 1) n h.step h'.step (by simpa using he) (by simp at hn;omega)
     unfold ng w5;simp only [h.dlt,h'.dlt,h.dnn,h.get,h'.get,cond_true,h.next hl,hs]
     by_cases c1: x=y <;> by_cases c2: r=r' <;> simp [c1,c2]
theorem TX: Sound Kx 93 adz:=by
 refine (Po (φ:=fun a b=> .ite (decide (a.length≤1000000)) (.ret (.bool (decide (a=b))) []) .fail) (fun a _=>a.length + 1) fun a b r h=>?_).of fun args objs r h=>?_
 · obtain ⟨h1,h2⟩:=ae h
   cases h2
   rw [decide_eq_true_eq] at h1
   unfold H4
   by_cases c: a.length=b.length
   · rw [dT' (show (a.length: Int)=(b.length: Int) by omega)]
     refine (Pp a b (by omega) _ _ a b 0 _ (At.start a) (At.start b) c (by omega)).trans ?_
     cases decide (a=b) <;> rfl
   · rw [dF' (show ¬ (a.length: Int)=(b.length: Int) by omega),dF' (show ¬ a=b from fun e=>c (by rw [e]))]
     rfl
 · unfold adz at h;split at h
   · exact h
   · cases h
theorem Pq (s: aa): ∀ (l: List aa) (x: aa),x ∈ yc l s→x=s∨x ∈ l
 | [],x,h=>by simp [yc] at h;exact .inl h
 | a::l,x,h=>by
   unfold yc at h
   cases c: bytesLess s a
   · rw [c,cond_false] at h
     rcases List.mem_cons.1 h with rfl | h
     · exact .inr (List.mem_cons_self ..)
     · rcases Pq s l x h with h | h
       · exact .inl h
       · exact .inr (List.mem_cons_of_mem _ h)
   · rw [c,cond_true] at h
     rcases List.mem_cons.1 h with h | h
     · exact .inl h
     · exact .inr h
theorem Ya (l: List aa) (s x: aa) (h: x ∈ uD l s): x=s∨x ∈ l:=by
 unfold uD at h
 cases c: inP l s
 · rw [c,cond_false] at h;exact Pq s l x h
 · rw [c,cond_true] at h;exact .inr h
theorem H6: ∀ (ws out: List aa),(∀ x ∈ out,x.length≤4000)→(∀ x ∈ ws,x.length≤4000)→∀ x ∈ ws.foldl (fun o w=>uD o (aK w)) out,x.length≤4000
 | [],out,h,_=>h
 | w::ws,out,h,hw=>by
   rw [List.foldl_cons]
   refine H6 ws _ (fun x hx=>?_) fun x hx=>hw x (List.mem_cons_of_mem _ hx)
   rcases Ya _ _ _ hx with rfl | hx
   · rw [qG];exact hw w (List.mem_cons_self ..)
   · exact h x hx
theorem TY (l: List Fd): ∀ x ∈ gw l,x.length≤4000:=H6 _ [] (fun x h=>by cases h) fun x hx=>(DF _).2 x hx
def BB: Opt:={ live:=[(4,[1,2,18,19,20])],outs:=[(4,[4])] }
def iChosen_C: SC:=[⟨49,_,iX⟩,⟨84,_,dM⟩,⟨92,_,Oj⟩,⟨87,_,mZ⟩,⟨93,_,TX⟩]
def jw (bp: (List Fd)) (bm bW: Int) (d7: aa) (kW Cf: Int) (xY: (List Fd)) (yf Cg: aa) (yg: Int) (EL: aa) (EM: Bool) (EN: (List Fd)) (EO: aa) (mj: (List aa)) (kR4: (List Fd)→Int→Int→aa→Int→Int→(List Fd)→aa→aa→Int→aa→Bool→(List Fd)→aa→(List aa)→OR') (d_ ir: OR'): OR':=
 (bif (decide (bW < bm)) then (bif (decide (0≤bW)) then (bif (decide (bW < (mj.length: Int))) then (bif (decide ((List.getD mj (Int.toNat bW) ([]: aa))=([42]: aa))) then d_ else (bif (isM (List.getD mj (Int.toNat bW) ([]: aa))) then (bif (isM (List.getD mj (Int.toNat bW) ([]: aa))) then (bif (decide ((List.length (b_ xY (List.getD mj (Int.toNat bW) ([]: aa))))≤1000000)) then (bif (!(decide ((b_ xY (List.getD mj (Int.toNat bW) ([]: aa)))=(b_ bp (List.getD mj (Int.toNat bW) ([]: aa)))))) then d_ else (kR4 bp bm (ad (bW + 1)) d7 kW Cf xY yf Cg yg EL EM EN EO mj)) else none) else none) else none)) else none) else none) else ir)
def fi: Nat→(List Fd)→Int→Int→aa→Int→Int→(List Fd)→aa→aa→Int→aa→Bool→(List Fd)→aa→(List aa)→(OR')→(OR')→OR'
 | 0,_,_,_,_,_,_,_,_,_,_,_,_,_,_,_,_,_=>none
 | n + 1,bp,bm,bW,d7,kW,Cf,xY,yf,Cg,yg,EL,EM,EN,EO,mj,d_,ir=>jw bp bm bW d7 kW Cf xY yf Cg yg EL EM EN EO mj (fun bp bm bW d7 kW Cf xY yf Cg yg EL EM EN EO mj=>fi n bp bm bW d7 kW Cf xY yf Cg yg EL EM EN EO mj d_ ir) d_ ir
abbrev iChosen_p4: SP:=⟨38,[1,2,18,19,20],[(.v (.sh (Ty.pair Ty.str Ty.str))),(.v (.ptr 192 0)),(.v (.ref 1216 0)),(.v (.i .i64)),(.v (.i .i64))],[(192, .var [.s,(.i .i64),(.i .i64),(.sh (Ty.pair Ty.str Ty.str)), .s, .s,(.i .i64), .s, .b,(.sh (Ty.pair Ty.str Ty.str)), .s]),(1216, .arr Ty.str 0 false)]⟩
noncomputable def vi: Code:=ar (aC Tryz.f35) [1,1,0,1,0,0]
def vj (f: (OR')→(OR')→OR') (k: KT): OR':=f (k Ex.ret ((St.mk (aA 0 38 [(4,(AV.bool false))]) ([]: (List (Nat×(Ob))))))) (k (Ex.exit 0) ((St.mk (aA 0 38 []) ([]: (List (Nat×(Ob)))))))
def vk (n: Nat) (d: iChosen_p4.D): KT→OR':=vj (fi n d.1.1 d.1.2.2.2.1 d.1.2.2.2.2.1 d.2.1.1 d.2.1.2.1 d.2.1.2.2.1 d.2.1.2.2.2.1 d.2.1.2.2.2.2.1 d.2.1.2.2.2.2.2.1 d.2.1.2.2.2.2.2.2.1 d.2.1.2.2.2.2.2.2.2.1 d.2.1.2.2.2.2.2.2.2.2.1 d.2.1.2.2.2.2.2.2.2.2.2.1 d.2.1.2.2.2.2.2.2.2.2.2.2.1 d.2.2.1)
def BC (N: Nat): Lam:=bI [⟨4,iChosen_p4,vk N⟩]
theorem D9 (N: Nat): OkL Kx iChosen_C.s BB 0 N (BC N) vi:=okL iChosen_p4 (vk) (fun d kR=>vj (jw d.1.1 d.1.2.2.2.1 d.1.2.2.2.2.1 d.2.1.1 d.2.1.2.1 d.2.1.2.2.1 d.2.1.2.2.2.1 d.2.1.2.2.2.2.1 d.2.1.2.2.2.2.2.1 d.2.1.2.2.2.2.2.2.1 d.2.1.2.2.2.2.2.2.2.1 d.2.1.2.2.2.2.2.2.2.2.1 d.2.1.2.2.2.2.2.2.2.2.2.1 d.2.1.2.2.2.2.2.2.2.2.2.2.1 d.2.2.1 (fun bp bm bW d7 kW Cf xY yf Cg yg EL EM EN EO mj=>kR ((bp,(),(),bm,bW,()),((d7,kW,Cf,xY,yf,Cg,yg,EL,EM,EN,EO,()),mj,()))))) (fun _ _=>by kernel_rfl) (fun _ _ _=>by kernel_rfl) (fun _ _=>by kernel_rfl) (fun _ _ _ _=>by kernel_rfl) (af (l':=[]) (by kernel_rfl) trivial)
def r8 (N: Nat) (ur: aa) (t1 t2: Int) (ak: List Fd) (me ta: aa) (st: Int) (re: aa) (ba: Bool) (fs: List Fd) (bo: aa) (l: List Fd): OR':=(bif (isM ur) then (bif (!(oR (ur,(t1,(t2,(ak,(me,(ta,(st,(re,(ba,(fs,bo)))))))))))) then (some ((AV.bool false),[])) else (bif (!(co l)) then (some ((AV.bool false),[])) else (fi N l ((List.length (gw fs)): Int) 0 ur t1 t2 ak me ta st re ba fs bo (gw fs) (some ((AV.bool false),[])) (some ((AV.bool true),[]))))) else none)
def r9 (φ: aa→Int→Int→(List Fd)→aa→aa→Int→aa→Bool→(List Fd)→aa→(List Fd)→Br): List AV→List Ob→Br
 | [.agg [.str ur, .int .i64 t1, .int .i64 t2, .sh (.pair .str .str) ak, .str me, .str ta, .int .i64 st, .str re, .bool ba, .sh (.pair .str .str) fs, .str bo], .sh (.pair .str .str) l],[]=>φ ur t1 t2 ak me ta st re ba fs bo l
 | _,_=> .fail
theorem BD {φ: aa→Int→Int→(List Fd)→aa→aa→Int→aa→Bool→(List Fd)→aa→(List Fd)→Br} (fu: aa→Int→Int→(List Fd)→aa→aa→Int→aa→Bool→(List Fd)→aa→(List Fd)→Nat) (hv: ∀ ur t1 t2 ak me ta st re ba fs bo l res_,(φ ur t1 t2 ak me ta st re ba fs bo l).val=some res_→r8 (fu ur t1 t2 ak me ta st re ba fs bo l) ur t1 t2 ak me ta st re ba fs bo l=some res_): Sound Kx 35 (r9 φ):=ah (C:=iChosen_C) (O:=BB) Tryz.func35 (by kernel_rfl) fun args objs=>by
 unfold r9;split
 · rename_i ur t1 t2 ak me ta st re ba fs bo l;exact .inr fun _ hyp_=>aL (Λ:=BC (fu ur t1 t2 ak me ta st re ba fs bo l)) (by kernel_rfl) (af (l':=[vi]) (by kernel_rfl) ⟨D9 _,trivial⟩) (by kernel_rfl) (hv ur t1 t2 ak me ta st re ba fs bo l _ hyp_)
 · exact .inl rfl
def KR (ak l: List Fd) (n: aa): Bool:=bif decide (n=[42]) then false else decide (b_ ak n=b_ l n)
def f8 (e: En) (l: List Fd): Bool:=oR e&&co l&&(gw e.2.2.2.2.2.2.2.2.2.1).all (KR e.2.2.2.1 l)
theorem Pr (ak: List Fd) (n: aa): decide ((b_ ak n).length≤1000000)=true:=dT' (by have:=(lK ak n).1;omega)
theorem BE (ws: List aa) (hl: ws.length≤100000) (ur: aa) (t1 t2: Int) (ak: List Fd) (me ta: aa) (st: Int) (re: aa) (ba: Bool) (fs: List Fd) (bo: aa) (l: List Fd) (k0 k1: OR'):
 ∀ (r: List aa) (i: Int) (n: Nat),At ws i r→r.length < n→(∀ x ∈ r,x.length≤4000)→
 fi n l (ws.length: Int) i ur t1 t2 ak me ta st re ba fs bo ws k0 k1=bif r.all (KR ak l) then k1 else k0:=by
 intro r;induction r with
 | nil=>intro i n h hn hm;obtain ⟨n,rfl⟩:=bH hn;unfold fi jw;simp only [h.dge,cond_false,List.all_nil,cond_true]
 | cons e r ih=>
   intro i n h hn hm;obtain ⟨n,rfl⟩:=bH hn
   simp only [List.length_cons] at hn
   have hM: isM e=true:=bU (n:=4000) (hm e (List.mem_cons_self ..))
   have hr:=ih (i + 1) n h.step (by omega) (fun x hx=>hm x (List.mem_cons_of_mem _ hx))
   unfold fi jw
   simp only [h.dlt,h.dnn,h.get,cond_true,h.next (show ws.length≤4611686018427387904 by omega),hM,hr,List.all_cons,Pr]
   unfold KR
   cases decide (e=[42]) <;> cases decide (b_ ak e=b_ l e) <;> rfl
def adA: List AV→List Ob→Br
 | [.agg [.str ur, .int .i64 t1, .int .i64 t2, .sh (.pair .str .str) ak, .str me, .str ta, .int .i64 st, .str re, .bool ba, .sh (.pair .str .str) fs, .str bo], .sh (.pair .str .str) l],[]=> .ite (isM ur) (.ret (.bool (f8 (ur,t1,t2,ak,me,ta,st,re,ba,fs,bo) l)) []) .fail
 | _,_=> .fail
theorem r_: Sound Kx 35 adA:=by
 refine (BD (φ:=fun ur t1 t2 ak me ta st re ba fs bo l=> .ite (isM ur) (.ret (.bool (f8 (ur,t1,t2,ak,me,ta,st,re,ba,fs,bo) l)) []) .fail) (fun _ _ _ _ _ _ _ _ _ fs _ _=>(gw fs).length + 1)
  fun ur t1 t2 ak me ta st re ba fs bo l r h=>?_).of fun args objs r h=>?_
 · obtain ⟨h1,h2⟩:=ae h
   cases h2
   unfold r8 f8
   rw [h1,cond_true,BE (gw fs) (by have:=wG fs;omega) ur t1 t2 ak me ta st re ba fs bo l _ _ (gw fs) 0 ((gw fs).length + 1) (At.start _) (by omega) (TY fs)]
   cases oR (ur,t1,t2,ak,me,ta,st,re,ba,fs,bo) <;> cases co l <;> cases (gw fs).all (KR ak l) <;> rfl
 · unfold adA at h;split at h
   · exact h
   · cases h
end
end Go.Proofs.YtgknmoadpgpdeaaGreatDoor.Ev
namespace Go.Proofs.YtgknmoadpgpdeaaGreatDoor.Ev
open Go Go.RowKit
set_option linter.unusedVariables false
set_option linter.unusedSimpArgs false
end Go.Proofs.YtgknmoadpgpdeaaGreatDoor.Ev
namespace Go.Proofs.YtgknmoadpgpdeaaGreatDoor.Ev
open Go Go.RowKit
set_option linter.unusedVariables false
set_option linter.unusedSimpArgs false
noncomputable section
end
end Go.Proofs.YtgknmoadpgpdeaaGreatDoor.Ev
namespace Go.Proofs.YtgknmoadpgpdeaaGreatDoor.Ev
open Go Go.RowKit
set_option linter.unusedVariables false
set_option linter.unusedSimpArgs false
end Go.Proofs.YtgknmoadpgpdeaaGreatDoor.Ev
namespace Go.Proofs.YtgknmoadpgpdeaaGreatDoor.Ev
open Go Go.RowKit
set_option linter.unusedVariables false
set_option linter.unusedSimpArgs false
noncomputable section
theorem KS (l: List Fd) (n: aa): KR l l n= !decide (n=[42]):=by
 unfold KR
 cases decide (n=[42]) <;> simp
theorem Yb (l: List aa): (l.all fun n=> !decide (n=[42]))= !(l.any fun n=>decide (n=[42])):=by
 induction l with
 | nil=>rfl
 | cons a l ih=>rw [List.all_cons,List.any_cons,ih,Bool.not_or]
theorem D_ (e: En): f8 e e.2.2.2.1=(oR e&& !((gw e.2.2.2.2.2.2.2.2.2.1).any fun n=>decide (n=[42]))):=by
 unfold f8
 cases h: oR e
 · rfl
 have hf: co e.2.2.2.1=true:=by
  unfold oR at h
  simp only [Bool.and_eq_true] at h
  exact h.1.1.1.2
 rw [hf,Bool.true_and,Bool.true_and,← Yb]
 congr 1
 funext n
 exact KS _ n
end
end Go.Proofs.YtgknmoadpgpdeaaGreatDoor.Ev
