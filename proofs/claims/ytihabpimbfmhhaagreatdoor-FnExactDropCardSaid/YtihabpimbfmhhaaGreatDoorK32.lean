/- The texts Ud, Ue, Uf, Ug, Uh, Ui, Uj, Uk, Ul, Um, Un, Uo, Va, Vb, Opn, Vc, Vd, Ve, Vf, Vg, Vh, Xa, Xb, Xc, Xd, Vi, Vj, Vk, Vl, Vm, Vn, Wa, Wb, Vo, Xe, Xf, Xg, Xh, Xi, Xj, one behind the other. -/
import Derived.Test.YtihabpimbfmhhaaGreatDoorK27
import Derived.Test.YtihabpimbfmhhaaGreatDoorK29
import Derived.Test.YtihabpimbfmhhaaGreatDoorK31
import Derived.Test.YtihabpimbfmhhaaGreatDoorK13
import Derived.Test.YtihabpimbfmhhaaGreatDoorK26
import Derived.Test.YtihabpimbfmhhaaGreatDoorK23
import Derived.Test.YtihabpimbfmhhaaGreatDoorK25
namespace Go.Proofs.YtihabpimbfmhhaaGreatDoor.Ev
open Go Go.RowKit
set_option linter.unusedVariables false
set_option linter.unusedSimpArgs false
noncomputable section
def Fq:Opt:={live:=[(3,[0,3,4])],outs:=[(3,[2,3])]}
def iunes_C:SC:=[⟨341,_,B5⟩,⟨333,_,Fi⟩]
def kY (aj:aa) (ai:Int) (aM:(List Int)) (Pa:aa→Int→(List Int)→OR') (cP:(List Int)→OR'):OR':=
 (bif(decide (ai< (aj.length:Int)))then(bif(decide (0≤ai))then(bif(decide (ai< (aj.length:Int)))then(bif(!(decide ((av aj ai)=37)))then(bif(decide (0≤ai))then(bif(decide (ai< (aj.length:Int)))then(bif(decide (((aM.length+(List.length (List.set (List.replicate 1 (0:Int)) 0 (av aj ai))))*1)≤140737488355328))then(Pa aj (ac (ai+1)) (aM++(List.set (List.replicate 1 (0:Int)) 0 (av aj ai))))else(none))else(none))else(none))else(bif(decide ((aj.length:Int)≤(ac (ai+2))))then(bif(decide (0≤ai))then(bif(decide (ai< (aj.length:Int)))then(bif(decide (((aM.length+(List.length (List.set (List.replicate 1 (0:Int)) 0 (av aj ai))))*1)≤140737488355328))then(Pa aj (ac (ai+1)) (aM++(List.set (List.replicate 1 (0:Int)) 0 (av aj ai))))else(none))else(none))else(none))else(bif(decide (0≤(ac (ai+1))))then(bif(decide ((ac (ai+1))< (aj.length:Int)))then(bif(decide ((co (av aj (ac (ai+1))))<0))then(bif(decide (0≤ai))then(bif(decide (ai< (aj.length:Int)))then(bif(decide (((aM.length+(List.length (List.set (List.replicate 1 (0:Int)) 0 (av aj ai))))*1)≤140737488355328))then(Pa aj (ac (ai+1)) (aM++(List.set (List.replicate 1 (0:Int)) 0 (av aj ai))))else(none))else(none))else(none))else(bif(decide (0≤(ac (ai+2))))then(bif(decide ((ac (ai+2))< (aj.length:Int)))then(bif(decide ((co (av aj (ac (ai+2))))<0))then(bif(decide (0≤ai))then(bif(decide (ai< (aj.length:Int)))then(bif(decide (((aM.length+(List.length (List.set (List.replicate 1 (0:Int)) 0 (av aj ai))))*1)≤140737488355328))then(Pa aj (ac (ai+1)) (aM++(List.set (List.replicate 1 (0:Int)) 0 (av aj ai))))else(none))else(none))else(none))else(bif(decide (0≤(ac (ai+1))))then(bif(decide ((ac (ai+1))< (aj.length:Int)))then(bif(decide (0≤(ac (ai+2))))then(bif(decide ((ac (ai+2))< (aj.length:Int)))then(bif(kA (wk8 (ac ((ac (16* (co (av aj (ac (ai+1))))))+(co (av aj (ac (ai+2))))))))then(bif(decide (((aM.length+(List.length (List.set (List.replicate 1 (0:Int)) 0 (wk8 (ac ((ac (16* (co (av aj (ac (ai+1))))))+(co (av aj (ac (ai+2))))))))))*1)≤140737488355328))then(Pa aj (ac ((ac (ai+2))+1)) (aM++(List.set (List.replicate 1 (0:Int)) 0 (wk8 (ac ((ac (16* (co (av aj (ac (ai+1))))))+(co (av aj (ac (ai+2))))))))))else(none))else(bif(decide (0≤(Int.fdiv (wk8 (ac ((ac (16* (co (av aj (ac (ai+1))))))+(co (av aj (ac (ai+2))))))) 16)))then(bif(decide ((Int.fdiv (wk8 (ac ((ac (16* (co (av aj (ac (ai+1))))))+(co (av aj (ac (ai+2))))))) 16)<16))then(bif(decide (0≤(wkk .u8 (((BitVec.toNat ((BitVec.ofInt 8 (wk8 (ac ((ac (16* (co (av aj (ac (ai+1))))))+(co (av aj (ac (ai+2))))))))&&& (BitVec.ofInt 8 15))):Nat):Int))))then(bif(decide ((wkk .u8 (((BitVec.toNat ((BitVec.ofInt 8 (wk8 (ac ((ac (16* (co (av aj (ac (ai+1))))))+(co (av aj (ac (ai+2))))))))&&& (BitVec.ofInt 8 15))):Nat):Int))<16))then(bif(decide (((aM.length+(List.length (List.set (List.set (List.set (List.replicate 3 (0:Int)) 0 37) 1 (av ([48,49,50,51,52,53,54,55,56,57,65,66,67,68,69,70]:aa) (Int.fdiv (wk8 (ac ((ac (16* (co (av aj (ac (ai+1))))))+(co (av aj (ac (ai+2))))))) 16))) 2 (av ([48,49,50,51,52,53,54,55,56,57,65,66,67,68,69,70]:aa) (wkk .u8 (((BitVec.toNat ((BitVec.ofInt 8 (wk8 (ac ((ac (16* (co (av aj (ac (ai+1))))))+(co (av aj (ac (ai+2))))))))&&& (BitVec.ofInt 8 15))):Nat):Int))))))*1)≤140737488355328))then(Pa aj (ac ((ac (ai+2))+1)) (aM++(List.set (List.set (List.set (List.replicate 3 (0:Int)) 0 37) 1 (av ([48,49,50,51,52,53,54,55,56,57,65,66,67,68,69,70]:aa) (Int.fdiv (wk8 (ac ((ac (16* (co (av aj (ac (ai+1))))))+(co (av aj (ac (ai+2))))))) 16))) 2 (av ([48,49,50,51,52,53,54,55,56,57,65,66,67,68,69,70]:aa) (wkk .u8 (((BitVec.toNat ((BitVec.ofInt 8 (wk8 (ac ((ac (16* (co (av aj (ac (ai+1))))))+(co (av aj (ac (ai+2))))))))&&& (BitVec.ofInt 8 15))):Nat):Int))))))else(none))else(none))else(none))else(none))else(none)))else(none))else(none))else(none))else(none)))else(none))else(none)))else(none))else(none))))else(none))else(none))else(cP aM))
def fR:Nat→aa→Int→(List Int)→((List Int)→OR')→OR'
 |0,_,_,_,_=>none
 |n+1,aj,ai,aM,cP=>kY aj ai aM (fun aj ai aM=>fR n aj ai aM cP) cP
abbrev iunes_p3:SP:=⟨77,[0,3,4],[(.v .s),(.v (.ref 256 0)),(.v (.i .i64))],[(256,.arr (Ty.int .u8) 0 false)]⟩
noncomputable def zN:Code:=aG (aI Tryz.f288) [1,1,0,1,0,0]
def zO (f:((List Int)→OR')→OR') (k:KT):OR':=f (fun aW=>k (Ex.exit 0) ((St.mk (aE 0 77 [(3,(AV.ref 256 0))]) ((256,(Ob.arr (Ty.int .u8) 0 false aW))::([]:(List (Nat×(Ob))))))))
def zP (n:Nat) (d:iunes_p3.D):KT→OR':=zO (fR n d.1.1 d.1.2.2.1 d.2.1)
def Ft (N:Nat):Lam:=bD [⟨3,iunes_p3,zP N⟩]
theorem Fu (N:Nat):OkL Kx iunes_C.s Fq 0 N (Ft N) zN:=okL iunes_p3 (zP) (fun d kR=>zO (kY d.1.1 d.1.2.2.1 d.2.1 (fun aj ai aM=>kR ((aj,(),ai,()),(aM,()))))) (fun _ _=>by kernel_rfl) (fun _ _ _=>by kernel_rfl) (fun _ _=>by kernel_rfl) (fun _ _ _ _=>by kernel_rfl) (ah (l':=[]) (by kernel_rfl) trivial)
def uL (N:Nat) (s:aa):OR':=(fR N s 0 ([]:(List Int)) (fun aW=>(some ((AV.str (br aW)),[]))))
def uM (φ:aa→Br):List AV→List Ob→Br
 | [.str s],[]=>φ s
 |_,_=>.fail
theorem B7 {φ:aa→Br} (fu:aa→Nat) (hv: ∀s res_,(φ s).val=some res_→uL (fu s) s=some res_):Sound Kx 288 (uM φ):=an (C:=iunes_C) (O:=Fq) Tryz.func288 (by kernel_rfl) fun args objs=>by
 unfold uM;split
 ·rename_i s;exact .inr fun _ hyp_=>aV (Λ:=Ft (fu s)) (by kernel_rfl) (ah (l':=[zN]) (by kernel_rfl) ⟨Fu _,trivial⟩) (by kernel_rfl) (hv s _ hyp_)
 ·exact .inl rfl
def Fv:Opt:={live:=[(3,[0,3,4])],outs:=[(3,[2,3])]}
def sunes_C:SC:=[⟨327,_,uJ⟩,⟨328,_,Fj⟩,⟨329,_,B6⟩]
def kZ (aj:aa) (ai:Int) (aM:(List Int)) (Pa:aa→Int→(List Int)→OR') (cP:(List Int)→OR'):OR':=
 (bif(decide (ai< (aj.length:Int)))then(bif(decide (0≤ai))then(bif(decide (ai< (aj.length:Int)))then(bif(!(decide ((av aj ai)=37)))then(bif(decide (0≤ai))then(bif(decide (ai< (aj.length:Int)))then(bif(decide (((aM.length+(List.length (List.set (List.replicate 1 (0:Int)) 0 (av aj ai))))*1)≤140737488355328))then(Pa aj (ac (ai+1)) (aM++(List.set (List.replicate 1 (0:Int)) 0 (av aj ai))))else(none))else(none))else(none))else(bif(decide ((aj.length:Int)≤(ac (ai+2))))then(bif(decide (0≤ai))then(bif(decide (ai< (aj.length:Int)))then(bif(decide (((aM.length+(List.length (List.set (List.replicate 1 (0:Int)) 0 (av aj ai))))*1)≤140737488355328))then(Pa aj (ac (ai+1)) (aM++(List.set (List.replicate 1 (0:Int)) 0 (av aj ai))))else(none))else(none))else(none))else(bif(decide (0≤(ac (ai+1))))then(bif(decide ((ac (ai+1))≤(ac (ai+3))))then(bif(decide ((ac (ai+3))≤(aj.length:Int)))then(bif(!(d7 (cut aj (ac (ai+1)) (ac (ai+3)))).2)then(bif(decide (0≤ai))then(bif(decide (ai< (aj.length:Int)))then(bif(decide (((aM.length+(List.length (List.set (List.replicate 1 (0:Int)) 0 (av aj ai))))*1)≤140737488355328))then(Pa aj (ac (ai+1)) (aM++(List.set (List.replicate 1 (0:Int)) 0 (av aj ai))))else(none))else(none))else(none))else(bif((decide (0≤(wk8 (d7 (cut aj (ac (ai+1)) (ac (ai+3)))).1)))&&(decide ((wk8 (d7 (cut aj (ac (ai+1)) (ac (ai+3)))).1)<256)))then(bif(kA (wk8 (d7 (cut aj (ac (ai+1)) (ac (ai+3)))).1))then(bif(decide (((aM.length+(List.length (List.set (List.replicate 1 (0:Int)) 0 (wk8 (d7 (cut aj (ac (ai+1)) (ac (ai+3)))).1))))*1)≤140737488355328))then(Pa aj (ac ((ac (ai+2))+1)) (aM++(List.set (List.replicate 1 (0:Int)) 0 (wk8 (d7 (cut aj (ac (ai+1)) (ac (ai+3)))).1))))else(none))else(bif(decide (0≤(ac (ai+1))))then(bif(decide ((ac (ai+1))< (aj.length:Int)))then(bif(decide (0≤(ac (ai+2))))then(bif(decide ((ac (ai+2))< (aj.length:Int)))then(bif(decide (((aM.length+(List.length (List.set (List.set (List.set (List.replicate 3 (0:Int)) 0 37) 1 (upI (av aj (ac (ai+1))))) 2 (upI (av aj (ac (ai+2)))))))*1)≤140737488355328))then(Pa aj (ac ((ac (ai+2))+1)) (aM++(List.set (List.set (List.set (List.replicate 3 (0:Int)) 0 37) 1 (upI (av aj (ac (ai+1))))) 2 (upI (av aj (ac (ai+2)))))))else(none))else(none))else(none))else(none))else(none)))else(none)))else(none))else(none))else(none))))else(none))else(none))else(cP aM))
def fS:Nat→aa→Int→(List Int)→((List Int)→OR')→OR'
 |0,_,_,_,_=>none
 |n+1,aj,ai,aM,cP=>kZ aj ai aM (fun aj ai aM=>fS n aj ai aM cP) cP
abbrev sunes_p3:SP:=⟨75,[0,3,4],[(.v .s),(.v (.ref 256 0)),(.v (.i .i64))],[(256,.arr (Ty.int .u8) 0 false)]⟩
noncomputable def zQ:Code:=aG (aI Tryz.f265) [1,1,0,1,0,0]
def zR (f:((List Int)→OR')→OR') (k:KT):OR':=f (fun aW=>k (Ex.exit 0) ((St.mk (aE 0 75 [(3,(AV.ref 256 0))]) ((256,(Ob.arr (Ty.int .u8) 0 false aW))::([]:(List (Nat×(Ob))))))))
def zS (n:Nat) (d:sunes_p3.D):KT→OR':=zR (fS n d.1.1 d.1.2.2.1 d.2.1)
def Fw (N:Nat):Lam:=bD [⟨3,sunes_p3,zS N⟩]
theorem Fx (N:Nat):OkL Kx sunes_C.s Fv 0 N (Fw N) zQ:=okL sunes_p3 (zS) (fun d kR=>zR (kZ d.1.1 d.1.2.2.1 d.2.1 (fun aj ai aM=>kR ((aj,(),ai,()),(aM,()))))) (fun _ _=>by kernel_rfl) (fun _ _ _=>by kernel_rfl) (fun _ _=>by kernel_rfl) (fun _ _ _ _=>by kernel_rfl) (ah (l':=[]) (by kernel_rfl) trivial)
def uN (N:Nat) (s:aa):OR':=(fS N s 0 ([]:(List Int)) (fun aW=>(some ((AV.str (br aW)),[]))))
def uO (φ:aa→Br):List AV→List Ob→Br
 | [.str s],[]=>φ s
 |_,_=>.fail
theorem B8 {φ:aa→Br} (fu:aa→Nat) (hv: ∀s res_,(φ s).val=some res_→uN (fu s) s=some res_):Sound Kx 265 (uO φ):=an (C:=sunes_C) (O:=Fv) Tryz.func265 (by kernel_rfl) fun args objs=>by
 unfold uO;split
 ·rename_i s;exact .inr fun _ hyp_=>aV (Λ:=Fw (fu s)) (by kernel_rfl) (ah (l':=[zQ]) (by kernel_rfl) ⟨Fx _,trivial⟩) (by kernel_rfl) (hv s _ hyp_)
 ·exact .inl rfl
def uP:Opt:={live:=[(2,[0,1,5])],outs:=[(2,[4])]}
def allHost_C:SC:=[⟨342,_,Fh⟩]
def fT (al:aa) (ap:Int) (O_:aa→Int→OR') (bG cz:OR'):OR':=
 (bif(decide (ap< (al.length:Int)))then(bif(decide (0≤ap))then(bif(decide (ap< (al.length:Int)))then(bif(!(hoB (av al ap)))then bG else(O_ al (ac (ap+1))))else(none))else(none))else cz)
def dq:Nat→aa→Int→(OR')→(OR')→OR'
 |0,_,_,_,_=>none
 |n+1,al,ap,bG,cz=>fT al ap (fun al ap=>dq n al ap bG cz) bG cz
abbrev allHost_p2:SP:=⟨18,[0,1,5],[(.v .s),(.v (.fn 342 [])),(.v (.i .i64))],[]⟩
noncomputable def pN:Code:=aG (aI Tryz.f191) [1,0,1,0,0]
def pO (f:(OR')→(OR')→OR') (k:KT):OR':=f (k Ex.ret ((St.mk (aE 0 18 [(4,(AV.bool false))]) ([]:(List (Nat×(Ob))))))) (k (Ex.exit 0) ((St.mk (aE 0 18 []) ([]:(List (Nat×(Ob)))))))
def pP (n:Nat) (d:allHost_p2.D):KT→OR':=pO (dq n d.1.1 d.1.2.2.1)
def uQ (N:Nat):Lam:=bD [⟨2,allHost_p2,pP N⟩]
theorem xn (N:Nat):OkL Kx allHost_C.s uP 0 N (uQ N) pN:=okL allHost_p2 (pP) (fun d kR=>pO (fT d.1.1 d.1.2.2.1 (fun al ap=>kR ((al,(),ap,()),())))) (fun _ _=>by kernel_rfl) (fun _ _ _=>by kernel_rfl) (fun _ _=>by kernel_rfl) (fun _ _ _ _=>by kernel_rfl) (ah (l':=[]) (by kernel_rfl) trivial)
def nk (N:Nat) (s:aa):OR':=(dq N s 0 (some ((AV.bool false),[])) (some ((AV.bool true),[])))
def gP (φ:aa→Br):List AV→List Ob→Br
 | [.str s,.fn 342 []],[]=>φ s
 |_,_=>.fail
theorem uR {φ:aa→Br} (fu:aa→Nat) (hv: ∀s res_,(φ s).val=some res_→nk (fu s) s=some res_):Sound Kx 191 (gP φ):=an (C:=allHost_C) (O:=uP) Tryz.func191 (by kernel_rfl) fun args objs=>by
 unfold gP;split
 ·rename_i s;exact .inr fun _ hyp_=>aV (Λ:=uQ (fu s)) (by kernel_rfl) (ah (l':=[pN]) (by kernel_rfl) ⟨xn _,trivial⟩) (by kernel_rfl) (hv s _ hyp_)
 ·exact .inl rfl
def xo:Opt:={live:=[(10,[3,4,5]),(5,[3,4])],outs:=[(10,[2,3,4]),(5,[2])]}
def sHost_C:SC:=[⟨263,_,dT⟩,⟨264,_,pM⟩]
def iD (cW eh:Int) (dh:(List aa)) (NS:Int→Int→(List aa)→OR') (G9 I_:Int→(List aa)→OR'):OR':=
 (bif(decide (0≤cW))then(bif(decide (cW< (dh.length:Int)))then(bif(decide (eh< ((List.length (List.getD dh (Int.toNat cW) ([]:aa))):Int)))then(bif(decide (0≤cW))then(bif(decide (cW< (dh.length:Int)))then(bif(decide (0≤eh))then(bif(decide (eh< ((List.length (List.getD dh (Int.toNat cW) ([]:aa))):Int)))then(bif(decide (97≤(av (List.getD dh (Int.toNat cW) ([]:aa)) eh)))then(bif(!(decide ((av (List.getD dh (Int.toNat cW) ([]:aa)) eh)≤122)))then(bif(!(bb (av (List.getD dh (Int.toNat cW) ([]:aa)) eh)))then(bif(!(decide ((av (List.getD dh (Int.toNat cW) ([]:aa)) eh)=45)))then(G9 cW dh)else(NS cW (ac (eh+1)) dh))else(NS cW (ac (eh+1)) dh))else(NS cW (ac (eh+1)) dh))else(bif(!(bb (av (List.getD dh (Int.toNat cW) ([]:aa)) eh)))then(bif(!(decide ((av (List.getD dh (Int.toNat cW) ([]:aa)) eh)=45)))then(G9 cW dh)else(NS cW (ac (eh+1)) dh))else(NS cW (ac (eh+1)) dh)))else(none))else(none))else(none))else(none))else(I_ cW dh))else(none))else(none))
def d8:Nat→Int→Int→(List aa)→(Int→(List aa)→OR')→(Int→(List aa)→OR')→OR'
 |0,_,_,_,_,_=>none
 |n+1,cW,eh,dh,G9,I_=>iD cW eh dh (fun cW eh dh=>d8 n cW eh dh G9 I_) G9 I_
abbrev sHost_p10:SP:=⟨59,[3,4,5],[(.v (.ref 256 0)),(.v (.i .i64)),(.v (.i .i64))],[(256,.arr Ty.str 0 false)]⟩
noncomputable def nl:Code:=aG (aI Tryz.f266) [1,1,1,0,1,0,0,1,0,0,1,1,0,0]
def uS (f:(Int→(List aa)→OR')→(Int→(List aa)→OR')→OR') (k:KT):OR':=f (fun G_ Ha=>k Ex.ret ((St.mk (aE 0 59 [(2,(AV.bool false)),(3,(AV.ref 256 0)),(4,(AV.int .i64 G_))]) ((256,(Ob.arr Ty.str 0 false Ha))::([]:(List (Nat×(Ob)))))))) (fun xV xW=>k (Ex.exit 2) ((St.mk (aE 0 59 [(3,(AV.ref 256 0)),(4,(AV.int .i64 xV))]) ((256,(Ob.arr Ty.str 0 false xW))::([]:(List (Nat×(Ob))))))))
def uT (n:Nat) (d:sHost_p10.D):KT→OR':=uS (d8 n d.1.2.1 d.1.2.2.1 d.2.1)
def k9 (N:Nat) (aL:Int) (bm:(List aa)) (Pc:Int→(List aa)→OR') (dI ll:OR'):OR':=
 (bif(decide (aL< (bm.length:Int)))then(bif(decide (0≤aL))then(bif(decide (aL< (bm.length:Int)))then(bif(decide ((List.getD bm (Int.toNat aL) ([]:aa))=([]:aa)))then dI else(d8 N aL 0 bm (fun G_=>(fun Ha=>dI)) (fun xV=>(fun xW=>(Pc (ac (xV+1)) xW)))))else(none))else(none))else ll)
def fU (N:Nat):Nat→Int→(List aa)→(OR')→(OR')→OR'
 |0,_,_,_,_=>none
 |n+1,aL,bm,dI,ll=>k9 N aL bm (fun aL bm=>fU N n aL bm dI ll) dI ll
abbrev sHost_p5:SP:=⟨59,[3,4],[(.v (.ref 256 0)),(.v (.i .i64))],[(256,.arr Ty.str 0 false)]⟩
noncomputable def zT:Code:=aG (aI Tryz.f266) [1,1,1,0,1,0,0]
def zU (f:(OR')→(OR')→OR') (k:KT):OR':=f (k Ex.ret ((St.mk (aE 0 59 [(2,(AV.bool false))]) ([]:(List (Nat×(Ob))))))) (k (Ex.exit 0) ((St.mk (aE 0 59 []) ([]:(List (Nat×(Ob)))))))
def zV (N n:Nat) (d:sHost_p5.D):KT→OR':=zU (fU N n d.1.2.1 d.2.1)
def xp (N:Nat):Lam:=bD [⟨10,sHost_p10,uT N⟩,⟨5,sHost_p5,zV N N⟩]
theorem pQ (N:Nat):OkL Kx sHost_C.s xo 0 N (xp N) nl:=okL sHost_p10 (uT) (fun d kR=>uS (iD d.1.2.1 d.1.2.2.1 d.2.1 (fun cW eh dh=>kR (((),cW,eh,()),(dh,()))))) (fun _ _=>by kernel_rfl) (fun _ _ _=>by kernel_rfl) (fun _ _=>by kernel_rfl) (fun _ _ _ _=>by kernel_rfl) (ah (l':=[]) (by kernel_rfl) trivial)
theorem Fy (N:Nat):OkL Kx sHost_C.s xo 0 N (xp N) zT:=okL sHost_p5 (zV N) (fun d kR=>zU (k9 N d.1.2.1 d.2.1 (fun aL bm=>kR (((),aL,()),(bm,()))))) (fun _ _=>by kernel_rfl) (fun _ _ _=>by kernel_rfl) (fun _ _=>by kernel_rfl) (fun _ _ _ _=>by kernel_rfl) (ah (l':=[nl]) (by kernel_rfl) ⟨pQ _,trivial⟩)
def uU (N:Nat) (s:aa):OR':=(bif(decide ((s.length:Int)=0))then(some ((AV.bool false),[]))else(bif(decide (60< (s.length:Int)))then(some ((AV.bool false),[]))else(bif(decide (s.length≤1000000))then(fU N N 0 (eZ s 46) (some ((AV.bool false),[])) (some ((AV.bool true),[])))else(none))))
def uV (φ:aa→Br):List AV→List Ob→Br
 | [.str s],[]=>φ s
 |_,_=>.fail
theorem B9 {φ:aa→Br} (fu:aa→Nat) (hv: ∀s res_,(φ s).val=some res_→uU (fu s) s=some res_):Sound Kx 266 (uV φ):=an (C:=sHost_C) (O:=xo) Tryz.func266 (by kernel_rfl) fun args objs=>by
 unfold uV;split
 ·rename_i s;exact .inr fun _ hyp_=>aV (Λ:=xp (fu s)) (by kernel_rfl) (ah (l':=[zT,nl]) (by kernel_rfl) ⟨Fy _,pQ _,trivial⟩) (by kernel_rfl) (hv s _ hyp_)
 ·exact .inl rfl
def K9:SC:=[⟨124,_,bZ⟩,⟨196,_,EH⟩]
def rG (n:Int):Br:=(Br.ite (decide (0≤n)) (Br.ite (!(decide (n≤999999999999999))) (Br.ret (AV.str ([]:aa)) []) (Br.ite (bv n) (Br.ret (AV.str (bF n)) []) Br.fail)) (Br.ret (AV.str ([]:aa)) []))
def Fz:List AV→List Ob→Br
 | [.int .i64 n],[]=>rG n
 |_,_=>.fail
theorem iDecT_ok:Sound Kx 285 Fz:=ae (C:=K9) (O:=O0) Tryz.func285 (by kernel_rfl) fun args objs=>by
 unfold Fz;split
 ·exact .inr (by kernel_rfl)
 ·exact .inl rfl
def pR:Opt:={live:=[(5,[0,4,5])],outs:=[(5,[0,2,3,4])]}
def sReadDec_C:SC:=[⟨263,_,dT⟩,⟨185,_,xg⟩]
def eN (aL:aa) (bm aS:Int) (Pc:aa→Int→Int→OR') (dI ll:aa→Int→OR'):OR':=
 (bif(decide (aS< (aL.length:Int)))then(bif(decide (0≤aS))then(bif(decide (aS< (aL.length:Int)))then(bif(!(bb (av aL aS)))then(dI aL bm)else(bif(decide (0≤aS))then(bif(decide (aS< (aL.length:Int)))then(Pc aL (ac ((ac (bm*10))+(ac (wk8 ((av aL aS)-48))))) (ac (aS+1)))else(none))else(none)))else(none))else(none))else(ll aL bm))
def cL:Nat→aa→Int→Int→(aa→Int→OR')→(aa→Int→OR')→OR'
 |0,_,_,_,_,_=>none
 |n+1,aL,bm,aS,dI,ll=>eN aL bm aS (fun aL bm aS=>cL n aL bm aS dI ll) dI ll
abbrev sReadDec_p5:SP:=⟨38,[0,4,5],[(.v .s),(.v (.i .i64)),(.v (.i .i64))],[]⟩
noncomputable def np:Code:=aG (aI Tryz.f204) [1,1,1,0,1,0,0]
def nq (f:(aa→Int→OR')→(aa→Int→OR')→OR') (k:KT):OR':=f (fun am ce=>k Ex.ret ((St.mk (aE 0 38 [(0,(AV.str am)),(2,(AV.int .i64 0)),(3,(AV.bool false)),(4,(AV.int .i64 ce))]) ([]:(List (Nat×(Ob))))))) (fun dC vT=>k (Ex.exit 0) ((St.mk (aE 0 38 [(0,(AV.str dC)),(4,(AV.int .i64 vT))]) ([]:(List (Nat×(Ob)))))))
def nr (n:Nat) (d:sReadDec_p5.D):KT→OR':=nq (cL n d.1.1 d.1.2.1 d.1.2.2.1)
def pS (N:Nat):Lam:=bD [⟨5,sReadDec_p5,nr N⟩]
theorem uW (N:Nat):OkL Kx sReadDec_C.s pR 0 N (pS N) np:=okL sReadDec_p5 (nr) (fun d kR=>nq (eN d.1.1 d.1.2.1 d.1.2.2.1 (fun aL bm aS=>kR ((aL,bm,aS,()),())))) (fun _ _=>by kernel_rfl) (fun _ _ _=>by kernel_rfl) (fun _ _=>by kernel_rfl) (fun _ _ _ _=>by kernel_rfl) (ah (l':=[]) (by kernel_rfl) trivial)
def jX (N:Nat) (s:aa):OR':=(bif(decide ((s.length:Int)=0))then(some ((AV.tup ((AV.int .i64 0)::((AV.bool false)::[]))),[]))else(bif(decide (15< (s.length:Int)))then(some ((AV.tup ((AV.int .i64 0)::((AV.bool false)::[]))),[]))else(cL N s 0 0 (fun am=>(fun ce=>(some ((AV.tup ((AV.int .i64 0)::((AV.bool false)::[]))),[])))) (fun dC=>(fun vT=>(bif(bv vT)then(bif(!(decide ((bF vT)=dC)))then(some ((AV.tup ((AV.int .i64 0)::((AV.bool false)::[]))),[]))else(some ((AV.tup ((AV.int .i64 vT)::((AV.bool true)::[]))),[])))else(none)))))))
def jY (φ:aa→Br):List AV→List Ob→Br
 | [.str s],[]=>φ s
 |_,_=>.fail
theorem rH {φ:aa→Br} (fu:aa→Nat) (hv: ∀s res_,(φ s).val=some res_→jX (fu s) s=some res_):Sound Kx 204 (jY φ):=an (C:=sReadDec_C) (O:=pR) Tryz.func204 (by kernel_rfl) fun args objs=>by
 unfold jY;split
 ·rename_i s;exact .inr fun _ hyp_=>aV (Λ:=pS (fu s)) (by kernel_rfl) (ah (l':=[np]) (by kernel_rfl) ⟨uW _,trivial⟩) (by kernel_rfl) (hv s _ hyp_)
 ·exact .inl rfl
theorem K_: ∀k:Fin 256,0≤co (k.val:Int)→av Fg (co (k.val:Int))=upI (k.val:Int):=by decide+kernel
theorem JR (a:UInt8) (h:0≤co (by8 a)):av Fg (co (by8 a))=upI (by8 a):=K_ ⟨a.toNat,a.toNat_lt⟩ h
theorem MV: ∀k:Fin 256,0≤upI (k.val:Int)∧upI (k.val:Int)<256:=by decide+kernel
theorem MW (a:UInt8):0≤upI (by8 a)∧upI (by8 a)<256:=MV ⟨a.toNat,a.toNat_lt⟩
theorem La: ∀x y:Fin 16,IntKind.u8.wrap ((BitVec.ofInt 8 (16* (x.val:Int)+(y.val:Int))&&& BitVec.ofInt 8 15).toNat:Int)=(y.val:Int):=by decide+kernel
theorem Lb (x y:Int) (hx:0≤x) (hx':x<16) (hy:0≤y) (hy':y<16):wkk .u8 ((BitVec.ofInt 8 (16*x+y)&&& BitVec.ofInt 8 15).toNat:Int)=y:=by
 have h:=La ⟨x.toNat,by omega⟩ ⟨y.toNat,by omega⟩
 simp only at h
 rw [show((x.toNat:Nat):Int)=x by omega,show((y.toNat:Nat):Int)=y by omega]at h
 rw [ln];exact h
theorem ns (n:Int) (h0:0≤n) (h1:n<256):by8 (UInt8.ofNat n.toNat)=n:=by
 unfold by8;rw [UInt8.toNat_ofNat'];omega
theorem jZ (c:UInt8) (r:aa):bytesOf (c::r)=by8 c::bytesOf r:=rfl
theorem nt (a b:aa):bytesOf (a++b)=bytesOf a++bytesOf b:=by simp [bytesOf]
theorem k_ (c a b:UInt8) (r:aa):cA (c::a::b::r)=bif ni c a b then pJ a b++cA r else c::cA (a::b::r):=by rw [cA]
theorem j0 (a b:UInt8) (h0:0≤cg a b) (h1:cg a b<256):bytesOf (pJ a b)=bif kA (cg a b)then [cg a b]else [37,upI (by8 a),upI (by8 b)]:=by
 have ha:=MW a
 have hb:=MW b
 unfold pJ
 cases kA (cg a b)
 ·simp only [cond_false,jZ,ns _ ha.1 ha.2,ns _ hb.1 hb.2];rfl
 ·simp only [cond_true,jZ,ns _ h0 h1];rfl
theorem gQ {α:Type} {b:Bool} {x y:α} (h:b=true):(bif b then x else y)=x:=by rw [h];rfl
theorem ON (a b c:Int):List.set (List.set (List.set (List.replicate 3 (0:Int)) 0 a) 1 b) 2 c=[a,b,c]:=rfl
theorem FA:((48:UInt8)::((49:UInt8)::((50:UInt8)::((51:UInt8)::((52:UInt8)::((53:UInt8)::((54:UInt8)::((55:UInt8)::((56:UInt8)::((57:UInt8)::((65:UInt8)::((66:UInt8)::((67:UInt8)::((68:UInt8)::((69:UInt8)::((70:UInt8)::([]:(List UInt8))))))))))))))))))=Fg:=rfl
theorem B_ (s:aa) (hl:s.length≤1000000) (k:List Int→OR'): ∀(n:Nat) (r:aa) (i:Int) (out:List Int),At s i r→r.length<n→out.length+r.length≤s.length→
 fR n s i out k=k (out++bytesOf (cA r)):=by
 intro n;induction n with
 |zero=>intro r i out h hn;omega
 |succ n ih=>
  intro r i out h hn ho
  cases r with
  |nil=>unfold fR kY;simp only [h.dge,cond_false,cA];simp [bytesOf]
  |cons c r=>
   simp only [List.length_cons]at hn ho
   have hap:decide ((out.length+ [by8 c].length)*1≤140737488355328)=true:=dT' (by simp only [List.length_singleton];omega)
   have hi:=h.nn
   have hle:=h.le
   simp only [List.length_cons]at hle
   have w1:ac (i+1)=i+1:=w64 (by omega) (by omega)
   have w2:ac (i+2)=i+2:=w64 (by omega) (by omega)
   have hstep:=ih r (i+1) (out++[by8 c]) h.step (by omega) (by simp;omega)
   have hst':k (out++[by8 c]++bytesOf (cA r))=k (out++by8 c::bytesOf (cA r)):=by simp
   rw [hst']at hstep
   unfold fR kY
   simp only [h.dlt,h.dnn,h.str,cond_true,cy,hap,w1,w2,hstep]
   cases c1:decide (by8 c=37)
   ·simp only [Bool.not_false,cond_true]
    have e: ∀a b,ni c a b=false:=fun a b=>by unfold ni;rw [c1];rfl
    cases r with
    |nil=>rfl
    |cons a r=>cases r with
     |nil=>rfl
     |cons b r=>rw [k_,e a b,cond_false];rfl
   ·simp only [Bool.not_true,cond_false]
    cases r with
    |nil=>
     rw [dT' (show(s.length:Int)≤i+2 by simp at hle;omega),cond_true];rfl
    |cons a r=>cases r with
     |nil=>
      rw [dT' (show(s.length:Int)≤i+2 by simp at hle;omega),cond_true];rfl
     |cons b r=>
      simp only [List.length_cons]at hle hn ho
      have h2:=h.step
      have h3:=h2.step
      have e2:i+1+1=i+2:=by omega
      rw [e2]at h3
      rw [dF' (show ¬(s.length:Int)≤i+2 by omega),cond_false,k_]
      simp only [h2.dlt,h2.dnn,h2.str,h3.dlt,h3.dnn,h3.str,cond_true]
      unfold ni
      rw [c1,Bool.true_and]
      have hxa:=nh (by8 a)
      have hxb:=nh (by8 b)
      cases c2:decide (co (by8 a)<0)
      ·cases c3:decide (co (by8 b)<0)
       ·have g2:=of_decide_eq_false c2
        have g3:=of_decide_eq_false c3
        have hp:wk8 (ac (ac (16*co (by8 a))+co (by8 b)))=cg a b:=by unfold cg;simp (disch:=omega) only [w8,w64]
        have p0:0≤cg a b:=by unfold cg;omega
        have p1:cg a b<256:=by unfold cg;omega
        have hd:(cg a b).fdiv 16=co (by8 a):=by unfold cg;rw [Int.fdiv_eq_ediv_of_nonneg _ (by decide)];omega
        have hm:wkk .u8 ((BitVec.ofInt 8 (cg a b)&&& BitVec.ofInt 8 15).toNat:Int)=co (by8 b):=Lb _ _ (by omega) hxa (by omega) hxb
        have w3:ac (i+2+1)=i+3:=by rw [w64 (by omega) (by omega)];omega
        have ha3:decide ((out.length+ [37,upI (by8 a),upI (by8 b)].length)*1≤140737488355328)=true:=dT' (by simp only [List.length_cons,List.length_nil];omega)
        have ha1:decide ((out.length+ [cg a b].length)*1≤140737488355328)=true:=dT' (by simp only [List.length_cons,List.length_nil];omega)
        have q1:decide (0≤co (by8 a))=true:=dT' (by omega)
        have q2:decide (co (by8 a)<16)=true:=dT' hxa
        have q3:decide (0≤co (by8 b))=true:=dT' (by omega)
        have q4:decide (co (by8 b)<16)=true:=dT' hxb
        simp only [hp,hd,hm,Bool.not_false,Bool.and_self,cond_true,cond_false,nt,j0 a b p0 p1,ON,FA,JR a (by omega),JR b (by omega),w3,cy,ha3,ha1,q1,q2,q3,q4]
        have h4:=h3.step
        rw [show i+2+1=i+3 by omega]at h4
        cases kA (cg a b)
        ·have:=ih r (i+3) (out++[37,upI (by8 a),upI (by8 b)]) h4 (by omega) (by simp;omega)
         rw [cond_false,this,List.append_assoc];rfl
        ·have:=ih r (i+3) (out++[cg a b]) h4 (by omega) (by simp;omega)
         rw [cond_true,this,List.append_assoc];rfl
       ·simp only [Bool.not_false,Bool.not_true,Bool.and_false,cond_true,cond_false];rfl
      ·simp only [Bool.not_true,Bool.false_and,cond_true,cond_false];rfl
def Ik:List AV→List Ob→Br
 | [.str s],[]=>.ite (decide (s.length≤1000000)) (.ret (.str (cA s)) []) .fail
 |_,_=>.fail
theorem FB:Sound Kx 288 Ik:=by
 refine(B7 (φ:=fun s=>.ite (decide (s.length≤1000000)) (.ret (.str (cA s)) []) .fail) (fun s=>s.length+1) fun s r h=> ?_).of fun args objs r h=> ?_
 ·obtain⟨h1,h2⟩:=af h
  cases h2
  rw [decide_eq_true_eq]at h1
  unfold uL
  rw [B_ s h1 _ _ s 0 [] (At.start s) (by omega) (by simp),List.nil_append,l_]
 ·unfold Ik at h;split at h
  ·exact h
  ·cases h
theorem FC (a b:UInt8):d7 [a,b]=bif !decide (co (by8 a)<0)&& !decide (co (by8 b)<0)then(cg a b,true)else(0,false):=by
 have e1:a7 cE [a,b]=(!decide (co (by8 a)<0)&& !decide (co (by8 b)<0)):=by
  show(cE (by8 a)&&(cE (by8 b)&&true))=_
  rw [Bool.and_true];rfl
 have e2:LH [a,b] 0=cg a b:=by
  show(0*16+co (by8 a))*16+co (by8 b)=_
  unfold cg;omega
 unfold d7
 rw [e1,e2];rfl
theorem Ca (s:aa) (hl:s.length≤1000000) (k:List Int→OR'): ∀(n:Nat) (r:aa) (i:Int) (out:List Int),At s i r→r.length<n→out.length+r.length≤s.length→
 fS n s i out k=k (out++bytesOf (cA r)):=by
 intro n;induction n with
 |zero=>intro r i out h hn;omega
 |succ n ih=>
  intro r i out h hn ho
  cases r with
  |nil=>unfold fS kZ;simp only [h.dge,cond_false,cA];simp [bytesOf]
  |cons c r=>
   simp only [List.length_cons]at hn ho
   have hap:decide ((out.length+ [by8 c].length)*1≤140737488355328)=true:=dT' (by simp only [List.length_singleton];omega)
   have hi:=h.nn
   have hle:=h.le
   simp only [List.length_cons]at hle
   have w1:ac (i+1)=i+1:=w64 (by omega) (by omega)
   have w2:ac (i+2)=i+2:=w64 (by omega) (by omega)
   have w3':ac (i+3)=i+3:=w64 (by omega) (by omega)
   have hstep:=ih r (i+1) (out++[by8 c]) h.step (by omega) (by simp;omega)
   have hst':k (out++[by8 c]++bytesOf (cA r))=k (out++by8 c::bytesOf (cA r)):=by simp
   rw [hst']at hstep
   unfold fS kZ
   simp only [h.dlt,h.dnn,h.str,cond_true,cy,hap,w1,w2,w3',hstep]
   cases c1:decide (by8 c=37)
   ·simp only [Bool.not_false,cond_true]
    have e: ∀a b,ni c a b=false:=fun a b=>by unfold ni;rw [c1];rfl
    cases r with
    |nil=>rfl
    |cons a r=>cases r with
     |nil=>rfl
     |cons b r=>rw [k_,e a b,cond_false];rfl
   ·simp only [Bool.not_true,cond_false]
    cases r with
    |nil=>
     rw [dT' (show(s.length:Int)≤i+2 by simp at hle;omega),cond_true];rfl
    |cons a r=>cases r with
     |nil=>
      rw [dT' (show(s.length:Int)≤i+2 by simp at hle;omega),cond_true];rfl
     |cons b r=>
      simp only [List.length_cons]at hle hn ho
      have h2:=h.step
      have h3:=h2.step
      have e2:i+1+1=i+2:=by omega
      rw [e2]at h3
      have hcut:cut s (i+1) (i+3)=[a,b]:=by
       obtain⟨p,hs,hp⟩:=h
       exact Fb (p:=p++[c]) (r:=r) (by rw [hs];simp) (by rw [hp];simp) (by simp;omega)
      rw [dF' (show ¬(s.length:Int)≤i+2 by omega),cond_false,k_]
      rw [dT' (show i+1≤i+3 by omega),dT' (show i+3≤(s.length:Int) by omega)]
      simp only [h2.dlt,h2.dnn,h2.str,h3.dlt,h3.dnn,h3.str,cond_true,hcut,FC]
      unfold ni
      rw [c1,Bool.true_and]
      have hxa:=nh (by8 a)
      have hxb:=nh (by8 b)
      cases c2:decide (co (by8 a)<0)
      ·cases c3:decide (co (by8 b)<0)
       ·have g2:=of_decide_eq_false c2
        have g3:=of_decide_eq_false c3
        have p0:0≤cg a b:=by unfold cg;omega
        have p1:cg a b<256:=by unfold cg;omega
        have hp:wk8 (cg a b)=cg a b:=w8 p0 p1
        have w3:ac (i+2+1)=i+3:=by rw [w64 (by omega) (by omega)];omega
        have ha3:decide ((out.length+ [37,upI (by8 a),upI (by8 b)].length)*1≤140737488355328)=true:=dT' (by simp only [List.length_cons,List.length_nil];omega)
        have ha1:decide ((out.length+ [cg a b].length)*1≤140737488355328)=true:=dT' (by simp only [List.length_cons,List.length_nil];omega)
        simp only [Bool.not_false,Bool.and_self,cond_true,cond_false,Bool.not_true,hp,dT' p0,dT' p1,nt,j0 a b p0 p1,ON,w3,cy,ha3,ha1]
        have h4:=h3.step
        rw [show i+2+1=i+3 by omega]at h4
        cases kA (cg a b)
        ·have:=ih r (i+3) (out++[37,upI (by8 a),upI (by8 b)]) h4 (by omega) (by simp;omega)
         rw [cond_false]
         refine Eq.trans (gQ ha3) ?_
         rw [this,List.append_assoc];rfl
        ·have:=ih r (i+3) (out++[cg a b]) h4 (by omega) (by simp;omega)
         rw [cond_true,this,List.append_assoc];rfl
       ·simp only [Bool.not_false,Bool.not_true,Bool.and_false,cond_true,cond_false];rfl
      ·simp only [Bool.not_true,Bool.not_false,Bool.false_and,cond_true,cond_false];rfl
theorem FD:Sound Kx 265 Ik:=by
 refine(B8 (φ:=fun s=>.ite (decide (s.length≤1000000)) (.ret (.str (cA s)) []) .fail) (fun s=>s.length+1) fun s r h=> ?_).of fun args objs r h=> ?_
 ·obtain⟨h1,h2⟩:=af h
  cases h2
  rw [decide_eq_true_eq]at h1
  unfold uN
  rw [Ca s h1 _ _ s 0 [] (At.start s) (by omega) (by simp),List.nil_append,l_]
 ·unfold Ik at h;split at h
  ·exact h
  ·cases h
theorem uX (l:aa) (hl:l.length≤4611686018427387904) (k0 k1:OR'): ∀(r:aa) (i:Int) (n:Nat),At l i r→r.length<n→dq n l i k0 k1=bif a7 hoB r then k1 else k0:=by
 intro r;induction r with
 |nil=>intro i n h hn;obtain⟨n,rfl⟩:=bC hn;unfold dq fT;simp only [h.dge,cond_false,a7,List.all_nil,cond_true]
 |cons a r ih=>
  intro i n h hn;obtain⟨n,rfl⟩:=bC hn
  have hs:=ih (i+1) n h.step (by simp at hn;omega)
  unfold dq fT;simp only [h.dlt,h.dnn,h.str,cond_true,h.next hl,hs,a7,List.all_cons]
  cases hoB (by8 a)<;>rfl
def FE:=gP fun s=>.ite (isM s) (.ret (.bool (a7 hoB s)) []) .fail
theorem xq:Sound Kx 191 FE:=by
 refine uR (fun s=>s.length+1) fun s r h=> ?_
 obtain⟨h1,h2⟩:=af h
 unfold nk
 rw [uX s (b8 h1) _ _ s 0 _ (At.start s) (by omega),←h2]
 cases a7 hoB s<;>rfl
def laB (n:Int):Bool:=eX n||bb n||decide (n=45)
theorem xr (l:List aa) (j:Int) (r0:List aa) (w:aa) (hw:w.length≤1000000) (hj:At l j (w::r0)) (k0 k1:Int→List aa→OR'): ∀(r:aa) (i:Int) (n:Nat),At w i r→r.length<n→
 d8 n j i l k0 k1=bif a7 laB r then k1 j l else k0 j l:=by
 intro r;induction r with
 |nil=>intro i n h hn;obtain⟨n,rfl⟩:=bC hn;unfold d8 iD;simp only [hj.dlt,hj.dnn,hj.get,cond_true,h.dge,cond_false];rfl
 |cons a r ih=>
  intro i n h hn;obtain⟨n,rfl⟩:=bC hn
  have hs:=ih (i+1) n h.step (by simp at hn;omega)
  have hall:a7 laB (a::r)=(laB (by8 a)&&a7 laB r):=rfl
  unfold d8 iD
  simp only [hj.dlt,hj.dnn,hj.get,cond_true,h.dlt,h.dnn,h.str,h.next (show w.length≤4611686018427387904 by omega),hs,hall]
  unfold laB eX
  cases decide (97≤by8 a)<;>cases decide (by8 a≤122)<;>cases bb (by8 a)<;>cases decide (by8 a=45)<;>rfl
theorem Cb (N:Nat) (l:List aa) (hl:l.length≤1000000) (hN: ∀w∈l,w.length<N∧w.length≤1000000) (k0 k1:OR'): ∀(r:List aa) (j:Int) (n:Nat),At l j r→r.length<n→
 fU N n j l k0 k1=bif r.all (fun w=> !decide (w=[])&&a7 laB w)then k1 else k0:=by
 intro r;induction r with
 |nil=>intro j n h hn;obtain⟨n,rfl⟩:=bC hn;unfold fU k9;simp only [h.dge,cond_false];rfl
 |cons w r ih=>
  intro j n h hn;obtain⟨n,rfl⟩:=bC hn
  have hs:=ih (j+1) n h.step (by simp at hn;omega)
  have hw:w∈l:=by obtain⟨p,rfl,_⟩:=h;simp
  unfold fU k9
  simp only [h.dlt,h.dnn,h.get,cond_true,List.all_cons]
  cases c:decide (w=[])
  ·rw [cond_false,xr l j r w (hN w hw).2 h _ _ w 0 N (At.start w) (hN w hw).1]
   simp only [h.next (show l.length≤4611686018427387904 by omega),hs,Bool.not_false,Bool.true_and]
   cases a7 laB w<;>rfl
  ·simp only [cond_true,Bool.not_true,Bool.false_and,cond_false]
theorem xu (b:Int): ∀(r cur:aa) (w:aa),w∈ji b cur r→w.length≤cur.length+r.length
 | [],cur,w,h=>by
   have:w=cur:=by simpa [ji]using h
   subst this;simp
 |x::r,cur,w,h=>by
  rw [ne]at h
  cases c:decide (by8 x=b)
  ·rw [c,cond_false]at h
   have:=xu b r _ w h
   simp at this⊢;omega
  ·rw [c,cond_true]at h
   rcases List.mem_cons.1 h with h|h
   ·subst h;simp
   ·have:=xu b r _ w h
    simp at this⊢;omega
theorem zW {α:Type} (p q:α→Bool): ∀l:List α,l.all (fun x=>p x&&q x)=(l.all p&&l.all q)
 | []=>rfl
 |a::l=>by simp only [List.all_cons];rw [zW p q l];cases p a<;>cases q a<;>cases l.all p<;>rfl
theorem MX (l:List aa):(l.all fun w=> !decide (w=[]))= !inP l []:=by
 unfold inP
 induction l with
 |nil=>rfl
 |cons a l ih=>rw [List.all_cons,List.any_cons,ih];cases decide (a=[])<;>rfl
theorem Cc {p q:Int→Bool} (h: ∀n,p n=q n) (s:aa):a7 p s=a7 q s:=by
 have:p=q:=funext h
 rw [this]
theorem Il (s:aa):((eZ s 46).all fun w=> !decide (w=[])&&a7 laB w)=(a7 hoB s&& !inP (eZ s 46) []):=by
 rw [zW,MX]
 have:=rB 46 laB s []
 rw [show(eZ s 46).all (fun s=>a7 laB s)=(ji 46 [] s).all (fun s=>a7 laB s)from rfl,this]
 rw [show a7 laB []=true from rfl,Bool.true_and,Cc (q:=hoB) (fun n=>by
  unfold laB hoB
  cases eX n<;>cases bb n<;>cases decide (n=45)<;>cases decide (n=46)<;>rfl),Bool.and_comm]
def OO:List AV→List Ob→Br
 | [.str s],[]=>.ret (.bool (f7 s)) []
 |_,_=>.fail
theorem FF:Sound Kx 266 OO:=by
 refine(B9 (φ:=fun s=>.ret (.bool (f7 s)) []) (fun s=>s.length+3) fun s r h=> ?_).of fun args objs r h=> ?_
 ·cases h
  unfold uU f7
  cases c1:decide ((s.length:Int)=0)
  ·have c1':=of_decide_eq_false c1
   cases c2:decide ((60:Int)< (s.length:Int))
   ·have c2':=of_decide_eq_false c2
    rw [dT' (show 1≤s.length by omega),dT' (show s.length≤60 by omega),dT' (show s.length≤1000000 by omega)]
    simp only [cond_false,cond_true,Bool.true_and]
    have hlen:=ng s 46
    rw [Cb _ (eZ s 46) (by omega) (fun w hw=>by have:=xu 46 s [] w hw;simp at this;omega) _ _ _ 0 _ (At.start _) (by omega),Il]
    cases a7 hoB s&& !inP (eZ s 46) []<;>rfl
   ·have c2':=of_decide_eq_true c2
    rw [dF' (show ¬s.length≤60 by omega),Bool.and_false,Bool.false_and,Bool.false_and];rfl
  ·have c1':=of_decide_eq_true c1
   rw [dF' (show ¬1≤s.length by omega),Bool.false_and,Bool.false_and,Bool.false_and];rfl
 ·unfold OO at h;split at h
  ·exact h
  ·cases h
def OP:List AV→List Ob→Br
 | [.int .i64 n],[]=>.ret (.str (bif bv n then bF n else [])) []
 |_,_=>.fail
theorem FG:Sound Kx 285 OP:=iDecT_ok.of fun args objs r h=>by
 unfold OP at h
 split at h
 case h_2=>cases h
 rename_i n
 cases h
 show(rG n).val=_
 unfold rG bv
 cases decide (0≤n)<;>cases decide (n≤999999999999999)<;>rfl
theorem rI (s:aa) (hl:s.length≤15) (k0 k1:aa→Int→OR') (K0:OR') (h0: ∀x,k0 s x=K0): ∀(r:aa) (v i:Int) (n:Nat),At s i r→r.length<n→0≤v→(v+1)*10^r.length≤1000000000000000→
 cL n s v i k0 k1=bif a7 bb r then k1 s (nc r v)else K0:=by
 intro r;induction r with
 |nil=>intro v i n h hn hv hb;obtain⟨n,rfl⟩:=bC hn;unfold cL eN;simp only [h.dge,cond_false];rfl
 |cons a r ih=>
  intro v i n h hn hv hb;obtain⟨n,rfl⟩:=bC hn
  simp only [List.length_cons]at hn hb
  have hp:(1:Int)≤10^r.length:=by have h0:(0:Int)<10^r.length:=Int.pow_pos (by decide);omega
  have hb':((v+1)*10)*10^r.length≤1000000000000000:=by rw [Int.pow_succ,Int.mul_comm (10^r.length) 10,←Int.mul_assoc]at hb;exact hb
  have hv10:(v+1)*10≤1000000000000000:=Int.le_trans (by have:=Int.mul_le_mul_of_nonneg_left hp (show 0≤(v+1)*10 by omega);rwa [Int.mul_one]at this) hb'
  have hall:a7 bb (a::r)=(bb (by8 a)&&a7 bb r):=rfl
  have hN:nc (a::r) v=nc r (v*10+(by8 a-48)):=rfl
  unfold cL eN
  simp only [h.dlt,h.dnn,h.str,cond_true,h.next (show s.length≤4611686018427387904 by omega),h0,hall,hN]
  cases c1:bb (by8 a)
  ·rfl
  ·have c1':=c1
   simp only [bb,Bool.and_eq_true,decide_eq_true_eq]at c1'
   have e:ac (ac (v*10)+ac (wk8 (by8 a-48)))=v*10+(by8 a-48):=by simp (disch:=omega) only [w8,w64]
   simp only [Bool.not_true,cond_false,Bool.true_and,e]
   exact ih _ (i+1) n h.step (by omega) (by omega) (Int.le_trans (Int.mul_le_mul_of_nonneg_right (show v*10+(by8 a-48)+1≤(v+1)*10 by omega) (by omega)) hb')
def OQ:List AV→List Ob→Br
 | [.str s],[]=>.ret (.tup [.int .i64 (eY s).1,.bool (eY s).2]) []
 |_,_=>.fail
theorem uY:Sound Kx 204 OQ:=by
 refine(rH (φ:=fun s=>.ret (.tup [.int .i64 (eY s).1,.bool (eY s).2]) []) (fun s=>s.length+1) fun s r h=> ?_).of fun args objs r h=> ?_
 ·cases h
  unfold jX eY
  cases c1:decide ((s.length:Int)=0)
  ·have c1':=of_decide_eq_false c1
   cases c2:decide ((15:Int)< (s.length:Int))
   ·have c2':=of_decide_eq_false c2
    simp only [cond_false]
    rw [rI s (by omega) _ _ (some (AV.tup [AV.int .i64 0,AV.bool false],[])) (fun _=>rfl) s 0 0 _ (At.start s) (by omega) (by omega) ?_,dT' (show 1≤s.length by omega),dT' (show s.length≤15 by omega)]
    ·cases ha:a7 bb s
     ·rfl
     ·have:=zJ s ha (by omega)
      have h15:bv (nc s 0)=true:=by unfold bv;rw [dT' this.1,dT' this.2];rfl
      simp only [h15,cond_true,Bool.true_and]
      cases decide (bF (nc s 0)=s)<;>rfl
    ·have h3:(10:Nat)^s.length≤10^15:=Nat.pow_le_pow_right (by decide) (by omega)
     have e:(10:Int)^s.length=((10^s.length:Nat):Int):=by rw [Int.natCast_pow];rfl
     rw [e]
     have e2:(10:Nat)^15=1000000000000000:=by decide
     omega
   ·have c2':=of_decide_eq_true c2
    rw [dF' (show ¬s.length≤15 by omega),Bool.and_false,Bool.false_and,Bool.false_and];rfl
  ·have c1':=of_decide_eq_true c1
   rw [dF' (show ¬1≤s.length by omega),Bool.false_and,Bool.false_and,Bool.false_and];rfl
 ·unfold OQ at h;split at h
  ·exact h
  ·cases h
def zX:Opt:={cons:=[49],live:=[(6,[3,4,29,30,31])],outs:=[(6,[2,3,4])]}
def iClean_C:SC:=[⟨230,_,MB⟩,⟨191,_,fL⟩,⟨286,_,Fp⟩,⟨288,_,FB⟩,⟨287,_,uK⟩,⟨262,_,Ib⟩]
def iE (Hi AN:(List aa)) (Hj vV:Int) (si:(List aa)) (Pe:(List aa)→(List aa)→Int→Int→(List aa)→OR') (N1:(List aa)→(List aa)→OR'):OR':=
 (bif(decide (vV<Hj))then(bif(decide (0≤vV))then(bif(decide (vV< (AN.length:Int)))then(bif(decide ((List.getD AN (Int.toNat vV) ([]:aa))=([46]:aa)))then(Pe Hi AN Hj (ac (vV+1)) si)else(bif(decide ((List.getD AN (Int.toNat vV) ([]:aa))=([46,46]:aa)))then(bif(decide (0≤(if(0< (ac ((si.length:Int)-1)))then(ac ((si.length:Int)-1))else 0)))then(bif(decide ((if(0< (ac ((si.length:Int)-1)))then(ac ((si.length:Int)-1))else 0)≤(si.length:Int)))then(Pe Hi AN Hj (ac (vV+1)) (cut si 0 (if(0< (ac ((si.length:Int)-1)))then(ac ((si.length:Int)-1))else 0)))else(none))else(none))else(bif(decide (((si.length+(List.length (List.set (List.replicate 1 ([]:aa)) 0 (List.getD AN (Int.toNat vV) ([]:aa)))))*16)≤140737488355328))then(Pe Hi AN Hj (ac (vV+1)) (si++(List.set (List.replicate 1 ([]:aa)) 0 (List.getD AN (Int.toNat vV) ([]:aa)))))else(none))))else(none))else(none))else(N1 Hi si))
def d9:Nat→(List aa)→(List aa)→Int→Int→(List aa)→((List aa)→(List aa)→OR')→OR'
 |0,_,_,_,_,_,_=>none
 |n+1,Hi,AN,Hj,vV,si,N1=>iE Hi AN Hj vV si (fun Hi AN Hj vV si=>d9 n Hi AN Hj vV si N1) N1
abbrev iClean_p6:SP:=⟨69,[3,4,29,30,31],[(.v (.ref 256 0)),(.v (.sh Ty.str)),(.v (.sh Ty.str)),(.v (.i .i64)),(.v (.i .i64))],[(256,.arr Ty.str 0 false)]⟩
noncomputable def uZ:Code:=aG (aI Tryz.f222) [1,1,1,1,0,1,0,0]
def u5 (f:((List aa)→(List aa)→OR')→OR') (k:KT):OR':=f (fun iS c_=>k (Ex.exit 0) ((St.mk (aE 0 69 [(3,(AV.ref 256 0)),(4,(AV.sh Ty.str iS))]) ((256,(Ob.arr Ty.str 0 false c_))::([]:(List (Nat×(Ob))))))))
def u6 (n:Nat) (d:iClean_p6.D):KT→OR':=u5 (d9 n d.1.2.1 d.1.2.2.1 d.1.2.2.2.1 d.1.2.2.2.2.1 d.2.1)
def zY (N:Nat):Lam:=bD [⟨6,iClean_p6,u6 N⟩]
theorem Cd (N:Nat):OkL Kx iClean_C.s zX 0 N (zY N) uZ:=okL iClean_p6 (u6) (fun d kR=>u5 (iE d.1.2.1 d.1.2.2.1 d.1.2.2.2.1 d.1.2.2.2.2.1 d.2.1 (fun Hi AN Hj vV si=>kR (((),Hi,AN,Hj,vV,()),(si,()))))) (fun _ _=>by kernel_rfl) (fun _ _ _=>by kernel_rfl) (fun _ _=>by kernel_rfl) (fun _ _ _ _=>by kernel_rfl) (ah (l':=[]) (by kernel_rfl) trivial)
def pT (N:Nat) (p:aa):OR':=(bif(decide (1≤(p.length:Int)))then(bif(decide (1≤(p.length:Int)))then(bif(!(decide ((cut p 0 1)=([47]:aa))))then(some ((AV.str ([]:aa)),[]))else(bif(decide (200< (p.length:Int)))then(some ((AV.str ([]:aa)),[]))else(bif(isM p)then(bif(!(a7 bO p))then(some ((AV.str ([]:aa)),[]))else(bif((((decide (p.length≤1000000))&&true)&&(Hf p))&&true)then(bif(decide (0≤(jj p ([35,63]:aa))))then(some ((AV.str ([]:aa)),[]))else(bif(decide (p.length≤1000000))then(bif(decide (1≤((List.length (cA p)):Int)))then(bif(decide ((List.length (cut (cA p) 1 ((List.length (cA p)):Int)))≤1000000))then(d9 N (eZ (cut (cA p) 1 ((List.length (cA p)):Int)) 47) (eZ (cut (cA p) 1 ((List.length (cA p)):Int)) 47) ((List.length (eZ (cut (cA p) 1 ((List.length (cA p)):Int)) 47)):Int) 0 ([]:(List aa)) (fun iS=>(fun c_=>(bif(decide (0≤(ac ((iS.length:Int)-1))))then(bif(decide ((ac ((iS.length:Int)-1))< (iS.length:Int)))then(bif(decide ((List.getD iS (Int.toNat (ac ((iS.length:Int)-1))) ([]:aa))=([46]:aa)))then(bif(decide (((c_.length+1)*16)≤140737488355328))then(bif((decide ((List.length (c_++(List.set (List.replicate 1 ([]:aa)) 0 ([]:aa))))≤1000000))&&(decide ((List.length (fx (c_++(List.set (List.replicate 1 ([]:aa)) 0 ([]:aa))) ([47]:aa)))≤1000000)))then(bif(decide ((1+(List.length (fx (c_++(List.set (List.replicate 1 ([]:aa)) 0 ([]:aa))) ([47]:aa))))≤9223372036854775807))then(some ((AV.str (([47]:aa)++(fx (c_++(List.set (List.replicate 1 ([]:aa)) 0 ([]:aa))) ([47]:aa)))),[]))else(none))else(none))else(none))else(bif(decide ((List.getD iS (Int.toNat (ac ((iS.length:Int)-1))) ([]:aa))=([46,46]:aa)))then(bif(decide (((c_.length+1)*16)≤140737488355328))then(bif((decide ((List.length (c_++(List.set (List.replicate 1 ([]:aa)) 0 ([]:aa))))≤1000000))&&(decide ((List.length (fx (c_++(List.set (List.replicate 1 ([]:aa)) 0 ([]:aa))) ([47]:aa)))≤1000000)))then(bif(decide ((1+(List.length (fx (c_++(List.set (List.replicate 1 ([]:aa)) 0 ([]:aa))) ([47]:aa))))≤9223372036854775807))then(some ((AV.str (([47]:aa)++(fx (c_++(List.set (List.replicate 1 ([]:aa)) 0 ([]:aa))) ([47]:aa)))),[]))else(none))else(none))else(none))else(bif((decide (c_.length≤1000000))&&(decide ((List.length (fx c_ ([47]:aa)))≤1000000)))then(bif(decide ((1+(List.length (fx c_ ([47]:aa))))≤9223372036854775807))then(some ((AV.str (([47]:aa)++(fx c_ ([47]:aa)))),[]))else(none))else(none))))else(none))else(none)))))else(none))else(none))else(none)))else(none)))else(none))))else(none))else(some ((AV.str ([]:aa)),[])))
def pU (φ:aa→Br):List AV→List Ob→Br
 | [.str p],[]=>φ p
 |_,_=>.fail
theorem xw {φ:aa→Br} (fu:aa→Nat) (hv: ∀p res_,(φ p).val=some res_→pT (fu p) p=some res_):Sound Kx 222 (pU φ):=an (C:=iClean_C) (O:=zX) Tryz.func222 (by kernel_rfl) fun args objs=>by
 unfold pU;split
 ·rename_i p;exact .inr fun _ hyp_=>aV (Λ:=zY (fu p)) (by kernel_rfl) (ah (l':=[uZ]) (by kernel_rfl) ⟨Cd _,trivial⟩) (by kernel_rfl) (hv p _ hyp_)
 ·exact .inl rfl
def ld:Opt:={cons:=[80],live:=[(22,[5,8,9]),(11,[4,5,6]),(4,[0,3])],outs:=[(22,[2,8]),(11,[2,5]),(4,[0,2])]}
def sClean_C:SC:=[⟨183,_,kU⟩,⟨265,_,FD⟩,⟨264,_,pM⟩]
def iF (aF:aa) (aX:Int) (Pd:aa→Int→OR') (cF eS:aa→OR'):OR':=
 (bif(decide (aX< (aF.length:Int)))then(bif(decide (0≤aX))then(bif(decide (aX< (aF.length:Int)))then(bif(decide ((av aF aX)=35))then(cF aF)else(bif(decide (0≤aX))then(bif(decide (aX< (aF.length:Int)))then(bif(decide ((av aF aX)=63))then(cF aF)else(Pd aF (ac (aX+1))))else(none))else(none)))else(none))else(none))else(eS aF))
def d_:Nat→aa→Int→(aa→OR')→(aa→OR')→OR'
 |0,_,_,_,_=>none
 |n+1,aF,aX,cF,eS=>iF aF aX (fun aF aX=>d_ n aF aX cF eS) cF eS
abbrev sClean_p4:SP:=⟨114,[0,3],[(.v .s),(.v (.i .i64))],[]⟩
noncomputable def u7:Code:=aG (aI Tryz.f205) [1,1,0,1,0,0]
def u9 (f:(aa→OR')→(aa→OR')→OR') (k:KT):OR':=f (fun cq=>k Ex.ret ((St.mk (aE 0 114 [(0,(AV.str cq)),(2,(AV.str ([]:aa)))]) ([]:(List (Nat×(Ob))))))) (fun bw=>k (Ex.exit 0) ((St.mk (aE 0 114 [(0,(AV.str bw))]) ([]:(List (Nat×(Ob)))))))
def u_ (n:Nat) (d:sClean_p4.D):KT→OR':=u9 (d_ n d.1.1 d.1.2.1)
def ec (bg:Int) (bx bA:(List aa)) (xX:Int→(List aa)→(List aa)→OR') (Ja:(List aa)→OR'):OR':=
 (bif(decide (bg< (bx.length:Int)))then(bif(decide (0≤bg))then(bif(decide (bg< (bx.length:Int)))then(bif(decide ((List.getD bx (Int.toNat bg) ([]:aa))=([46]:aa)))then(bif(decide (0≤bg))then(bif(decide (bg< (bx.length:Int)))then(bif(decide ((List.getD bx (Int.toNat bg) ([]:aa))=([46,46]:aa)))then(bif(decide (0< (bA.length:Int)))then(bif(decide (0≤(ac ((bA.length:Int)-1))))then(bif(decide ((ac ((bA.length:Int)-1))≤(bA.length:Int)))then(bif(decide ((ac (bg+1))=(bx.length:Int)))then(bif(decide ((((List.length (cut bA 0 (ac ((bA.length:Int)-1))))+1)*16)≤140737488355328))then(xX (ac (bg+1)) bx ((cut bA 0 (ac ((bA.length:Int)-1)))++(List.set (List.replicate 1 ([]:aa)) 0 ([]:aa))))else(none))else(xX (ac (bg+1)) bx (cut bA 0 (ac ((bA.length:Int)-1)))))else(none))else(none))else(bif(decide ((ac (bg+1))=(bx.length:Int)))then(bif(decide (((bA.length+1)*16)≤140737488355328))then(xX (ac (bg+1)) bx (bA++(List.set (List.replicate 1 ([]:aa)) 0 ([]:aa))))else(none))else(xX (ac (bg+1)) bx bA)))else(bif(decide ((ac (bg+1))=(bx.length:Int)))then(bif(decide (((bA.length+1)*16)≤140737488355328))then(xX (ac (bg+1)) bx (bA++(List.set (List.replicate 1 ([]:aa)) 0 ([]:aa))))else(none))else(xX (ac (bg+1)) bx bA)))else(none))else(none))else(bif(decide (0≤bg))then(bif(decide (bg< (bx.length:Int)))then(bif(decide (0≤bg))then(bif(decide (bg< (bx.length:Int)))then(bif(decide ((List.getD bx (Int.toNat bg) ([]:aa))=([46,46]:aa)))then(bif(decide (0< (bA.length:Int)))then(bif(decide (0≤(ac ((bA.length:Int)-1))))then(bif(decide ((ac ((bA.length:Int)-1))≤(bA.length:Int)))then(bif(!(decide ((List.getD bx (Int.toNat bg) ([]:aa))=([46,46]:aa))))then(bif(decide (0≤bg))then(bif(decide (bg< (bx.length:Int)))then(bif(decide ((((List.length (cut bA 0 (ac ((bA.length:Int)-1))))+(List.length (List.set (List.replicate 1 ([]:aa)) 0 (List.getD bx (Int.toNat bg) ([]:aa)))))*16)≤140737488355328))then(xX (ac (bg+1)) bx ((cut bA 0 (ac ((bA.length:Int)-1)))++(List.set (List.replicate 1 ([]:aa)) 0 (List.getD bx (Int.toNat bg) ([]:aa)))))else(none))else(none))else(none))else(bif(decide ((ac (bg+1))=(bx.length:Int)))then(bif(decide ((((List.length (cut bA 0 (ac ((bA.length:Int)-1))))+1)*16)≤140737488355328))then(xX (ac (bg+1)) bx ((cut bA 0 (ac ((bA.length:Int)-1)))++(List.set (List.replicate 1 ([]:aa)) 0 ([]:aa))))else(none))else(xX (ac (bg+1)) bx (cut bA 0 (ac ((bA.length:Int)-1))))))else(none))else(none))else(bif(!(decide ((List.getD bx (Int.toNat bg) ([]:aa))=([46,46]:aa))))then(bif(decide (0≤bg))then(bif(decide (bg< (bx.length:Int)))then(bif(decide (((bA.length+(List.length (List.set (List.replicate 1 ([]:aa)) 0 (List.getD bx (Int.toNat bg) ([]:aa)))))*16)≤140737488355328))then(xX (ac (bg+1)) bx (bA++(List.set (List.replicate 1 ([]:aa)) 0 (List.getD bx (Int.toNat bg) ([]:aa)))))else(none))else(none))else(none))else(bif(decide ((ac (bg+1))=(bx.length:Int)))then(bif(decide (((bA.length+1)*16)≤140737488355328))then(xX (ac (bg+1)) bx (bA++(List.set (List.replicate 1 ([]:aa)) 0 ([]:aa))))else(none))else(xX (ac (bg+1)) bx bA))))else(bif(!(decide ((List.getD bx (Int.toNat bg) ([]:aa))=([46,46]:aa))))then(bif(decide (0≤bg))then(bif(decide (bg< (bx.length:Int)))then(bif(decide (((bA.length+(List.length (List.set (List.replicate 1 ([]:aa)) 0 (List.getD bx (Int.toNat bg) ([]:aa)))))*16)≤140737488355328))then(xX (ac (bg+1)) bx (bA++(List.set (List.replicate 1 ([]:aa)) 0 (List.getD bx (Int.toNat bg) ([]:aa)))))else(none))else(none))else(none))else(bif(decide ((ac (bg+1))=(bx.length:Int)))then(bif(decide (((bA.length+1)*16)≤140737488355328))then(xX (ac (bg+1)) bx (bA++(List.set (List.replicate 1 ([]:aa)) 0 ([]:aa))))else(none))else(xX (ac (bg+1)) bx bA))))else(none))else(none))else(none))else(none)))else(none))else(none))else(Ja bA))
def bN:Nat→Int→(List aa)→(List aa)→((List aa)→OR')→OR'
 |0,_,_,_,_=>none
 |n+1,bg,bx,bA,Ja=>ec bg bx bA (fun bg bx bA=>bN n bg bx bA Ja) Ja
abbrev sClean_p11:SP:=⟨114,[4,5,6],[(.v (.ref 320 0)),(.v (.ref 384 0)),(.v (.i .i64))],[(320,.arr Ty.str 0 false),(384,.arr Ty.str 0 false)]⟩
noncomputable def pV:Code:=aG (aI Tryz.f205) [1,1,1,1,1,0,1,0,0]
def pW (f:((List aa)→OR')→OR') (k:KT):OR':=f (fun xY=>k (Ex.exit 2) ((St.mk (aE 0 114 [(5,(AV.ref 384 0))]) ((384,(Ob.arr Ty.str 0 false xY))::([]:(List (Nat×(Ob))))))))
def pX (n:Nat) (d:sClean_p11.D):KT→OR':=pW (bN n d.1.2.2.1 d.2.1 d.2.2.1)
def fV (ov:aa) (kC:Int) (n5:(List aa)) (O9:aa→Int→(List aa)→OR') (Jb:aa→OR'):OR':=
 (bif(decide (kC< (n5.length:Int)))then(bif(decide ((ov.length+1)≤9223372036854775807))then(bif(decide (0≤kC))then(bif(decide (kC< (n5.length:Int)))then(bif(decide (((List.length (ov++([47]:aa)))+(List.length (List.getD n5 (Int.toNat kC) ([]:aa))))≤9223372036854775807))then(O9 ((ov++([47]:aa))++(List.getD n5 (Int.toNat kC) ([]:aa))) (ac (kC+1)) n5)else(none))else(none))else(none))else(none))else(Jb ov))
def dr:Nat→aa→Int→(List aa)→(aa→OR')→OR'
 |0,_,_,_,_=>none
 |n+1,ov,kC,n5,Jb=>fV ov kC n5 (fun ov kC n5=>dr n ov kC n5 Jb) Jb
abbrev sClean_p22:SP:=⟨114,[5,8,9],[(.v (.ref 384 0)),(.v .s),(.v (.i .i64))],[(384,.arr Ty.str 0 false)]⟩
noncomputable def pY:Code:=aG (aI Tryz.f205) [1,1,1,1,1,1,1,0,1,0,0]
def pZ (f:(aa→OR')→OR') (k:KT):OR':=f (fun sc=>k (Ex.exit 4) ((St.mk (aE 0 114 [(8,(AV.str sc))]) ([]:(List (Nat×(Ob)))))))
def p7 (n:Nat) (d:sClean_p22.D):KT→OR':=pZ (dr n d.1.2.1 d.1.2.2.1 d.2.1)
def lf (N:Nat):Lam:=bD [⟨4,sClean_p4,u_ N⟩,⟨11,sClean_p11,pX N⟩,⟨22,sClean_p22,p7 N⟩]
theorem Ce (N:Nat):OkL Kx sClean_C.s ld 0 N (lf N) u7:=okL sClean_p4 (u_) (fun d kR=>u9 (iF d.1.1 d.1.2.1 (fun aF aX=>kR ((aF,aX,()),())))) (fun _ _=>by kernel_rfl) (fun _ _ _=>by kernel_rfl) (fun _ _=>by kernel_rfl) (fun _ _ _ _=>by kernel_rfl) (ah (l':=[]) (by kernel_rfl) trivial)
theorem xx (N:Nat):OkL Kx sClean_C.s ld 0 N (lf N) pV:=okL sClean_p11 (pX) (fun d kR=>pW (ec d.1.2.2.1 d.2.1 d.2.2.1 (fun bg bx bA=>kR (((),(),bg,()),(bx,bA,()))))) (fun _ _=>by kernel_rfl) (fun _ _ _=>by kernel_rfl) (fun _ _=>by kernel_rfl) (fun _ _ _ _=>by kernel_rfl) (ah (l':=[]) (by kernel_rfl) trivial)
theorem xy (N:Nat):OkL Kx sClean_C.s ld 0 N (lf N) pY:=okL sClean_p22 (p7) (fun d kR=>pZ (fV d.1.2.1 d.1.2.2.1 d.2.1 (fun ov kC n5=>kR (((),ov,kC,()),(n5,()))))) (fun _ _=>by kernel_rfl) (fun _ _ _=>by kernel_rfl) (fun _ _=>by kernel_rfl) (fun _ _ _ _=>by kernel_rfl) (ah (l':=[]) (by kernel_rfl) trivial)
def p8 (N:Nat) (p:aa):OR':=(bif(decide ((p.length:Int)=0))then(some ((AV.str ([]:aa)),[]))else(bif(decide (200< (p.length:Int)))then(some ((AV.str ([]:aa)),[]))else(bif(decide (0< (p.length:Int)))then(bif(!(decide ((av p 0)=47)))then(some ((AV.str ([]:aa)),[]))else(bif(isM p)then(bif(!((a7 bO p)&&(decide (0< (p.length:Int)))))then(some ((AV.str ([]:aa)),[]))else(d_ N p 0 (fun cq=>(some ((AV.str ([]:aa)),[]))) (fun bw=>(bif(decide (bw.length≤1000000))then(bif(decide (1≤((List.length (cA bw)):Int)))then(bif(decide ((List.length (cut (cA bw) 1 ((List.length (cA bw)):Int)))≤1000000))then(bN N 0 (eZ (cut (cA bw) 1 ((List.length (cA bw)):Int)) 47) ([]:(List aa)) (fun xY=>(dr N ([]:aa) 0 xY (fun sc=>(bif(decide (sc=([]:aa)))then(some ((AV.str ([47]:aa)),[]))else(some ((AV.str sc),[])))))))else(none))else(none))else(none)))))else(none)))else(none))))
def p9 (φ:aa→Br):List AV→List Ob→Br
 | [.str p],[]=>φ p
 |_,_=>.fail
theorem xz {φ:aa→Br} (fu:aa→Nat) (hv: ∀p res_,(φ p).val=some res_→p8 (fu p) p=some res_):Sound Kx 205 (p9 φ):=an (C:=sClean_C) (O:=ld) Tryz.func205 (by kernel_rfl) fun args objs=>by
 unfold p9;split
 ·rename_i p;exact .inr fun _ hyp_=>aV (Λ:=lf (fu p)) (by kernel_rfl) (ah (l':=[u7,pV,pY]) (by kernel_rfl) ⟨Ce _,xx _,xy _,trivial⟩) (by kernel_rfl) (hv p _ hyp_)
 ·exact .inl rfl
def Ld:SC:=[⟨124,_,bZ⟩,⟨191,_,xq⟩,⟨287,_,uK⟩,⟨162,_,Ie⟩]
def rJ (s:aa):Br:=(Br.ite (decide (1≤(s.length:Int))) (Br.ite (!(decide ((s.length:Int)≤60))) (Br.ret (AV.bool false) []) (Br.ite (isM s) (Br.ite (!(a7 hoB s)) (Br.ret (AV.bool false) []) (Br.ite (decide (s.length≤1000000)) (Br.ite (decide ((List.length (eZ s 46))≤1000000)) (Br.ret (AV.bool (!(inP (eZ s 46) ([]:aa)))) []) Br.fail) Br.fail)) Br.fail)) (Br.ret (AV.bool false) []))
def FH:List AV→List Ob→Br
 | [.str s],[]=>rJ s
 |_,_=>.fail
theorem iHost_ok:Sound Kx 289 FH:=ae (C:=Ld) (O:=O0) Tryz.func289 (by kernel_rfl) fun args objs=>by
 unfold FH;split
 ·exact .inr (by kernel_rfl)
 ·exact .inl rfl
def Cf:SC:=[⟨284,_,Ij⟩,⟨124,_,bZ⟩,⟨285,_,FG⟩]
def gR (s:aa):Br:=(Br.ite (decide (s.length≤1000000)) (Br.ite (dZ s) (Br.ite (decide (0≤(cV s))) (Br.ite (!(decide ((cV s)≤999999999999999))) (Br.ret (AV.tup ((AV.int .i64 0)::((AV.bool false)::[]))) []) (Br.ite (!(decide ((bif(bv (cV s))then(bF (cV s))else([]:aa))=s))) (Br.ret (AV.tup ((AV.int .i64 0)::((AV.bool false)::[]))) []) (Br.ret (AV.tup ((AV.int .i64 (cV s))::((AV.bool true)::[]))) []))) (Br.ret (AV.tup ((AV.int .i64 0)::((AV.bool false)::[]))) [])) (Br.ret (AV.tup ((AV.int .i64 0)::((AV.bool false)::[]))) [])) Br.fail)
def p_:List AV→List Ob→Br
 | [.str s],[]=>gR s
 |_,_=>.fail
theorem iReadDec_ok:Sound Kx 221 p_:=ae (C:=Cf) (O:=O0) Tryz.func221 (by kernel_rfl) fun args objs=>by
 unfold p_;split
 ·exact .inr (by kernel_rfl)
 ·exact .inl rfl
def bc:List aa→aa
 | []=>[]
 |w::r=>47::(w++bc r)
theorem Cg (w:aa) (r:List aa):bc (w::r)=47::(w++bc r):=rfl
theorem Oq {a b:Bool} (h:a=true) (k:b=true):(a&&b)=true:=by rw [h,k];rfl
theorem Ch (l:List aa):Lib.joinTail [47] l=bc l:=by
 induction l with
 |nil=>rfl
 |cons w r ih=>
  unfold bc
  rw [←ih]
  simp [Lib.joinTail]
theorem qa (l:List aa):47::fx l [47]=bif decide (bc l=[])then [47]else bc l:=by
 cases l with
 |nil=>rfl
 |cons w r=>
  unfold fx
  rw [Lib.join_cons,Ch,Cg,dF' (by simp)];rfl
theorem nu (a b:List aa):bc (a++b)=bc a++bc b:=by
 induction a with
 |nil=>rfl
 |cons w a ih=>simp only [List.cons_append,bc,ih];simp
theorem va (l:List aa):l.length≤(bc l).length:=by
 induction l with
 |nil=>exact Nat.le_refl _
 |cons w r ih=>simp only [bc,List.length_cons,List.length_append];omega
theorem nv (b:Int): ∀(r cur:aa),(bc (ji b cur r)).length=cur.length+r.length+1
 | [],cur=>by simp [ji,bc]
 |x::r,cur=>by
  rw [ne]
  cases decide (by8 x=b)
  ·rw [cond_false,nv b r];simp;try omega
  ·rw [cond_true];simp only [bc,List.length_cons,List.length_append,nv b r];simp;try omega
theorem Ci (l:List aa):(bc l.dropLast).length≤(bc l).length:=by
 cases h:l.reverse with
 |nil=>have:l=[]:=by simpa using h
       subst this;exact Nat.le_refl _
 |cons w r=>
  have e:l=r.reverse++[w]:=by rw [←List.reverse_reverse l,h];simp
  rw [e,List.dropLast_concat,nu];simp
theorem Cj (out:List aa) (w:aa):(bc (dc out w)).length≤(bc out).length+w.length+1:=by
 unfold dc
 cases decide (w=[46])
 ·cases decide (w=[46,46])
  ·simp only [cond_false,nu,List.length_append,bc,List.length_cons];simp;omega
  ·have:=Ci out;simp only [cond_true,cond_false];omega
 ·rw [cond_true];omega
theorem jk: ∀(l out:List aa),(bc (l.foldl dc out)).length≤(bc out).length+(bc l).length
 | [],out=>by simp
 |w::l,out=>by
  have h1:=Cj out w
  have h2:=jk l (dc out w)
  simp only [List.foldl_cons,bc,List.length_cons,List.length_append];omega
theorem jl (l:List aa):(bc (gM l)).length≤(bc l).length+1:=by
 unfold gM
 have:=jk l []
 rw [nu]
 cases xk (l.getLastD [])
 ·simp [bc]at this⊢;omega
 ·simp [bc]at this⊢;omega
theorem zZ (l:List aa): ∀out:List aa,(l.foldl dc out).length≤out.length+l.length:=by
 induction l with
 |nil=>intro out;simp
 |cons w l ih=>intro out;have:=ih (dc out w);have:=nj out w;simp only [List.foldl_cons,List.length_cons];omega
theorem z6 (l:List aa):(fx l [47]).length≤(bc l).length:=by
 have:=congrArg List.length (qa l)
 simp only [List.length_cons]at this
 cases h:decide (bc l=[])
 ·rw [h,cond_false]at this;omega
 ·rw [h,cond_true]at this;simp only [List.length_cons,List.length_nil]at this;omega
theorem z7 (l:List aa) (v:Int) (h:v=((l.length-1:Nat):Int)):cut l 0 v=l.dropLast:=by
 subst h
 unfold cut
 rw [Int.toNat_natCast]
 simp [List.dropLast_eq_take]
theorem vb: ∀(l:List aa),l≠ []→l.getD (l.length-1) []=l.getLastD []
 | [],h=>absurd rfl h
 | [w],_=>rfl
 |w::x::r,_=>by
  have ih:=vb (x::r) (by simp)
  simp only [List.length_cons,Nat.add_sub_cancel]at ih⊢
  rw [List.getD_cons_succ,ih]
  rfl
theorem xA (l0 l:List aa) (hl:l.length≤1000000) (k:List aa→List aa→OR'): ∀(r:List aa) (i:Int) (out:List aa) (n:Nat),At l i r→r.length<n→out.length+r.length≤1000000→
 d9 n l0 l (l.length:Int) i out k=k l0 (r.foldl dc out):=by
 intro r;induction r with
 |nil=>intro i out n h hn ho;obtain⟨n,rfl⟩:=bC hn;unfold d9 iE;simp only [h.dge,cond_false];rfl
 |cons w r ih=>
  intro i out n h hn ho;obtain⟨n,rfl⟩:=bC hn
  simp only [List.length_cons]at hn ho
  have hs:=nj out w
  have hr:=ih (i+1) (dc out w) n h.step (by omega) (by omega)
  have hap:decide ((out.length+ [w].length)*16≤140737488355328)=true:=dT' (by simp only [List.length_singleton];omega)
  have hv:(if(0:Int)<ac ((out.length:Int)-1)then ac ((out.length:Int)-1)else 0)=((out.length-1:Nat):Int):=by
   rw [w64 (by omega) (by omega)]
   split<;>omega
  have q1:decide ((0:Int)≤((out.length-1:Nat):Int))=true:=dT' (by omega)
  have q2:decide (((out.length-1:Nat):Int)≤(out.length:Int))=true:=dT' (by omega)
  unfold d9 iE
  simp only [h.dlt,h.dnn,h.get,cond_true,h.next (show l.length≤4611686018427387904 by omega),cy,hap,hv,q1,q2,z7 out _ rfl]
  simp only [List.foldl_cons]
  unfold dc at hr⊢
  cases c1:decide (w=[46])
  ·cases c2:decide (w=[46,46])
   ·rw [c1,c2]at hr;exact hr
   ·rw [c1,c2]at hr;exact hr
  ·rw [c1]at hr;exact hr
theorem fW (c:UInt8) (r:aa) (h:c≠47):aJ (c::r)=[]:=by
 unfold aJ
 split
 ·rename_i e;injection e with e1 e2;exact absurd e1 h
 ·rfl
theorem iG (r:aa):aJ (47::r)=bif jV (47::r)then 47::fx (gM (eZ (cA r) 47)) [47]else []:=rfl
theorem FI (s:aa) (h:a7 bO s=true):Hf s=true:=by
 unfold Hf a7 at *
 rw [List.all_eq_true]at *
 intro c hc
 have:=h c hc
 simp only [bO,Bool.and_eq_true,decide_eq_true_eq]at this
 exact dT' (by omega)
theorem Im (s:aa) (a b:UInt8):decide (0≤jj s [a,b])=(cB s (by8 a)||cB s (by8 b)):=by
 rw [gO]
 cases cB s (by8 a)||cB s (by8 b)
 ·rfl
 ·rw [cond_true];exact dT' (by omega)
theorem xB (r:aa) (h:r.length≤200):(eZ (cA r) 47).length≤201∧(bc (eZ (cA r) 47)).length≤201:=by
 have h1:=iC r
 have h2:=ng (cA r) 47
 have h3:=nv 47 (cA r) []
 unfold eZ at h2⊢
 simp only [List.length_nil]at h3
 omega
theorem qb:Sound Kx 222 (kz fun s=>.str (aJ s)):=by
 refine(xw (φ:=fun s=>.ite (isM s) (.ret (.str (aJ s)) []) .fail) (fun s=>s.length+3) fun p r h=> ?_).of fun args objs r h=> ?_
 ·obtain⟨hM,h2⟩:=af h
  cases h2
  unfold pT
  cases p with
  |nil=>rfl
  |cons c r=>
   have e1:decide ((1:Int)≤((c::r).length:Int))=true:=dT' (by simp only [List.length_cons];omega)
   have e2:cut (c::r) 0 1=[c]:=rfl
   simp only [e1,cond_true,e2]
   by_cases hc:c=47
   ·subst hc
    rw [iG]
    unfold jV
    simp only [decide_true,Bool.not_true,cond_false,hM,cond_true]
    cases d1:decide ((200:Int)< ((47::r:aa).length:Int))
    ·have d1':=of_decide_eq_false d1
     simp only [List.length_cons]at d1'
     rw [dT' (show(47::r:aa).length≤200 by simp only [List.length_cons];omega)]
     simp only [cond_false,Bool.true_and]
     cases d2:a7 bO (47::r)
     ·rfl
     have a1:=FI _ d2
     have m1:decide ((47::r:aa).length≤1000000)=true:=dT' (by simp only [List.length_cons];omega)
     simp only [Bool.not_true,cond_false,Bool.true_and,Bool.and_true,a1,m1,cond_true,Im]
     rw [show by8 35=35 from rfl,show by8 63=63 from rfl]
     cases d3:cB (47::r) 35
     ·cases d4:cB (47::r) 63
      ·simp only [Bool.or_false,cond_false,Bool.not_false,Bool.and_self,cond_true,pK]
       have hcut:cut (47::cA r) 1 ((47::cA r).length:Int)=cA r:=by
        exact Fb (p:=[47]) (r:=[]) (by simp) rfl (by simp only [List.length_cons];omega)
       have hb:=xB r (by omega)
       have hp:=iC r
       rw [hcut]
       have n1:decide ((1:Int)≤((47::cA r).length:Int))=true:=dT' (by simp only [List.length_cons];omega)
       have n2:decide ((cA r).length≤1000000)=true:=dT' (by omega)
       rw [n1,n2]
       simp only [cond_true]
       generalize hL:eZ (cA r) 47=L at hb
       have hne:L≠ []:=by rw [←hL];exact Ff 47 _ _
       rw [xA L L (by omega) _ L 0 [] _ (At.start L) (by have:=ng (cA r) 47;rw [hL]at this;simp only [List.length_cons];omega) (by simp;omega)]
       have hlen:1≤L.length:=List.length_pos_iff.2 hne
       have w1:ac ((L.length:Int)-1)=(L.length:Int)-1:=w64 (by omega) (by omega)
       have t1:((L.length:Int)-1).toNat=L.length-1:=by omega
       have g1:=jl L
       have g2:=z6 (gM L)
       have g3:=va (gM L)
       have g4:=jk L []
       have g5:=zZ L []
       have q1:decide ((0:Int)≤(L.length:Int)-1)=true:=dT' (by omega)
       have q2:decide ((L.length:Int)-1< (L.length:Int))=true:=dT' (by omega)
       have q3:decide (((L.foldl dc []).length+1)*16≤140737488355328)=true:=dT' (by simp at g5;omega)
       simp only [w1,t1,q1,q2,q3,cond_true,vb L hne,cy]
       have hsd:xk (L.getLastD [])=(decide (L.getLastD []=[46])||decide (L.getLastD []=[46,46])):=rfl
       unfold gM at g1 g2 g3⊢
       rw [hsd]at g1 g2 g3⊢
       cases z1:decide (L.getLastD []=[46])
       ·cases z2:decide (L.getLastD []=[46,46])
        ·rw [z1,z2]at g1 g2 g3
         simp only [Bool.or_false,cond_false,List.append_nil]at g1 g2 g3⊢
         exact Eq.trans (gQ (Oq (dT' (by omega)) (dT' (by omega)))) (Eq.trans (gQ (dT' (by omega))) rfl)
        ·rw [z1,z2]at g1 g2 g3
         simp only [Bool.or_true,cond_true,cond_false]at g1 g2 g3⊢
         exact Eq.trans (gQ (Oq (dT' (by omega)) (dT' (by omega)))) (Eq.trans (gQ (dT' (by omega))) rfl)
       ·rw [z1]at g1 g2 g3
        simp only [Bool.true_or,cond_true]at g1 g2 g3⊢
        exact Eq.trans (gQ (Oq (dT' (by omega)) (dT' (by omega)))) (Eq.trans (gQ (dT' (by omega))) rfl)
      ·rfl
     ·rfl
    ·have d1':=of_decide_eq_true d1
     rw [dF' (show ¬(47::r:aa).length≤200 by omega)]
     rfl
   ·rw [fW c r hc,dF' (show ¬ [c]=[47]from fun e=>hc (by injection e))]
    rfl
 ·unfold kz at h;split at h
  ·exact h
  ·cases h
theorem vc (p:aa) (hl:p.length≤4611686018427387904) (k0 k1:aa→OR'): ∀(r:aa) (i:Int) (n:Nat),At p i r→r.length<n→
 d_ n p i k0 k1=bif cB r 35||cB r 63 then k0 p else k1 p:=by
 intro r;induction r with
 |nil=>intro i n h hn;obtain⟨n,rfl⟩:=bC hn;unfold d_ iF;simp only [h.dge,cond_false];rfl
 |cons a r ih=>
  intro i n h hn;obtain⟨n,rfl⟩:=bC hn
  have hs:=ih (i+1) n h.step (by simp at hn;omega)
  have e1:cB (a::r) 35=(decide (by8 a=35)||cB r 35):=rfl
  have e2:cB (a::r) 63=(decide (by8 a=63)||cB r 63):=rfl
  unfold d_ iF
  simp only [h.dlt,h.dnn,h.str,cond_true,h.next hl,hs,e1,e2]
  cases decide (by8 a=35)<;>cases decide (by8 a=63)<;>cases cB r 35<;>cases cB r 63<;>rfl
def nw:List aa→List aa→List aa
 |out,[]=>out
 |out,w::r=>nw (dc out w++(bif decide (r=[])&&xk w then [[]]else [])) r
theorem z8: ∀(r out:List aa),nw out r=r.foldl dc out++(bif xk (r.getLastD [])then [[]]else [])
 | [],out=>by simp [nw,xk]
 | [w],out=>by
   unfold nw nw
   rw [dT' rfl,Bool.true_and];rfl
 |w::x::r,out=>by
  unfold nw
  rw [dF' (by simp),Bool.false_and,cond_false,List.append_nil,z8 (x::r)]
  rfl
theorem xC (l:List aa) (hl:l.length≤1000000) (k:List aa→OR'): ∀(r:List aa) (i:Int) (out:List aa) (n:Nat),At l i r→r.length<n→out.length+r.length≤1000000→
 bN n i l out k=k (nw out r):=by
 intro r;induction r with
 |nil=>intro i out n h hn ho;obtain⟨n,rfl⟩:=bC hn;unfold bN ec;simp only [h.dge,cond_false];rfl
 |cons w r ih=>
  intro i out n h hn ho;obtain⟨n,rfl⟩:=bC hn
  simp only [List.length_cons]at hn ho
  have hs:=nj out w
  have hle:=h.le
  simp only [List.length_cons]at hle
  have hi:=h.nn
  have hlast:decide (i+1=(l.length:Int))=decide (r=[]):=by
   rw [Bool.eq_iff_iff,decide_eq_true_eq,decide_eq_true_eq]
   constructor
   ·intro e;exact List.length_eq_zero_iff.1 (by omega)
   ·intro e;have:r.length=0:=by rw [e];rfl
    omega
  have hlen:(dc out w++(bif decide (r=[])&&xk w then [[]]else [])).length+r.length≤1000000∨r=[]:=by
   cases r with
   |nil=>exact .inr rfl
   |cons x r=>rw [dF' (by simp),Bool.false_and,cond_false,List.append_nil];exact .inl (by omega)
  have hr: ∀o,o.length+r.length≤1000000→bN n (i+1) l o k=k (nw o r):=fun o ho'=>ih (i+1) o n h.step (by omega) ho'
  have hend: ∀o:List aa,r=[]→bN n (i+1) l o k=k o:=fun o hr0=>by
   subst hr0
   obtain⟨m,rfl⟩: ∃m,n=m+1:=⟨n-1,by simp at hn;omega⟩
   have h2:=h.step
   unfold bN ec;simp only [h2.dge,cond_false]
  have hany: ∀o,(o.length+r.length≤1000000∨r=[])→bN n (i+1) l o k=k (nw o r):=fun o ho'=>by
   rcases ho' with ho'|ho'
   ·exact hr o ho'
   ·rw [hend o ho',ho'];rfl
  have hap:decide ((out.length+ [w].length)*16≤140737488355328)=true:=dT' (by simp only [List.length_singleton];omega)
  have hap1:decide ((out.length+1)*16≤140737488355328)=true:=dT' (by omega)
  have hw1:ac ((out.length:Int)-1)=(out.length:Int)-1:=w64 (by omega) (by omega)
  have main:nw out (w::r)=nw (dc out w++(bif decide (r=[])&&xk w then [[]]else [])) r:=rfl
  rw [main]
  unfold bN ec
  simp only [h.dlt,h.dnn,h.get,cond_true,h.next (show l.length≤4611686018427387904 by omega),cy,hap,hap1,hw1,hlast]
  by_cases g1:w=[46]
  ·have g2:decide (w=[46,46])=false:=dF' (by rw [g1];decide)
   have g3:xk w=true:=by rw [g1];rfl
   have g4:dc out w=out:=by unfold dc;rw [dT' g1];rfl
   rw [dT' g1,g2,g3,g4,Bool.and_true]
   rw [g3,g4,Bool.and_true]at hlen
   simp only [cond_true,cond_false]
   cases z:decide (r=[])
   ·rw [z]at hlen;rw [cond_false]at hlen⊢;rw [cond_false,hany _ (by simpa using hlen)];simp
   ·rw [z]at hlen;rw [cond_true]at hlen⊢;rw [cond_true,hany _ hlen]
  ·have g1':decide (w=[46])=false:=dF' g1
   by_cases g2:w=[46,46]
   ·have g2':decide (w=[46,46])=true:=dT' g2
    have g3:xk w=true:=by unfold xk;rw [g1',g2'];rfl
    have g4:dc out w=out.dropLast:=by unfold dc;rw [g1',g2'];rfl
    rw [g1',g2',g3,g4,Bool.and_true]
    rw [g3,g4,Bool.and_true]at hlen
    simp only [cond_true,cond_false,Bool.not_true]
    cases ho0:decide ((0:Int)< (out.length:Int))
    ·have:out=[]:=List.length_eq_zero_iff.1 (by have:=of_decide_eq_false ho0;omega)
     subst this
     simp only [List.dropLast_nil]at hlen⊢
     simp only [cond_false]
     cases z:decide (r=[])
     ·rw [z]at hlen;rw [cond_false]at hlen⊢;rw [cond_false,hany _ (by simpa using hlen)];simp
     ·rw [z]at hlen;rw [cond_true]at hlen⊢;rw [cond_true,hany _ hlen]
    ·have ho1:=of_decide_eq_true ho0
     have hc:=z7 out ((out.length:Int)-1) (by omega)
     have hap2:decide ((out.dropLast.length+1)*16≤140737488355328)=true:=dT' (by simp;omega)
     rw [dT' (show(0:Int)≤(out.length:Int)-1 by omega),dT' (show(out.length:Int)-1≤(out.length:Int) by omega)]
     simp only [cond_true,hc,hap2]
     cases z:decide (r=[])
     ·rw [z]at hlen;rw [cond_false]at hlen⊢;rw [cond_false,hany _ (by simpa using hlen)];simp
     ·rw [z]at hlen;rw [cond_true]at hlen⊢;rw [cond_true,hany _ hlen]
   ·have g2':decide (w=[46,46])=false:=dF' g2
    have g3:xk w=false:=by unfold xk;rw [g1',g2'];rfl
    have g4:dc out w=out++[w]:=by unfold dc;rw [g1',g2'];rfl
    rw [g1',g2',g3,g4,Bool.and_false]
    rw [g3,g4,Bool.and_false]at hlen
    simp only [cond_false,Bool.not_false,cond_true]
    rw [hany _ (by simpa using hlen)];simp
theorem xD (l:List aa) (hl:l.length≤1000000) (k:aa→OR'): ∀(r:List aa) (i:Int) (acc:aa) (n:Nat),At l i r→r.length<n→acc.length+(bc r).length≤1000000→
 dr n acc i l k=k (acc++bc r):=by
 intro r;induction r with
 |nil=>intro i acc n h hn ho;obtain⟨n,rfl⟩:=bC hn;unfold dr fV;simp only [h.dge,cond_false,bc,List.append_nil]
 |cons w r ih=>
  intro i acc n h hn ho;obtain⟨n,rfl⟩:=bC hn
  simp only [List.length_cons,bc,List.length_append]at hn ho
  have hr:=ih (i+1) (acc++[47]++w) n h.step (by omega) (by simp;omega)
  have q1:decide (acc.length+1≤9223372036854775807)=true:=dT' (by omega)
  have q2:decide ((acc++[47]).length+w.length≤9223372036854775807)=true:=dT' (by simp;omega)
  unfold dr fV
  simp only [h.dlt,h.dnn,h.get,cond_true,h.next (show l.length≤4611686018427387904 by omega),q1,q2,hr,bc]
  simp
theorem qc:Sound Kx 205 (kz fun s=>.str (aJ s)):=by
 refine(xz (φ:=fun s=>.ite (isM s) (.ret (.str (aJ s)) []) .fail) (fun s=>s.length+5) fun p r h=> ?_).of fun args objs r h=> ?_
 ·obtain⟨hM,h2⟩:=af h
  cases h2
  unfold p8
  cases p with
  |nil=>rfl
  |cons c r=>
   have e0:decide (((c::r).length:Int)=0)=false:=dF' (by simp only [List.length_cons];omega)
   have e1:decide ((0:Int)< ((c::r).length:Int))=true:=dT' (by simp only [List.length_cons];omega)
   have e2:av (c::r) 0=by8 c:=rfl
   simp only [e0,e1,cond_true,cond_false,e2,hM,Bool.and_true]
   by_cases hc:c=47
   ·subst hc
    rw [iG]
    unfold jV
    rw [show decide (by8 47=47)=true from rfl]
    simp only [Bool.not_true,cond_false]
    cases d1:decide ((200:Int)< ((47::r:aa).length:Int))
    ·have d1':=of_decide_eq_false d1
     simp only [List.length_cons]at d1'
     rw [dT' (show(47::r:aa).length≤200 by simp only [List.length_cons];omega)]
     simp only [cond_false,Bool.true_and]
     cases d2:a7 bO (47::r)
     ·rfl
     have m1:decide ((47::r:aa).length≤1000000)=true:=dT' (by simp only [List.length_cons];omega)
     simp only [Bool.not_true,cond_false,Bool.true_and]
     rw [vc _ (by simp only [List.length_cons];omega) _ _ (47::r) 0 _ (At.start _) (by simp only [List.length_cons];omega)]
     cases d3:cB (47::r) 35
     ·cases d4:cB (47::r) 63
      ·simp only [Bool.or_false,cond_false,Bool.not_false,Bool.and_self,cond_true,pK,m1]
       have hcut:cut (47::cA r) 1 ((47::cA r).length:Int)=cA r:=by
        exact Fb (p:=[47]) (r:=[]) (by simp) rfl (by simp only [List.length_cons];omega)
       have hb:=xB r (by omega)
       have hp:=iC r
       rw [hcut]
       have n1:decide ((1:Int)≤((47::cA r).length:Int))=true:=dT' (by simp only [List.length_cons];omega)
       have n2:decide ((cA r).length≤1000000)=true:=dT' (by omega)
       rw [n1,n2]
       simp only [cond_true]
       have hL0:=ng (cA r) 47
       generalize hL:eZ (cA r) 47=L at hb hL0
       rw [xC L (by omega) _ L 0 [] _ (At.start L) (by simp only [List.length_cons];omega) (by simp;omega),z8]
       have g1:=jl L
       have g3:=va (gM L)
       have g5:=zZ L []
       rw [show L.foldl dc []++(bif xk (L.getLastD [])then [[]]else [])=gM L from rfl]
       have g6:(gM L).length≤L.length+1:=by
        unfold gM
        rw [List.length_append]
        cases xk (L.getLastD [])<;>simp at g5⊢ <;>omega
       rw [xD (gM L) (by omega) _ (gM L) 0 [] _ (At.start _) (by simp only [List.length_cons];omega) (by simp;omega),List.nil_append,qa]
       cases decide (bc (gM L)=[])<;>rfl
      ·rfl
     ·rfl
    ·have d1':=of_decide_eq_true d1
     rw [dF' (show ¬(47::r:aa).length≤200 by omega)]
     rfl
   ·rw [fW c r hc,dF' (show ¬by8 c=47 from fun e=>hc (wt e))]
    cases decide ((200:Int)< ((c::r).length:Int))<;>rfl
 ·unfold kz at h;split at h
  ·exact h
  ·cases h
theorem FJ:Sound Kx 289 (kz fun s=>.bool (f7 s)):=iHost_ok.of fun args objs r h=>by
 unfold kz at h
 split at h
 case h_2=>cases h
 rename_i s
 obtain⟨hM,h2⟩:=af h
 cases h2
 show(rJ s).val=some (.bool (f7 s),[])
 unfold rJ f7
 cases d1:decide ((1:Int)≤(s.length:Int))
 ·have d1':=of_decide_eq_false d1
  rw [dF' (show ¬1≤s.length by omega)];rfl
 ·have d1':=of_decide_eq_true d1
  rw [dT' (show 1≤s.length by omega)]
  cases d2:decide ((s.length:Int)≤60)
  ·have d2':=of_decide_eq_false d2
   rw [dF' (show ¬s.length≤60 by omega)];rfl
  ·have d2':=of_decide_eq_true d2
   have hlen:=ng s 46
   rw [dT' (show s.length≤60 by omega),hM]
   cases a7 hoB s
   ·rfl
   ·refine(aZ rfl).trans ((bp rfl).trans ((aZ rfl).trans ((bp rfl).trans ((aZ (dT' (by omega))).trans ((aZ (dT' (by omega))).trans rfl)))))
def MY:List AV→List Ob→Br
 | [.str s],[]=>.ite (decide (s.length≤1000000)) (.ret (.tup [.int .i64 (eY s).1,.bool (eY s).2]) []) .fail
 |_,_=>.fail
theorem vd:Sound Kx 221 MY:=iReadDec_ok.of fun args objs r h=>by
 unfold MY at h
 split at h
 case h_2=>cases h
 rename_i s
 obtain⟨hM,h2⟩:=af h
 cases h2
 show(gR s).val=_
 unfold gR
 refine(aZ hM).trans ?_
 rw [Fa]
 cases c1:dZ s
 ·rfl
 ·cases c2:decide (0≤cV s)
  ·rfl
  ·cases c3:decide (cV s≤999999999999999)
   ·rfl
   ·have h15:bv (cV s)=true:=by unfold bv;rw [c2,c3];rfl
    rw [h15]
    cases c4:decide (bF (cV s)=s)
    ·refine(aZ rfl).trans ((aZ rfl).trans ((bp rfl).trans ((aZ ?_).trans rfl)))
     rw [cond_true,c4];rfl
    ·refine(aZ rfl).trans ((aZ rfl).trans ((bp rfl).trans ((bp ?_).trans rfl)))
     rw [cond_true,c4];rfl
def Le:SC:=[⟨196,_,EH⟩]
def Io (h:aa) (po:Int) (pa q:aa) (hq:Bool):Br:=(Br.ite (decide (po=80)) (Br.ret (AV.str ([]:aa)) []) (Br.ite (bv po) (Br.ite (decide ((1+(List.length (bF po)))≤9223372036854775807)) (Br.ret (AV.str (([58]:aa)++(bF po))) []) Br.fail) Br.fail))
def FK:List AV→List Ob→Br
 | [.agg [.str h,.int .i64 po,.str pa,.str q,.bool hq]],[]=>Io h po pa q hq
 |_,_=>.fail
theorem Ip:Sound Kx 224 FK:=ae (C:=Le) (O:=O0) Tryz.func224 (by kernel_rfl) fun args objs=>by
 unfold FK;split
 ·exact .inr (by kernel_rfl)
 ·exact .inl rfl
def FL (h:aa) (po:Int) (pa q:aa) (hq:Bool):Br:=(Br.ite hq (Br.ite (decide ((pa.length+1)≤9223372036854775807)) (Br.ite (decide (((List.length (pa++([63]:aa)))+q.length)≤9223372036854775807)) (Br.ret (AV.str ((pa++([63]:aa))++q)) []) Br.fail) Br.fail) (Br.ret (AV.str pa) []))
def z_:List AV→List Ob→Br
 | [.agg [.str h,.int .i64 po,.str pa,.str q,.bool hq]],[]=>FL h po pa q hq
 |_,_=>.fail
theorem FM:Sound Kx 225 z_:=ae (C:=[]) (O:=O0) Tryz.func225 (by kernel_rfl) fun args objs=>by
 unfold z_;split
 ·exact .inr (by kernel_rfl)
 ·exact .inl rfl
def Lf:SC:=[⟨224,_,Ip⟩,⟨225,_,FM⟩]
def rK (h:aa) (po:Int) (pa q:aa) (hq:Bool):Br:=(Br.ite (decide ((7+h.length)≤9223372036854775807)) (Br.ite (decide (po=80)) (Br.ite (decide (((List.length (([104,116,116,112,58,47,47]:aa)++h))+0)≤9223372036854775807)) (Br.ite hq (Br.ite (decide ((pa.length+1)≤9223372036854775807)) (Br.ite (decide (((List.length (pa++([63]:aa)))+q.length)≤9223372036854775807)) (Br.ite (decide (((List.length ((([104,116,116,112,58,47,47]:aa)++h)++([]:aa)))+(List.length ((pa++([63]:aa))++q)))≤9223372036854775807)) (Br.ret (AV.str (((([104,116,116,112,58,47,47]:aa)++h)++([]:aa))++((pa++([63]:aa))++q))) []) Br.fail) Br.fail) Br.fail) (Br.ite (decide (((List.length ((([104,116,116,112,58,47,47]:aa)++h)++([]:aa)))+pa.length)≤9223372036854775807)) (Br.ret (AV.str (((([104,116,116,112,58,47,47]:aa)++h)++([]:aa))++pa)) []) Br.fail)) Br.fail) (Br.ite (bv po) (Br.ite (decide ((1+(List.length (bF po)))≤9223372036854775807)) (Br.ite (decide (((List.length (([104,116,116,112,58,47,47]:aa)++h))+(List.length (([58]:aa)++(bF po))))≤9223372036854775807)) (Br.ite hq (Br.ite (decide ((pa.length+1)≤9223372036854775807)) (Br.ite (decide (((List.length (pa++([63]:aa)))+q.length)≤9223372036854775807)) (Br.ite (decide (((List.length ((([104,116,116,112,58,47,47]:aa)++h)++(([58]:aa)++(bF po))))+(List.length ((pa++([63]:aa))++q)))≤9223372036854775807)) (Br.ret (AV.str (((([104,116,116,112,58,47,47]:aa)++h)++(([58]:aa)++(bF po)))++((pa++([63]:aa))++q))) []) Br.fail) Br.fail) Br.fail) (Br.ite (decide (((List.length ((([104,116,116,112,58,47,47]:aa)++h)++(([58]:aa)++(bF po))))+pa.length)≤9223372036854775807)) (Br.ret (AV.str (((([104,116,116,112,58,47,47]:aa)++h)++(([58]:aa)++(bF po)))++pa)) []) Br.fail)) Br.fail) Br.fail) Br.fail)) Br.fail)
def FN:List AV→List Ob→Br
 | [.agg [.str h,.int .i64 po,.str pa,.str q,.bool hq]],[]=>rK h po pa q hq
 |_,_=>.fail
theorem Iq:Sound Kx 160 FN:=ae (C:=Lf) (O:=O0) Tryz.func160 (by kernel_rfl) fun args objs=>by
 unfold FN;split
 ·exact .inr (by kernel_rfl)
 ·exact .inl rfl
def Lg:SC:=[⟨185,_,xg⟩]
def Ir (h:aa) (po:Int) (pa q:aa) (hq:Bool):Br:=(Br.ite (decide (po=80)) (Br.ret (AV.str ([]:aa)) []) (Br.ite (bv po) (Br.ite (decide ((1+(List.length (bF po)))≤9223372036854775807)) (Br.ret (AV.str (([58]:aa)++(bF po))) []) Br.fail) Br.fail))
def FO:List AV→List Ob→Br
 | [.agg [.str h,.int .i64 po,.str pa,.str q,.bool hq]],[]=>Ir h po pa q hq
 |_,_=>.fail
theorem Is:Sound Kx 267 FO:=ae (C:=Lg) (O:=O0) Tryz.func267 (by kernel_rfl) fun args objs=>by
 unfold FO;split
 ·exact .inr (by kernel_rfl)
 ·exact .inl rfl
def FP (h:aa) (po:Int) (pa q:aa) (hq:Bool):Br:=(Br.ite hq (Br.ite (decide ((1+q.length)≤9223372036854775807)) (Br.ret (AV.str (([63]:aa)++q)) []) Br.fail) (Br.ret (AV.str ([]:aa)) []))
def Aa:List AV→List Ob→Br
 | [.agg [.str h,.int .i64 po,.str pa,.str q,.bool hq]],[]=>FP h po pa q hq
 |_,_=>.fail
theorem FQ:Sound Kx 268 Aa:=ae (C:=[]) (O:=O0) Tryz.func268 (by kernel_rfl) fun args objs=>by
 unfold Aa;split
 ·exact .inr (by kernel_rfl)
 ·exact .inl rfl
def Lh:SC:=[⟨267,_,Is⟩,⟨268,_,FQ⟩]
def rL (h:aa) (po:Int) (pa q:aa) (hq:Bool):Br:=(Br.ite (decide ((7+h.length)≤9223372036854775807)) (Br.ite (decide (po=80)) (Br.ite (decide (((List.length (([104,116,116,112,58,47,47]:aa)++h))+0)≤9223372036854775807)) (Br.ite (decide (((List.length ((([104,116,116,112,58,47,47]:aa)++h)++([]:aa)))+pa.length)≤9223372036854775807)) (Br.ite hq (Br.ite (decide ((1+q.length)≤9223372036854775807)) (Br.ite (decide (((List.length (((([104,116,116,112,58,47,47]:aa)++h)++([]:aa))++pa))+(List.length (([63]:aa)++q)))≤9223372036854775807)) (Br.ret (AV.str ((((([104,116,116,112,58,47,47]:aa)++h)++([]:aa))++pa)++(([63]:aa)++q))) []) Br.fail) Br.fail) (Br.ite (decide (((List.length (((([104,116,116,112,58,47,47]:aa)++h)++([]:aa))++pa))+0)≤9223372036854775807)) (Br.ret (AV.str ((((([104,116,116,112,58,47,47]:aa)++h)++([]:aa))++pa)++([]:aa))) []) Br.fail)) Br.fail) Br.fail) (Br.ite (bv po) (Br.ite (decide ((1+(List.length (bF po)))≤9223372036854775807)) (Br.ite (decide (((List.length (([104,116,116,112,58,47,47]:aa)++h))+(List.length (([58]:aa)++(bF po))))≤9223372036854775807)) (Br.ite (decide (((List.length ((([104,116,116,112,58,47,47]:aa)++h)++(([58]:aa)++(bF po))))+pa.length)≤9223372036854775807)) (Br.ite hq (Br.ite (decide ((1+q.length)≤9223372036854775807)) (Br.ite (decide (((List.length (((([104,116,116,112,58,47,47]:aa)++h)++(([58]:aa)++(bF po)))++pa))+(List.length (([63]:aa)++q)))≤9223372036854775807)) (Br.ret (AV.str ((((([104,116,116,112,58,47,47]:aa)++h)++(([58]:aa)++(bF po)))++pa)++(([63]:aa)++q))) []) Br.fail) Br.fail) (Br.ite (decide (((List.length (((([104,116,116,112,58,47,47]:aa)++h)++(([58]:aa)++(bF po)))++pa))+0)≤9223372036854775807)) (Br.ret (AV.str ((((([104,116,116,112,58,47,47]:aa)++h)++(([58]:aa)++(bF po)))++pa)++([]:aa))) []) Br.fail)) Br.fail) Br.fail) Br.fail) Br.fail)) Br.fail)
def FR:List AV→List Ob→Br
 | [.agg [.str h,.int .i64 po,.str pa,.str q,.bool hq]],[]=>rL h po pa q hq
 |_,_=>.fail
theorem It:Sound Kx 208 FR:=ae (C:=Lh) (O:=O0) Tryz.func208 (by kernel_rfl) fun args objs=>by
 unfold FR;split
 ·exact .inr (by kernel_rfl)
 ·exact .inl rfl
def xE:SC:=[⟨219,_,EX⟩]
def ve (s:aa):Br:=(Br.ite (decide (s.length≤1000000)) (Br.ret (AV.agg ((AV.str ([]:aa))::((AV.int .i64 0)::((AV.str (pH s ([63]:aa)).1)::((AV.str (pH s ([63]:aa)).2.1)::((AV.bool (pH s ([63]:aa)).2.2)::[])))))) []) Br.fail)
def nx:List AV→List Ob→Br
 | [.str s],[]=>ve s
 |_,_=>.fail
theorem vf:Sound Kx 220 nx:=ae (C:=xE) (O:=O0) Tryz.func220 (by kernel_rfl) fun args objs=>by
 unfold nx;split
 ·exact .inr (by kernel_rfl)
 ·exact .inl rfl
def smU (h:aa) (po:Int) (pa q:aa):Bool:=decide (h.length≤1000000)&&bv po&&decide (pa.length≤1000000)&&isM q
def MZ (p:aa→Int→aa→aa→Bool→Bool) (v:aa→Int→aa→aa→Bool→AV):List AV→List Ob→Br
 | [.agg [.str h,.int .i64 po,.str pa,.str q,.bool hq]],[]=>.ite (p h po pa q hq) (.ret (v h po pa q hq) []) .fail
 |_,_=>.fail
def OR:List AV→List Ob→Br:=MZ (fun h po pa q _=>smU h po pa q) (fun h po pa q hq=>.str (n8 h po pa q hq))
theorem FS {n:Nat} {s:List AV→List Ob→Br} (hs:Sound Kx n s) {p:aa→Int→aa→aa→Bool→Bool} {v:aa→Int→aa→aa→Bool→AV} (h: ∀ho po pa q hq,p ho po pa q hq=true→(s [.agg [.str ho,.int .i64 po,.str pa,.str q,.bool hq]] []).val=some (v ho po pa q hq,[])):Sound Kx n (MZ p v):=hs.of fun args objs r hv=>by
 unfold MZ at hv
 split at hv
 case h_2=>cases hv
 obtain⟨h1,h2⟩:=af hv
 cases h2
 exact h _ _ _ _ _ h1
theorem vg (n:Int) (h:bv n=true):(bF n).length≤15:=by
 unfold bv at h
 simp only [Bool.and_eq_true,decide_eq_true_eq]at h
 rw [cX];exact uG _ (by omega)
theorem JS {h:aa} {po:Int} {pa q:aa} (hs:smU h po pa q=true):h.length≤1000000∧bv po=true∧pa.length≤1000000∧q.length≤4611686018427387904:=by
 unfold smU at hs
 simp only [Bool.and_eq_true,decide_eq_true_eq]at hs
 exact⟨hs.1.1.1,hs.1.1.2,hs.1.2,b8 hs.2⟩
theorem vh:Sound Kx 160 OR:=FS Iq fun h po pa q hq hs=>by
 obtain⟨h1,h2,h3,h4⟩:=JS hs
 have hd:=vg po h2
 show(rK h po pa q hq).val=some (.str (n8 h po pa q hq),[])
 unfold rK n8 K6 zL rC
 cases decide (po=80)<;>cases hq<;>
  simp (disch:=(first|omega|(simp only [List.length_append,List.length_cons,List.length_nil];omega))) only [Br.val,dle,h2,cond_true,cond_false,List.append_assoc,List.cons_append,List.nil_append,List.append_nil]
theorem vi:Sound Kx 208 OR:=FS It fun h po pa q hq hs=>by
 obtain⟨h1,h2,h3,h4⟩:=JS hs
 have hd:=vg po h2
 show(rL h po pa q hq).val=some (.str (n8 h po pa q hq),[])
 unfold rL n8 K6 zL rC
 cases decide (po=80)<;>cases hq<;>
  simp (disch:=(first|omega|(simp only [List.length_append,List.length_cons,List.length_nil];omega))) only [Br.val,dle,h2,cond_true,cond_false,List.append_assoc,List.cons_append,List.nil_append,List.append_nil]
def Iu:Opt:={split:=true}
def Iv:SC:=[⟨289,_,FJ⟩,⟨124,_,bZ⟩,⟨222,_,qb⟩,⟨191,_,fL⟩,⟨217,_,zM⟩,⟨160,_,vh⟩]
def ny (h:aa) (po:Int) (pa q:aa) (hq:Bool):Br:=(Br.ite (isM h) (Br.ite (f7 h) (Br.ite (decide (1≤po)) (Br.ite (decide (po≤65535)) (Br.ite (decide (pa=([]:aa))) (Br.ret (AV.bool false) []) (Br.ite (isM pa) (Br.ite (!(decide ((aJ pa)=pa))) (Br.ret (AV.bool false) []) (Br.ite (isM q) (Br.ite (!(a7 bO q)) (Br.ret (AV.bool false) []) (Br.ite (cB q 35) (Br.ret (AV.bool false) []) (Br.ite (!hq) (Br.ite (!(decide (q=([]:aa)))) (Br.ret (AV.bool false) []) (Br.ite (smU h po pa q) (Br.ret (AV.bool (decide (((List.length (n8 h po pa q hq)):Int)≤200))) []) Br.fail)) (Br.ite (smU h po pa q) (Br.ret (AV.bool (decide (((List.length (n8 h po pa q hq)):Int)≤200))) []) Br.fail)))) Br.fail)) Br.fail)) (Br.ret (AV.bool false) [])) (Br.ret (AV.bool false) [])) (Br.ret (AV.bool false) [])) Br.fail)
def Ab:List AV→List Ob→Br
 | [.agg [.str h,.int .i64 po,.str pa,.str q,.bool hq]],[]=>ny h po pa q hq
 |_,_=>.fail
theorem FT:Sound Kx 223 Ab:=ae (C:=Iv) (O:=Iu) Tryz.func223 (by kernel_rfl) fun args objs=>by
 unfold Ab;split
 ·exact .inr (by kernel_rfl)
 ·exact .inl rfl
def Iw:Opt:={split:=true}
def Ix:SC:=[⟨266,_,FF⟩,⟨205,_,qc⟩,⟨183,_,kU⟩,⟨203,_,uF⟩,⟨208,_,vi⟩]
def nz (h:aa) (po:Int) (pa q:aa) (hq:Bool):Br:=(Br.ite (f7 h) (Br.ite (decide (po<1)) (Br.ret (AV.bool false) []) (Br.ite (decide (65535<po)) (Br.ret (AV.bool false) []) (Br.ite (decide (pa=([]:aa))) (Br.ret (AV.bool false) []) (Br.ite (isM pa) (Br.ite (!(decide ((aJ pa)=pa))) (Br.ret (AV.bool false) []) (Br.ite hq (Br.ite (decide (200< (q.length:Int))) (Br.ret (AV.bool false) []) (Br.ite (!(decide (q=([]:aa)))) (Br.ite (isM q) (Br.ite ((a7 bO q)&&(decide (0< (q.length:Int)))) (Br.ite (isM q) (Br.ite (!(decide ((aw q 35)=q))) (Br.ret (AV.bool false) []) (Br.ite (smU h po pa q) (Br.ret (AV.bool (decide (((List.length (n8 h po pa q hq)):Int)≤200))) []) Br.fail)) Br.fail) (Br.ret (AV.bool false) [])) Br.fail) (Br.ite (isM q) (Br.ite (!(decide ((aw q 35)=q))) (Br.ret (AV.bool false) []) (Br.ite (smU h po pa q) (Br.ret (AV.bool (decide (((List.length (n8 h po pa q hq)):Int)≤200))) []) Br.fail)) Br.fail))) (Br.ite (!(decide (q=([]:aa)))) (Br.ret (AV.bool false) []) (Br.ite (decide (200< (q.length:Int))) (Br.ret (AV.bool false) []) (Br.ite (!(decide (q=([]:aa)))) (Br.ite (isM q) (Br.ite ((a7 bO q)&&(decide (0< (q.length:Int)))) (Br.ite (isM q) (Br.ite (!(decide ((aw q 35)=q))) (Br.ret (AV.bool false) []) (Br.ite (smU h po pa q) (Br.ret (AV.bool (decide (((List.length (n8 h po pa q hq)):Int)≤200))) []) Br.fail)) Br.fail) (Br.ret (AV.bool false) [])) Br.fail) (Br.ite (isM q) (Br.ite (!(decide ((aw q 35)=q))) (Br.ret (AV.bool false) []) (Br.ite (smU h po pa q) (Br.ret (AV.bool (decide (((List.length (n8 h po pa q hq)):Int)≤200))) []) Br.fail)) Br.fail)))))) Br.fail)))) (Br.ret (AV.bool false) []))
def Ad:List AV→List Ob→Br
 | [.agg [.str h,.int .i64 po,.str pa,.str q,.bool hq]],[]=>nz h po pa q hq
 |_,_=>.fail
theorem FU:Sound Kx 206 Ad:=ae (C:=Ix) (O:=Iw) Tryz.func206 (by kernel_rfl) fun args objs=>by
 unfold Ad;split
 ·exact .inr (by kernel_rfl)
 ·exact .inl rfl
theorem vj {pa:aa} (h:aJ pa=pa) (h0:pa≠ []):pa.length≤200:=by
 cases pa with
 |nil=>exact absurd rfl h0
 |cons c r=>
  by_cases hc:c=47
  ·subst hc
   rw [iG]at h
   cases ho:jV (47::r)
   ·rw [ho,cond_false]at h;exact absurd h.symm h0
   ·unfold jV at ho
    simp only [Bool.and_eq_true,decide_eq_true_eq]at ho
    exact ho.1.1.1
  ·rw [fW c r hc]at h;exact absurd h.symm h0
theorem Ae {h:aa} (hh:f7 h=true):h.length≤60:=by
 unfold f7 at hh
 simp only [Bool.and_eq_true,decide_eq_true_eq]at hh
 exact hh.1.1.2
theorem FV (n:Nat):decide ((n:Int)≤200)=decide (n≤200):=by
 rw [Bool.eq_iff_iff,decide_eq_true_eq,decide_eq_true_eq];omega
theorem lg (s:aa) (b:Int):decide (aw s b=s)= !cB s b:=by
 induction s with
 |nil=>rfl
 |cons c s ih=>
  have e:cB (c::s) b=(decide (by8 c=b)||cB s b):=rfl
  unfold aw at ih⊢
  rw [e,List.takeWhile_cons]
  cases decide (by8 c=b)
  ·simp only [Bool.not_false,if_true,Bool.false_or]
   rw [←ih,Bool.eq_iff_iff,decide_eq_true_eq,decide_eq_true_eq]
   simp
  ·simp
theorem JT (h:aa) (po:Int) (pa q:aa):q.length≤(n8 h po pa q true).length:=by
 unfold n8 zL
 simp only [cond_true,List.length_append,List.length_cons];omega
def OS:List AV→List Ob→Br:=MZ (fun h _ pa q _=>isM h&&isM pa&&isM q) (fun h po pa q hq=>.bool (aK h po pa q hq))
theorem Af {h:aa} {po:Int} {pa q:aa} (h1:f7 h=true) (h2:decide (1≤po)=true) (h3:decide (po≤65535)=true) (h4:decide (pa=[])=false) (h5:decide (aJ pa=pa)=true) (h6:isM q=true):smU h po pa q=true:=by
 have a:=Ae h1
 have b:=vj (of_decide_eq_true h5) (of_decide_eq_false h4)
 have c:=of_decide_eq_true h2
 have d:=of_decide_eq_true h3
 unfold smU bv
 rw [dT' (show h.length≤1000000 by omega),dT' (show 0≤po by omega),dT' (show po≤999999999999999 by omega),dT' (show pa.length≤1000000 by omega),h6];rfl
theorem Ck:Sound Kx 223 OS:=FS FT fun h po pa q hq hs=>by
 simp only [Bool.and_eq_true]at hs
 obtain⟨⟨m1,m2⟩,m3⟩:=hs
 show(ny h po pa q hq).val=some (.bool (aK h po pa q hq),[])
 unfold ny aK
 rw [m1,m2,m3,FV]
 cases d1:f7 h
 ·rfl
 cases d2:decide (1≤po)
 ·rfl
 cases d3:decide (po≤65535)
 ·rfl
 cases d4:decide (pa=[])
 case true=>rfl
 cases d5:decide (aJ pa=pa)
 ·rfl
 rw [Af d1 d2 d3 d4 d5 m3]
 cases a7 bO q
 ·rfl
 cases cB q 35
 case true=>rfl
 cases hq<;>cases decide (q=[])<;>rfl
theorem qd:Sound Kx 206 OS:=FS FU fun h po pa q hq hs=>by
 simp only [Bool.and_eq_true]at hs
 obtain⟨⟨m1,m2⟩,m3⟩:=hs
 show(nz h po pa q hq).val=some (.bool (aK h po pa q hq),[])
 unfold nz aK
 rw [m2,m3,FV,lg]
 have e2:decide (po<1)= !decide (1≤po):=by rw [Bool.eq_iff_iff];simp
 have e3:decide (65535<po)= !decide (po≤65535):=by rw [Bool.eq_iff_iff];simp
 rw [e2,e3]
 cases d1:f7 h
 ·rfl
 cases d2:decide (1≤po)
 ·rfl
 cases d3:decide (po≤65535)
 ·rfl
 cases d4:decide (pa=[])
 case true=>rfl
 cases d5:decide (aJ pa=pa)
 ·rfl
 rw [Af d1 d2 d3 d4 d5 m3]
 by_cases hq0:q=[]
 ·subst hq0
  cases hq<;>rfl
 ·have z:decide (q=[])=false:=dF' hq0
  have zl:decide ((0:Int)< (q.length:Int))=true:=dT' (by have:=List.length_pos_iff.2 hq0;omega)
  rw [z,zl]
  cases hq
  ·cases a7 bO q<;>cases cB q 35<;>rfl
  ·cases d6:decide ((200:Int)< (q.length:Int))
   ·cases a7 bO q<;>cases cB q 35<;>rfl
   ·have:=of_decide_eq_true d6
    have hl:=JT h po pa q
    rw [dF' (show ¬(n8 h po pa q true).length≤200 by omega),Bool.and_false];rfl
def Cl:Opt:={split:=true}
def Cm:SC:=[⟨191,_,fL⟩,⟨217,_,zM⟩,⟨171,_,tJ⟩,⟨218,_,Fm⟩,⟨219,_,EX⟩,⟨220,_,vf⟩,⟨221,_,vd⟩,⟨222,_,qb⟩,⟨223,_,Ck⟩]
abbrev aq (s:aa):=(pH (cut (cut s 7 (s.length:Int)) (jj (cut s 7 (s.length:Int)) ([47,63]:aa)) ((List.length (cut s 7 (s.length:Int))):Int)) ([63]:aa))
abbrev ar (s:aa):=(pH (cut (cut s 7 (s.length:Int)) ((List.length (cut s 7 (s.length:Int))):Int) ((List.length (cut s 7 (s.length:Int))):Int)) ([63]:aa))
abbrev aU (s:aa):=(Br.ret (AV.tup ((AV.agg ((AV.str ([]:aa))::((AV.int .i64 0)::((AV.str ([]:aa))::((AV.str ([]:aa))::((AV.bool false)::[]))))))::((AV.bool false)::[]))) [])
abbrev aB (s:aa):=(pH (cut (cut s 7 (s.length:Int)) 0 (jj (cut s 7 (s.length:Int)) ([47,63]:aa))) ([58]:aa))
abbrev aC (s:aa):=(pH (cut (cut s 7 (s.length:Int)) 0 ((List.length (cut s 7 (s.length:Int))):Int)) ([58]:aa))
abbrev bd (s:aa):=((List.length (cut s 7 (s.length:Int))):Int)
abbrev bW (s:aa):=(jj (cut s 7 (s.length:Int)) ([47,63]:aa))
abbrev dy (s:aa):=((AV.str (ar s).2.1)::((AV.bool (ar s).2.2)::[]))
abbrev dz (s:aa):=((AV.str (aq s).2.1)::((AV.bool (aq s).2.2)::[]))
def gS (s:aa):Br:=(Br.ite (decide (200< (s.length:Int))) (aU s) (Br.ite (isM s) (Br.ite (!(a7 bO s)) (aU s) (Br.ite (cB s 35) (aU s) (Br.ite (decide ((s.length:Int)<7)) (aU s) (Br.ite (decide (7≤(s.length:Int))) (Br.ite (isM (cut s 0 7)) (Br.ite (!(decide ((aH (cut s 0 7))=([104,116,116,112,58,47,47]:aa)))) (aU s) (Br.ite (decide (7≤(s.length:Int))) (Br.ite ((((decide ((List.length (cut s 7 (s.length:Int)))≤1000000))&&true)&&(Hf (cut s 7 (s.length:Int))))&&true) (Br.ite (decide ((bW s)<0)) (Br.ite (decide (0≤(bd s))) (Br.ite (decide ((bd s)≤(bd s))) (Br.ite (decide ((List.length (cut (cut s 7 (s.length:Int)) 0 (bd s)))≤1000000)) (Br.ite (decide (0≤(bd s))) (Br.ite (decide ((bd s)≤(bd s))) (Br.ite (decide ((List.length (cut (cut s 7 (s.length:Int)) (bd s) (bd s)))≤1000000)) (Br.ite (isM (aC s).1) (Br.ite (aC s).2.2 (Br.ite (decide ((List.length (aC s).2.1)≤1000000)) (Br.ite (!(eY (aC s).2.1).2) (aU s) (Br.ite (decide ((ar s).1=([]:aa))) (Br.ite (((isM (aH (aC s).1))&&true)&&(isM (ar s).2.1)) (Br.ite (!(aK (aH (aC s).1) (eY (aC s).2.1).1 ([47]:aa) (ar s).2.1 (ar s).2.2)) (aU s) (Br.ret (AV.tup ((AV.agg ((AV.str (aH (aC s).1))::((AV.int .i64 (eY (aC s).2.1).1)::((AV.str ([47]:aa))::(dy s)))))::((AV.bool true)::[]))) [])) Br.fail) (Br.ite (isM (ar s).1) (Br.ite (((isM (aH (aC s).1))&&(isM (aJ (ar s).1)))&&(isM (ar s).2.1)) (Br.ite (!(aK (aH (aC s).1) (eY (aC s).2.1).1 (aJ (ar s).1) (ar s).2.1 (ar s).2.2)) (aU s) (Br.ret (AV.tup ((AV.agg ((AV.str (aH (aC s).1))::((AV.int .i64 (eY (aC s).2.1).1)::((AV.str (aJ (ar s).1))::(dy s)))))::((AV.bool true)::[]))) [])) Br.fail) Br.fail))) Br.fail) (Br.ite (decide ((ar s).1=([]:aa))) (Br.ite (((isM (aH (aC s).1))&&true)&&(isM (ar s).2.1)) (Br.ite (!(aK (aH (aC s).1) 80 ([47]:aa) (ar s).2.1 (ar s).2.2)) (aU s) (Br.ret (AV.tup ((AV.agg ((AV.str (aH (aC s).1))::((AV.int .i64 80)::((AV.str ([47]:aa))::(dy s)))))::((AV.bool true)::[]))) [])) Br.fail) (Br.ite (isM (ar s).1) (Br.ite (((isM (aH (aC s).1))&&(isM (aJ (ar s).1)))&&(isM (ar s).2.1)) (Br.ite (!(aK (aH (aC s).1) 80 (aJ (ar s).1) (ar s).2.1 (ar s).2.2)) (aU s) (Br.ret (AV.tup ((AV.agg ((AV.str (aH (aC s).1))::((AV.int .i64 80)::((AV.str (aJ (ar s).1))::(dy s)))))::((AV.bool true)::[]))) [])) Br.fail) Br.fail))) Br.fail) Br.fail) Br.fail) Br.fail) Br.fail) Br.fail) Br.fail) (Br.ite (decide (0≤(bW s))) (Br.ite (decide ((bW s)≤(bd s))) (Br.ite (decide ((List.length (cut (cut s 7 (s.length:Int)) 0 (bW s)))≤1000000)) (Br.ite (decide (0≤(bW s))) (Br.ite (decide ((bW s)≤(bd s))) (Br.ite (decide ((List.length (cut (cut s 7 (s.length:Int)) (bW s) (bd s)))≤1000000)) (Br.ite (isM (aB s).1) (Br.ite (aB s).2.2 (Br.ite (decide ((List.length (aB s).2.1)≤1000000)) (Br.ite (!(eY (aB s).2.1).2) (aU s) (Br.ite (decide ((aq s).1=([]:aa))) (Br.ite (((isM (aH (aB s).1))&&true)&&(isM (aq s).2.1)) (Br.ite (!(aK (aH (aB s).1) (eY (aB s).2.1).1 ([47]:aa) (aq s).2.1 (aq s).2.2)) (aU s) (Br.ret (AV.tup ((AV.agg ((AV.str (aH (aB s).1))::((AV.int .i64 (eY (aB s).2.1).1)::((AV.str ([47]:aa))::(dz s)))))::((AV.bool true)::[]))) [])) Br.fail) (Br.ite (isM (aq s).1) (Br.ite (((isM (aH (aB s).1))&&(isM (aJ (aq s).1)))&&(isM (aq s).2.1)) (Br.ite (!(aK (aH (aB s).1) (eY (aB s).2.1).1 (aJ (aq s).1) (aq s).2.1 (aq s).2.2)) (aU s) (Br.ret (AV.tup ((AV.agg ((AV.str (aH (aB s).1))::((AV.int .i64 (eY (aB s).2.1).1)::((AV.str (aJ (aq s).1))::(dz s)))))::((AV.bool true)::[]))) [])) Br.fail) Br.fail))) Br.fail) (Br.ite (decide ((aq s).1=([]:aa))) (Br.ite (((isM (aH (aB s).1))&&true)&&(isM (aq s).2.1)) (Br.ite (!(aK (aH (aB s).1) 80 ([47]:aa) (aq s).2.1 (aq s).2.2)) (aU s) (Br.ret (AV.tup ((AV.agg ((AV.str (aH (aB s).1))::((AV.int .i64 80)::((AV.str ([47]:aa))::(dz s)))))::((AV.bool true)::[]))) [])) Br.fail) (Br.ite (isM (aq s).1) (Br.ite (((isM (aH (aB s).1))&&(isM (aJ (aq s).1)))&&(isM (aq s).2.1)) (Br.ite (!(aK (aH (aB s).1) 80 (aJ (aq s).1) (aq s).2.1 (aq s).2.2)) (aU s) (Br.ret (AV.tup ((AV.agg ((AV.str (aH (aB s).1))::((AV.int .i64 80)::((AV.str (aJ (aq s).1))::(dz s)))))::((AV.bool true)::[]))) [])) Br.fail) Br.fail))) Br.fail) Br.fail) Br.fail) Br.fail) Br.fail) Br.fail) Br.fail)) Br.fail) Br.fail)) Br.fail) Br.fail)))) Br.fail))
def qe:List AV→List Ob→Br
 | [.str s],[]=>gS s
 |_,_=>.fail
theorem iReadUrl_ok:Sound Kx 159 qe:=ae (C:=Cm) (O:=Cl) Tryz.func159 (by kernel_rfl) fun args objs=>by
 unfold qe;split
 ·exact .inr (by kernel_rfl)
 ·exact .inl rfl
def Cn:Opt:={split:=true}
def Co:SC:=[⟨183,_,kU⟩,⟨203,_,uF⟩,⟨157,_,tK⟩,⟨204,_,uY⟩,⟨205,_,qc⟩,⟨206,_,qd⟩]
abbrev aQ (s:aa):=(aw (cut s 7 (s.length:Int)) 63)
abbrev a8 (s:aa):=(Br.ret (AV.tup ((AV.agg ((AV.str ([]:aa))::((AV.int .i64 0)::((AV.str ([]:aa))::((AV.str ([]:aa))::((AV.bool false)::[]))))))::((AV.bool false)::[]))) [])
abbrev be (s:aa):=(cut (cut s 7 (s.length:Int)) (ac (((List.length (aQ s)):Int)+1)) ((List.length (cut s 7 (s.length:Int))):Int))
abbrev a_ (s:aa):=(cut (aQ s) ((List.length (aw (aQ s) 47)):Int) ((List.length (aQ s)):Int))
abbrev bE (s:aa):=(eY (cut (aw (aQ s) 47) (ac (((List.length (aw (aw (aQ s) 47) 58)):Int)+1)) ((List.length (aw (aQ s) 47)):Int)))
abbrev au (s:aa):=(aH (aw (aw (aQ s) 47) 58))
abbrev aR (s:aa):=((List.length (aQ s)):Int)
abbrev bK (s:aa):=((List.length (aw (aQ s) 47)):Int)
abbrev bL (s:aa):=((List.length (cut s 7 (s.length:Int))):Int)
def gT (s:aa):Br:=(Br.ite (decide (200< (s.length:Int))) (a8 s) (Br.ite (decide ((s.length:Int)<8)) (a8 s) (Br.ite (isM s) (Br.ite (!((a7 bO s)&&(decide (0< (s.length:Int))))) (a8 s) (Br.ite (isM s) (Br.ite (!(decide ((aw s 35)=s))) (a8 s) (Br.ite (decide (7≤(s.length:Int))) (Br.ite (isM (cut s 0 7)) (Br.ite (!(decide ((aH (cut s 0 7))=([104,116,116,112,58,47,47]:aa)))) (a8 s) (Br.ite (decide (7≤(s.length:Int))) (Br.ite (isM (cut s 7 (s.length:Int))) (Br.ite (isM (aQ s)) (Br.ite (isM (aw (aQ s) 47)) (Br.ite (isM (aw (aw (aQ s) 47) 58)) (Br.ite (decide (((List.length (aw (aw (aQ s) 47) 58)):Int)< (bK s))) (Br.ite (decide (0≤(ac (((List.length (aw (aw (aQ s) 47) 58)):Int)+1)))) (Br.ite (decide ((ac (((List.length (aw (aw (aQ s) 47) 58)):Int)+1))≤(bK s))) (Br.ite (!(bE s).2) (a8 s) (Br.ite (decide ((bK s)< (aR s))) (Br.ite (decide (0≤(bK s))) (Br.ite (decide ((bK s)≤(aR s))) (Br.ite (isM (a_ s)) (Br.ite (decide ((aR s)< (bL s))) (Br.ite (decide (0≤(ac ((aR s)+1)))) (Br.ite (decide ((ac ((aR s)+1))≤(bL s))) (Br.ite (((isM (au s))&&(isM (aJ (a_ s))))&&(isM (be s))) (Br.ite (!(aK (au s) (bE s).1 (aJ (a_ s)) (be s) true)) (a8 s) (Br.ret (AV.tup ((AV.agg ((AV.str (au s))::((AV.int .i64 (bE s).1)::((AV.str (aJ (a_ s)))::((AV.str (be s))::((AV.bool true)::[]))))))::((AV.bool true)::[]))) [])) Br.fail) Br.fail) Br.fail) (Br.ite (((isM (au s))&&(isM (aJ (a_ s))))&&true) (Br.ite (!(aK (au s) (bE s).1 (aJ (a_ s)) ([]:aa) false)) (a8 s) (Br.ret (AV.tup ((AV.agg ((AV.str (au s))::((AV.int .i64 (bE s).1)::((AV.str (aJ (a_ s)))::((AV.str ([]:aa))::((AV.bool false)::[]))))))::((AV.bool true)::[]))) [])) Br.fail)) Br.fail) Br.fail) Br.fail) (Br.ite (decide ((aR s)< (bL s))) (Br.ite (decide (0≤(ac ((aR s)+1)))) (Br.ite (decide ((ac ((aR s)+1))≤(bL s))) (Br.ite (((isM (au s))&&true)&&(isM (be s))) (Br.ite (!(aK (au s) (bE s).1 ([47]:aa) (be s) true)) (a8 s) (Br.ret (AV.tup ((AV.agg ((AV.str (au s))::((AV.int .i64 (bE s).1)::((AV.str ([47]:aa))::((AV.str (be s))::((AV.bool true)::[]))))))::((AV.bool true)::[]))) [])) Br.fail) Br.fail) Br.fail) (Br.ite (((isM (au s))&&true)&&true) (Br.ite (!(aK (au s) (bE s).1 ([47]:aa) ([]:aa) false)) (a8 s) (Br.ret (AV.tup ((AV.agg ((AV.str (au s))::((AV.int .i64 (bE s).1)::((AV.str ([47]:aa))::((AV.str ([]:aa))::((AV.bool false)::[]))))))::((AV.bool true)::[]))) [])) Br.fail)))) Br.fail) Br.fail) (Br.ite (decide ((bK s)< (aR s))) (Br.ite (decide (0≤(bK s))) (Br.ite (decide ((bK s)≤(aR s))) (Br.ite (isM (a_ s)) (Br.ite (decide ((aR s)< (bL s))) (Br.ite (decide (0≤(ac ((aR s)+1)))) (Br.ite (decide ((ac ((aR s)+1))≤(bL s))) (Br.ite (((isM (au s))&&(isM (aJ (a_ s))))&&(isM (be s))) (Br.ite (!(aK (au s) 80 (aJ (a_ s)) (be s) true)) (a8 s) (Br.ret (AV.tup ((AV.agg ((AV.str (au s))::((AV.int .i64 80)::((AV.str (aJ (a_ s)))::((AV.str (be s))::((AV.bool true)::[]))))))::((AV.bool true)::[]))) [])) Br.fail) Br.fail) Br.fail) (Br.ite (((isM (au s))&&(isM (aJ (a_ s))))&&true) (Br.ite (!(aK (au s) 80 (aJ (a_ s)) ([]:aa) false)) (a8 s) (Br.ret (AV.tup ((AV.agg ((AV.str (au s))::((AV.int .i64 80)::((AV.str (aJ (a_ s)))::((AV.str ([]:aa))::((AV.bool false)::[]))))))::((AV.bool true)::[]))) [])) Br.fail)) Br.fail) Br.fail) Br.fail) (Br.ite (decide ((aR s)< (bL s))) (Br.ite (decide (0≤(ac ((aR s)+1)))) (Br.ite (decide ((ac ((aR s)+1))≤(bL s))) (Br.ite (((isM (au s))&&true)&&(isM (be s))) (Br.ite (!(aK (au s) 80 ([47]:aa) (be s) true)) (a8 s) (Br.ret (AV.tup ((AV.agg ((AV.str (au s))::((AV.int .i64 80)::((AV.str ([47]:aa))::((AV.str (be s))::((AV.bool true)::[]))))))::((AV.bool true)::[]))) [])) Br.fail) Br.fail) Br.fail) (Br.ite (((isM (au s))&&true)&&true) (Br.ite (!(aK (au s) 80 ([47]:aa) ([]:aa) false)) (a8 s) (Br.ret (AV.tup ((AV.agg ((AV.str (au s))::((AV.int .i64 80)::((AV.str ([47]:aa))::((AV.str ([]:aa))::((AV.bool false)::[]))))))::((AV.bool true)::[]))) [])) Br.fail)))) Br.fail) Br.fail) Br.fail) Br.fail) Br.fail)) Br.fail) Br.fail)) Br.fail)) Br.fail)))
def qf:List AV→List Ob→Br
 | [.str s],[]=>gT s
 |_,_=>.fail
theorem sReadUrl_ok:Sound Kx 146 qf:=ae (C:=Co) (O:=Cn) Tryz.func146 (by kernel_rfl) fun args objs=>by
 unfold qf;split
 ·exact .inr (by kernel_rfl)
 ·exact .inl rfl
def Cp:Opt:={split:=true}
def Cq:SC:=[⟨206,_,qd⟩,⟨208,_,vi⟩]
def gU (h:aa) (po:Int) (pa q:aa) (hq:Bool):Br:=(Br.ite (((isM h)&&(isM pa))&&(isM q)) (Br.ite (!(aK h po pa q hq)) (Br.ret (AV.str ([]:aa)) []) (Br.ite (smU h po pa q) (Br.ret (AV.str (n8 h po pa q hq)) []) Br.fail)) Br.fail)
def qg:List AV→List Ob→Br
 | [.agg [.str h,.int .i64 po,.str pa,.str q,.bool hq]],[]=>gU h po pa q hq
 |_,_=>.fail
theorem xF:Sound Kx 149 qg:=ae (C:=Cq) (O:=Cp) Tryz.func149 (by kernel_rfl) fun args objs=>by
 unfold qg;split
 ·exact .inr (by kernel_rfl)
 ·exact .inl rfl
theorem vk (b:Int): ∀(r:aa) (k:Nat),k≤(aw r b).length→aw (r.drop k) b=(aw r b).drop k
 |r,0,_=>rfl
 | [],k+1,h=>by simp [aw]at h
 |x::r,k+1,h=>by
  have ih:=vk b r k
  unfold aw at ih h⊢
  rw [List.takeWhile_cons]at h⊢
  cases c:decide (by8 x=b)
  ·rw [c]at h
   simp only [Bool.not_false,if_true,List.length_cons]at h⊢
   rw [List.drop_succ_cons,List.drop_succ_cons]
   exact ih (by omega)
  ·rw [c]at h;simp at h
theorem gV {l:aa} {k:Nat} {i:Int} (h:i=(k:Int)):cut l i (l.length:Int)=l.drop k:=by
 subst h;unfold cut;simp
theorem rM {l:aa} {k:Nat} {i:Int} (h:i=(k:Int)):cut l 0 i=l.take k:=by
 subst h;unfold cut;simp
theorem FW (a b:Nat):decide ((a:Int)< (b:Int))=decide (a<b):=by
 rw [Bool.eq_iff_iff,decide_eq_true_eq,decide_eq_true_eq];omega
theorem vl (p:aa):(aJ p).length≤1000:=by
 cases p with
 |nil=>exact Nat.zero_le _
 |cons c r=>
  by_cases hc:c=47
  ·subst hc
   rw [iG]
   cases ho:jV (47::r)
   ·exact Nat.zero_le _
   ·unfold jV at ho
    simp only [Bool.and_eq_true,decide_eq_true_eq,List.length_cons]at ho
    have h1:=xB r (by omega)
    have h2:=jl (eZ (cA r) 47)
    have h3:=z6 (gM (eZ (cA r) 47))
    simp only [cond_true,List.length_cons];omega
  ·rw [fW c r hc];exact Nat.zero_le _
def urA (u:Ur):AV:=.agg [.str u.h,.int .i64 u.po,.str u.pa,.str u.q,.bool u.hq]
theorem cT {s:aa} (h:pL s=false):aP s=(u0,false):=by unfold aP;rw [h];rfl
theorem nA {s:aa} (h:pL s=true):aP s=bif(B4 (oj (s.drop 7))).2&&(Ii (s.drop 7)).ok then(Ii (s.drop 7),true)else(u0,false):=by
 unfold aP;rw [h,Bool.true_and]
theorem j5 (s:aa):pL s=(decide (s.length≤200)&&decide (7≤s.length)&&a7 bO s&& !cB s 35&&decide (aH (s.take 7)=rC)):=rfl
theorem Iy:(Ii []).ok=false:=by
 unfold Ii Ur.ok aK
 have e:f7 (aH (aw (oj []) 58))=false:=rfl
 simp only [e,Bool.false_and]
def NY:List AV→List Ob→Br:=kz fun s=>.tup [urA (aP s).1,.bool (aP s).2]
theorem vm:Sound Kx 146 NY:=sReadUrl_ok.of fun args objs r h=>by
 unfold NY kz at h
 split at h
 case h_2=>cases h
 rename_i s
 obtain⟨hM,h2⟩:=af h
 cases h2
 show(gT s).val=some (.tup [urA (aP s).1,.bool (aP s).2],[])
 unfold gT bL bK aR au bE a_ be a8 aQ
 have hok:=j5 s
 cases d1:decide ((200:Int)< (s.length:Int))
 case true=>
  have:=of_decide_eq_true d1
  rw [dF' (show ¬s.length≤200 by omega)]at hok
  rw [cT (by rw [hok];rfl)];rfl
 have d1':=of_decide_eq_false d1
 rw [dT' (show s.length≤200 by omega)]at hok
 cases d2:decide ((s.length:Int)<8)
 case true=>
  have d2':=of_decide_eq_true d2
  refine(bp rfl).trans ((aZ rfl).trans ?_)
  have:aP s=(u0,false):=by
   cases hr:pL s
   ·exact cT hr
   ·rw [nA hr]
    rw [hok]at hr
    simp only [Bool.and_eq_true,decide_eq_true_eq]at hr
    have e:s.drop 7=[]:=List.drop_eq_nil_of_le (by omega)
    rw [e,Iy,Bool.and_false];rfl
  rw [this];rfl
 have d2':=of_decide_eq_false d2
 rw [dT' (show 7≤s.length by omega)]at hok
 rw [hM,lg,dT' (show(0:Int)< (s.length:Int) by omega),dT' (show(7:Int)≤(s.length:Int) by omega),show cut s 0 7=s.take 7 from rM (k:=7) rfl,show cut s 7 (s.length:Int)=s.drop 7 from gV (k:=7) rfl]
 cases d3:a7 bO s
 ·rw [d3]at hok
  rw [cT (by rw [hok];rfl)];rfl
 rw [d3]at hok
 cases d4:cB s 35
 case true=>
  rw [d4]at hok
  rw [cT (by rw [hok];rfl)];rfl
 rw [d4]at hok
 have e7:isM (s.take 7)=true:=bi (n:=7) (by rw [List.length_take];exact Nat.min_le_left _ _)
 rw [e7]
 cases d5:decide (aH (s.take 7)=[104,116,116,112,58,47,47])
 ·rw [show decide (aH (s.take 7)=rC)=false from d5]at hok
  rw [cT (by rw [hok];rfl)];rfl
 rw [show decide (aH (s.take 7)=rC)=true from d5]at hok
 rw [nA (by rw [hok];rfl)]
 generalize hr:s.drop 7=r
 have hrl:r.length≤200:=by rw [←hr,List.length_drop];omega
 refine(bp rfl).trans ((bp rfl).trans ((aZ rfl).trans ((bp rfl).trans ((aZ rfl).trans ((bp rfl).trans ((aZ rfl).trans ((aZ rfl).trans ((bp rfl).trans ((aZ rfl).trans ?_)))))))))
 unfold Ii K7 B4 oj jW Ur.ok urA
 have lF:=eM r 63
 generalize hF:aw r 63=F at lF
 have lA:=eM F 47
 generalize hA:aw F 47=A at lA
 have lH:=eM A 58
 generalize hH:aw A 58=H at lH
 have w1:ac ((H.length:Int)+1)=((H.length+1:Nat):Int):=by rw [w64 (by omega) (by omega)];rfl
 have w2:ac ((F.length:Int)+1)=((F.length+1:Nat):Int):=by rw [w64 (by omega) (by omega)];rfl
 have m1:isM r=true:=bi (n:=200) (by omega)
 have m2:isM F=true:=bi (n:=200) (by omega)
 have m3:isM A=true:=bi (n:=200) (by omega)
 have m4:isM H=true:=bi (n:=200) (by omega)
 have m5:isM (aH H)=true:=bi (n:=200) (by rw [tI];omega)
 have m6: ∀p,isM (aJ p)=true:=fun p=>bi (n:=1000) (vl p)
 have m7:isM (F.drop A.length)=true:=bi (n:=200) (by rw [List.length_drop];omega)
 have m8:isM (r.drop (F.length+1))=true:=bi (n:=200) (by rw [List.length_drop];omega)
 have q0: ∀n:Nat,decide ((0:Int)≤(n:Int))=true:=fun n=>dT' (by omega)
 have qA:decide ((A.length:Int)≤(F.length:Int))=true:=dT' (by omega)
 rw [m1,m2,m3,m4,w1,w2,gV (l:=A) rfl,gV (l:=F) rfl,gV (l:=r) rfl,m5,m7,m8,FW,FW,FW,q0,q0,q0,qA]
 simp only [m6]
 cases t1:decide (H.length<A.length)
 ·cases t2:decide (A.length<F.length)
  ·cases t3:decide (F.length<r.length)
   ·simp only [Br.val,cond_true,cond_false,Bool.and_true,Bool.true_and]
    cases aK (aH H) 80 [47] [] false<;>rfl
   ·have t3':=of_decide_eq_true t3
    rw [dT' (show((F.length+1:Nat):Int)≤(r.length:Int) by omega)]
    simp only [Br.val,cond_true,cond_false,Bool.and_true,Bool.true_and]
    cases aK (aH H) 80 [47] (r.drop (F.length+1)) true<;>rfl
  ·cases t3:decide (F.length<r.length)
   ·simp only [Br.val,cond_true,cond_false,Bool.and_true,Bool.true_and]
    cases aK (aH H) 80 (aJ (F.drop A.length)) [] false<;>rfl
   ·have t3':=of_decide_eq_true t3
    rw [dT' (show((F.length+1:Nat):Int)≤(r.length:Int) by omega)]
    simp only [Br.val,cond_true,cond_false,Bool.and_true,Bool.true_and]
    cases aK (aH H) 80 (aJ (F.drop A.length)) (r.drop (F.length+1)) true<;>rfl
 ·have t1':=of_decide_eq_true t1
  rw [dT' (show((H.length+1:Nat):Int)≤(A.length:Int) by omega)]
  cases t4:(eY (A.drop (H.length+1))).2
  ·simp only [Br.val,cond_true,cond_false,Bool.false_and,t4,Bool.not_false];rfl
  ·cases t2:decide (A.length<F.length)
   ·cases t3:decide (F.length<r.length)
    ·simp only [Br.val,cond_true,cond_false,Bool.and_true,Bool.true_and,t4,Bool.not_true]
     cases aK (aH H) (eY (A.drop (H.length+1))).1 [47] [] false<;>rfl
    ·have t3':=of_decide_eq_true t3
     rw [dT' (show((F.length+1:Nat):Int)≤(r.length:Int) by omega)]
     simp only [Br.val,cond_true,cond_false,Bool.and_true,Bool.true_and,t4,Bool.not_true]
     cases aK (aH H) (eY (A.drop (H.length+1))).1 [47] (r.drop (F.length+1)) true<;>rfl
   ·cases t3:decide (F.length<r.length)
    ·simp only [Br.val,cond_true,cond_false,Bool.and_true,Bool.true_and,t4,Bool.not_true]
     cases aK (aH H) (eY (A.drop (H.length+1))).1 (aJ (F.drop A.length)) [] false<;>rfl
    ·have t3':=of_decide_eq_true t3
     rw [dT' (show((F.length+1:Nat):Int)≤(r.length:Int) by omega)]
     simp only [Br.val,cond_true,cond_false,Bool.and_true,Bool.true_and,t4,Bool.not_true]
     cases aK (aH H) (eY (A.drop (H.length+1))).1 (aJ (F.drop A.length)) (r.drop (F.length+1)) true<;>rfl
theorem FX (r:aa):r.take (aw (aw r 63) 47).length=aw (aw r 63) 47:=by
 have h1:=nf r 63
 have h2:=nf (aw r 63) 47
 have h3:=eM (aw r 63) 47
 calc r.take (aw (aw r 63) 47).length=(r.take (aw r 63).length).take (aw (aw r 63) 47).length:=by rw [List.take_take,Nat.min_eq_left h3]
  _=(aw r 63).take (aw (aw r 63) 47).length:=by rw [h1]
  _=aw (aw r 63) 47:=h2
theorem Li (r:aa):(decide (jj r [47,63]<0)=true→(aw (aw r 63) 47).length=r.length)∧(decide (jj r [47,63]<0)=false→jj r [47,63]=((aw (aw r 63) 47).length:Int)):=by
 rw [gO,show by8 47=47 from rfl,show by8 63=63 from rfl]
 cases h:cB r 47||cB r 63
 ·rw [cond_false]
  rw [Bool.or_eq_false_iff]at h
  have h1:aw r 63=r:=by have:=lg r 63;rw [h.2]at this;exact of_decide_eq_true this
  have h2:aw r 47=r:=by have:=lg r 47;rw [h.1]at this;exact of_decide_eq_true this
  rw [h1,h2]
  exact⟨fun _=>rfl,fun e=>by simp at e⟩
 ·rw [cond_true]
  exact⟨fun e=>by have:=of_decide_eq_true e;omega,fun _=>rfl⟩
theorem Ag {l:aa} {k:Nat}:decide (l.drop k=[])= !decide (k<l.length):=by
 rw [Bool.eq_iff_iff];simp
theorem M4 {a b:Nat} (h:a≤b):(!decide (a=b))=decide (a<b):=by
 rw [Bool.eq_iff_iff];simp;omega
theorem vn:Sound Kx 159 NY:=iReadUrl_ok.of fun args objs r h=>by
 unfold NY kz at h
 split at h
 case h_2=>cases h
 rename_i s
 obtain⟨hM,h2⟩:=af h
 cases h2
 show(gS s).val=some (.tup [urA (aP s).1,.bool (aP s).2],[])
 unfold gS dz dy bW bd aC aB aU ar aq
 have hok:=j5 s
 cases d1:decide ((200:Int)< (s.length:Int))
 case true=>
  have:=of_decide_eq_true d1
  rw [dF' (show ¬s.length≤200 by omega)]at hok
  rw [cT (by rw [hok];rfl)];rfl
 have d1':=of_decide_eq_false d1
 rw [dT' (show s.length≤200 by omega)]at hok
 rw [hM]
 cases d3:a7 bO s
 ·rw [d3]at hok
  rw [cT (by rw [hok];simp)];rfl
 rw [d3]at hok
 cases d4:cB s 35
 case true=>
  rw [d4]at hok
  rw [cT (by rw [hok];simp)];rfl
 rw [d4]at hok
 cases d2:decide ((s.length:Int)<7)
 case true=>
  have d2':=of_decide_eq_true d2
  rw [dF' (show ¬7≤s.length by omega)]at hok
  rw [cT (by rw [hok];rfl)];rfl
 have d2':=of_decide_eq_false d2
 rw [dT' (show 7≤s.length by omega)]at hok
 rw [dT' (show(7:Int)≤(s.length:Int) by omega),show cut s 0 7=s.take 7 from rM (k:=7) rfl,show cut s 7 (s.length:Int)=s.drop 7 from gV (k:=7) rfl]
 have e7:isM (s.take 7)=true:=bi (n:=7) (by rw [List.length_take];exact Nat.min_le_left _ _)
 rw [e7]
 cases d5:decide (aH (s.take 7)=[104,116,116,112,58,47,47])
 ·rw [show decide (aH (s.take 7)=rC)=false from d5]at hok
  rw [cT (by rw [hok];rfl)];rfl
 rw [show decide (aH (s.take 7)=rC)=true from d5]at hok
 rw [nA (by rw [hok];rfl)]
 have hvis:a7 bO (s.drop 7)=true:=by
  have e:=zG bO (s.take 7) (s.drop 7)
  rw [List.take_append_drop,d3]at e
  cases hh:a7 bO (s.drop 7)
  ·rw [hh,Bool.and_false]at e;cases e
  ·rfl
 have hasc:=FI _ hvis
 generalize hr:s.drop 7=r at hasc
 have hrl:r.length≤200:=by rw [←hr,List.length_drop];omega
 have hend:=Li r
 have hat:=FX r
 have mr:decide (r.length≤1000000)=true:=dT' (by omega)
 refine(bp rfl).trans ((aZ rfl).trans ((bp rfl).trans ((bp rfl).trans ((bp rfl).trans ((aZ rfl).trans ((aZ rfl).trans ((bp rfl).trans ((aZ rfl).trans ((aZ (by rw [mr,hasc];rfl)).trans ?_)))))))))
 unfold Ii K7 B4 oj jW Ur.ok urA
 have lF:=eM r 63
 have ud:=vk 63 r (aw (aw r 63) 47).length (eM _ _)
 generalize hF:aw r 63=F at lF hend hat ud
 have lA:=eM F 47
 generalize hA:aw F 47=A at lA hend hat ud
 have lH:=eM A 58
 have ct:cut r 0 (A.length:Int)=A:=(rM rfl).trans hat
 have cd:cut r (A.length:Int) (r.length:Int)=r.drop A.length:=gV rfl
 have x1:=kX 58 A
 rw [show by8 58=58 from rfl]at x1
 have x2:=kX 63 (r.drop A.length)
 rw [show by8 63=63 from rfl,ud]at x2
 generalize hH:aw A 58=H at lH x1
 have y1:(pH A [58]).1=H:=by rw [x1]
 have y2:(pH A [58]).2.1=A.drop (H.length+1):=by rw [x1]
 have y3:(pH A [58]).2.2=decide (H.length<A.length):=by rw [x1];exact M4 lH
 have z1:(pH (r.drop A.length) [63]).1=F.drop A.length:=by rw [x2]
 have z2:(pH (r.drop A.length) [63]).2.1=bif decide (F.length<r.length)then r.drop (F.length+1)else []:=by
  rw [x2]
  simp only [List.length_drop,List.drop_drop]
  cases t:decide (F.length<r.length)
  ·have:=of_decide_eq_false t
   rw [cond_false]
   exact List.drop_eq_nil_of_le (by omega)
  ·rw [cond_true]
   congr 1;omega
 have z3:(pH (r.drop A.length) [63]).2.2=decide (F.length<r.length):=by
  rw [x2]
  simp only [List.length_drop]
  rw [M4 (by omega),Bool.eq_iff_iff,decide_eq_true_eq,decide_eq_true_eq];omega
 have m4:isM H=true:=bi (n:=200) (by omega)
 have m5:isM (aH H)=true:=bi (n:=200) (by rw [tI];omega)
 have m6: ∀p,isM (aJ p)=true:=fun p=>bi (n:=1000) (vl p)
 have m7:isM (F.drop A.length)=true:=bi (n:=200) (by rw [List.length_drop];omega)
 have m8:isM (bif decide (F.length<r.length)then r.drop (F.length+1)else [])=true:=by
  refine bi (n:=200) ?_
  cases decide (F.length<r.length)
  ·exact Nat.zero_le _
  ·rw [cond_true,List.length_drop];omega
 have q0: ∀n:Nat,decide ((0:Int)≤(n:Int))=true:=fun n=>dT' (by omega)
 have qA:decide ((A.length:Int)≤(r.length:Int))=true:=dT' (by omega)
 have q1:decide (A.length≤1000000)=true:=dT' (by omega)
 have q2:decide ((r.drop A.length).length≤1000000)=true:=dT' (by rw [List.length_drop];omega)
 have q3:decide ((A.drop (H.length+1)).length≤1000000)=true:=dT' (by rw [List.length_drop];omega)
 cases t0:decide (jj r [47,63]<0)
 ·rw [hend.2 t0]
  simp only [Br.val,cond_true,cond_false,q0,qA,ct,cd,q1,q2,y1,y2,y3,z1,z2,z3,m4,m5,m6,m7,m8,q3,Bool.and_self,Bool.and_true,Ag]
  cases t1:decide (H.length<A.length)
  ·cases t2:decide (A.length<F.length)
   ·simp only [Br.val,cond_true,cond_false,Bool.not_false,Bool.true_and]
    cases aK (aH H) 80 [47] (bif decide (F.length<r.length)then r.drop (F.length+1)else []) (decide (F.length<r.length))<;>rfl
   ·simp only [Br.val,cond_true,cond_false,Bool.not_true,Bool.true_and]
    cases aK (aH H) 80 (aJ (F.drop A.length)) (bif decide (F.length<r.length)then r.drop (F.length+1)else []) (decide (F.length<r.length))<;>rfl
  ·cases t4:(eY (A.drop (H.length+1))).2
   ·simp only [Br.val,cond_true,cond_false,Bool.not_false,Bool.false_and,t4];rfl
   ·cases t2:decide (A.length<F.length)
    ·simp only [Br.val,cond_true,cond_false,Bool.not_false,Bool.not_true,Bool.true_and,t4]
     cases aK (aH H) (eY (A.drop (H.length+1))).1 [47] (bif decide (F.length<r.length)then r.drop (F.length+1)else []) (decide (F.length<r.length))<;>rfl
    ·simp only [Br.val,cond_true,cond_false,Bool.not_true,Bool.true_and,t4]
     cases aK (aH H) (eY (A.drop (H.length+1))).1 (aJ (F.drop A.length)) (bif decide (F.length<r.length)then r.drop (F.length+1)else []) (decide (F.length<r.length))<;>rfl
 ·have hl:=hend.1 t0
  have ct2:cut r 0 (r.length:Int)=A:=by rw [hl]at ct;exact ct
  have cd2:cut r (r.length:Int) (r.length:Int)=r.drop A.length:=by
   rw [gV (l:=r) (k:=r.length) rfl,hl]
  have qB:decide ((r.length:Int)≤(r.length:Int))=true:=dT' (Int.le_refl _)
  simp only [Br.val,cond_true,cond_false,q0,qB,ct2,cd2,q1,q2,y1,y2,y3,z1,z2,z3,m4,m5,m6,m7,m8,q3,Bool.and_self,Bool.and_true,Ag]
  cases t1:decide (H.length<A.length)
  ·cases t2:decide (A.length<F.length)
   ·simp only [Br.val,cond_true,cond_false,Bool.not_false,Bool.true_and]
    cases aK (aH H) 80 [47] (bif decide (F.length<r.length)then r.drop (F.length+1)else []) (decide (F.length<r.length))<;>rfl
   ·simp only [Br.val,cond_true,cond_false,Bool.not_true,Bool.true_and]
    cases aK (aH H) 80 (aJ (F.drop A.length)) (bif decide (F.length<r.length)then r.drop (F.length+1)else []) (decide (F.length<r.length))<;>rfl
  ·cases t4:(eY (A.drop (H.length+1))).2
   ·simp only [Br.val,cond_true,cond_false,Bool.not_false,Bool.false_and,t4];rfl
   ·cases t2:decide (A.length<F.length)
    ·simp only [Br.val,cond_true,cond_false,Bool.not_false,Bool.not_true,Bool.true_and,t4]
     cases aK (aH H) (eY (A.drop (H.length+1))).1 [47] (bif decide (F.length<r.length)then r.drop (F.length+1)else []) (decide (F.length<r.length))<;>rfl
    ·simp only [Br.val,cond_true,cond_false,Bool.not_true,Bool.true_and,t4]
     cases aK (aH H) (eY (A.drop (H.length+1))).1 (aJ (F.drop A.length)) (bif decide (F.length<r.length)then r.drop (F.length+1)else []) (decide (F.length<r.length))<;>rfl
theorem vo:Sound Kx 149 (MZ (fun h po pa q _=>isM h&&isM pa&&isM q) (fun h po pa q hq=>.str (bif aK h po pa q hq then n8 h po pa q hq else []))):=FS xF fun h po pa q hq hs=>by
 show(gU h po pa q hq).val=some (.str (bif aK h po pa q hq then n8 h po pa q hq else []),[])
 unfold gU
 refine(aZ hs).trans ?_
 cases ho:aK h po pa q hq
 ·rfl
 ·simp only [Bool.and_eq_true]at hs
  have ho':=ho
  unfold aK at ho'
  simp only [Bool.and_eq_true,Bool.not_eq_true',decide_eq_false_iff_not]at ho'
  obtain⟨⟨⟨⟨⟨⟨⟨h1,h2,h3⟩,h4⟩,h5⟩,_⟩,_⟩,_⟩,_⟩:=ho'
  exact(bp rfl).trans ((aZ (Af h1 h2 h3 (dF' h4) h5 hs.2)).trans rfl)
def Iz:SC:=[⟨159,_,vn⟩,⟨160,_,vh⟩]
def nB (s:aa):Br:=(Br.ite (isM s) (Br.ite (!(aP s).2) (Br.ret (AV.tup ((AV.str ([]:aa))::((AV.bool false)::[]))) []) (Br.ite (smU (aP s).1.1 (aP s).1.2 (aP s).1.3 (aP s).1.4) (Br.ret (AV.tup ((AV.str (n8 (aP s).1.1 (aP s).1.2 (aP s).1.3 (aP s).1.4 (aP s).1.5))::((AV.bool true)::[]))) []) Br.fail)) Br.fail)
def Ah:List AV→List Ob→Br
 | [.str s],[]=>nB s
 |_,_=>.fail
theorem iCanon_ok:Sound Kx 106 Ah:=ae (C:=Iz) (O:=O0) Tryz.func106 (by kernel_rfl) fun args objs=>by
 unfold Ah;split
 ·exact .inr (by kernel_rfl)
 ·exact .inl rfl
def IA:SC:=[⟨146,_,vm⟩,⟨149,_,vo⟩]
def nC (s:aa):Br:=(Br.ite (isM s) (Br.ite (!(aP s).2) (Br.ret (AV.tup ((AV.str ([]:aa))::((AV.bool false)::[]))) []) (Br.ite (((isM (aP s).1.1)&&(isM (aP s).1.3))&&(isM (aP s).1.4)) (Br.ret (AV.tup ((AV.str (bif(aK (aP s).1.1 (aP s).1.2 (aP s).1.3 (aP s).1.4 (aP s).1.5)then(n8 (aP s).1.1 (aP s).1.2 (aP s).1.3 (aP s).1.4 (aP s).1.5)else([]:aa)))::((AV.bool true)::[]))) []) Br.fail)) Br.fail)
def Ai:List AV→List Ob→Br
 | [.str s],[]=>nC s
 |_,_=>.fail
theorem sCanon_ok:Sound Kx 121 Ai:=ae (C:=IA) (O:=O0) Tryz.func121 (by kernel_rfl) fun args objs=>by
 unfold Ai;split
 ·exact .inr (by kernel_rfl)
 ·exact .inl rfl
theorem Aj {s:aa} (h:(aP s).2=true):(aP s).1.ok=true:=by
 unfold aP at h⊢
 cases c:pL s&&(B4 (oj (s.drop 7))).2&&(Ii (s.drop 7)).ok
 ·rw [c]at h;cases h
 ·rw [cond_true]
  simp only [Bool.and_eq_true]at c
  exact c.2
theorem Ak {h:aa} {po:Int} {pa q:aa} {hq:Bool} (ho:aK h po pa q hq=true):f7 h=true∧decide (1≤po)=true∧decide (po≤65535)=true∧decide (pa=[])=false∧decide (aJ pa=pa)=true∧(n8 h po pa q hq).length≤200:=by
 unfold aK at ho
 simp only [Bool.and_eq_true,Bool.not_eq_true',decide_eq_false_iff_not]at ho
 obtain⟨⟨⟨⟨⟨⟨⟨h1,h2,h3⟩,h4⟩,h5⟩,_⟩,_⟩,_⟩,h8⟩:=ho
 exact⟨h1,h2,h3,dF' h4,h5,of_decide_eq_true h8⟩
theorem Or {h:aa} {po:Int} {pa q:aa} {hq:Bool} (ho:aK h po pa q hq=true):q.length≤200:=by
 have hl:=(Ak ho).2.2.2.2.2
 unfold aK at ho
 simp only [Bool.and_eq_true,Bool.or_eq_true,decide_eq_true_eq]at ho
 rcases ho.1.2 with h'|h'
 ·subst h'
  have:=JT h po pa q;omega
 ·rw [h'];exact Nat.zero_le _
theorem Al {u:Ur} (ho:u.ok=true):smU u.h u.po u.pa u.q=true∧(isM u.h&&isM u.pa&&isM u.q)=true:=by
 unfold Ur.ok at ho
 obtain⟨h1,h2,h3,h4,h5,_⟩:=Ak ho
 have hq:isM u.q=true:=bi (n:=200) (Or ho)
 have a:=Ae h1
 have b:=vj (of_decide_eq_true h5) (of_decide_eq_false h4)
 exact⟨Af h1 h2 h3 h4 h5 hq,by rw [hq,bi (n:=60) a,bi (n:=200) b];rfl⟩
def NZ:List AV→List Ob→Br:=kz fun s=>.tup [.str (cZ s).1,.bool (cZ s).2]
theorem Cr:Sound Kx 106 NZ:=iCanon_ok.of fun args objs r h=>by
 unfold NZ kz at h
 split at h
 case h_2=>cases h
 rename_i s
 obtain⟨hM,h2⟩:=af h
 cases h2
 show(nB s).val=some (.tup [.str (cZ s).1,.bool (cZ s).2],[])
 unfold nB cZ
 refine(aZ hM).trans ?_
 cases c:(aP s).2
 ·rfl
 ·exact(bp rfl).trans ((aZ (Al (Aj c)).1).trans rfl)
theorem Cs:Sound Kx 121 NZ:=sCanon_ok.of fun args objs r h=>by
 unfold NZ kz at h
 split at h
 case h_2=>cases h
 rename_i s
 obtain⟨hM,h2⟩:=af h
 cases h2
 show(nC s).val=some (.tup [.str (cZ s).1,.bool (cZ s).2],[])
 unfold nC cZ
 refine(aZ hM).trans ?_
 cases c:(aP s).2
 ·rfl
 ·have ho:=Aj c
  have ho':aK (aP s).1.h (aP s).1.po (aP s).1.pa (aP s).1.q (aP s).1.hq=true:=ho
  refine(bp rfl).trans ((aZ (Al ho).2).trans ?_)
  rw [ho'];rfl
def IB:SC:=[⟨106,_,Cr⟩]
def nD (s:aa):Br:=(Br.ite (isM s) (Br.ite (cZ s).2 (Br.ret (AV.bool (decide ((cZ s).1=s))) []) (Br.ret (AV.bool false) [])) Br.fail)
def Am:List AV→List Ob→Br
 | [.str s],[]=>nD s
 |_,_=>.fail
theorem iIsCan_ok:Sound Kx 87 Am:=ae (C:=IB) (O:=O0) Tryz.func87 (by kernel_rfl) fun args objs=>by
 unfold Am;split
 ·exact .inr (by kernel_rfl)
 ·exact .inl rfl
def IC:SC:=[⟨121,_,Cs⟩]
def nE (s:aa):Br:=(Br.ite (isM s) (Br.ite (cZ s).2 (Br.ret (AV.bool (decide ((cZ s).1=s))) []) (Br.ret (AV.bool false) [])) Br.fail)
def An:List AV→List Ob→Br
 | [.str s],[]=>nE s
 |_,_=>.fail
theorem sIsCan_ok:Sound Kx 80 An:=ae (C:=IC) (O:=O0) Tryz.func80 (by kernel_rfl) fun args objs=>by
 unfold An;split
 ·exact .inr (by kernel_rfl)
 ·exact .inl rfl
def Lj:SC:=[⟨124,_,bZ⟩]
def ID (n:Int):Br:=(Br.ite (decide (0≤n)) (Br.ret (AV.bool (decide (n≤253402300799))) []) (Br.ret (AV.bool false) []))
def FY:List AV→List Ob→Br
 | [.int .i64 n],[]=>ID n
 |_,_=>.fail
theorem IE:Sound Kx 88 FY:=ae (C:=Lj) (O:=O0) Tryz.func88 (by kernel_rfl) fun args objs=>by
 unfold FY;split
 ·exact .inr (by kernel_rfl)
 ·exact .inl rfl
def IF (n:Int):Br:=(Br.ite (decide (0≤n)) (Br.ret (AV.bool (decide (n≤253402300799))) []) (Br.ret (AV.bool false) []))
def FZ:List AV→List Ob→Br
 | [.int .i64 n],[]=>IF n
 |_,_=>.fail
theorem IG:Sound Kx 81 FZ:=ae (C:=[]) (O:=O0) Tryz.func81 (by kernel_rfl) fun args objs=>by
 unfold FZ;split
 ·exact .inr (by kernel_rfl)
 ·exact .inl rfl
def IH:SC:=[⟨90,_,pE⟩,⟨141,_,zp⟩]
def nF (me ta:aa) (st:Int) (re:aa) (ba:Bool) (fs:List Fd) (bo:aa):Br:=(Br.ite (!(cD me ta st re ba fs bo)) (Br.ret (AV.str ([]:aa)) []) (Br.ite (hdG me ta st re fs bo) (Br.ite (decide (((List.length (dx me ta st re ba fs bo))+bo.length)≤9223372036854775807)) (Br.ret (AV.str ((dx me ta st re ba fs bo)++bo)) []) Br.fail) Br.fail))
def Ao:List AV→List Ob→Br
 | [.agg [.str me,.str ta,.int .i64 st,.str re,.bool ba,.sh (.pair .str .str) fs,.str bo]],[]=>nF me ta st re ba fs bo
 |_,_=>.fail
theorem F1:Sound Kx 107 Ao:=ae (C:=IH) (O:=O0) Tryz.func107 (by kernel_rfl) fun args objs=>by
 unfold Ao;split
 ·exact .inr (by kernel_rfl)
 ·exact .inl rfl
def II:SC:=[⟨83,_,pG⟩,⟨129,_,uB⟩]
def nG (me ta:aa) (st:Int) (re:aa) (ba:Bool) (fs:List Fd) (bo:aa):Br:=(Br.ite (!(cD me ta st re ba fs bo)) (Br.ret (AV.str ([]:aa)) []) (Br.ite (hdG me ta st re fs bo) (Br.ite (decide (((List.length (dx me ta st re ba fs bo))+bo.length)≤9223372036854775807)) (Br.ret (AV.str ((dx me ta st re ba fs bo)++bo)) []) Br.fail) Br.fail))
def Ap:List AV→List Ob→Br
 | [.agg [.str me,.str ta,.int .i64 st,.str re,.bool ba,.sh (.pair .str .str) fs,.str bo]],[]=>nG me ta st re ba fs bo
 |_,_=>.fail
theorem F2:Sound Kx 118 Ap:=ae (C:=II) (O:=O0) Tryz.func118 (by kernel_rfl) fun args objs=>by
 unfold Ap;split
 ·exact .inr (by kernel_rfl)
 ·exact .inl rfl
def F3:SC:=[⟨44,_,jO⟩,⟨45,_,EQ⟩]
def jm (ur:aa) (t1 t2:Int) (ak:List Fd) (me ta:aa) (st:Int) (re:aa) (ba:Bool) (fs:List Fd) (bo:aa) (left:Int):Br:=(Br.ite (decide ((ac (left-(ur.length:Int)))<0)) (Br.ret (AV.int .i64 (-1)) []) (Br.ite ((smF ak)&&(b9 (ac (left-(ur.length:Int))))) (Br.ite (decide ((EG ak (ac (left-(ur.length:Int))))<0)) (Br.ret (AV.int .i64 (-1)) []) (Br.ite ((smM me ta re fs bo)&&(b9 (EG ak (ac (left-(ur.length:Int)))))) (Br.ite (decide ((szM (EP me ta re fs bo) (EG ak (ac (left-(ur.length:Int)))))<0)) (Br.ret (AV.int .i64 (-1)) []) (Br.ret (AV.int .i64 (szM (EP me ta re fs bo) (EG ak (ac (left-(ur.length:Int)))))) [])) Br.fail)) Br.fail))
def vp:List AV→List Ob→Br
 | [.agg [.str ur,.int .i64 t1,.int .i64 t2,.sh (.pair .str .str) ak,.str me,.str ta,.int .i64 st,.str re,.bool ba,.sh (.pair .str .str) fs,.str bo],.int .i64 left],[]=>jm ur t1 t2 ak me ta st re ba fs bo left
 |_,_=>.fail
theorem szEntry_ok:Sound Kx 15 vp:=ae (C:=F3) (O:=O0) Tryz.func15 (by kernel_rfl) fun args objs=>by
 unfold vp;split
 ·exact .inr (by kernel_rfl)
 ·exact .inl rfl
def F4:SC:=[⟨48,_,jP⟩,⟨49,_,H9⟩]
def Ct (ur:aa) (t1 t2:Int) (ak:List Fd) (me ta:aa) (st:Int) (re:aa) (ba:Bool) (fs:List Fd) (bo:aa):Br:=(Br.ite (decide (ak.length≤1048576)) (Br.ite (decide (fs.length≤1048576)) (Br.ret (AV.agg ((AV.str ur)::((AV.int .i64 t1)::((AV.int .i64 t2)::((AV.ref 0 0)::((AV.str me)::((AV.str ta)::((AV.int .i64 st)::((AV.str re)::((AV.bool ba)::((AV.ref 1 0)::((AV.str bo)::[])))))))))))) ((Ob.arr (Ty.pair Ty.str Ty.str) 0 false ak)::((Ob.arr (Ty.pair Ty.str Ty.str) 0 false fs)::[]))) Br.fail) Br.fail)
def vq:List AV→List Ob→Br
 | [.agg [.str ur,.int .i64 t1,.int .i64 t2,.sh (.pair .str .str) ak,.str me,.str ta,.int .i64 st,.str re,.bool ba,.sh (.pair .str .str) fs,.str bo]],[]=>Ct ur t1 t2 ak me ta st re ba fs bo
 |_,_=>.fail
theorem Cu:Sound Kx 17 vq:=ae (C:=F4) (O:=O0) Tryz.func17 (by kernel_rfl) fun args objs=>by
 unfold vq;split
 ·exact .inr (by kernel_rfl)
 ·exact .inl rfl
def F5:SC:=[⟨52,_,jQ⟩,⟨53,_,ER⟩]
def jn (ur:aa) (t1 t2:Int) (ak:List Fd) (me ta:aa) (st:Int) (re:aa) (ba:Bool) (fs:List Fd) (bo:aa) (ur':aa) (t1' t2':Int) (ak':List Fd) (me' ta':aa) (st':Int) (re':aa) (ba':Bool) (fs':List Fd) (bo':aa):Br:=(Br.ite (!(decide (ur=ur'))) (Br.ret (AV.bool false) []) (Br.ite (!(decide (t1=t1'))) (Br.ret (AV.bool false) []) (Br.ite (!(decide (t2=t2'))) (Br.ret (AV.bool false) []) (Br.ite (decide (ak.length≤4611686018427387904)) (Br.ite (!(decide (ak=ak'))) (Br.ret (AV.bool false) []) (Br.ite ((((((((decide (me=me'))&&(decide (ta=ta')))&&(decide (st=st')))&&(decide (re=re')))&&(decide (ba=ba')))&&(decide (fs=fs')))&&(decide (bo=bo')))&&(decide (fs.length≤1048576))) (Br.ret (AV.bool true) []) Br.fail)) Br.fail))))
def vr:List AV→List Ob→Br
 | [.agg [.str ur,.int .i64 t1,.int .i64 t2,.sh (.pair .str .str) ak,.str me,.str ta,.int .i64 st,.str re,.bool ba,.sh (.pair .str .str) fs,.str bo],.agg [.str ur',.int .i64 t1',.int .i64 t2',.sh (.pair .str .str) ak',.str me',.str ta',.int .i64 st',.str re',.bool ba',.sh (.pair .str .str) fs',.str bo']],[]=>jn ur t1 t2 ak me ta st re ba fs bo ur' t1' t2' ak' me' ta' st' re' ba' fs' bo'
 |_,_=>.fail
theorem eqEntry_ok:Sound Kx 19 vr:=ae (C:=F5) (O:=O0) Tryz.func19 (by kernel_rfl) fun args objs=>by
 unfold vr;split
 ·exact .inr (by kernel_rfl)
 ·exact .inl rfl
theorem Cw:Sound Kx 87 (kz fun s=>.bool (fy s)):=iIsCan_ok.of fun args objs r h=>by
 unfold kz at h
 split at h
 case h_2=>cases h
 rename_i s
 obtain⟨hM,h2⟩:=af h
 cases h2
 show(nD s).val=some (.bool (fy s),[])
 unfold nD fy
 refine(aZ hM).trans ?_
 cases (cZ s).2<;>rfl
theorem Cx:Sound Kx 80 (kz fun s=>.bool (fy s)):=sIsCan_ok.of fun args objs r h=>by
 unfold kz at h
 split at h
 case h_2=>cases h
 rename_i s
 obtain⟨hM,h2⟩:=af h
 cases h2
 show(nE s).val=some (.bool (fy s),[])
 unfold nE fy
 refine(aZ hM).trans ?_
 cases (cZ s).2<;>rfl
theorem F6:Sound Kx 88 (KM CU):=D0 IE fun b=>q7 _ _
theorem F7:Sound Kx 81 (KM CU):=D0 IG fun b=>q7 _ _
def gj (m:Mg):aa:=bif cD m.1 m.2.1 m.2.2.1 m.2.2.2.1 m.2.2.2.2.1 m.2.2.2.2.2.1 m.2.2.2.2.2.2 then dx m.1 m.2.1 m.2.2.1 m.2.2.2.1 m.2.2.2.2.1 m.2.2.2.2.2.1 m.2.2.2.2.2.2++m.2.2.2.2.2.2 else []
theorem fX {me ta re bo:aa} {st:Int} {ba:Bool} {fs:List Fd} (h:cD me ta st re ba fs bo=true):hdG me ta st re fs bo=true∧(dx me ta st re ba fs bo).length≤1500∧bo.length≤600:=by
 unfold cD at h
 simp only [Bool.and_eq_true,Bool.not_eq_true',decide_eq_true_eq,decide_eq_false_iff_not]at h
 obtain⟨⟨⟨⟨⟨h1,h2⟩,h3⟩,h4⟩,h5⟩,h6⟩:=h
 exact⟨EV h1 h3 h5,by omega,by omega⟩
def OT:List AV→List Ob→Br:=JD fun m=>.str (gj m)
theorem Cy:Sound Kx 107 OT:=H6 F1 fun me ta st re ba fs bo=>by
 show(nF me ta st re ba fs bo).val=some (.str (gj (me,ta,st,re,ba,fs,bo)),[])
 unfold nF gj
 simp only
 cases h:cD me ta st re ba fs bo
 ·rfl
 ·obtain⟨h1,h2,h3⟩:=fX h
  exact(bp rfl).trans ((aZ h1).trans ((aZ (dT' (by omega))).trans rfl))
theorem Cz:Sound Kx 118 OT:=H6 F2 fun me ta st re ba fs bo=>by
 show(nG me ta st re ba fs bo).val=some (.str (gj (me,ta,st,re,ba,fs,bo)),[])
 unfold nG gj
 simp only
 cases h:cD me ta st re ba fs bo
 ·rfl
 ·obtain⟨h1,h2,h3⟩:=fX h
  exact(bp rfl).trans ((aZ h1).trans ((aZ (dT' (by omega))).trans rfl))
theorem nH (m:Mg):(gj m).length≤2100:=by
 unfold gj
 cases h:cD m.1 m.2.1 m.2.2.1 m.2.2.2.1 m.2.2.2.2.1 m.2.2.2.2.2.1 m.2.2.2.2.2.2
 ·exact Nat.zero_le _
 ·obtain⟨_,h2,h3⟩:=fX h
  rw [cond_true,List.length_append];omega
abbrev En:=aa×Int×Int×List Fd×Mg
@[match_pattern] abbrev EnT:Ty:=(.pair .str (.pair (.int .i64) (.pair (.int .i64) (.pair (.slice (.pair .str .str)) (.pair .str (.pair .str (.pair (.int .i64) (.pair .str (.pair .bool (.pair (.slice (.pair .str .str)) .str))))))))))
abbrev en0:En:=(([]:List UInt8),((0:Int),((0:Int),(([]:List (List UInt8×List UInt8)),(([]:List UInt8),(([]:List UInt8),((0:Int),(([]:List UInt8),(false,(([]:List (List UInt8×List UInt8)),([]:List UInt8)))))))))))
def N0 (g:En→Bool) (p:En→AV):List AV→List Ob→Br
 | [.agg [.str ur,.int .i64 t1,.int .i64 t2,.sh (.pair .str .str) ak,.str me,.str ta,.int .i64 st,.str re,.bool ba,.sh (.pair .str .str) fs,.str bo]],[]=>
   .ite (g (ur,t1,t2,ak,me,ta,st,re,ba,fs,bo)) (.ret (p (ur,t1,t2,ak,me,ta,st,re,ba,fs,bo)) []) .fail
 |_,_=>.fail
theorem IJ {n:Nat} {s:List AV→List Ob→Br} (hs:Sound Kx n s) {g:En→Bool} {p:En→AV}
 (h: ∀ur t1 t2 ak me ta st re ba fs bo,g (ur,t1,t2,ak,me,ta,st,re,ba,fs,bo)=true→(s [.agg [.str ur,.int .i64 t1,.int .i64 t2,.sh (.pair .str .str) ak,.str me,.str ta,.int .i64 st,.str re,.bool ba,.sh (.pair .str .str) fs,.str bo]] []).val=some (p (ur,t1,t2,ak,me,ta,st,re,ba,fs,bo),[])):Sound Kx n (N0 g p):=hs.of fun args objs r hv=>by
 unfold N0 at hv
 split at hv
 case h_2=>cases hv
 obtain⟨h1,h2⟩:=af hv
 cases h2
 exact h _ _ _ _ _ _ _ _ _ _ _ h1
def smE (e:En):Bool:=isM e.1&&smF e.2.2.2.1&&smM e.2.2.2.2.1 e.2.2.2.2.2.1 e.2.2.2.2.2.2.2.1 e.2.2.2.2.2.2.2.2.2.1 e.2.2.2.2.2.2.2.2.2.2
def enW (e:En):Int:=(e.1.length:Int)+((e.2.2.2.1.length:Int)+e_ e.2.2.2.1)+EP e.2.2.2.2.1 e.2.2.2.2.2.1 e.2.2.2.2.2.2.2.1 e.2.2.2.2.2.2.2.2.2.1 e.2.2.2.2.2.2.2.2.2.2
theorem F8 (me ta re:aa) (fs:List Fd) (bo:aa):0≤EP me ta re fs bo:=by
 have:=eJ fs
 unfold EP;omega
def M5:List AV→List Ob→Br
 | [.agg [.str ur,.int .i64 t1,.int .i64 t2,.sh (.pair .str .str) ak,.str me,.str ta,.int .i64 st,.str re,.bool ba,.sh (.pair .str .str) fs,.str bo],.int .i64 left],[]=>
   .ite (smE (ur,t1,t2,ak,me,ta,st,re,ba,fs,bo)&&b9 left) (.ret (.int .i64 (szM (enW (ur,t1,t2,ak,me,ta,st,re,ba,fs,bo)) left)) []) .fail
 |_,_=>.fail
theorem xG:Sound Kx 15 M5:=szEntry_ok.of fun args objs r h=>by
 unfold M5 at h
 split at h
 case h_2=>cases h
 rename_i ur t1 t2 ak me ta st re ba fs bo left
 obtain⟨h1,h2⟩:=af h
 cases h2
 show(jm ur t1 t2 ak me ta st re ba fs bo left).val=some (.int .i64 (szM (enW (ur,t1,t2,ak,me,ta,st,re,ba,fs,bo)) left),[])
 simp only [smE,Bool.and_eq_true]at h1
 obtain⟨⟨⟨m1,m2⟩,m3⟩,h0⟩:=h1
 have g1:=b8 m1
 simp only [b9,Bool.and_eq_true,decide_eq_true_eq]at h0
 have ha:=eJ ak
 have hm:=F8 me ta re fs bo
 unfold jm enW
 simp only
 rw [w64 (n:=left-_) (by omega) (by omega)]
 by_cases c1:left-(ur.length:Int)<0
 ·rw [aZ (dT' c1)]
  unfold szM
  rw [dF' (by omega)];rfl
 rw [bp (dF' c1)]
 have hk:b9 (left-(ur.length:Int))=true:=by simp only [b9,Bool.and_eq_true,decide_eq_true_eq];omega
 refine(aZ (by rw [m2,hk];rfl)).trans ?_
 unfold EG
 by_cases c4:(ak.length:Int)+e_ ak≤left-(ur.length:Int)
 ·simp only [dT' c4,cond_true]
  refine(bp (dF' (by omega))).trans ?_
  have hk2:b9 (left-(ur.length:Int)-((ak.length:Int)+e_ ak))=true:=by simp only [b9,Bool.and_eq_true,decide_eq_true_eq];omega
  refine(aZ (by rw [m3,hk2];rfl)).trans ?_
  unfold szM
  by_cases c5:EP me ta re fs bo≤left-(ur.length:Int)-((ak.length:Int)+e_ ak)
  ·simp only [dT' c5,cond_true]
   refine(bp (dF' (by omega))).trans ?_
   rw [dT' (by omega),cond_true,DS]
   rw [show left-(ur.length:Int)-((ak.length:Int)+e_ ak)-EP me ta re fs bo=left-((ur.length:Int)+((ak.length:Int)+e_ ak)+EP me ta re fs bo) by omega]
  ·simp only [dF' c5,cond_false]
   refine(aZ (by decide)).trans ?_
   rw [dF' (by omega)];rfl
 ·simp only [dF' c4,cond_false]
  refine(aZ (by decide)).trans ?_
  unfold szM
  rw [dF' (by omega)];rfl
def JU (a b:En):Bool:=decide (a.1=b.1)&&decide (a.2.1=b.2.1)&&decide (a.2.2.1=b.2.2.1)&&decide (a.2.2.2.1=b.2.2.2.1)&&decide (a.2.2.2.2.1=b.2.2.2.2.1)&&decide (a.2.2.2.2.2.1=b.2.2.2.2.2.1)&&decide (a.2.2.2.2.2.2.1=b.2.2.2.2.2.2.1)&&decide (a.2.2.2.2.2.2.2.1=b.2.2.2.2.2.2.2.1)&&decide (a.2.2.2.2.2.2.2.2.1=b.2.2.2.2.2.2.2.2.1)&&decide (a.2.2.2.2.2.2.2.2.2.1=b.2.2.2.2.2.2.2.2.2.1)&&decide (a.2.2.2.2.2.2.2.2.2.2=b.2.2.2.2.2.2.2.2.2.2)
theorem vu (a:En):JU a a=true:=by unfold JU;simp only [decide_true,Bool.and_self]
def M6:List AV→List Ob→Br
 | [.agg [.str ur,.int .i64 t1,.int .i64 t2,.sh (.pair .str .str) ak,.str me,.str ta,.int .i64 st,.str re,.bool ba,.sh (.pair .str .str) fs,.str bo],.agg [.str ur',.int .i64 t1',.int .i64 t2',.sh (.pair .str .str) ak',.str me',.str ta',.int .i64 st',.str re',.bool ba',.sh (.pair .str .str) fs',.str bo']],[]=>
   .ite (JU (ur,t1,t2,ak,me,ta,st,re,ba,fs,bo) (ur',t1',t2',ak',me',ta',st',re',ba',fs',bo')&&decide (ak.length≤1048576)&&decide (fs.length≤1048576)) (.ret (.bool true) []) .fail
 |_,_=>.fail
theorem xH:Sound Kx 19 M6:=eqEntry_ok.of fun args objs r h=>by
 unfold M6 at h
 split at h
 case h_2=>cases h
 obtain⟨h1,h2⟩:=af h
 cases h2
 simp only [JU,Bool.and_eq_true,decide_eq_true_eq]at h1
 obtain⟨⟨⟨⟨⟨⟨⟨⟨⟨⟨⟨⟨rfl,rfl⟩,rfl⟩,rfl⟩,rfl⟩,rfl⟩,rfl⟩,rfl⟩,rfl⟩,rfl⟩,rfl⟩,ha⟩,hl⟩:=h1
 rename_i ur t1 t2 ak me ta st re ba fs bo
 show(jn ur t1 t2 ak me ta st re ba fs bo ur t1 t2 ak me ta st re ba fs bo).val=_
 unfold jn
 simp only [decide_true,Bool.not_true,Bool.true_and]
 exact(bp rfl).trans ((bp rfl).trans ((bp rfl).trans ((aZ (dT' (by omega))).trans ((bp rfl).trans ((aZ (dT' hl)).trans rfl)))))
def qh (e:En):Bool:=
 fy e.1&&CU e.2.1&&CU e.2.2.1&&decide (e.2.1≤e.2.2.1)&&cx e.2.2.2.1&&cD e.2.2.2.2.1 e.2.2.2.2.2.1 e.2.2.2.2.2.2.1 e.2.2.2.2.2.2.2.1 e.2.2.2.2.2.2.2.2.1 e.2.2.2.2.2.2.2.2.2.1 e.2.2.2.2.2.2.2.2.2.2&&decide (e.2.2.2.2.1=[])&& !e.2.2.2.2.2.2.2.2.1
end
end Go.Proofs.YtihabpimbfmhhaaGreatDoor.Ev
namespace Go.Proofs.YtihabpimbfmhhaaGreatDoor.Ev
open Go Go.RowKit
set_option linter.unusedVariables false
set_option linter.unusedSimpArgs false
variable {K:Ctx} {w0:World} {M0:Bd}
abbrev FdT:Ty:=.pair .str .str
theorem vv {w:World} {l:List Fd} {v:Value} {rs:List Rg} (h:rdO w (.slice FdT) l [v] rs) (hx: ∀b o,cov rs b o→(∃u,w.cell? ⟨b,o,none⟩=some u)∧w.frozen? ⟨b,o,none⟩=false):
 ∃lc:Loc,(∀L:Lk,okO L w (lc,.arr FdT 0 false l))∧(∀b o,inR (lc,.arr FdT 0 false l) b o↔cov rs b o)∧v= .slice lc.addr l.length lc.cap∧
  (∀(L':Lk) (w':World) (lc':Loc) (l':List Fd),okO L' w' (lc',.arr FdT 0 false l')→lc'.base=lc.base→lc'.cap=lc.cap→l'.length=l.length→rdO w' (.slice FdT) l' [v] rs):=by
 obtain⟨a,n,c,h1,rfl,h3,h4⟩:=h
 simp only [List.cons.injEq,and_true]at h1
 subst h1
 rcases h4 with⟨rfl,rfl,rfl,rfl⟩|⟨he,b,o,rfl,rfl,hr⟩
 ·refine⟨⟨none,0,[]⟩,fun L=>.inl ⟨rfl,rfl,rfl,rfl⟩,fun b o=>⟨fun hr=> ?_,fun hc=>(bU hc).elim⟩,rfl,fun L' w' lc' l' hok hb hc hl=> ?_⟩
  ·obtain⟨o0,e1,_⟩:=bS rfl hr
   cases e1
  ·obtain rfl:l'=[]:=List.length_eq_zero_iff.1 hl
   exact⟨none,0,0,rfl,rfl,Nat.le_refl _,.inl ⟨rfl,rfl,rfl,rfl⟩⟩
 ·have hcov: ∀j,j<c*FdT.size→cov [(b,o,c*FdT.size)] b (o+j):=fun j hj=>⟨_,List.mem_singleton.2 rfl,rfl,Nat.le_add_right _ _,Nat.add_lt_add_left hj _⟩
  refine⟨⟨some (b,o),c,[]⟩,fun L=>.inr ⟨b,o,rfl,h3,fun i hi=> ?_,fun _ j hj=>hx b (o+j) (hcov j hj),(fun hz=>by cases hz),(fun h=>by cases h),fun _=>gw rfl rfl⟩,fun b' o'=>⟨fun hr=> ?_,fun hc=> ?_⟩,rfl,fun L' w' lc' l' hok hb hc hl=> ?_⟩
  ·obtain⟨ds,k1,k2,k3⟩:=hr i hi
   exact⟨ds,k1,bI FdT rfl k2,k3⟩
  ·obtain⟨o0,e1,e2,e3⟩:=bS rfl hr
   simp only [Option.some.injEq,Prod.mk.injEq]at e1
   obtain⟨rfl,rfl⟩:=e1
   exact⟨_,List.mem_singleton.2 rfl,rfl,e2,by simpa only [ext,Bool.false_eq_true,if_false]using e3⟩
  ·obtain⟨r,hr,e1,e2,e3⟩:=hc
   rw [List.mem_singleton.1 hr]at e1 e2 e3
   simp only at e1 e2 e3
   subst e1
   exact .inl ⟨o,rfl,e2,by simpa only [ext,Bool.false_eq_true,if_false]using e3⟩
  ·rcases hok with⟨h8,_⟩|⟨b',o',h8,h9,h10,_⟩
   ·simp only at h8;rw [h8]at hb;cases hb
   ·simp only at h8 h9 h10
    rw [h8]at hb
    simp only [Option.some.injEq,Prod.mk.injEq]at hb
    obtain⟨rfl,rfl⟩:=hb
    refine⟨_,_,_,rfl,hl.symm,h3,.inr ⟨rfl,b',o',rfl,rfl,fun i hi=> ?_⟩⟩
    obtain⟨ds,k1,k2,k3⟩:=h10 i hi
    exact⟨ds,k1,bI FdT rfl k2,k3⟩
def xeC (e:En):List AV:=
 [.str e.1,.int .i64 e.2.1,.int .i64 e.2.2.1,.ref 1 0,.str e.2.2.2.2.1,.str e.2.2.2.2.2.1,.int .i64 e.2.2.2.2.2.2.1,.str e.2.2.2.2.2.2.2.1,.bool e.2.2.2.2.2.2.2.2.1,.ref 2 0,.str e.2.2.2.2.2.2.2.2.2.2]
def xeO (e:En):List Ob:=[.var (xeC e),.arr FdT 0 false e.2.2.2.1,.arr FdT 0 false e.2.2.2.2.2.2.2.2.2.1]
def xeV (e:En) (v1 v2:Value):List Value:=
 [.string ⟨e.1.toArray⟩,.int .i64 e.2.1,.int .i64 e.2.2.1,v1,.string ⟨e.2.2.2.2.1.toArray⟩,.string ⟨e.2.2.2.2.2.1.toArray⟩,.int .i64 e.2.2.2.2.2.2.1,.string ⟨e.2.2.2.2.2.2.2.1.toArray⟩,.bool e.2.2.2.2.2.2.2.2.1,v2,.string ⟨e.2.2.2.2.2.2.2.2.2.2.toArray⟩]
theorem rdO_xe {w:World} {e:En} {ds:List Value} {rs:List Rg}:rdO w EnT e ds rs↔ ∃v1 v2 r1 r2,ds=xeV e v1 v2∧rs=r1++r2∧rdO w (.slice FdT) e.2.2.2.1 [v1] r1∧rdO w (.slice FdT) e.2.2.2.2.2.2.2.2.2.1 [v2] r2:=by
 constructor
 ·rintro⟨_,_,_,_,rfl,rfl,⟨rfl,rfl⟩,_,_,_,_,rfl,rfl,⟨rfl,rfl⟩,_,_,_,_,rfl,rfl,⟨rfl,rfl⟩,_,_,r1,_,rfl,rfl,⟨a1,n1,c1,rfl,h1⟩,_,_,_,_,rfl,rfl,⟨rfl,rfl⟩,_,_,_,_,rfl,rfl,⟨rfl,rfl⟩,_,_,_,_,rfl,rfl,⟨rfl,rfl⟩,_,_,_,_,rfl,rfl,⟨rfl,rfl⟩,_,_,_,_,rfl,rfl,⟨rfl,rfl⟩,_,_,r2,_,rfl,rfl,⟨a2,n2,c2,rfl,h2⟩,rfl,rfl⟩
  exact⟨_,_,r1,r2,rfl,by simp,⟨a1,n1,c1,rfl,h1⟩,⟨a2,n2,c2,rfl,h2⟩⟩
 ·rintro⟨v1,v2,r1,r2,rfl,rfl,h1,h2⟩
  exact⟨[_],_,[],_,rfl,rfl,⟨rfl,rfl⟩,[_],_,[],_,rfl,rfl,⟨rfl,rfl⟩,[_],_,[],_,rfl,rfl,⟨rfl,rfl⟩,[_],_,r1,_,rfl,rfl,h1,[_],_,[],_,rfl,rfl,⟨rfl,rfl⟩,[_],_,[],_,rfl,rfl,⟨rfl,rfl⟩,[_],_,[],_,rfl,rfl,⟨rfl,rfl⟩,[_],_,[],_,rfl,rfl,⟨rfl,rfl⟩,[_],_,[],_,rfl,rfl,⟨rfl,rfl⟩,[_],_,r2,[],rfl,by simp,h2,rfl,rfl⟩
def xeL (F:Nat→Nat→Prop) (lv l1 l2:Loc) (e:En):Lk:=⟨fun j=>match j with|0=>some (lv,.var (xeC e))|1=>some (l1,.arr FdT 0 false e.2.2.2.1)|2=>some (l2,.arr FdT 0 false e.2.2.2.2.2.2.2.2.2.1)|_=>none,F⟩
theorem xeL_mut {F:Nat→Nat→Prop} {lv l1 l2:Loc} {e:En} {b o:Nat}:eU (xeL F lv l1 l2 e) b o↔inR (lv,.var (xeC e)) b o∨inR (l1,.arr FdT 0 false e.2.2.2.1) b o∨inR (l2,.arr FdT 0 false e.2.2.2.2.2.2.2.2.2.1) b o:=by
 constructor
 ·rintro⟨j,p,hp,hr⟩
  match j,hp with
  |0,hp=>cases hp;exact .inl hr
  |1,hp=>cases hp;exact .inr (.inl hr)
  |2,hp=>cases hp;exact .inr (.inr hr)
  |_+3,hp=>cases hp
 ·rintro(h|h|h)
  ·exact⟨0,_,rfl,h⟩
  ·exact⟨1,_,rfl,h⟩
  ·exact⟨2,_,rfl,h⟩
theorem F9 {rss:List (List Rg)} (h:rss.flatten.Pairwise dj) {i j:Nat} (hi:i<rss.length) (hj:j<rss.length) (hij:i≠j) {b o:Nat} (h1:cov (rss.getD i []) b o) (h2:cov (rss.getD j []) b o):False:=by
 obtain⟨_,h⟩:=List.pairwise_flatten.1 h
 have e: ∀k (hk:k<rss.length),rss.getD k []=rss[k]:=fun k hk=>by rw [List.getD_eq_getElem?_getD,List.getElem?_eq_getElem hk];rfl
 rw [e i hi]at h1
 rw [e j hj]at h2
 obtain⟨x,hx,c1⟩:=h1
 obtain⟨y,hy,c2⟩:=h2
 rcases Nat.lt_or_gt_of_ne hij with hlt|hlt
 ·exact List.pairwise_iff_getElem.1 h i j hi hj hlt x hx y hy b o ⟨x,List.mem_singleton.2 rfl,c1⟩ ⟨y,List.mem_singleton.2 rfl,c2⟩
 ·exact List.pairwise_iff_getElem.1 h j i hj hi hlt y hy x hx b o ⟨y,List.mem_singleton.2 rfl,c2⟩ ⟨x,List.mem_singleton.2 rfl,c1⟩
theorem CA (hK:K.Ok) {L:Lk} {w:World} (R:RelO K w0 M0 L w) {l:Loc} {ver:Nat} {xs:List En} (hL:L 0=some (l,.arr EnT ver false xs)) {i:Nat} (hi:i<xs.length):
 ∃b o cap l1 l2,l.base=some (b,o)∧RelO K w ⟨eU (xeL L.F ⟨some (b,o+i*11),cap,[]⟩ l1 l2 xs[i]),L.F⟩ (xeL L.F ⟨some (b,o+i*11),cap,[]⟩ l1 l2 xs[i]) w∧
  ∀(L':Lk) (w':World) (y:En),RelO K w ⟨eU (xeL L.F ⟨some (b,o+i*11),cap,[]⟩ l1 l2 xs[i]),L.F⟩ L' w'→Kept 3 (xeL L.F ⟨some (b,o+i*11),cap,[]⟩ l1 l2 xs[i]) L'→
   (∀j,j<3→(L' j).map (·.2)=(xeO y)[j]?)→y.2.2.2.1.length=xs[i].2.2.2.1.length→y.2.2.2.2.2.2.2.2.2.1.length=xs[i].2.2.2.2.2.2.2.2.2.1.length→
   RelO K w0 M0 (upd L 0 (l,.arr EnT ver false (xs.set i y))) w'∧Turn L (upd L 0 (l,.arr EnT ver false (xs.set i y))):=by
 have hok:=R.ok 0 _ hL
 rcases hok with⟨_,h9,_⟩|⟨b,o,h8,h9,_,h11,_,_,hq⟩
 ·replace h9:xs=[]:=h9
  subst h9;cases hi
 simp only at h8 h9
 replace h11: ∀j,j<l.cap*11→(∃u,w.cell? ⟨b,o+j,none⟩=some u)∧w.frozen? ⟨b,o+j,none⟩=false:=h11 rfl
 have hq:=hq rfl
 have hq':(∀b' o',cov l.dp b' o'→((∃u,w.cell? ⟨b',o',none⟩=some u)∧w.frozen? ⟨b',o',none⟩=false)∧ ¬(b'=b∧o≤o'∧o'<o+l.cap*11))∧l.dp.Pairwise dj∧
  ∃rss:List (List Rg),l.dp=rss.flatten∧rss.length=xs.length∧ ∀i (h:i<xs.length),∃ds:List Value,ds.length=11∧rdO w EnT xs[i] ds (rss.getD i [])∧ ∀j,j<11→w.cell? ⟨b,o+i*11+j,none⟩=ds[j]? :=hq
 obtain⟨q1,q2,rss,q3,q4,q5⟩:=hq'
 obtain⟨ds,k1,k2,k3⟩:=q5 i hi
 obtain⟨v1,v2,r1,r2,rfl,hrs,p1,p2⟩:=rdO_xe.1 k2
 have hdp: ∀b' o',cov (r1++r2) b' o'→cov l.dp b' o':=fun b' o' hc=>by rw [q3];exact i6 (i:=i) (by omega) (by rw [hrs];exact hc)
 obtain⟨l1,a1,a2,a3,a4⟩:=vv p1 fun b' o' hc=>(q1 _ _ (hdp _ _ (cov_append.2 (.inl hc)))).1
 obtain⟨l2,c1,c2,c3,c4⟩:=vv p2 fun b' o' hc=>(q1 _ _ (hdp _ _ (cov_append.2 (.inr hc)))).1
 have hself: ∀b' o',inR (l,Ob.arr EnT ver false xs) b' o'↔(b'=b∧o≤o'∧o'<o+l.cap*11)∨cov l.dp b' o':=fun b' o'=>by
  constructor
  ·rintro(⟨o0,e1,e2,e3⟩|⟨_,hc⟩)
   ·simp only at e1
    rw [h8]at e1
    simp only [Option.some.injEq,Prod.mk.injEq]at e1
    obtain⟨rfl,rfl⟩:=e1
    exact .inl ⟨rfl,e2,e3⟩
   ·exact .inr hc
  ·rintro(⟨rfl,e2,e3⟩|hc)
   ·exact .inl ⟨o,h8,e2,e3⟩
   ·exact .inr ⟨rfl,hc⟩
 have hvar: ∀b' o',inR ((⟨some (b,o+i*11),0,[]⟩:Loc),Ob.var (xeC xs[i])) b' o'↔b'=b∧o+i*11≤o'∧o'<o+i*11+11:=fun b' o'=>by
  constructor
  ·intro hr
   obtain⟨o0,e1,e2,e3⟩:=bS rfl hr
   simp only [Option.some.injEq,Prod.mk.injEq]at e1
   obtain⟨rfl,rfl⟩:=e1
   exact⟨rfl,e2,e3⟩
  ·rintro⟨rfl,e2,e3⟩
   exact .inl ⟨_,rfl,e2,e3⟩
 have hroom:i*11+11≤l.cap*11:=by have:(i+1)*11≤l.cap*11:=Nat.mul_le_mul_right _ (by omega);omega
 have hsub: ∀b' o',eU (xeL L.F ⟨some (b,o+i*11),0,[]⟩ l1 l2 xs[i]) b' o'↔(b'=b∧o+i*11≤o'∧o'<o+i*11+11)∨cov (r1++r2) b' o':=fun b' o'=>by
  rw [xeL_mut,hvar,a2,c2,cov_append]
 have hin: ∀b' o',eU (xeL L.F ⟨some (b,o+i*11),0,[]⟩ l1 l2 xs[i]) b' o'→inR (l,Ob.arr EnT ver false xs) b' o':=fun b' o' hm=>by
  rw [hself]
  rcases(hsub _ _).1 hm with⟨rfl,e2,e3⟩|hc
  ·exact .inl ⟨rfl,by omega,by omega⟩
  ·exact .inr (hdp _ _ hc)
 have hmm: ∀b' o',Mut (xeL L.F ⟨some (b,o+i*11),0,[]⟩ l1 l2 xs[i]) b' o'→Mut L b' o':=fun b' o' hm=>hm.imp id fun hm=>⟨0,_,hL,hin _ _ hm⟩
 have hdj12: ∀b' o',cov r1 b' o'→cov r2 b' o'→False:=fun b' o' h1 h2=>by
  have hp:(rss.getD i []).Pairwise dj:=by
   have:=(List.pairwise_flatten.1 (by rw [←q3];exact q2)).1
   refine this _ ?_
   rw [List.getD_eq_getElem?_getD,List.getElem?_eq_getElem (by omega)]
   exact List.getElem_mem _
  rw [hrs]at hp
  obtain⟨x,hx,g1⟩:=h1
  obtain⟨y,hy,g2⟩:=h2
  exact(List.pairwise_append.1 hp).2.2 x hx y hy b' o' ⟨x,List.mem_singleton.2 rfl,g1⟩ ⟨y,List.mem_singleton.2 rfl,g2⟩
 have hrow: ∀b' o',(b'=b∧o+i*11≤o'∧o'<o+i*11+11)→cov (r1++r2) b' o'→False:=fun b' o' h1 h2=>(q1 _ _ (hdp _ _ h2)).2 ⟨h1.1,by omega,by omega⟩
 refine⟨b,o,0,l1,l2,h8,⟨Fr.refl _ _, ?_, ?_,fun _ _ h _=>h,rfl,fun b' o' hf=> ?_,fun b' o' hm hf=> ?_,R.g,R.gs,fun b' o' hm=>R.gb b' o' ⟨0,_,hL,hin _ _ hm⟩⟩, ?_⟩
 ·intro j p hp
  match j,hp with
  |0,hp=>
   cases hp
   refine⟨b,o+i*11,xeV xs[i] v1 v2,rfl, ?_, ?_,fun j hj=>⟨k3 j hj, ?_⟩,fun t r e=>by cases e⟩
   ·have hs: ∀s,rel (xeL L.F ⟨some (b,o+i*11),0,[]⟩ l1 l2 xs[i]) w (Mut (xeL L.F ⟨some (b,o+i*11),0,[]⟩ l1 l2 xs[i])) (.str s) (.string ⟨s.toArray⟩):=fun s=>by simp only [rel]
    have hn: ∀n,rel (xeL L.F ⟨some (b,o+i*11),0,[]⟩ l1 l2 xs[i]) w (Mut (xeL L.F ⟨some (b,o+i*11),0,[]⟩ l1 l2 xs[i])) (.int .i64 n) (.int .i64 n):=fun s=>by simp only [rel]
    have hb: ∀n,rel (xeL L.F ⟨some (b,o+i*11),0,[]⟩ l1 l2 xs[i]) w (Mut (xeL L.F ⟨some (b,o+i*11),0,[]⟩ l1 l2 xs[i])) (.bool n) (.bool n):=fun s=>by simp only [rel]
    have h1:rel (xeL L.F ⟨some (b,o+i*11),0,[]⟩ l1 l2 xs[i]) w (Mut (xeL L.F ⟨some (b,o+i*11),0,[]⟩ l1 l2 xs[i])) (.ref 1 0) v1:=by
     simp only [rel];exact⟨_,_,_,_,_,_,_,_,rfl,Nat.le_refl _,a3,fun _=>⟨rfl,rfl,rfl⟩⟩
    have h2:rel (xeL L.F ⟨some (b,o+i*11),0,[]⟩ l1 l2 xs[i]) w (Mut (xeL L.F ⟨some (b,o+i*11),0,[]⟩ l1 l2 xs[i])) (.ref 2 0) v2:=by
     simp only [rel];exact⟨_,_,_,_,_,_,_,_,rfl,Nat.le_refl _,c3,fun _=>⟨rfl,rfl,rfl⟩⟩
    simp only [xeC,xeV,aA]
    exact⟨_,_,rfl,hs _,_,_,rfl,hn _,_,_,rfl,hn _,_,_,rfl,h1,_,_,rfl,hs _,_,_,rfl,hs _,_,_,rfl,hn _,_,_,rfl,hs _,_,_,rfl,hb _,_,_,rfl,h2,_,_,rfl,hs _,rfl⟩
   ·intro c hc
    simp only [xeV,a3,c3,List.mem_cons,List.not_mem_nil,or_false]at hc
    rcases hc with rfl|rfl|rfl|rfl|rfl|rfl|rfl|rfl|rfl|rfl|rfl<;>rfl
   ·have hj':j<11:=hj
    have:=(h11 (i*11+j) (by omega)).2
    rwa [←Nat.add_assoc]at this
  |1,hp=>cases hp;exact a1 _
  |2,hp=>cases hp;exact c1 _
  |_+3,hp=>cases hp
 ·intro j k p q b' o' hp hq hr hr'
  match j,k,hp,hq with
  |0,0,_,_=>rfl
  |1,1,_,_=>rfl
  |2,2,_,_=>rfl
  |0,1,hp,hq=>cases hp;cases hq;exact(hrow _ _ ((hvar _ _).1 hr) (cov_append.2 (.inl ((a2 _ _).1 hr')))).elim
  |0,2,hp,hq=>cases hp;cases hq;exact(hrow _ _ ((hvar _ _).1 hr) (cov_append.2 (.inr ((c2 _ _).1 hr')))).elim
  |1,0,hp,hq=>cases hp;cases hq;exact(hrow _ _ ((hvar _ _).1 hr') (cov_append.2 (.inl ((a2 _ _).1 hr)))).elim
  |2,0,hp,hq=>cases hp;cases hq;exact(hrow _ _ ((hvar _ _).1 hr') (cov_append.2 (.inr ((c2 _ _).1 hr)))).elim
  |1,2,hp,hq=>cases hp;cases hq;exact(hdj12 _ _ ((a2 _ _).1 hr) ((c2 _ _).1 hr')).elim
  |2,1,hp,hq=>cases hp;cases hq;exact(hdj12 _ _ ((a2 _ _).1 hr') ((c2 _ _).1 hr)).elim
  |_+3,_,hp,_=>cases hp
  |_,_+3,_,hq=>cases hq
 ·have hf:L.F b' o':=hf
  rw [R.ff]at hf
  exact Nat.lt_of_lt_of_le (R.fs _ _ hf) R.fr.size
 ·have hf:L.F b' o':=hf
  rw [R.ff]at hf
  exact R.fo b' o' ⟨0,_,hL,hin _ _ hm⟩ hf
 ·intro L' w' y R' hk ho hy1 hy2
  obtain⟨p0,x0,e0,rfl,cs0,rfl⟩:=hk 0 (by omega) _ _ rfl
  obtain⟨p1',x1,e1,cur1,z1,ys1,rfl,e1'⟩:=hk 1 (by omega) _ _ rfl
  obtain⟨p2',x2,e2,cur2,z2,ys2,rfl,e2'⟩:=hk 2 (by omega) _ _ rfl
  have f0:=ho 0 (by omega)
  have f1:=ho 1 (by omega)
  have f2:=ho 2 (by omega)
  rw [e0]at f0
  rw [e1]at f1
  rw [e2]at f2
  simp only [xeO,Option.map_some,List.getElem?_cons_zero,List.getElem?_cons_succ,Option.some.injEq,Ob.var.injEq,Ob.arr.injEq,true_and,heq_eq_eq]at f0 f1 f2
  obtain⟨rfl,rfl,rfl⟩:=f1
  obtain⟨rfl,rfl,rfl⟩:=f2
  subst f0
  obtain⟨⟨e3,e4⟩,_⟩:=e1' rfl
  obtain⟨⟨e5,e6⟩,_⟩:=e2' rfl
  have g1:=a4 L' w' p1' _ (R'.ok 1 _ e1) e3 e4 hy1
  have g2:=c4 L' w' p2' _ (R'.ok 2 _ e2) e5 e6 hy2
  obtain⟨b',o',vs,m1,m2,_,m3,_⟩:=R'.ok 0 _ e0
  simp only [Option.some.injEq,Prod.mk.injEq]at m1
  obtain⟨rfl,rfl⟩:=m1
  have hvs:vs=xeV y v1 v2:=by
   simp only [xeC,aA]at m2
   obtain⟨_,_,rfl,t0,_,_,rfl,t1,_,_,rfl,t2,_,_,rfl,t3,_,_,rfl,t4,_,_,rfl,t5,_,_,rfl,t6,_,_,rfl,t7,_,_,rfl,t8,_,_,rfl,t9,_,_,rfl,t10,rfl⟩:=m2
   simp only [rel]at t0 t1 t2 t3 t4 t5 t6 t7 t8 t9 t10
   obtain⟨la,ea,cura,za,xa,pa,na,ca,u1,u2,rfl,u3⟩:=t3
   rw [e1]at u1
   simp only [Option.some.injEq,Prod.mk.injEq,Ob.arr.injEq]at u1
   obtain⟨rfl,rfl,rfl,rfl,hxa⟩:=u1
   have hxa:=eq_of_heq hxa
   subst hxa
   obtain⟨rfl,rfl,rfl⟩:=u3 rfl
   obtain⟨lb,eb,curb,zb,xb,pb,nb,cb,u1,u2,rfl,u3⟩:=t9
   rw [e2]at u1
   simp only [Option.some.injEq,Prod.mk.injEq,Ob.arr.injEq]at u1
   obtain⟨rfl,rfl,rfl,rfl,hxb⟩:=u1
   have hxb:=eq_of_heq hxb
   subst hxb
   obtain⟨rfl,rfl,rfl⟩:=u3 rfl
   subst t0;subst t1;subst t2;subst t4;subst t5;subst t6;subst t7;subst t8;subst t10
   simp only [xeV,a3,c3,Loc.addr,e3,e4,e5,e6,hy1,hy2]
  subst hvs
  have hkeep: ∀b'' o'',eU (xeL L.F ⟨some (b,o+i*11),0,[]⟩ l1 l2 xs[i]) b'' o''→(∃u,w'.cell? ⟨b'',o'',none⟩=some u)∧w'.frozen? ⟨b'',o'',none⟩=false:=fun b'' o'' hm=>by
   rcases xeL_mut.1 hm with hm|hm|hm
   ·refine dD (R'.ok 0 _ e0) rfl ?_
    obtain⟨t1,t2,t3⟩:=(hvar _ _).1 hm
    subst t1
    exact .inl ⟨_,rfl,t2,t3⟩
   ·refine dD (R'.ok 1 _ e1) rfl ?_
    obtain⟨o0,t1,t2,t3⟩|⟨_,hc⟩:=hm
    ·exact .inl ⟨o0,e3.trans t1,t2,by simpa only [ext,e4]using t3⟩
    ·exfalso
     rcases a1 L with⟨_,_,_,d⟩|⟨_,_,_,_,_,_,_,_,d⟩
     ·simp only at d hc;rw [d]at hc;exact bU hc
     ·have d:l1.dp=[]:=d rfl
      simp only at hc;rw [d]at hc;exact bU hc
   ·refine dD (R'.ok 2 _ e2) rfl ?_
    obtain⟨o0,t1,t2,t3⟩|⟨_,hc⟩:=hm
    ·exact .inl ⟨o0,e5.trans t1,t2,by simpa only [ext,e6]using t3⟩
    ·exfalso
     rcases c1 L with⟨_,_,_,d⟩|⟨_,_,_,_,_,_,_,_,d⟩
     ·simp only at d hc;rw [d]at hc;exact bU hc
     ·have d:l2.dp=[]:=d rfl
      simp only at hc;rw [d]at hc;exact bU hc
  have hcell: ∀b'' o'',inR (l,Ob.arr EnT ver false xs) b'' o''→(∃u,w'.cell? ⟨b'',o'',none⟩=some u)∧w'.frozen? ⟨b'',o'',none⟩=false:=fun b'' o'' hr=>by
   by_cases hm:eU (xeL L.F ⟨some (b,o+i*11),0,[]⟩ l1 l2 xs[i]) b'' o''
   ·exact hkeep _ _ hm
   ·have hlt:=dO (R.ok 0 _ hL) hr
    rw [R'.fr.cel _ _ hlt hm,R'.fr.frz _ _ hlt hm]
    exact dD (R.ok 0 _ hL) rfl hr
  have hsame: ∀b'' o'',b''<w.heap.size→ ¬eU (xeL L.F ⟨some (b,o+i*11),0,[]⟩ l1 l2 xs[i]) b'' o''→w'.cell? ⟨b'',o'',none⟩=w.cell? ⟨b'',o'',none⟩:=fun b'' o'' h1 h2=>R'.fr.cel _ _ h1 h2
  have hT:Turn L (upd L 0 (l,.arr EnT ver false (xs.set i y))):=by
   intro j l' x hj
   by_cases hj0:j=0
   ·subst hj0
    rw [hL]at hj;cases hj
    exact⟨_,_,ax _ _ _,ver,false,_,rfl,Nat.le_refl _,fun _=>⟨⟨rfl,rfl⟩,by simp⟩⟩
   ·obtain⟨l'',x',h1,h2⟩:=Turn.refl L j l' x hj
    exact⟨l'',x',by rw [aD L _ hj0];exact h1,h2⟩
  refine⟨(R.put hK hL (R'.fr.mono fun b'' o'' _ hm=>hin _ _ hm) hT (fun _=>dN (e:=EnT) rfl h8 (by simpa using h9) (fun j hj=>hcell _ _ (.inl ⟨o,h8,Nat.le_add_right _ _,Nat.add_lt_add_left hj _⟩)) ?_) (fun b'' o'' hr=>.inl ?_)).1,hT⟩
  ·show(∀b'' o'',cov l.dp b'' o''→((∃u,w'.cell? ⟨b'',o'',none⟩=some u)∧w'.frozen? ⟨b'',o'',none⟩=false)∧ ¬(b''=b∧o≤o''∧o''<o+l.cap*11))∧l.dp.Pairwise dj∧
    ∃rss:List (List Rg),l.dp=rss.flatten∧rss.length=(xs.set i y).length∧ ∀j (h:j< (xs.set i y).length),∃ds:List Value,ds.length=11∧rdO w' EnT (xs.set i y)[j] ds (rss.getD j [])∧ ∀q,q<11→w'.cell? ⟨b,o+j*11+q,none⟩=ds[q]?
   refine⟨fun b'' o'' hc=>⟨hcell _ _ (.inr ⟨rfl,hc⟩),(q1 _ _ hc).2⟩,q2,rss,q3,by simp [q4],fun j hj=> ?_⟩
   have hj':j<xs.length:=by simpa using hj
   by_cases hji:j=i
   ·subst hji
    refine⟨xeV y v1 v2,rfl, ?_,fun q hq=>(m3 q hq).1⟩
    rw [List.getElem_set_self,rdO_xe]
    exact⟨v1,v2,r1,r2,rfl,hrs,g1,g2⟩
   ·obtain⟨ds,n1,n2,n3⟩:=q5 j hj'
    refine⟨ds,n1, ?_,fun q hq=> ?_⟩
    ·rw [List.getElem_set_ne (fun e=>hji e.symm)]
     refine jy EnT n2 fun b'' o'' hc=> ?_
     have hcd:cov l.dp b'' o'':=by rw [q3];exact i6 (by omega) hc
     refine hsame _ _ (dO (R.ok 0 _ hL) (.inr ⟨rfl,hcd⟩)) fun hm=> ?_
     rcases(hsub _ _).1 hm with⟨rfl,t2,t3⟩|hc2
     ·exact(q1 _ _ hcd).2 ⟨rfl,by omega,by omega⟩
     ·exact F9 (by rw [←q3];exact q2) (by omega) (by omega) hji hc (by rw [hrs];exact hc2)
    ·rw [←n3 q hq]
     have hjr:j*11+q<l.cap*11:=by have:(j+1)*11≤l.cap*11:=Nat.mul_le_mul_right _ (by omega);omega
     refine hsame _ _ (dO (R.ok 0 _ hL) (b:=b) (o:=o+j*11+q) (.inl ⟨o,h8,by omega, ?_⟩)) fun hm=> ?_
     ·show o+j*11+q<o+l.cap*11
      omega
     rcases(hsub _ _).1 hm with⟨_,t2,t3⟩|hc2
     ·omega
     ·exact(q1 _ _ (hdp _ _ hc2)).2 ⟨rfl,by omega,by omega⟩
  ·rcases hr with⟨o0,t1,t2,t3⟩|⟨t1,t2⟩
   ·exact .inl ⟨o0,t1,t2,t3⟩
   ·exact .inr ⟨rfl,t2⟩
end Go.Proofs.YtihabpimbfmhhaaGreatDoor.Ev
namespace Go.Proofs.YtihabpimbfmhhaaGreatDoor.Ev
open Go Go.RowKit
set_option linter.unusedVariables false
set_option linter.unusedSimpArgs false
noncomputable section
def CB:Opt:={split:=true}
def CC:SC:=[⟨87,_,Cw⟩,⟨88,_,F6⟩,⟨89,_,eE⟩,⟨90,_,pE⟩]
def gW (ur:aa) (t1 t2:Int) (ak:List Fd) (me ta:aa) (st:Int) (re:aa) (ba:Bool) (fs:List Fd) (bo:aa):Br:=(Br.ite (isM ur) (Br.ite (fy ur) (Br.ite (CU t1) (Br.ite (CU t2) (Br.ite (decide (t1≤t2)) (Br.ite (cx ak) (Br.ite (cD me ta st re ba fs bo) (Br.ite (decide (me=([]:aa))) (Br.ret (AV.bool (!ba)) []) (Br.ret (AV.bool false) [])) (Br.ret (AV.bool false) [])) (Br.ret (AV.bool false) [])) (Br.ret (AV.bool false) [])) (Br.ret (AV.bool false) [])) (Br.ret (AV.bool false) [])) (Br.ret (AV.bool false) [])) Br.fail)
def qi:List AV→List Ob→Br
 | [.agg [.str ur,.int .i64 t1,.int .i64 t2,.sh (.pair .str .str) ak,.str me,.str ta,.int .i64 st,.str re,.bool ba,.sh (.pair .str .str) fs,.str bo]],[]=>gW ur t1 t2 ak me ta st re ba fs bo
 |_,_=>.fail
theorem xI:Sound Kx 50 qi:=ae (C:=CC) (O:=CB) Tryz.func50 (by kernel_rfl) fun args objs=>by
 unfold qi;split
 ·exact .inr (by kernel_rfl)
 ·exact .inl rfl
def CD:Opt:={split:=true}
def CE:SC:=[⟨80,_,Cx⟩,⟨81,_,F7⟩,⟨82,_,iy⟩,⟨83,_,pG⟩]
def gX (ur:aa) (t1 t2:Int) (ak:List Fd) (me ta:aa) (st:Int) (re:aa) (ba:Bool) (fs:List Fd) (bo:aa):Br:=(Br.ite (isM ur) (Br.ite (fy ur) (Br.ite (CU t1) (Br.ite (CU t2) (Br.ite (decide (t1≤t2)) (Br.ite (cx ak) (Br.ite (cD me ta st re ba fs bo) (Br.ite (decide (me=([]:aa))) (Br.ret (AV.bool (!ba)) []) (Br.ret (AV.bool false) [])) (Br.ret (AV.bool false) [])) (Br.ret (AV.bool false) [])) (Br.ret (AV.bool false) [])) (Br.ret (AV.bool false) [])) (Br.ret (AV.bool false) [])) (Br.ret (AV.bool false) [])) Br.fail)
def qj:List AV→List Ob→Br
 | [.agg [.str ur,.int .i64 t1,.int .i64 t2,.sh (.pair .str .str) ak,.str me,.str ta,.int .i64 st,.str re,.bool ba,.sh (.pair .str .str) fs,.str bo]],[]=>gX ur t1 t2 ak me ta st re ba fs bo
 |_,_=>.fail
theorem xJ:Sound Kx 46 qj:=ae (C:=CE) (O:=CD) Tryz.func46 (by kernel_rfl) fun args objs=>by
 unfold qj;split
 ·exact .inr (by kernel_rfl)
 ·exact .inl rfl
def OU:List AV→List Ob→Br:=N0 (fun e=>isM e.1) (fun e=>.bool (qh e))
theorem vw:Sound Kx 50 OU:=IJ xI fun ur t1 t2 ak me ta st re ba fs bo h=>by
 show(gW ur t1 t2 ak me ta st re ba fs bo).val=some (.bool (qh (ur,t1,t2,ak,me,ta,st,re,ba,fs,bo)),[])
 unfold gW qh
 refine(aZ h).trans ?_
 simp only
 cases fy ur<;>cases CU t1<;>cases CU t2<;>cases decide (t1≤t2)<;>cases cx ak<;>cases cD me ta st re ba fs bo<;>cases decide (me=[])<;>rfl
theorem vy:Sound Kx 46 OU:=IJ xJ fun ur t1 t2 ak me ta st re ba fs bo h=>by
 show(gX ur t1 t2 ak me ta st re ba fs bo).val=some (.bool (qh (ur,t1,t2,ak,me,ta,st,re,ba,fs,bo)),[])
 unfold gX qh
 refine(aZ h).trans ?_
 simp only
 cases fy ur<;>cases CU t1<;>cases CU t2<;>cases decide (t1≤t2)<;>cases cx ak<;>cases cD me ta st re ba fs bo<;>cases decide (me=[])<;>rfl
def Ot:SC:=[⟨107,_,Cy⟩]
def F_ (ur:aa) (t1 t2:Int) (ak:List Fd) (me ta:aa) (st:Int) (re:aa) (ba:Bool) (fs:List Fd) (bo:aa):Br:=(Br.ret (AV.int .i64 (ac ((ur.length:Int)+((List.length (gj (me,(ta,(st,(re,(ba,(fs,bo)))))))):Int)))) [])
def M7:List AV→List Ob→Br
 | [.agg [.str ur,.int .i64 t1,.int .i64 t2,.sh (.pair .str .str) ak,.str me,.str ta,.int .i64 st,.str re,.bool ba,.sh (.pair .str .str) fs,.str bo]],[]=>F_ ur t1 t2 ak me ta st re ba fs bo
 |_,_=>.fail
theorem M8:Sound Kx 93 M7:=ae (C:=Ot) (O:=O0) Tryz.func93 (by kernel_rfl) fun args objs=>by
 unfold M7;split
 ·exact .inr (by kernel_rfl)
 ·exact .inl rfl
def Ou:SC:=[⟨118,_,Cz⟩]
def Ga (ur:aa) (t1 t2:Int) (ak:List Fd) (me ta:aa) (st:Int) (re:aa) (ba:Bool) (fs:List Fd) (bo:aa):Br:=(Br.ret (AV.int .i64 (ac ((ur.length:Int)+((List.length (gj (me,(ta,(st,(re,(ba,(fs,bo)))))))):Int)))) [])
def M9:List AV→List Ob→Br
 | [.agg [.str ur,.int .i64 t1,.int .i64 t2,.sh (.pair .str .str) ak,.str me,.str ta,.int .i64 st,.str re,.bool ba,.sh (.pair .str .str) fs,.str bo]],[]=>Ga ur t1 t2 ak me ta st re ba fs bo
 |_,_=>.fail
theorem M_:Sound Kx 85 M9:=ae (C:=Ou) (O:=O0) Tryz.func85 (by kernel_rfl) fun args objs=>by
 unfold M9;split
 ·exact .inr (by kernel_rfl)
 ·exact .inl rfl
def jo (e:En):Int:=(e.1.length:Int)+((gj e.2.2.2.2).length:Int)
def OV:List AV→List Ob→Br:=N0 (fun e=>isM e.1) (fun e=>.int .i64 (jo e))
theorem Ll:Sound Kx 93 OV:=IJ M8 fun ur t1 t2 ak me ta st re ba fs bo h=>by
 show(F_ ur t1 t2 ak me ta st re ba fs bo).val=some (.int .i64 (jo (ur,t1,t2,ak,me,ta,st,re,ba,fs,bo)),[])
 have h1:=b8 h
 have h2:=nH (me,ta,st,re,ba,fs,bo)
 unfold F_ jo
 simp only at h1⊢
 rw [w64 (by omega) (by omega)];rfl
theorem Lm:Sound Kx 85 OV:=IJ M_ fun ur t1 t2 ak me ta st re ba fs bo h=>by
 show(Ga ur t1 t2 ak me ta st re ba fs bo).val=some (.int .i64 (jo (ur,t1,t2,ak,me,ta,st,re,ba,fs,bo)),[])
 have h1:=b8 h
 have h2:=nH (me,ta,st,re,ba,fs,bo)
 unfold Ga jo
 simp only at h1⊢
 rw [w64 (by omega) (by omega)];rfl
def JV:Opt:={live:=[(3,[3,7,8,9])],outs:=[(3,[2,3])]}
def iCSz_C:SC:=[⟨93,_,Ll⟩]
def rN (aj:Int) (ai:(List En)) (aM bX:Int) (Pa:Int→(List En)→Int→Int→OR') (cP:Int→OR'):OR':=
 (bif(decide (bX<aM))then(bif(decide (0≤bX))then(bif(decide (bX< (ai.length:Int)))then(bif(isM (List.getD ai (Int.toNat bX) en0).1)then(Pa (ac (aj+(jo ((List.getD ai (Int.toNat bX) en0).1,((List.getD ai (Int.toNat bX) en0).2.1,((List.getD ai (Int.toNat bX) en0).2.2.1,((List.getD ai (Int.toNat bX) en0).2.2.2.1,((List.getD ai (Int.toNat bX) en0).2.2.2.2.1,((List.getD ai (Int.toNat bX) en0).2.2.2.2.2.1,((List.getD ai (Int.toNat bX) en0).2.2.2.2.2.2.1,((List.getD ai (Int.toNat bX) en0).2.2.2.2.2.2.2.1,((List.getD ai (Int.toNat bX) en0).2.2.2.2.2.2.2.2.1,((List.getD ai (Int.toNat bX) en0).2.2.2.2.2.2.2.2.2.1,(List.getD ai (Int.toNat bX) en0).2.2.2.2.2.2.2.2.2.2))))))))))))) ai aM (ac (bX+1)))else(none))else(none))else(none))else(cP aj))
def jp:Nat→Int→(List En)→Int→Int→(Int→OR')→OR'
 |0,_,_,_,_,_=>none
 |n+1,aj,ai,aM,bX,cP=>rN aj ai aM bX (fun aj ai aM bX=>jp n aj ai aM bX cP) cP
abbrev iCSz_p3:SP:=⟨19,[3,7,8,9],[(.v (.i .i64)),(.v (.sh EnT)),(.v (.i .i64)),(.v (.i .i64))],[]⟩
noncomputable def Gb:Code:=aG (aI Tryz.f76) [1,1,0,1,0,0]
def Gc (f:(Int→OR')→OR') (k:KT):OR':=f (fun aW=>k (Ex.exit 0) ((St.mk (aE 0 19 [(3,(AV.int .i64 aW))]) ([]:(List (Nat×(Ob)))))))
def Gd (n:Nat) (d:iCSz_p3.D):KT→OR':=Gc (jp n d.1.1 d.1.2.1 d.1.2.2.1 d.1.2.2.2.1)
def JW (N:Nat):Lam:=bD [⟨3,iCSz_p3,Gd N⟩]
theorem IK (N:Nat):OkL Kx iCSz_C.s JV 0 N (JW N) Gb:=okL iCSz_p3 (Gd) (fun d kR=>Gc (rN d.1.1 d.1.2.1 d.1.2.2.1 d.1.2.2.2.1 (fun aj ai aM bX=>kR ((aj,ai,aM,bX,()),())))) (fun _ _=>by kernel_rfl) (fun _ _ _=>by kernel_rfl) (fun _ _=>by kernel_rfl) (fun _ _ _ _=>by kernel_rfl) (ah (l':=[]) (by kernel_rfl) trivial)
def Aq (N:Nat) (bu:Int) (l:List En):OR':=(jp N 0 l (l.length:Int) 0 (fun aW=>(some ((AV.int .i64 aW),[]))))
def Ar (φ:Int→(List En)→Br):List AV→List Ob→Br
 | [.agg [.int .i64 bu,.sh EnT l]],[]=>φ bu l
 |_,_=>.fail
theorem Ge {φ:Int→(List En)→Br} (fu:Int→(List En)→Nat) (hv: ∀bu l res_,(φ bu l).val=some res_→Aq (fu bu l) bu l=some res_):Sound Kx 76 (Ar φ):=an (C:=iCSz_C) (O:=JV) Tryz.func76 (by kernel_rfl) fun args objs=>by
 unfold Ar;split
 ·rename_i bu l;exact .inr fun _ hyp_=>aV (Λ:=JW (fu bu l)) (by kernel_rfl) (ah (l':=[Gb]) (by kernel_rfl) ⟨IK _,trivial⟩) (by kernel_rfl) (hv bu l _ hyp_)
 ·exact .inl rfl
def JX:Opt:={live:=[(3,[0,3,4])],outs:=[(3,[2,3])]}
def sCSz_C:SC:=[⟨85,_,Lm⟩]
def rP (aj:(List En)) (ai aM:Int) (Pa:(List En)→Int→Int→OR') (cP:Int→OR'):OR':=
 (bif(decide (aM< (aj.length:Int)))then(bif(decide (0≤aM))then(bif(decide (aM< (aj.length:Int)))then(bif(isM (List.getD aj (Int.toNat aM) en0).1)then(Pa aj (ac (ai+(jo ((List.getD aj (Int.toNat aM) en0).1,((List.getD aj (Int.toNat aM) en0).2.1,((List.getD aj (Int.toNat aM) en0).2.2.1,((List.getD aj (Int.toNat aM) en0).2.2.2.1,((List.getD aj (Int.toNat aM) en0).2.2.2.2.1,((List.getD aj (Int.toNat aM) en0).2.2.2.2.2.1,((List.getD aj (Int.toNat aM) en0).2.2.2.2.2.2.1,((List.getD aj (Int.toNat aM) en0).2.2.2.2.2.2.2.1,((List.getD aj (Int.toNat aM) en0).2.2.2.2.2.2.2.2.1,((List.getD aj (Int.toNat aM) en0).2.2.2.2.2.2.2.2.2.1,(List.getD aj (Int.toNat aM) en0).2.2.2.2.2.2.2.2.2.2))))))))))))) (ac (aM+1)))else(none))else(none))else(none))else(cP ai))
def jq:Nat→(List En)→Int→Int→(Int→OR')→OR'
 |0,_,_,_,_=>none
 |n+1,aj,ai,aM,cP=>rP aj ai aM (fun aj ai aM=>jq n aj ai aM cP) cP
abbrev sCSz_p3:SP:=⟨19,[0,3,4],[(.v (.sh EnT)),(.v (.i .i64)),(.v (.i .i64))],[]⟩
noncomputable def Gf:Code:=aG (aI Tryz.f73) [1,1,0,1,0,0]
def Gg (f:(Int→OR')→OR') (k:KT):OR':=f (fun aW=>k (Ex.exit 0) ((St.mk (aE 0 19 [(3,(AV.int .i64 aW))]) ([]:(List (Nat×(Ob)))))))
def Gh (n:Nat) (d:sCSz_p3.D):KT→OR':=Gg (jq n d.1.1 d.1.2.1 d.1.2.2.1)
def JY (N:Nat):Lam:=bD [⟨3,sCSz_p3,Gh N⟩]
theorem IL (N:Nat):OkL Kx sCSz_C.s JX 0 N (JY N) Gf:=okL sCSz_p3 (Gh) (fun d kR=>Gg (rP d.1.1 d.1.2.1 d.1.2.2.1 (fun aj ai aM=>kR ((aj,ai,aM,()),())))) (fun _ _=>by kernel_rfl) (fun _ _ _=>by kernel_rfl) (fun _ _=>by kernel_rfl) (fun _ _ _ _=>by kernel_rfl) (ah (l':=[]) (by kernel_rfl) trivial)
def As (N:Nat) (l:List En):OR':=(jq N l 0 0 (fun aW=>(some ((AV.int .i64 aW),[]))))
def Au (φ:(List En)→Br):List AV→List Ob→Br
 | [.sh EnT l],[]=>φ l
 |_,_=>.fail
theorem Gi {φ:(List En)→Br} (fu:(List En)→Nat) (hv: ∀l res_,(φ l).val=some res_→As (fu l) l=some res_):Sound Kx 73 (Au φ):=an (C:=sCSz_C) (O:=JX) Tryz.func73 (by kernel_rfl) fun args objs=>by
 unfold Au;split
 ·rename_i l;exact .inr fun _ hyp_=>aV (Λ:=JY (fu l)) (by kernel_rfl) (ah (l':=[Gf]) (by kernel_rfl) ⟨IL _,trivial⟩) (by kernel_rfl) (hv l _ hyp_)
 ·exact .inl rfl
def qk:Opt:={live:=[(5,[0,1,5])],outs:=[(5,[1,4])]}
def szEntryS_C:SC:=[⟨15,_,xG⟩]
def eO (aL:(List En)) (bm aS:Int) (Pc:(List En)→Int→Int→OR') (dI ll:Int→OR'):OR':=
 (bif(decide (aS< (aL.length:Int)))then(bif(decide (0≤aS))then(bif(decide (aS< (aL.length:Int)))then(bif((smE ((List.getD aL (Int.toNat aS) en0).1,((List.getD aL (Int.toNat aS) en0).2.1,((List.getD aL (Int.toNat aS) en0).2.2.1,((List.getD aL (Int.toNat aS) en0).2.2.2.1,((List.getD aL (Int.toNat aS) en0).2.2.2.2.1,((List.getD aL (Int.toNat aS) en0).2.2.2.2.2.1,((List.getD aL (Int.toNat aS) en0).2.2.2.2.2.2.1,((List.getD aL (Int.toNat aS) en0).2.2.2.2.2.2.2.1,((List.getD aL (Int.toNat aS) en0).2.2.2.2.2.2.2.2.1,((List.getD aL (Int.toNat aS) en0).2.2.2.2.2.2.2.2.2.1,(List.getD aL (Int.toNat aS) en0).2.2.2.2.2.2.2.2.2.2)))))))))))&&(b9 bm))then(bif(decide ((szM (enW ((List.getD aL (Int.toNat aS) en0).1,((List.getD aL (Int.toNat aS) en0).2.1,((List.getD aL (Int.toNat aS) en0).2.2.1,((List.getD aL (Int.toNat aS) en0).2.2.2.1,((List.getD aL (Int.toNat aS) en0).2.2.2.2.1,((List.getD aL (Int.toNat aS) en0).2.2.2.2.2.1,((List.getD aL (Int.toNat aS) en0).2.2.2.2.2.2.1,((List.getD aL (Int.toNat aS) en0).2.2.2.2.2.2.2.1,((List.getD aL (Int.toNat aS) en0).2.2.2.2.2.2.2.2.1,((List.getD aL (Int.toNat aS) en0).2.2.2.2.2.2.2.2.2.1,(List.getD aL (Int.toNat aS) en0).2.2.2.2.2.2.2.2.2.2))))))))))) bm)<0))then(dI (szM (enW ((List.getD aL (Int.toNat aS) en0).1,((List.getD aL (Int.toNat aS) en0).2.1,((List.getD aL (Int.toNat aS) en0).2.2.1,((List.getD aL (Int.toNat aS) en0).2.2.2.1,((List.getD aL (Int.toNat aS) en0).2.2.2.2.1,((List.getD aL (Int.toNat aS) en0).2.2.2.2.2.1,((List.getD aL (Int.toNat aS) en0).2.2.2.2.2.2.1,((List.getD aL (Int.toNat aS) en0).2.2.2.2.2.2.2.1,((List.getD aL (Int.toNat aS) en0).2.2.2.2.2.2.2.2.1,((List.getD aL (Int.toNat aS) en0).2.2.2.2.2.2.2.2.2.1,(List.getD aL (Int.toNat aS) en0).2.2.2.2.2.2.2.2.2.2))))))))))) bm))else(Pc aL (szM (enW ((List.getD aL (Int.toNat aS) en0).1,((List.getD aL (Int.toNat aS) en0).2.1,((List.getD aL (Int.toNat aS) en0).2.2.1,((List.getD aL (Int.toNat aS) en0).2.2.2.1,((List.getD aL (Int.toNat aS) en0).2.2.2.2.1,((List.getD aL (Int.toNat aS) en0).2.2.2.2.2.1,((List.getD aL (Int.toNat aS) en0).2.2.2.2.2.2.1,((List.getD aL (Int.toNat aS) en0).2.2.2.2.2.2.2.1,((List.getD aL (Int.toNat aS) en0).2.2.2.2.2.2.2.2.1,((List.getD aL (Int.toNat aS) en0).2.2.2.2.2.2.2.2.2.1,(List.getD aL (Int.toNat aS) en0).2.2.2.2.2.2.2.2.2.2))))))))))) bm) (ac (aS+1))))else(none))else(none))else(none))else(ll bm))
def cM:Nat→(List En)→Int→Int→(Int→OR')→(Int→OR')→OR'
 |0,_,_,_,_,_=>none
 |n+1,aL,bm,aS,dI,ll=>eO aL bm aS (fun aL bm aS=>cM n aL bm aS dI ll) dI ll
abbrev szEntryS_p5:SP:=⟨27,[0,1,5],[(.v (.sh EnT)),(.v (.i .i64)),(.v (.i .i64))],[]⟩
noncomputable def nI:Code:=aG (aI Tryz.f35) [1,1,1,0,1,0,0]
def nJ (f:(Int→OR')→(Int→OR')→OR') (k:KT):OR':=f (fun am=>k Ex.ret ((St.mk (aE 0 27 [(1,(AV.int .i64 am)),(4,(AV.int .i64 (-1)))]) ([]:(List (Nat×(Ob))))))) (fun dC=>k (Ex.exit 0) ((St.mk (aE 0 27 [(1,(AV.int .i64 dC))]) ([]:(List (Nat×(Ob)))))))
def nK (n:Nat) (d:szEntryS_p5.D):KT→OR':=nJ (cM n d.1.1 d.1.2.1 d.1.2.2.1)
def ql (N:Nat):Lam:=bD [⟨5,szEntryS_p5,nK N⟩]
theorem vz (N:Nat):OkL Kx szEntryS_C.s qk 0 N (ql N) nI:=okL szEntryS_p5 (nK) (fun d kR=>nJ (eO d.1.1 d.1.2.1 d.1.2.2.1 (fun aL bm aS=>kR ((aL,bm,aS,()),())))) (fun _ _=>by kernel_rfl) (fun _ _ _=>by kernel_rfl) (fun _ _=>by kernel_rfl) (fun _ _ _ _=>by kernel_rfl) (ah (l':=[]) (by kernel_rfl) trivial)
def j6 (N:Nat) (l:List En) (left:Int):OR':=(bif(decide ((ac (left-(l.length:Int)))<0))then(some ((AV.int .i64 (-1)),[]))else(cM N l (ac (left-(l.length:Int))) 0 (fun am=>(some ((AV.int .i64 (-1)),[]))) (fun dC=>(some ((AV.int .i64 dC),[])))))
def j7 (φ:(List En)→Int→Br):List AV→List Ob→Br
 | [.sh EnT l,.int .i64 left],[]=>φ l left
 |_,_=>.fail
theorem rQ {φ:(List En)→Int→Br} (fu:(List En)→Int→Nat) (hv: ∀l left res_,(φ l left).val=some res_→j6 (fu l left) l left=some res_):Sound Kx 35 (j7 φ):=an (C:=szEntryS_C) (O:=qk) Tryz.func35 (by kernel_rfl) fun args objs=>by
 unfold j7;split
 ·rename_i l left;exact .inr fun _ hyp_=>aV (Λ:=ql (fu l left)) (by kernel_rfl) (ah (l':=[nI]) (by kernel_rfl) ⟨vz _,trivial⟩) (by kernel_rfl) (hv l left _ hyp_)
 ·exact .inl rfl
def qm:Opt:={live:=[(3,[0,3,4])],outs:=[(3,[2,3])]}
def toEntryS_C:SC:=[⟨17,_,Cu⟩]
def eQ (aj:(List En)) (ai:Int) (aM:(List En)) (Pa:(List En)→Int→(List En)→OR') (cP:(List En)→OR'):OR':=
 (bif(decide (ai< (aj.length:Int)))then(bif(decide (0≤ai))then(bif(decide (ai< (aj.length:Int)))then(bif(decide ((List.length (List.getD aj (Int.toNat ai) en0).2.2.2.1)≤1048576))then(bif(decide ((List.length (List.getD aj (Int.toNat ai) en0).2.2.2.2.2.2.2.2.2.1)≤1048576))then(bif(decide (0≤ai))then(bif(decide (ai< (aM.length:Int)))then(Pa aj (ac (ai+1)) (List.set aM (Int.toNat ai) ((List.getD aj (Int.toNat ai) en0).1,((List.getD aj (Int.toNat ai) en0).2.1,((List.getD aj (Int.toNat ai) en0).2.2.1,((List.getD aj (Int.toNat ai) en0).2.2.2.1,((List.getD aj (Int.toNat ai) en0).2.2.2.2.1,((List.getD aj (Int.toNat ai) en0).2.2.2.2.2.1,((List.getD aj (Int.toNat ai) en0).2.2.2.2.2.2.1,((List.getD aj (Int.toNat ai) en0).2.2.2.2.2.2.2.1,((List.getD aj (Int.toNat ai) en0).2.2.2.2.2.2.2.2.1,((List.getD aj (Int.toNat ai) en0).2.2.2.2.2.2.2.2.2.1,(List.getD aj (Int.toNat ai) en0).2.2.2.2.2.2.2.2.2.2))))))))))))else(none))else(none))else(none))else(none))else(none))else(none))else(cP aM))
def cN:Nat→(List En)→Int→(List En)→((List En)→OR')→OR'
 |0,_,_,_,_=>none
 |n+1,aj,ai,aM,cP=>eQ aj ai aM (fun aj ai aM=>cN n aj ai aM cP) cP
abbrev toEntryS_p3:SP:=⟨23,[0,3,4],[(.v (.sh EnT)),(.v (.ref 256 0)),(.v (.i .i64))],[(256,.arr EnT 0 false)]⟩
noncomputable def nL:Code:=aG (aI Tryz.f38) [1,1,0,1,0,0]
def nM (f:((List En)→OR')→OR') (k:KT):OR':=f (fun aW=>k (Ex.exit 0) ((St.mk (aE 0 23 [(3,(AV.ref 256 0))]) ((256,(Ob.arr EnT 0 false aW))::([]:(List (Nat×(Ob))))))))
def nN (n:Nat) (d:toEntryS_p3.D):KT→OR':=nM (cN n d.1.1 d.1.2.2.1 d.2.1)
def qn (N:Nat):Lam:=bD [⟨3,toEntryS_p3,nN N⟩]
theorem vA (N:Nat):OkL Kx toEntryS_C.s qm 0 N (qn N) nL:=okL toEntryS_p3 (nN) (fun d kR=>nM (eQ d.1.1 d.1.2.2.1 d.2.1 (fun aj ai aM=>kR ((aj,(),ai,()),(aM,()))))) (fun _ _=>by kernel_rfl) (fun _ _ _=>by kernel_rfl) (fun _ _=>by kernel_rfl) (fun _ _ _ _=>by kernel_rfl) (ah (l':=[]) (by kernel_rfl) trivial)
def j8 (N:Nat) (l:List En):OR':=(bif(decide (0≤(l.length:Int)))then(bif(decide ((l.length:Int)=(l.length:Int)))then(bif(decide (((l.length:Int)*160)≤140737488355328))then(cN N l 0 (List.replicate (Int.toNat (l.length:Int)) en0) (fun aW=>(some ((AV.ref 0 0),((Ob.arr EnT 0 false aW)::[])))))else(none))else(none))else(none))
def j9 (φ:(List En)→Br):List AV→List Ob→Br
 | [.sh EnT l],[]=>φ l
 |_,_=>.fail
theorem rR {φ:(List En)→Br} (fu:(List En)→Nat) (hv: ∀l res_,(φ l).val=some res_→j8 (fu l) l=some res_):Sound Kx 38 (j9 φ):=an (C:=toEntryS_C) (O:=qm) Tryz.func38 (by kernel_rfl) fun args objs=>by
 unfold j9;split
 ·rename_i l;exact .inr fun _ hyp_=>aV (Λ:=qn (fu l)) (by kernel_rfl) (ah (l':=[nL]) (by kernel_rfl) ⟨vA _,trivial⟩) (by kernel_rfl) (hv l _ hyp_)
 ·exact .inl rfl
def qo:Opt:={live:=[(4,[0,1,5])],outs:=[(4,[4])]}
def eqEntryS_C:SC:=[⟨19,_,xH⟩]
def eR (aF aX:(List En)) (aT:Int) (Pd:(List En)→(List En)→Int→OR') (cF:OR'):OR':=
 (bif(decide (aT< (aF.length:Int)))then(bif(decide (0≤aT))then(bif(decide (aT< (aF.length:Int)))then(bif(decide (0≤aT))then(bif(decide (aT< (aX.length:Int)))then(bif(((JU ((List.getD aF (Int.toNat aT) en0).1,((List.getD aF (Int.toNat aT) en0).2.1,((List.getD aF (Int.toNat aT) en0).2.2.1,((List.getD aF (Int.toNat aT) en0).2.2.2.1,((List.getD aF (Int.toNat aT) en0).2.2.2.2.1,((List.getD aF (Int.toNat aT) en0).2.2.2.2.2.1,((List.getD aF (Int.toNat aT) en0).2.2.2.2.2.2.1,((List.getD aF (Int.toNat aT) en0).2.2.2.2.2.2.2.1,((List.getD aF (Int.toNat aT) en0).2.2.2.2.2.2.2.2.1,((List.getD aF (Int.toNat aT) en0).2.2.2.2.2.2.2.2.2.1,(List.getD aF (Int.toNat aT) en0).2.2.2.2.2.2.2.2.2.2)))))))))) ((List.getD aX (Int.toNat aT) en0).1,((List.getD aX (Int.toNat aT) en0).2.1,((List.getD aX (Int.toNat aT) en0).2.2.1,((List.getD aX (Int.toNat aT) en0).2.2.2.1,((List.getD aX (Int.toNat aT) en0).2.2.2.2.1,((List.getD aX (Int.toNat aT) en0).2.2.2.2.2.1,((List.getD aX (Int.toNat aT) en0).2.2.2.2.2.2.1,((List.getD aX (Int.toNat aT) en0).2.2.2.2.2.2.2.1,((List.getD aX (Int.toNat aT) en0).2.2.2.2.2.2.2.2.1,((List.getD aX (Int.toNat aT) en0).2.2.2.2.2.2.2.2.2.1,(List.getD aX (Int.toNat aT) en0).2.2.2.2.2.2.2.2.2.2)))))))))))&&(decide ((List.length (List.getD aF (Int.toNat aT) en0).2.2.2.1)≤1048576)))&&(decide ((List.length (List.getD aF (Int.toNat aT) en0).2.2.2.2.2.2.2.2.2.1)≤1048576)))then(Pd aF aX (ac (aT+1)))else(none))else(none))else(none))else(none))else(none))else cF)
def cO:Nat→(List En)→(List En)→Int→(OR')→OR'
 |0,_,_,_,_=>none
 |n+1,aF,aX,aT,cF=>eR aF aX aT (fun aF aX aT=>cO n aF aX aT cF) cF
abbrev eqEntryS_p4:SP:=⟨27,[0,1,5],[(.v (.sh EnT)),(.v (.sh EnT)),(.v (.i .i64))],[]⟩
noncomputable def nO:Code:=aG (aI Tryz.f41) [1,1,0,1,0,0]
def nP (f:(OR')→OR') (k:KT):OR':=f (k (Ex.exit 0) ((St.mk (aE 0 27 []) ([]:(List (Nat×(Ob)))))))
def nQ (n:Nat) (d:eqEntryS_p4.D):KT→OR':=nP (cO n d.1.1 d.1.2.1 d.1.2.2.1)
def qp (N:Nat):Lam:=bD [⟨4,eqEntryS_p4,nQ N⟩]
theorem vB (N:Nat):OkL Kx eqEntryS_C.s qo 0 N (qp N) nO:=okL eqEntryS_p4 (nQ) (fun d kR=>nP (eR d.1.1 d.1.2.1 d.1.2.2.1 (fun aF aX aT=>kR ((aF,aX,aT,()),())))) (fun _ _=>by kernel_rfl) (fun _ _ _=>by kernel_rfl) (fun _ _=>by kernel_rfl) (fun _ _ _ _=>by kernel_rfl) (ah (l':=[]) (by kernel_rfl) trivial)
def j_ (N:Nat) (a b:List En):OR':=(bif(!(decide ((a.length:Int)=(b.length:Int))))then(some ((AV.bool false),[]))else(cO N a b 0 (some ((AV.bool true),[]))))
def kd (φ:(List En)→(List En)→Br):List AV→List Ob→Br
 | [.sh EnT a,.sh EnT b],[]=>φ a b
 |_,_=>.fail
theorem rT {φ:(List En)→(List En)→Br} (fu:(List En)→(List En)→Nat) (hv: ∀a b res_,(φ a b).val=some res_→j_ (fu a b) a b=some res_):Sound Kx 41 (kd φ):=an (C:=eqEntryS_C) (O:=qo) Tryz.func41 (by kernel_rfl) fun args objs=>by
 unfold kd;split
 ·rename_i a b;exact .inr fun _ hyp_=>aV (Λ:=qp (fu a b)) (by kernel_rfl) (ah (l':=[nO]) (by kernel_rfl) ⟨vB _,trivial⟩) (by kernel_rfl) (hv a b _ hyp_)
 ·exact .inl rfl
theorem iH (a:En):(a.1,a.2.1,a.2.2.1,a.2.2.2.1,a.2.2.2.2.1,a.2.2.2.2.2.1,a.2.2.2.2.2.2.1,a.2.2.2.2.2.2.2.1,a.2.2.2.2.2.2.2.2.1,a.2.2.2.2.2.2.2.2.2.1,a.2.2.2.2.2.2.2.2.2.2)=a:=rfl
def Av:List En→Int
 | []=>0
 |e::r=>jo e+Av r
def sg (l:List En):Bool:=decide (l.length≤1048576)&&l.all fun e=>decide (e.1.length≤1048576)
theorem Aw (e:En) (h:e.1.length≤1048576):0≤jo e∧jo e≤1050676:=by
 have:=nH e.2.2.2.2
 unfold jo;omega
theorem lh {l:List En} (h:sg l=true):l.length≤1048576∧ ∀e∈l,e.1.length≤1048576:=by
 unfold sg at h
 simp only [Bool.and_eq_true,decide_eq_true_eq,List.all_eq_true]at h
 exact h
theorem Gj (l:List En) (hl:l.length≤1048576) (k:Int→OR'): ∀(r:List En) (acc i:Int) (n:Nat),At l i r→r.length<n→(∀e∈r,e.1.length≤1048576)→0≤acc→acc+1050676*r.length≤2000000000000→
 jp n acc l (l.length:Int) i k=k (acc+Av r):=by
 intro r;induction r with
 |nil=>intro acc i n h hn hm ha hb;obtain⟨n,rfl⟩:=bC hn;unfold jp rN;simp only [h.dge,cond_false,Av,Int.add_zero]
 |cons e r ih=>
  intro acc i n h hn hm ha hb;obtain⟨n,rfl⟩:=bC hn
  simp only [List.length_cons]at hn hb
  have he:=hm e (List.mem_cons_self ..)
  have hs:=Aw e he
  have hM:isM e.1=true:=bi (n:=1048576) he
  have hr:=ih (acc+jo e) (i+1) n h.step (by omega) (fun x hx=>hm x (List.mem_cons_of_mem _ hx)) (by omega) (by omega)
  unfold jp rN
  simp only [h.dlt,h.dnn,h.get,cond_true,h.next (show l.length≤4611686018427387904 by omega),hM,iH]
  rw [w64 (by omega) (by omega),hr]
  simp only [Av]
  rw [Int.add_assoc]
theorem Gk (l:List En) (hl:l.length≤1048576) (k:Int→OR'): ∀(r:List En) (acc i:Int) (n:Nat),At l i r→r.length<n→(∀e∈r,e.1.length≤1048576)→0≤acc→acc+1050676*r.length≤2000000000000→
 jq n l acc i k=k (acc+Av r):=by
 intro r;induction r with
 |nil=>intro acc i n h hn hm ha hb;obtain⟨n,rfl⟩:=bC hn;unfold jq rP;simp only [h.dge,cond_false,Av,Int.add_zero]
 |cons e r ih=>
  intro acc i n h hn hm ha hb;obtain⟨n,rfl⟩:=bC hn
  simp only [List.length_cons]at hn hb
  have he:=hm e (List.mem_cons_self ..)
  have hs:=Aw e he
  have hM:isM e.1=true:=bi (n:=1048576) he
  have hr:=ih (acc+jo e) (i+1) n h.step (by omega) (fun x hx=>hm x (List.mem_cons_of_mem _ hx)) (by omega) (by omega)
  unfold jq rP
  simp only [h.dlt,h.dnn,h.get,cond_true,h.next (show l.length≤4611686018427387904 by omega),hM,iH]
  rw [w64 (by omega) (by omega),hr]
  simp only [Av]
  rw [Int.add_assoc]
def LI (p:Int→List En→AV):List AV→List Ob→Br
 | [.agg [.int .i64 bu,.sh (.pair .str (.pair (.int .i64) (.pair (.int .i64) (.pair (.slice (.pair .str .str)) (.pair .str (.pair .str (.pair (.int .i64) (.pair .str (.pair .bool (.pair (.slice (.pair .str .str)) .str)))))))))) l]],[]=>.ite (sg l) (.ret (p bu l) []) .fail
 |_,_=>.fail
def OW (p:List En→AV):List AV→List Ob→Br
 | [.sh (.pair .str (.pair (.int .i64) (.pair (.int .i64) (.pair (.slice (.pair .str .str)) (.pair .str (.pair .str (.pair (.int .i64) (.pair .str (.pair .bool (.pair (.slice (.pair .str .str)) .str)))))))))) l],[]=>.ite (sg l) (.ret (p l) []) .fail
 |_,_=>.fail
theorem IM:Sound Kx 76 (LI fun _ l=>.int .i64 (Av l)):=by
 refine(Ge (φ:=fun bu l=>.ite (sg l) (.ret (.int .i64 (Av l)) []) .fail) (fun _ l=>l.length+1) fun bu l r h=> ?_).of fun args objs r h=> ?_
 ·obtain⟨h1,h2⟩:=af h
  cases h2
  obtain⟨g1,g2⟩:=lh h1
  unfold Aq
  rw [Gj l g1 _ l 0 0 (l.length+1) (At.start l) (by omega) g2 (by omega) (by omega),Int.zero_add]
 ·unfold LI at h;split at h
  ·exact h
  ·cases h
theorem IN:Sound Kx 73 (OW fun l=>.int .i64 (Av l)):=by
 refine(Gi (φ:=fun l=>.ite (sg l) (.ret (.int .i64 (Av l)) []) .fail) (fun l=>l.length+1) fun l r h=> ?_).of fun args objs r h=> ?_
 ·obtain⟨h1,h2⟩:=af h
  cases h2
  obtain⟨g1,g2⟩:=lh h1
  unfold As
  rw [Gk l g1 _ l 0 0 (l.length+1) (At.start l) (by omega) g2 (by omega) (by omega),Int.zero_add]
 ·unfold OW at h;split at h
  ·exact h
  ·cases h
def iI:List En→Int
 | []=>0
 |e::r=>enW e+iI r
theorem Gl (e:En):0≤enW e:=by
 have h1:=eJ e.2.2.2.1
 have h2:=F8 e.2.2.2.2.1 e.2.2.2.2.2.1 e.2.2.2.2.2.2.2.1 e.2.2.2.2.2.2.2.2.2.1 e.2.2.2.2.2.2.2.2.2.2
 unfold enW;omega
theorem jr: ∀l,0≤iI l
 | []=>Int.le_refl 0
 |e::r=>by have:=jr r;have:=Gl e;simp only [iI];omega
def IO (l:List En):Bool:=decide (l.length≤4611686018427387904)&&l.all smE
def CV (l:List En) (left:Int):Int:=bif decide ((l.length:Int)+iI l≤left)then left-((l.length:Int)+iI l)else-1
theorem rU (l:List En) (hl:l.length≤4611686018427387904) (ka kb:Int→OR'): ∀(r:List En) (i left:Int) (n:Nat),At l i r→r.length<n→(∀e∈r,smE e=true)→0≤left→left≤1048576→
 cM n l left i ka kb=bif decide (iI r≤left)then kb (left-iI r)else ka (-1):=by
 intro r;induction r with
 |nil=>
  intro i left n h hn hf h0 h1;obtain⟨n,rfl⟩:=bC hn;unfold cM eO
  have e:decide (iI []≤left)=true:=dT' h0
  simp only [h.dge,cond_false,e,cond_true];simp only [iI,Int.sub_zero]
 |cons e r ih=>
  intro i left n h hn hf h0 h1;obtain⟨n,rfl⟩:=bC hn
  have hs:=hf e (List.mem_cons_self ..)
  have hk:b9 left=true:=by simp only [b9,Bool.and_eq_true,decide_eq_true_eq];omega
  have hw:=Gl e
  have ht:=jr r
  simp only [List.length_cons]at hn
  unfold cM eO
  simp only [h.dlt,h.dnn,h.get,cond_true,h.next hl,iH,hs,hk,Bool.and_self]
  unfold szM
  by_cases c:enW e≤left
  ·simp only [dT' c,cond_true]
   rw [dF' (show ¬left-enW e<0 by omega),cond_false,ih (i+1) _ n h.step (by omega) (fun x hx=>hf x (List.mem_cons_of_mem _ hx)) (by omega) (by omega)]
   simp only [iI]
   have e1:decide (iI r≤left-enW e)=decide (enW e+iI r≤left):=by rw [Bool.eq_iff_iff,decide_eq_true_eq,decide_eq_true_eq];omega
   rw [e1,show left-enW e-iI r=left-(enW e+iI r) by omega]
   rfl
  ·simp only [dF' c,cond_false]
   rw [show decide ((-1:Int)<0)=true from rfl,cond_true,dF' (show ¬iI (e::r)≤left by simp only [iI];omega),cond_false]
def Na:List AV→List Ob→Br
 | [.sh (.pair .str (.pair (.int .i64) (.pair (.int .i64) (.pair (.slice (.pair .str .str)) (.pair .str (.pair .str (.pair (.int .i64) (.pair .str (.pair .bool (.pair (.slice (.pair .str .str)) .str)))))))))) l,.int .i64 left],[]=>.ite (IO l&&b9 left) (.ret (.int .i64 (CV l left)) []) .fail
 |_,_=>.fail
theorem IP {l:List En} (h:IO l=true):l.length≤4611686018427387904∧ ∀e∈l,smE e=true:=by
 unfold IO at h
 simp only [Bool.and_eq_true,decide_eq_true_eq,List.all_eq_true]at h
 exact h
theorem vC:Sound Kx 35 Na:=by
 refine(rQ (φ:=fun l left=>.ite (IO l&&b9 left) (.ret (.int .i64 (CV l left)) []) .fail) (fun l _=>l.length+1) fun l left r h=> ?_).of fun args objs r h=> ?_
 ·obtain⟨h1,h2⟩:=af h
  cases h2
  rw [Bool.and_eq_true]at h1
  obtain⟨g1,g2⟩:=IP h1.1
  have h0:=h1.2
  simp only [b9,Bool.and_eq_true,decide_eq_true_eq]at h0
  have ht:=jr l
  unfold j6 CV
  rw [w64 (by omega) (by omega)]
  by_cases c:left-(l.length:Int)<0
  ·rw [dT' c,dF' (by omega)];rfl
  ·rw [dF' c,cond_false,rU l g1 _ _ l 0 _ _ (At.start l) (by omega) g2 (by omega) (by omega)]
   have e1:decide (iI l≤left-(l.length:Int))=decide ((l.length:Int)+iI l≤left):=by rw [Bool.eq_iff_iff,decide_eq_true_eq,decide_eq_true_eq];omega
   rw [e1,show left-(l.length:Int)-iI l=left-((l.length:Int)+iI l) by omega]
   cases decide ((l.length:Int)+iI l≤left)<;>rfl
 ·unfold Na at h;split at h
  ·exact h
  ·cases h
def fA:List En→List En→Bool
 | [],[]=>true
 |a::r,b::s=>JU a b&&fA r s
 |_,_=>false
theorem qq: ∀l:List En,fA l l=true
 | []=>rfl
 |a::r=>by unfold fA;rw [vu,qq r];rfl
theorem Ln {a b:En} (h:JU a b=true):a=b:=by
 obtain⟨ur,t1,t2,ak,me,ta,st,re,ba,fs,bo⟩:=a
 obtain⟨ur',t1',t2',ak',me',ta',st',re',ba',fs',bo'⟩:=b
 simp only [JU,Bool.and_eq_true,decide_eq_true_eq]at h
 obtain⟨⟨⟨⟨⟨⟨⟨⟨⟨⟨rfl,rfl⟩,rfl⟩,rfl⟩,rfl⟩,rfl⟩,rfl⟩,rfl⟩,rfl⟩,rfl⟩,rfl⟩:=h
 rfl
theorem rV: ∀(a b:List En),fA a b=true→a=b
 | [],[],_=>rfl
 | [],_::_,h=>by cases h
 |_::_,[],h=>by cases h
 |a::r,b::s,h=>by
  unfold fA at h
  rw [Bool.and_eq_true]at h
  rw [Ln h.1,rV r s h.2]
def shE (e:En):Bool:=decide (e.2.2.2.1.length≤1048576)&&decide (e.2.2.2.2.2.2.2.2.2.1.length≤1048576)
def nR (l:List En):Bool:=decide (l.length≤1048576)&&l.all shE
theorem li {l:List En} (h:nR l=true):l.length≤1048576∧ ∀e∈l,shE e=true:=by
 unfold nR at h
 simp only [Bool.and_eq_true,decide_eq_true_eq,List.all_eq_true]at h
 exact h
theorem rW (l:List En) (hl:l.length≤1048576) (k:OR'): ∀(r:List En) (i:Int) (n:Nat),At l i r→r.length<n→(∀e∈r,shE e=true)→
 cO n l l i k=k:=by
 intro r;induction r with
 |nil=>intro i n h hn hf;obtain⟨n,rfl⟩:=bC hn;unfold cO eR;simp only [h.dge,cond_false]
 |cons e r ih=>
  intro i n h hn hf;obtain⟨n,rfl⟩:=bC hn
  have he:=hf e (List.mem_cons_self ..)
  unfold shE at he
  rw [Bool.and_eq_true]at he
  simp only [List.length_cons]at hn
  have hr:=ih (i+1) n h.step (by omega) (fun x hx=>hf x (List.mem_cons_of_mem _ hx))
  unfold cO eR
  simp only [h.dlt,h.dnn,h.get,cond_true,h.next (show l.length≤4611686018427387904 by omega),iH,vu,he.1,he.2,Bool.and_self,Bool.not_true,cond_false,hr]
def Nb:List AV→List Ob→Br
 | [.sh (.pair .str (.pair (.int .i64) (.pair (.int .i64) (.pair (.slice (.pair .str .str)) (.pair .str (.pair .str (.pair (.int .i64) (.pair .str (.pair .bool (.pair (.slice (.pair .str .str)) .str)))))))))) a,.sh (.pair .str (.pair (.int .i64) (.pair (.int .i64) (.pair (.slice (.pair .str .str)) (.pair .str (.pair .str (.pair (.int .i64) (.pair .str (.pair .bool (.pair (.slice (.pair .str .str)) .str)))))))))) b],[]=>.ite (fA a b&&nR a) (.ret (.bool true) []) .fail
 |_,_=>.fail
theorem vD:Sound Kx 41 Nb:=by
 refine(rT (φ:=fun a b=>.ite (fA a b&&nR a) (.ret (.bool true) []) .fail) (fun a _=>a.length+1) fun a b r h=> ?_).of fun args objs r h=> ?_
 ·obtain⟨h1,h2⟩:=af h
  cases h2
  rw [Bool.and_eq_true]at h1
  obtain rfl:=rV a b h1.1
  obtain⟨g1,g2⟩:=li h1.2
  unfold j_
  rw [dT' rfl]
  simp only [Bool.not_true,cond_false]
  exact rW a g1 _ a 0 _ (At.start a) (by omega) g2
 ·unfold Nb at h;split at h
  ·exact h
  ·cases h
theorem rX (l:List En) (hl:l.length≤4611686018427387904) (k:List En→OR'): ∀(r pre:List En) (i:Int) (n:Nat),l=pre++r→i=pre.length→r.length<n→(∀e∈r,shE e=true)→
 cN n l i (pre++List.replicate r.length ([],0,0,[],[],[],0,[],false,[],[])) k=k l:=by
 intro r;induction r with
 |nil=>
  intro pre i n h hi hn hf;obtain⟨n,rfl⟩:=bC hn;subst h;subst hi
  have e:decide ((pre.length:Int)< ((pre++([]:List En)).length:Int))=false:=by simp
  unfold cN eQ;simp only [e,cond_false];rfl
 |cons a r ih=>
  intro pre i n h hi hn hf;obtain⟨n,rfl⟩:=bC hn
  have ha:At l i (a::r):=⟨pre,h,hi⟩
  have he:=hf a (List.mem_cons_self ..)
  unfold shE at he
  rw [Bool.and_eq_true]at he
  have e1:decide (i< ((pre++List.replicate (a::r).length (([],0,0,[],[],[],0,[],false,[],[]):En)).length:Int))=true:=dT' (by rw [hi];simp;omega)
  unfold cN eQ;simp only [ha.dlt,ha.dnn,ha.get,cond_true,ha.next hl,e1,he.1,he.2,iH,Bool.and_self]
  have:=ih (pre++[a]) (i+1) n (by rw [h];simp) (by rw [hi];simp) (by simp at hn;omega) (fun x hx=>hf x (List.mem_cons_of_mem _ hx))
  rw [←this]
  congr 1
  rw [hi]
  simp only [List.length_cons,List.replicate_succ,Int.toNat_natCast,gz]
  simp
def Nc:List AV→List Ob→Br
 | [.sh (.pair .str (.pair (.int .i64) (.pair (.int .i64) (.pair (.slice (.pair .str .str)) (.pair .str (.pair .str (.pair (.int .i64) (.pair .str (.pair .bool (.pair (.slice (.pair .str .str)) .str)))))))))) l],[]=>.ite (nR l) (.ret (.ref 0 0) [.arr (.pair .str (.pair (.int .i64) (.pair (.int .i64) (.pair (.slice (.pair .str .str)) (.pair .str (.pair .str (.pair (.int .i64) (.pair .str (.pair .bool (.pair (.slice (.pair .str .str)) .str)))))))))) 0 false l]) .fail
 |_,_=>.fail
theorem vE:Sound Kx 38 Nc:=by
 refine(rR (φ:=fun l=>.ite (nR l) (.ret (.ref 0 0) [.arr (.pair .str (.pair (.int .i64) (.pair (.int .i64) (.pair (.slice (.pair .str .str)) (.pair .str (.pair .str (.pair (.int .i64) (.pair .str (.pair .bool (.pair (.slice (.pair .str .str)) .str)))))))))) 0 false l]) .fail) (fun l=>l.length+1) fun l r h=> ?_).of fun args objs r h=> ?_
 ·obtain⟨h1,h2⟩:=af h
  cases h2
  obtain⟨g1,g2⟩:=li h1
  unfold j8
  have e1:decide ((0:Int)≤(l.length:Int))=true:=by simp
  have e2:decide ((l.length:Int)*160≤140737488355328)=true:=dT' (by omega)
  simp only [e1,e2,decide_true,cond_true,Int.toNat_natCast]
  exact rX l (by omega) _ l [] 0 _ rfl rfl (by omega) g2
 ·unfold Nc at h;split at h
  ·exact h
  ·cases h
def Gm:SC:=[⟨124,_,bZ⟩]
def CF (n:Int):Br:=(Br.ite (decide (0≤n)) (Br.ret (AV.bool (decide (n≤20000))) []) (Br.ret (AV.bool false) []))
def vF:List AV→List Ob→Br
 | [.int .i64 n],[]=>CF n
 |_,_=>.fail
theorem CG:Sound Kx 75 vF:=ae (C:=Gm) (O:=O0) Tryz.func75 (by kernel_rfl) fun args objs=>by
 unfold vF;split
 ·exact .inr (by kernel_rfl)
 ·exact .inl rfl
def JZ:Opt:={live:=[(4,[1,16,17,18])],outs:=[(4,[1,2])]}
def iCOk_C:SC:=[⟨75,_,CG⟩,⟨50,_,vw⟩,⟨76,_,IM⟩]
def rY (aF:(List En)) (aX aT dJ:Int) (go:(List En)) (Pd:(List En)→Int→Int→Int→(List En)→OR') (cF eS:Int→(List En)→OR'):OR':=
 (bif(decide (aT<aX))then(bif(decide (0≤aT))then(bif(decide (aT< (aF.length:Int)))then(bif(isM (List.getD aF (Int.toNat aT) en0).1)then(bif(!(qh ((List.getD aF (Int.toNat aT) en0).1,((List.getD aF (Int.toNat aT) en0).2.1,((List.getD aF (Int.toNat aT) en0).2.2.1,((List.getD aF (Int.toNat aT) en0).2.2.2.1,((List.getD aF (Int.toNat aT) en0).2.2.2.2.1,((List.getD aF (Int.toNat aT) en0).2.2.2.2.2.1,((List.getD aF (Int.toNat aT) en0).2.2.2.2.2.2.1,((List.getD aF (Int.toNat aT) en0).2.2.2.2.2.2.2.1,((List.getD aF (Int.toNat aT) en0).2.2.2.2.2.2.2.2.1,((List.getD aF (Int.toNat aT) en0).2.2.2.2.2.2.2.2.2.1,(List.getD aF (Int.toNat aT) en0).2.2.2.2.2.2.2.2.2.2))))))))))))then(cF dJ go)else(Pd aF aX (ac (aT+1)) dJ go))else(none))else(none))else(none))else(eS dJ go))
def js:Nat→(List En)→Int→Int→Int→(List En)→(Int→(List En)→OR')→(Int→(List En)→OR')→OR'
 |0,_,_,_,_,_,_,_=>none
 |n+1,aF,aX,aT,dJ,go,cF,eS=>rY aF aX aT dJ go (fun aF aX aT dJ go=>js n aF aX aT dJ go cF eS) cF eS
abbrev iCOk_p4:SP:=⟨31,[1,16,17,18],[(.v (.ptr 128 0)),(.v (.sh EnT)),(.v (.i .i64)),(.v (.i .i64))],[(128,.var [(.i .i64),(.sh EnT)])]⟩
noncomputable def Gn:Code:=aG (aI Tryz.f39) [1,1,0,1,0,0]
def Gp (f:(Int→(List En)→OR')→(Int→(List En)→OR')→OR') (k:KT):OR':=f (fun cq ko=>k Ex.ret ((St.mk (aE 0 31 [(1,(AV.ptr 128 0)),(2,(AV.bool false))]) ((128,(Ob.var ((AV.int .i64 cq)::((AV.sh EnT ko)::[]))))::([]:(List (Nat×(Ob)))))))) (fun bw bR=>k (Ex.exit 0) ((St.mk (aE 0 31 [(1,(AV.ptr 128 0))]) ((128,(Ob.var ((AV.int .i64 bw)::((AV.sh EnT bR)::[]))))::([]:(List (Nat×(Ob))))))))
def Gq (n:Nat) (d:iCOk_p4.D):KT→OR':=Gp (js n d.1.2.1 d.1.2.2.1 d.1.2.2.2.1 d.2.1.1 d.2.1.2.1)
def J0 (N:Nat):Lam:=bD [⟨4,iCOk_p4,Gq N⟩]
theorem IQ (N:Nat):OkL Kx iCOk_C.s JZ 0 N (J0 N) Gn:=okL iCOk_p4 (Gq) (fun d kR=>Gp (rY d.1.2.1 d.1.2.2.1 d.1.2.2.2.1 d.2.1.1 d.2.1.2.1 (fun aF aX aT dJ go=>kR (((),aF,aX,aT,()),((dJ,go,()),()))))) (fun _ _=>by kernel_rfl) (fun _ _ _=>by kernel_rfl) (fun _ _=>by kernel_rfl) (fun _ _ _ _=>by kernel_rfl) (ah (l':=[]) (by kernel_rfl) trivial)
def Ax (N:Nat) (bu:Int) (l:List En):OR':=(bif(decide (0≤bu))then(bif(!(decide (bu≤20000)))then(some ((AV.bool false),[]))else(bif(decide (30< (l.length:Int)))then(some ((AV.bool false),[]))else(js N l (l.length:Int) 0 bu l (fun cq=>(fun ko=>(some ((AV.bool false),[])))) (fun bw=>(fun bR=>(bif(sg bR)then(some ((AV.bool (decide ((Av bR)≤bw))),[]))else(none)))))))else(some ((AV.bool false),[])))
def Ay (φ:Int→(List En)→Br):List AV→List Ob→Br
 | [.agg [.int .i64 bu,.sh EnT l]],[]=>φ bu l
 |_,_=>.fail
theorem Gr {φ:Int→(List En)→Br} (fu:Int→(List En)→Nat) (hv: ∀bu l res_,(φ bu l).val=some res_→Ax (fu bu l) bu l=some res_):Sound Kx 39 (Ay φ):=an (C:=iCOk_C) (O:=JZ) Tryz.func39 (by kernel_rfl) fun args objs=>by
 unfold Ay;split
 ·rename_i bu l;exact .inr fun _ hyp_=>aV (Λ:=J0 (fu bu l)) (by kernel_rfl) (ah (l':=[Gn]) (by kernel_rfl) ⟨IQ _,trivial⟩) (by kernel_rfl) (hv bu l _ hyp_)
 ·exact .inl rfl
def J1:Opt:={live:=[(4,[1,3])],outs:=[(4,[1,2])]}
def sCOk_C:SC:=[⟨46,_,vy⟩,⟨73,_,IN⟩]
def rZ (aF aX:Int) (aT:(List En)) (Pd:Int→Int→(List En)→OR') (cF eS:Int→(List En)→OR'):OR':=
 (bif(decide (aF< (aT.length:Int)))then(bif(decide (0≤aF))then(bif(decide (aF< (aT.length:Int)))then(bif(isM (List.getD aT (Int.toNat aF) en0).1)then(bif(!(qh ((List.getD aT (Int.toNat aF) en0).1,((List.getD aT (Int.toNat aF) en0).2.1,((List.getD aT (Int.toNat aF) en0).2.2.1,((List.getD aT (Int.toNat aF) en0).2.2.2.1,((List.getD aT (Int.toNat aF) en0).2.2.2.2.1,((List.getD aT (Int.toNat aF) en0).2.2.2.2.2.1,((List.getD aT (Int.toNat aF) en0).2.2.2.2.2.2.1,((List.getD aT (Int.toNat aF) en0).2.2.2.2.2.2.2.1,((List.getD aT (Int.toNat aF) en0).2.2.2.2.2.2.2.2.1,((List.getD aT (Int.toNat aF) en0).2.2.2.2.2.2.2.2.2.1,(List.getD aT (Int.toNat aF) en0).2.2.2.2.2.2.2.2.2.2))))))))))))then(cF aX aT)else(Pd (ac (aF+1)) aX aT))else(none))else(none))else(none))else(eS aX aT))
def jt:Nat→Int→Int→(List En)→(Int→(List En)→OR')→(Int→(List En)→OR')→OR'
 |0,_,_,_,_,_=>none
 |n+1,aF,aX,aT,cF,eS=>rZ aF aX aT (fun aF aX aT=>jt n aF aX aT cF eS) cF eS
abbrev sCOk_p4:SP:=⟨38,[1,3],[(.v (.ptr 128 0)),(.v (.i .i64))],[(128,.var [(.i .i64),(.sh EnT)])]⟩
noncomputable def Gs:Code:=aG (aI Tryz.f36) [1,1,0,1,0,0]
def Gt (f:(Int→(List En)→OR')→(Int→(List En)→OR')→OR') (k:KT):OR':=f (fun cq ko=>k Ex.ret ((St.mk (aE 0 38 [(1,(AV.ptr 128 0)),(2,(AV.bool false))]) ((128,(Ob.var ((AV.int .i64 cq)::((AV.sh EnT ko)::[]))))::([]:(List (Nat×(Ob)))))))) (fun bw bR=>k (Ex.exit 0) ((St.mk (aE 0 38 [(1,(AV.ptr 128 0))]) ((128,(Ob.var ((AV.int .i64 bw)::((AV.sh EnT bR)::[]))))::([]:(List (Nat×(Ob))))))))
def Gu (n:Nat) (d:sCOk_p4.D):KT→OR':=Gt (jt n d.1.2.1 d.2.1.1 d.2.1.2.1)
def J2 (N:Nat):Lam:=bD [⟨4,sCOk_p4,Gu N⟩]
theorem IR (N:Nat):OkL Kx sCOk_C.s J1 0 N (J2 N) Gs:=okL sCOk_p4 (Gu) (fun d kR=>Gt (rZ d.1.2.1 d.2.1.1 d.2.1.2.1 (fun aF aX aT=>kR (((),aF,()),((aX,aT,()),()))))) (fun _ _=>by kernel_rfl) (fun _ _ _=>by kernel_rfl) (fun _ _=>by kernel_rfl) (fun _ _ _ _=>by kernel_rfl) (ah (l':=[]) (by kernel_rfl) trivial)
def Az (N:Nat) (bu:Int) (l:List En):OR':=(bif(decide (bu<0))then(some ((AV.bool false),[]))else(bif(decide (20000<bu))then(some ((AV.bool false),[]))else(bif(decide (30< (l.length:Int)))then(some ((AV.bool false),[]))else(jt N 0 bu l (fun cq=>(fun ko=>(some ((AV.bool false),[])))) (fun bw=>(fun bR=>(bif(sg bR)then(some ((AV.bool (decide ((Av bR)≤bw))),[]))else(none))))))))
def AA (φ:Int→(List En)→Br):List AV→List Ob→Br
 | [.agg [.int .i64 bu,.sh EnT l]],[]=>φ bu l
 |_,_=>.fail
theorem Gv {φ:Int→(List En)→Br} (fu:Int→(List En)→Nat) (hv: ∀bu l res_,(φ bu l).val=some res_→Az (fu bu l) bu l=some res_):Sound Kx 36 (AA φ):=an (C:=sCOk_C) (O:=J1) Tryz.func36 (by kernel_rfl) fun args objs=>by
 unfold AA;split
 ·rename_i bu l;exact .inr fun _ hyp_=>aV (Λ:=J2 (fu bu l)) (by kernel_rfl) (ah (l':=[Gs]) (by kernel_rfl) ⟨IR _,trivial⟩) (by kernel_rfl) (hv bu l _ hyp_)
 ·exact .inl rfl
def Gw:SC:=[⟨35,_,vC⟩]
def CH (bu:Int) (l:List En) (left:Int):Br:=(Br.ite ((IO l)&&(b9 left)) (Br.ite (decide ((CV l left)<0)) (Br.ret (AV.int .i64 (-1)) []) (Br.ret (AV.int .i64 (CV l left)) [])) Br.fail)
def vG:List AV→List Ob→Br
 | [.agg [.int .i64 bu,.sh EnT l],.int .i64 left],[]=>CH bu l left
 |_,_=>.fail
theorem CI:Sound Kx 8 vG:=ae (C:=Gw) (O:=O0) Tryz.func8 (by kernel_rfl) fun args objs=>by
 unfold vG;split
 ·exact .inr (by kernel_rfl)
 ·exact .inl rfl
def Gx:SC:=[⟨38,_,vE⟩]
def CJ (bu:Int) (l:List En):Br:=(Br.ite (nR l) (Br.ret (AV.agg ((AV.int .i64 bu)::((AV.ref 0 0)::[]))) ((Ob.arr EnT 0 false l)::[])) Br.fail)
def vH:List AV→List Ob→Br
 | [.agg [.int .i64 bu,.sh EnT l]],[]=>CJ bu l
 |_,_=>.fail
theorem CK:Sound Kx 10 vH:=ae (C:=Gx) (O:=O0) Tryz.func10 (by kernel_rfl) fun args objs=>by
 unfold vH;split
 ·exact .inr (by kernel_rfl)
 ·exact .inl rfl
def Gy:SC:=[⟨41,_,vD⟩]
def CL (bu:Int) (l:List En) (bu':Int) (l':List En):Br:=(Br.ite (!(decide (bu=bu'))) (Br.ret (AV.bool false) []) (Br.ite ((fA l l')&&(nR l)) (Br.ret (AV.bool true) []) Br.fail))
def vI:List AV→List Ob→Br
 | [.agg [.int .i64 bu,.sh EnT l],.agg [.int .i64 bu',.sh EnT l']],[]=>CL bu l bu' l'
 |_,_=>.fail
theorem CM:Sound Kx 12 vI:=ae (C:=Gy) (O:=O0) Tryz.func12 (by kernel_rfl) fun args objs=>by
 unfold vI;split
 ·exact .inr (by kernel_rfl)
 ·exact .inl rfl
def dA (bu:Int) (l:List En):Bool:=decide (0≤bu)&&decide (bu≤20000)&&decide (l.length≤30)&&l.all qh&&decide (Av l≤bu)
theorem Gz (l:List En) (hl:l.length≤1048576) (bu:Int) (k0 k1:Int→List En→OR'): ∀(r:List En) (i:Int) (n:Nat),At l i r→r.length<n→(∀e∈r,e.1.length≤1048576)→
 js n l (l.length:Int) i bu l k0 k1=bif r.all qh then k1 bu l else k0 bu l:=by
 intro r;induction r with
 |nil=>intro i n h hn hm;obtain⟨n,rfl⟩:=bC hn;unfold js rY;simp only [h.dge,cond_false,List.all_nil,cond_true]
 |cons e r ih=>
  intro i n h hn hm;obtain⟨n,rfl⟩:=bC hn
  simp only [List.length_cons]at hn
  have hM:isM e.1=true:=bi (n:=1048576) (hm e (List.mem_cons_self ..))
  have hr:=ih (i+1) n h.step (by omega) (fun x hx=>hm x (List.mem_cons_of_mem _ hx))
  unfold js rY
  simp only [h.dlt,h.dnn,h.get,cond_true,h.next (show l.length≤4611686018427387904 by omega),hM,iH,hr,List.all_cons]
  cases qh e<;>rfl
theorem GA (l:List En) (hl:l.length≤1048576) (bu:Int) (k0 k1:Int→List En→OR'): ∀(r:List En) (i:Int) (n:Nat),At l i r→r.length<n→(∀e∈r,e.1.length≤1048576)→
 jt n i bu l k0 k1=bif r.all qh then k1 bu l else k0 bu l:=by
 intro r;induction r with
 |nil=>intro i n h hn hm;obtain⟨n,rfl⟩:=bC hn;unfold jt rZ;simp only [h.dge,cond_false,List.all_nil,cond_true]
 |cons e r ih=>
  intro i n h hn hm;obtain⟨n,rfl⟩:=bC hn
  simp only [List.length_cons]at hn
  have hM:isM e.1=true:=bi (n:=1048576) (hm e (List.mem_cons_self ..))
  have hr:=ih (i+1) n h.step (by omega) (fun x hx=>hm x (List.mem_cons_of_mem _ hx))
  unfold jt rZ
  simp only [h.dlt,h.dnn,h.get,cond_true,h.next (show l.length≤4611686018427387904 by omega),hM,iH,hr,List.all_cons]
  cases qh e<;>rfl
theorem IS:Sound Kx 39 (LI fun bu l=>.bool (dA bu l)):=by
 refine(Gr (φ:=fun bu l=>.ite (sg l) (.ret (.bool (dA bu l)) []) .fail) (fun _ l=>l.length+1) fun bu l r h=> ?_).of fun args objs r h=> ?_
 ·obtain⟨h1,h2⟩:=af h
  cases h2
  obtain⟨g1,g2⟩:=lh h1
  unfold Ax dA
  rw [Gz l g1 bu _ _ l 0 (l.length+1) (At.start l) (by omega) g2]
  by_cases c1:0≤bu
  ·rw [dT' c1]
   by_cases c2:bu≤20000
   ·rw [dT' c2]
    by_cases c3:l.length≤30
    ·rw [dT' c3,dF' (show ¬(30:Int)< (l.length:Int) by omega)]
     simp only [h1]
     cases l.all qh<;>rfl
    ·rw [dF' c3,dT' (show(30:Int)< (l.length:Int) by omega)];rfl
   ·rw [dF' c2];rfl
  ·rw [dF' c1];rfl
 ·unfold LI at h;split at h
  ·exact h
  ·cases h
theorem IT:Sound Kx 36 (LI fun bu l=>.bool (dA bu l)):=by
 refine(Gv (φ:=fun bu l=>.ite (sg l) (.ret (.bool (dA bu l)) []) .fail) (fun _ l=>l.length+1) fun bu l r h=> ?_).of fun args objs r h=> ?_
 ·obtain⟨h1,h2⟩:=af h
  cases h2
  obtain⟨g1,g2⟩:=lh h1
  unfold Az dA
  rw [GA l g1 bu _ _ l 0 (l.length+1) (At.start l) (by omega) g2]
  by_cases c1:0≤bu
  ·rw [dT' c1,dF' (show ¬bu<0 by omega)]
   by_cases c2:bu≤20000
   ·rw [dT' c2,dF' (show ¬20000<bu by omega)]
    by_cases c3:l.length≤30
    ·rw [dT' c3,dF' (show ¬(30:Int)< (l.length:Int) by omega)]
     simp only [h1]
     cases l.all qh<;>rfl
    ·rw [dF' c3,dT' (show(30:Int)< (l.length:Int) by omega)];rfl
   ·rw [dF' c2,dT' (show 20000<bu by omega)];rfl
  ·rw [dF' c1,dT' (show bu<0 by omega)];rfl
 ·unfold LI at h;split at h
  ·exact h
  ·cases h
end
end Go.Proofs.YtihabpimbfmhhaaGreatDoor.Ev
namespace Go.Proofs.YtihabpimbfmhhaaGreatDoor.Ev
open Go Go.RowKit
set_option linter.unusedVariables false
set_option linter.unusedSimpArgs false
abbrev GB:Ty:=.pair .str (.pair .str (.pair (.int .i64) (.pair .str (.pair .bool (.pair (.slice (.pair .str .str)) .str)))))
abbrev Lo:Ty:=.pair .str (.pair (.int .i64) (.pair (.int .i64) (.pair (.slice (.pair .str .str)) GB)))
theorem gY {s:aa} (h:s.length≤reachBytes):isM s=true:=bi h (by decide)
theorem vJ {fs:List Fd} (h:sT (.slice (.pair .str .str)) fs):smF fs=true:=by
 simp only [sT]at h
 unfold smF
 rw [dT' (Nat.le_trans h.1 (by decide)),Bool.true_and,List.all_eq_true]
 intro f hf
 obtain⟨h1,h2⟩:=h.2 f hf
 unfold NX
 rw [gY h1,gY h2];rfl
theorem GC {me ta re bo:aa} {st:Int} {ba:Bool} {fs:List Fd} (h:sT GB (me,ta,st,re,ba,fs,bo)):smM me ta re fs bo=true:=by
 simp only [GB,sT]at h
 obtain⟨h1,h2,_,h4,_,h6,h7⟩:=h
 unfold smM
 rw [gY h1,gY h2,gY h4,gY h7,vJ (by simp only [sT];exact h6)];rfl
theorem IU {e:En} (h:sT Lo e):smE e=true:=by
 obtain⟨ur,t1,t2,ak,me,ta,st,re,ba,fs,bo⟩:=e
 obtain⟨h1,_,_,h4,h5⟩:=h
 unfold smE
 rw [gY h1,vJ h4,GC h5];rfl
end Go.Proofs.YtihabpimbfmhhaaGreatDoor.Ev
namespace Go.Proofs.YtihabpimbfmhhaaGreatDoor.Ev
open Go Go.RowKit
set_option linter.unusedVariables false
set_option linter.unusedSimpArgs false
abbrev GD:Ty:=.pair (.int .i64) (.slice Lo)
theorem GE {l:List En} (h:sT (.slice Lo) l):IO l=true:=by
 obtain⟨h1,h2⟩:=h
 unfold IO
 rw [dT' (Nat.le_trans h1 (by decide)),Bool.true_and,List.all_eq_true]
 exact fun e he=>IU (h2 e he)
theorem AB: ∀(l:List En) (e:En),e∈l→enW e≤iI l
 | [],e,h=>by cases h
 |a::r,e,h=>by
  have h1:=Gl a
  have h2:=jr r
  rcases List.mem_cons.1 h with rfl|h
  ·simp only [iI];omega
  ·have:=AB r e h
   simp only [iI];omega
theorem nS (e:En):(e.1.length:Int)≤enW e∧(e.2.2.2.1.length:Int)≤enW e∧(e.2.2.2.2.2.2.2.2.2.1.length:Int)≤enW e:=by
 have h1:=eJ e.2.2.2.1
 have h2:=eJ e.2.2.2.2.2.2.2.2.2.1
 unfold enW EP
 omega
theorem CN {l:List En} (h: ¬CV l 1048576<0):nR l=true∧sg l=true:=by
 unfold CV at h
 cases hc:decide ((l.length:Int)+iI l≤1048576)
 ·rw [hc,cond_false]at h;omega
 ·have hc:=of_decide_eq_true hc
  have ht:=jr l
  have hl:l.length≤1048576:=by omega
  have hw: ∀e∈l,enW e≤1048576:=fun e he=>by have:=AB l e he;omega
  constructor
  ·unfold nR
   rw [dT' hl,Bool.true_and,List.all_eq_true]
   intro e he
   obtain⟨_,h2,h3⟩:=nS e
   have h0:=hw e he
   unfold shE
   rw [dT' (by omega),dT' (by omega)];rfl
  ·unfold sg
   rw [dT' hl,Bool.true_and,List.all_eq_true]
   intro e he
   obtain⟨h1,_,_⟩:=nS e
   have h0:=hw e he
   exact dT' (by omega)
end Go.Proofs.YtihabpimbfmhhaaGreatDoor.Ev
namespace Go.Proofs.YtihabpimbfmhhaaGreatDoor.Ev
open Go Go.RowKit
set_option linter.unusedVariables false
set_option linter.unusedSimpArgs false
noncomputable section
end
end Go.Proofs.YtihabpimbfmhhaaGreatDoor.Ev
namespace Go.Proofs.YtihabpimbfmhhaaGreatDoor.Ev
open Go Go.RowKit
set_option linter.unusedVariables false
set_option linter.unusedSimpArgs false
end Go.Proofs.YtihabpimbfmhhaaGreatDoor.Ev
