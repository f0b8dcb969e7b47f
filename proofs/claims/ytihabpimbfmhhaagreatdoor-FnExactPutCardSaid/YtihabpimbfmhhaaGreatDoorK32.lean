/- The texts Ud, Ue, Uf, Ug, Uh, Ui, Uj, Uk, Ul, Um, Un, Uo, Va, Vb, Opn, Vc, Vd, Ve, Vf, Vg, Vh, Xa, Xb, Xc, Xd, one behind the other. -/
import Derived.Test.YtihabpimbfmhhaaGreatDoorK27
import Derived.Test.YtihabpimbfmhhaaGreatDoorK29
import Derived.Test.YtihabpimbfmhhaaGreatDoorK31
import Derived.Test.YtihabpimbfmhhaaGreatDoorK13
import Derived.Test.YtihabpimbfmhhaaGreatDoorK26
import Derived.Test.YtihabpimbfmhhaaGreatDoorK23
import Derived.Test.YtihabpimbfmhhaaGreatDoorK25
namespace Go.Proofs.YtihabpimbfmhhaaGreatDoor.Ev
open Go Go.RowKit
set_option linter.unusedVariables false
set_option linter.unusedSimpArgs false
noncomputable section
def Ke:Opt:={live:=[(3,[0,3,4])],outs:=[(3,[2,3])]}
def iunes_C:SC:=[⟨341,_,Gz⟩,⟨333,_,J8⟩]
def nf (ai:aa) (al:Int) (ap:(List Int)) (U6:aa→Int→(List Int)→OR') (cI:(List Int)→OR'):OR':=
 (bif(decide (al< (ai.length:Int)))then(bif(decide (0≤al))then(bif(decide (al< (ai.length:Int)))then(bif(!(decide ((au ai al)=37)))then(bif(decide (0≤al))then(bif(decide (al< (ai.length:Int)))then(bif(decide (((ap.length+(List.length (List.set (List.replicate 1 (0:Int)) 0 (au ai al))))*1)≤140737488355328))then(U6 ai (ac (al+1)) (ap++(List.set (List.replicate 1 (0:Int)) 0 (au ai al))))else(none))else(none))else(none))else(bif(decide ((ai.length:Int)≤(ac (al+2))))then(bif(decide (0≤al))then(bif(decide (al< (ai.length:Int)))then(bif(decide (((ap.length+(List.length (List.set (List.replicate 1 (0:Int)) 0 (au ai al))))*1)≤140737488355328))then(U6 ai (ac (al+1)) (ap++(List.set (List.replicate 1 (0:Int)) 0 (au ai al))))else(none))else(none))else(none))else(bif(decide (0≤(ac (al+1))))then(bif(decide ((ac (al+1))< (ai.length:Int)))then(bif(decide ((cG (au ai (ac (al+1))))<0))then(bif(decide (0≤al))then(bif(decide (al< (ai.length:Int)))then(bif(decide (((ap.length+(List.length (List.set (List.replicate 1 (0:Int)) 0 (au ai al))))*1)≤140737488355328))then(U6 ai (ac (al+1)) (ap++(List.set (List.replicate 1 (0:Int)) 0 (au ai al))))else(none))else(none))else(none))else(bif(decide (0≤(ac (al+2))))then(bif(decide ((ac (al+2))< (ai.length:Int)))then(bif(decide ((cG (au ai (ac (al+2))))<0))then(bif(decide (0≤al))then(bif(decide (al< (ai.length:Int)))then(bif(decide (((ap.length+(List.length (List.set (List.replicate 1 (0:Int)) 0 (au ai al))))*1)≤140737488355328))then(U6 ai (ac (al+1)) (ap++(List.set (List.replicate 1 (0:Int)) 0 (au ai al))))else(none))else(none))else(none))else(bif(decide (0≤(ac (al+1))))then(bif(decide ((ac (al+1))< (ai.length:Int)))then(bif(decide (0≤(ac (al+2))))then(bif(decide ((ac (al+2))< (ai.length:Int)))then(bif(mF (wk8 (ac ((ac (16* (cG (au ai (ac (al+1))))))+(cG (au ai (ac (al+2))))))))then(bif(decide (((ap.length+(List.length (List.set (List.replicate 1 (0:Int)) 0 (wk8 (ac ((ac (16* (cG (au ai (ac (al+1))))))+(cG (au ai (ac (al+2))))))))))*1)≤140737488355328))then(U6 ai (ac ((ac (al+2))+1)) (ap++(List.set (List.replicate 1 (0:Int)) 0 (wk8 (ac ((ac (16* (cG (au ai (ac (al+1))))))+(cG (au ai (ac (al+2))))))))))else(none))else(bif(decide (0≤(Int.fdiv (wk8 (ac ((ac (16* (cG (au ai (ac (al+1))))))+(cG (au ai (ac (al+2))))))) 16)))then(bif(decide ((Int.fdiv (wk8 (ac ((ac (16* (cG (au ai (ac (al+1))))))+(cG (au ai (ac (al+2))))))) 16)<16))then(bif(decide (0≤(wkk .u8 (((BitVec.toNat ((BitVec.ofInt 8 (wk8 (ac ((ac (16* (cG (au ai (ac (al+1))))))+(cG (au ai (ac (al+2))))))))&&& (BitVec.ofInt 8 15))):Nat):Int))))then(bif(decide ((wkk .u8 (((BitVec.toNat ((BitVec.ofInt 8 (wk8 (ac ((ac (16* (cG (au ai (ac (al+1))))))+(cG (au ai (ac (al+2))))))))&&& (BitVec.ofInt 8 15))):Nat):Int))<16))then(bif(decide (((ap.length+(List.length (List.set (List.set (List.set (List.replicate 3 (0:Int)) 0 37) 1 (au ([48,49,50,51,52,53,54,55,56,57,65,66,67,68,69,70]:aa) (Int.fdiv (wk8 (ac ((ac (16* (cG (au ai (ac (al+1))))))+(cG (au ai (ac (al+2))))))) 16))) 2 (au ([48,49,50,51,52,53,54,55,56,57,65,66,67,68,69,70]:aa) (wkk .u8 (((BitVec.toNat ((BitVec.ofInt 8 (wk8 (ac ((ac (16* (cG (au ai (ac (al+1))))))+(cG (au ai (ac (al+2))))))))&&& (BitVec.ofInt 8 15))):Nat):Int))))))*1)≤140737488355328))then(U6 ai (ac ((ac (al+2))+1)) (ap++(List.set (List.set (List.set (List.replicate 3 (0:Int)) 0 37) 1 (au ([48,49,50,51,52,53,54,55,56,57,65,66,67,68,69,70]:aa) (Int.fdiv (wk8 (ac ((ac (16* (cG (au ai (ac (al+1))))))+(cG (au ai (ac (al+2))))))) 16))) 2 (au ([48,49,50,51,52,53,54,55,56,57,65,66,67,68,69,70]:aa) (wkk .u8 (((BitVec.toNat ((BitVec.ofInt 8 (wk8 (ac ((ac (16* (cG (au ai (ac (al+1))))))+(cG (au ai (ac (al+2))))))))&&& (BitVec.ofInt 8 15))):Nat):Int))))))else(none))else(none))else(none))else(none))else(none)))else(none))else(none))else(none))else(none)))else(none))else(none)))else(none))else(none))))else(none))else(none))else(cI ap))
def gT:Nat→aa→Int→(List Int)→((List Int)→OR')→OR'
 |0,_,_,_,_=>none
 |n+1,ai,al,ap,cI=>nf ai al ap (fun ai al ap=>gT n ai al ap cI) cI
abbrev iunes_p3:SP:=⟨77,[0,3,4],[(.v .s),(.v (.ref 256 0)),(.v (.i .i64))],[(256,.arr (Ty.int .u8) 0 false)]⟩
noncomputable def DZ:Code:=ax (aD Tryz.f288) [1,1,0,1,0,0]
def D0 (f:((List Int)→OR')→OR') (k:KT):OR':=f (fun aQ=>k (Ex.exit 0) ((St.mk (aw 0 77 [(3,(AV.ref 256 0))]) ((256,(Ob.arr (Ty.int .u8) 0 false aQ))::([]:(List (Nat×(Ob))))))))
def D1 (n:Nat) (d:iunes_p3.D):KT→OR':=D0 (gT n d.1.1 d.1.2.2.1 d.2.1)
def Kf (N:Nat):Lam:=bf [⟨3,iunes_p3,D1 N⟩]
theorem Kg (N:Nat):OkL Kx iunes_C.s Ke 0 N (Kf N) DZ:=okL iunes_p3 (D1) (fun d kR=>D0 (nf d.1.1 d.1.2.2.1 d.2.1 (fun ai al ap=>kR ((ai,(),al,()),(ap,()))))) (fun _ _=>by kernel_rfl) (fun _ _ _=>by kernel_rfl) (fun _ _=>by kernel_rfl) (fun _ _ _ _=>by kernel_rfl) (ah (l':=[]) (by kernel_rfl) trivial)
def ym (N:Nat) (s:aa):OR':=(gT N s 0 ([]:(List Int)) (fun aQ=>(some ((AV.str (bx aQ)),[]))))
def yn (φ:aa→Br):List AV→List Ob→Br
 | [.str s],[]=>φ s
 |_,_=>.fail
theorem GB {φ:aa→Br} (fu:aa→Nat) (hv: ∀s res_,(φ s).val=some res_→ym (fu s) s=some res_):Sound Kx 288 (yn φ):=aj (C:=iunes_C) (O:=Ke) Tryz.func288 (by kernel_rfl) fun args objs=>by
 unfold yn;split
 ·rename_i s;exact .inr fun _ hyp_=>aO (Λ:=Kf (fu s)) (by kernel_rfl) (ah (l':=[DZ]) (by kernel_rfl) ⟨Kg _,trivial⟩) (by kernel_rfl) (hv s _ hyp_)
 ·exact .inl rfl
def Kh:Opt:={live:=[(3,[0,3,4])],outs:=[(3,[2,3])]}
def sunes_C:SC:=[⟨327,_,yk⟩,⟨328,_,J9⟩,⟨329,_,GA⟩]
def ng (ai:aa) (al:Int) (ap:(List Int)) (U6:aa→Int→(List Int)→OR') (cI:(List Int)→OR'):OR':=
 (bif(decide (al< (ai.length:Int)))then(bif(decide (0≤al))then(bif(decide (al< (ai.length:Int)))then(bif(!(decide ((au ai al)=37)))then(bif(decide (0≤al))then(bif(decide (al< (ai.length:Int)))then(bif(decide (((ap.length+(List.length (List.set (List.replicate 1 (0:Int)) 0 (au ai al))))*1)≤140737488355328))then(U6 ai (ac (al+1)) (ap++(List.set (List.replicate 1 (0:Int)) 0 (au ai al))))else(none))else(none))else(none))else(bif(decide ((ai.length:Int)≤(ac (al+2))))then(bif(decide (0≤al))then(bif(decide (al< (ai.length:Int)))then(bif(decide (((ap.length+(List.length (List.set (List.replicate 1 (0:Int)) 0 (au ai al))))*1)≤140737488355328))then(U6 ai (ac (al+1)) (ap++(List.set (List.replicate 1 (0:Int)) 0 (au ai al))))else(none))else(none))else(none))else(bif(decide (0≤(ac (al+1))))then(bif(decide ((ac (al+1))≤(ac (al+3))))then(bif(decide ((ac (al+3))≤(ai.length:Int)))then(bif(!(eO (cut ai (ac (al+1)) (ac (al+3)))).2)then(bif(decide (0≤al))then(bif(decide (al< (ai.length:Int)))then(bif(decide (((ap.length+(List.length (List.set (List.replicate 1 (0:Int)) 0 (au ai al))))*1)≤140737488355328))then(U6 ai (ac (al+1)) (ap++(List.set (List.replicate 1 (0:Int)) 0 (au ai al))))else(none))else(none))else(none))else(bif((decide (0≤(wk8 (eO (cut ai (ac (al+1)) (ac (al+3)))).1)))&&(decide ((wk8 (eO (cut ai (ac (al+1)) (ac (al+3)))).1)<256)))then(bif(mF (wk8 (eO (cut ai (ac (al+1)) (ac (al+3)))).1))then(bif(decide (((ap.length+(List.length (List.set (List.replicate 1 (0:Int)) 0 (wk8 (eO (cut ai (ac (al+1)) (ac (al+3)))).1))))*1)≤140737488355328))then(U6 ai (ac ((ac (al+2))+1)) (ap++(List.set (List.replicate 1 (0:Int)) 0 (wk8 (eO (cut ai (ac (al+1)) (ac (al+3)))).1))))else(none))else(bif(decide (0≤(ac (al+1))))then(bif(decide ((ac (al+1))< (ai.length:Int)))then(bif(decide (0≤(ac (al+2))))then(bif(decide ((ac (al+2))< (ai.length:Int)))then(bif(decide (((ap.length+(List.length (List.set (List.set (List.set (List.replicate 3 (0:Int)) 0 37) 1 (upI (au ai (ac (al+1))))) 2 (upI (au ai (ac (al+2)))))))*1)≤140737488355328))then(U6 ai (ac ((ac (al+2))+1)) (ap++(List.set (List.set (List.set (List.replicate 3 (0:Int)) 0 37) 1 (upI (au ai (ac (al+1))))) 2 (upI (au ai (ac (al+2)))))))else(none))else(none))else(none))else(none))else(none)))else(none)))else(none))else(none))else(none))))else(none))else(none))else(cI ap))
def gU:Nat→aa→Int→(List Int)→((List Int)→OR')→OR'
 |0,_,_,_,_=>none
 |n+1,ai,al,ap,cI=>ng ai al ap (fun ai al ap=>gU n ai al ap cI) cI
abbrev sunes_p3:SP:=⟨75,[0,3,4],[(.v .s),(.v (.ref 256 0)),(.v (.i .i64))],[(256,.arr (Ty.int .u8) 0 false)]⟩
noncomputable def D2:Code:=ax (aD Tryz.f265) [1,1,0,1,0,0]
def D3 (f:((List Int)→OR')→OR') (k:KT):OR':=f (fun aQ=>k (Ex.exit 0) ((St.mk (aw 0 75 [(3,(AV.ref 256 0))]) ((256,(Ob.arr (Ty.int .u8) 0 false aQ))::([]:(List (Nat×(Ob))))))))
def D4 (n:Nat) (d:sunes_p3.D):KT→OR':=D3 (gU n d.1.1 d.1.2.2.1 d.2.1)
def Ki (N:Nat):Lam:=bf [⟨3,sunes_p3,D4 N⟩]
theorem Kj (N:Nat):OkL Kx sunes_C.s Kh 0 N (Ki N) D2:=okL sunes_p3 (D4) (fun d kR=>D3 (ng d.1.1 d.1.2.2.1 d.2.1 (fun ai al ap=>kR ((ai,(),al,()),(ap,()))))) (fun _ _=>by kernel_rfl) (fun _ _ _=>by kernel_rfl) (fun _ _=>by kernel_rfl) (fun _ _ _ _=>by kernel_rfl) (ah (l':=[]) (by kernel_rfl) trivial)
def yo (N:Nat) (s:aa):OR':=(gU N s 0 ([]:(List Int)) (fun aQ=>(some ((AV.str (bx aQ)),[]))))
def yp (φ:aa→Br):List AV→List Ob→Br
 | [.str s],[]=>φ s
 |_,_=>.fail
theorem GC {φ:aa→Br} (fu:aa→Nat) (hv: ∀s res_,(φ s).val=some res_→yo (fu s) s=some res_):Sound Kx 265 (yp φ):=aj (C:=sunes_C) (O:=Kh) Tryz.func265 (by kernel_rfl) fun args objs=>by
 unfold yp;split
 ·rename_i s;exact .inr fun _ hyp_=>aO (Λ:=Ki (fu s)) (by kernel_rfl) (ah (l':=[D2]) (by kernel_rfl) ⟨Kj _,trivial⟩) (by kernel_rfl) (hv s _ hyp_)
 ·exact .inl rfl
def yq:Opt:={live:=[(2,[0,1,5])],outs:=[(2,[4])]}
def allHost_C:SC:=[⟨342,_,J7⟩]
def gV (an:aa) (aq:Int) (U5:aa→Int→OR') (bK cA:OR'):OR':=
 (bif(decide (aq< (an.length:Int)))then(bif(decide (0≤aq))then(bif(decide (aq< (an.length:Int)))then(bif(!(hoB (au an aq)))then bK else(U5 an (ac (aq+1))))else(none))else(none))else cA)
def dL:Nat→aa→Int→(OR')→(OR')→OR'
 |0,_,_,_,_=>none
 |n+1,an,aq,bK,cA=>gV an aq (fun an aq=>dL n an aq bK cA) bK cA
abbrev allHost_p2:SP:=⟨18,[0,1,5],[(.v .s),(.v (.fn 342 [])),(.v (.i .i64))],[]⟩
noncomputable def sB:Code:=ax (aD Tryz.f191) [1,0,1,0,0]
def sC (f:(OR')→(OR')→OR') (k:KT):OR':=f (k Ex.ret ((St.mk (aw 0 18 [(4,(AV.bool false))]) ([]:(List (Nat×(Ob))))))) (k (Ex.exit 0) ((St.mk (aw 0 18 []) ([]:(List (Nat×(Ob)))))))
def sD (n:Nat) (d:allHost_p2.D):KT→OR':=sC (dL n d.1.1 d.1.2.2.1)
def yr (N:Nat):Lam:=bf [⟨2,allHost_p2,sD N⟩]
theorem Bh (N:Nat):OkL Kx allHost_C.s yq 0 N (yr N) sB:=okL allHost_p2 (sD) (fun d kR=>sC (gV d.1.1 d.1.2.2.1 (fun an aq=>kR ((an,(),aq,()),())))) (fun _ _=>by kernel_rfl) (fun _ _ _=>by kernel_rfl) (fun _ _=>by kernel_rfl) (fun _ _ _ _=>by kernel_rfl) (ah (l':=[]) (by kernel_rfl) trivial)
def py (N:Nat) (s:aa):OR':=(dL N s 0 (some ((AV.bool false),[])) (some ((AV.bool true),[])))
def i8 (φ:aa→Br):List AV→List Ob→Br
 | [.str s,.fn 342 []],[]=>φ s
 |_,_=>.fail
theorem yu {φ:aa→Br} (fu:aa→Nat) (hv: ∀s res_,(φ s).val=some res_→py (fu s) s=some res_):Sound Kx 191 (i8 φ):=aj (C:=allHost_C) (O:=yq) Tryz.func191 (by kernel_rfl) fun args objs=>by
 unfold i8;split
 ·rename_i s;exact .inr fun _ hyp_=>aO (Λ:=yr (fu s)) (by kernel_rfl) (ah (l':=[sB]) (by kernel_rfl) ⟨Bh _,trivial⟩) (by kernel_rfl) (hv s _ hyp_)
 ·exact .inl rfl
def Bi:Opt:={live:=[(10,[3,4,5]),(5,[3,4])],outs:=[(10,[2,3,4]),(5,[2])]}
def sHost_C:SC:=[⟨263,_,eD⟩,⟨264,_,sA⟩]
def jY (cf cP:Int) (cr:(List aa)) (PU:Int→Int→(List aa)→OR') (qW OE:Int→(List aa)→OR'):OR':=
 (bif(decide (0≤cf))then(bif(decide (cf< (cr.length:Int)))then(bif(decide (cP< ((List.length (List.getD cr (Int.toNat cf) ([]:aa))):Int)))then(bif(decide (0≤cf))then(bif(decide (cf< (cr.length:Int)))then(bif(decide (0≤cP))then(bif(decide (cP< ((List.length (List.getD cr (Int.toNat cf) ([]:aa))):Int)))then(bif(decide (97≤(au (List.getD cr (Int.toNat cf) ([]:aa)) cP)))then(bif(!(decide ((au (List.getD cr (Int.toNat cf) ([]:aa)) cP)≤122)))then(bif(!(bg (au (List.getD cr (Int.toNat cf) ([]:aa)) cP)))then(bif(!(decide ((au (List.getD cr (Int.toNat cf) ([]:aa)) cP)=45)))then(qW cf cr)else(PU cf (ac (cP+1)) cr))else(PU cf (ac (cP+1)) cr))else(PU cf (ac (cP+1)) cr))else(bif(!(bg (au (List.getD cr (Int.toNat cf) ([]:aa)) cP)))then(bif(!(decide ((au (List.getD cr (Int.toNat cf) ([]:aa)) cP)=45)))then(qW cf cr)else(PU cf (ac (cP+1)) cr))else(PU cf (ac (cP+1)) cr)))else(none))else(none))else(none))else(none))else(OE cf cr))else(none))else(none))
def eQ:Nat→Int→Int→(List aa)→(Int→(List aa)→OR')→(Int→(List aa)→OR')→OR'
 |0,_,_,_,_,_=>none
 |n+1,cf,cP,cr,qW,OE=>jY cf cP cr (fun cf cP cr=>eQ n cf cP cr qW OE) qW OE
abbrev sHost_p10:SP:=⟨59,[3,4,5],[(.v (.ref 256 0)),(.v (.i .i64)),(.v (.i .i64))],[(256,.arr Ty.str 0 false)]⟩
noncomputable def pz:Code:=ax (aD Tryz.f266) [1,1,1,0,1,0,0,1,0,0,1,1,0,0]
def yw (f:(Int→(List aa)→OR')→(Int→(List aa)→OR')→OR') (k:KT):OR':=f (fun qr qt=>k Ex.ret ((St.mk (aw 0 59 [(2,(AV.bool false)),(3,(AV.ref 256 0)),(4,(AV.int .i64 qr))]) ((256,(Ob.arr Ty.str 0 false qt))::([]:(List (Nat×(Ob)))))))) (fun BU BV=>k (Ex.exit 2) ((St.mk (aw 0 59 [(3,(AV.ref 256 0)),(4,(AV.int .i64 BU))]) ((256,(Ob.arr Ty.str 0 false BV))::([]:(List (Nat×(Ob))))))))
def yx (n:Nat) (d:sHost_p10.D):KT→OR':=yw (eQ n d.1.2.1 d.1.2.2.1 d.2.1)
def nh (N:Nat) (aI:Int) (aU:(List aa)) (U8:Int→(List aa)→OR') (cJ ku:OR'):OR':=
 (bif(decide (aI< (aU.length:Int)))then(bif(decide (0≤aI))then(bif(decide (aI< (aU.length:Int)))then(bif(decide ((List.getD aU (Int.toNat aI) ([]:aa))=([]:aa)))then cJ else(eQ N aI 0 aU (fun qr=>(fun qt=>cJ)) (fun BU=>(fun BV=>(U8 (ac (BU+1)) BV)))))else(none))else(none))else ku)
def gW (N:Nat):Nat→Int→(List aa)→(OR')→(OR')→OR'
 |0,_,_,_,_=>none
 |n+1,aI,aU,cJ,ku=>nh N aI aU (fun aI aU=>gW N n aI aU cJ ku) cJ ku
abbrev sHost_p5:SP:=⟨59,[3,4],[(.v (.ref 256 0)),(.v (.i .i64))],[(256,.arr Ty.str 0 false)]⟩
noncomputable def D5:Code:=ax (aD Tryz.f266) [1,1,1,0,1,0,0]
def D6 (f:(OR')→(OR')→OR') (k:KT):OR':=f (k Ex.ret ((St.mk (aw 0 59 [(2,(AV.bool false))]) ([]:(List (Nat×(Ob))))))) (k (Ex.exit 0) ((St.mk (aw 0 59 []) ([]:(List (Nat×(Ob)))))))
def D7 (N n:Nat) (d:sHost_p5.D):KT→OR':=D6 (gW N n d.1.2.1 d.2.1)
def Bj (N:Nat):Lam:=bf [⟨10,sHost_p10,yx N⟩,⟨5,sHost_p5,D7 N N⟩]
theorem sE (N:Nat):OkL Kx sHost_C.s Bi 0 N (Bj N) pz:=okL sHost_p10 (yx) (fun d kR=>yw (jY d.1.2.1 d.1.2.2.1 d.2.1 (fun cf cP cr=>kR (((),cf,cP,()),(cr,()))))) (fun _ _=>by kernel_rfl) (fun _ _ _=>by kernel_rfl) (fun _ _=>by kernel_rfl) (fun _ _ _ _=>by kernel_rfl) (ah (l':=[]) (by kernel_rfl) trivial)
theorem Kk (N:Nat):OkL Kx sHost_C.s Bi 0 N (Bj N) D5:=okL sHost_p5 (D7 N) (fun d kR=>D6 (nh N d.1.2.1 d.2.1 (fun aI aU=>kR (((),aI,()),(aU,()))))) (fun _ _=>by kernel_rfl) (fun _ _ _=>by kernel_rfl) (fun _ _=>by kernel_rfl) (fun _ _ _ _=>by kernel_rfl) (ah (l':=[pz]) (by kernel_rfl) ⟨sE _,trivial⟩)
def yy (N:Nat) (s:aa):OR':=(bif(decide ((s.length:Int)=0))then(some ((AV.bool false),[]))else(bif(decide (60< (s.length:Int)))then(some ((AV.bool false),[]))else(bif(decide (s.length≤1000000))then(gW N N 0 (f7 s 46) (some ((AV.bool false),[])) (some ((AV.bool true),[])))else(none))))
def yz (φ:aa→Br):List AV→List Ob→Br
 | [.str s],[]=>φ s
 |_,_=>.fail
theorem GD {φ:aa→Br} (fu:aa→Nat) (hv: ∀s res_,(φ s).val=some res_→yy (fu s) s=some res_):Sound Kx 266 (yz φ):=aj (C:=sHost_C) (O:=Bi) Tryz.func266 (by kernel_rfl) fun args objs=>by
 unfold yz;split
 ·rename_i s;exact .inr fun _ hyp_=>aO (Λ:=Bj (fu s)) (by kernel_rfl) (ah (l':=[D5,pz]) (by kernel_rfl) ⟨Kk _,sE _,trivial⟩) (by kernel_rfl) (hv s _ hyp_)
 ·exact .inl rfl
def QT:SC:=[⟨124,_,cm⟩,⟨196,_,Je⟩]
def u6 (n:Int):Br:=(Br.ite (decide (0≤n)) (Br.ite (!(decide (n≤999999999999999))) (Br.ret (AV.str ([]:aa)) []) (Br.ite (bD n) (Br.ret (AV.str (bO n)) []) Br.fail)) (Br.ret (AV.str ([]:aa)) []))
def Kl:List AV→List Ob→Br
 | [.int .i64 n],[]=>u6 n
 |_,_=>.fail
theorem iDecT_ok:Sound Kx 285 Kl:=ae (C:=QT) (O:=O0) Tryz.func285 (by kernel_rfl) fun args objs=>by
 unfold Kl;split
 ·exact .inr (by kernel_rfl)
 ·exact .inl rfl
def sG:Opt:={live:=[(5,[0,4,5])],outs:=[(5,[0,2,3,4])]}
def sReadDec_C:SC:=[⟨263,_,eD⟩,⟨185,_,A4⟩]
def fN (aI:aa) (aU aH:Int) (U8:aa→Int→Int→OR') (cJ ku:aa→Int→OR'):OR':=
 (bif(decide (aH< (aI.length:Int)))then(bif(decide (0≤aH))then(bif(decide (aH< (aI.length:Int)))then(bif(!(bg (au aI aH)))then(cJ aI aU)else(bif(decide (0≤aH))then(bif(decide (aH< (aI.length:Int)))then(U8 aI (ac ((ac (aU*10))+(ac (wk8 ((au aI aH)-48))))) (ac (aH+1)))else(none))else(none)))else(none))else(none))else(ku aI aU))
def da:Nat→aa→Int→Int→(aa→Int→OR')→(aa→Int→OR')→OR'
 |0,_,_,_,_,_=>none
 |n+1,aI,aU,aH,cJ,ku=>fN aI aU aH (fun aI aU aH=>da n aI aU aH cJ ku) cJ ku
abbrev sReadDec_p5:SP:=⟨38,[0,4,5],[(.v .s),(.v (.i .i64)),(.v (.i .i64))],[]⟩
noncomputable def pA:Code:=ax (aD Tryz.f204) [1,1,1,0,1,0,0]
def pB (f:(aa→Int→OR')→(aa→Int→OR')→OR') (k:KT):OR':=f (fun am b6=>k Ex.ret ((St.mk (aw 0 38 [(0,(AV.str am)),(2,(AV.int .i64 0)),(3,(AV.bool false)),(4,(AV.int .i64 b6))]) ([]:(List (Nat×(Ob))))))) (fun dW zS=>k (Ex.exit 0) ((St.mk (aw 0 38 [(0,(AV.str dW)),(4,(AV.int .i64 zS))]) ([]:(List (Nat×(Ob)))))))
def pC (n:Nat) (d:sReadDec_p5.D):KT→OR':=pB (da n d.1.1 d.1.2.1 d.1.2.2.1)
def sH (N:Nat):Lam:=bf [⟨5,sReadDec_p5,pC N⟩]
theorem yA (N:Nat):OkL Kx sReadDec_C.s sG 0 N (sH N) pA:=okL sReadDec_p5 (pC) (fun d kR=>pB (fN d.1.1 d.1.2.1 d.1.2.2.1 (fun aI aU aH=>kR ((aI,aU,aH,()),())))) (fun _ _=>by kernel_rfl) (fun _ _ _=>by kernel_rfl) (fun _ _=>by kernel_rfl) (fun _ _ _ _=>by kernel_rfl) (ah (l':=[]) (by kernel_rfl) trivial)
def l_ (N:Nat) (s:aa):OR':=(bif(decide ((s.length:Int)=0))then(some ((AV.tup ((AV.int .i64 0)::((AV.bool false)::[]))),[]))else(bif(decide (15< (s.length:Int)))then(some ((AV.tup ((AV.int .i64 0)::((AV.bool false)::[]))),[]))else(da N s 0 0 (fun am=>(fun b6=>(some ((AV.tup ((AV.int .i64 0)::((AV.bool false)::[]))),[])))) (fun dW=>(fun zS=>(bif(bD zS)then(bif(!(decide ((bO zS)=dW)))then(some ((AV.tup ((AV.int .i64 0)::((AV.bool false)::[]))),[]))else(some ((AV.tup ((AV.int .i64 zS)::((AV.bool true)::[]))),[])))else(none)))))))
def ma (φ:aa→Br):List AV→List Ob→Br
 | [.str s],[]=>φ s
 |_,_=>.fail
theorem u7 {φ:aa→Br} (fu:aa→Nat) (hv: ∀s res_,(φ s).val=some res_→l_ (fu s) s=some res_):Sound Kx 204 (ma φ):=aj (C:=sReadDec_C) (O:=sG) Tryz.func204 (by kernel_rfl) fun args objs=>by
 unfold ma;split
 ·rename_i s;exact .inr fun _ hyp_=>aO (Λ:=sH (fu s)) (by kernel_rfl) (ah (l':=[pA]) (by kernel_rfl) ⟨yA _,trivial⟩) (by kernel_rfl) (hv s _ hyp_)
 ·exact .inl rfl
theorem QU: ∀k:Fin 256,0≤cG (k.val:Int)→au J6 (cG (k.val:Int))=upI (k.val:Int):=by decide+kernel
theorem Pr (a:UInt8) (h:0≤cG (by8 a)):au J6 (cG (by8 a))=upI (by8 a):=QU ⟨a.toNat,a.toNat_lt⟩ h
theorem SJ: ∀k:Fin 256,0≤upI (k.val:Int)∧upI (k.val:Int)<256:=by decide+kernel
theorem SK (a:UInt8):0≤upI (by8 a)∧upI (by8 a)<256:=SJ ⟨a.toNat,a.toNat_lt⟩
theorem QV: ∀x y:Fin 16,IntKind.u8.wrap ((BitVec.ofInt 8 (16* (x.val:Int)+(y.val:Int))&&& BitVec.ofInt 8 15).toNat:Int)=(y.val:Int):=by decide+kernel
theorem QW (x y:Int) (hx:0≤x) (hx':x<16) (hy:0≤y) (hy':y<16):wkk .u8 ((BitVec.ofInt 8 (16*x+y)&&& BitVec.ofInt 8 15).toNat:Int)=y:=by
 have h:=QV ⟨x.toNat,by omega⟩ ⟨y.toNat,by omega⟩
 simp only at h
 rw [show((x.toNat:Nat):Int)=x by omega,show((y.toNat:Nat):Int)=y by omega]at h
 rw [nt];exact h
theorem pD (n:Int) (h0:0≤n) (h1:n<256):by8 (UInt8.ofNat n.toNat)=n:=by
 unfold by8;rw [UInt8.toNat_ofNat'];omega
theorem mb (c:UInt8) (r:aa):bytesOf (c::r)=by8 c::bytesOf r:=rfl
theorem pE (a b:aa):bytesOf (a++b)=bytesOf a++bytesOf b:=by simp [bytesOf]
theorem ni (c a b:UInt8) (r:aa):cQ (c::a::b::r)=bif pu c a b then sx a b++cQ r else c::cQ (a::b::r):=by rw [cQ]
theorem mc (a b:UInt8) (h0:0≤cz a b) (h1:cz a b<256):bytesOf (sx a b)=bif mF (cz a b)then [cz a b]else [37,upI (by8 a),upI (by8 b)]:=by
 have ha:=SK a
 have hb:=SK b
 unfold sx
 cases mF (cz a b)
 ·simp only [cond_false,mb,pD _ ha.1 ha.2,pD _ hb.1 hb.2];rfl
 ·simp only [cond_true,mb,pD _ h0 h1];rfl
theorem i_ {α:Type} {b:Bool} {x y:α} (h:b=true):(bif b then x else y)=x:=by rw [h];rfl
theorem UI (a b c:Int):List.set (List.set (List.set (List.replicate 3 (0:Int)) 0 a) 1 b) 2 c=[a,b,c]:=rfl
theorem Km:((48:UInt8)::((49:UInt8)::((50:UInt8)::((51:UInt8)::((52:UInt8)::((53:UInt8)::((54:UInt8)::((55:UInt8)::((56:UInt8)::((57:UInt8)::((65:UInt8)::((66:UInt8)::((67:UInt8)::((68:UInt8)::((69:UInt8)::((70:UInt8)::([]:(List UInt8))))))))))))))))))=J6:=rfl
theorem GE (s:aa) (hl:s.length≤1000000) (k:List Int→OR'): ∀(n:Nat) (r:aa) (i:Int) (out:List Int),At s i r→r.length<n→out.length+r.length≤s.length→
 gT n s i out k=k (out++bytesOf (cQ r)):=by
 intro n;induction n with
 |zero=>intro r i out h hn;omega
 |succ n ih=>
  intro r i out h hn ho
  cases r with
  |nil=>unfold gT nf;simp only [h.dge,cond_false,cQ];simp [bytesOf]
  |cons c r=>
   simp only [List.length_cons]at hn ho
   have hap:decide ((out.length+ [by8 c].length)*1≤140737488355328)=true:=dT' (by simp only [List.length_singleton];omega)
   have hi:=h.nn
   have hle:=h.le
   simp only [List.length_cons]at hle
   have w1:ac (i+1)=i+1:=w64 (by omega) (by omega)
   have w2:ac (i+2)=i+2:=w64 (by omega) (by omega)
   have hstep:=ih r (i+1) (out++[by8 c]) h.step (by omega) (by simp;omega)
   have hst':k (out++[by8 c]++bytesOf (cQ r))=k (out++by8 c::bytesOf (cQ r)):=by simp
   rw [hst']at hstep
   unfold gT nf
   simp only [h.dlt,h.dnn,h.str,cond_true,be,hap,w1,w2,hstep]
   cases c1:decide (by8 c=37)
   ·simp only [Bool.not_false,cond_true]
    have e: ∀a b,pu c a b=false:=fun a b=>by unfold pu;rw [c1];rfl
    cases r with
    |nil=>rfl
    |cons a r=>cases r with
     |nil=>rfl
     |cons b r=>rw [ni,e a b,cond_false];rfl
   ·simp only [Bool.not_true,cond_false]
    cases r with
    |nil=>
     rw [dT' (show(s.length:Int)≤i+2 by simp at hle;omega),cond_true];rfl
    |cons a r=>cases r with
     |nil=>
      rw [dT' (show(s.length:Int)≤i+2 by simp at hle;omega),cond_true];rfl
     |cons b r=>
      simp only [List.length_cons]at hle hn ho
      have h2:=h.step
      have h3:=h2.step
      have e2:i+1+1=i+2:=by omega
      rw [e2]at h3
      rw [dF' (show ¬(s.length:Int)≤i+2 by omega),cond_false,ni]
      simp only [h2.dlt,h2.dnn,h2.str,h3.dlt,h3.dnn,h3.str,cond_true]
      unfold pu
      rw [c1,Bool.true_and]
      have hxa:=pt (by8 a)
      have hxb:=pt (by8 b)
      cases c2:decide (cG (by8 a)<0)
      ·cases c3:decide (cG (by8 b)<0)
       ·have g2:=of_decide_eq_false c2
        have g3:=of_decide_eq_false c3
        have hp:wk8 (ac (ac (16*cG (by8 a))+cG (by8 b)))=cz a b:=by unfold cz;simp (disch:=omega) only [w8,w64]
        have p0:0≤cz a b:=by unfold cz;omega
        have p1:cz a b<256:=by unfold cz;omega
        have hd:(cz a b).fdiv 16=cG (by8 a):=by unfold cz;rw [Int.fdiv_eq_ediv_of_nonneg _ (by decide)];omega
        have hm:wkk .u8 ((BitVec.ofInt 8 (cz a b)&&& BitVec.ofInt 8 15).toNat:Int)=cG (by8 b):=QW _ _ (by omega) hxa (by omega) hxb
        have w3:ac (i+2+1)=i+3:=by rw [w64 (by omega) (by omega)];omega
        have ha3:decide ((out.length+ [37,upI (by8 a),upI (by8 b)].length)*1≤140737488355328)=true:=dT' (by simp only [List.length_cons,List.length_nil];omega)
        have ha1:decide ((out.length+ [cz a b].length)*1≤140737488355328)=true:=dT' (by simp only [List.length_cons,List.length_nil];omega)
        have q1:decide (0≤cG (by8 a))=true:=dT' (by omega)
        have q2:decide (cG (by8 a)<16)=true:=dT' hxa
        have q3:decide (0≤cG (by8 b))=true:=dT' (by omega)
        have q4:decide (cG (by8 b)<16)=true:=dT' hxb
        simp only [hp,hd,hm,Bool.not_false,Bool.and_self,cond_true,cond_false,pE,mc a b p0 p1,UI,Km,Pr a (by omega),Pr b (by omega),w3,be,ha3,ha1,q1,q2,q3,q4]
        have h4:=h3.step
        rw [show i+2+1=i+3 by omega]at h4
        cases mF (cz a b)
        ·have:=ih r (i+3) (out++[37,upI (by8 a),upI (by8 b)]) h4 (by omega) (by simp;omega)
         rw [cond_false,this,List.append_assoc];rfl
        ·have:=ih r (i+3) (out++[cz a b]) h4 (by omega) (by simp;omega)
         rw [cond_true,this,List.append_assoc];rfl
       ·simp only [Bool.not_false,Bool.not_true,Bool.and_false,cond_true,cond_false];rfl
      ·simp only [Bool.not_true,Bool.false_and,cond_true,cond_false];rfl
def NJ:List AV→List Ob→Br
 | [.str s],[]=>.ite (decide (s.length≤1000000)) (.ret (.str (cQ s)) []) .fail
 |_,_=>.fail
theorem Kn:Sound Kx 288 NJ:=by
 refine(GB (φ:=fun s=>.ite (decide (s.length≤1000000)) (.ret (.str (cQ s)) []) .fail) (fun s=>s.length+1) fun s r h=> ?_).of fun args objs r h=> ?_
 ·obtain⟨h1,h2⟩:=af h
  cases h2
  rw [decide_eq_true_eq]at h1
  unfold ym
  rw [GE s h1 _ _ s 0 [] (At.start s) (by omega) (by simp),List.nil_append,n8]
 ·unfold NJ at h;split at h
  ·exact h
  ·cases h
theorem Ko (a b:UInt8):eO [a,b]=bif !decide (cG (by8 a)<0)&& !decide (cG (by8 b)<0)then(cz a b,true)else(0,false):=by
 have e1:bb cV [a,b]=(!decide (cG (by8 a)<0)&& !decide (cG (by8 b)<0)):=by
  show(cV (by8 a)&&(cV (by8 b)&&true))=_
  rw [Bool.and_true];rfl
 have e2:Rj [a,b] 0=cz a b:=by
  show(0*16+cG (by8 a))*16+cG (by8 b)=_
  unfold cz;omega
 unfold eO
 rw [e1,e2];rfl
theorem GF (s:aa) (hl:s.length≤1000000) (k:List Int→OR'): ∀(n:Nat) (r:aa) (i:Int) (out:List Int),At s i r→r.length<n→out.length+r.length≤s.length→
 gU n s i out k=k (out++bytesOf (cQ r)):=by
 intro n;induction n with
 |zero=>intro r i out h hn;omega
 |succ n ih=>
  intro r i out h hn ho
  cases r with
  |nil=>unfold gU ng;simp only [h.dge,cond_false,cQ];simp [bytesOf]
  |cons c r=>
   simp only [List.length_cons]at hn ho
   have hap:decide ((out.length+ [by8 c].length)*1≤140737488355328)=true:=dT' (by simp only [List.length_singleton];omega)
   have hi:=h.nn
   have hle:=h.le
   simp only [List.length_cons]at hle
   have w1:ac (i+1)=i+1:=w64 (by omega) (by omega)
   have w2:ac (i+2)=i+2:=w64 (by omega) (by omega)
   have w3':ac (i+3)=i+3:=w64 (by omega) (by omega)
   have hstep:=ih r (i+1) (out++[by8 c]) h.step (by omega) (by simp;omega)
   have hst':k (out++[by8 c]++bytesOf (cQ r))=k (out++by8 c::bytesOf (cQ r)):=by simp
   rw [hst']at hstep
   unfold gU ng
   simp only [h.dlt,h.dnn,h.str,cond_true,be,hap,w1,w2,w3',hstep]
   cases c1:decide (by8 c=37)
   ·simp only [Bool.not_false,cond_true]
    have e: ∀a b,pu c a b=false:=fun a b=>by unfold pu;rw [c1];rfl
    cases r with
    |nil=>rfl
    |cons a r=>cases r with
     |nil=>rfl
     |cons b r=>rw [ni,e a b,cond_false];rfl
   ·simp only [Bool.not_true,cond_false]
    cases r with
    |nil=>
     rw [dT' (show(s.length:Int)≤i+2 by simp at hle;omega),cond_true];rfl
    |cons a r=>cases r with
     |nil=>
      rw [dT' (show(s.length:Int)≤i+2 by simp at hle;omega),cond_true];rfl
     |cons b r=>
      simp only [List.length_cons]at hle hn ho
      have h2:=h.step
      have h3:=h2.step
      have e2:i+1+1=i+2:=by omega
      rw [e2]at h3
      have hcut:cut s (i+1) (i+3)=[a,b]:=by
       obtain⟨p,hs,hp⟩:=h
       exact J3 (p:=p++[c]) (r:=r) (by rw [hs];simp) (by rw [hp];simp) (by simp;omega)
      rw [dF' (show ¬(s.length:Int)≤i+2 by omega),cond_false,ni]
      rw [dT' (show i+1≤i+3 by omega),dT' (show i+3≤(s.length:Int) by omega)]
      simp only [h2.dlt,h2.dnn,h2.str,h3.dlt,h3.dnn,h3.str,cond_true,hcut,Ko]
      unfold pu
      rw [c1,Bool.true_and]
      have hxa:=pt (by8 a)
      have hxb:=pt (by8 b)
      cases c2:decide (cG (by8 a)<0)
      ·cases c3:decide (cG (by8 b)<0)
       ·have g2:=of_decide_eq_false c2
        have g3:=of_decide_eq_false c3
        have p0:0≤cz a b:=by unfold cz;omega
        have p1:cz a b<256:=by unfold cz;omega
        have hp:wk8 (cz a b)=cz a b:=w8 p0 p1
        have w3:ac (i+2+1)=i+3:=by rw [w64 (by omega) (by omega)];omega
        have ha3:decide ((out.length+ [37,upI (by8 a),upI (by8 b)].length)*1≤140737488355328)=true:=dT' (by simp only [List.length_cons,List.length_nil];omega)
        have ha1:decide ((out.length+ [cz a b].length)*1≤140737488355328)=true:=dT' (by simp only [List.length_cons,List.length_nil];omega)
        simp only [Bool.not_false,Bool.and_self,cond_true,cond_false,Bool.not_true,hp,dT' p0,dT' p1,pE,mc a b p0 p1,UI,w3,be,ha3,ha1]
        have h4:=h3.step
        rw [show i+2+1=i+3 by omega]at h4
        cases mF (cz a b)
        ·have:=ih r (i+3) (out++[37,upI (by8 a),upI (by8 b)]) h4 (by omega) (by simp;omega)
         rw [cond_false]
         refine Eq.trans (i_ ha3) ?_
         rw [this,List.append_assoc];rfl
        ·have:=ih r (i+3) (out++[cz a b]) h4 (by omega) (by simp;omega)
         rw [cond_true,this,List.append_assoc];rfl
       ·simp only [Bool.not_false,Bool.not_true,Bool.and_false,cond_true,cond_false];rfl
      ·simp only [Bool.not_true,Bool.not_false,Bool.false_and,cond_true,cond_false];rfl
theorem Kp:Sound Kx 265 NJ:=by
 refine(GC (φ:=fun s=>.ite (decide (s.length≤1000000)) (.ret (.str (cQ s)) []) .fail) (fun s=>s.length+1) fun s r h=> ?_).of fun args objs r h=> ?_
 ·obtain⟨h1,h2⟩:=af h
  cases h2
  rw [decide_eq_true_eq]at h1
  unfold yo
  rw [GF s h1 _ _ s 0 [] (At.start s) (by omega) (by simp),List.nil_append,n8]
 ·unfold NJ at h;split at h
  ·exact h
  ·cases h
theorem yB (l:aa) (hl:l.length≤4611686018427387904) (k0 k1:OR'): ∀(r:aa) (i:Int) (n:Nat),At l i r→r.length<n→dL n l i k0 k1=bif bb hoB r then k1 else k0:=by
 intro r;induction r with
 |nil=>intro i n h hn;obtain⟨n,rfl⟩:=bh hn;unfold dL gV;simp only [h.dge,cond_false,bb,List.all_nil,cond_true]
 |cons a r ih=>
  intro i n h hn;obtain⟨n,rfl⟩:=bh hn
  have hs:=ih (i+1) n h.step (by simp at hn;omega)
  unfold dL gV;simp only [h.dlt,h.dnn,h.str,cond_true,h.next hl,hs,bb,List.all_cons]
  cases hoB (by8 a)<;>rfl
def Kq:=i8 fun s=>.ite (isM s) (.ret (.bool (bb hoB s)) []) .fail
theorem Bk:Sound Kx 191 Kq:=by
 refine yu (fun s=>s.length+1) fun s r h=> ?_
 obtain⟨h1,h2⟩:=af h
 unfold py
 rw [yB s (cv h1) _ _ s 0 _ (At.start s) (by omega),←h2]
 cases bb hoB s<;>rfl
def laB (n:Int):Bool:=fY n||bg n||decide (n=45)
theorem Bl (l:List aa) (j:Int) (r0:List aa) (w:aa) (hw:w.length≤1000000) (hj:At l j (w::r0)) (k0 k1:Int→List aa→OR'): ∀(r:aa) (i:Int) (n:Nat),At w i r→r.length<n→
 eQ n j i l k0 k1=bif bb laB r then k1 j l else k0 j l:=by
 intro r;induction r with
 |nil=>intro i n h hn;obtain⟨n,rfl⟩:=bh hn;unfold eQ jY;simp only [hj.dlt,hj.dnn,hj.get,cond_true,h.dge,cond_false];rfl
 |cons a r ih=>
  intro i n h hn;obtain⟨n,rfl⟩:=bh hn
  have hs:=ih (i+1) n h.step (by simp at hn;omega)
  have hall:bb laB (a::r)=(laB (by8 a)&&bb laB r):=rfl
  unfold eQ jY
  simp only [hj.dlt,hj.dnn,hj.get,cond_true,h.dlt,h.dnn,h.str,h.next (show w.length≤4611686018427387904 by omega),hs,hall]
  unfold laB fY
  cases decide (97≤by8 a)<;>cases decide (by8 a≤122)<;>cases bg (by8 a)<;>cases decide (by8 a=45)<;>rfl
theorem GG (N:Nat) (l:List aa) (hl:l.length≤1000000) (hN: ∀w∈l,w.length<N∧w.length≤1000000) (k0 k1:OR'): ∀(r:List aa) (j:Int) (n:Nat),At l j r→r.length<n→
 gW N n j l k0 k1=bif r.all (fun w=> !decide (w=[])&&bb laB w)then k1 else k0:=by
 intro r;induction r with
 |nil=>intro j n h hn;obtain⟨n,rfl⟩:=bh hn;unfold gW nh;simp only [h.dge,cond_false];rfl
 |cons w r ih=>
  intro j n h hn;obtain⟨n,rfl⟩:=bh hn
  have hs:=ih (j+1) n h.step (by simp at hn;omega)
  have hw:w∈l:=by obtain⟨p,rfl,_⟩:=h;simp
  unfold gW nh
  simp only [h.dlt,h.dnn,h.get,cond_true,List.all_cons]
  cases c:decide (w=[])
  ·rw [cond_false,Bl l j r w (hN w hw).2 h _ _ w 0 N (At.start w) (hN w hw).1]
   simp only [h.next (show l.length≤4611686018427387904 by omega),hs,Bool.not_false,Bool.true_and]
   cases bb laB w<;>rfl
  ·simp only [cond_true,Bool.not_true,Bool.false_and,cond_false]
theorem Bm (b:Int): ∀(r cur:aa) (w:aa),w∈ld b cur r→w.length≤cur.length+r.length
 | [],cur,w,h=>by
   have:w=cur:=by simpa [ld]using h
   subst this;simp
 |x::r,cur,w,h=>by
  rw [pp]at h
  cases c:decide (by8 x=b)
  ·rw [c,cond_false]at h
   have:=Bm b r _ w h
   simp at this⊢;omega
  ·rw [c,cond_true]at h
   rcases List.mem_cons.1 h with h|h
   ·subst h;simp
   ·have:=Bm b r _ w h
    simp at this⊢;omega
theorem D8 {α:Type} (p q:α→Bool): ∀l:List α,l.all (fun x=>p x&&q x)=(l.all p&&l.all q)
 | []=>rfl
 |a::l=>by simp only [List.all_cons];rw [D8 p q l];cases p a<;>cases q a<;>cases l.all p<;>rfl
theorem SL (l:List aa):(l.all fun w=> !decide (w=[]))= !inP l []:=by
 unfold inP
 induction l with
 |nil=>rfl
 |cons a l ih=>rw [List.all_cons,List.any_cons,ih];cases decide (a=[])<;>rfl
theorem GH {p q:Int→Bool} (h: ∀n,p n=q n) (s:aa):bb p s=bb q s:=by
 have:p=q:=funext h
 rw [this]
theorem NK (s:aa):((f7 s 46).all fun w=> !decide (w=[])&&bb laB w)=(bb hoB s&& !inP (f7 s 46) []):=by
 rw [D8,SL]
 have:=uW 46 laB s []
 rw [show(f7 s 46).all (fun s=>bb laB s)=(ld 46 [] s).all (fun s=>bb laB s)from rfl,this]
 rw [show bb laB []=true from rfl,Bool.true_and,GH (q:=hoB) (fun n=>by
  unfold laB hoB
  cases fY n<;>cases bg n<;>cases decide (n=45)<;>cases decide (n=46)<;>rfl),Bool.and_comm]
def UJ:List AV→List Ob→Br
 | [.str s],[]=>.ret (.bool (ii s)) []
 |_,_=>.fail
theorem Kr:Sound Kx 266 UJ:=by
 refine(GD (φ:=fun s=>.ret (.bool (ii s)) []) (fun s=>s.length+3) fun s r h=> ?_).of fun args objs r h=> ?_
 ·cases h
  unfold yy ii
  cases c1:decide ((s.length:Int)=0)
  ·have c1':=of_decide_eq_false c1
   cases c2:decide ((60:Int)< (s.length:Int))
   ·have c2':=of_decide_eq_false c2
    rw [dT' (show 1≤s.length by omega),dT' (show s.length≤60 by omega),dT' (show s.length≤1000000 by omega)]
    simp only [cond_false,cond_true,Bool.true_and]
    have hlen:=pr s 46
    rw [GG _ (f7 s 46) (by omega) (fun w hw=>by have:=Bm 46 s [] w hw;simp at this;omega) _ _ _ 0 _ (At.start _) (by omega),NK]
    cases bb hoB s&& !inP (f7 s 46) []<;>rfl
   ·have c2':=of_decide_eq_true c2
    rw [dF' (show ¬s.length≤60 by omega),Bool.and_false,Bool.false_and,Bool.false_and];rfl
  ·have c1':=of_decide_eq_true c1
   rw [dF' (show ¬1≤s.length by omega),Bool.false_and,Bool.false_and,Bool.false_and];rfl
 ·unfold UJ at h;split at h
  ·exact h
  ·cases h
def UK:List AV→List Ob→Br
 | [.int .i64 n],[]=>.ret (.str (bif bD n then bO n else [])) []
 |_,_=>.fail
theorem Ks:Sound Kx 285 UK:=iDecT_ok.of fun args objs r h=>by
 unfold UK at h
 split at h
 case h_2=>cases h
 rename_i n
 cases h
 show(u6 n).val=_
 unfold u6 bD
 cases decide (0≤n)<;>cases decide (n≤999999999999999)<;>rfl
theorem u9 (s:aa) (hl:s.length≤15) (k0 k1:aa→Int→OR') (K0:OR') (h0: ∀x,k0 s x=K0): ∀(r:aa) (v i:Int) (n:Nat),At s i r→r.length<n→0≤v→(v+1)*10^r.length≤1000000000000000→
 da n s v i k0 k1=bif bb bg r then k1 s (pm r v)else K0:=by
 intro r;induction r with
 |nil=>intro v i n h hn hv hb;obtain⟨n,rfl⟩:=bh hn;unfold da fN;simp only [h.dge,cond_false];rfl
 |cons a r ih=>
  intro v i n h hn hv hb;obtain⟨n,rfl⟩:=bh hn
  simp only [List.length_cons]at hn hb
  have hp:(1:Int)≤10^r.length:=by have h0:(0:Int)<10^r.length:=Int.pow_pos (by decide);omega
  have hb':((v+1)*10)*10^r.length≤1000000000000000:=by rw [Int.pow_succ,Int.mul_comm (10^r.length) 10,←Int.mul_assoc]at hb;exact hb
  have hv10:(v+1)*10≤1000000000000000:=Int.le_trans (by have:=Int.mul_le_mul_of_nonneg_left hp (show 0≤(v+1)*10 by omega);rwa [Int.mul_one]at this) hb'
  have hall:bb bg (a::r)=(bg (by8 a)&&bb bg r):=rfl
  have hN:pm (a::r) v=pm r (v*10+(by8 a-48)):=rfl
  unfold da fN
  simp only [h.dlt,h.dnn,h.str,cond_true,h.next (show s.length≤4611686018427387904 by omega),h0,hall,hN]
  cases c1:bg (by8 a)
  ·rfl
  ·have c1':=c1
   simp only [bg,Bool.and_eq_true,decide_eq_true_eq]at c1'
   have e:ac (ac (v*10)+ac (wk8 (by8 a-48)))=v*10+(by8 a-48):=by simp (disch:=omega) only [w8,w64]
   simp only [Bool.not_true,cond_false,Bool.true_and,e]
   exact ih _ (i+1) n h.step (by omega) (by omega) (Int.le_trans (Int.mul_le_mul_of_nonneg_right (show v*10+(by8 a-48)+1≤(v+1)*10 by omega) (by omega)) hb')
def UL:List AV→List Ob→Br
 | [.str s],[]=>.ret (.tup [.int .i64 (f6 s).1,.bool (f6 s).2]) []
 |_,_=>.fail
theorem yC:Sound Kx 204 UL:=by
 refine(u7 (φ:=fun s=>.ret (.tup [.int .i64 (f6 s).1,.bool (f6 s).2]) []) (fun s=>s.length+1) fun s r h=> ?_).of fun args objs r h=> ?_
 ·cases h
  unfold l_ f6
  cases c1:decide ((s.length:Int)=0)
  ·have c1':=of_decide_eq_false c1
   cases c2:decide ((15:Int)< (s.length:Int))
   ·have c2':=of_decide_eq_false c2
    simp only [cond_false]
    rw [u9 s (by omega) _ _ (some (AV.tup [AV.int .i64 0,AV.bool false],[])) (fun _=>rfl) s 0 0 _ (At.start s) (by omega) (by omega) ?_,dT' (show 1≤s.length by omega),dT' (show s.length≤15 by omega)]
    ·cases ha:bb bg s
     ·rfl
     ·have:=DV s ha (by omega)
      have h15:bD (pm s 0)=true:=by unfold bD;rw [dT' this.1,dT' this.2];rfl
      simp only [h15,cond_true,Bool.true_and]
      cases decide (bO (pm s 0)=s)<;>rfl
    ·have h3:(10:Nat)^s.length≤10^15:=Nat.pow_le_pow_right (by decide) (by omega)
     have e:(10:Int)^s.length=((10^s.length:Nat):Int):=by rw [Int.natCast_pow];rfl
     rw [e]
     have e2:(10:Nat)^15=1000000000000000:=by decide
     omega
   ·have c2':=of_decide_eq_true c2
    rw [dF' (show ¬s.length≤15 by omega),Bool.and_false,Bool.false_and,Bool.false_and];rfl
  ·have c1':=of_decide_eq_true c1
   rw [dF' (show ¬1≤s.length by omega),Bool.false_and,Bool.false_and,Bool.false_and];rfl
 ·unfold UL at h;split at h
  ·exact h
  ·cases h
def D9:Opt:={cons:=[49],live:=[(6,[3,4,29,30,31])],outs:=[(6,[2,3,4])]}
def iClean_C:SC:=[⟨230,_,Sg⟩,⟨191,_,gJ⟩,⟨286,_,Kd⟩,⟨288,_,Kn⟩,⟨287,_,yl⟩,⟨262,_,Dz⟩]
def jZ (iA kw:(List aa)) (qV et:Int) (ij:(List aa)) (Va:(List aa)→(List aa)→Int→Int→(List aa)→OR') (OD:(List aa)→(List aa)→OR'):OR':=
 (bif(decide (et<qV))then(bif(decide (0≤et))then(bif(decide (et< (kw.length:Int)))then(bif(decide ((List.getD kw (Int.toNat et) ([]:aa))=([46]:aa)))then(Va iA kw qV (ac (et+1)) ij)else(bif(decide ((List.getD kw (Int.toNat et) ([]:aa))=([46,46]:aa)))then(bif(decide (0≤(if(0< (ac ((ij.length:Int)-1)))then(ac ((ij.length:Int)-1))else 0)))then(bif(decide ((if(0< (ac ((ij.length:Int)-1)))then(ac ((ij.length:Int)-1))else 0)≤(ij.length:Int)))then(Va iA kw qV (ac (et+1)) (cut ij 0 (if(0< (ac ((ij.length:Int)-1)))then(ac ((ij.length:Int)-1))else 0)))else(none))else(none))else(bif(decide (((ij.length+(List.length (List.set (List.replicate 1 ([]:aa)) 0 (List.getD kw (Int.toNat et) ([]:aa)))))*16)≤140737488355328))then(Va iA kw qV (ac (et+1)) (ij++(List.set (List.replicate 1 ([]:aa)) 0 (List.getD kw (Int.toNat et) ([]:aa)))))else(none))))else(none))else(none))else(OD iA ij))
def eR:Nat→(List aa)→(List aa)→Int→Int→(List aa)→((List aa)→(List aa)→OR')→OR'
 |0,_,_,_,_,_,_=>none
 |n+1,iA,kw,qV,et,ij,OD=>jZ iA kw qV et ij (fun iA kw qV et ij=>eR n iA kw qV et ij OD) OD
abbrev iClean_p6:SP:=⟨69,[3,4,29,30,31],[(.v (.ref 256 0)),(.v (.sh Ty.str)),(.v (.sh Ty.str)),(.v (.i .i64)),(.v (.i .i64))],[(256,.arr Ty.str 0 false)]⟩
noncomputable def yD:Code:=ax (aD Tryz.f222) [1,1,1,1,0,1,0,0]
def yE (f:((List aa)→(List aa)→OR')→OR') (k:KT):OR':=f (fun eg cH=>k (Ex.exit 0) ((St.mk (aw 0 69 [(3,(AV.ref 256 0)),(4,(AV.sh Ty.str eg))]) ((256,(Ob.arr Ty.str 0 false cH))::([]:(List (Nat×(Ob))))))))
def yF (n:Nat) (d:iClean_p6.D):KT→OR':=yE (eR n d.1.2.1 d.1.2.2.1 d.1.2.2.2.1 d.1.2.2.2.2.1 d.2.1)
def D_ (N:Nat):Lam:=bf [⟨6,iClean_p6,yF N⟩]
theorem GI (N:Nat):OkL Kx iClean_C.s D9 0 N (D_ N) yD:=okL iClean_p6 (yF) (fun d kR=>yE (jZ d.1.2.1 d.1.2.2.1 d.1.2.2.2.1 d.1.2.2.2.2.1 d.2.1 (fun iA kw qV et ij=>kR (((),iA,kw,qV,et,()),(ij,()))))) (fun _ _=>by kernel_rfl) (fun _ _ _=>by kernel_rfl) (fun _ _=>by kernel_rfl) (fun _ _ _ _=>by kernel_rfl) (ah (l':=[]) (by kernel_rfl) trivial)
def sI (N:Nat) (p:aa):OR':=(bif(decide (1≤(p.length:Int)))then(bif(decide (1≤(p.length:Int)))then(bif(!(decide ((cut p 0 1)=([47]:aa))))then(some ((AV.str ([]:aa)),[]))else(bif(decide (200< (p.length:Int)))then(some ((AV.str ([]:aa)),[]))else(bif(isM p)then(bif(!(bb b8 p))then(some ((AV.str ([]:aa)),[]))else(bif((((decide (p.length≤1000000))&&true)&&(Mp p))&&true)then(bif(decide (0≤(lf p ([35,63]:aa))))then(some ((AV.str ([]:aa)),[]))else(bif(decide (p.length≤1000000))then(bif(decide (1≤((List.length (cQ p)):Int)))then(bif(decide ((List.length (cut (cQ p) 1 ((List.length (cQ p)):Int)))≤1000000))then(eR N (f7 (cut (cQ p) 1 ((List.length (cQ p)):Int)) 47) (f7 (cut (cQ p) 1 ((List.length (cQ p)):Int)) 47) ((List.length (f7 (cut (cQ p) 1 ((List.length (cQ p)):Int)) 47)):Int) 0 ([]:(List aa)) (fun eg=>(fun cH=>(bif(decide (0≤(ac ((eg.length:Int)-1))))then(bif(decide ((ac ((eg.length:Int)-1))< (eg.length:Int)))then(bif(decide ((List.getD eg (Int.toNat (ac ((eg.length:Int)-1))) ([]:aa))=([46]:aa)))then(bif(decide (((cH.length+1)*16)≤140737488355328))then(bif((decide ((List.length (cH++(List.set (List.replicate 1 ([]:aa)) 0 ([]:aa))))≤1000000))&&(decide ((List.length (dZ (cH++(List.set (List.replicate 1 ([]:aa)) 0 ([]:aa))) ([47]:aa)))≤1000000)))then(bif(decide ((1+(List.length (dZ (cH++(List.set (List.replicate 1 ([]:aa)) 0 ([]:aa))) ([47]:aa))))≤9223372036854775807))then(some ((AV.str (([47]:aa)++(dZ (cH++(List.set (List.replicate 1 ([]:aa)) 0 ([]:aa))) ([47]:aa)))),[]))else(none))else(none))else(none))else(bif(decide ((List.getD eg (Int.toNat (ac ((eg.length:Int)-1))) ([]:aa))=([46,46]:aa)))then(bif(decide (((cH.length+1)*16)≤140737488355328))then(bif((decide ((List.length (cH++(List.set (List.replicate 1 ([]:aa)) 0 ([]:aa))))≤1000000))&&(decide ((List.length (dZ (cH++(List.set (List.replicate 1 ([]:aa)) 0 ([]:aa))) ([47]:aa)))≤1000000)))then(bif(decide ((1+(List.length (dZ (cH++(List.set (List.replicate 1 ([]:aa)) 0 ([]:aa))) ([47]:aa))))≤9223372036854775807))then(some ((AV.str (([47]:aa)++(dZ (cH++(List.set (List.replicate 1 ([]:aa)) 0 ([]:aa))) ([47]:aa)))),[]))else(none))else(none))else(none))else(bif((decide (cH.length≤1000000))&&(decide ((List.length (dZ cH ([47]:aa)))≤1000000)))then(bif(decide ((1+(List.length (dZ cH ([47]:aa))))≤9223372036854775807))then(some ((AV.str (([47]:aa)++(dZ cH ([47]:aa)))),[]))else(none))else(none))))else(none))else(none)))))else(none))else(none))else(none)))else(none)))else(none))))else(none))else(some ((AV.str ([]:aa)),[])))
def sJ (φ:aa→Br):List AV→List Ob→Br
 | [.str p],[]=>φ p
 |_,_=>.fail
theorem Bn {φ:aa→Br} (fu:aa→Nat) (hv: ∀p res_,(φ p).val=some res_→sI (fu p) p=some res_):Sound Kx 222 (sJ φ):=aj (C:=iClean_C) (O:=D9) Tryz.func222 (by kernel_rfl) fun args objs=>by
 unfold sJ;split
 ·rename_i p;exact .inr fun _ hyp_=>aO (Λ:=D_ (fu p)) (by kernel_rfl) (ah (l':=[yD]) (by kernel_rfl) ⟨GI _,trivial⟩) (by kernel_rfl) (hv p _ hyp_)
 ·exact .inl rfl
def nj:Opt:={cons:=[80],live:=[(22,[5,8,9]),(11,[4,5,6]),(4,[0,3])],outs:=[(22,[2,8]),(11,[2,5]),(4,[0,2])]}
def sClean_C:SC:=[⟨183,_,mX⟩,⟨265,_,Kp⟩,⟨264,_,sA⟩]
def j0 (ar:aa) (aE:Int) (U9:aa→Int→OR') (bQ dm:aa→OR'):OR':=
 (bif(decide (aE< (ar.length:Int)))then(bif(decide (0≤aE))then(bif(decide (aE< (ar.length:Int)))then(bif(decide ((au ar aE)=35))then(bQ ar)else(bif(decide (0≤aE))then(bif(decide (aE< (ar.length:Int)))then(bif(decide ((au ar aE)=63))then(bQ ar)else(U9 ar (ac (aE+1))))else(none))else(none)))else(none))else(none))else(dm ar))
def eS:Nat→aa→Int→(aa→OR')→(aa→OR')→OR'
 |0,_,_,_,_=>none
 |n+1,ar,aE,bQ,dm=>j0 ar aE (fun ar aE=>eS n ar aE bQ dm) bQ dm
abbrev sClean_p4:SP:=⟨114,[0,3],[(.v .s),(.v (.i .i64))],[]⟩
noncomputable def yG:Code:=ax (aD Tryz.f205) [1,1,0,1,0,0]
def yH (f:(aa→OR')→(aa→OR')→OR') (k:KT):OR':=f (fun bN=>k Ex.ret ((St.mk (aw 0 114 [(0,(AV.str bN)),(2,(AV.str ([]:aa)))]) ([]:(List (Nat×(Ob))))))) (fun bE=>k (Ex.exit 0) ((St.mk (aw 0 114 [(0,(AV.str bE))]) ([]:(List (Nat×(Ob)))))))
def yI (n:Nat) (d:sClean_p4.D):KT→OR':=yH (eS n d.1.1 d.1.2.1)
def eT (bq:Int) (bF bG:(List aa)) (BW:Int→(List aa)→(List aa)→OR') (OF:(List aa)→OR'):OR':=
 (bif(decide (bq< (bF.length:Int)))then(bif(decide (0≤bq))then(bif(decide (bq< (bF.length:Int)))then(bif(decide ((List.getD bF (Int.toNat bq) ([]:aa))=([46]:aa)))then(bif(decide (0≤bq))then(bif(decide (bq< (bF.length:Int)))then(bif(decide ((List.getD bF (Int.toNat bq) ([]:aa))=([46,46]:aa)))then(bif(decide (0< (bG.length:Int)))then(bif(decide (0≤(ac ((bG.length:Int)-1))))then(bif(decide ((ac ((bG.length:Int)-1))≤(bG.length:Int)))then(bif(decide ((ac (bq+1))=(bF.length:Int)))then(bif(decide ((((List.length (cut bG 0 (ac ((bG.length:Int)-1))))+1)*16)≤140737488355328))then(BW (ac (bq+1)) bF ((cut bG 0 (ac ((bG.length:Int)-1)))++(List.set (List.replicate 1 ([]:aa)) 0 ([]:aa))))else(none))else(BW (ac (bq+1)) bF (cut bG 0 (ac ((bG.length:Int)-1)))))else(none))else(none))else(bif(decide ((ac (bq+1))=(bF.length:Int)))then(bif(decide (((bG.length+1)*16)≤140737488355328))then(BW (ac (bq+1)) bF (bG++(List.set (List.replicate 1 ([]:aa)) 0 ([]:aa))))else(none))else(BW (ac (bq+1)) bF bG)))else(bif(decide ((ac (bq+1))=(bF.length:Int)))then(bif(decide (((bG.length+1)*16)≤140737488355328))then(BW (ac (bq+1)) bF (bG++(List.set (List.replicate 1 ([]:aa)) 0 ([]:aa))))else(none))else(BW (ac (bq+1)) bF bG)))else(none))else(none))else(bif(decide (0≤bq))then(bif(decide (bq< (bF.length:Int)))then(bif(decide (0≤bq))then(bif(decide (bq< (bF.length:Int)))then(bif(decide ((List.getD bF (Int.toNat bq) ([]:aa))=([46,46]:aa)))then(bif(decide (0< (bG.length:Int)))then(bif(decide (0≤(ac ((bG.length:Int)-1))))then(bif(decide ((ac ((bG.length:Int)-1))≤(bG.length:Int)))then(bif(!(decide ((List.getD bF (Int.toNat bq) ([]:aa))=([46,46]:aa))))then(bif(decide (0≤bq))then(bif(decide (bq< (bF.length:Int)))then(bif(decide ((((List.length (cut bG 0 (ac ((bG.length:Int)-1))))+(List.length (List.set (List.replicate 1 ([]:aa)) 0 (List.getD bF (Int.toNat bq) ([]:aa)))))*16)≤140737488355328))then(BW (ac (bq+1)) bF ((cut bG 0 (ac ((bG.length:Int)-1)))++(List.set (List.replicate 1 ([]:aa)) 0 (List.getD bF (Int.toNat bq) ([]:aa)))))else(none))else(none))else(none))else(bif(decide ((ac (bq+1))=(bF.length:Int)))then(bif(decide ((((List.length (cut bG 0 (ac ((bG.length:Int)-1))))+1)*16)≤140737488355328))then(BW (ac (bq+1)) bF ((cut bG 0 (ac ((bG.length:Int)-1)))++(List.set (List.replicate 1 ([]:aa)) 0 ([]:aa))))else(none))else(BW (ac (bq+1)) bF (cut bG 0 (ac ((bG.length:Int)-1))))))else(none))else(none))else(bif(!(decide ((List.getD bF (Int.toNat bq) ([]:aa))=([46,46]:aa))))then(bif(decide (0≤bq))then(bif(decide (bq< (bF.length:Int)))then(bif(decide (((bG.length+(List.length (List.set (List.replicate 1 ([]:aa)) 0 (List.getD bF (Int.toNat bq) ([]:aa)))))*16)≤140737488355328))then(BW (ac (bq+1)) bF (bG++(List.set (List.replicate 1 ([]:aa)) 0 (List.getD bF (Int.toNat bq) ([]:aa)))))else(none))else(none))else(none))else(bif(decide ((ac (bq+1))=(bF.length:Int)))then(bif(decide (((bG.length+1)*16)≤140737488355328))then(BW (ac (bq+1)) bF (bG++(List.set (List.replicate 1 ([]:aa)) 0 ([]:aa))))else(none))else(BW (ac (bq+1)) bF bG))))else(bif(!(decide ((List.getD bF (Int.toNat bq) ([]:aa))=([46,46]:aa))))then(bif(decide (0≤bq))then(bif(decide (bq< (bF.length:Int)))then(bif(decide (((bG.length+(List.length (List.set (List.replicate 1 ([]:aa)) 0 (List.getD bF (Int.toNat bq) ([]:aa)))))*16)≤140737488355328))then(BW (ac (bq+1)) bF (bG++(List.set (List.replicate 1 ([]:aa)) 0 (List.getD bF (Int.toNat bq) ([]:aa)))))else(none))else(none))else(none))else(bif(decide ((ac (bq+1))=(bF.length:Int)))then(bif(decide (((bG.length+1)*16)≤140737488355328))then(BW (ac (bq+1)) bF (bG++(List.set (List.replicate 1 ([]:aa)) 0 ([]:aa))))else(none))else(BW (ac (bq+1)) bF bG))))else(none))else(none))else(none))else(none)))else(none))else(none))else(OF bG))
def b7:Nat→Int→(List aa)→(List aa)→((List aa)→OR')→OR'
 |0,_,_,_,_=>none
 |n+1,bq,bF,bG,OF=>eT bq bF bG (fun bq bF bG=>b7 n bq bF bG OF) OF
abbrev sClean_p11:SP:=⟨114,[4,5,6],[(.v (.ref 320 0)),(.v (.ref 384 0)),(.v (.i .i64))],[(320,.arr Ty.str 0 false),(384,.arr Ty.str 0 false)]⟩
noncomputable def sK:Code:=ax (aD Tryz.f205) [1,1,1,1,1,0,1,0,0]
def sL (f:((List aa)→OR')→OR') (k:KT):OR':=f (fun BX=>k (Ex.exit 2) ((St.mk (aw 0 114 [(5,(AV.ref 384 0))]) ((384,(Ob.arr Ty.str 0 false BX))::([]:(List (Nat×(Ob))))))))
def sM (n:Nat) (d:sClean_p11.D):KT→OR':=sL (b7 n d.1.2.2.1 d.2.1 d.2.2.1)
def gX (qX:aa) (mG:Int) (qu:(List aa)) (U4:aa→Int→(List aa)→OR') (OG:aa→OR'):OR':=
 (bif(decide (mG< (qu.length:Int)))then(bif(decide ((qX.length+1)≤9223372036854775807))then(bif(decide (0≤mG))then(bif(decide (mG< (qu.length:Int)))then(bif(decide (((List.length (qX++([47]:aa)))+(List.length (List.getD qu (Int.toNat mG) ([]:aa))))≤9223372036854775807))then(U4 ((qX++([47]:aa))++(List.getD qu (Int.toNat mG) ([]:aa))) (ac (mG+1)) qu)else(none))else(none))else(none))else(none))else(OG qX))
def dM:Nat→aa→Int→(List aa)→(aa→OR')→OR'
 |0,_,_,_,_=>none
 |n+1,qX,mG,qu,OG=>gX qX mG qu (fun qX mG qu=>dM n qX mG qu OG) OG
abbrev sClean_p22:SP:=⟨114,[5,8,9],[(.v (.ref 384 0)),(.v .s),(.v (.i .i64))],[(384,.arr Ty.str 0 false)]⟩
noncomputable def sO:Code:=ax (aD Tryz.f205) [1,1,1,1,1,1,1,0,1,0,0]
def sP (f:(aa→OR')→OR') (k:KT):OR':=f (fun vw=>k (Ex.exit 4) ((St.mk (aw 0 114 [(8,(AV.str vw))]) ([]:(List (Nat×(Ob)))))))
def sQ (n:Nat) (d:sClean_p22.D):KT→OR':=sP (dM n d.1.2.1 d.1.2.2.1 d.2.1)
def nk (N:Nat):Lam:=bf [⟨4,sClean_p4,yI N⟩,⟨11,sClean_p11,sM N⟩,⟨22,sClean_p22,sQ N⟩]
theorem GJ (N:Nat):OkL Kx sClean_C.s nj 0 N (nk N) yG:=okL sClean_p4 (yI) (fun d kR=>yH (j0 d.1.1 d.1.2.1 (fun ar aE=>kR ((ar,aE,()),())))) (fun _ _=>by kernel_rfl) (fun _ _ _=>by kernel_rfl) (fun _ _=>by kernel_rfl) (fun _ _ _ _=>by kernel_rfl) (ah (l':=[]) (by kernel_rfl) trivial)
theorem Bo (N:Nat):OkL Kx sClean_C.s nj 0 N (nk N) sK:=okL sClean_p11 (sM) (fun d kR=>sL (eT d.1.2.2.1 d.2.1 d.2.2.1 (fun bq bF bG=>kR (((),(),bq,()),(bF,bG,()))))) (fun _ _=>by kernel_rfl) (fun _ _ _=>by kernel_rfl) (fun _ _=>by kernel_rfl) (fun _ _ _ _=>by kernel_rfl) (ah (l':=[]) (by kernel_rfl) trivial)
theorem Bp (N:Nat):OkL Kx sClean_C.s nj 0 N (nk N) sO:=okL sClean_p22 (sQ) (fun d kR=>sP (gX d.1.2.1 d.1.2.2.1 d.2.1 (fun qX mG qu=>kR (((),qX,mG,()),(qu,()))))) (fun _ _=>by kernel_rfl) (fun _ _ _=>by kernel_rfl) (fun _ _=>by kernel_rfl) (fun _ _ _ _=>by kernel_rfl) (ah (l':=[]) (by kernel_rfl) trivial)
def sR (N:Nat) (p:aa):OR':=(bif(decide ((p.length:Int)=0))then(some ((AV.str ([]:aa)),[]))else(bif(decide (200< (p.length:Int)))then(some ((AV.str ([]:aa)),[]))else(bif(decide (0< (p.length:Int)))then(bif(!(decide ((au p 0)=47)))then(some ((AV.str ([]:aa)),[]))else(bif(isM p)then(bif(!((bb b8 p)&&(decide (0< (p.length:Int)))))then(some ((AV.str ([]:aa)),[]))else(eS N p 0 (fun bN=>(some ((AV.str ([]:aa)),[]))) (fun bE=>(bif(decide (bE.length≤1000000))then(bif(decide (1≤((List.length (cQ bE)):Int)))then(bif(decide ((List.length (cut (cQ bE) 1 ((List.length (cQ bE)):Int)))≤1000000))then(b7 N 0 (f7 (cut (cQ bE) 1 ((List.length (cQ bE)):Int)) 47) ([]:(List aa)) (fun BX=>(dM N ([]:aa) 0 BX (fun vw=>(bif(decide (vw=([]:aa)))then(some ((AV.str ([47]:aa)),[]))else(some ((AV.str vw),[])))))))else(none))else(none))else(none)))))else(none)))else(none))))
def sS (φ:aa→Br):List AV→List Ob→Br
 | [.str p],[]=>φ p
 |_,_=>.fail
theorem Bq {φ:aa→Br} (fu:aa→Nat) (hv: ∀p res_,(φ p).val=some res_→sR (fu p) p=some res_):Sound Kx 205 (sS φ):=aj (C:=sClean_C) (O:=nj) Tryz.func205 (by kernel_rfl) fun args objs=>by
 unfold sS;split
 ·rename_i p;exact .inr fun _ hyp_=>aO (Λ:=nk (fu p)) (by kernel_rfl) (ah (l':=[yG,sK,sO]) (by kernel_rfl) ⟨GJ _,Bo _,Bp _,trivial⟩) (by kernel_rfl) (hv p _ hyp_)
 ·exact .inl rfl
def QX:SC:=[⟨124,_,cm⟩,⟨191,_,Bk⟩,⟨287,_,yl⟩,⟨162,_,ND⟩]
def u_ (s:aa):Br:=(Br.ite (decide (1≤(s.length:Int))) (Br.ite (!(decide ((s.length:Int)≤60))) (Br.ret (AV.bool false) []) (Br.ite (isM s) (Br.ite (!(bb hoB s)) (Br.ret (AV.bool false) []) (Br.ite (decide (s.length≤1000000)) (Br.ite (decide ((List.length (f7 s 46))≤1000000)) (Br.ret (AV.bool (!(inP (f7 s 46) ([]:aa)))) []) Br.fail) Br.fail)) Br.fail)) (Br.ret (AV.bool false) []))
def Kt:List AV→List Ob→Br
 | [.str s],[]=>u_ s
 |_,_=>.fail
theorem iHost_ok:Sound Kx 289 Kt:=ae (C:=QX) (O:=O0) Tryz.func289 (by kernel_rfl) fun args objs=>by
 unfold Kt;split
 ·exact .inr (by kernel_rfl)
 ·exact .inl rfl
def GK:SC:=[⟨284,_,NI⟩,⟨124,_,cm⟩,⟨285,_,Ks⟩]
def ja (s:aa):Br:=(Br.ite (decide (s.length≤1000000)) (Br.ite (eN s) (Br.ite (decide (0≤(dq s))) (Br.ite (!(decide ((dq s)≤999999999999999))) (Br.ret (AV.tup ((AV.int .i64 0)::((AV.bool false)::[]))) []) (Br.ite (!(decide ((bif(bD (dq s))then(bO (dq s))else([]:aa))=s))) (Br.ret (AV.tup ((AV.int .i64 0)::((AV.bool false)::[]))) []) (Br.ret (AV.tup ((AV.int .i64 (dq s))::((AV.bool true)::[]))) []))) (Br.ret (AV.tup ((AV.int .i64 0)::((AV.bool false)::[]))) [])) (Br.ret (AV.tup ((AV.int .i64 0)::((AV.bool false)::[]))) [])) Br.fail)
def sT:List AV→List Ob→Br
 | [.str s],[]=>ja s
 |_,_=>.fail
theorem iReadDec_ok:Sound Kx 221 sT:=ae (C:=GK) (O:=O0) Tryz.func221 (by kernel_rfl) fun args objs=>by
 unfold sT;split
 ·exact .inr (by kernel_rfl)
 ·exact .inl rfl
def bi:List aa→aa
 | []=>[]
 |w::r=>47::(w++bi r)
theorem GL (w:aa) (r:List aa):bi (w::r)=47::(w++bi r):=rfl
theorem Uk {a b:Bool} (h:a=true) (k:b=true):(a&&b)=true:=by rw [h,k];rfl
theorem GM (l:List aa):Lib.joinTail [47] l=bi l:=by
 induction l with
 |nil=>rfl
 |cons w r ih=>
  unfold bi
  rw [←ih]
  simp [Lib.joinTail]
theorem sU (l:List aa):47::dZ l [47]=bif decide (bi l=[])then [47]else bi l:=by
 cases l with
 |nil=>rfl
 |cons w r=>
  unfold dZ
  rw [Lib.join_cons,GM,GL,dF' (by simp)];rfl
theorem pF (a b:List aa):bi (a++b)=bi a++bi b:=by
 induction a with
 |nil=>rfl
 |cons w a ih=>simp only [List.cons_append,bi,ih];simp
theorem yJ (l:List aa):l.length≤(bi l).length:=by
 induction l with
 |nil=>exact Nat.le_refl _
 |cons w r ih=>simp only [bi,List.length_cons,List.length_append];omega
theorem pG (b:Int): ∀(r cur:aa),(bi (ld b cur r)).length=cur.length+r.length+1
 | [],cur=>by simp [ld,bi]
 |x::r,cur=>by
  rw [pp]
  cases decide (by8 x=b)
  ·rw [cond_false,pG b r];simp;try omega
  ·rw [cond_true];simp only [bi,List.length_cons,List.length_append,pG b r];simp;try omega
theorem GN (l:List aa):(bi l.dropLast).length≤(bi l).length:=by
 cases h:l.reverse with
 |nil=>have:l=[]:=by simpa using h
       subst this;exact Nat.le_refl _
 |cons w r=>
  have e:l=r.reverse++[w]:=by rw [←List.reverse_reverse l,h];simp
  rw [e,List.dropLast_concat,pF];simp
theorem GO (out:List aa) (w:aa):(bi (dD out w)).length≤(bi out).length+w.length+1:=by
 unfold dD
 cases decide (w=[46])
 ·cases decide (w=[46,46])
  ·simp only [cond_false,pF,List.length_append,bi,List.length_cons];simp;omega
  ·have:=GN out;simp only [cond_true,cond_false];omega
 ·rw [cond_true];omega
theorem lg: ∀(l out:List aa),(bi (l.foldl dD out)).length≤(bi out).length+(bi l).length
 | [],out=>by simp
 |w::l,out=>by
  have h1:=GO out w
  have h2:=lg l (dD out w)
  simp only [List.foldl_cons,bi,List.length_cons,List.length_append];omega
theorem lh (l:List aa):(bi (i6 l)).length≤(bi l).length+1:=by
 unfold i6
 have:=lg l []
 rw [pF]
 cases Be (l.getLastD [])
 ·simp [bi]at this⊢;omega
 ·simp [bi]at this⊢;omega
theorem Ea (l:List aa): ∀out:List aa,(l.foldl dD out).length≤out.length+l.length:=by
 induction l with
 |nil=>intro out;simp
 |cons w l ih=>intro out;have:=ih (dD out w);have:=px out w;simp only [List.foldl_cons,List.length_cons];omega
theorem Eb (l:List aa):(dZ l [47]).length≤(bi l).length:=by
 have:=congrArg List.length (sU l)
 simp only [List.length_cons]at this
 cases h:decide (bi l=[])
 ·rw [h,cond_false]at this;omega
 ·rw [h,cond_true]at this;simp only [List.length_cons,List.length_nil]at this;omega
theorem Ec (l:List aa) (v:Int) (h:v=((l.length-1:Nat):Int)):cut l 0 v=l.dropLast:=by
 subst h
 unfold cut
 rw [Int.toNat_natCast]
 simp [List.dropLast_eq_take]
theorem yK: ∀(l:List aa),l≠ []→l.getD (l.length-1) []=l.getLastD []
 | [],h=>absurd rfl h
 | [w],_=>rfl
 |w::x::r,_=>by
  have ih:=yK (x::r) (by simp)
  simp only [List.length_cons,Nat.add_sub_cancel]at ih⊢
  rw [List.getD_cons_succ,ih]
  rfl
theorem Bs (l0 l:List aa) (hl:l.length≤1000000) (k:List aa→List aa→OR'): ∀(r:List aa) (i:Int) (out:List aa) (n:Nat),At l i r→r.length<n→out.length+r.length≤1000000→
 eR n l0 l (l.length:Int) i out k=k l0 (r.foldl dD out):=by
 intro r;induction r with
 |nil=>intro i out n h hn ho;obtain⟨n,rfl⟩:=bh hn;unfold eR jZ;simp only [h.dge,cond_false];rfl
 |cons w r ih=>
  intro i out n h hn ho;obtain⟨n,rfl⟩:=bh hn
  simp only [List.length_cons]at hn ho
  have hs:=px out w
  have hr:=ih (i+1) (dD out w) n h.step (by omega) (by omega)
  have hap:decide ((out.length+ [w].length)*16≤140737488355328)=true:=dT' (by simp only [List.length_singleton];omega)
  have hv:(if(0:Int)<ac ((out.length:Int)-1)then ac ((out.length:Int)-1)else 0)=((out.length-1:Nat):Int):=by
   rw [w64 (by omega) (by omega)]
   split<;>omega
  have q1:decide ((0:Int)≤((out.length-1:Nat):Int))=true:=dT' (by omega)
  have q2:decide (((out.length-1:Nat):Int)≤(out.length:Int))=true:=dT' (by omega)
  unfold eR jZ
  simp only [h.dlt,h.dnn,h.get,cond_true,h.next (show l.length≤4611686018427387904 by omega),be,hap,hv,q1,q2,Ec out _ rfl]
  simp only [List.foldl_cons]
  unfold dD at hr⊢
  cases c1:decide (w=[46])
  ·cases c2:decide (w=[46,46])
   ·rw [c1,c2]at hr;exact hr
   ·rw [c1,c2]at hr;exact hr
  ·rw [c1]at hr;exact hr
theorem gY (c:UInt8) (r:aa) (h:c≠47):aS (c::r)=[]:=by
 unfold aS
 split
 ·rename_i e;injection e with e1 e2;exact absurd e1 h
 ·rfl
theorem j5 (r:aa):aS (47::r)=bif l8 (47::r)then 47::dZ (i6 (f7 (cQ r) 47)) [47]else []:=rfl
theorem Ku (s:aa) (h:bb b8 s=true):Mp s=true:=by
 unfold Mp bb at *
 rw [List.all_eq_true]at *
 intro c hc
 have:=h c hc
 simp only [b8,Bool.and_eq_true,decide_eq_true_eq]at this
 exact dT' (by omega)
theorem NL (s:aa) (a b:UInt8):decide (0≤lf s [a,b])=(cS s (by8 a)||cS s (by8 b)):=by
 rw [i7]
 cases cS s (by8 a)||cS s (by8 b)
 ·rfl
 ·rw [cond_true];exact dT' (by omega)
theorem Bt (r:aa) (h:r.length≤200):(f7 (cQ r) 47).length≤201∧(bi (f7 (cQ r) 47)).length≤201:=by
 have h1:=jX r
 have h2:=pr (cQ r) 47
 have h3:=pG 47 (cQ r) []
 unfold f7 at h2⊢
 simp only [List.length_nil]at h3
 omega
theorem sV:Sound Kx 222 (mC fun s=>.str (aS s)):=by
 refine(Bn (φ:=fun s=>.ite (isM s) (.ret (.str (aS s)) []) .fail) (fun s=>s.length+3) fun p r h=> ?_).of fun args objs r h=> ?_
 ·obtain⟨hM,h2⟩:=af h
  cases h2
  unfold sI
  cases p with
  |nil=>rfl
  |cons c r=>
   have e1:decide ((1:Int)≤((c::r).length:Int))=true:=dT' (by simp only [List.length_cons];omega)
   have e2:cut (c::r) 0 1=[c]:=rfl
   simp only [e1,cond_true,e2]
   by_cases hc:c=47
   ·subst hc
    rw [j5]
    unfold l8
    simp only [decide_true,Bool.not_true,cond_false,hM,cond_true]
    cases d1:decide ((200:Int)< ((47::r:aa).length:Int))
    ·have d1':=of_decide_eq_false d1
     simp only [List.length_cons]at d1'
     rw [dT' (show(47::r:aa).length≤200 by simp only [List.length_cons];omega)]
     simp only [cond_false,Bool.true_and]
     cases d2:bb b8 (47::r)
     ·rfl
     have a1:=Ku _ d2
     have m1:decide ((47::r:aa).length≤1000000)=true:=dT' (by simp only [List.length_cons];omega)
     simp only [Bool.not_true,cond_false,Bool.true_and,Bool.and_true,a1,m1,cond_true,NL]
     rw [show by8 35=35 from rfl,show by8 63=63 from rfl]
     cases d3:cS (47::r) 35
     ·cases d4:cS (47::r) 63
      ·simp only [Bool.or_false,cond_false,Bool.not_false,Bool.and_self,cond_true,sy]
       have hcut:cut (47::cQ r) 1 ((47::cQ r).length:Int)=cQ r:=by
        exact J3 (p:=[47]) (r:=[]) (by simp) rfl (by simp only [List.length_cons];omega)
       have hb:=Bt r (by omega)
       have hp:=jX r
       rw [hcut]
       have n1:decide ((1:Int)≤((47::cQ r).length:Int))=true:=dT' (by simp only [List.length_cons];omega)
       have n2:decide ((cQ r).length≤1000000)=true:=dT' (by omega)
       rw [n1,n2]
       simp only [cond_true]
       generalize hL:f7 (cQ r) 47=L at hb
       have hne:L≠ []:=by rw [←hL];exact J5 47 _ _
       rw [Bs L L (by omega) _ L 0 [] _ (At.start L) (by have:=pr (cQ r) 47;rw [hL]at this;simp only [List.length_cons];omega) (by simp;omega)]
       have hlen:1≤L.length:=List.length_pos_iff.2 hne
       have w1:ac ((L.length:Int)-1)=(L.length:Int)-1:=w64 (by omega) (by omega)
       have t1:((L.length:Int)-1).toNat=L.length-1:=by omega
       have g1:=lh L
       have g2:=Eb (i6 L)
       have g3:=yJ (i6 L)
       have g4:=lg L []
       have g5:=Ea L []
       have q1:decide ((0:Int)≤(L.length:Int)-1)=true:=dT' (by omega)
       have q2:decide ((L.length:Int)-1< (L.length:Int))=true:=dT' (by omega)
       have q3:decide (((L.foldl dD []).length+1)*16≤140737488355328)=true:=dT' (by simp at g5;omega)
       simp only [w1,t1,q1,q2,q3,cond_true,yK L hne,be]
       have hsd:Be (L.getLastD [])=(decide (L.getLastD []=[46])||decide (L.getLastD []=[46,46])):=rfl
       unfold i6 at g1 g2 g3⊢
       rw [hsd]at g1 g2 g3⊢
       cases z1:decide (L.getLastD []=[46])
       ·cases z2:decide (L.getLastD []=[46,46])
        ·rw [z1,z2]at g1 g2 g3
         simp only [Bool.or_false,cond_false,List.append_nil]at g1 g2 g3⊢
         exact Eq.trans (i_ (Uk (dT' (by omega)) (dT' (by omega)))) (Eq.trans (i_ (dT' (by omega))) rfl)
        ·rw [z1,z2]at g1 g2 g3
         simp only [Bool.or_true,cond_true,cond_false]at g1 g2 g3⊢
         exact Eq.trans (i_ (Uk (dT' (by omega)) (dT' (by omega)))) (Eq.trans (i_ (dT' (by omega))) rfl)
       ·rw [z1]at g1 g2 g3
        simp only [Bool.true_or,cond_true]at g1 g2 g3⊢
        exact Eq.trans (i_ (Uk (dT' (by omega)) (dT' (by omega)))) (Eq.trans (i_ (dT' (by omega))) rfl)
      ·rfl
     ·rfl
    ·have d1':=of_decide_eq_true d1
     rw [dF' (show ¬(47::r:aa).length≤200 by omega)]
     rfl
   ·rw [gY c r hc,dF' (show ¬ [c]=[47]from fun e=>hc (by injection e))]
    rfl
 ·unfold mC at h;split at h
  ·exact h
  ·cases h
theorem yL (p:aa) (hl:p.length≤4611686018427387904) (k0 k1:aa→OR'): ∀(r:aa) (i:Int) (n:Nat),At p i r→r.length<n→
 eS n p i k0 k1=bif cS r 35||cS r 63 then k0 p else k1 p:=by
 intro r;induction r with
 |nil=>intro i n h hn;obtain⟨n,rfl⟩:=bh hn;unfold eS j0;simp only [h.dge,cond_false];rfl
 |cons a r ih=>
  intro i n h hn;obtain⟨n,rfl⟩:=bh hn
  have hs:=ih (i+1) n h.step (by simp at hn;omega)
  have e1:cS (a::r) 35=(decide (by8 a=35)||cS r 35):=rfl
  have e2:cS (a::r) 63=(decide (by8 a=63)||cS r 63):=rfl
  unfold eS j0
  simp only [h.dlt,h.dnn,h.str,cond_true,h.next hl,hs,e1,e2]
  cases decide (by8 a=35)<;>cases decide (by8 a=63)<;>cases cS r 35<;>cases cS r 63<;>rfl
def pH:List aa→List aa→List aa
 |out,[]=>out
 |out,w::r=>pH (dD out w++(bif decide (r=[])&&Be w then [[]]else [])) r
theorem Ed: ∀(r out:List aa),pH out r=r.foldl dD out++(bif Be (r.getLastD [])then [[]]else [])
 | [],out=>by simp [pH,Be]
 | [w],out=>by
   unfold pH pH
   rw [dT' rfl,Bool.true_and];rfl
 |w::x::r,out=>by
  unfold pH
  rw [dF' (by simp),Bool.false_and,cond_false,List.append_nil,Ed (x::r)]
  rfl
theorem Bu (l:List aa) (hl:l.length≤1000000) (k:List aa→OR'): ∀(r:List aa) (i:Int) (out:List aa) (n:Nat),At l i r→r.length<n→out.length+r.length≤1000000→
 b7 n i l out k=k (pH out r):=by
 intro r;induction r with
 |nil=>intro i out n h hn ho;obtain⟨n,rfl⟩:=bh hn;unfold b7 eT;simp only [h.dge,cond_false];rfl
 |cons w r ih=>
  intro i out n h hn ho;obtain⟨n,rfl⟩:=bh hn
  simp only [List.length_cons]at hn ho
  have hs:=px out w
  have hle:=h.le
  simp only [List.length_cons]at hle
  have hi:=h.nn
  have hlast:decide (i+1=(l.length:Int))=decide (r=[]):=by
   rw [Bool.eq_iff_iff,decide_eq_true_eq,decide_eq_true_eq]
   constructor
   ·intro e;exact List.length_eq_zero_iff.1 (by omega)
   ·intro e;have:r.length=0:=by rw [e];rfl
    omega
  have hlen:(dD out w++(bif decide (r=[])&&Be w then [[]]else [])).length+r.length≤1000000∨r=[]:=by
   cases r with
   |nil=>exact .inr rfl
   |cons x r=>rw [dF' (by simp),Bool.false_and,cond_false,List.append_nil];exact .inl (by omega)
  have hr: ∀o,o.length+r.length≤1000000→b7 n (i+1) l o k=k (pH o r):=fun o ho'=>ih (i+1) o n h.step (by omega) ho'
  have hend: ∀o:List aa,r=[]→b7 n (i+1) l o k=k o:=fun o hr0=>by
   subst hr0
   obtain⟨m,rfl⟩: ∃m,n=m+1:=⟨n-1,by simp at hn;omega⟩
   have h2:=h.step
   unfold b7 eT;simp only [h2.dge,cond_false]
  have hany: ∀o,(o.length+r.length≤1000000∨r=[])→b7 n (i+1) l o k=k (pH o r):=fun o ho'=>by
   rcases ho' with ho'|ho'
   ·exact hr o ho'
   ·rw [hend o ho',ho'];rfl
  have hap:decide ((out.length+ [w].length)*16≤140737488355328)=true:=dT' (by simp only [List.length_singleton];omega)
  have hap1:decide ((out.length+1)*16≤140737488355328)=true:=dT' (by omega)
  have hw1:ac ((out.length:Int)-1)=(out.length:Int)-1:=w64 (by omega) (by omega)
  have main:pH out (w::r)=pH (dD out w++(bif decide (r=[])&&Be w then [[]]else [])) r:=rfl
  rw [main]
  unfold b7 eT
  simp only [h.dlt,h.dnn,h.get,cond_true,h.next (show l.length≤4611686018427387904 by omega),be,hap,hap1,hw1,hlast]
  by_cases g1:w=[46]
  ·have g2:decide (w=[46,46])=false:=dF' (by rw [g1];decide)
   have g3:Be w=true:=by rw [g1];rfl
   have g4:dD out w=out:=by unfold dD;rw [dT' g1];rfl
   rw [dT' g1,g2,g3,g4,Bool.and_true]
   rw [g3,g4,Bool.and_true]at hlen
   simp only [cond_true,cond_false]
   cases z:decide (r=[])
   ·rw [z]at hlen;rw [cond_false]at hlen⊢;rw [cond_false,hany _ (by simpa using hlen)];simp
   ·rw [z]at hlen;rw [cond_true]at hlen⊢;rw [cond_true,hany _ hlen]
  ·have g1':decide (w=[46])=false:=dF' g1
   by_cases g2:w=[46,46]
   ·have g2':decide (w=[46,46])=true:=dT' g2
    have g3:Be w=true:=by unfold Be;rw [g1',g2'];rfl
    have g4:dD out w=out.dropLast:=by unfold dD;rw [g1',g2'];rfl
    rw [g1',g2',g3,g4,Bool.and_true]
    rw [g3,g4,Bool.and_true]at hlen
    simp only [cond_true,cond_false,Bool.not_true]
    cases ho0:decide ((0:Int)< (out.length:Int))
    ·have:out=[]:=List.length_eq_zero_iff.1 (by have:=of_decide_eq_false ho0;omega)
     subst this
     simp only [List.dropLast_nil]at hlen⊢
     simp only [cond_false]
     cases z:decide (r=[])
     ·rw [z]at hlen;rw [cond_false]at hlen⊢;rw [cond_false,hany _ (by simpa using hlen)];simp
     ·rw [z]at hlen;rw [cond_true]at hlen⊢;rw [cond_true,hany _ hlen]
    ·have ho1:=of_decide_eq_true ho0
     have hc:=Ec out ((out.length:Int)-1) (by omega)
     have hap2:decide ((out.dropLast.length+1)*16≤140737488355328)=true:=dT' (by simp;omega)
     rw [dT' (show(0:Int)≤(out.length:Int)-1 by omega),dT' (show(out.length:Int)-1≤(out.length:Int) by omega)]
     simp only [cond_true,hc,hap2]
     cases z:decide (r=[])
     ·rw [z]at hlen;rw [cond_false]at hlen⊢;rw [cond_false,hany _ (by simpa using hlen)];simp
     ·rw [z]at hlen;rw [cond_true]at hlen⊢;rw [cond_true,hany _ hlen]
   ·have g2':decide (w=[46,46])=false:=dF' g2
    have g3:Be w=false:=by unfold Be;rw [g1',g2'];rfl
    have g4:dD out w=out++[w]:=by unfold dD;rw [g1',g2'];rfl
    rw [g1',g2',g3,g4,Bool.and_false]
    rw [g3,g4,Bool.and_false]at hlen
    simp only [cond_false,Bool.not_false,cond_true]
    rw [hany _ (by simpa using hlen)];simp
theorem Bv (l:List aa) (hl:l.length≤1000000) (k:aa→OR'): ∀(r:List aa) (i:Int) (acc:aa) (n:Nat),At l i r→r.length<n→acc.length+(bi r).length≤1000000→
 dM n acc i l k=k (acc++bi r):=by
 intro r;induction r with
 |nil=>intro i acc n h hn ho;obtain⟨n,rfl⟩:=bh hn;unfold dM gX;simp only [h.dge,cond_false,bi,List.append_nil]
 |cons w r ih=>
  intro i acc n h hn ho;obtain⟨n,rfl⟩:=bh hn
  simp only [List.length_cons,bi,List.length_append]at hn ho
  have hr:=ih (i+1) (acc++[47]++w) n h.step (by omega) (by simp;omega)
  have q1:decide (acc.length+1≤9223372036854775807)=true:=dT' (by omega)
  have q2:decide ((acc++[47]).length+w.length≤9223372036854775807)=true:=dT' (by simp;omega)
  unfold dM gX
  simp only [h.dlt,h.dnn,h.get,cond_true,h.next (show l.length≤4611686018427387904 by omega),q1,q2,hr,bi]
  simp
theorem sX:Sound Kx 205 (mC fun s=>.str (aS s)):=by
 refine(Bq (φ:=fun s=>.ite (isM s) (.ret (.str (aS s)) []) .fail) (fun s=>s.length+5) fun p r h=> ?_).of fun args objs r h=> ?_
 ·obtain⟨hM,h2⟩:=af h
  cases h2
  unfold sR
  cases p with
  |nil=>rfl
  |cons c r=>
   have e0:decide (((c::r).length:Int)=0)=false:=dF' (by simp only [List.length_cons];omega)
   have e1:decide ((0:Int)< ((c::r).length:Int))=true:=dT' (by simp only [List.length_cons];omega)
   have e2:au (c::r) 0=by8 c:=rfl
   simp only [e0,e1,cond_true,cond_false,e2,hM,Bool.and_true]
   by_cases hc:c=47
   ·subst hc
    rw [j5]
    unfold l8
    rw [show decide (by8 47=47)=true from rfl]
    simp only [Bool.not_true,cond_false]
    cases d1:decide ((200:Int)< ((47::r:aa).length:Int))
    ·have d1':=of_decide_eq_false d1
     simp only [List.length_cons]at d1'
     rw [dT' (show(47::r:aa).length≤200 by simp only [List.length_cons];omega)]
     simp only [cond_false,Bool.true_and]
     cases d2:bb b8 (47::r)
     ·rfl
     have m1:decide ((47::r:aa).length≤1000000)=true:=dT' (by simp only [List.length_cons];omega)
     simp only [Bool.not_true,cond_false,Bool.true_and]
     rw [yL _ (by simp only [List.length_cons];omega) _ _ (47::r) 0 _ (At.start _) (by simp only [List.length_cons];omega)]
     cases d3:cS (47::r) 35
     ·cases d4:cS (47::r) 63
      ·simp only [Bool.or_false,cond_false,Bool.not_false,Bool.and_self,cond_true,sy,m1]
       have hcut:cut (47::cQ r) 1 ((47::cQ r).length:Int)=cQ r:=by
        exact J3 (p:=[47]) (r:=[]) (by simp) rfl (by simp only [List.length_cons];omega)
       have hb:=Bt r (by omega)
       have hp:=jX r
       rw [hcut]
       have n1:decide ((1:Int)≤((47::cQ r).length:Int))=true:=dT' (by simp only [List.length_cons];omega)
       have n2:decide ((cQ r).length≤1000000)=true:=dT' (by omega)
       rw [n1,n2]
       simp only [cond_true]
       have hL0:=pr (cQ r) 47
       generalize hL:f7 (cQ r) 47=L at hb hL0
       rw [Bu L (by omega) _ L 0 [] _ (At.start L) (by simp only [List.length_cons];omega) (by simp;omega),Ed]
       have g1:=lh L
       have g3:=yJ (i6 L)
       have g5:=Ea L []
       rw [show L.foldl dD []++(bif Be (L.getLastD [])then [[]]else [])=i6 L from rfl]
       have g6:(i6 L).length≤L.length+1:=by
        unfold i6
        rw [List.length_append]
        cases Be (L.getLastD [])<;>simp at g5⊢ <;>omega
       rw [Bv (i6 L) (by omega) _ (i6 L) 0 [] _ (At.start _) (by simp only [List.length_cons];omega) (by simp;omega),List.nil_append,sU]
       cases decide (bi (i6 L)=[])<;>rfl
      ·rfl
     ·rfl
    ·have d1':=of_decide_eq_true d1
     rw [dF' (show ¬(47::r:aa).length≤200 by omega)]
     rfl
   ·rw [gY c r hc,dF' (show ¬by8 c=47 from fun e=>hc (Ao e))]
    cases decide ((200:Int)< ((c::r).length:Int))<;>rfl
 ·unfold mC at h;split at h
  ·exact h
  ·cases h
theorem Kv:Sound Kx 289 (mC fun s=>.bool (ii s)):=iHost_ok.of fun args objs r h=>by
 unfold mC at h
 split at h
 case h_2=>cases h
 rename_i s
 obtain⟨hM,h2⟩:=af h
 cases h2
 show(u_ s).val=some (.bool (ii s),[])
 unfold u_ ii
 cases d1:decide ((1:Int)≤(s.length:Int))
 ·have d1':=of_decide_eq_false d1
  rw [dF' (show ¬1≤s.length by omega)];rfl
 ·have d1':=of_decide_eq_true d1
  rw [dT' (show 1≤s.length by omega)]
  cases d2:decide ((s.length:Int)≤60)
  ·have d2':=of_decide_eq_false d2
   rw [dF' (show ¬s.length≤60 by omega)];rfl
  ·have d2':=of_decide_eq_true d2
   have hlen:=pr s 46
   rw [dT' (show s.length≤60 by omega),hM]
   cases bb hoB s
   ·rfl
   ·refine(aR rfl).trans ((bl rfl).trans ((aR rfl).trans ((bl rfl).trans ((aR (dT' (by omega))).trans ((aR (dT' (by omega))).trans rfl)))))
def SM:List AV→List Ob→Br
 | [.str s],[]=>.ite (decide (s.length≤1000000)) (.ret (.tup [.int .i64 (f6 s).1,.bool (f6 s).2]) []) .fail
 |_,_=>.fail
theorem yM:Sound Kx 221 SM:=iReadDec_ok.of fun args objs r h=>by
 unfold SM at h
 split at h
 case h_2=>cases h
 rename_i s
 obtain⟨hM,h2⟩:=af h
 cases h2
 show(ja s).val=_
 unfold ja
 refine(aR hM).trans ?_
 rw [J2]
 cases c1:eN s
 ·rfl
 ·cases c2:decide (0≤dq s)
  ·rfl
  ·cases c3:decide (dq s≤999999999999999)
   ·rfl
   ·have h15:bD (dq s)=true:=by unfold bD;rw [c2,c3];rfl
    rw [h15]
    cases c4:decide (bO (dq s)=s)
    ·refine(aR rfl).trans ((aR rfl).trans ((bl rfl).trans ((aR ?_).trans rfl)))
     rw [cond_true,c4];rfl
    ·refine(aR rfl).trans ((aR rfl).trans ((bl rfl).trans ((bl ?_).trans rfl)))
     rw [cond_true,c4];rfl
def QY:SC:=[⟨196,_,Je⟩]
def NM (h:aa) (po:Int) (pa q:aa) (hq:Bool):Br:=(Br.ite (decide (po=80)) (Br.ret (AV.str ([]:aa)) []) (Br.ite (bD po) (Br.ite (decide ((1+(List.length (bO po)))≤9223372036854775807)) (Br.ret (AV.str (([58]:aa)++(bO po))) []) Br.fail) Br.fail))
def Kw:List AV→List Ob→Br
 | [.agg [.str h,.int .i64 po,.str pa,.str q,.bool hq]],[]=>NM h po pa q hq
 |_,_=>.fail
theorem NN:Sound Kx 224 Kw:=ae (C:=QY) (O:=O0) Tryz.func224 (by kernel_rfl) fun args objs=>by
 unfold Kw;split
 ·exact .inr (by kernel_rfl)
 ·exact .inl rfl
def Ky (h:aa) (po:Int) (pa q:aa) (hq:Bool):Br:=(Br.ite hq (Br.ite (decide ((pa.length+1)≤9223372036854775807)) (Br.ite (decide (((List.length (pa++([63]:aa)))+q.length)≤9223372036854775807)) (Br.ret (AV.str ((pa++([63]:aa))++q)) []) Br.fail) Br.fail) (Br.ret (AV.str pa) []))
def Ee:List AV→List Ob→Br
 | [.agg [.str h,.int .i64 po,.str pa,.str q,.bool hq]],[]=>Ky h po pa q hq
 |_,_=>.fail
theorem Kz:Sound Kx 225 Ee:=ae (C:=[]) (O:=O0) Tryz.func225 (by kernel_rfl) fun args objs=>by
 unfold Ee;split
 ·exact .inr (by kernel_rfl)
 ·exact .inl rfl
def QZ:SC:=[⟨224,_,NN⟩,⟨225,_,Kz⟩]
def va (h:aa) (po:Int) (pa q:aa) (hq:Bool):Br:=(Br.ite (decide ((7+h.length)≤9223372036854775807)) (Br.ite (decide (po=80)) (Br.ite (decide (((List.length (([104,116,116,112,58,47,47]:aa)++h))+0)≤9223372036854775807)) (Br.ite hq (Br.ite (decide ((pa.length+1)≤9223372036854775807)) (Br.ite (decide (((List.length (pa++([63]:aa)))+q.length)≤9223372036854775807)) (Br.ite (decide (((List.length ((([104,116,116,112,58,47,47]:aa)++h)++([]:aa)))+(List.length ((pa++([63]:aa))++q)))≤9223372036854775807)) (Br.ret (AV.str (((([104,116,116,112,58,47,47]:aa)++h)++([]:aa))++((pa++([63]:aa))++q))) []) Br.fail) Br.fail) Br.fail) (Br.ite (decide (((List.length ((([104,116,116,112,58,47,47]:aa)++h)++([]:aa)))+pa.length)≤9223372036854775807)) (Br.ret (AV.str (((([104,116,116,112,58,47,47]:aa)++h)++([]:aa))++pa)) []) Br.fail)) Br.fail) (Br.ite (bD po) (Br.ite (decide ((1+(List.length (bO po)))≤9223372036854775807)) (Br.ite (decide (((List.length (([104,116,116,112,58,47,47]:aa)++h))+(List.length (([58]:aa)++(bO po))))≤9223372036854775807)) (Br.ite hq (Br.ite (decide ((pa.length+1)≤9223372036854775807)) (Br.ite (decide (((List.length (pa++([63]:aa)))+q.length)≤9223372036854775807)) (Br.ite (decide (((List.length ((([104,116,116,112,58,47,47]:aa)++h)++(([58]:aa)++(bO po))))+(List.length ((pa++([63]:aa))++q)))≤9223372036854775807)) (Br.ret (AV.str (((([104,116,116,112,58,47,47]:aa)++h)++(([58]:aa)++(bO po)))++((pa++([63]:aa))++q))) []) Br.fail) Br.fail) Br.fail) (Br.ite (decide (((List.length ((([104,116,116,112,58,47,47]:aa)++h)++(([58]:aa)++(bO po))))+pa.length)≤9223372036854775807)) (Br.ret (AV.str (((([104,116,116,112,58,47,47]:aa)++h)++(([58]:aa)++(bO po)))++pa)) []) Br.fail)) Br.fail) Br.fail) Br.fail)) Br.fail)
def KA:List AV→List Ob→Br
 | [.agg [.str h,.int .i64 po,.str pa,.str q,.bool hq]],[]=>va h po pa q hq
 |_,_=>.fail
theorem NO:Sound Kx 160 KA:=ae (C:=QZ) (O:=O0) Tryz.func160 (by kernel_rfl) fun args objs=>by
 unfold KA;split
 ·exact .inr (by kernel_rfl)
 ·exact .inl rfl
def Q0:SC:=[⟨185,_,A4⟩]
def NP (h:aa) (po:Int) (pa q:aa) (hq:Bool):Br:=(Br.ite (decide (po=80)) (Br.ret (AV.str ([]:aa)) []) (Br.ite (bD po) (Br.ite (decide ((1+(List.length (bO po)))≤9223372036854775807)) (Br.ret (AV.str (([58]:aa)++(bO po))) []) Br.fail) Br.fail))
def KB:List AV→List Ob→Br
 | [.agg [.str h,.int .i64 po,.str pa,.str q,.bool hq]],[]=>NP h po pa q hq
 |_,_=>.fail
theorem NQ:Sound Kx 267 KB:=ae (C:=Q0) (O:=O0) Tryz.func267 (by kernel_rfl) fun args objs=>by
 unfold KB;split
 ·exact .inr (by kernel_rfl)
 ·exact .inl rfl
def KC (h:aa) (po:Int) (pa q:aa) (hq:Bool):Br:=(Br.ite hq (Br.ite (decide ((1+q.length)≤9223372036854775807)) (Br.ret (AV.str (([63]:aa)++q)) []) Br.fail) (Br.ret (AV.str ([]:aa)) []))
def Ef:List AV→List Ob→Br
 | [.agg [.str h,.int .i64 po,.str pa,.str q,.bool hq]],[]=>KC h po pa q hq
 |_,_=>.fail
theorem KD:Sound Kx 268 Ef:=ae (C:=[]) (O:=O0) Tryz.func268 (by kernel_rfl) fun args objs=>by
 unfold Ef;split
 ·exact .inr (by kernel_rfl)
 ·exact .inl rfl
def Q1:SC:=[⟨267,_,NQ⟩,⟨268,_,KD⟩]
def vb (h:aa) (po:Int) (pa q:aa) (hq:Bool):Br:=(Br.ite (decide ((7+h.length)≤9223372036854775807)) (Br.ite (decide (po=80)) (Br.ite (decide (((List.length (([104,116,116,112,58,47,47]:aa)++h))+0)≤9223372036854775807)) (Br.ite (decide (((List.length ((([104,116,116,112,58,47,47]:aa)++h)++([]:aa)))+pa.length)≤9223372036854775807)) (Br.ite hq (Br.ite (decide ((1+q.length)≤9223372036854775807)) (Br.ite (decide (((List.length (((([104,116,116,112,58,47,47]:aa)++h)++([]:aa))++pa))+(List.length (([63]:aa)++q)))≤9223372036854775807)) (Br.ret (AV.str ((((([104,116,116,112,58,47,47]:aa)++h)++([]:aa))++pa)++(([63]:aa)++q))) []) Br.fail) Br.fail) (Br.ite (decide (((List.length (((([104,116,116,112,58,47,47]:aa)++h)++([]:aa))++pa))+0)≤9223372036854775807)) (Br.ret (AV.str ((((([104,116,116,112,58,47,47]:aa)++h)++([]:aa))++pa)++([]:aa))) []) Br.fail)) Br.fail) Br.fail) (Br.ite (bD po) (Br.ite (decide ((1+(List.length (bO po)))≤9223372036854775807)) (Br.ite (decide (((List.length (([104,116,116,112,58,47,47]:aa)++h))+(List.length (([58]:aa)++(bO po))))≤9223372036854775807)) (Br.ite (decide (((List.length ((([104,116,116,112,58,47,47]:aa)++h)++(([58]:aa)++(bO po))))+pa.length)≤9223372036854775807)) (Br.ite hq (Br.ite (decide ((1+q.length)≤9223372036854775807)) (Br.ite (decide (((List.length (((([104,116,116,112,58,47,47]:aa)++h)++(([58]:aa)++(bO po)))++pa))+(List.length (([63]:aa)++q)))≤9223372036854775807)) (Br.ret (AV.str ((((([104,116,116,112,58,47,47]:aa)++h)++(([58]:aa)++(bO po)))++pa)++(([63]:aa)++q))) []) Br.fail) Br.fail) (Br.ite (decide (((List.length (((([104,116,116,112,58,47,47]:aa)++h)++(([58]:aa)++(bO po)))++pa))+0)≤9223372036854775807)) (Br.ret (AV.str ((((([104,116,116,112,58,47,47]:aa)++h)++(([58]:aa)++(bO po)))++pa)++([]:aa))) []) Br.fail)) Br.fail) Br.fail) Br.fail) Br.fail)) Br.fail)
def KE:List AV→List Ob→Br
 | [.agg [.str h,.int .i64 po,.str pa,.str q,.bool hq]],[]=>vb h po pa q hq
 |_,_=>.fail
theorem NR:Sound Kx 208 KE:=ae (C:=Q1) (O:=O0) Tryz.func208 (by kernel_rfl) fun args objs=>by
 unfold KE;split
 ·exact .inr (by kernel_rfl)
 ·exact .inl rfl
def Bw:SC:=[⟨219,_,Jv⟩]
def yN (s:aa):Br:=(Br.ite (decide (s.length≤1000000)) (Br.ret (AV.agg ((AV.str ([]:aa))::((AV.int .i64 0)::((AV.str (so s ([63]:aa)).1)::((AV.str (so s ([63]:aa)).2.1)::((AV.bool (so s ([63]:aa)).2.2)::[])))))) []) Br.fail)
def pI:List AV→List Ob→Br
 | [.str s],[]=>yN s
 |_,_=>.fail
theorem yO:Sound Kx 220 pI:=ae (C:=Bw) (O:=O0) Tryz.func220 (by kernel_rfl) fun args objs=>by
 unfold pI;split
 ·exact .inr (by kernel_rfl)
 ·exact .inl rfl
def smU (h:aa) (po:Int) (pa q:aa):Bool:=decide (h.length≤1000000)&&bD po&&decide (pa.length≤1000000)&&isM q
def SN (p:aa→Int→aa→aa→Bool→Bool) (v:aa→Int→aa→aa→Bool→AV):List AV→List Ob→Br
 | [.agg [.str h,.int .i64 po,.str pa,.str q,.bool hq]],[]=>.ite (p h po pa q hq) (.ret (v h po pa q hq) []) .fail
 |_,_=>.fail
def UM:List AV→List Ob→Br:=SN (fun h po pa q _=>smU h po pa q) (fun h po pa q hq=>.str (qy h po pa q hq))
theorem KF {n:Nat} {s:List AV→List Ob→Br} (hs:Sound Kx n s) {p:aa→Int→aa→aa→Bool→Bool} {v:aa→Int→aa→aa→Bool→AV} (h: ∀ho po pa q hq,p ho po pa q hq=true→(s [.agg [.str ho,.int .i64 po,.str pa,.str q,.bool hq]] []).val=some (v ho po pa q hq,[])):Sound Kx n (SN p v):=hs.of fun args objs r hv=>by
 unfold SN at hv
 split at hv
 case h_2=>cases hv
 obtain⟨h1,h2⟩:=af hv
 cases h2
 exact h _ _ _ _ _ h1
theorem yP (n:Int) (h:bD n=true):(bO n).length≤15:=by
 unfold bD at h
 simp only [Bool.and_eq_true,decide_eq_true_eq]at h
 rw [dv];exact yh _ (by omega)
theorem Pt {h:aa} {po:Int} {pa q:aa} (hs:smU h po pa q=true):h.length≤1000000∧bD po=true∧pa.length≤1000000∧q.length≤4611686018427387904:=by
 unfold smU at hs
 simp only [Bool.and_eq_true,decide_eq_true_eq]at hs
 exact⟨hs.1.1.1,hs.1.1.2,hs.1.2,cv hs.2⟩
theorem yQ:Sound Kx 160 UM:=KF NO fun h po pa q hq hs=>by
 obtain⟨h1,h2,h3,h4⟩:=Pt hs
 have hd:=yP po h2
 show(va h po pa q hq).val=some (.str (qy h po pa q hq),[])
 unfold va qy QQ DX uX
 cases decide (po=80)<;>cases hq<;>
  simp (disch:=(first|omega|(simp only [List.length_append,List.length_cons,List.length_nil];omega))) only [Br.val,dle,h2,cond_true,cond_false,List.append_assoc,List.cons_append,List.nil_append,List.append_nil]
theorem yR:Sound Kx 208 UM:=KF NR fun h po pa q hq hs=>by
 obtain⟨h1,h2,h3,h4⟩:=Pt hs
 have hd:=yP po h2
 show(vb h po pa q hq).val=some (.str (qy h po pa q hq),[])
 unfold vb qy QQ DX uX
 cases decide (po=80)<;>cases hq<;>
  simp (disch:=(first|omega|(simp only [List.length_append,List.length_cons,List.length_nil];omega))) only [Br.val,dle,h2,cond_true,cond_false,List.append_assoc,List.cons_append,List.nil_append,List.append_nil]
def NS:Opt:={split:=true}
def NT:SC:=[⟨289,_,Kv⟩,⟨124,_,cm⟩,⟨222,_,sV⟩,⟨191,_,gJ⟩,⟨217,_,DY⟩,⟨160,_,yQ⟩]
def pJ (h:aa) (po:Int) (pa q:aa) (hq:Bool):Br:=(Br.ite (isM h) (Br.ite (ii h) (Br.ite (decide (1≤po)) (Br.ite (decide (po≤65535)) (Br.ite (decide (pa=([]:aa))) (Br.ret (AV.bool false) []) (Br.ite (isM pa) (Br.ite (!(decide ((aS pa)=pa))) (Br.ret (AV.bool false) []) (Br.ite (isM q) (Br.ite (!(bb b8 q)) (Br.ret (AV.bool false) []) (Br.ite (cS q 35) (Br.ret (AV.bool false) []) (Br.ite (!hq) (Br.ite (!(decide (q=([]:aa)))) (Br.ret (AV.bool false) []) (Br.ite (smU h po pa q) (Br.ret (AV.bool (decide (((List.length (qy h po pa q hq)):Int)≤200))) []) Br.fail)) (Br.ite (smU h po pa q) (Br.ret (AV.bool (decide (((List.length (qy h po pa q hq)):Int)≤200))) []) Br.fail)))) Br.fail)) Br.fail)) (Br.ret (AV.bool false) [])) (Br.ret (AV.bool false) [])) (Br.ret (AV.bool false) [])) Br.fail)
def Eg:List AV→List Ob→Br
 | [.agg [.str h,.int .i64 po,.str pa,.str q,.bool hq]],[]=>pJ h po pa q hq
 |_,_=>.fail
theorem KG:Sound Kx 223 Eg:=ae (C:=NT) (O:=NS) Tryz.func223 (by kernel_rfl) fun args objs=>by
 unfold Eg;split
 ·exact .inr (by kernel_rfl)
 ·exact .inl rfl
def NU:Opt:={split:=true}
def NV:SC:=[⟨266,_,Kr⟩,⟨205,_,sX⟩,⟨183,_,mX⟩,⟨203,_,yg⟩,⟨208,_,yR⟩]
def pK (h:aa) (po:Int) (pa q:aa) (hq:Bool):Br:=(Br.ite (ii h) (Br.ite (decide (po<1)) (Br.ret (AV.bool false) []) (Br.ite (decide (65535<po)) (Br.ret (AV.bool false) []) (Br.ite (decide (pa=([]:aa))) (Br.ret (AV.bool false) []) (Br.ite (isM pa) (Br.ite (!(decide ((aS pa)=pa))) (Br.ret (AV.bool false) []) (Br.ite hq (Br.ite (decide (200< (q.length:Int))) (Br.ret (AV.bool false) []) (Br.ite (!(decide (q=([]:aa)))) (Br.ite (isM q) (Br.ite ((bb b8 q)&&(decide (0< (q.length:Int)))) (Br.ite (isM q) (Br.ite (!(decide ((aF q 35)=q))) (Br.ret (AV.bool false) []) (Br.ite (smU h po pa q) (Br.ret (AV.bool (decide (((List.length (qy h po pa q hq)):Int)≤200))) []) Br.fail)) Br.fail) (Br.ret (AV.bool false) [])) Br.fail) (Br.ite (isM q) (Br.ite (!(decide ((aF q 35)=q))) (Br.ret (AV.bool false) []) (Br.ite (smU h po pa q) (Br.ret (AV.bool (decide (((List.length (qy h po pa q hq)):Int)≤200))) []) Br.fail)) Br.fail))) (Br.ite (!(decide (q=([]:aa)))) (Br.ret (AV.bool false) []) (Br.ite (decide (200< (q.length:Int))) (Br.ret (AV.bool false) []) (Br.ite (!(decide (q=([]:aa)))) (Br.ite (isM q) (Br.ite ((bb b8 q)&&(decide (0< (q.length:Int)))) (Br.ite (isM q) (Br.ite (!(decide ((aF q 35)=q))) (Br.ret (AV.bool false) []) (Br.ite (smU h po pa q) (Br.ret (AV.bool (decide (((List.length (qy h po pa q hq)):Int)≤200))) []) Br.fail)) Br.fail) (Br.ret (AV.bool false) [])) Br.fail) (Br.ite (isM q) (Br.ite (!(decide ((aF q 35)=q))) (Br.ret (AV.bool false) []) (Br.ite (smU h po pa q) (Br.ret (AV.bool (decide (((List.length (qy h po pa q hq)):Int)≤200))) []) Br.fail)) Br.fail)))))) Br.fail)))) (Br.ret (AV.bool false) []))
def Eh:List AV→List Ob→Br
 | [.agg [.str h,.int .i64 po,.str pa,.str q,.bool hq]],[]=>pK h po pa q hq
 |_,_=>.fail
theorem KH:Sound Kx 206 Eh:=ae (C:=NV) (O:=NU) Tryz.func206 (by kernel_rfl) fun args objs=>by
 unfold Eh;split
 ·exact .inr (by kernel_rfl)
 ·exact .inl rfl
theorem yS {pa:aa} (h:aS pa=pa) (h0:pa≠ []):pa.length≤200:=by
 cases pa with
 |nil=>exact absurd rfl h0
 |cons c r=>
  by_cases hc:c=47
  ·subst hc
   rw [j5]at h
   cases ho:l8 (47::r)
   ·rw [ho,cond_false]at h;exact absurd h.symm h0
   ·unfold l8 at ho
    simp only [Bool.and_eq_true,decide_eq_true_eq]at ho
    exact ho.1.1.1
  ·rw [gY c r hc]at h;exact absurd h.symm h0
theorem Ei {h:aa} (hh:ii h=true):h.length≤60:=by
 unfold ii at hh
 simp only [Bool.and_eq_true,decide_eq_true_eq]at hh
 exact hh.1.1.2
theorem KI (n:Nat):decide ((n:Int)≤200)=decide (n≤200):=by
 rw [Bool.eq_iff_iff,decide_eq_true_eq,decide_eq_true_eq];omega
theorem nl (s:aa) (b:Int):decide (aF s b=s)= !cS s b:=by
 induction s with
 |nil=>rfl
 |cons c s ih=>
  have e:cS (c::s) b=(decide (by8 c=b)||cS s b):=rfl
  unfold aF at ih⊢
  rw [e,List.takeWhile_cons]
  cases decide (by8 c=b)
  ·simp only [Bool.not_false,if_true,Bool.false_or]
   rw [←ih,Bool.eq_iff_iff,decide_eq_true_eq,decide_eq_true_eq]
   simp
  ·simp
theorem Pu (h:aa) (po:Int) (pa q:aa):q.length≤(qy h po pa q true).length:=by
 unfold qy DX
 simp only [cond_true,List.length_append,List.length_cons];omega
def UN:List AV→List Ob→Br:=SN (fun h _ pa q _=>isM h&&isM pa&&isM q) (fun h po pa q hq=>.bool (aT h po pa q hq))
theorem Ej {h:aa} {po:Int} {pa q:aa} (h1:ii h=true) (h2:decide (1≤po)=true) (h3:decide (po≤65535)=true) (h4:decide (pa=[])=false) (h5:decide (aS pa=pa)=true) (h6:isM q=true):smU h po pa q=true:=by
 have a:=Ei h1
 have b:=yS (of_decide_eq_true h5) (of_decide_eq_false h4)
 have c:=of_decide_eq_true h2
 have d:=of_decide_eq_true h3
 unfold smU bD
 rw [dT' (show h.length≤1000000 by omega),dT' (show 0≤po by omega),dT' (show po≤999999999999999 by omega),dT' (show pa.length≤1000000 by omega),h6];rfl
theorem GP:Sound Kx 223 UN:=KF KG fun h po pa q hq hs=>by
 simp only [Bool.and_eq_true]at hs
 obtain⟨⟨m1,m2⟩,m3⟩:=hs
 show(pJ h po pa q hq).val=some (.bool (aT h po pa q hq),[])
 unfold pJ aT
 rw [m1,m2,m3,KI]
 cases d1:ii h
 ·rfl
 cases d2:decide (1≤po)
 ·rfl
 cases d3:decide (po≤65535)
 ·rfl
 cases d4:decide (pa=[])
 case true=>rfl
 cases d5:decide (aS pa=pa)
 ·rfl
 rw [Ej d1 d2 d3 d4 d5 m3]
 cases bb b8 q
 ·rfl
 cases cS q 35
 case true=>rfl
 cases hq<;>cases decide (q=[])<;>rfl
theorem sY:Sound Kx 206 UN:=KF KH fun h po pa q hq hs=>by
 simp only [Bool.and_eq_true]at hs
 obtain⟨⟨m1,m2⟩,m3⟩:=hs
 show(pK h po pa q hq).val=some (.bool (aT h po pa q hq),[])
 unfold pK aT
 rw [m2,m3,KI,nl]
 have e2:decide (po<1)= !decide (1≤po):=by rw [Bool.eq_iff_iff];simp
 have e3:decide (65535<po)= !decide (po≤65535):=by rw [Bool.eq_iff_iff];simp
 rw [e2,e3]
 cases d1:ii h
 ·rfl
 cases d2:decide (1≤po)
 ·rfl
 cases d3:decide (po≤65535)
 ·rfl
 cases d4:decide (pa=[])
 case true=>rfl
 cases d5:decide (aS pa=pa)
 ·rfl
 rw [Ej d1 d2 d3 d4 d5 m3]
 by_cases hq0:q=[]
 ·subst hq0
  cases hq<;>rfl
 ·have z:decide (q=[])=false:=dF' hq0
  have zl:decide ((0:Int)< (q.length:Int))=true:=dT' (by have:=List.length_pos_iff.2 hq0;omega)
  rw [z,zl]
  cases hq
  ·cases bb b8 q<;>cases cS q 35<;>rfl
  ·cases d6:decide ((200:Int)< (q.length:Int))
   ·cases bb b8 q<;>cases cS q 35<;>rfl
   ·have:=of_decide_eq_true d6
    have hl:=Pu h po pa q
    rw [dF' (show ¬(qy h po pa q true).length≤200 by omega),Bool.and_false];rfl
def GQ:Opt:={split:=true}
def GR:SC:=[⟨191,_,gJ⟩,⟨217,_,DY⟩,⟨171,_,oo⟩,⟨218,_,Kb⟩,⟨219,_,Jv⟩,⟨220,_,yO⟩,⟨221,_,yM⟩,⟨222,_,sV⟩,⟨223,_,GP⟩]
abbrev aA (s:aa):=(so (cut (cut s 7 (s.length:Int)) (lf (cut s 7 (s.length:Int)) ([47,63]:aa)) ((List.length (cut s 7 (s.length:Int))):Int)) ([63]:aa))
abbrev aB (s:aa):=(so (cut (cut s 7 (s.length:Int)) ((List.length (cut s 7 (s.length:Int))):Int) ((List.length (cut s 7 (s.length:Int))):Int)) ([63]:aa))
abbrev a6 (s:aa):=(Br.ret (AV.tup ((AV.agg ((AV.str ([]:aa))::((AV.int .i64 0)::((AV.str ([]:aa))::((AV.str ([]:aa))::((AV.bool false)::[]))))))::((AV.bool false)::[]))) [])
abbrev aM (s:aa):=(so (cut (cut s 7 (s.length:Int)) 0 (lf (cut s 7 (s.length:Int)) ([47,63]:aa))) ([58]:aa))
abbrev aN (s:aa):=(so (cut (cut s 7 (s.length:Int)) 0 ((List.length (cut s 7 (s.length:Int))):Int)) ([58]:aa))
abbrev bm (s:aa):=((List.length (cut s 7 (s.length:Int))):Int)
abbrev ck (s:aa):=(lf (cut s 7 (s.length:Int)) ([47,63]:aa))
abbrev dT (s:aa):=((AV.str (aB s).2.1)::((AV.bool (aB s).2.2)::[]))
abbrev dU (s:aa):=((AV.str (aA s).2.1)::((AV.bool (aA s).2.2)::[]))
def jb (s:aa):Br:=(Br.ite (decide (200< (s.length:Int))) (a6 s) (Br.ite (isM s) (Br.ite (!(bb b8 s)) (a6 s) (Br.ite (cS s 35) (a6 s) (Br.ite (decide ((s.length:Int)<7)) (a6 s) (Br.ite (decide (7≤(s.length:Int))) (Br.ite (isM (cut s 0 7)) (Br.ite (!(decide ((aJ (cut s 0 7))=([104,116,116,112,58,47,47]:aa)))) (a6 s) (Br.ite (decide (7≤(s.length:Int))) (Br.ite ((((decide ((List.length (cut s 7 (s.length:Int)))≤1000000))&&true)&&(Mp (cut s 7 (s.length:Int))))&&true) (Br.ite (decide ((ck s)<0)) (Br.ite (decide (0≤(bm s))) (Br.ite (decide ((bm s)≤(bm s))) (Br.ite (decide ((List.length (cut (cut s 7 (s.length:Int)) 0 (bm s)))≤1000000)) (Br.ite (decide (0≤(bm s))) (Br.ite (decide ((bm s)≤(bm s))) (Br.ite (decide ((List.length (cut (cut s 7 (s.length:Int)) (bm s) (bm s)))≤1000000)) (Br.ite (isM (aN s).1) (Br.ite (aN s).2.2 (Br.ite (decide ((List.length (aN s).2.1)≤1000000)) (Br.ite (!(f6 (aN s).2.1).2) (a6 s) (Br.ite (decide ((aB s).1=([]:aa))) (Br.ite (((isM (aJ (aN s).1))&&true)&&(isM (aB s).2.1)) (Br.ite (!(aT (aJ (aN s).1) (f6 (aN s).2.1).1 ([47]:aa) (aB s).2.1 (aB s).2.2)) (a6 s) (Br.ret (AV.tup ((AV.agg ((AV.str (aJ (aN s).1))::((AV.int .i64 (f6 (aN s).2.1).1)::((AV.str ([47]:aa))::(dT s)))))::((AV.bool true)::[]))) [])) Br.fail) (Br.ite (isM (aB s).1) (Br.ite (((isM (aJ (aN s).1))&&(isM (aS (aB s).1)))&&(isM (aB s).2.1)) (Br.ite (!(aT (aJ (aN s).1) (f6 (aN s).2.1).1 (aS (aB s).1) (aB s).2.1 (aB s).2.2)) (a6 s) (Br.ret (AV.tup ((AV.agg ((AV.str (aJ (aN s).1))::((AV.int .i64 (f6 (aN s).2.1).1)::((AV.str (aS (aB s).1))::(dT s)))))::((AV.bool true)::[]))) [])) Br.fail) Br.fail))) Br.fail) (Br.ite (decide ((aB s).1=([]:aa))) (Br.ite (((isM (aJ (aN s).1))&&true)&&(isM (aB s).2.1)) (Br.ite (!(aT (aJ (aN s).1) 80 ([47]:aa) (aB s).2.1 (aB s).2.2)) (a6 s) (Br.ret (AV.tup ((AV.agg ((AV.str (aJ (aN s).1))::((AV.int .i64 80)::((AV.str ([47]:aa))::(dT s)))))::((AV.bool true)::[]))) [])) Br.fail) (Br.ite (isM (aB s).1) (Br.ite (((isM (aJ (aN s).1))&&(isM (aS (aB s).1)))&&(isM (aB s).2.1)) (Br.ite (!(aT (aJ (aN s).1) 80 (aS (aB s).1) (aB s).2.1 (aB s).2.2)) (a6 s) (Br.ret (AV.tup ((AV.agg ((AV.str (aJ (aN s).1))::((AV.int .i64 80)::((AV.str (aS (aB s).1))::(dT s)))))::((AV.bool true)::[]))) [])) Br.fail) Br.fail))) Br.fail) Br.fail) Br.fail) Br.fail) Br.fail) Br.fail) Br.fail) (Br.ite (decide (0≤(ck s))) (Br.ite (decide ((ck s)≤(bm s))) (Br.ite (decide ((List.length (cut (cut s 7 (s.length:Int)) 0 (ck s)))≤1000000)) (Br.ite (decide (0≤(ck s))) (Br.ite (decide ((ck s)≤(bm s))) (Br.ite (decide ((List.length (cut (cut s 7 (s.length:Int)) (ck s) (bm s)))≤1000000)) (Br.ite (isM (aM s).1) (Br.ite (aM s).2.2 (Br.ite (decide ((List.length (aM s).2.1)≤1000000)) (Br.ite (!(f6 (aM s).2.1).2) (a6 s) (Br.ite (decide ((aA s).1=([]:aa))) (Br.ite (((isM (aJ (aM s).1))&&true)&&(isM (aA s).2.1)) (Br.ite (!(aT (aJ (aM s).1) (f6 (aM s).2.1).1 ([47]:aa) (aA s).2.1 (aA s).2.2)) (a6 s) (Br.ret (AV.tup ((AV.agg ((AV.str (aJ (aM s).1))::((AV.int .i64 (f6 (aM s).2.1).1)::((AV.str ([47]:aa))::(dU s)))))::((AV.bool true)::[]))) [])) Br.fail) (Br.ite (isM (aA s).1) (Br.ite (((isM (aJ (aM s).1))&&(isM (aS (aA s).1)))&&(isM (aA s).2.1)) (Br.ite (!(aT (aJ (aM s).1) (f6 (aM s).2.1).1 (aS (aA s).1) (aA s).2.1 (aA s).2.2)) (a6 s) (Br.ret (AV.tup ((AV.agg ((AV.str (aJ (aM s).1))::((AV.int .i64 (f6 (aM s).2.1).1)::((AV.str (aS (aA s).1))::(dU s)))))::((AV.bool true)::[]))) [])) Br.fail) Br.fail))) Br.fail) (Br.ite (decide ((aA s).1=([]:aa))) (Br.ite (((isM (aJ (aM s).1))&&true)&&(isM (aA s).2.1)) (Br.ite (!(aT (aJ (aM s).1) 80 ([47]:aa) (aA s).2.1 (aA s).2.2)) (a6 s) (Br.ret (AV.tup ((AV.agg ((AV.str (aJ (aM s).1))::((AV.int .i64 80)::((AV.str ([47]:aa))::(dU s)))))::((AV.bool true)::[]))) [])) Br.fail) (Br.ite (isM (aA s).1) (Br.ite (((isM (aJ (aM s).1))&&(isM (aS (aA s).1)))&&(isM (aA s).2.1)) (Br.ite (!(aT (aJ (aM s).1) 80 (aS (aA s).1) (aA s).2.1 (aA s).2.2)) (a6 s) (Br.ret (AV.tup ((AV.agg ((AV.str (aJ (aM s).1))::((AV.int .i64 80)::((AV.str (aS (aA s).1))::(dU s)))))::((AV.bool true)::[]))) [])) Br.fail) Br.fail))) Br.fail) Br.fail) Br.fail) Br.fail) Br.fail) Br.fail) Br.fail)) Br.fail) Br.fail)) Br.fail) Br.fail)))) Br.fail))
def sZ:List AV→List Ob→Br
 | [.str s],[]=>jb s
 |_,_=>.fail
theorem iReadUrl_ok:Sound Kx 159 sZ:=ae (C:=GR) (O:=GQ) Tryz.func159 (by kernel_rfl) fun args objs=>by
 unfold sZ;split
 ·exact .inr (by kernel_rfl)
 ·exact .inl rfl
def GS:Opt:={split:=true}
def GT:SC:=[⟨183,_,mX⟩,⟨203,_,yg⟩,⟨157,_,jG⟩,⟨204,_,yC⟩,⟨205,_,sX⟩,⟨206,_,sY⟩]
abbrev aY (s:aa):=(aF (cut s 7 (s.length:Int)) 63)
abbrev bc (s:aa):=(Br.ret (AV.tup ((AV.agg ((AV.str ([]:aa))::((AV.int .i64 0)::((AV.str ([]:aa))::((AV.str ([]:aa))::((AV.bool false)::[]))))))::((AV.bool false)::[]))) [])
abbrev bn (s:aa):=(cut (cut s 7 (s.length:Int)) (ac (((List.length (aY s)):Int)+1)) ((List.length (cut s 7 (s.length:Int))):Int))
abbrev bd (s:aa):=(cut (aY s) ((List.length (aF (aY s) 47)):Int) ((List.length (aY s)):Int))
abbrev bL (s:aa):=(f6 (cut (aF (aY s) 47) (ac (((List.length (aF (aF (aY s) 47) 58)):Int)+1)) ((List.length (aF (aY s) 47)):Int)))
abbrev aC (s:aa):=(aJ (aF (aF (aY s) 47) 58))
abbrev aZ (s:aa):=((List.length (aY s)):Int)
abbrev bV (s:aa):=((List.length (aF (aY s) 47)):Int)
abbrev bW (s:aa):=((List.length (cut s 7 (s.length:Int))):Int)
def jc (s:aa):Br:=(Br.ite (decide (200< (s.length:Int))) (bc s) (Br.ite (decide ((s.length:Int)<8)) (bc s) (Br.ite (isM s) (Br.ite (!((bb b8 s)&&(decide (0< (s.length:Int))))) (bc s) (Br.ite (isM s) (Br.ite (!(decide ((aF s 35)=s))) (bc s) (Br.ite (decide (7≤(s.length:Int))) (Br.ite (isM (cut s 0 7)) (Br.ite (!(decide ((aJ (cut s 0 7))=([104,116,116,112,58,47,47]:aa)))) (bc s) (Br.ite (decide (7≤(s.length:Int))) (Br.ite (isM (cut s 7 (s.length:Int))) (Br.ite (isM (aY s)) (Br.ite (isM (aF (aY s) 47)) (Br.ite (isM (aF (aF (aY s) 47) 58)) (Br.ite (decide (((List.length (aF (aF (aY s) 47) 58)):Int)< (bV s))) (Br.ite (decide (0≤(ac (((List.length (aF (aF (aY s) 47) 58)):Int)+1)))) (Br.ite (decide ((ac (((List.length (aF (aF (aY s) 47) 58)):Int)+1))≤(bV s))) (Br.ite (!(bL s).2) (bc s) (Br.ite (decide ((bV s)< (aZ s))) (Br.ite (decide (0≤(bV s))) (Br.ite (decide ((bV s)≤(aZ s))) (Br.ite (isM (bd s)) (Br.ite (decide ((aZ s)< (bW s))) (Br.ite (decide (0≤(ac ((aZ s)+1)))) (Br.ite (decide ((ac ((aZ s)+1))≤(bW s))) (Br.ite (((isM (aC s))&&(isM (aS (bd s))))&&(isM (bn s))) (Br.ite (!(aT (aC s) (bL s).1 (aS (bd s)) (bn s) true)) (bc s) (Br.ret (AV.tup ((AV.agg ((AV.str (aC s))::((AV.int .i64 (bL s).1)::((AV.str (aS (bd s)))::((AV.str (bn s))::((AV.bool true)::[]))))))::((AV.bool true)::[]))) [])) Br.fail) Br.fail) Br.fail) (Br.ite (((isM (aC s))&&(isM (aS (bd s))))&&true) (Br.ite (!(aT (aC s) (bL s).1 (aS (bd s)) ([]:aa) false)) (bc s) (Br.ret (AV.tup ((AV.agg ((AV.str (aC s))::((AV.int .i64 (bL s).1)::((AV.str (aS (bd s)))::((AV.str ([]:aa))::((AV.bool false)::[]))))))::((AV.bool true)::[]))) [])) Br.fail)) Br.fail) Br.fail) Br.fail) (Br.ite (decide ((aZ s)< (bW s))) (Br.ite (decide (0≤(ac ((aZ s)+1)))) (Br.ite (decide ((ac ((aZ s)+1))≤(bW s))) (Br.ite (((isM (aC s))&&true)&&(isM (bn s))) (Br.ite (!(aT (aC s) (bL s).1 ([47]:aa) (bn s) true)) (bc s) (Br.ret (AV.tup ((AV.agg ((AV.str (aC s))::((AV.int .i64 (bL s).1)::((AV.str ([47]:aa))::((AV.str (bn s))::((AV.bool true)::[]))))))::((AV.bool true)::[]))) [])) Br.fail) Br.fail) Br.fail) (Br.ite (((isM (aC s))&&true)&&true) (Br.ite (!(aT (aC s) (bL s).1 ([47]:aa) ([]:aa) false)) (bc s) (Br.ret (AV.tup ((AV.agg ((AV.str (aC s))::((AV.int .i64 (bL s).1)::((AV.str ([47]:aa))::((AV.str ([]:aa))::((AV.bool false)::[]))))))::((AV.bool true)::[]))) [])) Br.fail)))) Br.fail) Br.fail) (Br.ite (decide ((bV s)< (aZ s))) (Br.ite (decide (0≤(bV s))) (Br.ite (decide ((bV s)≤(aZ s))) (Br.ite (isM (bd s)) (Br.ite (decide ((aZ s)< (bW s))) (Br.ite (decide (0≤(ac ((aZ s)+1)))) (Br.ite (decide ((ac ((aZ s)+1))≤(bW s))) (Br.ite (((isM (aC s))&&(isM (aS (bd s))))&&(isM (bn s))) (Br.ite (!(aT (aC s) 80 (aS (bd s)) (bn s) true)) (bc s) (Br.ret (AV.tup ((AV.agg ((AV.str (aC s))::((AV.int .i64 80)::((AV.str (aS (bd s)))::((AV.str (bn s))::((AV.bool true)::[]))))))::((AV.bool true)::[]))) [])) Br.fail) Br.fail) Br.fail) (Br.ite (((isM (aC s))&&(isM (aS (bd s))))&&true) (Br.ite (!(aT (aC s) 80 (aS (bd s)) ([]:aa) false)) (bc s) (Br.ret (AV.tup ((AV.agg ((AV.str (aC s))::((AV.int .i64 80)::((AV.str (aS (bd s)))::((AV.str ([]:aa))::((AV.bool false)::[]))))))::((AV.bool true)::[]))) [])) Br.fail)) Br.fail) Br.fail) Br.fail) (Br.ite (decide ((aZ s)< (bW s))) (Br.ite (decide (0≤(ac ((aZ s)+1)))) (Br.ite (decide ((ac ((aZ s)+1))≤(bW s))) (Br.ite (((isM (aC s))&&true)&&(isM (bn s))) (Br.ite (!(aT (aC s) 80 ([47]:aa) (bn s) true)) (bc s) (Br.ret (AV.tup ((AV.agg ((AV.str (aC s))::((AV.int .i64 80)::((AV.str ([47]:aa))::((AV.str (bn s))::((AV.bool true)::[]))))))::((AV.bool true)::[]))) [])) Br.fail) Br.fail) Br.fail) (Br.ite (((isM (aC s))&&true)&&true) (Br.ite (!(aT (aC s) 80 ([47]:aa) ([]:aa) false)) (bc s) (Br.ret (AV.tup ((AV.agg ((AV.str (aC s))::((AV.int .i64 80)::((AV.str ([47]:aa))::((AV.str ([]:aa))::((AV.bool false)::[]))))))::((AV.bool true)::[]))) [])) Br.fail)))) Br.fail) Br.fail) Br.fail) Br.fail) Br.fail)) Br.fail) Br.fail)) Br.fail)) Br.fail)))
def s0:List AV→List Ob→Br
 | [.str s],[]=>jc s
 |_,_=>.fail
theorem sReadUrl_ok:Sound Kx 146 s0:=ae (C:=GT) (O:=GS) Tryz.func146 (by kernel_rfl) fun args objs=>by
 unfold s0;split
 ·exact .inr (by kernel_rfl)
 ·exact .inl rfl
def GU:Opt:={split:=true}
def GV:SC:=[⟨206,_,sY⟩,⟨208,_,yR⟩]
def jd (h:aa) (po:Int) (pa q:aa) (hq:Bool):Br:=(Br.ite (((isM h)&&(isM pa))&&(isM q)) (Br.ite (!(aT h po pa q hq)) (Br.ret (AV.str ([]:aa)) []) (Br.ite (smU h po pa q) (Br.ret (AV.str (qy h po pa q hq)) []) Br.fail)) Br.fail)
def s7:List AV→List Ob→Br
 | [.agg [.str h,.int .i64 po,.str pa,.str q,.bool hq]],[]=>jd h po pa q hq
 |_,_=>.fail
theorem Bx:Sound Kx 149 s7:=ae (C:=GV) (O:=GU) Tryz.func149 (by kernel_rfl) fun args objs=>by
 unfold s7;split
 ·exact .inr (by kernel_rfl)
 ·exact .inl rfl
theorem yT (b:Int): ∀(r:aa) (k:Nat),k≤(aF r b).length→aF (r.drop k) b=(aF r b).drop k
 |r,0,_=>rfl
 | [],k+1,h=>by simp [aF]at h
 |x::r,k+1,h=>by
  have ih:=yT b r k
  unfold aF at ih h⊢
  rw [List.takeWhile_cons]at h⊢
  cases c:decide (by8 x=b)
  ·rw [c]at h
   simp only [Bool.not_false,if_true,List.length_cons]at h⊢
   rw [List.drop_succ_cons,List.drop_succ_cons]
   exact ih (by omega)
  ·rw [c]at h;simp at h
theorem je {l:aa} {k:Nat} {i:Int} (h:i=(k:Int)):cut l i (l.length:Int)=l.drop k:=by
 subst h;unfold cut;simp
theorem vc {l:aa} {k:Nat} {i:Int} (h:i=(k:Int)):cut l 0 i=l.take k:=by
 subst h;unfold cut;simp
theorem KJ (a b:Nat):decide ((a:Int)< (b:Int))=decide (a<b):=by
 rw [Bool.eq_iff_iff,decide_eq_true_eq,decide_eq_true_eq];omega
theorem yU (p:aa):(aS p).length≤1000:=by
 cases p with
 |nil=>exact Nat.zero_le _
 |cons c r=>
  by_cases hc:c=47
  ·subst hc
   rw [j5]
   cases ho:l8 (47::r)
   ·exact Nat.zero_le _
   ·unfold l8 at ho
    simp only [Bool.and_eq_true,decide_eq_true_eq,List.length_cons]at ho
    have h1:=Bt r (by omega)
    have h2:=lh (f7 (cQ r) 47)
    have h3:=Eb (i6 (f7 (cQ r) 47))
    simp only [cond_true,List.length_cons];omega
  ·rw [gY c r hc];exact Nat.zero_le _
def urA (u:Ur):AV:=.agg [.str u.h,.int .i64 u.po,.str u.pa,.str u.q,.bool u.hq]
theorem dl {s:aa} (h:sz s=false):aX s=(u0,false):=by unfold aX;rw [h];rfl
theorem pL {s:aa} (h:sz s=true):aX s=bif(Gy (qO (s.drop 7))).2&&(NH (s.drop 7)).ok then(NH (s.drop 7),true)else(u0,false):=by
 unfold aX;rw [h,Bool.true_and]
theorem md (s:aa):sz s=(decide (s.length≤200)&&decide (7≤s.length)&&bb b8 s&& !cS s 35&&decide (aJ (s.take 7)=uX)):=rfl
theorem NW:(NH []).ok=false:=by
 unfold NH Ur.ok aT
 have e:ii (aJ (aF (qO []) 58))=false:=rfl
 simp only [e,Bool.false_and]
def TT:List AV→List Ob→Br:=mC fun s=>.tup [urA (aX s).1,.bool (aX s).2]
theorem yV:Sound Kx 146 TT:=sReadUrl_ok.of fun args objs r h=>by
 unfold TT mC at h
 split at h
 case h_2=>cases h
 rename_i s
 obtain⟨hM,h2⟩:=af h
 cases h2
 show(jc s).val=some (.tup [urA (aX s).1,.bool (aX s).2],[])
 unfold jc bW bV aZ aC bL bd bn bc aY
 have hok:=md s
 cases d1:decide ((200:Int)< (s.length:Int))
 case true=>
  have:=of_decide_eq_true d1
  rw [dF' (show ¬s.length≤200 by omega)]at hok
  rw [dl (by rw [hok];rfl)];rfl
 have d1':=of_decide_eq_false d1
 rw [dT' (show s.length≤200 by omega)]at hok
 cases d2:decide ((s.length:Int)<8)
 case true=>
  have d2':=of_decide_eq_true d2
  refine(bl rfl).trans ((aR rfl).trans ?_)
  have:aX s=(u0,false):=by
   cases hr:sz s
   ·exact dl hr
   ·rw [pL hr]
    rw [hok]at hr
    simp only [Bool.and_eq_true,decide_eq_true_eq]at hr
    have e:s.drop 7=[]:=List.drop_eq_nil_of_le (by omega)
    rw [e,NW,Bool.and_false];rfl
  rw [this];rfl
 have d2':=of_decide_eq_false d2
 rw [dT' (show 7≤s.length by omega)]at hok
 rw [hM,nl,dT' (show(0:Int)< (s.length:Int) by omega),dT' (show(7:Int)≤(s.length:Int) by omega),show cut s 0 7=s.take 7 from vc (k:=7) rfl,show cut s 7 (s.length:Int)=s.drop 7 from je (k:=7) rfl]
 cases d3:bb b8 s
 ·rw [d3]at hok
  rw [dl (by rw [hok];rfl)];rfl
 rw [d3]at hok
 cases d4:cS s 35
 case true=>
  rw [d4]at hok
  rw [dl (by rw [hok];rfl)];rfl
 rw [d4]at hok
 have e7:isM (s.take 7)=true:=aW (n:=7) (by rw [List.length_take];exact Nat.min_le_left _ _)
 rw [e7]
 cases d5:decide (aJ (s.take 7)=[104,116,116,112,58,47,47])
 ·rw [show decide (aJ (s.take 7)=uX)=false from d5]at hok
  rw [dl (by rw [hok];rfl)];rfl
 rw [show decide (aJ (s.take 7)=uX)=true from d5]at hok
 rw [pL (by rw [hok];rfl)]
 generalize hr:s.drop 7=r
 have hrl:r.length≤200:=by rw [←hr,List.length_drop];omega
 refine(bl rfl).trans ((bl rfl).trans ((aR rfl).trans ((bl rfl).trans ((aR rfl).trans ((bl rfl).trans ((aR rfl).trans ((aR rfl).trans ((bl rfl).trans ((aR rfl).trans ?_)))))))))
 unfold NH QR Gy qO l9 Ur.ok urA
 have lF:=fM r 63
 generalize hF:aF r 63=F at lF
 have lA:=fM F 47
 generalize hA:aF F 47=A at lA
 have lH:=fM A 58
 generalize hH:aF A 58=H at lH
 have w1:ac ((H.length:Int)+1)=((H.length+1:Nat):Int):=by rw [w64 (by omega) (by omega)];rfl
 have w2:ac ((F.length:Int)+1)=((F.length+1:Nat):Int):=by rw [w64 (by omega) (by omega)];rfl
 have m1:isM r=true:=aW (n:=200) (by omega)
 have m2:isM F=true:=aW (n:=200) (by omega)
 have m3:isM A=true:=aW (n:=200) (by omega)
 have m4:isM H=true:=aW (n:=200) (by omega)
 have m5:isM (aJ H)=true:=aW (n:=200) (by rw [om];omega)
 have m6: ∀p,isM (aS p)=true:=fun p=>aW (n:=1000) (yU p)
 have m7:isM (F.drop A.length)=true:=aW (n:=200) (by rw [List.length_drop];omega)
 have m8:isM (r.drop (F.length+1))=true:=aW (n:=200) (by rw [List.length_drop];omega)
 have q0: ∀n:Nat,decide ((0:Int)≤(n:Int))=true:=fun n=>dT' (by omega)
 have qA:decide ((A.length:Int)≤(F.length:Int))=true:=dT' (by omega)
 rw [m1,m2,m3,m4,w1,w2,je (l:=A) rfl,je (l:=F) rfl,je (l:=r) rfl,m5,m7,m8,KJ,KJ,KJ,q0,q0,q0,qA]
 simp only [m6]
 cases t1:decide (H.length<A.length)
 ·cases t2:decide (A.length<F.length)
  ·cases t3:decide (F.length<r.length)
   ·simp only [Br.val,cond_true,cond_false,Bool.and_true,Bool.true_and]
    cases aT (aJ H) 80 [47] [] false<;>rfl
   ·have t3':=of_decide_eq_true t3
    rw [dT' (show((F.length+1:Nat):Int)≤(r.length:Int) by omega)]
    simp only [Br.val,cond_true,cond_false,Bool.and_true,Bool.true_and]
    cases aT (aJ H) 80 [47] (r.drop (F.length+1)) true<;>rfl
  ·cases t3:decide (F.length<r.length)
   ·simp only [Br.val,cond_true,cond_false,Bool.and_true,Bool.true_and]
    cases aT (aJ H) 80 (aS (F.drop A.length)) [] false<;>rfl
   ·have t3':=of_decide_eq_true t3
    rw [dT' (show((F.length+1:Nat):Int)≤(r.length:Int) by omega)]
    simp only [Br.val,cond_true,cond_false,Bool.and_true,Bool.true_and]
    cases aT (aJ H) 80 (aS (F.drop A.length)) (r.drop (F.length+1)) true<;>rfl
 ·have t1':=of_decide_eq_true t1
  rw [dT' (show((H.length+1:Nat):Int)≤(A.length:Int) by omega)]
  cases t4:(f6 (A.drop (H.length+1))).2
  ·simp only [Br.val,cond_true,cond_false,Bool.false_and,t4,Bool.not_false];rfl
  ·cases t2:decide (A.length<F.length)
   ·cases t3:decide (F.length<r.length)
    ·simp only [Br.val,cond_true,cond_false,Bool.and_true,Bool.true_and,t4,Bool.not_true]
     cases aT (aJ H) (f6 (A.drop (H.length+1))).1 [47] [] false<;>rfl
    ·have t3':=of_decide_eq_true t3
     rw [dT' (show((F.length+1:Nat):Int)≤(r.length:Int) by omega)]
     simp only [Br.val,cond_true,cond_false,Bool.and_true,Bool.true_and,t4,Bool.not_true]
     cases aT (aJ H) (f6 (A.drop (H.length+1))).1 [47] (r.drop (F.length+1)) true<;>rfl
   ·cases t3:decide (F.length<r.length)
    ·simp only [Br.val,cond_true,cond_false,Bool.and_true,Bool.true_and,t4,Bool.not_true]
     cases aT (aJ H) (f6 (A.drop (H.length+1))).1 (aS (F.drop A.length)) [] false<;>rfl
    ·have t3':=of_decide_eq_true t3
     rw [dT' (show((F.length+1:Nat):Int)≤(r.length:Int) by omega)]
     simp only [Br.val,cond_true,cond_false,Bool.and_true,Bool.true_and,t4,Bool.not_true]
     cases aT (aJ H) (f6 (A.drop (H.length+1))).1 (aS (F.drop A.length)) (r.drop (F.length+1)) true<;>rfl
theorem KK (r:aa):r.take (aF (aF r 63) 47).length=aF (aF r 63) 47:=by
 have h1:=pq r 63
 have h2:=pq (aF r 63) 47
 have h3:=fM (aF r 63) 47
 calc r.take (aF (aF r 63) 47).length=(r.take (aF r 63).length).take (aF (aF r 63) 47).length:=by rw [List.take_take,Nat.min_eq_left h3]
  _=(aF r 63).take (aF (aF r 63) 47).length:=by rw [h1]
  _=aF (aF r 63) 47:=h2
theorem Q2 (r:aa):(decide (lf r [47,63]<0)=true→(aF (aF r 63) 47).length=r.length)∧(decide (lf r [47,63]<0)=false→lf r [47,63]=((aF (aF r 63) 47).length:Int)):=by
 rw [i7,show by8 47=47 from rfl,show by8 63=63 from rfl]
 cases h:cS r 47||cS r 63
 ·rw [cond_false]
  rw [Bool.or_eq_false_iff]at h
  have h1:aF r 63=r:=by have:=nl r 63;rw [h.2]at this;exact of_decide_eq_true this
  have h2:aF r 47=r:=by have:=nl r 47;rw [h.1]at this;exact of_decide_eq_true this
  rw [h1,h2]
  exact⟨fun _=>rfl,fun e=>by simp at e⟩
 ·rw [cond_true]
  exact⟨fun e=>by have:=of_decide_eq_true e;omega,fun _=>rfl⟩
theorem Ek {l:aa} {k:Nat}:decide (l.drop k=[])= !decide (k<l.length):=by
 rw [Bool.eq_iff_iff];simp
theorem SO {a b:Nat} (h:a≤b):(!decide (a=b))=decide (a<b):=by
 rw [Bool.eq_iff_iff];simp;omega
theorem yW:Sound Kx 159 TT:=iReadUrl_ok.of fun args objs r h=>by
 unfold TT mC at h
 split at h
 case h_2=>cases h
 rename_i s
 obtain⟨hM,h2⟩:=af h
 cases h2
 show(jb s).val=some (.tup [urA (aX s).1,.bool (aX s).2],[])
 unfold jb dU dT ck bm aN aM a6 aB aA
 have hok:=md s
 cases d1:decide ((200:Int)< (s.length:Int))
 case true=>
  have:=of_decide_eq_true d1
  rw [dF' (show ¬s.length≤200 by omega)]at hok
  rw [dl (by rw [hok];rfl)];rfl
 have d1':=of_decide_eq_false d1
 rw [dT' (show s.length≤200 by omega)]at hok
 rw [hM]
 cases d3:bb b8 s
 ·rw [d3]at hok
  rw [dl (by rw [hok];simp)];rfl
 rw [d3]at hok
 cases d4:cS s 35
 case true=>
  rw [d4]at hok
  rw [dl (by rw [hok];simp)];rfl
 rw [d4]at hok
 cases d2:decide ((s.length:Int)<7)
 case true=>
  have d2':=of_decide_eq_true d2
  rw [dF' (show ¬7≤s.length by omega)]at hok
  rw [dl (by rw [hok];rfl)];rfl
 have d2':=of_decide_eq_false d2
 rw [dT' (show 7≤s.length by omega)]at hok
 rw [dT' (show(7:Int)≤(s.length:Int) by omega),show cut s 0 7=s.take 7 from vc (k:=7) rfl,show cut s 7 (s.length:Int)=s.drop 7 from je (k:=7) rfl]
 have e7:isM (s.take 7)=true:=aW (n:=7) (by rw [List.length_take];exact Nat.min_le_left _ _)
 rw [e7]
 cases d5:decide (aJ (s.take 7)=[104,116,116,112,58,47,47])
 ·rw [show decide (aJ (s.take 7)=uX)=false from d5]at hok
  rw [dl (by rw [hok];rfl)];rfl
 rw [show decide (aJ (s.take 7)=uX)=true from d5]at hok
 rw [pL (by rw [hok];rfl)]
 have hvis:bb b8 (s.drop 7)=true:=by
  have e:=DS b8 (s.take 7) (s.drop 7)
  rw [List.take_append_drop,d3]at e
  cases hh:bb b8 (s.drop 7)
  ·rw [hh,Bool.and_false]at e;cases e
  ·rfl
 have hasc:=Ku _ hvis
 generalize hr:s.drop 7=r at hasc
 have hrl:r.length≤200:=by rw [←hr,List.length_drop];omega
 have hend:=Q2 r
 have hat:=KK r
 have mr:decide (r.length≤1000000)=true:=dT' (by omega)
 refine(bl rfl).trans ((aR rfl).trans ((bl rfl).trans ((bl rfl).trans ((bl rfl).trans ((aR rfl).trans ((aR rfl).trans ((bl rfl).trans ((aR rfl).trans ((aR (by rw [mr,hasc];rfl)).trans ?_)))))))))
 unfold NH QR Gy qO l9 Ur.ok urA
 have lF:=fM r 63
 have ud:=yT 63 r (aF (aF r 63) 47).length (fM _ _)
 generalize hF:aF r 63=F at lF hend hat ud
 have lA:=fM F 47
 generalize hA:aF F 47=A at lA hend hat ud
 have lH:=fM A 58
 have ct:cut r 0 (A.length:Int)=A:=(vc rfl).trans hat
 have cd:cut r (A.length:Int) (r.length:Int)=r.drop A.length:=je rfl
 have x1:=ne 58 A
 rw [show by8 58=58 from rfl]at x1
 have x2:=ne 63 (r.drop A.length)
 rw [show by8 63=63 from rfl,ud]at x2
 generalize hH:aF A 58=H at lH x1
 have y1:(so A [58]).1=H:=by rw [x1]
 have y2:(so A [58]).2.1=A.drop (H.length+1):=by rw [x1]
 have y3:(so A [58]).2.2=decide (H.length<A.length):=by rw [x1];exact SO lH
 have z1:(so (r.drop A.length) [63]).1=F.drop A.length:=by rw [x2]
 have z2:(so (r.drop A.length) [63]).2.1=bif decide (F.length<r.length)then r.drop (F.length+1)else []:=by
  rw [x2]
  simp only [List.length_drop,List.drop_drop]
  cases t:decide (F.length<r.length)
  ·have:=of_decide_eq_false t
   rw [cond_false]
   exact List.drop_eq_nil_of_le (by omega)
  ·rw [cond_true]
   congr 1;omega
 have z3:(so (r.drop A.length) [63]).2.2=decide (F.length<r.length):=by
  rw [x2]
  simp only [List.length_drop]
  rw [SO (by omega),Bool.eq_iff_iff,decide_eq_true_eq,decide_eq_true_eq];omega
 have m4:isM H=true:=aW (n:=200) (by omega)
 have m5:isM (aJ H)=true:=aW (n:=200) (by rw [om];omega)
 have m6: ∀p,isM (aS p)=true:=fun p=>aW (n:=1000) (yU p)
 have m7:isM (F.drop A.length)=true:=aW (n:=200) (by rw [List.length_drop];omega)
 have m8:isM (bif decide (F.length<r.length)then r.drop (F.length+1)else [])=true:=by
  refine aW (n:=200) ?_
  cases decide (F.length<r.length)
  ·exact Nat.zero_le _
  ·rw [cond_true,List.length_drop];omega
 have q0: ∀n:Nat,decide ((0:Int)≤(n:Int))=true:=fun n=>dT' (by omega)
 have qA:decide ((A.length:Int)≤(r.length:Int))=true:=dT' (by omega)
 have q1:decide (A.length≤1000000)=true:=dT' (by omega)
 have q2:decide ((r.drop A.length).length≤1000000)=true:=dT' (by rw [List.length_drop];omega)
 have q3:decide ((A.drop (H.length+1)).length≤1000000)=true:=dT' (by rw [List.length_drop];omega)
 cases t0:decide (lf r [47,63]<0)
 ·rw [hend.2 t0]
  simp only [Br.val,cond_true,cond_false,q0,qA,ct,cd,q1,q2,y1,y2,y3,z1,z2,z3,m4,m5,m6,m7,m8,q3,Bool.and_self,Bool.and_true,Ek]
  cases t1:decide (H.length<A.length)
  ·cases t2:decide (A.length<F.length)
   ·simp only [Br.val,cond_true,cond_false,Bool.not_false,Bool.true_and]
    cases aT (aJ H) 80 [47] (bif decide (F.length<r.length)then r.drop (F.length+1)else []) (decide (F.length<r.length))<;>rfl
   ·simp only [Br.val,cond_true,cond_false,Bool.not_true,Bool.true_and]
    cases aT (aJ H) 80 (aS (F.drop A.length)) (bif decide (F.length<r.length)then r.drop (F.length+1)else []) (decide (F.length<r.length))<;>rfl
  ·cases t4:(f6 (A.drop (H.length+1))).2
   ·simp only [Br.val,cond_true,cond_false,Bool.not_false,Bool.false_and,t4];rfl
   ·cases t2:decide (A.length<F.length)
    ·simp only [Br.val,cond_true,cond_false,Bool.not_false,Bool.not_true,Bool.true_and,t4]
     cases aT (aJ H) (f6 (A.drop (H.length+1))).1 [47] (bif decide (F.length<r.length)then r.drop (F.length+1)else []) (decide (F.length<r.length))<;>rfl
    ·simp only [Br.val,cond_true,cond_false,Bool.not_true,Bool.true_and,t4]
     cases aT (aJ H) (f6 (A.drop (H.length+1))).1 (aS (F.drop A.length)) (bif decide (F.length<r.length)then r.drop (F.length+1)else []) (decide (F.length<r.length))<;>rfl
 ·have hl:=hend.1 t0
  have ct2:cut r 0 (r.length:Int)=A:=by rw [hl]at ct;exact ct
  have cd2:cut r (r.length:Int) (r.length:Int)=r.drop A.length:=by
   rw [je (l:=r) (k:=r.length) rfl,hl]
  have qB:decide ((r.length:Int)≤(r.length:Int))=true:=dT' (Int.le_refl _)
  simp only [Br.val,cond_true,cond_false,q0,qB,ct2,cd2,q1,q2,y1,y2,y3,z1,z2,z3,m4,m5,m6,m7,m8,q3,Bool.and_self,Bool.and_true,Ek]
  cases t1:decide (H.length<A.length)
  ·cases t2:decide (A.length<F.length)
   ·simp only [Br.val,cond_true,cond_false,Bool.not_false,Bool.true_and]
    cases aT (aJ H) 80 [47] (bif decide (F.length<r.length)then r.drop (F.length+1)else []) (decide (F.length<r.length))<;>rfl
   ·simp only [Br.val,cond_true,cond_false,Bool.not_true,Bool.true_and]
    cases aT (aJ H) 80 (aS (F.drop A.length)) (bif decide (F.length<r.length)then r.drop (F.length+1)else []) (decide (F.length<r.length))<;>rfl
  ·cases t4:(f6 (A.drop (H.length+1))).2
   ·simp only [Br.val,cond_true,cond_false,Bool.not_false,Bool.false_and,t4];rfl
   ·cases t2:decide (A.length<F.length)
    ·simp only [Br.val,cond_true,cond_false,Bool.not_false,Bool.not_true,Bool.true_and,t4]
     cases aT (aJ H) (f6 (A.drop (H.length+1))).1 [47] (bif decide (F.length<r.length)then r.drop (F.length+1)else []) (decide (F.length<r.length))<;>rfl
    ·simp only [Br.val,cond_true,cond_false,Bool.not_true,Bool.true_and,t4]
     cases aT (aJ H) (f6 (A.drop (H.length+1))).1 (aS (F.drop A.length)) (bif decide (F.length<r.length)then r.drop (F.length+1)else []) (decide (F.length<r.length))<;>rfl
theorem yX:Sound Kx 149 (SN (fun h po pa q _=>isM h&&isM pa&&isM q) (fun h po pa q hq=>.str (bif aT h po pa q hq then qy h po pa q hq else []))):=KF Bx fun h po pa q hq hs=>by
 show(jd h po pa q hq).val=some (.str (bif aT h po pa q hq then qy h po pa q hq else []),[])
 unfold jd
 refine(aR hs).trans ?_
 cases ho:aT h po pa q hq
 ·rfl
 ·simp only [Bool.and_eq_true]at hs
  have ho':=ho
  unfold aT at ho'
  simp only [Bool.and_eq_true,Bool.not_eq_true',decide_eq_false_iff_not]at ho'
  obtain⟨⟨⟨⟨⟨⟨⟨h1,h2,h3⟩,h4⟩,h5⟩,_⟩,_⟩,_⟩,_⟩:=ho'
  exact(bl rfl).trans ((aR (Ej h1 h2 h3 (dF' h4) h5 hs.2)).trans rfl)
def NX:SC:=[⟨159,_,yW⟩,⟨160,_,yQ⟩]
def pM (s:aa):Br:=(Br.ite (isM s) (Br.ite (!(aX s).2) (Br.ret (AV.tup ((AV.str ([]:aa))::((AV.bool false)::[]))) []) (Br.ite (smU (aX s).1.1 (aX s).1.2 (aX s).1.3 (aX s).1.4) (Br.ret (AV.tup ((AV.str (qy (aX s).1.1 (aX s).1.2 (aX s).1.3 (aX s).1.4 (aX s).1.5))::((AV.bool true)::[]))) []) Br.fail)) Br.fail)
def El:List AV→List Ob→Br
 | [.str s],[]=>pM s
 |_,_=>.fail
theorem iCanon_ok:Sound Kx 106 El:=ae (C:=NX) (O:=O0) Tryz.func106 (by kernel_rfl) fun args objs=>by
 unfold El;split
 ·exact .inr (by kernel_rfl)
 ·exact .inl rfl
def NY:SC:=[⟨146,_,yV⟩,⟨149,_,yX⟩]
def pN (s:aa):Br:=(Br.ite (isM s) (Br.ite (!(aX s).2) (Br.ret (AV.tup ((AV.str ([]:aa))::((AV.bool false)::[]))) []) (Br.ite (((isM (aX s).1.1)&&(isM (aX s).1.3))&&(isM (aX s).1.4)) (Br.ret (AV.tup ((AV.str (bif(aT (aX s).1.1 (aX s).1.2 (aX s).1.3 (aX s).1.4 (aX s).1.5)then(qy (aX s).1.1 (aX s).1.2 (aX s).1.3 (aX s).1.4 (aX s).1.5)else([]:aa)))::((AV.bool true)::[]))) []) Br.fail)) Br.fail)
def Em:List AV→List Ob→Br
 | [.str s],[]=>pN s
 |_,_=>.fail
theorem sCanon_ok:Sound Kx 121 Em:=ae (C:=NY) (O:=O0) Tryz.func121 (by kernel_rfl) fun args objs=>by
 unfold Em;split
 ·exact .inr (by kernel_rfl)
 ·exact .inl rfl
theorem Eo {s:aa} (h:(aX s).2=true):(aX s).1.ok=true:=by
 unfold aX at h⊢
 cases c:sz s&&(Gy (qO (s.drop 7))).2&&(NH (s.drop 7)).ok
 ·rw [c]at h;cases h
 ·rw [cond_true]
  simp only [Bool.and_eq_true]at c
  exact c.2
theorem Ep {h:aa} {po:Int} {pa q:aa} {hq:Bool} (ho:aT h po pa q hq=true):ii h=true∧decide (1≤po)=true∧decide (po≤65535)=true∧decide (pa=[])=false∧decide (aS pa=pa)=true∧(qy h po pa q hq).length≤200:=by
 unfold aT at ho
 simp only [Bool.and_eq_true,Bool.not_eq_true',decide_eq_false_iff_not]at ho
 obtain⟨⟨⟨⟨⟨⟨⟨h1,h2,h3⟩,h4⟩,h5⟩,_⟩,_⟩,_⟩,h8⟩:=ho
 exact⟨h1,h2,h3,dF' h4,h5,of_decide_eq_true h8⟩
theorem Ul {h:aa} {po:Int} {pa q:aa} {hq:Bool} (ho:aT h po pa q hq=true):q.length≤200:=by
 have hl:=(Ep ho).2.2.2.2.2
 unfold aT at ho
 simp only [Bool.and_eq_true,Bool.or_eq_true,decide_eq_true_eq]at ho
 rcases ho.1.2 with h'|h'
 ·subst h'
  have:=Pu h po pa q;omega
 ·rw [h'];exact Nat.zero_le _
theorem Er {u:Ur} (ho:u.ok=true):smU u.h u.po u.pa u.q=true∧(isM u.h&&isM u.pa&&isM u.q)=true:=by
 unfold Ur.ok at ho
 obtain⟨h1,h2,h3,h4,h5,_⟩:=Ep ho
 have hq:isM u.q=true:=aW (n:=200) (Ul ho)
 have a:=Ei h1
 have b:=yS (of_decide_eq_true h5) (of_decide_eq_false h4)
 exact⟨Ej h1 h2 h3 h4 h5 hq,by rw [hq,aW (n:=60) a,aW (n:=200) b];rfl⟩
def TU:List AV→List Ob→Br:=mC fun s=>.tup [.str (dx s).1,.bool (dx s).2]
theorem GW:Sound Kx 106 TU:=iCanon_ok.of fun args objs r h=>by
 unfold TU mC at h
 split at h
 case h_2=>cases h
 rename_i s
 obtain⟨hM,h2⟩:=af h
 cases h2
 show(pM s).val=some (.tup [.str (dx s).1,.bool (dx s).2],[])
 unfold pM dx
 refine(aR hM).trans ?_
 cases c:(aX s).2
 ·rfl
 ·exact(bl rfl).trans ((aR (Er (Eo c)).1).trans rfl)
theorem GX:Sound Kx 121 TU:=sCanon_ok.of fun args objs r h=>by
 unfold TU mC at h
 split at h
 case h_2=>cases h
 rename_i s
 obtain⟨hM,h2⟩:=af h
 cases h2
 show(pN s).val=some (.tup [.str (dx s).1,.bool (dx s).2],[])
 unfold pN dx
 refine(aR hM).trans ?_
 cases c:(aX s).2
 ·rfl
 ·have ho:=Eo c
  have ho':aT (aX s).1.h (aX s).1.po (aX s).1.pa (aX s).1.q (aX s).1.hq=true:=ho
  refine(bl rfl).trans ((aR (Er ho).2).trans ?_)
  rw [ho'];rfl
def NZ:SC:=[⟨106,_,GW⟩]
def pO (s:aa):Br:=(Br.ite (isM s) (Br.ite (dx s).2 (Br.ret (AV.bool (decide ((dx s).1=s))) []) (Br.ret (AV.bool false) [])) Br.fail)
def Es:List AV→List Ob→Br
 | [.str s],[]=>pO s
 |_,_=>.fail
theorem iIsCan_ok:Sound Kx 87 Es:=ae (C:=NZ) (O:=O0) Tryz.func87 (by kernel_rfl) fun args objs=>by
 unfold Es;split
 ·exact .inr (by kernel_rfl)
 ·exact .inl rfl
def N0:SC:=[⟨121,_,GX⟩]
def pP (s:aa):Br:=(Br.ite (isM s) (Br.ite (dx s).2 (Br.ret (AV.bool (decide ((dx s).1=s))) []) (Br.ret (AV.bool false) [])) Br.fail)
def Et:List AV→List Ob→Br
 | [.str s],[]=>pP s
 |_,_=>.fail
theorem sIsCan_ok:Sound Kx 80 Et:=ae (C:=N0) (O:=O0) Tryz.func80 (by kernel_rfl) fun args objs=>by
 unfold Et;split
 ·exact .inr (by kernel_rfl)
 ·exact .inl rfl
def Q3:SC:=[⟨124,_,cm⟩]
def N1 (n:Int):Br:=(Br.ite (decide (0≤n)) (Br.ret (AV.bool (decide (n≤253402300799))) []) (Br.ret (AV.bool false) []))
def KL:List AV→List Ob→Br
 | [.int .i64 n],[]=>N1 n
 |_,_=>.fail
theorem N2:Sound Kx 88 KL:=ae (C:=Q3) (O:=O0) Tryz.func88 (by kernel_rfl) fun args objs=>by
 unfold KL;split
 ·exact .inr (by kernel_rfl)
 ·exact .inl rfl
def N3 (n:Int):Br:=(Br.ite (decide (0≤n)) (Br.ret (AV.bool (decide (n≤253402300799))) []) (Br.ret (AV.bool false) []))
def KM:List AV→List Ob→Br
 | [.int .i64 n],[]=>N3 n
 |_,_=>.fail
theorem N4:Sound Kx 81 KM:=ae (C:=[]) (O:=O0) Tryz.func81 (by kernel_rfl) fun args objs=>by
 unfold KM;split
 ·exact .inr (by kernel_rfl)
 ·exact .inl rfl
def N5:SC:=[⟨90,_,sk⟩,⟨141,_,Dn⟩]
def pQ (me ta:aa) (st:Int) (re:aa) (ba:Bool) (fs:List Fd) (bo:aa):Br:=(Br.ite (!(cU me ta st re ba fs bo)) (Br.ret (AV.str ([]:aa)) []) (Br.ite (hdG me ta st re fs bo) (Br.ite (decide (((List.length (dS me ta st re ba fs bo))+bo.length)≤9223372036854775807)) (Br.ret (AV.str ((dS me ta st re ba fs bo)++bo)) []) Br.fail) Br.fail))
def Eu:List AV→List Ob→Br
 | [.agg [.str me,.str ta,.int .i64 st,.str re,.bool ba,.sh (.pair .str .str) fs,.str bo]],[]=>pQ me ta st re ba fs bo
 |_,_=>.fail
theorem KN:Sound Kx 107 Eu:=ae (C:=N5) (O:=O0) Tryz.func107 (by kernel_rfl) fun args objs=>by
 unfold Eu;split
 ·exact .inr (by kernel_rfl)
 ·exact .inl rfl
def N6:SC:=[⟨83,_,sn⟩,⟨129,_,xT⟩]
def pR (me ta:aa) (st:Int) (re:aa) (ba:Bool) (fs:List Fd) (bo:aa):Br:=(Br.ite (!(cU me ta st re ba fs bo)) (Br.ret (AV.str ([]:aa)) []) (Br.ite (hdG me ta st re fs bo) (Br.ite (decide (((List.length (dS me ta st re ba fs bo))+bo.length)≤9223372036854775807)) (Br.ret (AV.str ((dS me ta st re ba fs bo)++bo)) []) Br.fail) Br.fail))
def Ew:List AV→List Ob→Br
 | [.agg [.str me,.str ta,.int .i64 st,.str re,.bool ba,.sh (.pair .str .str) fs,.str bo]],[]=>pR me ta st re ba fs bo
 |_,_=>.fail
theorem KO:Sound Kx 118 Ew:=ae (C:=N6) (O:=O0) Tryz.func118 (by kernel_rfl) fun args objs=>by
 unfold Ew;split
 ·exact .inr (by kernel_rfl)
 ·exact .inl rfl
def KP:SC:=[⟨44,_,lQ⟩,⟨45,_,Jn⟩]
def li (ur:aa) (t1 t2:Int) (ak:List Fd) (me ta:aa) (st:Int) (re:aa) (ba:Bool) (fs:List Fd) (bo:aa) (left:Int):Br:=(Br.ite (decide ((ac (left-(ur.length:Int)))<0)) (Br.ret (AV.int .i64 (-1)) []) (Br.ite ((smF ak)&&(bZ (ac (left-(ur.length:Int))))) (Br.ite (decide ((I_ ak (ac (left-(ur.length:Int))))<0)) (Br.ret (AV.int .i64 (-1)) []) (Br.ite ((smM me ta re fs bo)&&(bZ (I_ ak (ac (left-(ur.length:Int)))))) (Br.ite (decide ((szM (Jm me ta re fs bo) (I_ ak (ac (left-(ur.length:Int)))))<0)) (Br.ret (AV.int .i64 (-1)) []) (Br.ret (AV.int .i64 (szM (Jm me ta re fs bo) (I_ ak (ac (left-(ur.length:Int)))))) [])) Br.fail)) Br.fail))
def yY:List AV→List Ob→Br
 | [.agg [.str ur,.int .i64 t1,.int .i64 t2,.sh (.pair .str .str) ak,.str me,.str ta,.int .i64 st,.str re,.bool ba,.sh (.pair .str .str) fs,.str bo],.int .i64 left],[]=>li ur t1 t2 ak me ta st re ba fs bo left
 |_,_=>.fail
theorem szEntry_ok:Sound Kx 15 yY:=ae (C:=KP) (O:=O0) Tryz.func15 (by kernel_rfl) fun args objs=>by
 unfold yY;split
 ·exact .inr (by kernel_rfl)
 ·exact .inl rfl
def KQ:SC:=[⟨48,_,lR⟩,⟨49,_,Nq⟩]
def GY (ur:aa) (t1 t2:Int) (ak:List Fd) (me ta:aa) (st:Int) (re:aa) (ba:Bool) (fs:List Fd) (bo:aa):Br:=(Br.ite (decide (ak.length≤1048576)) (Br.ite (decide (fs.length≤1048576)) (Br.ret (AV.agg ((AV.str ur)::((AV.int .i64 t1)::((AV.int .i64 t2)::((AV.ref 0 0)::((AV.str me)::((AV.str ta)::((AV.int .i64 st)::((AV.str re)::((AV.bool ba)::((AV.ref 1 0)::((AV.str bo)::[])))))))))))) ((Ob.arr (Ty.pair Ty.str Ty.str) 0 false ak)::((Ob.arr (Ty.pair Ty.str Ty.str) 0 false fs)::[]))) Br.fail) Br.fail)
def yZ:List AV→List Ob→Br
 | [.agg [.str ur,.int .i64 t1,.int .i64 t2,.sh (.pair .str .str) ak,.str me,.str ta,.int .i64 st,.str re,.bool ba,.sh (.pair .str .str) fs,.str bo]],[]=>GY ur t1 t2 ak me ta st re ba fs bo
 |_,_=>.fail
theorem s8:Sound Kx 17 yZ:=ae (C:=KQ) (O:=O0) Tryz.func17 (by kernel_rfl) fun args objs=>by
 unfold yZ;split
 ·exact .inr (by kernel_rfl)
 ·exact .inl rfl
def KR:SC:=[⟨52,_,lS⟩,⟨53,_,Jo⟩]
def lj (ur:aa) (t1 t2:Int) (ak:List Fd) (me ta:aa) (st:Int) (re:aa) (ba:Bool) (fs:List Fd) (bo:aa) (ur':aa) (t1' t2':Int) (ak':List Fd) (me' ta':aa) (st':Int) (re':aa) (ba':Bool) (fs':List Fd) (bo':aa):Br:=(Br.ite (!(decide (ur=ur'))) (Br.ret (AV.bool false) []) (Br.ite (!(decide (t1=t1'))) (Br.ret (AV.bool false) []) (Br.ite (!(decide (t2=t2'))) (Br.ret (AV.bool false) []) (Br.ite (decide (ak.length≤4611686018427387904)) (Br.ite (!(decide (ak=ak'))) (Br.ret (AV.bool false) []) (Br.ite ((((((((decide (me=me'))&&(decide (ta=ta')))&&(decide (st=st')))&&(decide (re=re')))&&(decide (ba=ba')))&&(decide (fs=fs')))&&(decide (bo=bo')))&&(decide (fs.length≤1048576))) (Br.ret (AV.bool true) []) Br.fail)) Br.fail))))
def y5:List AV→List Ob→Br
 | [.agg [.str ur,.int .i64 t1,.int .i64 t2,.sh (.pair .str .str) ak,.str me,.str ta,.int .i64 st,.str re,.bool ba,.sh (.pair .str .str) fs,.str bo],.agg [.str ur',.int .i64 t1',.int .i64 t2',.sh (.pair .str .str) ak',.str me',.str ta',.int .i64 st',.str re',.bool ba',.sh (.pair .str .str) fs',.str bo']],[]=>lj ur t1 t2 ak me ta st re ba fs bo ur' t1' t2' ak' me' ta' st' re' ba' fs' bo'
 |_,_=>.fail
theorem eqEntry_ok:Sound Kx 19 y5:=ae (C:=KR) (O:=O0) Tryz.func19 (by kernel_rfl) fun args objs=>by
 unfold y5;split
 ·exact .inr (by kernel_rfl)
 ·exact .inl rfl
theorem GZ:Sound Kx 87 (mC fun s=>.bool (gr s)):=iIsCan_ok.of fun args objs r h=>by
 unfold mC at h
 split at h
 case h_2=>cases h
 rename_i s
 obtain⟨hM,h2⟩:=af h
 cases h2
 show(pO s).val=some (.bool (gr s),[])
 unfold pO gr
 refine(aR hM).trans ?_
 cases (dx s).2<;>rfl
theorem G0:Sound Kx 80 (mC fun s=>.bool (gr s)):=sIsCan_ok.of fun args objs r h=>by
 unfold mC at h
 split at h
 case h_2=>cases h
 rename_i s
 obtain⟨hM,h2⟩:=af h
 cases h2
 show(pP s).val=some (.bool (gr s),[])
 unfold pP gr
 refine(aR hM).trans ?_
 cases (dx s).2<;>rfl
theorem KS:Sound Kx 88 (Qr Hs):=Iy N2 fun b=>ui _ _
theorem KU:Sound Kx 81 (Qr Hs):=Iy N4 fun b=>ui _ _
def iu (m:Mg):aa:=bif cU m.1 m.2.1 m.2.2.1 m.2.2.2.1 m.2.2.2.2.1 m.2.2.2.2.2.1 m.2.2.2.2.2.2 then dS m.1 m.2.1 m.2.2.1 m.2.2.2.1 m.2.2.2.2.1 m.2.2.2.2.2.1 m.2.2.2.2.2.2++m.2.2.2.2.2.2 else []
theorem gZ {me ta re bo:aa} {st:Int} {ba:Bool} {fs:List Fd} (h:cU me ta st re ba fs bo=true):hdG me ta st re fs bo=true∧(dS me ta st re ba fs bo).length≤1500∧bo.length≤600:=by
 unfold cU at h
 simp only [Bool.and_eq_true,Bool.not_eq_true',decide_eq_true_eq,decide_eq_false_iff_not]at h
 obtain⟨⟨⟨⟨⟨h1,h2⟩,h3⟩,h4⟩,h5⟩,h6⟩:=h
 exact⟨Js h1 h3 h5,by omega,by omega⟩
def UO:List AV→List Ob→Br:=O8 fun m=>.str (iu m)
theorem G1:Sound Kx 107 UO:=Nl KN fun me ta st re ba fs bo=>by
 show(pQ me ta st re ba fs bo).val=some (.str (iu (me,ta,st,re,ba,fs,bo)),[])
 unfold pQ iu
 simp only
 cases h:cU me ta st re ba fs bo
 ·rfl
 ·obtain⟨h1,h2,h3⟩:=gZ h
  exact(bl rfl).trans ((aR h1).trans ((aR (dT' (by omega))).trans rfl))
theorem G2:Sound Kx 118 UO:=Nl KO fun me ta st re ba fs bo=>by
 show(pR me ta st re ba fs bo).val=some (.str (iu (me,ta,st,re,ba,fs,bo)),[])
 unfold pR iu
 simp only
 cases h:cU me ta st re ba fs bo
 ·rfl
 ·obtain⟨h1,h2,h3⟩:=gZ h
  exact(bl rfl).trans ((aR h1).trans ((aR (dT' (by omega))).trans rfl))
theorem pS (m:Mg):(iu m).length≤2100:=by
 unfold iu
 cases h:cU m.1 m.2.1 m.2.2.1 m.2.2.2.1 m.2.2.2.2.1 m.2.2.2.2.2.1 m.2.2.2.2.2.2
 ·exact Nat.zero_le _
 ·obtain⟨_,h2,h3⟩:=gZ h
  rw [cond_true,List.length_append];omega
abbrev En:=aa×Int×Int×List Fd×Mg
@[match_pattern] abbrev EnT:Ty:=(.pair .str (.pair (.int .i64) (.pair (.int .i64) (.pair (.slice (.pair .str .str)) (.pair .str (.pair .str (.pair (.int .i64) (.pair .str (.pair .bool (.pair (.slice (.pair .str .str)) .str))))))))))
abbrev en0:En:=(([]:List UInt8),((0:Int),((0:Int),(([]:List (List UInt8×List UInt8)),(([]:List UInt8),(([]:List UInt8),((0:Int),(([]:List UInt8),(false,(([]:List (List UInt8×List UInt8)),([]:List UInt8)))))))))))
def TV (g:En→Bool) (p:En→AV):List AV→List Ob→Br
 | [.agg [.str ur,.int .i64 t1,.int .i64 t2,.sh (.pair .str .str) ak,.str me,.str ta,.int .i64 st,.str re,.bool ba,.sh (.pair .str .str) fs,.str bo]],[]=>
   .ite (g (ur,t1,t2,ak,me,ta,st,re,ba,fs,bo)) (.ret (p (ur,t1,t2,ak,me,ta,st,re,ba,fs,bo)) []) .fail
 |_,_=>.fail
theorem N7 {n:Nat} {s:List AV→List Ob→Br} (hs:Sound Kx n s) {g:En→Bool} {p:En→AV}
 (h: ∀ur t1 t2 ak me ta st re ba fs bo,g (ur,t1,t2,ak,me,ta,st,re,ba,fs,bo)=true→(s [.agg [.str ur,.int .i64 t1,.int .i64 t2,.sh (.pair .str .str) ak,.str me,.str ta,.int .i64 st,.str re,.bool ba,.sh (.pair .str .str) fs,.str bo]] []).val=some (p (ur,t1,t2,ak,me,ta,st,re,ba,fs,bo),[])):Sound Kx n (TV g p):=hs.of fun args objs r hv=>by
 unfold TV at hv
 split at hv
 case h_2=>cases hv
 obtain⟨h1,h2⟩:=af hv
 cases h2
 exact h _ _ _ _ _ _ _ _ _ _ _ h1
def smE (e:En):Bool:=isM e.1&&smF e.2.2.2.1&&smM e.2.2.2.2.1 e.2.2.2.2.2.1 e.2.2.2.2.2.2.2.1 e.2.2.2.2.2.2.2.2.2.1 e.2.2.2.2.2.2.2.2.2.2
def enW (e:En):Int:=(e.1.length:Int)+((e.2.2.2.1.length:Int)+f8 e.2.2.2.1)+Jm e.2.2.2.2.1 e.2.2.2.2.2.1 e.2.2.2.2.2.2.2.1 e.2.2.2.2.2.2.2.2.2.1 e.2.2.2.2.2.2.2.2.2.2
theorem KV (me ta re:aa) (fs:List Fd) (bo:aa):0≤Jm me ta re fs bo:=by
 have:=fJ fs
 unfold Jm;omega
def SQ:List AV→List Ob→Br
 | [.agg [.str ur,.int .i64 t1,.int .i64 t2,.sh (.pair .str .str) ak,.str me,.str ta,.int .i64 st,.str re,.bool ba,.sh (.pair .str .str) fs,.str bo],.int .i64 left],[]=>
   .ite (smE (ur,t1,t2,ak,me,ta,st,re,ba,fs,bo)&&bZ left) (.ret (.int .i64 (szM (enW (ur,t1,t2,ak,me,ta,st,re,ba,fs,bo)) left)) []) .fail
 |_,_=>.fail
theorem pT:Sound Kx 15 SQ:=szEntry_ok.of fun args objs r h=>by
 unfold SQ at h
 split at h
 case h_2=>cases h
 rename_i ur t1 t2 ak me ta st re ba fs bo left
 obtain⟨h1,h2⟩:=af h
 cases h2
 show(li ur t1 t2 ak me ta st re ba fs bo left).val=some (.int .i64 (szM (enW (ur,t1,t2,ak,me,ta,st,re,ba,fs,bo)) left),[])
 simp only [smE,Bool.and_eq_true]at h1
 obtain⟨⟨⟨m1,m2⟩,m3⟩,h0⟩:=h1
 have g1:=cv m1
 simp only [bZ,Bool.and_eq_true,decide_eq_true_eq]at h0
 have ha:=fJ ak
 have hm:=KV me ta re fs bo
 unfold li enW
 simp only
 rw [w64 (n:=left-_) (by omega) (by omega)]
 by_cases c1:left-(ur.length:Int)<0
 ·rw [aR (dT' c1)]
  unfold szM
  rw [dF' (by omega)];rfl
 rw [bl (dF' c1)]
 have hk:bZ (left-(ur.length:Int))=true:=by simp only [bZ,Bool.and_eq_true,decide_eq_true_eq];omega
 refine(aR (by rw [m2,hk];rfl)).trans ?_
 unfold I_
 by_cases c4:(ak.length:Int)+f8 ak≤left-(ur.length:Int)
 ·simp only [dT' c4,cond_true]
  refine(bl (dF' (by omega))).trans ?_
  have hk2:bZ (left-(ur.length:Int)-((ak.length:Int)+f8 ak))=true:=by simp only [bZ,Bool.and_eq_true,decide_eq_true_eq];omega
  refine(aR (by rw [m3,hk2];rfl)).trans ?_
  unfold szM
  by_cases c5:Jm me ta re fs bo≤left-(ur.length:Int)-((ak.length:Int)+f8 ak)
  ·simp only [dT' c5,cond_true]
   refine(bl (dF' (by omega))).trans ?_
   rw [dT' (by omega),cond_true,Ip]
   rw [show left-(ur.length:Int)-((ak.length:Int)+f8 ak)-Jm me ta re fs bo=left-((ur.length:Int)+((ak.length:Int)+f8 ak)+Jm me ta re fs bo) by omega]
  ·simp only [dF' c5,cond_false]
   refine(aR (by decide)).trans ?_
   rw [dF' (by omega)];rfl
 ·simp only [dF' c4,cond_false]
  refine(aR (by decide)).trans ?_
  unfold szM
  rw [dF' (by omega)];rfl
def N8 (a b:En):Bool:=decide (a.1=b.1)&&decide (a.2.1=b.2.1)&&decide (a.2.2.1=b.2.2.1)&&decide (a.2.2.2.1=b.2.2.2.1)&&decide (a.2.2.2.2.1=b.2.2.2.2.1)&&decide (a.2.2.2.2.2.1=b.2.2.2.2.2.1)&&decide (a.2.2.2.2.2.2.1=b.2.2.2.2.2.2.1)&&decide (a.2.2.2.2.2.2.2.1=b.2.2.2.2.2.2.2.1)&&decide (a.2.2.2.2.2.2.2.2.1=b.2.2.2.2.2.2.2.2.1)&&decide (a.2.2.2.2.2.2.2.2.2.1=b.2.2.2.2.2.2.2.2.2.1)&&decide (a.2.2.2.2.2.2.2.2.2.2=b.2.2.2.2.2.2.2.2.2.2)
theorem pU (a:En):N8 a a=true:=by unfold N8;simp only [decide_true,Bool.and_self]
def SR:List AV→List Ob→Br
 | [.agg [.str ur,.int .i64 t1,.int .i64 t2,.sh (.pair .str .str) ak,.str me,.str ta,.int .i64 st,.str re,.bool ba,.sh (.pair .str .str) fs,.str bo],.agg [.str ur',.int .i64 t1',.int .i64 t2',.sh (.pair .str .str) ak',.str me',.str ta',.int .i64 st',.str re',.bool ba',.sh (.pair .str .str) fs',.str bo']],[]=>
   .ite (N8 (ur,t1,t2,ak,me,ta,st,re,ba,fs,bo) (ur',t1',t2',ak',me',ta',st',re',ba',fs',bo')&&decide (ak.length≤1048576)&&decide (fs.length≤1048576)) (.ret (.bool true) []) .fail
 |_,_=>.fail
theorem pV:Sound Kx 19 SR:=eqEntry_ok.of fun args objs r h=>by
 unfold SR at h
 split at h
 case h_2=>cases h
 obtain⟨h1,h2⟩:=af h
 cases h2
 simp only [N8,Bool.and_eq_true,decide_eq_true_eq]at h1
 obtain⟨⟨⟨⟨⟨⟨⟨⟨⟨⟨⟨⟨rfl,rfl⟩,rfl⟩,rfl⟩,rfl⟩,rfl⟩,rfl⟩,rfl⟩,rfl⟩,rfl⟩,rfl⟩,ha⟩,hl⟩:=h1
 rename_i ur t1 t2 ak me ta st re ba fs bo
 show(lj ur t1 t2 ak me ta st re ba fs bo ur t1 t2 ak me ta st re ba fs bo).val=_
 unfold lj
 simp only [decide_true,Bool.not_true,Bool.true_and]
 exact(bl rfl).trans ((bl rfl).trans ((bl rfl).trans ((aR (dT' (by omega))).trans ((bl rfl).trans ((aR (dT' hl)).trans rfl)))))
def gt (e:En):Bool:=
 gr e.1&&Hs e.2.1&&Hs e.2.2.1&&decide (e.2.1≤e.2.2.1)&&b9 e.2.2.2.1&&cU e.2.2.2.2.1 e.2.2.2.2.2.1 e.2.2.2.2.2.2.1 e.2.2.2.2.2.2.2.1 e.2.2.2.2.2.2.2.2.1 e.2.2.2.2.2.2.2.2.2.1 e.2.2.2.2.2.2.2.2.2.2&&decide (e.2.2.2.2.1=[])&& !e.2.2.2.2.2.2.2.2.1
end
end Go.Proofs.YtihabpimbfmhhaaGreatDoor.Ev
namespace Go.Proofs.YtihabpimbfmhhaaGreatDoor.Ev
open Go Go.RowKit
set_option linter.unusedVariables false
set_option linter.unusedSimpArgs false
variable {K:Ctx} {w0:World} {M0:Bd}
abbrev FdT:Ty:=.pair .str .str
theorem y6 {w:World} {l:List Fd} {v:Value} {rs:List Rg} (h:rdO w (.slice FdT) l [v] rs) (hx: ∀b o,cov rs b o→(∃u,w.cell? ⟨b,o,none⟩=some u)∧w.frozen? ⟨b,o,none⟩=false):
 ∃lc:Loc,(∀L:Lk,okO L w (lc,.arr FdT 0 false l))∧(∀b o,inR (lc,.arr FdT 0 false l) b o↔cov rs b o)∧v= .slice lc.addr l.length lc.cap∧
  (∀(L':Lk) (w':World) (lc':Loc) (l':List Fd),okO L' w' (lc',.arr FdT 0 false l')→lc'.base=lc.base→lc'.cap=lc.cap→l'.length=l.length→rdO w' (.slice FdT) l' [v] rs):=by
 obtain⟨a,n,c,h1,rfl,h3,h4⟩:=h
 simp only [List.cons.injEq,and_true]at h1
 subst h1
 rcases h4 with⟨rfl,rfl,rfl,rfl⟩|⟨he,b,o,rfl,rfl,hr⟩
 ·refine⟨⟨none,0,[]⟩,fun L=>.inl ⟨rfl,rfl,rfl,rfl⟩,fun b o=>⟨fun hr=> ?_,fun hc=>(bS hc).elim⟩,rfl,fun L' w' lc' l' hok hb hc hl=> ?_⟩
  ·obtain⟨o0,e1,_⟩:=cg rfl hr
   cases e1
  ·obtain rfl:l'=[]:=List.length_eq_zero_iff.1 hl
   exact⟨none,0,0,rfl,rfl,Nat.le_refl _,.inl ⟨rfl,rfl,rfl,rfl⟩⟩
 ·have hcov: ∀j,j<c*FdT.size→cov [(b,o,c*FdT.size)] b (o+j):=fun j hj=>⟨_,List.mem_singleton.2 rfl,rfl,Nat.le_add_right _ _,Nat.add_lt_add_left hj _⟩
  refine⟨⟨some (b,o),c,[]⟩,fun L=>.inr ⟨b,o,rfl,h3,fun i hi=> ?_,fun _ j hj=>hx b (o+j) (hcov j hj),(fun hz=>by cases hz),(fun h=>by cases h),fun _=>fh rfl rfl⟩,fun b' o'=>⟨fun hr=> ?_,fun hc=> ?_⟩,rfl,fun L' w' lc' l' hok hb hc hl=> ?_⟩
  ·obtain⟨ds,k1,k2,k3⟩:=hr i hi
   exact⟨ds,k1,bT FdT rfl k2,k3⟩
  ·obtain⟨o0,e1,e2,e3⟩:=cg rfl hr
   simp only [Option.some.injEq,Prod.mk.injEq]at e1
   obtain⟨rfl,rfl⟩:=e1
   exact⟨_,List.mem_singleton.2 rfl,rfl,e2,by simpa only [ext,Bool.false_eq_true,if_false]using e3⟩
  ·obtain⟨r,hr,e1,e2,e3⟩:=hc
   rw [List.mem_singleton.1 hr]at e1 e2 e3
   simp only at e1 e2 e3
   subst e1
   exact .inl ⟨o,rfl,e2,by simpa only [ext,Bool.false_eq_true,if_false]using e3⟩
  ·rcases hok with⟨h8,_⟩|⟨b',o',h8,h9,h10,_⟩
   ·simp only at h8;rw [h8]at hb;cases hb
   ·simp only at h8 h9 h10
    rw [h8]at hb
    simp only [Option.some.injEq,Prod.mk.injEq]at hb
    obtain⟨rfl,rfl⟩:=hb
    refine⟨_,_,_,rfl,hl.symm,h3,.inr ⟨rfl,b',o',rfl,rfl,fun i hi=> ?_⟩⟩
    obtain⟨ds,k1,k2,k3⟩:=h10 i hi
    exact⟨ds,k1,bT FdT rfl k2,k3⟩
def xeC (e:En):List AV:=
 [.str e.1,.int .i64 e.2.1,.int .i64 e.2.2.1,.ref 1 0,.str e.2.2.2.2.1,.str e.2.2.2.2.2.1,.int .i64 e.2.2.2.2.2.2.1,.str e.2.2.2.2.2.2.2.1,.bool e.2.2.2.2.2.2.2.2.1,.ref 2 0,.str e.2.2.2.2.2.2.2.2.2.2]
def xeO (e:En):List Ob:=[.var (xeC e),.arr FdT 0 false e.2.2.2.1,.arr FdT 0 false e.2.2.2.2.2.2.2.2.2.1]
def xeV (e:En) (v1 v2:Value):List Value:=
 [.string ⟨e.1.toArray⟩,.int .i64 e.2.1,.int .i64 e.2.2.1,v1,.string ⟨e.2.2.2.2.1.toArray⟩,.string ⟨e.2.2.2.2.2.1.toArray⟩,.int .i64 e.2.2.2.2.2.2.1,.string ⟨e.2.2.2.2.2.2.2.1.toArray⟩,.bool e.2.2.2.2.2.2.2.2.1,v2,.string ⟨e.2.2.2.2.2.2.2.2.2.2.toArray⟩]
theorem rdO_xe {w:World} {e:En} {ds:List Value} {rs:List Rg}:rdO w EnT e ds rs↔ ∃v1 v2 r1 r2,ds=xeV e v1 v2∧rs=r1++r2∧rdO w (.slice FdT) e.2.2.2.1 [v1] r1∧rdO w (.slice FdT) e.2.2.2.2.2.2.2.2.2.1 [v2] r2:=by
 constructor
 ·rintro⟨_,_,_,_,rfl,rfl,⟨rfl,rfl⟩,_,_,_,_,rfl,rfl,⟨rfl,rfl⟩,_,_,_,_,rfl,rfl,⟨rfl,rfl⟩,_,_,r1,_,rfl,rfl,⟨a1,n1,c1,rfl,h1⟩,_,_,_,_,rfl,rfl,⟨rfl,rfl⟩,_,_,_,_,rfl,rfl,⟨rfl,rfl⟩,_,_,_,_,rfl,rfl,⟨rfl,rfl⟩,_,_,_,_,rfl,rfl,⟨rfl,rfl⟩,_,_,_,_,rfl,rfl,⟨rfl,rfl⟩,_,_,r2,_,rfl,rfl,⟨a2,n2,c2,rfl,h2⟩,rfl,rfl⟩
  exact⟨_,_,r1,r2,rfl,by simp,⟨a1,n1,c1,rfl,h1⟩,⟨a2,n2,c2,rfl,h2⟩⟩
 ·rintro⟨v1,v2,r1,r2,rfl,rfl,h1,h2⟩
  exact⟨[_],_,[],_,rfl,rfl,⟨rfl,rfl⟩,[_],_,[],_,rfl,rfl,⟨rfl,rfl⟩,[_],_,[],_,rfl,rfl,⟨rfl,rfl⟩,[_],_,r1,_,rfl,rfl,h1,[_],_,[],_,rfl,rfl,⟨rfl,rfl⟩,[_],_,[],_,rfl,rfl,⟨rfl,rfl⟩,[_],_,[],_,rfl,rfl,⟨rfl,rfl⟩,[_],_,[],_,rfl,rfl,⟨rfl,rfl⟩,[_],_,[],_,rfl,rfl,⟨rfl,rfl⟩,[_],_,r2,[],rfl,by simp,h2,rfl,rfl⟩
def xeL (F:Nat→Nat→Prop) (lv l1 l2:Loc) (e:En):Lk:=⟨fun j=>match j with|0=>some (lv,.var (xeC e))|1=>some (l1,.arr FdT 0 false e.2.2.2.1)|2=>some (l2,.arr FdT 0 false e.2.2.2.2.2.2.2.2.2.1)|_=>none,F⟩
theorem xeL_mut {F:Nat→Nat→Prop} {lv l1 l2:Loc} {e:En} {b o:Nat}:eq (xeL F lv l1 l2 e) b o↔inR (lv,.var (xeC e)) b o∨inR (l1,.arr FdT 0 false e.2.2.2.1) b o∨inR (l2,.arr FdT 0 false e.2.2.2.2.2.2.2.2.2.1) b o:=by
 constructor
 ·rintro⟨j,p,hp,hr⟩
  match j,hp with
  |0,hp=>cases hp;exact .inl hr
  |1,hp=>cases hp;exact .inr (.inl hr)
  |2,hp=>cases hp;exact .inr (.inr hr)
  |_+3,hp=>cases hp
 ·rintro(h|h|h)
  ·exact⟨0,_,rfl,h⟩
  ·exact⟨1,_,rfl,h⟩
  ·exact⟨2,_,rfl,h⟩
theorem KW {rss:List (List Rg)} (h:rss.flatten.Pairwise dj) {i j:Nat} (hi:i<rss.length) (hj:j<rss.length) (hij:i≠j) {b o:Nat} (h1:cov (rss.getD i []) b o) (h2:cov (rss.getD j []) b o):False:=by
 obtain⟨_,h⟩:=List.pairwise_flatten.1 h
 have e: ∀k (hk:k<rss.length),rss.getD k []=rss[k]:=fun k hk=>by rw [List.getD_eq_getElem?_getD,List.getElem?_eq_getElem hk];rfl
 rw [e i hi]at h1
 rw [e j hj]at h2
 obtain⟨x,hx,c1⟩:=h1
 obtain⟨y,hy,c2⟩:=h2
 rcases Nat.lt_or_gt_of_ne hij with hlt|hlt
 ·exact List.pairwise_iff_getElem.1 h i j hi hj hlt x hx y hy b o ⟨x,List.mem_singleton.2 rfl,c1⟩ ⟨y,List.mem_singleton.2 rfl,c2⟩
 ·exact List.pairwise_iff_getElem.1 h j i hj hi hlt y hy x hx b o ⟨y,List.mem_singleton.2 rfl,c2⟩ ⟨x,List.mem_singleton.2 rfl,c1⟩
theorem G3 (hK:K.Ok) {L:Lk} {w:World} (R:RelO K w0 M0 L w) {l:Loc} {ver:Nat} {xs:List En} (hL:L 0=some (l,.arr EnT ver false xs)) {i:Nat} (hi:i<xs.length):
 ∃b o cap l1 l2,l.base=some (b,o)∧RelO K w ⟨eq (xeL L.F ⟨some (b,o+i*11),cap,[]⟩ l1 l2 xs[i]),L.F⟩ (xeL L.F ⟨some (b,o+i*11),cap,[]⟩ l1 l2 xs[i]) w∧
  ∀(L':Lk) (w':World) (y:En),RelO K w ⟨eq (xeL L.F ⟨some (b,o+i*11),cap,[]⟩ l1 l2 xs[i]),L.F⟩ L' w'→Kept 3 (xeL L.F ⟨some (b,o+i*11),cap,[]⟩ l1 l2 xs[i]) L'→
   (∀j,j<3→(L' j).map (·.2)=(xeO y)[j]?)→y.2.2.2.1.length=xs[i].2.2.2.1.length→y.2.2.2.2.2.2.2.2.2.1.length=xs[i].2.2.2.2.2.2.2.2.2.1.length→
   RelO K w0 M0 (upd L 0 (l,.arr EnT ver false (xs.set i y))) w'∧Turn L (upd L 0 (l,.arr EnT ver false (xs.set i y))):=by
 have hok:=R.ok 0 _ hL
 rcases hok with⟨_,h9,_⟩|⟨b,o,h8,h9,_,h11,_,_,hq⟩
 ·replace h9:xs=[]:=h9
  subst h9;cases hi
 simp only at h8 h9
 replace h11: ∀j,j<l.cap*11→(∃u,w.cell? ⟨b,o+j,none⟩=some u)∧w.frozen? ⟨b,o+j,none⟩=false:=h11 rfl
 have hq:=hq rfl
 have hq':(∀b' o',cov l.dp b' o'→((∃u,w.cell? ⟨b',o',none⟩=some u)∧w.frozen? ⟨b',o',none⟩=false)∧ ¬(b'=b∧o≤o'∧o'<o+l.cap*11))∧l.dp.Pairwise dj∧
  ∃rss:List (List Rg),l.dp=rss.flatten∧rss.length=xs.length∧ ∀i (h:i<xs.length),∃ds:List Value,ds.length=11∧rdO w EnT xs[i] ds (rss.getD i [])∧ ∀j,j<11→w.cell? ⟨b,o+i*11+j,none⟩=ds[j]? :=hq
 obtain⟨q1,q2,rss,q3,q4,q5⟩:=hq'
 obtain⟨ds,k1,k2,k3⟩:=q5 i hi
 obtain⟨v1,v2,r1,r2,rfl,hrs,p1,p2⟩:=rdO_xe.1 k2
 have hdp: ∀b' o',cov (r1++r2) b' o'→cov l.dp b' o':=fun b' o' hc=>by rw [q3];exact kJ (i:=i) (by omega) (by rw [hrs];exact hc)
 obtain⟨l1,a1,a2,a3,a4⟩:=y6 p1 fun b' o' hc=>(q1 _ _ (hdp _ _ (cov_append.2 (.inl hc)))).1
 obtain⟨l2,c1,c2,c3,c4⟩:=y6 p2 fun b' o' hc=>(q1 _ _ (hdp _ _ (cov_append.2 (.inr hc)))).1
 have hself: ∀b' o',inR (l,Ob.arr EnT ver false xs) b' o'↔(b'=b∧o≤o'∧o'<o+l.cap*11)∨cov l.dp b' o':=fun b' o'=>by
  constructor
  ·rintro(⟨o0,e1,e2,e3⟩|⟨_,hc⟩)
   ·simp only at e1
    rw [h8]at e1
    simp only [Option.some.injEq,Prod.mk.injEq]at e1
    obtain⟨rfl,rfl⟩:=e1
    exact .inl ⟨rfl,e2,e3⟩
   ·exact .inr hc
  ·rintro(⟨rfl,e2,e3⟩|hc)
   ·exact .inl ⟨o,h8,e2,e3⟩
   ·exact .inr ⟨rfl,hc⟩
 have hvar: ∀b' o',inR ((⟨some (b,o+i*11),0,[]⟩:Loc),Ob.var (xeC xs[i])) b' o'↔b'=b∧o+i*11≤o'∧o'<o+i*11+11:=fun b' o'=>by
  constructor
  ·intro hr
   obtain⟨o0,e1,e2,e3⟩:=cg rfl hr
   simp only [Option.some.injEq,Prod.mk.injEq]at e1
   obtain⟨rfl,rfl⟩:=e1
   exact⟨rfl,e2,e3⟩
  ·rintro⟨rfl,e2,e3⟩
   exact .inl ⟨_,rfl,e2,e3⟩
 have hroom:i*11+11≤l.cap*11:=by have:(i+1)*11≤l.cap*11:=Nat.mul_le_mul_right _ (by omega);omega
 have hsub: ∀b' o',eq (xeL L.F ⟨some (b,o+i*11),0,[]⟩ l1 l2 xs[i]) b' o'↔(b'=b∧o+i*11≤o'∧o'<o+i*11+11)∨cov (r1++r2) b' o':=fun b' o'=>by
  rw [xeL_mut,hvar,a2,c2,cov_append]
 have hin: ∀b' o',eq (xeL L.F ⟨some (b,o+i*11),0,[]⟩ l1 l2 xs[i]) b' o'→inR (l,Ob.arr EnT ver false xs) b' o':=fun b' o' hm=>by
  rw [hself]
  rcases(hsub _ _).1 hm with⟨rfl,e2,e3⟩|hc
  ·exact .inl ⟨rfl,by omega,by omega⟩
  ·exact .inr (hdp _ _ hc)
 have hmm: ∀b' o',Mut (xeL L.F ⟨some (b,o+i*11),0,[]⟩ l1 l2 xs[i]) b' o'→Mut L b' o':=fun b' o' hm=>hm.imp id fun hm=>⟨0,_,hL,hin _ _ hm⟩
 have hdj12: ∀b' o',cov r1 b' o'→cov r2 b' o'→False:=fun b' o' h1 h2=>by
  have hp:(rss.getD i []).Pairwise dj:=by
   have:=(List.pairwise_flatten.1 (by rw [←q3];exact q2)).1
   refine this _ ?_
   rw [List.getD_eq_getElem?_getD,List.getElem?_eq_getElem (by omega)]
   exact List.getElem_mem _
  rw [hrs]at hp
  obtain⟨x,hx,g1⟩:=h1
  obtain⟨y,hy,g2⟩:=h2
  exact(List.pairwise_append.1 hp).2.2 x hx y hy b' o' ⟨x,List.mem_singleton.2 rfl,g1⟩ ⟨y,List.mem_singleton.2 rfl,g2⟩
 have hrow: ∀b' o',(b'=b∧o+i*11≤o'∧o'<o+i*11+11)→cov (r1++r2) b' o'→False:=fun b' o' h1 h2=>(q1 _ _ (hdp _ _ h2)).2 ⟨h1.1,by omega,by omega⟩
 refine⟨b,o,0,l1,l2,h8,⟨Fr.refl _ _, ?_, ?_,fun _ _ h _=>h,rfl,fun b' o' hf=> ?_,fun b' o' hm hf=> ?_,R.g,R.gs,fun b' o' hm=>R.gb b' o' ⟨0,_,hL,hin _ _ hm⟩⟩, ?_⟩
 ·intro j p hp
  match j,hp with
  |0,hp=>
   cases hp
   refine⟨b,o+i*11,xeV xs[i] v1 v2,rfl, ?_, ?_,fun j hj=>⟨k3 j hj, ?_⟩,fun t r e=>by cases e⟩
   ·have hs: ∀s,rel (xeL L.F ⟨some (b,o+i*11),0,[]⟩ l1 l2 xs[i]) w (Mut (xeL L.F ⟨some (b,o+i*11),0,[]⟩ l1 l2 xs[i])) (.str s) (.string ⟨s.toArray⟩):=fun s=>by simp only [rel]
    have hn: ∀n,rel (xeL L.F ⟨some (b,o+i*11),0,[]⟩ l1 l2 xs[i]) w (Mut (xeL L.F ⟨some (b,o+i*11),0,[]⟩ l1 l2 xs[i])) (.int .i64 n) (.int .i64 n):=fun s=>by simp only [rel]
    have hb: ∀n,rel (xeL L.F ⟨some (b,o+i*11),0,[]⟩ l1 l2 xs[i]) w (Mut (xeL L.F ⟨some (b,o+i*11),0,[]⟩ l1 l2 xs[i])) (.bool n) (.bool n):=fun s=>by simp only [rel]
    have h1:rel (xeL L.F ⟨some (b,o+i*11),0,[]⟩ l1 l2 xs[i]) w (Mut (xeL L.F ⟨some (b,o+i*11),0,[]⟩ l1 l2 xs[i])) (.ref 1 0) v1:=by
     simp only [rel];exact⟨_,_,_,_,_,_,_,_,rfl,Nat.le_refl _,a3,fun _=>⟨rfl,rfl,rfl⟩⟩
    have h2:rel (xeL L.F ⟨some (b,o+i*11),0,[]⟩ l1 l2 xs[i]) w (Mut (xeL L.F ⟨some (b,o+i*11),0,[]⟩ l1 l2 xs[i])) (.ref 2 0) v2:=by
     simp only [rel];exact⟨_,_,_,_,_,_,_,_,rfl,Nat.le_refl _,c3,fun _=>⟨rfl,rfl,rfl⟩⟩
    simp only [xeC,xeV,aK]
    exact⟨_,_,rfl,hs _,_,_,rfl,hn _,_,_,rfl,hn _,_,_,rfl,h1,_,_,rfl,hs _,_,_,rfl,hs _,_,_,rfl,hn _,_,_,rfl,hs _,_,_,rfl,hb _,_,_,rfl,h2,_,_,rfl,hs _,rfl⟩
   ·intro c hc
    simp only [xeV,a3,c3,List.mem_cons,List.not_mem_nil,or_false]at hc
    rcases hc with rfl|rfl|rfl|rfl|rfl|rfl|rfl|rfl|rfl|rfl|rfl<;>rfl
   ·have hj':j<11:=hj
    have:=(h11 (i*11+j) (by omega)).2
    rwa [←Nat.add_assoc]at this
  |1,hp=>cases hp;exact a1 _
  |2,hp=>cases hp;exact c1 _
  |_+3,hp=>cases hp
 ·intro j k p q b' o' hp hq hr hr'
  match j,k,hp,hq with
  |0,0,_,_=>rfl
  |1,1,_,_=>rfl
  |2,2,_,_=>rfl
  |0,1,hp,hq=>cases hp;cases hq;exact(hrow _ _ ((hvar _ _).1 hr) (cov_append.2 (.inl ((a2 _ _).1 hr')))).elim
  |0,2,hp,hq=>cases hp;cases hq;exact(hrow _ _ ((hvar _ _).1 hr) (cov_append.2 (.inr ((c2 _ _).1 hr')))).elim
  |1,0,hp,hq=>cases hp;cases hq;exact(hrow _ _ ((hvar _ _).1 hr') (cov_append.2 (.inl ((a2 _ _).1 hr)))).elim
  |2,0,hp,hq=>cases hp;cases hq;exact(hrow _ _ ((hvar _ _).1 hr') (cov_append.2 (.inr ((c2 _ _).1 hr)))).elim
  |1,2,hp,hq=>cases hp;cases hq;exact(hdj12 _ _ ((a2 _ _).1 hr) ((c2 _ _).1 hr')).elim
  |2,1,hp,hq=>cases hp;cases hq;exact(hdj12 _ _ ((a2 _ _).1 hr') ((c2 _ _).1 hr)).elim
  |_+3,_,hp,_=>cases hp
  |_,_+3,_,hq=>cases hq
 ·have hf:L.F b' o':=hf
  rw [R.ff]at hf
  exact Nat.lt_of_lt_of_le (R.fs _ _ hf) R.fr.size
 ·have hf:L.F b' o':=hf
  rw [R.ff]at hf
  exact R.fo b' o' ⟨0,_,hL,hin _ _ hm⟩ hf
 ·intro L' w' y R' hk ho hy1 hy2
  obtain⟨p0,x0,e0,rfl,cs0,rfl⟩:=hk 0 (by omega) _ _ rfl
  obtain⟨p1',x1,e1,cur1,z1,ys1,rfl,e1'⟩:=hk 1 (by omega) _ _ rfl
  obtain⟨p2',x2,e2,cur2,z2,ys2,rfl,e2'⟩:=hk 2 (by omega) _ _ rfl
  have f0:=ho 0 (by omega)
  have f1:=ho 1 (by omega)
  have f2:=ho 2 (by omega)
  rw [e0]at f0
  rw [e1]at f1
  rw [e2]at f2
  simp only [xeO,Option.map_some,List.getElem?_cons_zero,List.getElem?_cons_succ,Option.some.injEq,Ob.var.injEq,Ob.arr.injEq,true_and,heq_eq_eq]at f0 f1 f2
  obtain⟨rfl,rfl,rfl⟩:=f1
  obtain⟨rfl,rfl,rfl⟩:=f2
  subst f0
  obtain⟨⟨e3,e4⟩,_⟩:=e1' rfl
  obtain⟨⟨e5,e6⟩,_⟩:=e2' rfl
  have g1:=a4 L' w' p1' _ (R'.ok 1 _ e1) e3 e4 hy1
  have g2:=c4 L' w' p2' _ (R'.ok 2 _ e2) e5 e6 hy2
  obtain⟨b',o',vs,m1,m2,_,m3,_⟩:=R'.ok 0 _ e0
  simp only [Option.some.injEq,Prod.mk.injEq]at m1
  obtain⟨rfl,rfl⟩:=m1
  have hvs:vs=xeV y v1 v2:=by
   simp only [xeC,aK]at m2
   obtain⟨_,_,rfl,t0,_,_,rfl,t1,_,_,rfl,t2,_,_,rfl,t3,_,_,rfl,t4,_,_,rfl,t5,_,_,rfl,t6,_,_,rfl,t7,_,_,rfl,t8,_,_,rfl,t9,_,_,rfl,t10,rfl⟩:=m2
   simp only [rel]at t0 t1 t2 t3 t4 t5 t6 t7 t8 t9 t10
   obtain⟨la,ea,cura,za,xa,pa,na,ca,u1,u2,rfl,u3⟩:=t3
   rw [e1]at u1
   simp only [Option.some.injEq,Prod.mk.injEq,Ob.arr.injEq]at u1
   obtain⟨rfl,rfl,rfl,rfl,hxa⟩:=u1
   have hxa:=eq_of_heq hxa
   subst hxa
   obtain⟨rfl,rfl,rfl⟩:=u3 rfl
   obtain⟨lb,eb,curb,zb,xb,pb,nb,cb,u1,u2,rfl,u3⟩:=t9
   rw [e2]at u1
   simp only [Option.some.injEq,Prod.mk.injEq,Ob.arr.injEq]at u1
   obtain⟨rfl,rfl,rfl,rfl,hxb⟩:=u1
   have hxb:=eq_of_heq hxb
   subst hxb
   obtain⟨rfl,rfl,rfl⟩:=u3 rfl
   subst t0;subst t1;subst t2;subst t4;subst t5;subst t6;subst t7;subst t8;subst t10
   simp only [xeV,a3,c3,Loc.addr,e3,e4,e5,e6,hy1,hy2]
  subst hvs
  have hkeep: ∀b'' o'',eq (xeL L.F ⟨some (b,o+i*11),0,[]⟩ l1 l2 xs[i]) b'' o''→(∃u,w'.cell? ⟨b'',o'',none⟩=some u)∧w'.frozen? ⟨b'',o'',none⟩=false:=fun b'' o'' hm=>by
   rcases xeL_mut.1 hm with hm|hm|hm
   ·refine d7 (R'.ok 0 _ e0) rfl ?_
    obtain⟨t1,t2,t3⟩:=(hvar _ _).1 hm
    subst t1
    exact .inl ⟨_,rfl,t2,t3⟩
   ·refine d7 (R'.ok 1 _ e1) rfl ?_
    obtain⟨o0,t1,t2,t3⟩|⟨_,hc⟩:=hm
    ·exact .inl ⟨o0,e3.trans t1,t2,by simpa only [ext,e4]using t3⟩
    ·exfalso
     rcases a1 L with⟨_,_,_,d⟩|⟨_,_,_,_,_,_,_,_,d⟩
     ·simp only at d hc;rw [d]at hc;exact bS hc
     ·have d:l1.dp=[]:=d rfl
      simp only at hc;rw [d]at hc;exact bS hc
   ·refine d7 (R'.ok 2 _ e2) rfl ?_
    obtain⟨o0,t1,t2,t3⟩|⟨_,hc⟩:=hm
    ·exact .inl ⟨o0,e5.trans t1,t2,by simpa only [ext,e6]using t3⟩
    ·exfalso
     rcases c1 L with⟨_,_,_,d⟩|⟨_,_,_,_,_,_,_,_,d⟩
     ·simp only at d hc;rw [d]at hc;exact bS hc
     ·have d:l2.dp=[]:=d rfl
      simp only at hc;rw [d]at hc;exact bS hc
  have hcell: ∀b'' o'',inR (l,Ob.arr EnT ver false xs) b'' o''→(∃u,w'.cell? ⟨b'',o'',none⟩=some u)∧w'.frozen? ⟨b'',o'',none⟩=false:=fun b'' o'' hr=>by
   by_cases hm:eq (xeL L.F ⟨some (b,o+i*11),0,[]⟩ l1 l2 xs[i]) b'' o''
   ·exact hkeep _ _ hm
   ·have hlt:=ew (R.ok 0 _ hL) hr
    rw [R'.fr.cel _ _ hlt hm,R'.fr.frz _ _ hlt hm]
    exact d7 (R.ok 0 _ hL) rfl hr
  have hsame: ∀b'' o'',b''<w.heap.size→ ¬eq (xeL L.F ⟨some (b,o+i*11),0,[]⟩ l1 l2 xs[i]) b'' o''→w'.cell? ⟨b'',o'',none⟩=w.cell? ⟨b'',o'',none⟩:=fun b'' o'' h1 h2=>R'.fr.cel _ _ h1 h2
  have hT:Turn L (upd L 0 (l,.arr EnT ver false (xs.set i y))):=by
   intro j l' x hj
   by_cases hj0:j=0
   ·subst hj0
    rw [hL]at hj;cases hj
    exact⟨_,_,av _ _ _,ver,false,_,rfl,Nat.le_refl _,fun _=>⟨⟨rfl,rfl⟩,by simp⟩⟩
   ·obtain⟨l'',x',h1,h2⟩:=Turn.refl L j l' x hj
    exact⟨l'',x',by rw [aG L _ hj0];exact h1,h2⟩
  refine⟨(R.put hK hL (R'.fr.mono fun b'' o'' _ hm=>hin _ _ hm) hT (fun _=>eu (e:=EnT) rfl h8 (by simpa using h9) (fun j hj=>hcell _ _ (.inl ⟨o,h8,Nat.le_add_right _ _,Nat.add_lt_add_left hj _⟩)) ?_) (fun b'' o'' hr=>.inl ?_)).1,hT⟩
  ·show(∀b'' o'',cov l.dp b'' o''→((∃u,w'.cell? ⟨b'',o'',none⟩=some u)∧w'.frozen? ⟨b'',o'',none⟩=false)∧ ¬(b''=b∧o≤o''∧o''<o+l.cap*11))∧l.dp.Pairwise dj∧
    ∃rss:List (List Rg),l.dp=rss.flatten∧rss.length=(xs.set i y).length∧ ∀j (h:j< (xs.set i y).length),∃ds:List Value,ds.length=11∧rdO w' EnT (xs.set i y)[j] ds (rss.getD j [])∧ ∀q,q<11→w'.cell? ⟨b,o+j*11+q,none⟩=ds[q]?
   refine⟨fun b'' o'' hc=>⟨hcell _ _ (.inr ⟨rfl,hc⟩),(q1 _ _ hc).2⟩,q2,rss,q3,by simp [q4],fun j hj=> ?_⟩
   have hj':j<xs.length:=by simpa using hj
   by_cases hji:j=i
   ·subst hji
    refine⟨xeV y v1 v2,rfl, ?_,fun q hq=>(m3 q hq).1⟩
    rw [List.getElem_set_self,rdO_xe]
    exact⟨v1,v2,r1,r2,rfl,hrs,g1,g2⟩
   ·obtain⟨ds,n1,n2,n3⟩:=q5 j hj'
    refine⟨ds,n1, ?_,fun q hq=> ?_⟩
    ·rw [List.getElem_set_ne (fun e=>hji e.symm)]
     refine lw EnT n2 fun b'' o'' hc=> ?_
     have hcd:cov l.dp b'' o'':=by rw [q3];exact kJ (by omega) hc
     refine hsame _ _ (ew (R.ok 0 _ hL) (.inr ⟨rfl,hcd⟩)) fun hm=> ?_
     rcases(hsub _ _).1 hm with⟨rfl,t2,t3⟩|hc2
     ·exact(q1 _ _ hcd).2 ⟨rfl,by omega,by omega⟩
     ·exact KW (by rw [←q3];exact q2) (by omega) (by omega) hji hc (by rw [hrs];exact hc2)
    ·rw [←n3 q hq]
     have hjr:j*11+q<l.cap*11:=by have:(j+1)*11≤l.cap*11:=Nat.mul_le_mul_right _ (by omega);omega
     refine hsame _ _ (ew (R.ok 0 _ hL) (b:=b) (o:=o+j*11+q) (.inl ⟨o,h8,by omega, ?_⟩)) fun hm=> ?_
     ·show o+j*11+q<o+l.cap*11
      omega
     rcases(hsub _ _).1 hm with⟨_,t2,t3⟩|hc2
     ·omega
     ·exact(q1 _ _ (hdp _ _ hc2)).2 ⟨rfl,by omega,by omega⟩
  ·rcases hr with⟨o0,t1,t2,t3⟩|⟨t1,t2⟩
   ·exact .inl ⟨o0,t1,t2,t3⟩
   ·exact .inr ⟨rfl,t2⟩
end Go.Proofs.YtihabpimbfmhhaaGreatDoor.Ev
namespace Go.Proofs.YtihabpimbfmhhaaGreatDoor.Ev
open Go Go.RowKit
set_option linter.unusedVariables false
set_option linter.unusedSimpArgs false
noncomputable section
def G4:Opt:={split:=true}
def G5:SC:=[⟨87,_,GZ⟩,⟨88,_,KS⟩,⟨89,_,dA⟩,⟨90,_,sk⟩]
def jf (ur:aa) (t1 t2:Int) (ak:List Fd) (me ta:aa) (st:Int) (re:aa) (ba:Bool) (fs:List Fd) (bo:aa):Br:=(Br.ite (isM ur) (Br.ite (gr ur) (Br.ite (Hs t1) (Br.ite (Hs t2) (Br.ite (decide (t1≤t2)) (Br.ite (b9 ak) (Br.ite (cU me ta st re ba fs bo) (Br.ite (decide (me=([]:aa))) (Br.ret (AV.bool (!ba)) []) (Br.ret (AV.bool false) [])) (Br.ret (AV.bool false) [])) (Br.ret (AV.bool false) [])) (Br.ret (AV.bool false) [])) (Br.ret (AV.bool false) [])) (Br.ret (AV.bool false) [])) (Br.ret (AV.bool false) [])) Br.fail)
def s9:List AV→List Ob→Br
 | [.agg [.str ur,.int .i64 t1,.int .i64 t2,.sh (.pair .str .str) ak,.str me,.str ta,.int .i64 st,.str re,.bool ba,.sh (.pair .str .str) fs,.str bo]],[]=>jf ur t1 t2 ak me ta st re ba fs bo
 |_,_=>.fail
theorem By:Sound Kx 50 s9:=ae (C:=G5) (O:=G4) Tryz.func50 (by kernel_rfl) fun args objs=>by
 unfold s9;split
 ·exact .inr (by kernel_rfl)
 ·exact .inl rfl
def G6:Opt:={split:=true}
def G7:SC:=[⟨80,_,G0⟩,⟨81,_,KU⟩,⟨82,_,dB⟩,⟨83,_,sn⟩]
def jg (ur:aa) (t1 t2:Int) (ak:List Fd) (me ta:aa) (st:Int) (re:aa) (ba:Bool) (fs:List Fd) (bo:aa):Br:=(Br.ite (isM ur) (Br.ite (gr ur) (Br.ite (Hs t1) (Br.ite (Hs t2) (Br.ite (decide (t1≤t2)) (Br.ite (b9 ak) (Br.ite (cU me ta st re ba fs bo) (Br.ite (decide (me=([]:aa))) (Br.ret (AV.bool (!ba)) []) (Br.ret (AV.bool false) [])) (Br.ret (AV.bool false) [])) (Br.ret (AV.bool false) [])) (Br.ret (AV.bool false) [])) (Br.ret (AV.bool false) [])) (Br.ret (AV.bool false) [])) (Br.ret (AV.bool false) [])) Br.fail)
def s_:List AV→List Ob→Br
 | [.agg [.str ur,.int .i64 t1,.int .i64 t2,.sh (.pair .str .str) ak,.str me,.str ta,.int .i64 st,.str re,.bool ba,.sh (.pair .str .str) fs,.str bo]],[]=>jg ur t1 t2 ak me ta st re ba fs bo
 |_,_=>.fail
theorem Bz:Sound Kx 46 s_:=ae (C:=G7) (O:=G6) Tryz.func46 (by kernel_rfl) fun args objs=>by
 unfold s_;split
 ·exact .inr (by kernel_rfl)
 ·exact .inl rfl
def UP:List AV→List Ob→Br:=TV (fun e=>isM e.1) (fun e=>.bool (gt e))
theorem gu:Sound Kx 50 UP:=N7 By fun ur t1 t2 ak me ta st re ba fs bo h=>by
 show(jf ur t1 t2 ak me ta st re ba fs bo).val=some (.bool (gt (ur,t1,t2,ak,me,ta,st,re,ba,fs,bo)),[])
 unfold jf gt
 refine(aR h).trans ?_
 simp only
 cases gr ur<;>cases Hs t1<;>cases Hs t2<;>cases decide (t1≤t2)<;>cases b9 ak<;>cases cU me ta st re ba fs bo<;>cases decide (me=[])<;>rfl
theorem gv:Sound Kx 46 UP:=N7 Bz fun ur t1 t2 ak me ta st re ba fs bo h=>by
 show(jg ur t1 t2 ak me ta st re ba fs bo).val=some (.bool (gt (ur,t1,t2,ak,me,ta,st,re,ba,fs,bo)),[])
 unfold jg gt
 refine(aR h).trans ?_
 simp only
 cases gr ur<;>cases Hs t1<;>cases Hs t2<;>cases decide (t1≤t2)<;>cases b9 ak<;>cases cU me ta st re ba fs bo<;>cases decide (me=[])<;>rfl
def Um:SC:=[⟨107,_,G1⟩]
def KX (ur:aa) (t1 t2:Int) (ak:List Fd) (me ta:aa) (st:Int) (re:aa) (ba:Bool) (fs:List Fd) (bo:aa):Br:=(Br.ret (AV.int .i64 (ac ((ur.length:Int)+((List.length (iu (me,(ta,(st,(re,(ba,(fs,bo)))))))):Int)))) [])
def SS:List AV→List Ob→Br
 | [.agg [.str ur,.int .i64 t1,.int .i64 t2,.sh (.pair .str .str) ak,.str me,.str ta,.int .i64 st,.str re,.bool ba,.sh (.pair .str .str) fs,.str bo]],[]=>KX ur t1 t2 ak me ta st re ba fs bo
 |_,_=>.fail
theorem ST:Sound Kx 93 SS:=ae (C:=Um) (O:=O0) Tryz.func93 (by kernel_rfl) fun args objs=>by
 unfold SS;split
 ·exact .inr (by kernel_rfl)
 ·exact .inl rfl
def Un:SC:=[⟨118,_,G2⟩]
def KY (ur:aa) (t1 t2:Int) (ak:List Fd) (me ta:aa) (st:Int) (re:aa) (ba:Bool) (fs:List Fd) (bo:aa):Br:=(Br.ret (AV.int .i64 (ac ((ur.length:Int)+((List.length (iu (me,(ta,(st,(re,(ba,(fs,bo)))))))):Int)))) [])
def SU:List AV→List Ob→Br
 | [.agg [.str ur,.int .i64 t1,.int .i64 t2,.sh (.pair .str .str) ak,.str me,.str ta,.int .i64 st,.str re,.bool ba,.sh (.pair .str .str) fs,.str bo]],[]=>KY ur t1 t2 ak me ta st re ba fs bo
 |_,_=>.fail
theorem SV:Sound Kx 85 SU:=ae (C:=Un) (O:=O0) Tryz.func85 (by kernel_rfl) fun args objs=>by
 unfold SU;split
 ·exact .inr (by kernel_rfl)
 ·exact .inl rfl
def fO (e:En):Int:=(e.1.length:Int)+((iu e.2.2.2.2).length:Int)
def UQ:List AV→List Ob→Br:=TV (fun e=>isM e.1) (fun e=>.int .i64 (fO e))
theorem KZ:Sound Kx 93 UQ:=N7 ST fun ur t1 t2 ak me ta st re ba fs bo h=>by
 show(KX ur t1 t2 ak me ta st re ba fs bo).val=some (.int .i64 (fO (ur,t1,t2,ak,me,ta,st,re,ba,fs,bo)),[])
 have h1:=cv h
 have h2:=pS (me,ta,st,re,ba,fs,bo)
 unfold KX fO
 simp only at h1⊢
 rw [w64 (by omega) (by omega)];rfl
theorem K1:Sound Kx 85 UQ:=N7 SV fun ur t1 t2 ak me ta st re ba fs bo h=>by
 show(KY ur t1 t2 ak me ta st re ba fs bo).val=some (.int .i64 (fO (ur,t1,t2,ak,me,ta,st,re,ba,fs,bo)),[])
 have h1:=cv h
 have h2:=pS (me,ta,st,re,ba,fs,bo)
 unfold KY fO
 simp only at h1⊢
 rw [w64 (by omega) (by omega)];rfl
def Pv:Opt:={live:=[(3,[3,7,8,9])],outs:=[(3,[2,3])]}
def iCSz_C:SC:=[⟨93,_,KZ⟩]
def vd (ai:Int) (al:(List En)) (ap cR:Int) (U6:Int→(List En)→Int→Int→OR') (cI:Int→OR'):OR':=
 (bif(decide (cR<ap))then(bif(decide (0≤cR))then(bif(decide (cR< (al.length:Int)))then(bif(isM (List.getD al (Int.toNat cR) en0).1)then(U6 (ac (ai+(fO ((List.getD al (Int.toNat cR) en0).1,((List.getD al (Int.toNat cR) en0).2.1,((List.getD al (Int.toNat cR) en0).2.2.1,((List.getD al (Int.toNat cR) en0).2.2.2.1,((List.getD al (Int.toNat cR) en0).2.2.2.2.1,((List.getD al (Int.toNat cR) en0).2.2.2.2.2.1,((List.getD al (Int.toNat cR) en0).2.2.2.2.2.2.1,((List.getD al (Int.toNat cR) en0).2.2.2.2.2.2.2.1,((List.getD al (Int.toNat cR) en0).2.2.2.2.2.2.2.2.1,((List.getD al (Int.toNat cR) en0).2.2.2.2.2.2.2.2.2.1,(List.getD al (Int.toNat cR) en0).2.2.2.2.2.2.2.2.2.2))))))))))))) al ap (ac (cR+1)))else(none))else(none))else(none))else(cI ai))
def lk:Nat→Int→(List En)→Int→Int→(Int→OR')→OR'
 |0,_,_,_,_,_=>none
 |n+1,ai,al,ap,cR,cI=>vd ai al ap cR (fun ai al ap cR=>lk n ai al ap cR cI) cI
abbrev iCSz_p3:SP:=⟨19,[3,7,8,9],[(.v (.i .i64)),(.v (.sh EnT)),(.v (.i .i64)),(.v (.i .i64))],[]⟩
noncomputable def K2:Code:=ax (aD Tryz.f76) [1,1,0,1,0,0]
def K3 (f:(Int→OR')→OR') (k:KT):OR':=f (fun aQ=>k (Ex.exit 0) ((St.mk (aw 0 19 [(3,(AV.int .i64 aQ))]) ([]:(List (Nat×(Ob)))))))
def K4 (n:Nat) (d:iCSz_p3.D):KT→OR':=K3 (lk n d.1.1 d.1.2.1 d.1.2.2.1 d.1.2.2.2.1)
def Pw (N:Nat):Lam:=bf [⟨3,iCSz_p3,K4 N⟩]
theorem N9 (N:Nat):OkL Kx iCSz_C.s Pv 0 N (Pw N) K2:=okL iCSz_p3 (K4) (fun d kR=>K3 (vd d.1.1 d.1.2.1 d.1.2.2.1 d.1.2.2.2.1 (fun ai al ap cR=>kR ((ai,al,ap,cR,()),())))) (fun _ _=>by kernel_rfl) (fun _ _ _=>by kernel_rfl) (fun _ _=>by kernel_rfl) (fun _ _ _ _=>by kernel_rfl) (ah (l':=[]) (by kernel_rfl) trivial)
def Ey (N:Nat) (bu:Int) (l:List En):OR':=(lk N 0 l (l.length:Int) 0 (fun aQ=>(some ((AV.int .i64 aQ),[]))))
def Ez (φ:Int→(List En)→Br):List AV→List Ob→Br
 | [.agg [.int .i64 bu,.sh EnT l]],[]=>φ bu l
 |_,_=>.fail
theorem K5 {φ:Int→(List En)→Br} (fu:Int→(List En)→Nat) (hv: ∀bu l res_,(φ bu l).val=some res_→Ey (fu bu l) bu l=some res_):Sound Kx 76 (Ez φ):=aj (C:=iCSz_C) (O:=Pv) Tryz.func76 (by kernel_rfl) fun args objs=>by
 unfold Ez;split
 ·rename_i bu l;exact .inr fun _ hyp_=>aO (Λ:=Pw (fu bu l)) (by kernel_rfl) (ah (l':=[K2]) (by kernel_rfl) ⟨N9 _,trivial⟩) (by kernel_rfl) (hv bu l _ hyp_)
 ·exact .inl rfl
def Px:Opt:={live:=[(3,[0,3,4])],outs:=[(3,[2,3])]}
def sCSz_C:SC:=[⟨85,_,K1⟩]
def ve (ai:(List En)) (al ap:Int) (U6:(List En)→Int→Int→OR') (cI:Int→OR'):OR':=
 (bif(decide (ap< (ai.length:Int)))then(bif(decide (0≤ap))then(bif(decide (ap< (ai.length:Int)))then(bif(isM (List.getD ai (Int.toNat ap) en0).1)then(U6 ai (ac (al+(fO ((List.getD ai (Int.toNat ap) en0).1,((List.getD ai (Int.toNat ap) en0).2.1,((List.getD ai (Int.toNat ap) en0).2.2.1,((List.getD ai (Int.toNat ap) en0).2.2.2.1,((List.getD ai (Int.toNat ap) en0).2.2.2.2.1,((List.getD ai (Int.toNat ap) en0).2.2.2.2.2.1,((List.getD ai (Int.toNat ap) en0).2.2.2.2.2.2.1,((List.getD ai (Int.toNat ap) en0).2.2.2.2.2.2.2.1,((List.getD ai (Int.toNat ap) en0).2.2.2.2.2.2.2.2.1,((List.getD ai (Int.toNat ap) en0).2.2.2.2.2.2.2.2.2.1,(List.getD ai (Int.toNat ap) en0).2.2.2.2.2.2.2.2.2.2))))))))))))) (ac (ap+1)))else(none))else(none))else(none))else(cI al))
def ll:Nat→(List En)→Int→Int→(Int→OR')→OR'
 |0,_,_,_,_=>none
 |n+1,ai,al,ap,cI=>ve ai al ap (fun ai al ap=>ll n ai al ap cI) cI
abbrev sCSz_p3:SP:=⟨19,[0,3,4],[(.v (.sh EnT)),(.v (.i .i64)),(.v (.i .i64))],[]⟩
noncomputable def K6:Code:=ax (aD Tryz.f73) [1,1,0,1,0,0]
def K7 (f:(Int→OR')→OR') (k:KT):OR':=f (fun aQ=>k (Ex.exit 0) ((St.mk (aw 0 19 [(3,(AV.int .i64 aQ))]) ([]:(List (Nat×(Ob)))))))
def K8 (n:Nat) (d:sCSz_p3.D):KT→OR':=K7 (ll n d.1.1 d.1.2.1 d.1.2.2.1)
def Py (N:Nat):Lam:=bf [⟨3,sCSz_p3,K8 N⟩]
theorem N_ (N:Nat):OkL Kx sCSz_C.s Px 0 N (Py N) K6:=okL sCSz_p3 (K8) (fun d kR=>K7 (ve d.1.1 d.1.2.1 d.1.2.2.1 (fun ai al ap=>kR ((ai,al,ap,()),())))) (fun _ _=>by kernel_rfl) (fun _ _ _=>by kernel_rfl) (fun _ _=>by kernel_rfl) (fun _ _ _ _=>by kernel_rfl) (ah (l':=[]) (by kernel_rfl) trivial)
def EA (N:Nat) (l:List En):OR':=(ll N l 0 0 (fun aQ=>(some ((AV.int .i64 aQ),[]))))
def EB (φ:(List En)→Br):List AV→List Ob→Br
 | [.sh EnT l],[]=>φ l
 |_,_=>.fail
theorem K9 {φ:(List En)→Br} (fu:(List En)→Nat) (hv: ∀l res_,(φ l).val=some res_→EA (fu l) l=some res_):Sound Kx 73 (EB φ):=aj (C:=sCSz_C) (O:=Px) Tryz.func73 (by kernel_rfl) fun args objs=>by
 unfold EB;split
 ·rename_i l;exact .inr fun _ hyp_=>aO (Λ:=Py (fu l)) (by kernel_rfl) (ah (l':=[K6]) (by kernel_rfl) ⟨N_ _,trivial⟩) (by kernel_rfl) (hv l _ hyp_)
 ·exact .inl rfl
def tb:Opt:={live:=[(5,[0,1,5])],outs:=[(5,[1,4])]}
def szEntryS_C:SC:=[⟨15,_,pT⟩]
def fP (aI:(List En)) (aU aH:Int) (U8:(List En)→Int→Int→OR') (cJ ku:Int→OR'):OR':=
 (bif(decide (aH< (aI.length:Int)))then(bif(decide (0≤aH))then(bif(decide (aH< (aI.length:Int)))then(bif((smE ((List.getD aI (Int.toNat aH) en0).1,((List.getD aI (Int.toNat aH) en0).2.1,((List.getD aI (Int.toNat aH) en0).2.2.1,((List.getD aI (Int.toNat aH) en0).2.2.2.1,((List.getD aI (Int.toNat aH) en0).2.2.2.2.1,((List.getD aI (Int.toNat aH) en0).2.2.2.2.2.1,((List.getD aI (Int.toNat aH) en0).2.2.2.2.2.2.1,((List.getD aI (Int.toNat aH) en0).2.2.2.2.2.2.2.1,((List.getD aI (Int.toNat aH) en0).2.2.2.2.2.2.2.2.1,((List.getD aI (Int.toNat aH) en0).2.2.2.2.2.2.2.2.2.1,(List.getD aI (Int.toNat aH) en0).2.2.2.2.2.2.2.2.2.2)))))))))))&&(bZ aU))then(bif(decide ((szM (enW ((List.getD aI (Int.toNat aH) en0).1,((List.getD aI (Int.toNat aH) en0).2.1,((List.getD aI (Int.toNat aH) en0).2.2.1,((List.getD aI (Int.toNat aH) en0).2.2.2.1,((List.getD aI (Int.toNat aH) en0).2.2.2.2.1,((List.getD aI (Int.toNat aH) en0).2.2.2.2.2.1,((List.getD aI (Int.toNat aH) en0).2.2.2.2.2.2.1,((List.getD aI (Int.toNat aH) en0).2.2.2.2.2.2.2.1,((List.getD aI (Int.toNat aH) en0).2.2.2.2.2.2.2.2.1,((List.getD aI (Int.toNat aH) en0).2.2.2.2.2.2.2.2.2.1,(List.getD aI (Int.toNat aH) en0).2.2.2.2.2.2.2.2.2.2))))))))))) aU)<0))then(cJ (szM (enW ((List.getD aI (Int.toNat aH) en0).1,((List.getD aI (Int.toNat aH) en0).2.1,((List.getD aI (Int.toNat aH) en0).2.2.1,((List.getD aI (Int.toNat aH) en0).2.2.2.1,((List.getD aI (Int.toNat aH) en0).2.2.2.2.1,((List.getD aI (Int.toNat aH) en0).2.2.2.2.2.1,((List.getD aI (Int.toNat aH) en0).2.2.2.2.2.2.1,((List.getD aI (Int.toNat aH) en0).2.2.2.2.2.2.2.1,((List.getD aI (Int.toNat aH) en0).2.2.2.2.2.2.2.2.1,((List.getD aI (Int.toNat aH) en0).2.2.2.2.2.2.2.2.2.1,(List.getD aI (Int.toNat aH) en0).2.2.2.2.2.2.2.2.2.2))))))))))) aU))else(U8 aI (szM (enW ((List.getD aI (Int.toNat aH) en0).1,((List.getD aI (Int.toNat aH) en0).2.1,((List.getD aI (Int.toNat aH) en0).2.2.1,((List.getD aI (Int.toNat aH) en0).2.2.2.1,((List.getD aI (Int.toNat aH) en0).2.2.2.2.1,((List.getD aI (Int.toNat aH) en0).2.2.2.2.2.1,((List.getD aI (Int.toNat aH) en0).2.2.2.2.2.2.1,((List.getD aI (Int.toNat aH) en0).2.2.2.2.2.2.2.1,((List.getD aI (Int.toNat aH) en0).2.2.2.2.2.2.2.2.1,((List.getD aI (Int.toNat aH) en0).2.2.2.2.2.2.2.2.2.1,(List.getD aI (Int.toNat aH) en0).2.2.2.2.2.2.2.2.2.2))))))))))) aU) (ac (aH+1))))else(none))else(none))else(none))else(ku aU))
def db:Nat→(List En)→Int→Int→(Int→OR')→(Int→OR')→OR'
 |0,_,_,_,_,_=>none
 |n+1,aI,aU,aH,cJ,ku=>fP aI aU aH (fun aI aU aH=>db n aI aU aH cJ ku) cJ ku
abbrev szEntryS_p5:SP:=⟨27,[0,1,5],[(.v (.sh EnT)),(.v (.i .i64)),(.v (.i .i64))],[]⟩
noncomputable def pW:Code:=ax (aD Tryz.f35) [1,1,1,0,1,0,0]
def pX (f:(Int→OR')→(Int→OR')→OR') (k:KT):OR':=f (fun am=>k Ex.ret ((St.mk (aw 0 27 [(1,(AV.int .i64 am)),(4,(AV.int .i64 (-1)))]) ([]:(List (Nat×(Ob))))))) (fun dW=>k (Ex.exit 0) ((St.mk (aw 0 27 [(1,(AV.int .i64 dW))]) ([]:(List (Nat×(Ob)))))))
def pY (n:Nat) (d:szEntryS_p5.D):KT→OR':=pX (db n d.1.1 d.1.2.1 d.1.2.2.1)
def tc (N:Nat):Lam:=bf [⟨5,szEntryS_p5,pY N⟩]
theorem y7 (N:Nat):OkL Kx szEntryS_C.s tb 0 N (tc N) pW:=okL szEntryS_p5 (pY) (fun d kR=>pX (fP d.1.1 d.1.2.1 d.1.2.2.1 (fun aI aU aH=>kR ((aI,aU,aH,()),())))) (fun _ _=>by kernel_rfl) (fun _ _ _=>by kernel_rfl) (fun _ _=>by kernel_rfl) (fun _ _ _ _=>by kernel_rfl) (ah (l':=[]) (by kernel_rfl) trivial)
def mf (N:Nat) (l:List En) (left:Int):OR':=(bif(decide ((ac (left-(l.length:Int)))<0))then(some ((AV.int .i64 (-1)),[]))else(db N l (ac (left-(l.length:Int))) 0 (fun am=>(some ((AV.int .i64 (-1)),[]))) (fun dW=>(some ((AV.int .i64 dW),[])))))
def mg (φ:(List En)→Int→Br):List AV→List Ob→Br
 | [.sh EnT l,.int .i64 left],[]=>φ l left
 |_,_=>.fail
theorem vf {φ:(List En)→Int→Br} (fu:(List En)→Int→Nat) (hv: ∀l left res_,(φ l left).val=some res_→mf (fu l left) l left=some res_):Sound Kx 35 (mg φ):=aj (C:=szEntryS_C) (O:=tb) Tryz.func35 (by kernel_rfl) fun args objs=>by
 unfold mg;split
 ·rename_i l left;exact .inr fun _ hyp_=>aO (Λ:=tc (fu l left)) (by kernel_rfl) (ah (l':=[pW]) (by kernel_rfl) ⟨y7 _,trivial⟩) (by kernel_rfl) (hv l left _ hyp_)
 ·exact .inl rfl
def td:Opt:={live:=[(3,[0,3,4])],outs:=[(3,[2,3])]}
def toEntryS_C:SC:=[⟨17,_,s8⟩]
def fQ (ai:(List En)) (al:Int) (ap:(List En)) (U6:(List En)→Int→(List En)→OR') (cI:(List En)→OR'):OR':=
 (bif(decide (al< (ai.length:Int)))then(bif(decide (0≤al))then(bif(decide (al< (ai.length:Int)))then(bif(decide ((List.length (List.getD ai (Int.toNat al) en0).2.2.2.1)≤1048576))then(bif(decide ((List.length (List.getD ai (Int.toNat al) en0).2.2.2.2.2.2.2.2.2.1)≤1048576))then(bif(decide (0≤al))then(bif(decide (al< (ap.length:Int)))then(U6 ai (ac (al+1)) (List.set ap (Int.toNat al) ((List.getD ai (Int.toNat al) en0).1,((List.getD ai (Int.toNat al) en0).2.1,((List.getD ai (Int.toNat al) en0).2.2.1,((List.getD ai (Int.toNat al) en0).2.2.2.1,((List.getD ai (Int.toNat al) en0).2.2.2.2.1,((List.getD ai (Int.toNat al) en0).2.2.2.2.2.1,((List.getD ai (Int.toNat al) en0).2.2.2.2.2.2.1,((List.getD ai (Int.toNat al) en0).2.2.2.2.2.2.2.1,((List.getD ai (Int.toNat al) en0).2.2.2.2.2.2.2.2.1,((List.getD ai (Int.toNat al) en0).2.2.2.2.2.2.2.2.2.1,(List.getD ai (Int.toNat al) en0).2.2.2.2.2.2.2.2.2.2))))))))))))else(none))else(none))else(none))else(none))else(none))else(none))else(cI ap))
def dc:Nat→(List En)→Int→(List En)→((List En)→OR')→OR'
 |0,_,_,_,_=>none
 |n+1,ai,al,ap,cI=>fQ ai al ap (fun ai al ap=>dc n ai al ap cI) cI
abbrev toEntryS_p3:SP:=⟨23,[0,3,4],[(.v (.sh EnT)),(.v (.ref 256 0)),(.v (.i .i64))],[(256,.arr EnT 0 false)]⟩
noncomputable def pZ:Code:=ax (aD Tryz.f38) [1,1,0,1,0,0]
def p7 (f:((List En)→OR')→OR') (k:KT):OR':=f (fun aQ=>k (Ex.exit 0) ((St.mk (aw 0 23 [(3,(AV.ref 256 0))]) ((256,(Ob.arr EnT 0 false aQ))::([]:(List (Nat×(Ob))))))))
def p8 (n:Nat) (d:toEntryS_p3.D):KT→OR':=p7 (dc n d.1.1 d.1.2.2.1 d.2.1)
def tf (N:Nat):Lam:=bf [⟨3,toEntryS_p3,p8 N⟩]
theorem y8 (N:Nat):OkL Kx toEntryS_C.s td 0 N (tf N) pZ:=okL toEntryS_p3 (p8) (fun d kR=>p7 (fQ d.1.1 d.1.2.2.1 d.2.1 (fun ai al ap=>kR ((ai,(),al,()),(ap,()))))) (fun _ _=>by kernel_rfl) (fun _ _ _=>by kernel_rfl) (fun _ _=>by kernel_rfl) (fun _ _ _ _=>by kernel_rfl) (ah (l':=[]) (by kernel_rfl) trivial)
def mh (N:Nat) (l:List En):OR':=(bif(decide (0≤(l.length:Int)))then(bif(decide ((l.length:Int)=(l.length:Int)))then(bif(decide (((l.length:Int)*160)≤140737488355328))then(dc N l 0 (List.replicate (Int.toNat (l.length:Int)) en0) (fun aQ=>(some ((AV.ref 0 0),((Ob.arr EnT 0 false aQ)::[])))))else(none))else(none))else(none))
def mi (φ:(List En)→Br):List AV→List Ob→Br
 | [.sh EnT l],[]=>φ l
 |_,_=>.fail
theorem vg {φ:(List En)→Br} (fu:(List En)→Nat) (hv: ∀l res_,(φ l).val=some res_→mh (fu l) l=some res_):Sound Kx 38 (mi φ):=aj (C:=toEntryS_C) (O:=td) Tryz.func38 (by kernel_rfl) fun args objs=>by
 unfold mi;split
 ·rename_i l;exact .inr fun _ hyp_=>aO (Λ:=tf (fu l)) (by kernel_rfl) (ah (l':=[pZ]) (by kernel_rfl) ⟨y8 _,trivial⟩) (by kernel_rfl) (hv l _ hyp_)
 ·exact .inl rfl
def tg:Opt:={live:=[(4,[0,1,5])],outs:=[(4,[4])]}
def eqEntryS_C:SC:=[⟨19,_,pV⟩]
def fR (ar aE:(List En)) (ay:Int) (U9:(List En)→(List En)→Int→OR') (bQ:OR'):OR':=
 (bif(decide (ay< (ar.length:Int)))then(bif(decide (0≤ay))then(bif(decide (ay< (ar.length:Int)))then(bif(decide (0≤ay))then(bif(decide (ay< (aE.length:Int)))then(bif(((N8 ((List.getD ar (Int.toNat ay) en0).1,((List.getD ar (Int.toNat ay) en0).2.1,((List.getD ar (Int.toNat ay) en0).2.2.1,((List.getD ar (Int.toNat ay) en0).2.2.2.1,((List.getD ar (Int.toNat ay) en0).2.2.2.2.1,((List.getD ar (Int.toNat ay) en0).2.2.2.2.2.1,((List.getD ar (Int.toNat ay) en0).2.2.2.2.2.2.1,((List.getD ar (Int.toNat ay) en0).2.2.2.2.2.2.2.1,((List.getD ar (Int.toNat ay) en0).2.2.2.2.2.2.2.2.1,((List.getD ar (Int.toNat ay) en0).2.2.2.2.2.2.2.2.2.1,(List.getD ar (Int.toNat ay) en0).2.2.2.2.2.2.2.2.2.2)))))))))) ((List.getD aE (Int.toNat ay) en0).1,((List.getD aE (Int.toNat ay) en0).2.1,((List.getD aE (Int.toNat ay) en0).2.2.1,((List.getD aE (Int.toNat ay) en0).2.2.2.1,((List.getD aE (Int.toNat ay) en0).2.2.2.2.1,((List.getD aE (Int.toNat ay) en0).2.2.2.2.2.1,((List.getD aE (Int.toNat ay) en0).2.2.2.2.2.2.1,((List.getD aE (Int.toNat ay) en0).2.2.2.2.2.2.2.1,((List.getD aE (Int.toNat ay) en0).2.2.2.2.2.2.2.2.1,((List.getD aE (Int.toNat ay) en0).2.2.2.2.2.2.2.2.2.1,(List.getD aE (Int.toNat ay) en0).2.2.2.2.2.2.2.2.2.2)))))))))))&&(decide ((List.length (List.getD ar (Int.toNat ay) en0).2.2.2.1)≤1048576)))&&(decide ((List.length (List.getD ar (Int.toNat ay) en0).2.2.2.2.2.2.2.2.2.1)≤1048576)))then(U9 ar aE (ac (ay+1)))else(none))else(none))else(none))else(none))else(none))else bQ)
def de:Nat→(List En)→(List En)→Int→(OR')→OR'
 |0,_,_,_,_=>none
 |n+1,ar,aE,ay,bQ=>fR ar aE ay (fun ar aE ay=>de n ar aE ay bQ) bQ
abbrev eqEntryS_p4:SP:=⟨27,[0,1,5],[(.v (.sh EnT)),(.v (.sh EnT)),(.v (.i .i64))],[]⟩
noncomputable def p9:Code:=ax (aD Tryz.f41) [1,1,0,1,0,0]
def p_ (f:(OR')→OR') (k:KT):OR':=f (k (Ex.exit 0) ((St.mk (aw 0 27 []) ([]:(List (Nat×(Ob)))))))
def qa (n:Nat) (d:eqEntryS_p4.D):KT→OR':=p_ (de n d.1.1 d.1.2.1 d.1.2.2.1)
def th (N:Nat):Lam:=bf [⟨4,eqEntryS_p4,qa N⟩]
theorem y9 (N:Nat):OkL Kx eqEntryS_C.s tg 0 N (th N) p9:=okL eqEntryS_p4 (qa) (fun d kR=>p_ (fR d.1.1 d.1.2.1 d.1.2.2.1 (fun ar aE ay=>kR ((ar,aE,ay,()),())))) (fun _ _=>by kernel_rfl) (fun _ _ _=>by kernel_rfl) (fun _ _=>by kernel_rfl) (fun _ _ _ _=>by kernel_rfl) (ah (l':=[]) (by kernel_rfl) trivial)
def mj (N:Nat) (a b:List En):OR':=(bif(!(decide ((a.length:Int)=(b.length:Int))))then(some ((AV.bool false),[]))else(de N a b 0 (some ((AV.bool true),[]))))
def ml (φ:(List En)→(List En)→Br):List AV→List Ob→Br
 | [.sh EnT a,.sh EnT b],[]=>φ a b
 |_,_=>.fail
theorem vh {φ:(List En)→(List En)→Br} (fu:(List En)→(List En)→Nat) (hv: ∀a b res_,(φ a b).val=some res_→mj (fu a b) a b=some res_):Sound Kx 41 (ml φ):=aj (C:=eqEntryS_C) (O:=tg) Tryz.func41 (by kernel_rfl) fun args objs=>by
 unfold ml;split
 ·rename_i a b;exact .inr fun _ hyp_=>aO (Λ:=th (fu a b)) (by kernel_rfl) (ah (l':=[p9]) (by kernel_rfl) ⟨y9 _,trivial⟩) (by kernel_rfl) (hv a b _ hyp_)
 ·exact .inl rfl
def Pz:Opt:={live:=[(4,[0,1,12,13])],outs:=[(4,[4])]}
def vi (ar aE:(List aa)) (ay cx:Int) (U9:(List aa)→(List aa)→Int→Int→OR') (bQ dm:OR'):OR':=
 (bif(decide (cx<ay))then(bif(decide (0≤cx))then(bif(decide (cx< (ar.length:Int)))then(bif(decide (0≤cx))then(bif(decide (cx< (aE.length:Int)))then(bif(!(decide ((List.getD ar (Int.toNat cx) ([]:aa))=(List.getD aE (Int.toNat cx) ([]:aa)))))then bQ else(U9 ar aE ay (ac (cx+1))))else(none))else(none))else(none))else(none))else dm)
def lm:Nat→(List aa)→(List aa)→Int→Int→(OR')→(OR')→OR'
 |0,_,_,_,_,_,_=>none
 |n+1,ar,aE,ay,cx,bQ,dm=>vi ar aE ay cx (fun ar aE ay cx=>lm n ar aE ay cx bQ dm) bQ dm
abbrev eqSl_p4:SP:=⟨26,[0,1,12,13],[(.v (.sh Ty.str)),(.v (.sh Ty.str)),(.v (.i .i64)),(.v (.i .i64))],[]⟩
noncomputable def K_:Code:=ax (aD Tryz.f143) [1,1,0,1,0,0]
def La (f:(OR')→(OR')→OR') (k:KT):OR':=f (k Ex.ret ((St.mk (aw 0 26 [(4,(AV.bool false))]) ([]:(List (Nat×(Ob))))))) (k (Ex.exit 0) ((St.mk (aw 0 26 []) ([]:(List (Nat×(Ob)))))))
def Lb (n:Nat) (d:eqSl_p4.D):KT→OR':=La (lm n d.1.1 d.1.2.1 d.1.2.2.1 d.1.2.2.2.1)
def PA (N:Nat):Lam:=bf [⟨4,eqSl_p4,Lb N⟩]
theorem Oa (N:Nat):OkL Kx noS Pz 0 N (PA N) K_:=okL eqSl_p4 (Lb) (fun d kR=>La (vi d.1.1 d.1.2.1 d.1.2.2.1 d.1.2.2.2.1 (fun ar aE ay cx=>kR ((ar,aE,ay,cx,()),())))) (fun _ _=>by kernel_rfl) (fun _ _ _=>by kernel_rfl) (fun _ _=>by kernel_rfl) (fun _ _ _ _=>by kernel_rfl) (ah (l':=[]) (by kernel_rfl) trivial)
def EC (N:Nat) (a b:List aa):OR':=(bif(!(decide ((a.length:Int)=(b.length:Int))))then(some ((AV.bool false),[]))else(lm N a b (a.length:Int) 0 (some ((AV.bool false),[])) (some ((AV.bool true),[]))))
def ED (φ:(List aa)→(List aa)→Br):List AV→List Ob→Br
 | [.sh .str a,.sh .str b],[]=>φ a b
 |_,_=>.fail
theorem Ld {φ:(List aa)→(List aa)→Br} (fu:(List aa)→(List aa)→Nat) (hv: ∀a b res_,(φ a b).val=some res_→EC (fu a b) a b=some res_):Sound Kx 143 (ED φ):=aj (C:=[]) (O:=Pz) Tryz.func143 (by kernel_rfl) fun args objs=>by
 unfold ED;split
 ·rename_i a b;exact .inr fun _ hyp_=>aO (Λ:=PA (fu a b)) (by kernel_rfl) (ah (l':=[K_]) (by kernel_rfl) ⟨Oa _,trivial⟩) (by kernel_rfl) (hv a b _ hyp_)
 ·exact .inl rfl
def Le:Opt:={live:=[(4,[0,1,5])],outs:=[(4,[4])]}
def np (ar aE:(List aa)) (ay:Int) (U9:(List aa)→(List aa)→Int→OR') (bQ dm:OR'):OR':=
 (bif(decide (ay< (ar.length:Int)))then(bif(decide (0≤ay))then(bif(decide (ay< (ar.length:Int)))then(bif(decide (0≤ay))then(bif(decide (ay< (aE.length:Int)))then(bif(!(decide ((List.getD ar (Int.toNat ay) ([]:aa))=(List.getD aE (Int.toNat ay) ([]:aa)))))then bQ else(U9 ar aE (ac (ay+1))))else(none))else(none))else(none))else(none))else dm)
def g_:Nat→(List aa)→(List aa)→Int→(OR')→(OR')→OR'
 |0,_,_,_,_,_=>none
 |n+1,ar,aE,ay,bQ,dm=>np ar aE ay (fun ar aE ay=>g_ n ar aE ay bQ dm) bQ dm
abbrev sSame_p4:SP:=⟨26,[0,1,5],[(.v (.sh Ty.str)),(.v (.sh Ty.str)),(.v (.i .i64))],[]⟩
noncomputable def EE:Code:=ax (aD Tryz.f131) [1,1,0,1,0,0]
def EF (f:(OR')→(OR')→OR') (k:KT):OR':=f (k Ex.ret ((St.mk (aw 0 26 [(4,(AV.bool false))]) ([]:(List (Nat×(Ob))))))) (k (Ex.exit 0) ((St.mk (aw 0 26 []) ([]:(List (Nat×(Ob)))))))
def EG (n:Nat) (d:sSame_p4.D):KT→OR':=EF (g_ n d.1.1 d.1.2.1 d.1.2.2.1)
def Lf (N:Nat):Lam:=bf [⟨4,sSame_p4,EG N⟩]
theorem Lg (N:Nat):OkL Kx noS Le 0 N (Lf N) EE:=okL sSame_p4 (EG) (fun d kR=>EF (np d.1.1 d.1.2.1 d.1.2.2.1 (fun ar aE ay=>kR ((ar,aE,ay,()),())))) (fun _ _=>by kernel_rfl) (fun _ _ _=>by kernel_rfl) (fun _ _=>by kernel_rfl) (fun _ _ _ _=>by kernel_rfl) (ah (l':=[]) (by kernel_rfl) trivial)
def y_ (N:Nat) (a b:List aa):OR':=(bif(!(decide ((a.length:Int)=(b.length:Int))))then(some ((AV.bool false),[]))else(g_ N a b 0 (some ((AV.bool false),[])) (some ((AV.bool true),[]))))
def zc (φ:(List aa)→(List aa)→Br):List AV→List Ob→Br
 | [.sh .str a,.sh .str b],[]=>φ a b
 |_,_=>.fail
theorem G8 {φ:(List aa)→(List aa)→Br} (fu:(List aa)→(List aa)→Nat) (hv: ∀a b res_,(φ a b).val=some res_→y_ (fu a b) a b=some res_):Sound Kx 131 (zc φ):=aj (C:=[]) (O:=Le) Tryz.func131 (by kernel_rfl) fun args objs=>by
 unfold zc;split
 ·rename_i a b;exact .inr fun _ hyp_=>aO (Λ:=Lf (fu a b)) (by kernel_rfl) (ah (l':=[EE]) (by kernel_rfl) ⟨Lg _,trivial⟩) (by kernel_rfl) (hv a b _ hyp_)
 ·exact .inl rfl
def TW:List AV→List Ob→Br
 | [.sh .str a,.sh .str b],[]=>.ite (decide (a.length≤1000000)) (.ret (.bool (decide (a=b))) []) .fail
 |_,_=>.fail
theorem Lh (a b:List aa) (hl:a.length≤4611686018427387904) (k0 k1:OR'): ∀(r r':List aa) (i:Int) (n:Nat),At a i r→At b i r'→r.length=r'.length→r.length<n→
 lm n a b (a.length:Int) i k0 k1=bif decide (r=r')then k1 else k0:=by
 intro r;induction r with
 |nil=>
  intro r' i n h h' he hn;obtain⟨n,rfl⟩:=bh hn
  obtain rfl:r'=[]:=List.length_eq_zero_iff.1 he.symm
  unfold lm vi;simp only [h.dge,cond_false,decide_true,cond_true]
 |cons x r ih=>
  intro r' i n h h' he hn;obtain⟨n,rfl⟩:=bh hn
  cases r' with
  |nil=>cases he
  |cons y r'=>
   have hs:=ih r' (i+1) n h.step h'.step (by simpa using he) (by simp at hn;omega)
   unfold lm vi;simp only [h.dlt,h'.dlt,h.dnn,h.get,h'.get,cond_true,h.next hl,hs]
   by_cases c1:x=y<;>by_cases c2:r=r'<;>simp [c1,c2]
theorem G9 (a b:List aa) (hl:a.length≤4611686018427387904) (k0 k1:OR'): ∀(r r':List aa) (i:Int) (n:Nat),At a i r→At b i r'→r.length=r'.length→r.length<n→
 g_ n a b i k0 k1=bif decide (r=r')then k1 else k0:=by
 intro r;induction r with
 |nil=>
  intro r' i n h h' he hn;obtain⟨n,rfl⟩:=bh hn
  obtain rfl:r'=[]:=List.length_eq_zero_iff.1 he.symm
  unfold g_ np;simp only [h.dge,cond_false,decide_true,cond_true]
 |cons x r ih=>
  intro r' i n h h' he hn;obtain⟨n,rfl⟩:=bh hn
  cases r' with
  |nil=>cases he
  |cons y r'=>
   have hs:=ih r' (i+1) n h.step h'.step (by simpa using he) (by simp at hn;omega)
   unfold g_ np;simp only [h.dlt,h'.dlt,h.dnn,h.get,h'.get,cond_true,h.next hl,hs]
   by_cases c1:x=y<;>by_cases c2:r=r'<;>simp [c1,c2]
theorem Oc:Sound Kx 143 TW:=by
 refine(Ld (φ:=fun a b=>.ite (decide (a.length≤1000000)) (.ret (.bool (decide (a=b))) []) .fail) (fun a _=>a.length+1) fun a b r h=> ?_).of fun args objs r h=> ?_
 ·obtain⟨h1,h2⟩:=af h
  cases h2
  rw [decide_eq_true_eq]at h1
  unfold EC
  by_cases c:a.length=b.length
  ·rw [dT' (show(a.length:Int)=(b.length:Int) by omega)]
   refine(Lh a b (by omega) _ _ a b 0 _ (At.start a) (At.start b) c (by omega)).trans ?_
   cases decide (a=b)<;>rfl
  ·rw [dF' (show ¬(a.length:Int)=(b.length:Int) by omega),dF' (show ¬a=b from fun e=>c (by rw [e]))]
   rfl
 ·unfold TW at h;split at h
  ·exact h
  ·cases h
theorem Li:Sound Kx 131 TW:=by
 refine(G8 (φ:=fun a b=>.ite (decide (a.length≤1000000)) (.ret (.bool (decide (a=b))) []) .fail) (fun a _=>a.length+1) fun a b r h=> ?_).of fun args objs r h=> ?_
 ·obtain⟨h1,h2⟩:=af h
  cases h2
  rw [decide_eq_true_eq]at h1
  unfold y_
  by_cases c:a.length=b.length
  ·rw [dT' (show(a.length:Int)=(b.length:Int) by omega)]
   refine(G9 a b (by omega) _ _ a b 0 _ (At.start a) (At.start b) c (by omega)).trans ?_
   cases decide (a=b)<;>rfl
  ·rw [dF' (show ¬(a.length:Int)=(b.length:Int) by omega),dF' (show ¬a=b from fun e=>c (by rw [e]))]
   rfl
 ·unfold TW at h;split at h
  ·exact h
  ·cases h
theorem Lj (s:aa): ∀(l:List aa) (x:aa),x∈vB l s→x=s∨x∈l
 | [],x,h=>by simp [vB]at h;exact .inl h
 |a::l,x,h=>by
  unfold vB at h
  cases c:bytesLess s a
  ·rw [c,cond_false]at h
   rcases List.mem_cons.1 h with rfl|h
   ·exact .inr (List.mem_cons_self ..)
   ·rcases Lj s l x h with h|h
    ·exact .inl h
    ·exact .inr (List.mem_cons_of_mem _ h)
  ·rw [c,cond_true]at h
   rcases List.mem_cons.1 h with h|h
   ·exact .inl h
   ·exact .inr h
theorem Q4 (l:List aa) (s x:aa) (h:x∈su l s):x=s∨x∈l:=by
 unfold su at h
 cases c:inP l s
 ·rw [c,cond_false]at h;exact Lj s l x h
 ·rw [c,cond_true]at h;exact .inr h
theorem EH: ∀(ws out:List aa),(∀x∈out,x.length≤4000)→(∀x∈ws,x.length≤4000)→ ∀x∈ws.foldl (fun o w=>su o (aJ w)) out,x.length≤4000
 | [],out,h,_=>h
 |w::ws,out,h,hw=>by
  rw [List.foldl_cons]
  refine EH ws _ (fun x hx=> ?_) fun x hx=>hw x (List.mem_cons_of_mem _ hx)
  rcases Q4 _ _ _ hx with rfl|hx
  ·rw [om];exact hw w (List.mem_cons_self ..)
  ·exact h x hx
theorem EI (l:List Fd): ∀x∈en l,x.length≤4000:=EH _ [] (fun x h=>by cases h) fun x hx=>(Bb _).2 x hx
def zd:Opt:={live:=[(4,[1,2,18,19,20])],outs:=[(4,[4])]}
def iChosen_C:SC:=[⟨50,_,gu⟩,⟨89,_,dA⟩,⟨142,_,JO⟩,⟨144,_,sq⟩,⟨143,_,Oc⟩]
def hO (ar:(List Fd)) (aE ay:Int) (cx:aa) (fe zP:Int) (vv:(List Fd)) (vE zQ:aa) (vF:Int) (BY:aa) (BZ:Bool) (B0:(List Fd)) (B1:aa) (kx:(List aa)) (U9:(List Fd)→Int→Int→aa→Int→Int→(List Fd)→aa→aa→Int→aa→Bool→(List Fd)→aa→(List aa)→OR') (bQ dm:OR'):OR':=
 (bif(decide (ay<aE))then(bif(decide (0≤ay))then(bif(decide (ay< (kx.length:Int)))then(bif(decide ((List.getD kx (Int.toNat ay) ([]:aa))=([42]:aa)))then bQ else(bif(isM (List.getD kx (Int.toNat ay) ([]:aa)))then(bif(isM (List.getD kx (Int.toNat ay) ([]:aa)))then(bif(decide ((List.length (bJ vv (List.getD kx (Int.toNat ay) ([]:aa))))≤1000000))then(bif(!(decide ((bJ vv (List.getD kx (Int.toNat ay) ([]:aa)))=(bJ ar (List.getD kx (Int.toNat ay) ([]:aa))))))then bQ else(U9 ar aE (ac (ay+1)) cx fe zP vv vE zQ vF BY BZ B0 B1 kx))else(none))else(none))else(none)))else(none))else(none))else dm)
def dN:Nat→(List Fd)→Int→Int→aa→Int→Int→(List Fd)→aa→aa→Int→aa→Bool→(List Fd)→aa→(List aa)→(OR')→(OR')→OR'
 |0,_,_,_,_,_,_,_,_,_,_,_,_,_,_,_,_,_=>none
 |n+1,ar,aE,ay,cx,fe,zP,vv,vE,zQ,vF,BY,BZ,B0,B1,kx,bQ,dm=>hO ar aE ay cx fe zP vv vE zQ vF BY BZ B0 B1 kx (fun ar aE ay cx fe zP vv vE zQ vF BY BZ B0 B1 kx=>dN n ar aE ay cx fe zP vv vE zQ vF BY BZ B0 B1 kx bQ dm) bQ dm
abbrev iChosen_p4:SP:=⟨38,[1,2,18,19,20],[(.v (.sh (Ty.pair Ty.str Ty.str))),(.v (.ptr 192 0)),(.v (.ref 1216 0)),(.v (.i .i64)),(.v (.i .i64))],[(192,.var [.s,(.i .i64),(.i .i64),(.sh (Ty.pair Ty.str Ty.str)),.s,.s,(.i .i64),.s,.b,(.sh (Ty.pair Ty.str Ty.str)),.s]),(1216,.arr Ty.str 0 false)]⟩
noncomputable def tj:Code:=ax (aD Tryz.f92) [1,1,0,1,0,0]
def tl (f:(OR')→(OR')→OR') (k:KT):OR':=f (k Ex.ret ((St.mk (aw 0 38 [(4,(AV.bool false))]) ([]:(List (Nat×(Ob))))))) (k (Ex.exit 0) ((St.mk (aw 0 38 []) ([]:(List (Nat×(Ob)))))))
def tm (n:Nat) (d:iChosen_p4.D):KT→OR':=tl (dN n d.1.1 d.1.2.2.2.1 d.1.2.2.2.2.1 d.2.1.1 d.2.1.2.1 d.2.1.2.2.1 d.2.1.2.2.2.1 d.2.1.2.2.2.2.1 d.2.1.2.2.2.2.2.1 d.2.1.2.2.2.2.2.2.1 d.2.1.2.2.2.2.2.2.2.1 d.2.1.2.2.2.2.2.2.2.2.1 d.2.1.2.2.2.2.2.2.2.2.2.1 d.2.1.2.2.2.2.2.2.2.2.2.2.1 d.2.2.1)
def ze (N:Nat):Lam:=bf [⟨4,iChosen_p4,tm N⟩]
theorem BA (N:Nat):OkL Kx iChosen_C.s zd 0 N (ze N) tj:=okL iChosen_p4 (tm) (fun d kR=>tl (hO d.1.1 d.1.2.2.2.1 d.1.2.2.2.2.1 d.2.1.1 d.2.1.2.1 d.2.1.2.2.1 d.2.1.2.2.2.1 d.2.1.2.2.2.2.1 d.2.1.2.2.2.2.2.1 d.2.1.2.2.2.2.2.2.1 d.2.1.2.2.2.2.2.2.2.1 d.2.1.2.2.2.2.2.2.2.2.1 d.2.1.2.2.2.2.2.2.2.2.2.1 d.2.1.2.2.2.2.2.2.2.2.2.2.1 d.2.2.1 (fun ar aE ay cx fe zP vv vE zQ vF BY BZ B0 B1 kx=>kR ((ar,(),(),aE,ay,()),((cx,fe,zP,vv,vE,zQ,vF,BY,BZ,B0,B1,()),kx,()))))) (fun _ _=>by kernel_rfl) (fun _ _ _=>by kernel_rfl) (fun _ _=>by kernel_rfl) (fun _ _ _ _=>by kernel_rfl) (ah (l':=[]) (by kernel_rfl) trivial)
def qb (N:Nat) (ur:aa) (t1 t2:Int) (ak:List Fd) (me ta:aa) (st:Int) (re:aa) (ba:Bool) (fs:List Fd) (bo:aa) (l:List Fd):OR':=(bif(isM ur)then(bif(!(gt (ur,(t1,(t2,(ak,(me,(ta,(st,(re,(ba,(fs,bo))))))))))))then(some ((AV.bool false),[]))else(bif(!(b9 l))then(some ((AV.bool false),[]))else(dN N l ((List.length (en fs)):Int) 0 ur t1 t2 ak me ta st re ba fs bo (en fs) (some ((AV.bool false),[])) (some ((AV.bool true),[])))))else(none))
def qc (φ:aa→Int→Int→(List Fd)→aa→aa→Int→aa→Bool→(List Fd)→aa→(List Fd)→Br):List AV→List Ob→Br
 | [.agg [.str ur,.int .i64 t1,.int .i64 t2,.sh (.pair .str .str) ak,.str me,.str ta,.int .i64 st,.str re,.bool ba,.sh (.pair .str .str) fs,.str bo],.sh (.pair .str .str) l],[]=>φ ur t1 t2 ak me ta st re ba fs bo l
 |_,_=>.fail
theorem zf {φ:aa→Int→Int→(List Fd)→aa→aa→Int→aa→Bool→(List Fd)→aa→(List Fd)→Br} (fu:aa→Int→Int→(List Fd)→aa→aa→Int→aa→Bool→(List Fd)→aa→(List Fd)→Nat) (hv: ∀ur t1 t2 ak me ta st re ba fs bo l res_,(φ ur t1 t2 ak me ta st re ba fs bo l).val=some res_→qb (fu ur t1 t2 ak me ta st re ba fs bo l) ur t1 t2 ak me ta st re ba fs bo l=some res_):Sound Kx 92 (qc φ):=aj (C:=iChosen_C) (O:=zd) Tryz.func92 (by kernel_rfl) fun args objs=>by
 unfold qc;split
 ·rename_i ur t1 t2 ak me ta st re ba fs bo l;exact .inr fun _ hyp_=>aO (Λ:=ze (fu ur t1 t2 ak me ta st re ba fs bo l)) (by kernel_rfl) (ah (l':=[tj]) (by kernel_rfl) ⟨BA _,trivial⟩) (by kernel_rfl) (hv ur t1 t2 ak me ta st re ba fs bo l _ hyp_)
 ·exact .inl rfl
def zg:Opt:={live:=[(5,[1,2,5,6])],outs:=[(5,[4])],split:=true}
def sChosen_C:SC:=[⟨46,_,gv⟩,⟨82,_,dB⟩,⟨130,_,JP⟩,⟨132,_,sr⟩,⟨131,_,Li⟩]
def hP (aI:(List Fd)) (aU:(List aa)) (aH:Int) (cK:aa) (lr zT:Int) (vD:(List Fd)) (jp zU:aa) (Rc:Int) (B2:aa) (B3:Bool) (B4:(List Fd)) (B5:aa) (U8:(List Fd)→(List aa)→Int→aa→Int→Int→(List Fd)→aa→aa→Int→aa→Bool→(List Fd)→aa→OR') (cJ ku:OR'):OR':=
 (bif(decide (aH< (aU.length:Int)))then(bif(decide (0≤aH))then(bif(decide (aH< (aU.length:Int)))then(bif(decide ((List.getD aU (Int.toNat aH) ([]:aa))=([42]:aa)))then cJ else(bif(decide (0≤aH))then(bif(decide (aH< (aU.length:Int)))then(bif(isM (List.getD aU (Int.toNat aH) ([]:aa)))then(bif(decide (0≤aH))then(bif(decide (aH< (aU.length:Int)))then(bif(isM (List.getD aU (Int.toNat aH) ([]:aa)))then(bif(decide ((List.length (bJ vD (List.getD aU (Int.toNat aH) ([]:aa))))≤1000000))then(bif(decide ((bJ vD (List.getD aU (Int.toNat aH) ([]:aa)))=(bJ aI (List.getD aU (Int.toNat aH) ([]:aa)))))then(U8 aI aU (ac (aH+1)) cK lr zT vD jp zU Rc B2 B3 B4 B5)else cJ)else(none))else(none))else(none))else(none))else(none))else(none))else(none)))else(none))else(none))else ku)
def dO:Nat→(List Fd)→(List aa)→Int→aa→Int→Int→(List Fd)→aa→aa→Int→aa→Bool→(List Fd)→aa→(OR')→(OR')→OR'
 |0,_,_,_,_,_,_,_,_,_,_,_,_,_,_,_,_=>none
 |n+1,aI,aU,aH,cK,lr,zT,vD,jp,zU,Rc,B2,B3,B4,B5,cJ,ku=>hP aI aU aH cK lr zT vD jp zU Rc B2 B3 B4 B5 (fun aI aU aH cK lr zT vD jp zU Rc B2 B3 B4 B5=>dO n aI aU aH cK lr zT vD jp zU Rc B2 B3 B4 B5 cJ ku) cJ ku
abbrev sChosen_p5:SP:=⟨47,[1,2,5,6],[(.v (.sh (Ty.pair Ty.str Ty.str))),(.v (.ptr 192 0)),(.v (.sh Ty.str)),(.v (.i .i64))],[(192,.var [.s,(.i .i64),(.i .i64),(.sh (Ty.pair Ty.str Ty.str)),.s,.s,(.i .i64),.s,.b,(.sh (Ty.pair Ty.str Ty.str)),.s])]⟩
noncomputable def tn:Code:=ax (aD Tryz.f84) [1,1,1,0,1,0,0]
def tq (f:(OR')→(OR')→OR') (k:KT):OR':=f (k Ex.ret ((St.mk (aw 0 47 [(4,(AV.bool false))]) ([]:(List (Nat×(Ob))))))) (k (Ex.exit 0) ((St.mk (aw 0 47 []) ([]:(List (Nat×(Ob)))))))
def tt (n:Nat) (d:sChosen_p5.D):KT→OR':=tq (dO n d.1.1 d.1.2.2.1 d.1.2.2.2.1 d.2.1.1 d.2.1.2.1 d.2.1.2.2.1 d.2.1.2.2.2.1 d.2.1.2.2.2.2.1 d.2.1.2.2.2.2.2.1 d.2.1.2.2.2.2.2.2.1 d.2.1.2.2.2.2.2.2.2.1 d.2.1.2.2.2.2.2.2.2.2.1 d.2.1.2.2.2.2.2.2.2.2.2.1 d.2.1.2.2.2.2.2.2.2.2.2.2.1)
def zh (N:Nat):Lam:=bf [⟨5,sChosen_p5,tt N⟩]
theorem BB (N:Nat):OkL Kx sChosen_C.s zg 0 N (zh N) tn:=okL sChosen_p5 (tt) (fun d kR=>tq (hP d.1.1 d.1.2.2.1 d.1.2.2.2.1 d.2.1.1 d.2.1.2.1 d.2.1.2.2.1 d.2.1.2.2.2.1 d.2.1.2.2.2.2.1 d.2.1.2.2.2.2.2.1 d.2.1.2.2.2.2.2.2.1 d.2.1.2.2.2.2.2.2.2.1 d.2.1.2.2.2.2.2.2.2.2.1 d.2.1.2.2.2.2.2.2.2.2.2.1 d.2.1.2.2.2.2.2.2.2.2.2.2.1 (fun aI aU aH cK lr zT vD jp zU Rc B2 B3 B4 B5=>kR ((aI,(),aU,aH,()),((cK,lr,zT,vD,jp,zU,Rc,B2,B3,B4,B5,()),()))))) (fun _ _=>by kernel_rfl) (fun _ _ _=>by kernel_rfl) (fun _ _=>by kernel_rfl) (fun _ _ _ _=>by kernel_rfl) (ah (l':=[]) (by kernel_rfl) trivial)
def qd (N:Nat) (ur:aa) (t1 t2:Int) (ak:List Fd) (me ta:aa) (st:Int) (re:aa) (ba:Bool) (fs:List Fd) (bo:aa) (l:List Fd):OR':=(bif(isM ur)then(bif(!(gt (ur,(t1,(t2,(ak,(me,(ta,(st,(re,(ba,(fs,bo))))))))))))then(some ((AV.bool false),[]))else(bif(!(b9 l))then(some ((AV.bool false),[]))else(dO N l (en fs) 0 ur t1 t2 ak me ta st re ba fs bo (some ((AV.bool false),[])) (some ((AV.bool true),[])))))else(none))
def qe (φ:aa→Int→Int→(List Fd)→aa→aa→Int→aa→Bool→(List Fd)→aa→(List Fd)→Br):List AV→List Ob→Br
 | [.agg [.str ur,.int .i64 t1,.int .i64 t2,.sh (.pair .str .str) ak,.str me,.str ta,.int .i64 st,.str re,.bool ba,.sh (.pair .str .str) fs,.str bo],.sh (.pair .str .str) l],[]=>φ ur t1 t2 ak me ta st re ba fs bo l
 |_,_=>.fail
theorem zi {φ:aa→Int→Int→(List Fd)→aa→aa→Int→aa→Bool→(List Fd)→aa→(List Fd)→Br} (fu:aa→Int→Int→(List Fd)→aa→aa→Int→aa→Bool→(List Fd)→aa→(List Fd)→Nat) (hv: ∀ur t1 t2 ak me ta st re ba fs bo l res_,(φ ur t1 t2 ak me ta st re ba fs bo l).val=some res_→qd (fu ur t1 t2 ak me ta st re ba fs bo l) ur t1 t2 ak me ta st re ba fs bo l=some res_):Sound Kx 84 (qe φ):=aj (C:=sChosen_C) (O:=zg) Tryz.func84 (by kernel_rfl) fun args objs=>by
 unfold qe;split
 ·rename_i ur t1 t2 ak me ta st re ba fs bo l;exact .inr fun _ hyp_=>aO (Λ:=zh (fu ur t1 t2 ak me ta st re ba fs bo l)) (by kernel_rfl) (ah (l':=[tn]) (by kernel_rfl) ⟨BB _,trivial⟩) (by kernel_rfl) (hv ur t1 t2 ak me ta st re ba fs bo l _ hyp_)
 ·exact .inl rfl
def BC (ak l:List Fd) (n:aa):Bool:=bif decide (n=[42])then false else decide (bJ ak n=bJ l n)
def fS (e:En) (l:List Fd):Bool:=gt e&&b9 l&&(en e.2.2.2.2.2.2.2.2.2.1).all (BC e.2.2.2.1 l)
theorem zj (ak:List Fd) (n:aa):decide ((bJ ak n).length≤1000000)=true:=dT' (by have:=(nc ak n).1;omega)
theorem zk (ws:List aa) (hl:ws.length≤100000) (ur:aa) (t1 t2:Int) (ak:List Fd) (me ta:aa) (st:Int) (re:aa) (ba:Bool) (fs:List Fd) (bo:aa) (l:List Fd) (k0 k1:OR'):
 ∀(r:List aa) (i:Int) (n:Nat),At ws i r→r.length<n→(∀x∈r,x.length≤4000)→
 dN n l (ws.length:Int) i ur t1 t2 ak me ta st re ba fs bo ws k0 k1=bif r.all (BC ak l)then k1 else k0:=by
 intro r;induction r with
 |nil=>intro i n h hn hm;obtain⟨n,rfl⟩:=bh hn;unfold dN hO;simp only [h.dge,cond_false,List.all_nil,cond_true]
 |cons e r ih=>
  intro i n h hn hm;obtain⟨n,rfl⟩:=bh hn
  simp only [List.length_cons]at hn
  have hM:isM e=true:=aW (n:=4000) (hm e (List.mem_cons_self ..))
  have hr:=ih (i+1) n h.step (by omega) (fun x hx=>hm x (List.mem_cons_of_mem _ hx))
  unfold dN hO
  simp only [h.dlt,h.dnn,h.get,cond_true,h.next (show ws.length≤4611686018427387904 by omega),hM,hr,List.all_cons,zj]
  unfold BC
  cases decide (e=[42])<;>cases decide (bJ ak e=bJ l e)<;>rfl
theorem zm (ws:List aa) (hl:ws.length≤100000) (ur:aa) (t1 t2:Int) (ak:List Fd) (me ta:aa) (st:Int) (re:aa) (ba:Bool) (fs:List Fd) (bo:aa) (l:List Fd) (k0 k1:OR'):
 ∀(r:List aa) (i:Int) (n:Nat),At ws i r→r.length<n→(∀x∈r,x.length≤4000)→
 dO n l ws i ur t1 t2 ak me ta st re ba fs bo k0 k1=bif r.all (BC ak l)then k1 else k0:=by
 intro r;induction r with
 |nil=>intro i n h hn hm;obtain⟨n,rfl⟩:=bh hn;unfold dO hP;simp only [h.dge,cond_false,List.all_nil,cond_true]
 |cons e r ih=>
  intro i n h hn hm;obtain⟨n,rfl⟩:=bh hn
  simp only [List.length_cons]at hn
  have hM:isM e=true:=aW (n:=4000) (hm e (List.mem_cons_self ..))
  have hr:=ih (i+1) n h.step (by omega) (fun x hx=>hm x (List.mem_cons_of_mem _ hx))
  unfold dO hP
  simp only [h.dlt,h.dnn,h.get,cond_true,h.next (show ws.length≤4611686018427387904 by omega),hM,hr,List.all_cons,zj]
  unfold BC
  cases decide (e=[42])<;>cases decide (bJ ak e=bJ l e)<;>rfl
def TX:List AV→List Ob→Br
 | [.agg [.str ur,.int .i64 t1,.int .i64 t2,.sh (.pair .str .str) ak,.str me,.str ta,.int .i64 st,.str re,.bool ba,.sh (.pair .str .str) fs,.str bo],.sh (.pair .str .str) l],[]=>.ite (isM ur) (.ret (.bool (fS (ur,t1,t2,ak,me,ta,st,re,ba,fs,bo) l)) []) .fail
 |_,_=>.fail
theorem BD:Sound Kx 92 TX:=by
 refine(zf (φ:=fun ur t1 t2 ak me ta st re ba fs bo l=>.ite (isM ur) (.ret (.bool (fS (ur,t1,t2,ak,me,ta,st,re,ba,fs,bo) l)) []) .fail) (fun _ _ _ _ _ _ _ _ _ fs _ _=>(en fs).length+1)
  fun ur t1 t2 ak me ta st re ba fs bo l r h=> ?_).of fun args objs r h=> ?_
 ·obtain⟨h1,h2⟩:=af h
  cases h2
  unfold qb fS
  rw [h1,cond_true,zk (en fs) (by have:=DM fs;omega) ur t1 t2 ak me ta st re ba fs bo l _ _ (en fs) 0 ((en fs).length+1) (At.start _) (by omega) (EI fs)]
  cases gt (ur,t1,t2,ak,me,ta,st,re,ba,fs,bo)<;>cases b9 l<;>cases (en fs).all (BC ak l)<;>rfl
 ·unfold TX at h;split at h
  ·exact h
  ·cases h
theorem BE:Sound Kx 84 TX:=by
 refine(zi (φ:=fun ur t1 t2 ak me ta st re ba fs bo l=>.ite (isM ur) (.ret (.bool (fS (ur,t1,t2,ak,me,ta,st,re,ba,fs,bo) l)) []) .fail) (fun _ _ _ _ _ _ _ _ _ fs _ _=>(en fs).length+1)
  fun ur t1 t2 ak me ta st re ba fs bo l r h=> ?_).of fun args objs r h=> ?_
 ·obtain⟨h1,h2⟩:=af h
  cases h2
  unfold qd fS
  rw [h1,cond_true,zm (en fs) (by have:=DM fs;omega) ur t1 t2 ak me ta st re ba fs bo l _ _ (en fs) 0 ((en fs).length+1) (At.start _) (by omega) (EI fs)]
  cases gt (ur,t1,t2,ak,me,ta,st,re,ba,fs,bo)<;>cases b9 l<;>cases (en fs).all (BC ak l)<;>rfl
 ·unfold TX at h;split at h
  ·exact h
  ·cases h
end
end Go.Proofs.YtihabpimbfmhhaaGreatDoor.Ev
