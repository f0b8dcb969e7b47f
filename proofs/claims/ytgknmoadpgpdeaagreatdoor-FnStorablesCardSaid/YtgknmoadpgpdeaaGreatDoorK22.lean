/- The texts Pa, Pb, Pq, Pc, one behind the other. -/
import Derived.Test.YtgknmoadpgpdeaaGreatDoorK18
import Derived.Test.YtgknmoadpgpdeaaGreatDoorK21
import Derived.Test.YtgknmoadpgpdeaaGreatDoorK16
import Derived.Test.YtgknmoadpgpdeaaGreatDoorK13
namespace Go.Proofs.YtgknmoadpgpdeaaGreatDoor.Ev
open Go Go.RowKit
set_option linter.unusedVariables false
set_option linter.unusedSimpArgs false
noncomputable section
def LJ: Opt:={ live:=[(2,[0,1,5])],outs:=[(2,[4])] }
def allDig_C: SC:=[⟨244,_,eO⟩]
def nI (aD: aa) (aH: Int) (kR2: aa→Int→OR') (ca cI: OR'): OR':=
 (bif (decide (aH < (aD.length: Int))) then (bif (decide (0≤aH)) then (bif (decide (aH < (aD.length: Int))) then (bif (!(aB (aq aD aH))) then ca else (kR2 aD (ad (aH + 1)))) else none) else none) else cI)
def iA: Nat→aa→Int→(OR')→(OR')→OR'
 | 0,_,_,_,_=>none
 | n + 1,aD,aH,ca,cI=>nI aD aH (fun aD aH=>iA n aD aH ca cI) ca cI
abbrev allDig_p2: SP:=⟨18,[0,1,5],[(.v .s),(.v (.fn 244 [])),(.v (.i .i64))],[]⟩
noncomputable def Eo: Code:=aC (aG Tryz.f74) [1,0,1,0,0]
def Ep (f: (OR')→(OR')→OR') (k: KT): OR':=f (k Ex.ret ((St.mk (aF 0 18 [(4,(AV.bool false))]) ([]: (List (Nat×(Ob))))))) (k (Ex.exit 0) ((St.mk (aF 0 18 []) ([]: (List (Nat×(Ob)))))))
def Er (n: Nat) (d: allDig_p2.D): KT→OR':=Ep (iA n d.1.1 d.1.2.2.1)
def LK (N: Nat): Lam:=bH [⟨2,allDig_p2,Er N⟩]
theorem OC (N: Nat): OkL Kx allDig_C.s LJ 0 N (LK N) Eo:=okL allDig_p2 (Er) (fun d kR=>Ep (nI d.1.1 d.1.2.2.1 (fun aD aH=>kR ((aD,(),aH,()),())))) (fun _ _=>by kernel_rfl) (fun _ _ _=>by kernel_rfl) (fun _ _=>by kernel_rfl) (fun _ _ _ _=>by kernel_rfl) (al (l':=[]) (by kernel_rfl) trivial)
def xZ (N: Nat) (s: aa): OR':=(iA N s 0 (some ((AV.bool false),[])) (some ((AV.bool true),[])))
def pH (φ: aa→Br): List AV→List Ob→Br
 | [.str s, .fn 244 []],[]=>φ s
 | _,_=> .fail
theorem HA {φ: aa→Br} (fu: aa→Nat) (hv: ∀ s res_,(φ s).val=some res_→xZ (fu s) s=some res_): Sound Kx 74 (pH φ):=ap (C:=allDig_C) (O:=LJ) Tryz.func74 (by kernel_rfl) fun args objs=>by
 unfold pH;split
 · rename_i s;exact .inr fun _ hyp_=>aO (Λ:=LK (fu s)) (by kernel_rfl) (al (l':=[Eo]) (by kernel_rfl) ⟨OC _,trivial⟩) (by kernel_rfl) (hv s _ hyp_)
 · exact .inl rfl
def LL: Opt:={ live:=[(5,[0,4,5])],outs:=[(5,[2,3,4])] }
def sDelta_C: SC:=[⟨213,_,fW⟩]
def nJ (aZ: aa) (bi a7: Int) (kR5: aa→Int→Int→OR') (eg Bw: Int→OR'): OR':=
 (bif (decide (a7 < (aZ.length: Int))) then (bif (decide (0≤a7)) then (bif (decide (a7 < (aZ.length: Int))) then (bif (!(aB (aq aZ a7))) then (eg bi) else (bif (decide (0≤a7)) then (bif (decide (a7 < (aZ.length: Int))) then (bif (decide (2147483648 < (ad ((ad (bi * 10)) + (ad (wk8 ((aq aZ a7) - 48))))))) then (kR5 aZ 2147483648 (ad (a7 + 1))) else (kR5 aZ (ad ((ad (bi * 10)) + (ad (wk8 ((aq aZ a7) - 48))))) (ad (a7 + 1)))) else none) else none)) else none) else none) else (Bw bi))
def iB: Nat→aa→Int→Int→(Int→OR')→(Int→OR')→OR'
 | 0,_,_,_,_,_=>none
 | n + 1,aZ,bi,a7,eg,Bw=>nJ aZ bi a7 (fun aZ bi a7=>iB n aZ bi a7 eg Bw) eg Bw
abbrev sDelta_p5: SP:=⟨30,[0,4,5],[(.v .s),(.v (.i .i64)),(.v (.i .i64))],[]⟩
noncomputable def Es: Code:=aC (aG Tryz.f186) [1,1,1,0,1,0,0]
def Et (f: (Int→OR')→(Int→OR')→OR') (k: KT): OR':=f (fun av=>k Ex.ret ((St.mk (aF 0 30 [(2,(AV.int .i64 0)),(3,(AV.bool false)),(4,(AV.int .i64 av))]) ([]: (List (Nat×(Ob))))))) (fun kf=>k (Ex.exit 0) ((St.mk (aF 0 30 [(4,(AV.int .i64 kf))]) ([]: (List (Nat×(Ob)))))))
def Eu (n: Nat) (d: sDelta_p5.D): KT→OR':=Et (iB n d.1.1 d.1.2.1 d.1.2.2.1)
def LM (N: Nat): Lam:=bH [⟨5,sDelta_p5,Eu N⟩]
theorem OD (N: Nat): OkL Kx sDelta_C.s LL 0 N (LM N) Es:=okL sDelta_p5 (Eu) (fun d kR=>Et (nJ d.1.1 d.1.2.1 d.1.2.2.1 (fun aZ bi a7=>kR ((aZ,bi,a7,()),())))) (fun _ _=>by kernel_rfl) (fun _ _ _=>by kernel_rfl) (fun _ _=>by kernel_rfl) (fun _ _ _ _=>by kernel_rfl) (al (l':=[]) (by kernel_rfl) trivial)
def x5 (N: Nat) (s: aa): OR':=(bif (decide (s=([]: aa))) then (some ((AV.tup [.int .i64 0,.bool false]),[])) else (iB N s 0 0 (fun av=>(some ((AV.tup [.int .i64 0,.bool false]),[]))) (fun kf=>(some ((AV.tup [.int .i64 kf,.bool true]),[])))))
def x6 (φ: aa→Br): List AV→List Ob→Br
 | [.str s],[]=>φ s
 | _,_=> .fail
theorem HB {φ: aa→Br} (fu: aa→Nat) (hv: ∀ s res_,(φ s).val=some res_→x5 (fu s) s=some res_): Sound Kx 186 (x6 φ):=ap (C:=sDelta_C) (O:=LL) Tryz.func186 (by kernel_rfl) fun args objs=>by
 unfold x6;split
 · rename_i s;exact .inr fun _ hyp_=>aO (Λ:=LM (fu s)) (by kernel_rfl) (al (l':=[Es]) (by kernel_rfl) ⟨OD _,trivial⟩) (by kernel_rfl) (hv s _ hyp_)
 · exact .inl rfl
def x7: Opt:={ live:=[(6,[4,5,6])],outs:=[(6,[2,3,5])] }
def iUnquote_C: SC:=[⟨221,_,tQ⟩]
def lZ (cx: aa) (cg: Int) (dX: (List Int)) (kR6: aa→Int→(List Int)→OR') (mD Y_: (List Int)→OR'): OR':=
 (bif (decide (cg < (cx.length: Int))) then (bif (decide (0≤cg)) then (bif (decide (cg < (cx.length: Int))) then (bif (decide ((aq cx cg)=34)) then (mD dX) else (bif (decide (0≤cg)) then (bif (decide (cg < (cx.length: Int))) then (bif (decide ((aq cx cg)=92)) then (bif (decide ((ad (cg + 1))=(cx.length: Int))) then (mD dX) else (bif (decide (0≤(ad (cg + 1)))) then (bif (decide ((ad (cg + 1)) < (cx.length: Int))) then (bif (!(jz (aq cx (ad (cg + 1))))) then (mD dX) else (bif (decide (0≤(ad (cg + 1)))) then (bif (decide ((ad (cg + 1)) < (cx.length: Int))) then (bif (decide (((dX.length + (List.length (List.set (List.replicate 1 (0 : Int)) 0 (aq cx (ad (cg + 1)))))) * 1)≤140737488355328)) then (kR6 cx (ad ((ad (cg + 1)) + 1)) (dX++(List.set (List.replicate 1 (0 : Int)) 0 (aq cx (ad (cg + 1)))))) else none) else none) else none)) else none) else none)) else (bif (decide (cg=(cx.length: Int))) then (mD dX) else (bif (decide (0≤cg)) then (bif (decide (cg < (cx.length: Int))) then (bif (!(jz (aq cx cg))) then (mD dX) else (bif (decide (0≤cg)) then (bif (decide (cg < (cx.length: Int))) then (bif (decide (((dX.length + (List.length (List.set (List.replicate 1 (0 : Int)) 0 (aq cx cg)))) * 1)≤140737488355328)) then (kR6 cx (ad (cg + 1)) (dX++(List.set (List.replicate 1 (0 : Int)) 0 (aq cx cg)))) else none) else none) else none)) else none) else none))) else none) else none)) else none) else none) else (Y_ dX))
def dU: Nat→aa→Int→(List Int)→((List Int)→OR')→((List Int)→OR')→OR'
 | 0,_,_,_,_,_=>none
 | n + 1,cx,cg,dX,mD,Y_=>lZ cx cg dX (fun cx cg dX=>dU n cx cg dX mD Y_) mD Y_
abbrev iUnquote_p6: SP:=⟨66,[4,5,6],[(.v .s),(.v (.ref 384 0)),(.v (.i .i64))],[(384, .arr (Ty.int .u8) 0 false)]⟩
noncomputable def uP: Code:=aC (aG Tryz.f181) [1,1,1,1,0,1,0,0]
def uQ (f: ((List Int)→OR')→((List Int)→OR')→OR') (k: KT): OR':=f (fun di=>k Ex.ret ((St.mk (aF 0 66 [(2,(AV.str ([]: aa))),(3,(AV.bool false)),(5,(AV.ref 384 0))]) ((384,(Ob.arr (Ty.int .u8) 0 false di))::([]: (List (Nat×(Ob)))))))) (fun ou=>k (Ex.exit 0) ((St.mk (aF 0 66 [(5,(AV.ref 384 0))]) ((384,(Ob.arr (Ty.int .u8) 0 false ou))::([]: (List (Nat×(Ob))))))))
def uR (n: Nat) (d: iUnquote_p6.D): KT→OR':=uQ (dU n d.1.1 d.1.2.2.1 d.2.1)
def x8 (N: Nat): Lam:=bH [⟨6,iUnquote_p6,uR N⟩]
theorem Ew (N: Nat): OkL Kx iUnquote_C.s x7 0 N (x8 N) uP:=okL iUnquote_p6 (uR) (fun d kR=>uQ (lZ d.1.1 d.1.2.2.1 d.2.1 (fun cx cg dX=>kR ((cx,(),cg,()),(dX,()))))) (fun _ _=>by kernel_rfl) (fun _ _ _=>by kernel_rfl) (fun _ _=>by kernel_rfl) (fun _ _ _ _=>by kernel_rfl) (al (l':=[]) (by kernel_rfl) trivial)
def rg (N: Nat) (s: aa): OR':=(bif (decide ((s.length: Int) < 2)) then (some ((AV.tup [.str ([]: aa),.bool false]),[])) else (bif (decide (0 < (s.length: Int))) then (bif (!(decide ((aq s 0)=34))) then (some ((AV.tup [.str ([]: aa),.bool false]),[])) else (bif (decide (0≤(ad ((s.length: Int) - 1)))) then (bif (decide ((ad ((s.length: Int) - 1)) < (s.length: Int))) then (bif (!(decide ((aq s (ad ((s.length: Int) - 1)))=34))) then (some ((AV.tup [.str ([]: aa),.bool false]),[])) else (bif (decide (1≤(ad ((s.length: Int) - 1)))) then (bif (decide ((ad ((s.length: Int) - 1))≤(s.length: Int))) then (dU N (cut s 1 (ad ((s.length: Int) - 1))) 0 ([]: (List Int)) (fun di=>(some ((AV.tup [.str ([]: aa),.bool false]),[]))) (fun ou=>(bif (decide (4000 < (ou.length: Int))) then (some ((AV.tup [.str ([]: aa),.bool false]),[])) else (some ((AV.tup [.str (bG ou),.bool true]),[]))))) else none) else none)) else none) else none)) else none))
def rh (φ: aa→Br): List AV→List Ob→Br
 | [.str s],[]=>φ s
 | _,_=> .fail
theorem Ap {φ: aa→Br} (fu: aa→Nat) (hv: ∀ s res_,(φ s).val=some res_→rg (fu s) s=some res_): Sound Kx 181 (rh φ):=ap (C:=iUnquote_C) (O:=x7) Tryz.func181 (by kernel_rfl) fun args objs=>by
 unfold rh;split
 · rename_i s;exact .inr fun _ hyp_=>aO (Λ:=x8 (fu s)) (by kernel_rfl) (al (l':=[uP]) (by kernel_rfl) ⟨Ew _,trivial⟩) (by kernel_rfl) (hv s _ hyp_)
 · exact .inl rfl
def x9: Opt:={ live:=[(6,[4,5,6])],outs:=[(6,[2,3,4])] }
def sUnquote_C: SC:=[⟨241,_,xd⟩]
def l4 (cx: aa) (cg: Int) (dX: (List Int)) (kR6: aa→Int→(List Int)→OR') (mD Y_: (List Int)→OR'): OR':=
 (bif (decide (cg < (cx.length: Int))) then (bif (decide (0≤cg)) then (bif (decide (cg < (cx.length: Int))) then (bif (decide ((aq cx cg)=92)) then (bif (decide ((ad (cg + 1))=(cx.length: Int))) then (mD dX) else (bif (decide (0≤(ad (cg + 1)))) then (bif (decide ((ad (cg + 1)) < (cx.length: Int))) then (bif (!(jz (aq cx (ad (cg + 1))))) then (mD dX) else (bif (decide (0≤(ad (cg + 1)))) then (bif (decide ((ad (cg + 1)) < (cx.length: Int))) then (bif (decide (((dX.length + (List.length (List.set (List.replicate 1 (0 : Int)) 0 (aq cx (ad (cg + 1)))))) * 1)≤140737488355328)) then (kR6 cx (ad ((ad (cg + 1)) + 1)) (dX++(List.set (List.replicate 1 (0 : Int)) 0 (aq cx (ad (cg + 1)))))) else none) else none) else none)) else none) else none)) else (bif (decide (0≤cg)) then (bif (decide (cg < (cx.length: Int))) then (bif (decide ((aq cx cg)=34)) then (mD dX) else (bif (decide (0≤cg)) then (bif (decide (cg < (cx.length: Int))) then (bif (!(jz (aq cx cg))) then (mD dX) else (bif (decide (0≤cg)) then (bif (decide (cg < (cx.length: Int))) then (bif (decide (((dX.length + (List.length (List.set (List.replicate 1 (0 : Int)) 0 (aq cx cg)))) * 1)≤140737488355328)) then (kR6 cx (ad (cg + 1)) (dX++(List.set (List.replicate 1 (0 : Int)) 0 (aq cx cg)))) else none) else none) else none)) else none) else none)) else none) else none)) else none) else none) else (Y_ dX))
def dV: Nat→aa→Int→(List Int)→((List Int)→OR')→((List Int)→OR')→OR'
 | 0,_,_,_,_,_=>none
 | n + 1,cx,cg,dX,mD,Y_=>l4 cx cg dX (fun cx cg dX=>dV n cx cg dX mD Y_) mD Y_
abbrev sUnquote_p6: SP:=⟨69,[4,5,6],[(.v (.ref 320 0)),(.v .s),(.v (.i .i64))],[(320, .arr (Ty.int .u8) 0 false)]⟩
noncomputable def uS: Code:=aC (aG Tryz.f281) [1,1,1,1,0,1,0,0]
def uT (f: ((List Int)→OR')→((List Int)→OR')→OR') (k: KT): OR':=f (fun di=>k Ex.ret ((St.mk (aF 0 69 [(2,(AV.str ([]: aa))),(3,(AV.bool false)),(4,(AV.ref 320 0))]) ((320,(Ob.arr (Ty.int .u8) 0 false di))::([]: (List (Nat×(Ob)))))))) (fun ou=>k (Ex.exit 0) ((St.mk (aF 0 69 [(4,(AV.ref 320 0))]) ((320,(Ob.arr (Ty.int .u8) 0 false ou))::([]: (List (Nat×(Ob))))))))
def uU (n: Nat) (d: sUnquote_p6.D): KT→OR':=uT (dV n d.1.2.1 d.1.2.2.1 d.2.1)
def x_ (N: Nat): Lam:=bH [⟨6,sUnquote_p6,uU N⟩]
theorem Ey (N: Nat): OkL Kx sUnquote_C.s x9 0 N (x_ N) uS:=okL sUnquote_p6 (uU) (fun d kR=>uT (l4 d.1.2.1 d.1.2.2.1 d.2.1 (fun cx cg dX=>kR (((),cx,cg,()),(dX,()))))) (fun _ _=>by kernel_rfl) (fun _ _ _=>by kernel_rfl) (fun _ _=>by kernel_rfl) (fun _ _ _ _=>by kernel_rfl) (al (l':=[]) (by kernel_rfl) trivial)
def ri (N: Nat) (s: aa): OR':=(bif (decide ((s.length: Int) < 2)) then (some ((AV.tup [.str ([]: aa),.bool false]),[])) else (bif (decide (8002 < (s.length: Int))) then (some ((AV.tup [.str ([]: aa),.bool false]),[])) else (bif (decide (0 < (s.length: Int))) then (bif (!(decide ((aq s 0)=34))) then (some ((AV.tup [.str ([]: aa),.bool false]),[])) else (bif (decide (0≤(ad ((s.length: Int) - 1)))) then (bif (decide ((ad ((s.length: Int) - 1)) < (s.length: Int))) then (bif (!(decide ((aq s (ad ((s.length: Int) - 1)))=34))) then (some ((AV.tup [.str ([]: aa),.bool false]),[])) else (bif (decide (1≤(ad ((s.length: Int) - 1)))) then (bif (decide ((ad ((s.length: Int) - 1))≤(s.length: Int))) then (dV N (cut s 1 (ad ((s.length: Int) - 1))) 0 ([]: (List Int)) (fun di=>(some ((AV.tup [.str ([]: aa),.bool false]),[]))) (fun ou=>(bif (decide (4000 < (ou.length: Int))) then (some ((AV.tup [.str ([]: aa),.bool false]),[])) else (some ((AV.tup [.str (bG ou),.bool true]),[]))))) else none) else none)) else none) else none)) else none)))
def rj (φ: aa→Br): List AV→List Ob→Br
 | [.str s],[]=>φ s
 | _,_=> .fail
theorem Aq {φ: aa→Br} (fu: aa→Nat) (hv: ∀ s res_,(φ s).val=some res_→ri (fu s) s=some res_): Sound Kx 281 (rj φ):=ap (C:=sUnquote_C) (O:=x9) Tryz.func281 (by kernel_rfl) fun args objs=>by
 unfold rj;split
 · rename_i s;exact .inr fun _ hyp_=>aO (Λ:=x_ (fu s)) (by kernel_rfl) (al (l':=[uS]) (by kernel_rfl) ⟨Ey _,trivial⟩) (by kernel_rfl) (hv s _ hyp_)
 · exact .inl rfl
def Sx: Opt:={ live:=[(2,[0,1,5])],outs:=[(2,[0,4])] }
def su (aD: aa) (aH bW: Int) (kR2: aa→Int→Int→OR') (ca: aa→aa→OR') (cI: aa→OR'): OR':=
 (bif (decide (bW < (aD.length: Int))) then (bif (decide (0≤bW)) then (bif (decide (bW < (aD.length: Int))) then (bif (decide ((aq aD bW)=aH)) then (bif (decide (0≤bW)) then (bif (decide (bW≤(aD.length: Int))) then (ca aD (cut aD 0 bW)) else none) else none) else (kR2 aD aH (ad (bW + 1)))) else none) else none) else (cI aD))
def kI: Nat→aa→Int→Int→(aa→aa→OR')→(aa→OR')→OR'
 | 0,_,_,_,_,_=>none
 | n + 1,aD,aH,bW,ca,cI=>su aD aH bW (fun aD aH bW=>kI n aD aH bW ca cI) ca cI
abbrev supto_p2: SP:=⟨21,[0,1,5],[(.v .s),(.v (.i .u8)),(.v (.i .i64))],[]⟩
noncomputable def LN: Code:=aC (aG Tryz.f273) [1,0,1,0,0]
def LO (f: (aa→aa→OR')→(aa→OR')→OR') (k: KT): OR':=f (fun bK iP=>k Ex.ret ((St.mk (aF 0 21 [(0,(AV.str bK)),(4,(AV.str iP))]) ([]: (List (Nat×(Ob))))))) (fun kd=>k (Ex.exit 0) ((St.mk (aF 0 21 [(0,(AV.str kd))]) ([]: (List (Nat×(Ob)))))))
def LP (n: Nat) (d: supto_p2.D): KT→OR':=LO (kI n d.1.1 d.1.2.1 d.1.2.2.1)
def Sy (N: Nat): Lam:=bH [⟨2,supto_p2,LP N⟩]
theorem Sz (N: Nat): OkL Kx noS Sx 0 N (Sy N) LN:=okL supto_p2 (LP) (fun d kR=>LO (su d.1.1 d.1.2.1 d.1.2.2.1 (fun aD aH bW=>kR ((aD,aH,bW,()),())))) (fun _ _=>by kernel_rfl) (fun _ _ _=>by kernel_rfl) (fun _ _=>by kernel_rfl) (fun _ _ _ _=>by kernel_rfl) (al (l':=[]) (by kernel_rfl) trivial)
def Ez (N: Nat) (s: aa) (b: Int): OR':=(kI N s b 0 (fun bK iP=>(some ((AV.str iP),[]))) (fun kd=>(some ((AV.str kd),[]))))
def EA (φ: aa→Int→Br): List AV→List Ob→Br
 | [.str s, .int .u8 b],[]=>φ s b
 | _,_=> .fail
theorem OE {φ: aa→Int→Br} (fu: aa→Int→Nat) (hv: ∀ s b res_,(φ s b).val=some res_→Ez (fu s b) s b=some res_): Sound Kx 273 (EA φ):=ap (C:=[]) (O:=Sx) Tryz.func273 (by kernel_rfl) fun args objs=>by
 unfold EA;split
 · rename_i s b;exact .inr fun _ hyp_=>aO (Λ:=Sy (fu s b)) (by kernel_rfl) (al (l':=[LN]) (by kernel_rfl) ⟨Sz _,trivial⟩) (by kernel_rfl) (hv s b _ hyp_)
 · exact .inl rfl
def HC (a b c d e f: Bool) (g h i j n: Int): Br:=(.ite (decide (g < 0)) (.ret (AV.tup []) [.var [.bool a,.bool b,.bool c,.bool d,.bool e,.bool f,.int .i64 n,.int .i64 h,.int .i64 i,.int .i64 j]]) (.ret (AV.tup []) [.var [.bool a,.bool b,.bool c,.bool d,.bool e,.bool f,.int .i64 g,.int .i64 h,.int .i64 i,.int .i64 j]]))
def Z0: List AV→List Ob→Br
 | [.ptr 0 6, .int .i64 n],[.var [.bool a, .bool b, .bool c, .bool d, .bool e, .bool f, .int .i64 g, .int .i64 h, .int .i64 i, .int .i64 j]]=>HC a b c d e f g h i j n
 | _,_=> .fail
theorem abO: Sound Kx 178 Z0:=ae (C:=[]) (O:=O0) Tryz.func178 (by kernel_rfl) fun args objs=>by
 unfold Z0;split
 · exact .inr (by kernel_rfl)
 · exact .inl rfl
def HD (a b c d e f: Bool) (g h i j n: Int): Br:=(.ite (decide (h < 0)) (.ret (AV.tup []) [.var [.bool a,.bool b,.bool c,.bool d,.bool e,.bool f,.int .i64 g,.int .i64 n,.int .i64 i,.int .i64 j]]) (.ret (AV.tup []) [.var [.bool a,.bool b,.bool c,.bool d,.bool e,.bool f,.int .i64 g,.int .i64 h,.int .i64 i,.int .i64 j]]))
def Z1: List AV→List Ob→Br
 | [.ptr 0 7, .int .i64 n],[.var [.bool a, .bool b, .bool c, .bool d, .bool e, .bool f, .int .i64 g, .int .i64 h, .int .i64 i, .int .i64 j]]=>HD a b c d e f g h i j n
 | _,_=> .fail
theorem abP: Sound Kx 178 Z1:=ae (C:=[]) (O:=O0) Tryz.func178 (by kernel_rfl) fun args objs=>by
 unfold Z1;split
 · exact .inr (by kernel_rfl)
 · exact .inl rfl
def HE (a b c d e f: Bool) (g h i j n: Int): Br:=(.ite (decide (i < 0)) (.ret (AV.tup []) [.var [.bool a,.bool b,.bool c,.bool d,.bool e,.bool f,.int .i64 g,.int .i64 h,.int .i64 n,.int .i64 j]]) (.ret (AV.tup []) [.var [.bool a,.bool b,.bool c,.bool d,.bool e,.bool f,.int .i64 g,.int .i64 h,.int .i64 i,.int .i64 j]]))
def Z2: List AV→List Ob→Br
 | [.ptr 0 8, .int .i64 n],[.var [.bool a, .bool b, .bool c, .bool d, .bool e, .bool f, .int .i64 g, .int .i64 h, .int .i64 i, .int .i64 j]]=>HE a b c d e f g h i j n
 | _,_=> .fail
theorem abQ: Sound Kx 178 Z2:=ae (C:=[]) (O:=O0) Tryz.func178 (by kernel_rfl) fun args objs=>by
 unfold Z2;split
 · exact .inr (by kernel_rfl)
 · exact .inl rfl
def HF (a b c d e f: Bool) (g h i j n: Int): Br:=(.ite (decide (j < 0)) (.ret (AV.tup []) [.var [.bool a,.bool b,.bool c,.bool d,.bool e,.bool f,.int .i64 g,.int .i64 h,.int .i64 i,.int .i64 n]]) (.ret (AV.tup []) [.var [.bool a,.bool b,.bool c,.bool d,.bool e,.bool f,.int .i64 g,.int .i64 h,.int .i64 i,.int .i64 j]]))
def Z3: List AV→List Ob→Br
 | [.ptr 0 9, .int .i64 n],[.var [.bool a, .bool b, .bool c, .bool d, .bool e, .bool f, .int .i64 g, .int .i64 h, .int .i64 i, .int .i64 j]]=>HF a b c d e f g h i j n
 | _,_=> .fail
theorem abR: Sound Kx 178 Z3:=ae (C:=[]) (O:=O0) Tryz.func178 (by kernel_rfl) fun args objs=>by
 unfold Z3;split
 · exact .inr (by kernel_rfl)
 · exact .inl rfl
def l6 (n: Int): Br:=(.ite (decide (n=200)) (.ret (AV.bool true) []) (.ite (decide (n=203)) (.ret (AV.bool true) []) (.ite (decide (n=204)) (.ret (AV.bool true) []) (.ite (decide (n=300)) (.ret (AV.bool true) []) (.ite (decide (n=301)) (.ret (AV.bool true) []) (.ite (decide (n=308)) (.ret (AV.bool true) []) (.ite (decide (n=404)) (.ret (AV.bool true) []) (.ite (decide (n=405)) (.ret (AV.bool true) []) (.ite (decide (n=410)) (.ret (AV.bool true) []) (.ite (decide (n=414)) (.ret (AV.bool true) []) (.ite (decide (n=501)) (.ret (AV.bool true) []) (.ret (AV.bool false) []))))))))))))
def ya: List AV→List Ob→Br
 | [.int .i64 n],[]=>l6 n
 | _,_=> .fail
theorem HG: Sound Kx 107 ya:=ae (C:=[]) (O:=O0) Tryz.func107 (by kernel_rfl) fun args objs=>by
 unfold ya;split
 · exact .inr (by kernel_rfl)
 · exact .inl rfl
def Z4: Opt:={ live:=[(2,[0,1,7,8])],outs:=[(2,[4])] }
def Ar (aD: (List Int)) (aH bW gw: Int) (kR2: (List Int)→Int→Int→Int→OR') (ca: Int→OR') (cI: OR'): OR':=
 (bif (decide (gw < bW)) then (bif (decide (0≤gw)) then (bif (decide (gw < (aD.length: Int))) then (bif (decide (aH=(List.getD aD (Int.toNat gw) 0))) then (ca gw) else (kR2 aD aH bW (ad (gw + 1)))) else none) else none) else cI)
def pI: Nat→(List Int)→Int→Int→Int→(Int→OR')→(OR')→OR'
 | 0,_,_,_,_,_,_=>none
 | n + 1,aD,aH,bW,gw,ca,cI=>Ar aD aH bW gw (fun aD aH bW gw=>pI n aD aH bW gw ca cI) ca cI
abbrev hasI_p2: SP:=⟨19,[0,1,7,8],[(.v (.sh (Ty.int .i64))),(.v (.i .i64)),(.v (.i .i64)),(.v (.i .i64))],[]⟩
noncomputable def SA: Code:=aC (aG Tryz.f238) [1,0,1,0,0]
def SB (f: (Int→OR')→(OR')→OR') (k: KT): OR':=f (fun bK=>k Ex.ret ((St.mk (aF 0 19 [(4,(AV.int .i64 bK))]) ([]: (List (Nat×(Ob))))))) (k (Ex.exit 0) ((St.mk (aF 0 19 []) ([]: (List (Nat×(Ob)))))))
def SD (n: Nat) (d: hasI_p2.D): KT→OR':=SB (pI n d.1.1 d.1.2.1 d.1.2.2.1 d.1.2.2.2.1)
def Z5 (N: Nat): Lam:=bH [⟨2,hasI_p2,SD N⟩]
theorem Xu (N: Nat): OkL Kx noS Z4 0 N (Z5 N) SA:=okL hasI_p2 (SD) (fun d kR=>SB (Ar d.1.1 d.1.2.1 d.1.2.2.1 d.1.2.2.2.1 (fun aD aH bW gw=>kR ((aD,aH,bW,gw,()),())))) (fun _ _=>by kernel_rfl) (fun _ _ _=>by kernel_rfl) (fun _ _=>by kernel_rfl) (fun _ _ _ _=>by kernel_rfl) (al (l':=[]) (by kernel_rfl) trivial)
def LQ (N: Nat) (l: List Int) (x: Int): OR':=(pI N l x (l.length: Int) 0 (fun bK=>(some ((AV.int .i64 bK),[]))) (some ((AV.int .i64 (-1)),[])))
def LR (φ: (List Int)→Int→Br): List AV→List Ob→Br
 | [.sh (.int .i64) l, .int .i64 x],[]=>φ l x
 | _,_=> .fail
theorem SE {φ: (List Int)→Int→Br} (fu: (List Int)→Int→Nat) (hv: ∀ l x res_,(φ l x).val=some res_→LQ (fu l x) l x=some res_): Sound Kx 238 (LR φ):=ap (C:=[]) (O:=Z4) Tryz.func238 (by kernel_rfl) fun args objs=>by
 unfold LR;split
 · rename_i l x;exact .inr fun _ hyp_=>aO (Λ:=Z5 (fu l x)) (by kernel_rfl) (al (l':=[SA]) (by kernel_rfl) ⟨Xu _,trivial⟩) (by kernel_rfl) (hv l x _ hyp_)
 · exact .inl rfl
def Z6: Opt:={ live:=[(2,[0,1,7,8])],outs:=[(2,[4])] }
def As (aD: (List aa)) (aH: aa) (bW gw: Int) (kR2: (List aa)→aa→Int→Int→OR') (ca: Int→OR') (cI: OR'): OR':=
 (bif (decide (gw < bW)) then (bif (decide (0≤gw)) then (bif (decide (gw < (aD.length: Int))) then (bif (decide (aH=(List.getD aD (Int.toNat gw) ([]: aa)))) then (ca gw) else (kR2 aD aH bW (ad (gw + 1)))) else none) else none) else cI)
def pJ: Nat→(List aa)→aa→Int→Int→(Int→OR')→(OR')→OR'
 | 0,_,_,_,_,_,_=>none
 | n + 1,aD,aH,bW,gw,ca,cI=>As aD aH bW gw (fun aD aH bW gw=>pJ n aD aH bW gw ca cI) ca cI
abbrev hasS_p2: SP:=⟨19,[0,1,7,8],[(.v (.sh Ty.str)),(.v .s),(.v (.i .i64)),(.v (.i .i64))],[]⟩
noncomputable def SF: Code:=aC (aG Tryz.f183) [1,0,1,0,0]
def SG (f: (Int→OR')→(OR')→OR') (k: KT): OR':=f (fun bK=>k Ex.ret ((St.mk (aF 0 19 [(4,(AV.int .i64 bK))]) ([]: (List (Nat×(Ob))))))) (k (Ex.exit 0) ((St.mk (aF 0 19 []) ([]: (List (Nat×(Ob)))))))
def SH (n: Nat) (d: hasS_p2.D): KT→OR':=SG (pJ n d.1.1 d.1.2.1 d.1.2.2.1 d.1.2.2.2.1)
def Z7 (N: Nat): Lam:=bH [⟨2,hasS_p2,SH N⟩]
theorem Xv (N: Nat): OkL Kx noS Z6 0 N (Z7 N) SF:=okL hasS_p2 (SH) (fun d kR=>SG (As d.1.1 d.1.2.1 d.1.2.2.1 d.1.2.2.2.1 (fun aD aH bW gw=>kR ((aD,aH,bW,gw,()),())))) (fun _ _=>by kernel_rfl) (fun _ _ _=>by kernel_rfl) (fun _ _=>by kernel_rfl) (fun _ _ _ _=>by kernel_rfl) (al (l':=[]) (by kernel_rfl) trivial)
def LS (N: Nat) (l: List aa) (x: aa): OR':=(pJ N l x (l.length: Int) 0 (fun bK=>(some ((AV.int .i64 bK),[]))) (some ((AV.int .i64 (-1)),[])))
def LT (φ: (List aa)→aa→Br): List AV→List Ob→Br
 | [.sh .str l, .str x],[]=>φ l x
 | _,_=> .fail
theorem SI {φ: (List aa)→aa→Br} (fu: (List aa)→aa→Nat) (hv: ∀ l x res_,(φ l x).val=some res_→LS (fu l x) l x=some res_): Sound Kx 183 (LT φ):=ap (C:=[]) (O:=Z6) Tryz.func183 (by kernel_rfl) fun args objs=>by
 unfold LT;split
 · rename_i l x;exact .inr fun _ hyp_=>aO (Λ:=Z7 (fu l x)) (by kernel_rfl) (al (l':=[SF]) (by kernel_rfl) ⟨Xv _,trivial⟩) (by kernel_rfl) (hv l x _ hyp_)
 · exact .inl rfl
theorem HH (l: aa) (hl: l.length≤4611686018427387904) (k0 k1: OR'): ∀ (r: aa) (i: Int) (n: Nat),At l i r→r.length < n→iA n l i k0 k1=bif aP aB r then k1 else k0:=by
 intro r;induction r with
 | nil=>intro i n h hn;obtain ⟨n,rfl⟩:=bL hn;unfold iA nI;simp only [h.dge,cond_false];rfl
 | cons a r ih=>
   intro i n h hn;obtain ⟨n,rfl⟩:=bL hn
   have hs:=ih (i + 1) n h.step (by simp at hn;omega)
   unfold iA nI
   simp only [h.dlt,h.dnn,h.str,cond_true,h.next hl,hs]
   unfold aP;rw [List.all_cons]
   cases aB (by8 a) <;> rfl
def Xw: List AV→List Ob→Br:=pH fun s=> .ite (isM s) (.ret (.bool (aP aB s)) []) .fail
theorem OF: Sound Kx 74 Xw:=by
 refine HA (fun s=>s.length + 1) fun s r h=>?_
 obtain ⟨h1,h2⟩:=ai h
 unfold xZ
 rw [HH s (fh h1) _ _ s 0 _ (At.start s) (by omega),← h2]
 cases aP aB s <;> rfl
def nK (n: Int) (c: UInt8): Int:=bif decide (2147483648 < n * 10 + (by8 c - 48)) then 2147483648 else n * 10 + (by8 c - 48)
def EB (r: aa) (n: Int): Int:=r.foldl nK n
def cJ (s: aa): Int×Bool:=bif decide (s=[]) then (0,false) else bif aP aB s then (EB s 0,true) else (0,false)
theorem SJ {c: UInt8} (h: aB (by8 c)=true): 48≤by8 c∧by8 c≤57:=by
 unfold aB at h;rw [Bool.and_eq_true,decide_eq_true_eq,decide_eq_true_eq] at h;exact h
theorem Au {n: Int} {c: UInt8} (h0: 0≤n) (h1: n≤2147483648) (hc: aB (by8 c)=true): 0≤nK n c∧nK n c≤2147483648:=by
 have:=SJ hc
 unfold nK
 cases h: decide (2147483648 < n * 10 + (by8 c - 48))
 · have:=of_decide_eq_false h;rw [cond_false];omega
 · rw [cond_true];omega
theorem HI (s: aa) (hl: s.length≤4611686018427387904) (k0 k1: Int→OR') (K0: OR') (hk: ∀ x,k0 x=K0): ∀ (r: aa) (v i: Int) (n: Nat),At s i r→r.length < n→0≤v→v≤2147483648→
 iB n s v i k0 k1=bif aP aB r then k1 (EB r v) else K0:=by
 intro r;induction r with
 | nil=>intro v i n h hn h0 h1;obtain ⟨n,rfl⟩:=bL hn;unfold iB nJ;simp only [h.dge,cond_false];rfl
 | cons a r ih=>
   intro v i n h hn h0 h1;obtain ⟨n,rfl⟩:=bL hn
   simp only [List.length_cons] at hn
   have hs:=fun v h0 h1=>ih v (i + 1) n h.step (by omega) h0 h1
   unfold iB nJ
   simp only [h.dlt,h.dnn,h.str,cond_true,h.next hl]
   have hall: aP aB (a::r)=(aB (by8 a)&&aP aB r):=rfl
   rw [hall]
   cases hd: aB (by8 a)
   · simp only [Bool.not_false,cond_true,hk,Bool.false_and,cond_false]
   · have hb:=SJ hd
     have hc:=Au h0 h1 hd
     have e1: wk8 (by8 a - 48)=by8 a - 48:=w8 (by omega) (by omega)
     have e2: ad (by8 a - 48)=by8 a - 48:=w64 (by omega) (by omega)
     have e3: ad (v * 10)=v * 10:=w64 (by omega) (by omega)
     have e4: ad (v * 10 + (by8 a - 48))=v * 10 + (by8 a - 48):=w64 (by omega) (by omega)
     simp only [e1,e2,e3,e4,Bool.not_true,cond_false,Bool.true_and]
     show _=bif aP aB r then k1 (EB r (nK v a)) else K0
     rw [← hs _ hc.1 hc.2]
     unfold nK
     cases decide (2147483648 < v * 10 + (by8 a - 48)) <;> rfl
def agp: List AV→List Ob→Br
 | [.str s],[]=> .ite (isM s) (.ret (.tup [.int .i64 (cJ s).1, .bool (cJ s).2]) []) .fail
 | _,_=> .fail
theorem OG: Sound Kx 186 agp:=by
 refine (HB (φ:=fun s=> .ite (isM s) (.ret (.tup [.int .i64 (cJ s).1, .bool (cJ s).2]) []) .fail) (fun s=>s.length + 1) fun s r h=>?_).of fun args objs r h=>?_
 · obtain ⟨h1,h2⟩:=ai h
   cases h2
   unfold x5 cJ
   cases c: decide (s=[])
   · simp only [cond_false]
     rw [HI s (fh h1) _ _ (some (.tup [.int .i64 0, .bool false],[])) (fun _=>rfl) s 0 0 _ (At.start s) (by omega) (by omega) (by omega)]
     cases aP aB s <;> rfl
   · rfl
 · unfold agp at h;split at h
   · exact h
   · cases h
def la (x n: Int): Int:=bif decide (x < 0) then n else x
def aeB: List AV→List Ob→Br
 | [.ptr 0 6, .int .i64 n],[.var [.bool a, .bool b, .bool c, .bool d, .bool e, .bool f, .int .i64 g, .int .i64 h, .int .i64 i, .int .i64 j]]=> .ret (.tup []) [.var [.bool a, .bool b, .bool c, .bool d, .bool e, .bool f, .int .i64 (la g n), .int .i64 h, .int .i64 i, .int .i64 j]]
 | [.ptr 0 7, .int .i64 n],[.var [.bool a, .bool b, .bool c, .bool d, .bool e, .bool f, .int .i64 g, .int .i64 h, .int .i64 i, .int .i64 j]]=> .ret (.tup []) [.var [.bool a, .bool b, .bool c, .bool d, .bool e, .bool f, .int .i64 g, .int .i64 (la h n), .int .i64 i, .int .i64 j]]
 | [.ptr 0 8, .int .i64 n],[.var [.bool a, .bool b, .bool c, .bool d, .bool e, .bool f, .int .i64 g, .int .i64 h, .int .i64 i, .int .i64 j]]=> .ret (.tup []) [.var [.bool a, .bool b, .bool c, .bool d, .bool e, .bool f, .int .i64 g, .int .i64 h, .int .i64 (la i n), .int .i64 j]]
 | [.ptr 0 9, .int .i64 n],[.var [.bool a, .bool b, .bool c, .bool d, .bool e, .bool f, .int .i64 g, .int .i64 h, .int .i64 i, .int .i64 j]]=> .ret (.tup []) [.var [.bool a, .bool b, .bool c, .bool d, .bool e, .bool f, .int .i64 g, .int .i64 h, .int .i64 i, .int .i64 (la j n)]]
 | _,_=> .fail
theorem abS: Sound Kx 178 aeB:=by
 intro args objs res objs' hv
 unfold aeB at hv
 split at hv
 · cases hv
   refine abO _ _ _ _ ?_
   show (HC _ _ _ _ _ _ _ _ _ _ _).val=_
   unfold HC la
   rename_i n a b c d e f g h i j
   cases decide (g < 0) <;> rfl
 · cases hv
   refine abP _ _ _ _ ?_
   show (HD _ _ _ _ _ _ _ _ _ _ _).val=_
   unfold HD la
   rename_i n a b c d e f g h i j
   cases decide (h < 0) <;> rfl
 · cases hv
   refine abQ _ _ _ _ ?_
   show (HE _ _ _ _ _ _ _ _ _ _ _).val=_
   unfold HE la
   rename_i n a b c d e f g h i j
   cases decide (i < 0) <;> rfl
 · cases hv
   refine abR _ _ _ _ ?_
   show (HF _ _ _ _ _ _ _ _ _ _ _).val=_
   unfold HF la
   rename_i n a b c d e f g h i j
   cases decide (j < 0) <;> rfl
 · cases hv
def OH {α: Type} [DecidableEq α] (x: α): List α→Int→Int
 | [],_=> -1
 | a::r,i=>bif decide (x=a) then i else OH x r (i + 1)
theorem SK (l: List Int) (hl: l.length≤4611686018427387904) (x: Int) (k0: Int→OR') (k1: OR') (K: Int→OR') (h0: ∀ i,k0 i=K i) (h1: k1=K (-1)): ∀ (r: List Int) (i: Int) (n: Nat),At l i r→r.length < n→
 pI n l x (l.length: Int) i k0 k1=K (OH x r i):=by
 intro r;induction r with
 | nil=>intro i n h hn;obtain ⟨n,rfl⟩:=bL hn;unfold pI Ar;simp only [h.dge,cond_false,h1];rfl
 | cons a r ih=>
   intro i n h hn;obtain ⟨n,rfl⟩:=bL hn
   have hs:=ih (i + 1) n h.step (by simp at hn;omega)
   unfold pI Ar
   simp only [h.dlt,h.dnn,h.get,cond_true,h.next hl,hs,h0,OH]
   cases decide (x=a) <;> rfl
theorem SL (l: List aa) (hl: l.length≤4611686018427387904) (x: aa) (k0: Int→OR') (k1: OR') (K: Int→OR') (h0: ∀ i,k0 i=K i) (h1: k1=K (-1)): ∀ (r: List aa) (i: Int) (n: Nat),At l i r→r.length < n→
 pJ n l x (l.length: Int) i k0 k1=K (OH x r i):=by
 intro r;induction r with
 | nil=>intro i n h hn;obtain ⟨n,rfl⟩:=bL hn;unfold pJ As;simp only [h.dge,cond_false,h1];rfl
 | cons a r ih=>
   intro i n h hn;obtain ⟨n,rfl⟩:=bL hn
   have hs:=ih (i + 1) n h.step (by simp at hn;omega)
   unfold pJ As
   simp only [h.dlt,h.dnn,h.get,cond_true,h.next hl,hs,h0,OH]
   cases decide (x=a) <;> rfl
def aeC: List AV→List Ob→Br
 | [.sh (.int .i64) l, .int .i64 x],[]=> .ite (decide (l.length≤1000000)) (.ret (.int .i64 (OH x l 0)) []) .fail
 | _,_=> .fail
theorem Xx: Sound Kx 238 aeC:=by
 refine (SE (φ:=fun l x=> .ite (decide (l.length≤1000000)) (.ret (.int .i64 (OH x l 0)) []) .fail) (fun l _=>l.length + 1) fun l x r h=>?_).of fun args objs r h=>?_
 · obtain ⟨h1,h2⟩:=ai h
   cases h2
   rw [decide_eq_true_eq] at h1
   unfold LQ
   exact SK l (by omega) x _ _ (fun i=>some (.int .i64 i,[])) (fun _=>rfl) rfl l 0 _ (At.start l) (by omega)
 · unfold aeC at h;split at h
   · exact h
   · cases h
def aeD: List AV→List Ob→Br
 | [.sh .str l, .str x],[]=> .ite (decide (l.length≤1000000)) (.ret (.int .i64 (OH x l 0)) []) .fail
 | _,_=> .fail
theorem Xy: Sound Kx 183 aeD:=by
 refine (SI (φ:=fun l x=> .ite (decide (l.length≤1000000)) (.ret (.int .i64 (OH x l 0)) []) .fail) (fun l _=>l.length + 1) fun l x r h=>?_).of fun args objs r h=>?_
 · obtain ⟨h1,h2⟩:=ai h
   cases h2
   rw [decide_eq_true_eq] at h1
   unfold LS
   exact SL l (by omega) x _ _ (fun i=>some (.int .i64 i,[])) (fun _=>rfl) rfl l 0 _ (At.start l) (by omega)
 · unfold aeD at h;split at h
   · exact h
   · cases h
theorem SM {α: Type} [DecidableEq α] (x: α): ∀ (l: List α) (i: Int),0≤i→decide (0≤OH x l i)=l.any fun a=>decide (a=x)
 | [],i,h=>by rfl
 | a::r,i,h=>by
   unfold OH
   rw [List.any_cons]
   by_cases c: x=a
   · rw [dT' c,cond_true,dT' h,dT' c.symm];rfl
   · have c2: decide (a=x)=false:=dF' fun e=>c e.symm
     rw [dF' c,cond_false,c2,Bool.false_or]
     exact SM x r (i + 1) (by omega)
def B8: aa→Option aa
 | []=>some []
 | c::r=>bif decide (by8 c=34) then none else bif decide (by8 c=92) then (match r with | []=>none | d::r'=>bif jz (by8 d) then (B8 r').map (d:: ·) else none)
    else bif jz (by8 c) then (B8 r).map (c:: ·) else none
theorem uV (c: UInt8) (r: aa): B8 (c::r)=bif decide (by8 c=34) then none else bif decide (by8 c=92) then (match r with | []=>none | d::r'=>bif jz (by8 d) then (B8 r').map (d:: ·) else none)
 else bif jz (by8 c) then (B8 r).map (c:: ·) else none:=by cases r <;> rfl
theorem ap8 (out: List Int) (x: Int) (h: out.length≤5000000): decide ((out.length + (List.set (List.replicate 1 (0 : Int)) 0 x).length) * 1≤140737488355328)=true:=dT' (by rw [bO,List.length_singleton];omega)
theorem kJ (o: aa) (d: UInt8): bytesOf o++[by8 d]=bytesOf (o++[d]):=by simp [bytesOf,by8]
theorem jT (o: aa): (bytesOf o).length=o.length:=by simp [bytesOf]
def EC (K0: OR') (k1: List Int→OR') (o: aa) (x: Option aa): OR':=match x with | none=>K0 | some t=>k1 (bytesOf (o++t))
theorem sw (K0: OR') (k1: List Int→OR') (o: aa) (d: UInt8) (x: Option aa): EC K0 k1 (o++[d]) x=EC K0 k1 o (x.map (d:: ·)):=by cases x <;> simp [EC]
theorem Av (s: aa) (hl: s.length≤100000) (k0 k1: List Int→OR') (K0: OR') (hk: ∀ x,k0 x=K0): ∀ (n: Nat) (r o: aa) (i: Int),At s i r→r.length < n→o.length + r.length≤200000→
 dU n s i (bytesOf o) k0 k1=EC K0 k1 o (B8 r):=by
 intro n;induction n with
 | zero=>intro r o i h hn;omega
 | succ n ih=>
   intro r o i h hn ho
   unfold dU lZ
   cases r with
   | nil=>simp only [h.dge,cond_false];simp [EC,B8]
   | cons c r=>
     simp only [List.length_cons] at hn ho
     have hle:=h.le
     simp only [List.length_cons] at hle
     have hnn:=h.nn
     have hw: ad (i + 1)=i + 1:=w64 (by omega) (by omega)
     have hne: decide (i=(s.length: Int))=false:=dF' (by omega)
     have hap: ∀ x,decide (((bytesOf o).length + (List.set (List.replicate 1 (0 : Int)) 0 x).length) * 1≤140737488355328)=true:=fun x=>ap8 _ x (by rw [jT];omega)
     have h1: dU n s (i + 1) (bytesOf (o++[c])) k0 k1=_:=ih r (o++[c]) (i + 1) h.step (by omega) (by simp only [List.length_append,List.length_singleton];omega)
     have hz: (bytesOf o).length≤140737488355327:=by rw [jT];omega
     rw [sw] at h1
     rw [uV]
     simp only [h.dlt,h.dnn,h.str,hw,hne,hap,hk,bO,kJ,h1,cond_true,cond_false]
     cases decide (by8 c=34)
     · cases decide (by8 c=92)
       · simp only [cond_false]
         cases jz (by8 c) <;> simp [EC,hz]
       · simp only [cond_true,cond_false]
         cases r with
         | nil=>
           have he: decide (i + 1=(s.length: Int))=true:=dT' (by simp only [List.length_nil] at hle;omega)
           simp only [he,cond_true];simp [EC]
         | cons d r=>
           simp only [List.length_cons] at hn ho hle
           have hs:=h.step
           have he: decide (i + 1=(s.length: Int))=false:=dF' (by omega)
           have hw2: ad (i + 1 + 1)=i + 1 + 1:=w64 (by omega) (by omega)
           have h2: dU n s (i + 1 + 1) (bytesOf (o++[d])) k0 k1=_:=ih r (o++[d]) (i + 1 + 1) hs.step (by omega) (by simp only [List.length_append,List.length_singleton];omega)
           rw [sw] at h2
           simp only [he,hs.dlt,hs.dnn,hs.str,hw2,hap,bO,kJ,h2,cond_true,cond_false]
           cases jz (by8 d) <;> simp [EC,hz]
     · simp [EC]
theorem Aw (s: aa) (hl: s.length≤100000) (k0 k1: List Int→OR') (K0: OR') (hk: ∀ x,k0 x=K0): ∀ (n: Nat) (r o: aa) (i: Int),At s i r→r.length < n→o.length + r.length≤200000→
 dV n s i (bytesOf o) k0 k1=EC K0 k1 o (B8 r):=by
 intro n;induction n with
 | zero=>intro r o i h hn;omega
 | succ n ih=>
   intro r o i h hn ho
   unfold dV l4
   cases r with
   | nil=>simp only [h.dge,cond_false];simp [EC,B8]
   | cons c r=>
     simp only [List.length_cons] at hn ho
     have hle:=h.le
     simp only [List.length_cons] at hle
     have hnn:=h.nn
     have hw: ad (i + 1)=i + 1:=w64 (by omega) (by omega)
     have hap: ∀ x,decide (((bytesOf o).length + (List.set (List.replicate 1 (0 : Int)) 0 x).length) * 1≤140737488355328)=true:=fun x=>ap8 _ x (by rw [jT];omega)
     have h1: dV n s (i + 1) (bytesOf (o++[c])) k0 k1=_:=ih r (o++[c]) (i + 1) h.step (by omega) (by simp only [List.length_append,List.length_singleton];omega)
     have hz: (bytesOf o).length≤140737488355327:=by rw [jT];omega
     rw [sw] at h1
     rw [uV]
     simp only [h.dlt,h.dnn,h.str,hw,hap,hk,bO,kJ,h1,cond_true,cond_false]
     cases c34: decide (by8 c=34)
     · cases decide (by8 c=92)
       · simp only [cond_false]
         cases jz (by8 c) <;> simp [EC,hz]
       · simp only [cond_true,cond_false]
         cases r with
         | nil=>
           have he: decide (i + 1=(s.length: Int))=true:=dT' (by simp only [List.length_nil] at hle;omega)
           simp only [he,cond_true];simp [EC]
         | cons d r=>
           simp only [List.length_cons] at hn ho hle
           have hs:=h.step
           have he: decide (i + 1=(s.length: Int))=false:=dF' (by omega)
           have hw2: ad (i + 1 + 1)=i + 1 + 1:=w64 (by omega) (by omega)
           have h2: dV n s (i + 1 + 1) (bytesOf (o++[d])) k0 k1=_:=ih r (o++[d]) (i + 1 + 1) hs.step (by omega) (by simp only [List.length_append,List.length_singleton];omega)
           rw [sw] at h2
           simp only [he,hs.dlt,hs.dnn,hs.str,hw2,hap,bO,kJ,h2,cond_true,cond_false]
           cases jz (by8 d) <;> simp [EC,hz]
     · have c92: decide (by8 c=92)=false:=dF' (by have:=of_decide_eq_true c34;omega)
       simp [EC,c92]
def agq (x: Option aa): aa×Bool:=match x with | some t=>(t,true) | none=>([],false)
def rL (s: aa): aa×Bool:=
 bif decide ((s.length: Int) < 2) then ([],false) else bif !decide (aq s 0=34) then ([],false) else bif !decide (aq s ((s.length: Int) - 1)=34) then ([],false) else agq (B8 (Ev.cut s 1 ((s.length: Int) - 1)))
def agr: List AV→List Ob→Br
 | [.str s],[]=> .ite (decide (s.length≤4000)) (.ret (.tup [.str (rL s).1, .bool (rL s).2]) []) .fail
 | _,_=> .fail
theorem LU: ∀ (n: Nat) (r t: aa),r.length≤n→B8 r=some t→t.length≤r.length:=by
 intro n;induction n with
 | zero=>
   intro r t h e
   obtain rfl: r=[]:=List.length_eq_zero_iff.1 (by omega)
   simp only [B8,Option.some.injEq] at e;subst e;simp
 | succ n ih=>
   intro r t h e
   cases r with
   | nil=>simp only [B8,Option.some.injEq] at e;subst e;simp
   | cons c r=>
     simp only [List.length_cons] at h
     rw [uV] at e
     cases h1: decide (by8 c=34) <;> rw [h1] at e
     · cases h2: decide (by8 c=92) <;> rw [h2] at e
       · cases h3: jz (by8 c) <;> rw [h3] at e
         · cases e
         · simp only [cond_true,cond_false,Option.map_eq_some_iff] at e
           obtain ⟨u,hu,rfl⟩:=e
           have:=ih r u (by omega) hu
           simp only [List.length_cons];omega
       · cases r with
         | nil=>cases e
         | cons d r=>
           simp only [List.length_cons] at h
           simp only [cond_true,cond_false] at e
           cases h3: jz (by8 d) <;> rw [h3] at e
           · cases e
           · simp only [cond_true,Option.map_eq_some_iff] at e
             obtain ⟨u,hu,rfl⟩:=e
             have:=ih r u (by omega) hu
             simp only [List.length_cons];omega
     · cases e
theorem Ax {α: Type} (l: List α) (a b: Int): (Ev.cut l a b).length≤l.length:=by
 unfold Ev.cut
 rw [List.length_drop]
 have:=List.length_take_le' b.toNat l
 omega
theorem SN (x: aa) (hx: x.length≤4000): EC (some (.tup [.str [], .bool false],[])) (fun o=>bif decide ((4000 : Int) < (o.length: Int)) then some (.tup [.str [], .bool false],[]) else some (.tup [.str (bG o), .bool true],[])) [] (B8 x)=some (.tup [.str (agq (B8 x)).1, .bool (agq (B8 x)).2],[]):=by
 cases h: B8 x with
 | none=>rfl
 | some t=>
   have:=LU _ x t (Nat.le_refl _) h
   have e: decide ((4000 : Int) < ((bytesOf ([]++t)).length: Int))=false:=dF' (by rw [jT,List.nil_append];omega)
   simp only [EC,agq,e,cond_false]
   rw [List.nil_append,lC]
theorem ED: Sound Kx 181 agr:=by
 refine (Ap (φ:=fun s=> .ite (decide (s.length≤4000)) (.ret (.tup [.str (rL s).1, .bool (rL s).2]) []) .fail) (fun s=>s.length + 1) fun s r h=>?_).of fun args objs r h=>?_
 · obtain ⟨h1,h2⟩:=ai h
   cases h2
   rw [decide_eq_true_eq] at h1
   unfold rg rL
   cases c: decide ((s.length: Int) < 2)
   · have c':=of_decide_eq_false c
     have hw: ad ((s.length: Int) - 1)=(s.length: Int) - 1:=w64 (by omega) (by omega)
     have a1: decide ((0 : Int) < (s.length: Int))=true:=dT' (by omega)
     have a2: decide (0≤(s.length: Int) - 1)=true:=dT' (by omega)
     have a3: decide ((s.length: Int) - 1 < (s.length: Int))=true:=dT' (by omega)
     have a4: decide (1≤(s.length: Int) - 1)=true:=dT' (by omega)
     have a5: decide ((s.length: Int) - 1≤(s.length: Int))=true:=dT' (by omega)
     simp only [hw,a1,a2,a3,a4,a5,cond_true,cond_false]
     cases decide (aq s 0=34)
     · rfl
     · cases decide (aq s ((s.length: Int) - 1)=34)
       · rfl
       · have hcl:=Ax s 1 ((s.length: Int) - 1)
         simp only [Bool.not_true,cond_false]
         exact (Av (Ev.cut s 1 ((s.length: Int) - 1)) (by omega) _ _ _ (fun _=>rfl) (s.length + 1) (Ev.cut s 1 ((s.length: Int) - 1)) [] 0 (At.start _) (by omega) (by simp only [List.length_nil];omega)).trans (SN _ (by omega))
   · rfl
 · unfold agr at h;split at h
   · exact h
   · cases h
theorem EE: Sound Kx 281 agr:=by
 refine (Aq (φ:=fun s=> .ite (decide (s.length≤4000)) (.ret (.tup [.str (rL s).1, .bool (rL s).2]) []) .fail) (fun s=>s.length + 1) fun s r h=>?_).of fun args objs r h=>?_
 · obtain ⟨h1,h2⟩:=ai h
   cases h2
   rw [decide_eq_true_eq] at h1
   unfold ri rL
   cases c: decide ((s.length: Int) < 2)
   · have c':=of_decide_eq_false c
     have hw: ad ((s.length: Int) - 1)=(s.length: Int) - 1:=w64 (by omega) (by omega)
     have a0: decide ((8002 : Int) < (s.length: Int))=false:=dF' (by omega)
     have a1: decide ((0 : Int) < (s.length: Int))=true:=dT' (by omega)
     have a2: decide (0≤(s.length: Int) - 1)=true:=dT' (by omega)
     have a3: decide ((s.length: Int) - 1 < (s.length: Int))=true:=dT' (by omega)
     have a4: decide (1≤(s.length: Int) - 1)=true:=dT' (by omega)
     have a5: decide ((s.length: Int) - 1≤(s.length: Int))=true:=dT' (by omega)
     simp only [hw,a0,a1,a2,a3,a4,a5,cond_true,cond_false]
     cases decide (aq s 0=34)
     · rfl
     · cases decide (aq s ((s.length: Int) - 1)=34)
       · rfl
       · have hcl:=Ax s 1 ((s.length: Int) - 1)
         simp only [Bool.not_true,cond_false]
         exact (Aw (Ev.cut s 1 ((s.length: Int) - 1)) (by omega) _ _ _ (fun _=>rfl) (s.length + 1) (Ev.cut s 1 ((s.length: Int) - 1)) [] 0 (At.start _) (by omega) (by simp only [List.length_nil];omega)).trans (SN _ (by omega))
   · rfl
 · unfold agr at h;split at h
   · exact h
   · cases h
def LV: Opt:={ live:=[(5,[0,4,5])],outs:=[(5,[2,3,4])] }
def iDelta_C: SC:=[⟨74,_,OF⟩]
def nL (aZ: aa) (bi a7: Int) (kR5: aa→Int→Int→OR') (eg: Int→OR'): OR':=
 (bif (decide (a7 < (aZ.length: Int))) then (bif (decide (0≤a7)) then (bif (decide (a7 < (aZ.length: Int))) then (kR5 aZ (if ((ad ((ad (10 * bi)) + (ad (wk8 ((aq aZ a7) - 48))))) < 2147483648) then (ad ((ad (10 * bi)) + (ad (wk8 ((aq aZ a7) - 48))))) else 2147483648) (ad (a7 + 1))) else none) else none) else (eg bi))
def iC: Nat→aa→Int→Int→(Int→OR')→OR'
 | 0,_,_,_,_=>none
 | n + 1,aZ,bi,a7,eg=>nL aZ bi a7 (fun aZ bi a7=>iC n aZ bi a7 eg) eg
abbrev iDelta_p5: SP:=⟨29,[0,4,5],[(.v .s),(.v (.i .i64)),(.v (.i .i64))],[]⟩
noncomputable def EF: Code:=aC (aG Tryz.f237) [1,1,1,0,1,0,0]
def EG (f: (Int→OR')→OR') (k: KT): OR':=f (fun av=>k (Ex.exit 0) ((St.mk (aF 0 29 [(4,(AV.int .i64 av))]) ([]: (List (Nat×(Ob)))))))
def EH (n: Nat) (d: iDelta_p5.D): KT→OR':=EG (iC n d.1.1 d.1.2.1 d.1.2.2.1)
def LW (N: Nat): Lam:=bH [⟨5,iDelta_p5,EH N⟩]
theorem OI (N: Nat): OkL Kx iDelta_C.s LV 0 N (LW N) EF:=okL iDelta_p5 (EH) (fun d kR=>EG (nL d.1.1 d.1.2.1 d.1.2.2.1 (fun aZ bi a7=>kR ((aZ,bi,a7,()),())))) (fun _ _=>by kernel_rfl) (fun _ _ _=>by kernel_rfl) (fun _ _=>by kernel_rfl) (fun _ _ _ _=>by kernel_rfl) (al (l':=[]) (by kernel_rfl) trivial)
def yb (N: Nat) (s: aa): OR':=(bif (decide (s=([]: aa))) then (some ((AV.tup [.int .i64 0,.bool false]),[])) else (bif (isM s) then (bif (!(aP aB s)) then (some ((AV.tup [.int .i64 0,.bool false]),[])) else (iC N s 0 0 (fun av=>(some ((AV.tup [.int .i64 av,.bool true]),[]))))) else none))
def yc (φ: aa→Br): List AV→List Ob→Br
 | [.str s],[]=>φ s
 | _,_=> .fail
theorem HJ {φ: aa→Br} (fu: aa→Nat) (hv: ∀ s res_,(φ s).val=some res_→yb (fu s) s=some res_): Sound Kx 237 (yc φ):=ap (C:=iDelta_C) (O:=LV) Tryz.func237 (by kernel_rfl) fun args objs=>by
 unfold yc;split
 · rename_i s;exact .inr fun _ hyp_=>aO (Λ:=LW (fu s)) (by kernel_rfl) (al (l':=[EF]) (by kernel_rfl) ⟨OI _,trivial⟩) (by kernel_rfl) (hv s _ hyp_)
 · exact .inl rfl
def aeE: SC:=[⟨238,_,Xx⟩]
def HK (l: List Int) (x: Int): Br:=(.ite (decide (l.length≤1000000)) (.ret (AV.bool (decide (0≤(OH x l 0)))) []) .fail)
def Z8: List AV→List Ob→Br
 | [.sh (.int .i64) l, .int .i64 x],[]=>HK l x
 | _,_=> .fail
theorem conI_ok: Sound Kx 184 Z8:=ae (C:=aeE) (O:=O0) Tryz.func184 (by kernel_rfl) fun args objs=>by
 unfold Z8;split
 · exact .inr (by kernel_rfl)
 · exact .inl rfl
def aeF: SC:=[⟨183,_,Xy⟩]
def HL (l: List aa) (x: aa): Br:=(.ite (decide (l.length≤1000000)) (.ret (AV.bool (decide (0≤(OH x l 0)))) []) .fail)
def Z9: List AV→List Ob→Br
 | [.sh .str l, .str x],[]=>HL l x
 | _,_=> .fail
theorem conS_ok: Sound Kx 103 Z9:=ae (C:=aeF) (O:=O0) Tryz.func103 (by kernel_rfl) fun args objs=>by
 unfold Z9;split
 · exact .inr (by kernel_rfl)
 · exact .inl rfl
end
end Go.Proofs.YtgknmoadpgpdeaaGreatDoor.Ev
