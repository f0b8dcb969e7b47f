/- The texts Ya, Yb, Yc, Yd, Ye, Yf, Yg, ContS, Yh, Yi, Yj, Yk, Qi, Qj, Qk, Ql, Qm, Qn, Qo, Yl, Ym, Yn, Yo, Za, Zb, Zc, one behind the other. -/
import Derived.Test.YtgknmoadpgpdeaaGreatDoorK25
import Derived.Test.YtgknmoadpgpdeaaGreatDoorK29
import Derived.Test.YtgknmoadpgpdeaaGreatDoorK13
import Derived.Test.YtgknmoadpgpdeaaGreatDoorK24
import Derived.Test.YtgknmoadpgpdeaaGreatDoorK19
import Derived.Test.YtgknmoadpgpdeaaGreatDoorK20
namespace Go.Proofs.YtgknmoadpgpdeaaGreatDoor.Ev
open Go Go.RowKit
set_option linter.unusedVariables false
set_option linter.unusedSimpArgs false
noncomputable section
def Pt (y: Int): Br:=(.ret (AV.int .i64 (ad ((ad ((ad ((ad ((ad (365 * (ad (y - 1970)))) + (ad (Int.tdiv (ad (y - 1)) 4)))) - (ad (Int.tdiv (ad (y - 1)) 100)))) + (ad (Int.tdiv (ad (y - 1)) 400)))) - 477))) [])
def aaF: List AV→List Ob→Br
 | [.int .i64 y],[]=>Pt y
 | _,_=> .fail
theorem aaG: Sound Kx 249 aaF:=ac (C:=[]) (O:=O0) Tryz.func249 (by kernel_rfl) fun args objs=>by
 unfold aaF;split
 · exact .inr (by kernel_rfl)
 · exact .inl rfl
def Pu (y m: Int): Br:=(.ite (decide (m=2)) (.ite (decide ((Int.tmod y 4)=0)) (.ite (!(decide ((Int.tmod y 100)=0))) (.ret (AV.int .i64 29) []) (.ite (decide ((Int.tmod y 400)=0)) (.ret (AV.int .i64 29) []) (.ite (decide (m=2)) (.ret (AV.int .i64 28) []) (.ite (decide (m=4)) (.ret (AV.int .i64 30) []) (.ite (decide (m=6)) (.ret (AV.int .i64 30) []) (.ite (decide (m=9)) (.ret (AV.int .i64 30) []) (.ite (decide (m=11)) (.ret (AV.int .i64 30) []) (.ret (AV.int .i64 31) [])))))))) (.ite (decide ((Int.tmod y 400)=0)) (.ret (AV.int .i64 29) []) (.ite (decide (m=2)) (.ret (AV.int .i64 28) []) (.ite (decide (m=4)) (.ret (AV.int .i64 30) []) (.ite (decide (m=6)) (.ret (AV.int .i64 30) []) (.ite (decide (m=9)) (.ret (AV.int .i64 30) []) (.ite (decide (m=11)) (.ret (AV.int .i64 30) []) (.ret (AV.int .i64 31) [])))))))) (.ite (decide (m=2)) (.ret (AV.int .i64 28) []) (.ite (decide (m=4)) (.ret (AV.int .i64 30) []) (.ite (decide (m=6)) (.ret (AV.int .i64 30) []) (.ite (decide (m=9)) (.ret (AV.int .i64 30) []) (.ite (decide (m=11)) (.ret (AV.int .i64 30) []) (.ret (AV.int .i64 31) [])))))))
def aaH: List AV→List Ob→Br
 | [.int .i64 y, .int .i64 m],[]=>Pu y m
 | _,_=> .fail
theorem aaI: Sound Kx 250 aaH:=ac (C:=[]) (O:=O0) Tryz.func250 (by kernel_rfl) fun args objs=>by
 unfold aaH;split
 · exact .inr (by kernel_rfl)
 · exact .inl rfl
def VY: Opt:={ live:=[(2,[0,1,5])],outs:=[(2,[4,5])] }
def iDig_C: SC:=[⟨232,_,CQ⟩]
def w6 (ay aB: Int) (cF: aa) (kR2: Int→Int→aa→OR') (cf: aa→OR'): OR':=
 (bif (decide (0 < aB)) then (bif (bw (Int.tmod ay 10)) then (bif (decide (((List.length (bR (Int.tmod ay 10))) + cF.length)≤9223372036854775807)) then (kR2 (ad (Int.tdiv ay 10)) (ad (aB - 1)) ((bR (Int.tmod ay 10))++cF)) else none) else none) else (cf cF))
def nh: Nat→Int→Int→aa→(aa→OR')→OR'
 | 0,_,_,_,_=>none
 | n + 1,ay,aB,cF,cf=>w6 ay aB cF (fun ay aB cF=>nh n ay aB cF cf) cf
abbrev iDig_p2: SP:=⟨18,[0,1,5],[(.v (.i .i64)),(.v (.i .i64)),(.v .s)],[]⟩
noncomputable def Pv: Code:=ar (aC Tryz.f254) [1,1,0,0,0]
def Pw (f: (aa→OR')→OR') (k: KT): OR':=f (fun bO=>k (Ex.exit 0) ((St.mk (aA 0 18 [(5,(AV.str bO))]) ([]: (List (Nat×(Ob)))))))
def Px (n: Nat) (d: iDig_p2.D): KT→OR':=Pw (nh n d.1.1 d.1.2.1 d.1.2.2.1)
def VZ (N: Nat): Lam:=bI [⟨2,iDig_p2,Px N⟩]
theorem TZ (N: Nat): OkL Kx iDig_C.s VY 0 N (VZ N) Pv:=okL iDig_p2 (Px) (fun d kR=>Pw (w6 d.1.1 d.1.2.1 d.1.2.2.1 (fun ay aB cF=>kR ((ay,aB,cF,()),())))) (fun _ _=>by kernel_rfl) (fun _ _ _=>by kernel_rfl) (fun _ _=>by kernel_rfl) (fun _ _ _ _=>by kernel_rfl) (af (l':=[]) (by kernel_rfl) trivial)
def H7 (N: Nat) (n k: Int): OR':=(nh N n k ([]: aa) (fun bO=>(some ((AV.str bO),[]))))
def H8 (φ: Int→Int→Br): List AV→List Ob→Br
 | [.int .i64 n, .int .i64 k],[]=>φ n k
 | _,_=> .fail
theorem Py {φ: Int→Int→Br} (fu: Int→Int→Nat) (hv: ∀ n k res_,(φ n k).val=some res_→H7 (fu n k) n k=some res_): Sound Kx 254 (H8 φ):=ah (C:=iDig_C) (O:=VY) Tryz.func254 (by kernel_rfl) fun args objs=>by
 unfold H8;split
 · rename_i n k;exact .inr fun _ hyp_=>aL (Λ:=VZ (fu n k)) (by kernel_rfl) (af (l':=[Pv]) (by kernel_rfl) ⟨TZ _,trivial⟩) (by kernel_rfl) (hv n k _ hyp_)
 · exact .inl rfl
def T0: Br:=(.ret (AV.ref 0 0) [.arr Ty.str 0 false (List.set (List.set (List.set (List.set (List.set (List.set (List.set (List.replicate 7 ([]: aa)) 0 ([77,111,110,100,97,121]: aa)) 1 ([84,117,101,115,100,97,121]: aa)) 2 ([87,101,100,110,101,115,100,97,121]: aa)) 3 ([84,104,117,114,115,100,97,121]: aa)) 4 ([70,114,105,100,97,121]: aa)) 5 ([83,97,116,117,114,100,97,121]: aa)) 6 ([83,117,110,100,97,121]: aa))])
def Pz: List AV→List Ob→Br
 | [],[]=>T0
 | _,_=> .fail
theorem iDays_ok: Sound Kx 252 Pz:=ac (C:=[]) (O:=O0) Tryz.func252 (by kernel_rfl) fun args objs=>by
 unfold Pz;split
 · exact .inr (by kernel_rfl)
 · exact .inl rfl
def T1: Br:=(.ret (AV.ref 0 0) [.arr Ty.str 0 false (List.set (List.set (List.set (List.set (List.set (List.set (List.set (List.set (List.set (List.set (List.set (List.set (List.replicate 12 ([]: aa)) 0 ([74,97,110]: aa)) 1 ([70,101,98]: aa)) 2 ([77,97,114]: aa)) 3 ([65,112,114]: aa)) 4 ([77,97,121]: aa)) 5 ([74,117,110]: aa)) 6 ([74,117,108]: aa)) 7 ([65,117,103]: aa)) 8 ([83,101,112]: aa)) 9 ([79,99,116]: aa)) 10 ([78,111,118]: aa)) 11 ([68,101,99]: aa))])
def PA: List AV→List Ob→Br
 | [],[]=>T1
 | _,_=> .fail
theorem iMons_ok: Sound Kx 245 PA:=ac (C:=[]) (O:=O0) Tryz.func245 (by kernel_rfl) fun args objs=>by
 unfold PA;split
 · exact .inr (by kernel_rfl)
 · exact .inl rfl
def Ea: Opt:={ live:=[(7,[0,3,4,5,6]),(3,[0,3,4])],outs:=[(7,[0,2,3,4,5,6]),(3,[2,3])] }
def iNums_C: SC:=[⟨244,_,ei⟩]
def pE (cj: aa) (du dF bV: Int) (eA: (List Int)) (kR7 Cq: aa→Int→Int→Int→(List Int)→OR'): OR':=
 (bif (decide (dF < (cj.length: Int))) then (bif (decide (0≤dF)) then (bif (decide (dF < (cj.length: Int))) then (bif (am (aj cj dF)) then (bif (decide ((ad (dF - du)) < 9)) then (bif (decide (0≤dF)) then (bif (decide (dF < (cj.length: Int))) then (kR7 cj du (ad (dF + 1)) (ad ((ad (10 * bV)) + (ad (wk8 ((aj cj dF) - 48))))) eA) else none) else none) else (Cq cj du dF bV eA)) else (Cq cj du dF bV eA)) else none) else none) else (Cq cj du dF bV eA))
def jx: Nat→aa→Int→Int→Int→(List Int)→(aa→Int→Int→Int→(List Int)→OR')→OR'
 | 0,_,_,_,_,_,_=>none
 | n + 1,cj,du,dF,bV,eA,Cq=>pE cj du dF bV eA (fun cj du dF bV eA=>jx n cj du dF bV eA Cq) Cq
abbrev iNums_p7: SP:=⟨50,[0,3,4,5,6],[(.v .s),(.v (.ref 256 0)),(.v (.i .i64)),(.v (.i .i64)),(.v (.i .i64))],[(256, .arr (Ty.int .i64) 0 false)]⟩
noncomputable def w7: Code:=ar (aC Tryz.f205) [1,1,0,1,0,0,1,0,0,1,1,0,0,0]
def H9 (f: (aa→Int→Int→Int→(List Int)→OR')→OR') (k: KT): OR':=f (fun ec it jS IP Ci=>k (Ex.exit 2) ((St.mk (aA 0 50 [(0,(AV.str ec)),(3,(AV.ref 256 0)),(4,(AV.int .i64 it)),(5,(AV.int .i64 jS)),(6,(AV.int .i64 IP))]) ((256,(Ob.arr (Ty.int .i64) 0 false Ci))::([]: (List (Nat×(Ob))))))))
def H_ (n: Nat) (d: iNums_p7.D): KT→OR':=H9 (jx n d.1.1 d.1.2.2.1 d.1.2.2.2.1 d.1.2.2.2.2.1 d.2.1)
def lS (N: Nat) (ax: aa) (an: Int) (bl: (List Int)) (kR3: aa→Int→(List Int)→OR') (dH: (List Int)→OR'): OR':=
 (bif (decide (an < (ax.length: Int))) then (jx N ax an an 0 bl (fun ec it jS IP Ci=>(bif (decide (it < jS)) then (bif (decide (((Ci.length + (List.length (List.set (List.replicate 1 0) 0 IP))) * 8)≤140737488355328)) then (kR3 ec (ad ((ad (jS - 1)) + 1)) (Ci++(List.set (List.replicate 1 0) 0 IP))) else none) else (kR3 ec (ad (it + 1)) Ci)))) else (dH bl))
def io (N: Nat): Nat→aa→Int→(List Int)→((List Int)→OR')→OR'
 | 0,_,_,_,_=>none
 | n + 1,ax,an,bl,dH=>lS N ax an bl (fun ax an bl=>io N n ax an bl dH) dH
abbrev iNums_p3: SP:=⟨50,[0,3,4],[(.v .s),(.v (.ref 256 0)),(.v (.i .i64))],[(256, .arr (Ty.int .i64) 0 false)]⟩
noncomputable def Ia: Code:=ar (aC Tryz.f205) [1,1,0,1,0,0]
def Ib (f: ((List Int)→OR')→OR') (k: KT): OR':=f (fun bd=>k (Ex.exit 0) ((St.mk (aA 0 50 [(3,(AV.ref 256 0))]) ((256,(Ob.arr (Ty.int .i64) 0 false bd))::([]: (List (Nat×(Ob))))))))
def Ic (N n: Nat) (d: iNums_p3.D): KT→OR':=Ib (io N n d.1.1 d.1.2.2.1 d.2.1)
def Eb (N: Nat): Lam:=bI [⟨7,iNums_p7,H_ N⟩,⟨3,iNums_p3,Ic N N⟩]
theorem BF (N: Nat): OkL Kx iNums_C.s Ea 0 N (Eb N) w7:=okL iNums_p7 (H_) (fun d kR=>H9 (pE d.1.1 d.1.2.2.1 d.1.2.2.2.1 d.1.2.2.2.2.1 d.2.1 (fun cj du dF bV eA=>kR ((cj,(),du,dF,bV,()),(eA,()))))) (fun _ _=>by kernel_rfl) (fun _ _ _=>by kernel_rfl) (fun _ _=>by kernel_rfl) (fun _ _ _ _=>by kernel_rfl) (af (l':=[]) (by kernel_rfl) trivial)
theorem PB (N: Nat): OkL Kx iNums_C.s Ea 0 N (Eb N) Ia:=okL iNums_p3 (Ic N) (fun d kR=>Ib (lS N d.1.1 d.1.2.2.1 d.2.1 (fun ax an bl=>kR ((ax,(),an,()),(bl,()))))) (fun _ _=>by kernel_rfl) (fun _ _ _=>by kernel_rfl) (fun _ _=>by kernel_rfl) (fun _ _ _ _=>by kernel_rfl) (af (l':=[w7]) (by kernel_rfl) ⟨BF _,trivial⟩)
def BG (N: Nat) (s: aa): OR':=(io N N s 0 ([]: (List Int)) (fun bd=>(some ((AV.ref 0 0),[.arr (Ty.int .i64) 0 false bd]))))
def BH (φ: aa→Br): List AV→List Ob→Br
 | [.str s],[]=>φ s
 | _,_=> .fail
theorem KU {φ: aa→Br} (fu: aa→Nat) (hv: ∀ s res_,(φ s).val=some res_→BG (fu s) s=some res_): Sound Kx 205 (BH φ):=ah (C:=iNums_C) (O:=Ea) Tryz.func205 (by kernel_rfl) fun args objs=>by
 unfold BH;split
 · rename_i s;exact .inr fun _ hyp_=>aL (Λ:=Eb (fu s)) (by kernel_rfl) (af (l':=[Ia,w7]) (by kernel_rfl) ⟨PB _,BF _,trivial⟩) (by kernel_rfl) (hv s _ hyp_)
 · exact .inl rfl
def w9 (y: Int): Br:=(.ite (decide ((Int.tmod y 4)=0)) (.ite (!(decide ((Int.tmod y 100)=0))) (.ret (AV.bool true) []) (.ret (AV.bool (decide ((Int.tmod y 400)=0))) [])) (.ret (AV.bool false) []))
def PC: List AV→List Ob→Br
 | [.int .i64 y],[]=>w9 y
 | _,_=> .fail
theorem T2: Sound Kx 292 PC:=ac (C:=[]) (O:=O0) Tryz.func292 (by kernel_rfl) fun args objs=>by
 unfold PC;split
 · exact .inr (by kernel_rfl)
 · exact .inl rfl
def w_ (k: Int): Br:=(.ite (decide (k=0)) (.ret (AV.str ([77,111,110,100,97,121]: aa)) []) (.ite (decide (k=1)) (.ret (AV.str ([84,117,101,115,100,97,121]: aa)) []) (.ite (decide (k=2)) (.ret (AV.str ([87,101,100,110,101,115,100,97,121]: aa)) []) (.ite (decide (k=3)) (.ret (AV.str ([84,104,117,114,115,100,97,121]: aa)) []) (.ite (decide (k=4)) (.ret (AV.str ([70,114,105,100,97,121]: aa)) []) (.ite (decide (k=5)) (.ret (AV.str ([83,97,116,117,114,100,97,121]: aa)) []) (.ret (AV.str ([83,117,110,100,97,121]: aa)) [])))))))
def PD: List AV→List Ob→Br
 | [.int .i64 k],[]=>w_ k
 | _,_=> .fail
theorem T3: Sound Kx 216 PD:=ac (C:=[]) (O:=O0) Tryz.func216 (by kernel_rfl) fun args objs=>by
 unfold PD;split
 · exact .inr (by kernel_rfl)
 · exact .inl rfl
def xa (m: Int): Br:=(.ite (decide (0≤(ad ((ad (3 * m)) - 3)))) (.ite (decide ((ad ((ad (3 * m)) - 3))≤(ad (3 * m)))) (.ite (decide ((ad (3 * m))≤36)) (.ret (AV.str (cut ([74,97,110,70,101,98,77,97,114,65,112,114,77,97,121,74,117,110,74,117,108,65,117,103,83,101,112,79,99,116,78,111,118,68,101,99]: aa) (ad ((ad (3 * m)) - 3)) (ad (3 * m)))) []) .fail) .fail) .fail)
def PE: List AV→List Ob→Br
 | [.int .i64 m],[]=>xa m
 | _,_=> .fail
theorem T4: Sound Kx 214 PE:=ac (C:=[]) (O:=O0) Tryz.func214 (by kernel_rfl) fun args objs=>by
 unfold PE;split
 · exact .inr (by kernel_rfl)
 · exact .inl rfl
def V0: Opt:={ live:=[(2,[1,5])],outs:=[(2,[4,5])] }
def sPad_C: SC:=[⟨191,_,mR⟩]
def xb (ay: Int) (aB: aa) (kR2: Int→aa→OR') (cf: aa→OR'): OR':=
 (bif (decide ((aB.length: Int) < ay)) then (bif (decide ((1 + aB.length)≤9223372036854775807)) then (kR2 ay (([48]: aa)++aB)) else none) else (cf aB))
def kI: Nat→Int→aa→(aa→OR')→OR'
 | 0,_,_,_=>none
 | n + 1,ay,aB,cf=>xb ay aB (fun ay aB=>kI n ay aB cf) cf
abbrev sPad_p2: SP:=⟨15,[1,5],[(.v (.i .i64)),(.v .s)],[]⟩
noncomputable def PF: Code:=ar (aC Tryz.f218) [1,1,0,0,0]
def PG (f: (aa→OR')→OR') (k: KT): OR':=f (fun bO=>k (Ex.exit 0) ((St.mk (aA 0 15 [(5,(AV.str bO))]) ([]: (List (Nat×(Ob)))))))
def PH (n: Nat) (d: sPad_p2.D): KT→OR':=PG (kI n d.1.1 d.1.2.1)
def V1 (N: Nat): Lam:=bI [⟨2,sPad_p2,PH N⟩]
theorem T5 (N: Nat): OkL Kx sPad_C.s V0 0 N (V1 N) PF:=okL sPad_p2 (PH) (fun d kR=>PG (xb d.1.1 d.1.2.1 (fun ay aB=>kR ((ay,aB,()),())))) (fun _ _=>by kernel_rfl) (fun _ _ _=>by kernel_rfl) (fun _ _=>by kernel_rfl) (fun _ _ _ _=>by kernel_rfl) (af (l':=[]) (by kernel_rfl) trivial)
def Id (N: Nat) (n k: Int): OR':=(bif (bw n) then (kI N k (bR n) (fun bO=>(some ((AV.str bO),[])))) else none)
def Ie (φ: Int→Int→Br): List AV→List Ob→Br
 | [.int .i64 n, .int .i64 k],[]=>φ n k
 | _,_=> .fail
theorem PI {φ: Int→Int→Br} (fu: Int→Int→Nat) (hv: ∀ n k res_,(φ n k).val=some res_→Id (fu n k) n k=some res_): Sound Kx 218 (Ie φ):=ah (C:=sPad_C) (O:=V0) Tryz.func218 (by kernel_rfl) fun args objs=>by
 unfold Ie;split
 · rename_i n k;exact .inr fun _ hyp_=>aL (Λ:=V1 (fu n k)) (by kernel_rfl) (af (l':=[PF]) (by kernel_rfl) ⟨T5 _,trivial⟩) (by kernel_rfl) (hv n k _ hyp_)
 · exact .inl rfl
def V2: Opt:={ live:=[(3,[0,3,4])],outs:=[(3,[2,3])] }
def sNum_C: SC:=[⟨213,_,e_⟩]
def xc (ax: aa) (an bl: Int) (kR3: aa→Int→Int→OR') (dH acp: Int→OR'): OR':=
 (bif (decide (bl < (ax.length: Int))) then (bif (decide (0≤bl)) then (bif (decide (bl < (ax.length: Int))) then (bif (decide ((aj ax bl)=32)) then (kR3 ax (ad (an * 10)) (ad (bl + 1))) else (bif (decide (0≤bl)) then (bif (decide (bl < (ax.length: Int))) then (bif (!(am (aj ax bl))) then (dH an) else (bif (decide (0≤bl)) then (bif (decide (bl < (ax.length: Int))) then (kR3 ax (ad ((ad (an * 10)) + (ad (wk8 ((aj ax bl) - 48))))) (ad (bl + 1))) else none) else none)) else none) else none)) else none) else none) else (acp an))
def ni: Nat→aa→Int→Int→(Int→OR')→(Int→OR')→OR'
 | 0,_,_,_,_,_=>none
 | n + 1,ax,an,bl,dH,acp=>xc ax an bl (fun ax an bl=>ni n ax an bl dH acp) dH acp
abbrev sNum_p3: SP:=⟨31,[0,3,4],[(.v .s),(.v (.i .i64)),(.v (.i .i64))],[]⟩
noncomputable def PJ: Code:=ar (aC Tryz.f153) [1,1,0,1,0,0]
def PK (f: (Int→OR')→(Int→OR')→OR') (k: KT): OR':=f (fun bd=>k Ex.ret ((St.mk (aA 0 31 [(2,(AV.int .i64 (-1))),(3,(AV.int .i64 bd))]) ([]: (List (Nat×(Ob))))))) (fun RG=>k (Ex.exit 0) ((St.mk (aA 0 31 [(3,(AV.int .i64 RG))]) ([]: (List (Nat×(Ob)))))))
def PL (n: Nat) (d: sNum_p3.D): KT→OR':=PK (ni n d.1.1 d.1.2.1 d.1.2.2.1)
def V3 (N: Nat): Lam:=bI [⟨3,sNum_p3,PL N⟩]
theorem T6 (N: Nat): OkL Kx sNum_C.s V2 0 N (V3 N) PJ:=okL sNum_p3 (PL) (fun d kR=>PK (xc d.1.1 d.1.2.1 d.1.2.2.1 (fun ax an bl=>kR ((ax,an,bl,()),())))) (fun _ _=>by kernel_rfl) (fun _ _ _=>by kernel_rfl) (fun _ _=>by kernel_rfl) (fun _ _ _ _=>by kernel_rfl) (af (l':=[]) (by kernel_rfl) trivial)
def If (N: Nat) (s: aa): OR':=(ni N s 0 0 (fun bd=>(some ((AV.int .i64 (-1)),[]))) (fun RG=>(some ((AV.int .i64 RG),[]))))
def Ig (φ: aa→Br): List AV→List Ob→Br
 | [.str s],[]=>φ s
 | _,_=> .fail
theorem PM {φ: aa→Br} (fu: aa→Nat) (hv: ∀ s res_,(φ s).val=some res_→If (fu s) s=some res_): Sound Kx 153 (Ig φ):=ah (C:=sNum_C) (O:=V2) Tryz.func153 (by kernel_rfl) fun args objs=>by
 unfold Ig;split
 · rename_i s;exact .inr fun _ hyp_=>aL (Λ:=V3 (fu s)) (by kernel_rfl) (af (l':=[PJ]) (by kernel_rfl) ⟨T6 _,trivial⟩) (by kernel_rfl) (hv s _ hyp_)
 · exact .inl rfl
def BI (g: Int→Bool) (p: Int→AV): List AV→List Ob→Br
 | [.int .i64 n],[]=> .ite (g n) (.ret (p n) []) .fail
 | _,_=> .fail
theorem nj {n: Nat} {s: List AV→List Ob→Br} (hs: Sound Kx n s) {g: Int→Bool} {p: Int→AV} (h: ∀ a,g a=true→(s [.int .i64 a] []).val=some (p a,[])): Sound Kx n (BI g p):=hs.of fun args objs r hv=>by
 unfold BI at hv
 split at hv
 case h_2=>cases hv
 obtain ⟨h1,h2⟩:=ae hv
 cases h2
 exact h _ h1
def V4 (g: Int→Int→Bool) (p: Int→Int→AV): List AV→List Ob→Br
 | [.int .i64 n, .int .i64 k],[]=> .ite (g n k) (.ret (p n k) []) .fail
 | _,_=> .fail
theorem aaJ {n: Nat} {s: List AV→List Ob→Br} (hs: Sound Kx n s) {g: Int→Int→Bool} {p: Int→Int→AV} (h: ∀ a b,g a b=true→(s [.int .i64 a, .int .i64 b] []).val=some (p a b,[])): Sound Kx n (V4 g p):=hs.of fun args objs r hv=>by
 unfold V4 at hv
 split at hv
 case h_2=>cases hv
 obtain ⟨h1,h2⟩:=ae hv
 cases h2
 exact h _ _ h1
def yrB (y: Int): Bool:=decide (1≤y)&&decide (y≤100000)
theorem PN {y: Int} (h: yrB y=true): 1≤y∧y≤100000:=by unfold yrB at h;rw [Bool.and_eq_true,decide_eq_true_eq,decide_eq_true_eq] at h;exact h
theorem PP: Sound Kx 249 (BI yrB fun y=> .int .i64 (dB y)):=nj aaG fun y h=>by
 obtain ⟨h1,h2⟩:=PN h
 show (Pt y).val=some (.int .i64 (dB y),[])
 have t: ∀ k: Int,Int.tdiv (y - 1) k=(y - 1) / k:=fun k=>Int.tdiv_eq_ediv_of_nonneg (by omega)
 unfold Pt dB
 rw [w64 (n:=y - 1) (by omega) (by omega),w64 (n:=y - 1970) (by omega) (by omega),t 4,t 100,t 400]
 simp (disch:=omega) only [w64,Br.val]
theorem sa {y: Int} (h: 0≤y) (k: Int): Int.tmod y k=y % k:=Int.tmod_eq_emod_of_nonneg h
theorem Ec: Sound Kx 250 (V4 (fun y _=>yrB y) fun y m=> .int .i64 (iF y m)):=aaJ aaI fun y m h=>by
 obtain ⟨h1,h2⟩:=PN h
 show (Pu y m).val=some (.int .i64 (iF y m),[])
 unfold Pu iF lI
 rw [sa (by omega),sa (by omega),sa (by omega)]
 generalize decide (m=2)=b1
 generalize decide (m=4)=b2
 generalize decide (m=6)=b3
 generalize decide (m=9)=b4
 generalize decide (m=11)=b5
 by_cases c8: y % 400=0
 · rw [dT' c8,dT' (show y % 4=0 by omega)]
   generalize decide (y % 100=0)=b7
   cases b1 <;> cases b2 <;> cases b3 <;> cases b4 <;> cases b5 <;> cases b7 <;> rfl
 · rw [dF' c8]
   generalize decide (y % 4=0)=b6
   generalize decide (y % 100=0)=b7
   cases b1 <;> cases b2 <;> cases b3 <;> cases b4 <;> cases b5 <;> cases b6 <;> cases b7 <;> rfl
theorem BJ: Sound Kx 292 (BI yrB fun y=> .bool (lI y)):=nj T2 fun y h=>by
 obtain ⟨h1,h2⟩:=PN h
 show (w9 y).val=some (.bool (lI y),[])
 unfold w9 lI
 rw [sa (by omega),sa (by omega),sa (by omega)]
 generalize decide (y % 4=0)=b6
 generalize decide (y % 100=0)=b7
 generalize decide (y % 400=0)=b8
 cases b6 <;> cases b7 <;> cases b8 <;> rfl
theorem Ed {n: Int} : bR (n % 10)=[dg n]:=by
 rw [cK,Lib.decDigits,dif_pos (by omega)];rfl
theorem PQ (k: aa→OR'): ∀ (j: Nat) (N: Int) (out: aa) (n: Nat),j < n→0≤N→N≤999999999999999→out.length + j≤1000→nh n N (j: Int) out k=k (aJ j N++out):=by
 intro j;induction j with
 | zero=>intro N out n hn h0 h1 h2;obtain ⟨n,rfl⟩:=bH hn;unfold nh w6;rw [dF' (by simp)];rfl
 | succ j ih=>
   intro N out n hn h0 h1 h2;obtain ⟨n,rfl⟩:=bH hn
   have e0: decide ((0 : Int) < ((j + 1 : Nat): Int))=true:=dT' (by omega)
   have e1: bw (N % 10)=true:=by unfold bw;rw [dT' (by omega),dT' (by omega)];rfl
   have e2: Int.tdiv N 10=N / 10:=Int.tdiv_eq_ediv_of_nonneg h0
   have e3: decide (([dg N].length + out.length)≤9223372036854775807)=true:=dT' (by simp only [List.length_singleton];omega)
   have e4: ad (((j + 1 : Nat): Int) - 1)=(j: Int):=by rw [w64 (by omega) (by omega)];omega
   unfold nh w6
   rw [sa h0,Ed,e2,w64 (n:=N / 10) (by omega) (by omega),e4]
   simp only [e0,e1,e3,cond_true]
   rw [ih (N / 10) ([dg N]++out) n (by omega) (by omega) (by omega) (by simp only [List.length_append,List.length_singleton];omega)]
   rw [show aJ (j + 1) N=aJ j (N / 10)++[dg N] from rfl,List.append_assoc]
def dgB (n k: Int): Bool:=bw n&&(decide (0≤k)&&decide (k≤100))
theorem T7 {n: Int} (h: bw n=true): 0≤n∧n≤999999999999999:=by unfold bw at h;rw [Bool.and_eq_true,decide_eq_true_eq,decide_eq_true_eq] at h;exact h
theorem pF: Sound Kx 254 (V4 dgB fun n k=> .str (aJ k.toNat n)):=by
 refine (Py (φ:=fun n k=> .ite (dgB n k) (.ret (.str (aJ k.toNat n)) []) .fail) (fun _ k=>k.toNat + 1) fun n k r h=>?_).of fun args objs r h=>?_
 · obtain ⟨h1,h2⟩:=ae h
   cases h2
   unfold dgB at h1
   rw [Bool.and_eq_true,Bool.and_eq_true,decide_eq_true_eq,decide_eq_true_eq] at h1
   obtain ⟨g1,g2⟩:=T7 h1.1
   unfold H7
   have e: k=((k.toNat: Nat): Int):=by omega
   have:=PQ (fun x=>some (.str x,[])) k.toNat n [] (k.toNat + 1) (by omega) g1 g2 (by simp only [List.length_nil];omega)
   rw [← e,List.append_nil] at this
   exact this
 · unfold V4 at h;split at h
   · exact h
   · cases h
def vl: List aa:=[[77,111,110,100,97,121],[84,117,101,115,100,97,121],[87,101,100,110,101,115,100,97,121],[84,104,117,114,115,100,97,121],[70,114,105,100,97,121],[83,97,116,117,114,100,97,121],[83,117,110,100,97,121]]
def monL: List aa:=[[74,97,110],[70,101,98],[77,97,114],[65,112,114],[77,97,121],[74,117,110],[74,117,108],[65,117,103],[83,101,112],[79,99,116],[78,111,118],[68,101,99]]
def ace (l: List aa): List AV→List Ob→Br
 | [],[]=> .ret (.ref 0 0) [.arr .str 0 false l]
 | _,_=> .fail
theorem sc: Sound Kx 252 (ace vl):=iDays_ok.of fun args objs r h=>by
 unfold ace at h;split at h
 · rw [← h];rfl
 · cases h
theorem lT: Sound Kx 245 (ace monL):=iMons_ok.of fun args objs r h=>by
 unfold ace at h;split at h
 · rw [← h];rfl
 · cases h
theorem sd: Sound Kx 216 (BI (fun _=>true) fun k=> .str (cP k)):=nj T3 fun k h=>by
 show (w_ k).val=some (.str (cP k),[])
 unfold w_ cP
 generalize decide (k=0)=b0
 generalize decide (k=1)=b1
 generalize decide (k=2)=b2
 generalize decide (k=3)=b3
 generalize decide (k=4)=b4
 generalize decide (k=5)=b5
 cases b0 <;> cases b1 <;> cases b2 <;> cases b3 <;> cases b4 <;> cases b5 <;> rfl
def moB (m: Int): Bool:=decide (1≤m)&&decide (m≤12)
theorem aaK {m: Int} (h: moB m=true): 1≤m∧m≤12:=by unfold moB at h;rw [Bool.and_eq_true,decide_eq_true_eq,decide_eq_true_eq] at h;exact h
theorem lU: Sound Kx 214 (BI moB fun m=> .str (cw m)):=nj T4 fun m h=>by
 obtain ⟨h1,h2⟩:=aaK h
 show (xa m).val=some (.str (cw m),[])
 unfold xa
 rw [w64 (n:=3 * m) (by omega) (by omega),w64 (n:=3 * m - 3) (by omega) (by omega)]
 have e1: decide ((0 : Int)≤3 * m - 3)=true:=dT' (by omega)
 have e2: decide (3 * m - 3≤3 * m)=true:=dT' (by omega)
 have e3: decide (3 * m≤36)=true:=dT' (by omega)
 simp only [Br.val,e1,e2,e3]
 rfl
theorem Ih: ∀ k: Nat,aJ k 0=List.replicate k 48
 | 0=>rfl
 | k + 1=>by
   unfold aJ
   rw [show (0 : Int) / 10=0 from rfl,Ih k,List.replicate_succ']
   rfl
theorem PR: ∀ (k: Nat) (n: Int),1≤k→0≤n→n < 10 ^ k→aJ k n=List.replicate (k - (bR n).length) 48++bR n
 | 0,n,h,_,_=>by omega
 | k + 1,n,h,h0,h1=>by
   by_cases c: n < 10
   · have e: bR n=[dg n]:=by
      have:=Ed (n:=n)
      rw [show n % 10=n by omega] at this
      exact this
     unfold aJ
     rw [show n / 10=0 by omega,Ih,e]
     rfl
   · have e: bR n=bR (n / 10)++[dg n]:=by
      rw [cK,cK,Lib.decDigits,dif_neg (by omega)]
      have t: n.toNat / 10=(n / 10).toNat:=by omega
      rw [t]
      congr 2
      unfold dg
      congr 1
      omega
     have hk: 1≤k:=by
      rcases Nat.eq_zero_or_pos k with rfl | hk
      · simp at h1;omega
      · exact hk
     have ih:=PR k (n / 10) hk (by omega) (by rw [Int.pow_succ] at h1;omega)
     unfold aJ
     rw [ih,e,List.append_assoc,List.length_append,List.length_singleton,show k + 1 - ((bR (n / 10)).length + 1)=k - (bR (n / 10)).length by omega]
theorem PS (k: Nat) (hk: k≤100) (K: aa→OR'): ∀ (j: Nat) (s: aa) (n: Nat),k - s.length=j→j < n→s.length≤1000→kI n (k: Int) s K=K (List.replicate (k - s.length) 48++s):=by
 intro j;induction j with
 | zero=>
   intro s n hj hn hs;obtain ⟨n,rfl⟩:=bH hn;unfold kI xb
   rw [dF' (by omega),cond_false,hj];rfl
 | succ j ih=>
   intro s n hj hn hs;obtain ⟨n,rfl⟩:=bH hn
   have e0: decide ((s.length: Int) < (k: Int))=true:=dT' (by omega)
   have e1: decide (1 + s.length≤9223372036854775807)=true:=dT' (by omega)
   unfold kI xb
   rw [e0,e1,cond_true,cond_true]
   show kI n (k: Int) ([48]++s) K=_
   rw [ih ([48]++s) n (by simp only [List.length_append,List.length_singleton];omega) (by omega) (by simp only [List.length_append,List.length_singleton];omega)]
   congr 1
   rw [List.length_append,List.length_singleton,show k - s.length=(k - (1 + s.length)) + 1 by omega,List.replicate_succ',List.append_assoc]
def pdB (n k: Int): Bool:=bif decide (k=2) then decide (0≤n)&&decide (n≤99) else bif decide (k=4) then decide (0≤n)&&decide (n≤9999) else false
theorem aaL {n k: Int} (h: pdB n k=true): (k=2∧0≤n∧n≤99)∨(k=4∧0≤n∧n≤9999):=by
 unfold pdB at h
 by_cases c: k=2
 · rw [dT' c,cond_true,Bool.and_eq_true,decide_eq_true_eq,decide_eq_true_eq] at h
   exact .inl ⟨c,h⟩
 · by_cases c4: k=4
   · rw [dF' c,dT' c4,cond_false,cond_true,Bool.and_eq_true,decide_eq_true_eq,decide_eq_true_eq] at h
     exact .inr ⟨c4,h⟩
   · rw [dF' c,dF' c4] at h;cases h
theorem pG: Sound Kx 218 (V4 pdB fun n k=> .str (aJ k.toNat n)):=by
 refine (PI (φ:=fun n k=> .ite (pdB n k) (.ret (.str (aJ k.toNat n)) []) .fail) (fun _ k=>k.toNat + 1) fun n k r h=>?_).of fun args objs r h=>?_
 · obtain ⟨h1,h2⟩:=ae h
   cases h2
   have g:=aaL h1
   have e15: bw n=true:=by unfold bw;rw [dT' (by omega),dT' (by omega)];rfl
   have hp: aJ k.toNat n=List.replicate (k.toNat - (bR n).length) 48++bR n:=PR _ _ (by omega) (by omega) (by rcases g with ⟨rfl,_,_⟩ | ⟨rfl,_,_⟩ <;> simp <;> omega)
   have hl: (bR n).length≤15:=by rw [cK];exact rq _ (by omega)
   have e: k=((k.toNat: Nat): Int):=by omega
   unfold Id
   rw [e15,cond_true,hp]
   have:=PS k.toNat (by omega) (fun x=>some (.str x,[])) _ (bR n) (k.toNat + 1) rfl (by omega) (by omega)
   rw [← e] at this
   exact this
 · unfold V4 at h;split at h
   · exact h
   · cases h
def oS: Nat→Int→aa→Int×aa
 | _,n,[]=>(n,[])
 | j,n,c::r=>bif am (by8 c) then (bif decide (j < 9) then oS (j + 1) (10 * n + (by8 c - 48)) r else (n,c::r)) else (n,c::r)
theorem xd: ∀ (r: aa) (j: Nat) (n: Int),dX (some (n,j)) r=(oS j n r).1::dX none (oS j n r).2
 | [],j,n=>rfl
 | c::r,j,n=>by
   unfold oS
   cases hd: am (by8 c)
   · simp only [dX,hd,cond_false]
   · by_cases h9: j < 9
     · simp only [dX,hd,cond_true,dT' h9]
       exact xd r (j + 1) _
     · simp only [dX,hd,cond_true,dF' h9,cond_false]
theorem Ee: ∀ (r: aa) (j: Nat) (n: Int),∃ p,r=p++(oS j n r).2
 | [],j,n=>⟨[],rfl⟩
 | c::r,j,n=>by
   unfold oS
   cases hd: am (by8 c)
   · exact ⟨[],rfl⟩
   · by_cases h9: j < 9
     · rw [dT' h9]
       obtain ⟨p,hp⟩:=Ee r (j + 1) (10 * n + (by8 c - 48))
       exact ⟨c::p,by rw [cond_true,cond_true,List.cons_append,← hp]⟩
     · rw [dF' h9];exact ⟨[],rfl⟩
theorem BK {c: UInt8} (h: am (by8 c)=true): 48≤by8 c∧by8 c≤57:=by
 unfold am at h;rw [Bool.and_eq_true,decide_eq_true_eq,decide_eq_true_eq] at h;exact h
theorem acU {j: Nat} (h: j≤9): (10 : Int) ^ j≤1000000000:=by
 have: j=0∨j=1∨j=2∨j=3∨j=4∨j=5∨j=6∨j=7∨j=8∨j=9:=by omega
 rcases this with rfl | rfl | rfl | rfl | rfl | rfl | rfl | rfl | rfl | rfl <;> decide
theorem w8d {n: Int} (h0: 0≤n) (h1: n≤255): wk8 n=n:=w8 (by omega) (by omega)
theorem Ef (s: aa) (hl: s.length≤4611686018427387904) (i: Int) (out: List Int) (K: aa→Int→Int→Int→List Int→OR'): ∀ (r: aa) (j: Nat) (n k: Int) (m: Nat),At s k r→k=i + j→0≤i→r.length < m→j≤9→0≤n→n < 10 ^ j→
 jx m s i k n out K=K s i ((s.length: Int) - (oS j n r).2.length) (oS j n r).1 out:=by
 intro r;induction r with
 | nil=>
   intro j n k m h hk hi hm hj h0 h1;obtain ⟨m,rfl⟩:=bH hm;unfold jx pE
   rw [h.dge,cond_false]
   have:=h.ge
   show K s i k n out=K s i ((s.length: Int) - (([]: aa).length: Int)) n out
   rw [this];simp
 | cons c r ih=>
   intro j n k m h hk hi hm hj h0 h1;obtain ⟨m,rfl⟩:=bH hm
   simp only [List.length_cons] at hm
   have hle:=h.le
   simp only [List.length_cons] at hle
   have hp:=acU hj
   unfold jx pE oS
   simp only [h.dlt,h.dnn,h.str,cond_true]
   cases hd: am (by8 c)
   · simp only [cond_false]
     congr 1
     simp only [List.length_cons];omega
   · obtain ⟨d0,d1⟩:=BK hd
     rw [w64 (n:=k - i) (by omega) (by omega),w8d (by omega) (by omega),w64 (n:=by8 c - 48) (by omega) (by omega),w64 (n:=10 * n) (by omega) (by omega),w64 (n:=10 * n + (by8 c - 48)) (by omega) (by omega),h.next hl]
     by_cases h9: j < 9
     · rw [dT' h9,dT' (show k - i < 9 by omega)]
       simp only [cond_true]
       exact ih (j + 1) _ (k + 1) m h.step (by omega) hi (by omega) (by omega) (by omega) (by rw [Int.pow_succ];omega)
     · rw [dF' h9,dF' (show ¬ k - i < 9 by omega)]
       simp only [cond_true,cond_false]
       congr 1
       simp only [List.length_cons];omega
theorem Eg (M: Nat) (s: aa) (hl: s.length≤1000000) (K: List Int→OR'): ∀ (u: Nat) (r: aa) (i: Int) (out: List Int) (n: Nat),r.length≤u→At s i r→u < n→s.length < M→out.length + r.length≤1000000→
 io M n s i out K=K (out++dX none r):=by
 intro u;induction u with
 | zero=>
   intro r i out n hu h hn hN ho;obtain ⟨n,rfl⟩:=bH hn
   obtain rfl: r=[]:=List.length_eq_zero_iff.1 (by omega)
   unfold io lS
   rw [h.dge,cond_false];simp [dX]
 | succ u ih=>
   intro r i out n hu h hn hN ho;obtain ⟨n,rfl⟩:=bH hn
   cases r with
   | nil=>unfold io lS;rw [h.dge,cond_false];simp [dX]
   | cons c r=>
     have hle:=h.le
     have hnn:=h.nn
     unfold io lS
     rw [h.dlt,cond_true,Ef s (by omega) i out _ (c::r) 0 0 i M h (by simp) hnn (by simp only [List.length_cons] at hle ⊢;omega) (by omega) (by omega) (by decide)]
     simp only [List.length_cons] at hle hu ho
     cases hd: am (by8 c)
     · have e: oS 0 0 (c::r)=(0,c::r):=by unfold oS;rw [hd];rfl
       have e2: dX none (c::r)=dX none r:=by simp only [dX,hd,cond_false]
       rw [e,e2]
       simp only [List.length_cons]
       rw [dF' (show ¬ i < (s.length: Int) - ((r.length + 1 : Nat): Int) by omega),cond_false,h.next (by omega)]
       exact ih r (i + 1) out n (by omega) h.step (by omega) hN (by omega)
     · have e: oS 0 0 (c::r)=oS 1 (10 * 0 + (by8 c - 48)) r:=by
        rw [oS];rw [hd];rfl
       have e2: dX none (c::r)=(oS 0 0 (c::r)).1::dX none (oS 0 0 (c::r)).2:=by
        rw [e,← xd]
        simp only [dX,hd,cond_true]
        rw [show 10 * 0 + (by8 c - 48)=by8 c - 48 by omega]
       obtain ⟨p,hp⟩:=Ee r 1 (10 * 0 + (by8 c - 48))
       rw [← e] at hp
       have hpl: r.length=p.length + (oS 0 0 (c::r)).2.length:=by rw [← List.length_append,← hp]
       rw [e2]
       generalize (oS 0 0 (c::r)).1=v at *
       generalize hq: (oS 0 0 (c::r)).2=q at *
       have hs: At s ((s.length: Int) - (q.length: Int)) q:=by
        obtain ⟨z,hz,hzi⟩:=h
        refine ⟨z++c::p,?_,?_⟩
        · rw [hz,hp];simp
        · rw [hz,hp];simp;omega
       have e4: List.set (List.replicate (1 : Nat) (0 : Int)) 0 v=[v]:=rfl
       have e5: decide ((out.length + [v].length) * 8≤140737488355328)=true:=dT' (by simp only [List.length_singleton];omega)
       simp only [e4,e5]
       rw [dT' (show i < (s.length: Int) - (q.length: Int) by omega),cond_true,cond_true,w64 (n:=(s.length: Int) - (q.length: Int) - 1) (by omega) (by omega),
        show (s.length: Int) - (q.length: Int) - 1 + 1=(s.length: Int) - (q.length: Int) by omega,w64 (n:=(s.length: Int) - (q.length: Int)) (by omega) (by omega)]
       refine (ih q _ (out++[v]) n (by omega) hs (by omega) hN (by simp only [List.length_append,List.length_singleton];omega)).trans ?_
       rw [List.append_assoc];rfl
def V5: List AV→List Ob→Br
 | [.str s],[]=> .ite (decide (s.length≤100000)) (.ret (.ref 0 0) [.arr (.int .i64) 0 false (bN s)]) .fail
 | _,_=> .fail
theorem PT: Sound Kx 205 V5:=by
 refine (KU (φ:=fun s=> .ite (decide (s.length≤100000)) (.ret (.ref 0 0) [.arr (.int .i64) 0 false (bN s)]) .fail) (fun s=>s.length + 1) fun s r h=>?_).of fun args objs r h=>?_
 · obtain ⟨h1,h2⟩:=ae h
   cases h2
   rw [decide_eq_true_eq] at h1
   unfold BG
   exact Eg (s.length + 1) s (by omega) _ s.length s 0 [] (s.length + 1) (Nat.le_refl _) (At.start s) (by omega) (by omega) (by simp only [List.length_nil];omega)
 · unfold V5 at h;split at h
   · exact h
   · cases h
theorem acV {j: Nat} (h: j≤12): (10 : Int) ^ j≤1000000000000:=by
 have: j=0∨j=1∨j=2∨j=3∨j=4∨j=5∨j=6∨j=7∨j=8∨j=9∨j=10∨j=11∨j=12:=by omega
 rcases this with rfl | rfl | rfl | rfl | rfl | rfl | rfl | rfl | rfl | rfl | rfl | rfl | rfl <;> decide
theorem PU (s: aa) (z: OR') (K: Int→OR'): ∀ (r: aa) (j: Nat) (i v: Int) (n: Nat),At s i r→r.length < n→j + r.length≤12→s.length≤12→0≤v→v < 10 ^ j→
 ni n s v i (fun _=>z) K=bif aH ik r then K (Zf r v) else z:=by
 intro r;induction r with
 | nil=>intro j i v n h hn hj hl h0 h1;obtain ⟨n,rfl⟩:=bH hn;unfold ni xc;rw [h.dge,cond_false];rfl
 | cons c r ih=>
   intro j i v n h hn hj hl h0 h1;obtain ⟨n,rfl⟩:=bH hn
   simp only [List.length_cons] at hn hj
   have hp:=acV (j:=j) (by omega)
   unfold ni xc
   simp only [h.dlt,h.dnn,h.str,cond_true,h.next (show s.length≤4611686018427387904 by omega)]
   have ea: aH ik (c::r)=(ik (by8 c)&&aH ik r):=rfl
   have ef: Zf (c::r) v=Zf r (cB v c):=rfl
   rw [ea,ef]
   by_cases c32: by8 c=32
   · have e1: ik (by8 c)=true:=by unfold ik;rw [dT' c32];rfl
     have e2: cB v c=v * 10:=by unfold cB;rw [dT' c32];rfl
     rw [dT' c32,cond_true,e1,e2,w64 (n:=v * 10) (by omega) (by omega),Bool.true_and]
     exact ih (j + 1) (i + 1) (v * 10) n h.step (by omega) (by omega) hl (by omega) (by rw [Int.pow_succ];omega)
   · have e1: ik (by8 c)=am (by8 c):=by unfold ik;rw [dF' c32];rfl
     have e2: cB v c=v * 10 + (by8 c - 48):=by unfold cB;rw [dF' c32];rfl
     rw [dF' c32,cond_false,e1,e2]
     cases hd: am (by8 c)
     · rfl
     · obtain ⟨d0,d1⟩:=BK hd
       rw [w8d (by omega) (by omega),w64 (n:=by8 c - 48) (by omega) (by omega),w64 (n:=v * 10) (by omega) (by omega),w64 (n:=v * 10 + (by8 c - 48)) (by omega) (by omega),Bool.true_and]
       exact ih (j + 1) (i + 1) _ n h.step (by omega) (by omega) hl (by omega) (by rw [Int.pow_succ];omega)
def aaM: List AV→List Ob→Br
 | [.str s],[]=> .ite (decide (s.length≤12)) (.ret (.int .i64 (dI s)) []) .fail
 | _,_=> .fail
theorem Ii: Sound Kx 153 aaM:=by
 refine (PM (φ:=fun s=> .ite (decide (s.length≤12)) (.ret (.int .i64 (dI s)) []) .fail) (fun s=>s.length + 1) fun s r h=>?_).of fun args objs r h=>?_
 · obtain ⟨h1,h2⟩:=ae h
   cases h2
   rw [decide_eq_true_eq] at h1
   unfold If dI
   refine (PU s _ _ s 0 0 0 (s.length + 1) (At.start s) (by omega) (by omega) h1 (by omega) (by decide)).trans ?_
   cases aH ik s <;> rfl
 · unfold aaM at h;split at h
   · exact h
   · cases h
theorem PW: ∀ (r: aa) (j: Nat) (v: Int),aH ik r=true→0≤v→v < 10 ^ j→0≤Zf r v∧Zf r v < 10 ^ (j + r.length)
 | [],j,v,_,h0,h1=>⟨h0,h1⟩
 | c::r,j,v,ha,h0,h1=>by
   have ea: aH ik (c::r)=(ik (by8 c)&&aH ik r):=rfl
   rw [ea,Bool.and_eq_true] at ha
   have hb: 0≤cB v c∧cB v c < 10 ^ (j + 1):=by
    unfold cB
    rw [Int.pow_succ]
    by_cases c32: by8 c=32
    · rw [dT' c32,cond_true];omega
    · have hd:=ha.1
      unfold ik at hd
      rw [dF' c32,Bool.false_or] at hd
      obtain ⟨d0,d1⟩:=BK hd
      rw [dF' c32,cond_false];omega
   have:=PW r (j + 1) (cB v c) ha.2 hb.1 hb.2
   rw [show j + (c::r).length=j + 1 + r.length by simp only [List.length_cons];omega]
   exact this
theorem Yc (s: aa) (h: s.length≤4): -1≤dI s∧dI s≤9999:=by
 unfold dI
 cases ha: aH ik s
 · rw [cond_false];omega
 · rw [cond_true]
   obtain ⟨h0,h1⟩:=PW s 0 0 ha (by omega) (by decide)
   have: s.length=0∨s.length=1∨s.length=2∨s.length=3∨s.length=4:=by omega
   rcases this with e | e | e | e | e <;> rw [e] at h1 <;> simp at h1 <;> omega
theorem V6: ∀ (r: aa) (j: Nat) (n: Int),j≤9→0≤n→n < 10 ^ j→0≤(oS j n r).1∧(oS j n r).1 < 1000000000
 | [],j,n,hj,h0,h1=>by have:=acU hj;exact ⟨h0,by show n < _;omega⟩
 | c::r,j,n,hj,h0,h1=>by
   have hp:=acU hj
   unfold oS
   cases hd: am (by8 c)
   · exact ⟨h0,by show n < _;omega⟩
   · obtain ⟨d0,d1⟩:=BK hd
     by_cases h9: j < 9
     · rw [dT' h9]
       exact V6 r (j + 1) _ (by omega) (by omega) (by rw [Int.pow_succ];omega)
     · rw [dF' h9];exact ⟨h0,by show n < _;omega⟩
theorem Eh: ∀ (u: Nat) (r: aa),r.length≤u→∀ x ∈ dX none r,0≤x∧x < 1000000000
 | 0,r,hu,x,hx=>by
   obtain rfl: r=[]:=List.length_eq_zero_iff.1 (by omega)
   simp [dX] at hx
 | u + 1,[],hu,x,hx=>by simp [dX] at hx
 | u + 1,c::r,hu,x,hx=>by
   simp only [List.length_cons] at hu
   cases hd: am (by8 c)
   · have e2: dX none (c::r)=dX none r:=by simp only [dX,hd,cond_false]
     rw [e2] at hx
     exact Eh u r (by omega) x hx
   · obtain ⟨d0,d1⟩:=BK hd
     have e2: dX none (c::r)=(oS 1 (by8 c - 48) r).1::dX none (oS 1 (by8 c - 48) r).2:=by
      rw [← xd];simp only [dX,hd,cond_true]
     rw [e2] at hx
     rcases List.mem_cons.1 hx with rfl | hx
     · exact V6 r 1 _ (by omega) (by omega) (by omega)
     · obtain ⟨p,hp⟩:=Ee r 1 (by8 c - 48)
       have hpl: r.length=p.length + (oS 1 (by8 c - 48) r).2.length:=by rw [← List.length_append,← hp]
       exact Eh u _ (by omega) x hx
theorem T8 (s: aa) (i: Nat): 0≤(bN s).getD i 0∧(bN s).getD i 0 < 1000000000:=by
 by_cases h: i < (bN s).length
 · rw [List.getD_eq_getElem?_getD,List.getElem?_eq_getElem h]
   exact Eh _ s (Nat.le_refl _) _ (List.getElem_mem h)
 · rw [List.getD_eq_getElem?_getD,List.getElem?_eq_none (by omega)];decide
def Yd: SC:=[⟨292,_,BJ⟩]
def xe (y m: Int): Br:=(.ite (decide (m=2)) (.ite (yrB y) (.ite (lI y) (.ret (AV.int .i64 29) []) (.ret (AV.int .i64 28) [])) .fail) (.ite (decide (m=4)) (.ret (AV.int .i64 30) []) (.ite (decide (m=6)) (.ret (AV.int .i64 30) []) (.ite (decide (m=9)) (.ret (AV.int .i64 30) []) (.ite (decide (m=11)) (.ret (AV.int .i64 30) []) (.ret (AV.int .i64 31) []))))))
def PX: List AV→List Ob→Br
 | [.int .i64 y, .int .i64 m],[]=>xe y m
 | _,_=> .fail
theorem T9: Sound Kx 258 PX:=ac (C:=Yd) (O:=O0) Tryz.func258 (by kernel_rfl) fun args objs=>by
 unfold PX;split
 · exact .inr (by kernel_rfl)
 · exact .inl rfl
def Ye: SC:=[⟨292,_,BJ⟩]
def xf (y: Int): Br:=(.ite (yrB y) (.ite (lI y) (.ret (AV.int .i64 366) []) (.ret (AV.int .i64 365) [])) .fail)
def PY: List AV→List Ob→Br
 | [.int .i64 y],[]=>xf y
 | _,_=> .fail
theorem T_: Sound Kx 257 PY:=ac (C:=Ye) (O:=O0) Tryz.func257 (by kernel_rfl) fun args objs=>by
 unfold PY;split
 · exact .inr (by kernel_rfl)
 · exact .inl rfl
def Ua: Opt:={ split:=true }
def Ub: SC:=[⟨201,_,dc⟩,⟨250,_,Ec⟩]
def se (y m d h i s: Int): Br:=(.ite (decide (1970≤y)) (.ite (decide (y≤9999)) (.ite (decide (1≤m)) (.ite (decide (m≤12)) (.ite (yrB y) (.ite (decide (1≤d)) (.ite (decide (d≤(iF y m))) (.ite (decide (0≤h)) (.ite (decide (h≤23)) (.ite (decide (0≤i)) (.ite (decide (i≤59)) (.ite (decide (0≤s)) (.ite (decide (s≤59)) (.ret (AV.bool true) []) (.ret (AV.bool false) [])) (.ret (AV.bool false) [])) (.ret (AV.bool false) [])) (.ret (AV.bool false) [])) (.ret (AV.bool false) [])) (.ret (AV.bool false) [])) (.ret (AV.bool false) [])) (.ret (AV.bool false) [])) .fail) (.ret (AV.bool false) [])) (.ret (AV.bool false) [])) (.ret (AV.bool false) [])) (.ret (AV.bool false) []))
def Ij: List AV→List Ob→Br
 | [.agg [.int .i64 y, .int .i64 m, .int .i64 d, .int .i64 h, .int .i64 i, .int .i64 s]],[]=>se y m d h i s
 | _,_=> .fail
theorem PZ: Sound Kx 248 Ij:=ac (C:=Ub) (O:=Ua) Tryz.func248 (by kernel_rfl) fun args objs=>by
 unfold Ij;split
 · exact .inr (by kernel_rfl)
 · exact .inl rfl
def acW: SC:=[⟨130,_,iW⟩]
def P0 (t: Int): Br:=(.ite (!(dZ t)) (.ret (AV.int .i64 (-1)) []) (.ret (AV.int .i64 (Int.tmod (ad ((ad (Int.tdiv t 86400)) + 3)) 7)) []))
def aaN: List AV→List Ob→Br
 | [.int .i64 t],[]=>P0 t
 | _,_=> .fail
theorem aaO: Sound Kx 253 aaN:=ac (C:=acW) (O:=O0) Tryz.func253 (by kernel_rfl) fun args objs=>by
 unfold aaN;split
 · exact .inr (by kernel_rfl)
 · exact .inl rfl
def acX: SC:=[⟨95,_,rZ⟩]
def P2 (t: Int): Br:=(.ite (!(dZ t)) (.ret (AV.int .i64 (-1)) []) (.ret (AV.int .i64 (Int.tmod (ad ((ad (Int.tdiv t 86400)) + 3)) 7)) []))
def aaP: List AV→List Ob→Br
 | [.int .i64 t],[]=>P2 t
 | _,_=> .fail
theorem aaQ: Sound Kx 217 aaP:=ac (C:=acX) (O:=O0) Tryz.func217 (by kernel_rfl) fun args objs=>by
 unfold aaP;split
 · exact .inr (by kernel_rfl)
 · exact .inl rfl
def aaR: SC:=[⟨254,_,pF⟩]
def Ei (y m d h i s: Int): Br:=(.ite (dgB h 2) (.ite (decide (((List.length (aJ 2 h)) + 1)≤9223372036854775807)) (.ite (dgB i 2) (.ite (decide (((List.length ((aJ 2 h)++([58]: aa))) + (List.length (aJ 2 i)))≤9223372036854775807)) (.ite (decide (((List.length (((aJ 2 h)++([58]: aa))++(aJ 2 i))) + 1)≤9223372036854775807)) (.ite (dgB s 2) (.ite (decide (((List.length ((((aJ 2 h)++([58]: aa))++(aJ 2 i))++([58]: aa))) + (List.length (aJ 2 s)))≤9223372036854775807)) (.ret (AV.str (((((aJ 2 h)++([58]: aa))++(aJ 2 i))++([58]: aa))++(aJ 2 s))) []) .fail) .fail) .fail) .fail) .fail) .fail) .fail)
def V7: List AV→List Ob→Br
 | [.agg [.int .i64 y, .int .i64 m, .int .i64 d, .int .i64 h, .int .i64 i, .int .i64 s]],[]=>Ei y m d h i s
 | _,_=> .fail
theorem Yf: Sound Kx 255 V7:=ac (C:=aaR) (O:=O0) Tryz.func255 (by kernel_rfl) fun args objs=>by
 unfold V7;split
 · exact .inr (by kernel_rfl)
 · exact .inl rfl
def aaS: SC:=[⟨218,_,pG⟩]
def Ej (y m d h i s: Int): Br:=(.ite (pdB h 2) (.ite (decide (((List.length (aJ 2 h)) + 1)≤9223372036854775807)) (.ite (pdB i 2) (.ite (decide (((List.length ((aJ 2 h)++([58]: aa))) + (List.length (aJ 2 i)))≤9223372036854775807)) (.ite (decide (((List.length (((aJ 2 h)++([58]: aa))++(aJ 2 i))) + 1)≤9223372036854775807)) (.ite (pdB s 2) (.ite (decide (((List.length ((((aJ 2 h)++([58]: aa))++(aJ 2 i))++([58]: aa))) + (List.length (aJ 2 s)))≤9223372036854775807)) (.ret (AV.str (((((aJ 2 h)++([58]: aa))++(aJ 2 i))++([58]: aa))++(aJ 2 s))) []) .fail) .fail) .fail) .fail) .fail) .fail) .fail)
def V8: List AV→List Ob→Br
 | [.agg [.int .i64 y, .int .i64 m, .int .i64 d, .int .i64 h, .int .i64 i, .int .i64 s]],[]=>Ej y m d h i s
 | _,_=> .fail
theorem Yg: Sound Kx 219 V8:=ac (C:=aaS) (O:=O0) Tryz.func219 (by kernel_rfl) fun args objs=>by
 unfold V8;split
 · exact .inr (by kernel_rfl)
 · exact .inl rfl
theorem sf: Sound Kx 258 (V4 (fun y _=>yrB y) fun y m=> .int .i64 (iF y m)):=aaJ T9 fun y m h=>by
 show (xe y m).val=some (.int .i64 (iF y m),[])
 unfold xe iF
 rw [h]
 generalize decide (m=2)=b1
 generalize decide (m=4)=b2
 generalize decide (m=6)=b3
 generalize decide (m=9)=b4
 generalize decide (m=11)=b5
 generalize lI y=b6
 cases b1 <;> cases b2 <;> cases b3 <;> cases b4 <;> cases b5 <;> cases b6 <;> rfl
theorem BL: Sound Kx 257 (BI yrB fun y=> .int .i64 (pm y)):=nj T_ fun y h=>by
 show (xf y).val=some (.int .i64 (pm y),[])
 unfold xf pm
 rw [h]
 cases lI y <;> rfl
def cvM (y m d h i s: Int): Cv:=⟨y,m,d,h,i,s⟩
def RU (g: Cv→Bool) (p: Cv→AV): List AV→List Ob→Br
 | [.agg [.int .i64 y, .int .i64 m, .int .i64 d, .int .i64 h, .int .i64 i, .int .i64 s]],[]=> .ite (g (cvM y m d h i s)) (.ret (p (cvM y m d h i s)) []) .fail
 | _,_=> .fail
theorem Uc {n: Nat} {f: List AV→List Ob→Br} (hs: Sound Kx n f) {g: Cv→Bool} {p: Cv→AV} (h: ∀ y m d h i s,g ⟨y,m,d,h,i,s⟩=true→(f [.agg [.int .i64 y, .int .i64 m, .int .i64 d, .int .i64 h, .int .i64 i, .int .i64 s]] []).val=some (p ⟨y,m,d,h,i,s⟩,[])): Sound Kx n (RU g p):=hs.of fun args objs r hv=>by
 unfold RU at hv
 split at hv
 case h_2=>cases hv
 obtain ⟨h1,h2⟩:=ae hv
 cases h2
 exact h _ _ _ _ _ _ h1
theorem KV: Sound Kx 248 (RU (fun _=>true) fun c=> .bool (ce c)):=Uc PZ fun y m d h i s _=>by
 show (se y m d h i s).val=some (.bool (ce ⟨y,m,d,h,i,s⟩),[])
 unfold se ce
 by_cases c1: 1970≤y
 · by_cases c2: y≤9999
   · have e: yrB y=true:=by unfold yrB;rw [dT' (by omega),dT' (by omega)];rfl
     rw [e,dT' c1,dT' c2]
     simp only
     generalize decide (1≤m)=b1
     generalize decide (m≤12)=b2
     generalize decide (1≤d)=b3
     generalize decide (d≤iF y m)=b4
     generalize decide (0≤h)=b5
     generalize decide (h≤23)=b6
     generalize decide (0≤i)=b7
     generalize decide (i≤59)=b8
     generalize decide (0≤s)=b9
     generalize decide (s≤59)=b10
     cases b1; · rfl
     cases b2; · rfl
     cases b3; · rfl
     cases b4; · rfl
     cases b5; · rfl
     cases b6; · rfl
     cases b7; · rfl
     cases b8; · rfl
     cases b9; · rfl
     cases b10 <;> rfl
   · rw [dT' c1,dF' c2];rfl
 · rw [dF' c1];rfl
def wkP (t: Int): Int:=bif dZ t then wdP t else -1
theorem Ek {t: Int} (h: dZ t=true): 0≤t∧t≤253402300799:=by unfold dZ at h;rw [Bool.and_eq_true,decide_eq_true_eq,decide_eq_true_eq] at h;exact h
theorem aaT {t: Int} (h: dZ t=true): Int.tmod (ad ((ad (Int.tdiv t 86400)) + 3)) 7=wdP t:=by
 obtain ⟨h0,h1⟩:=Ek h
 have e: Int.tdiv t 86400=t / 86400:=Int.tdiv_eq_ediv_of_nonneg h0
 rw [e,w64 (n:=t / 86400) (by omega) (by omega),w64 (by omega) (by omega),Int.tmod_eq_emod_of_nonneg (by omega)]
 rfl
theorem El: Sound Kx 253 (BI (fun _=>true) fun t=> .int .i64 (wkP t)):=nj aaO fun t _=>by
 show (P0 t).val=some (.int .i64 (wkP t),[])
 unfold P0 wkP
 cases h: dZ t
 · rfl
 · rw [aaT h];rfl
theorem Em: Sound Kx 217 (BI (fun _=>true) fun t=> .int .i64 (wkP t)):=nj aaQ fun t _=>by
 show (P2 t).val=some (.int .i64 (wkP t),[])
 unfold P2 wkP
 cases h: dZ t
 · rfl
 · rw [aaT h];rfl
theorem xg {c: Cv} (h: ce c=true): (dgB c.h 2=true∧dgB c.i 2=true∧dgB c.s 2=true∧dgB c.d 2=true∧dgB c.y 4=true∧dgB c.y 2=true)∧(pdB c.h 2=true∧pdB c.i 2=true∧pdB c.s 2=true∧pdB c.d 2=true∧pdB c.y 4=true∧pdB (c.y % 100) 2=true):=by
 obtain ⟨h1,h2,h3,h4,h5,h6⟩:=bG h
 have dd: ∀ n k: Int,0≤n→n≤9999→0≤k→k≤4→dgB n k=true:=fun n k a b c d=>by
  unfold dgB bw;rw [dT' a,dT' (by omega),dT' c,dT' (by omega)];rfl
 have p2: ∀ n: Int,0≤n→n≤99→pdB n 2=true:=fun n a b=>by unfold pdB;rw [dT' a,dT' b];rfl
 have p4: ∀ n: Int,0≤n→n≤9999→pdB n 4=true:=fun n a b=>by unfold pdB;rw [dT' a,dT' b];rfl
 refine ⟨⟨dd _ _ ?_ ?_ ?_ ?_,dd _ _ ?_ ?_ ?_ ?_,dd _ _ ?_ ?_ ?_ ?_,dd _ _ ?_ ?_ ?_ ?_,dd _ _ ?_ ?_ ?_ ?_,dd _ _ ?_ ?_ ?_ ?_⟩,p2 _ ?_ ?_,p2 _ ?_ ?_,p2 _ ?_ ?_,p2 _ ?_ ?_,p4 _ ?_ ?_,p2 _ ?_ ?_⟩ <;> omega
theorem xh: Sound Kx 255 (RU ce fun c=> .str (ap c)):=Uc Yf fun y m d h i s hc=>by
 show (Ei y m d h i s).val=some (.str (ap ⟨y,m,d,h,i,s⟩),[])
 obtain ⟨⟨h1,h2,h3,_⟩,_⟩:=xg hc
 simp only at h1 h2 h3
 unfold Ei
 simp only [h1,h2,h3,List.length_append,aW,List.length_cons,List.length_nil,Br.val]
 unfold ap
 simp [List.append_assoc]
theorem xi: Sound Kx 219 (RU ce fun c=> .str (ap c)):=Uc Yg fun y m d h i s hc=>by
 show (Ej y m d h i s).val=some (.str (ap ⟨y,m,d,h,i,s⟩),[])
 obtain ⟨_,h1,h2,h3,_⟩:=xg hc
 simp only at h1 h2 h3
 unfold Ej
 simp only [h1,h2,h3,List.length_append,aW,List.length_cons,List.length_nil,Br.val]
 unfold ap
 simp [List.append_assoc]
def Ud: Opt:={ split:=true }
def Ue: SC:=[⟨258,_,sf⟩]
def sg (y m d h i s: Int): Br:=(.ite (decide (1970≤y)) (.ite (decide (y≤9999)) (.ite (decide (1≤m)) (.ite (decide (m≤12)) (.ite (decide (1≤d)) (.ite (yrB y) (.ite (decide (d≤(iF y m))) (.ite (decide (0≤h)) (.ite (decide (h≤23)) (.ite (decide (0≤i)) (.ite (decide (i≤59)) (.ite (decide (0≤s)) (.ite (decide (s≤59)) (.ret (AV.bool true) []) (.ret (AV.bool false) [])) (.ret (AV.bool false) [])) (.ret (AV.bool false) [])) (.ret (AV.bool false) [])) (.ret (AV.bool false) [])) (.ret (AV.bool false) [])) (.ret (AV.bool false) [])) .fail) (.ret (AV.bool false) [])) (.ret (AV.bool false) [])) (.ret (AV.bool false) [])) (.ret (AV.bool false) [])) (.ret (AV.bool false) []))
def Ik: List AV→List Ob→Br
 | [.agg [.int .i64 y, .int .i64 m, .int .i64 d, .int .i64 h, .int .i64 i, .int .i64 s]],[]=>sg y m d h i s
 | _,_=> .fail
theorem P3: Sound Kx 256 Ik:=ac (C:=Ue) (O:=Ud) Tryz.func256 (by kernel_rfl) fun args objs=>by
 unfold Ik;split
 · exact .inr (by kernel_rfl)
 · exact .inl rfl
def V9: Opt:={ live:=[(5,[1,4,5])],outs:=[(5,[1,2,3,4])] }
def iSec_C: SC:=[⟨248,_,KV⟩,⟨249,_,PP⟩,⟨250,_,Ec⟩]
def xj (aY a8 bc cH dx e8 e9 dj: Int) (kR5: Int→Int→Int→Int→Int→Int→Int→Int→OR') (dh: Int→Int→Int→Int→Int→Int→Int→OR'): OR':=
 (bif (decide (a8 < cH)) then (bif (yrB bc) then (kR5 (ad (aY + (iF bc a8))) (ad (a8 + 1)) bc cH dx e8 e9 dj) else none) else (dh aY bc cH dx e8 e9 dj))
def nk: Nat→Int→Int→Int→Int→Int→Int→Int→Int→(Int→Int→Int→Int→Int→Int→Int→OR')→OR'
 | 0,_,_,_,_,_,_,_,_,_=>none
 | n + 1,aY,a8,bc,cH,dx,e8,e9,dj,dh=>xj aY a8 bc cH dx e8 e9 dj (fun aY a8 bc cH dx e8 e9 dj=>nk n aY a8 bc cH dx e8 e9 dj dh) dh
abbrev iSec_p5: SP:=⟨41,[1,4,5],[(.v (.ptr 128 0)),(.v (.i .i64)),(.v (.i .i64))],[(128, .var [(.i .i64),(.i .i64),(.i .i64),(.i .i64),(.i .i64),(.i .i64)])]⟩
noncomputable def P4: Code:=ar (aC Tryz.f208) [1,1,1,0,1,0,0]
def P5 (f: (Int→Int→Int→Int→Int→Int→Int→OR')→OR') (k: KT): OR':=f (fun ai bJ cy ed dU cZ dV=>k (Ex.exit 0) ((St.mk (aA 0 41 [(1,(AV.ptr 128 0)),(4,(AV.int .i64 ai))]) ((128,(Ob.var [.int .i64 bJ,.int .i64 cy,.int .i64 ed,.int .i64 dU,.int .i64 cZ,.int .i64 dV]))::([]: (List (Nat×(Ob))))))))
def P6 (n: Nat) (d: iSec_p5.D): KT→OR':=P5 (nk n d.1.2.1 d.1.2.2.1 d.2.1.1 d.2.1.2.1 d.2.1.2.2.1 d.2.1.2.2.2.1 d.2.1.2.2.2.2.1 d.2.1.2.2.2.2.2.1)
def V_ (N: Nat): Lam:=bI [⟨5,iSec_p5,P6 N⟩]
theorem Uf (N: Nat): OkL Kx iSec_C.s V9 0 N (V_ N) P4:=okL iSec_p5 (P6) (fun d kR=>P5 (xj d.1.2.1 d.1.2.2.1 d.2.1.1 d.2.1.2.1 d.2.1.2.2.1 d.2.1.2.2.2.1 d.2.1.2.2.2.2.1 d.2.1.2.2.2.2.2.1 (fun aY a8 bc cH dx e8 e9 dj=>kR (((),aY,a8,()),((bc,cH,dx,e8,e9,dj,()),()))))) (fun _ _=>by kernel_rfl) (fun _ _ _=>by kernel_rfl) (fun _ _=>by kernel_rfl) (fun _ _ _ _=>by kernel_rfl) (af (l':=[]) (by kernel_rfl) trivial)
def Il (N: Nat) (y m d h i s: Int): OR':=(bif (!(ce (cvM y m d h i s))) then (some ((AV.tup [.int .i64 0,.bool false]),[])) else (bif (yrB y) then (nk N (ad ((ad ((dB y) + d)) - 1)) 1 y m d h i s (fun ai bJ cy ed dU cZ dV=>(some ((AV.tup [.int .i64 (ad ((ad ((ad ((ad (86400 * ai)) + (ad (3600 * dU)))) + (ad (60 * cZ)))) + dV)),.bool true]),[])))) else none))
def Im (φ: Int→Int→Int→Int→Int→Int→Br): List AV→List Ob→Br
 | [.agg [.int .i64 y, .int .i64 m, .int .i64 d, .int .i64 h, .int .i64 i, .int .i64 s]],[]=>φ y m d h i s
 | _,_=> .fail
theorem P7 {φ: Int→Int→Int→Int→Int→Int→Br} (fu: Int→Int→Int→Int→Int→Int→Nat) (hv: ∀ y m d h i s res_,(φ y m d h i s).val=some res_→Il (fu y m d h i s) y m d h i s=some res_): Sound Kx 208 (Im φ):=ah (C:=iSec_C) (O:=V9) Tryz.func208 (by kernel_rfl) fun args objs=>by
 unfold Im;split
 · rename_i y m d h i s;exact .inr fun _ hyp_=>aL (Λ:=V_ (fu y m d h i s)) (by kernel_rfl) (af (l':=[P4]) (by kernel_rfl) ⟨Uf _,trivial⟩) (by kernel_rfl) (hv y m d h i s _ hyp_)
 · exact .inl rfl
def P8: Opt:={ live:=[(6,[2,3,5]),(3,[2,3,5])],outs:=[(6,[2,3,5]),(3,[2,3,5])] }
def iCiv_C: SC:=[⟨249,_,PP⟩,⟨250,_,Ec⟩]
def xk (ax an bl eR jC jM kV sV vw vx gL gM gO: Int) (kR3 dH: Int→Int→Int→Int→Int→Int→Int→Int→Int→Int→Int→Int→Int→OR'): OR':=
 (bif (yrB (ad (sV + 1))) then (bif (decide ((dB (ad (sV + 1)))≤ax)) then (kR3 ax an bl eR jC jM kV (ad (sV + 1)) vw vx gL gM gO) else (dH ax an bl eR jC jM kV sV vw vx gL gM gO)) else none)
def nl: Nat→Int→Int→Int→Int→Int→Int→Int→Int→Int→Int→Int→Int→Int→(Int→Int→Int→Int→Int→Int→Int→Int→Int→Int→Int→Int→Int→OR')→OR'
 | 0,_,_,_,_,_,_,_,_,_,_,_,_,_,_=>none
 | n + 1,ax,an,bl,eR,jC,jM,kV,sV,vw,vx,gL,gM,gO,dH=>xk ax an bl eR jC jM kV sV vw vx gL gM gO (fun ax an bl eR jC jM kV sV vw vx gL gM gO=>nl n ax an bl eR jC jM kV sV vw vx gL gM gO dH) dH
abbrev iCiv_p3: SP:=⟨58,[2,3,5],[(.v (.ptr 192 0)),(.v (.i .i64)),(.v (.ptr 384 0))],[(192, .var [(.i .i64),(.i .i64),(.i .i64),(.i .i64),(.i .i64),(.i .i64)]),(384, .var [(.i .i64),(.i .i64),(.i .i64),(.i .i64),(.i .i64),(.i .i64)])]⟩
noncomputable def P9: Code:=ar (aC Tryz.f251) [1,1,1,0,0,0]
def P_ (f: (Int→Int→Int→Int→Int→Int→Int→Int→Int→Int→Int→Int→Int→OR')→OR') (k: KT): OR':=f (fun bd gI mh oH IQ IR IS vy IT IU sE sG sH=>k (Ex.exit 0) ((St.mk (aA 0 58 [(2,(AV.ptr 192 0)),(3,(AV.int .i64 bd)),(5,(AV.ptr 384 0))]) ((192,(Ob.var [.int .i64 gI,.int .i64 mh,.int .i64 oH,.int .i64 IQ,.int .i64 IR,.int .i64 IS]))::((384,(Ob.var [.int .i64 vy,.int .i64 IT,.int .i64 IU,.int .i64 sE,.int .i64 sG,.int .i64 sH]))::([]: (List (Nat×(Ob)))))))))
def Qa (n: Nat) (d: iCiv_p3.D): KT→OR':=P_ (nl n d.1.2.1 d.2.1.1 d.2.1.2.1 d.2.1.2.2.1 d.2.1.2.2.2.1 d.2.1.2.2.2.2.1 d.2.1.2.2.2.2.2.1 d.2.2.1.1 d.2.2.1.2.1 d.2.2.1.2.2.1 d.2.2.1.2.2.2.1 d.2.2.1.2.2.2.2.1 d.2.2.1.2.2.2.2.2.1)
def xl (f_ iw kX eM ga Wy Wz Ls RY WA Cj Ck Cl: Int) (kR6 IO: Int→Int→Int→Int→Int→Int→Int→Int→Int→Int→Int→Int→Int→OR'): OR':=
 (bif (yrB Ls) then (bif (decide ((iF Ls RY)≤f_)) then (bif (yrB Ls) then (kR6 (ad (f_ - (iF Ls RY))) iw kX eM ga Wy Wz Ls (ad (RY + 1)) WA Cj Ck Cl) else none) else (IO f_ iw kX eM ga Wy Wz Ls RY WA Cj Ck Cl)) else none)
def np: Nat→Int→Int→Int→Int→Int→Int→Int→Int→Int→Int→Int→Int→Int→(Int→Int→Int→Int→Int→Int→Int→Int→Int→Int→Int→Int→Int→OR')→OR'
 | 0,_,_,_,_,_,_,_,_,_,_,_,_,_,_=>none
 | n + 1,f_,iw,kX,eM,ga,Wy,Wz,Ls,RY,WA,Cj,Ck,Cl,IO=>xl f_ iw kX eM ga Wy Wz Ls RY WA Cj Ck Cl (fun f_ iw kX eM ga Wy Wz Ls RY WA Cj Ck Cl=>np n f_ iw kX eM ga Wy Wz Ls RY WA Cj Ck Cl IO) IO
abbrev iCiv_p6: SP:=⟨58,[2,3,5],[(.v (.ptr 192 0)),(.v (.i .i64)),(.v (.ptr 384 0))],[(192, .var [(.i .i64),(.i .i64),(.i .i64),(.i .i64),(.i .i64),(.i .i64)]),(384, .var [(.i .i64),(.i .i64),(.i .i64),(.i .i64),(.i .i64),(.i .i64)])]⟩
noncomputable def Qb: Code:=ar (aC Tryz.f251) [1,1,1,1,1,0,0,0]
def Qc (f: (Int→Int→Int→Int→Int→Int→Int→Int→Int→Int→Int→Int→Int→OR')→OR') (k: KT): OR':=f (fun ee da oI WB WC WD WE RH RI WF EP EQ ER=>k (Ex.exit 2) ((St.mk (aA 0 58 [(2,(AV.ptr 192 0)),(3,(AV.int .i64 ee)),(5,(AV.ptr 384 0))]) ((192,(Ob.var [.int .i64 da,.int .i64 oI,.int .i64 WB,.int .i64 WC,.int .i64 WD,.int .i64 WE]))::((384,(Ob.var [.int .i64 RH,.int .i64 RI,.int .i64 WF,.int .i64 EP,.int .i64 EQ,.int .i64 ER]))::([]: (List (Nat×(Ob)))))))))
def Qd (n: Nat) (d: iCiv_p6.D): KT→OR':=Qc (np n d.1.2.1 d.2.1.1 d.2.1.2.1 d.2.1.2.2.1 d.2.1.2.2.2.1 d.2.1.2.2.2.2.1 d.2.1.2.2.2.2.2.1 d.2.2.1.1 d.2.2.1.2.1 d.2.2.1.2.2.1 d.2.2.1.2.2.2.1 d.2.2.1.2.2.2.2.1 d.2.2.1.2.2.2.2.2.1)
def Qe (N: Nat): Lam:=bI [⟨3,iCiv_p3,Qa N⟩,⟨6,iCiv_p6,Qd N⟩]
theorem Ug (N: Nat): OkL Kx iCiv_C.s P8 0 N (Qe N) P9:=okL iCiv_p3 (Qa) (fun d kR=>P_ (xk d.1.2.1 d.2.1.1 d.2.1.2.1 d.2.1.2.2.1 d.2.1.2.2.2.1 d.2.1.2.2.2.2.1 d.2.1.2.2.2.2.2.1 d.2.2.1.1 d.2.2.1.2.1 d.2.2.1.2.2.1 d.2.2.1.2.2.2.1 d.2.2.1.2.2.2.2.1 d.2.2.1.2.2.2.2.2.1 (fun ax an bl eR jC jM kV sV vw vx gL gM gO=>kR (((),ax,(),()),((an,bl,eR,jC,jM,kV,()),(sV,vw,vx,gL,gM,gO,()),()))))) (fun _ _=>by kernel_rfl) (fun _ _ _=>by kernel_rfl) (fun _ _=>by kernel_rfl) (fun _ _ _ _=>by kernel_rfl) (af (l':=[]) (by kernel_rfl) trivial)
theorem Uh (N: Nat): OkL Kx iCiv_C.s P8 0 N (Qe N) Qb:=okL iCiv_p6 (Qd) (fun d kR=>Qc (xl d.1.2.1 d.2.1.1 d.2.1.2.1 d.2.1.2.2.1 d.2.1.2.2.2.1 d.2.1.2.2.2.2.1 d.2.1.2.2.2.2.2.1 d.2.2.1.1 d.2.2.1.2.1 d.2.2.1.2.2.1 d.2.2.1.2.2.2.1 d.2.2.1.2.2.2.2.1 d.2.2.1.2.2.2.2.2.1 (fun f_ iw kX eM ga Wy Wz Ls RY WA Cj Ck Cl=>kR (((),f_,(),()),((iw,kX,eM,ga,Wy,Wz,()),(Ls,RY,WA,Cj,Ck,Cl,()),()))))) (fun _ _=>by kernel_rfl) (fun _ _ _=>by kernel_rfl) (fun _ _=>by kernel_rfl) (fun _ _ _ _=>by kernel_rfl) (af (l':=[]) (by kernel_rfl) trivial)
def Io (N: Nat) (t: Int): OR':=(nl N (ad (Int.tdiv t 86400)) 0 0 0 0 0 0 (ad (1970 + (ad (Int.tdiv (ad (Int.tdiv t 86400)) 366)))) 1 0 (ad (Int.tdiv (Int.tmod t 86400) 3600)) (Int.tmod (ad (Int.tdiv (Int.tmod t 86400) 60)) 60) (Int.tmod (Int.tmod t 86400) 60) (fun bd gI mh oH IQ IR IS vy IT IU sE sG sH=>(bif (yrB vy) then (np N (ad (bd - (dB vy))) gI mh oH IQ IR IS vy IT IU sE sG sH (fun ee da oI WB WC WD WE RH RI WF EP EQ ER=>(some ((AV.agg [.int .i64 RH,.int .i64 RI,.int .i64 (ad (ee + 1)),.int .i64 EP,.int .i64 EQ,.int .i64 ER]),[])))) else none)))
def Ip (φ: Int→Br): List AV→List Ob→Br
 | [.int .i64 t],[]=>φ t
 | _,_=> .fail
theorem Qf {φ: Int→Br} (fu: Int→Nat) (hv: ∀ t res_,(φ t).val=some res_→Io (fu t) t=some res_): Sound Kx 251 (Ip φ):=ah (C:=iCiv_C) (O:=P8) Tryz.func251 (by kernel_rfl) fun args objs=>by
 unfold Ip;split
 · rename_i t;exact .inr fun _ hyp_=>aL (Λ:=Qe (fu t)) (by kernel_rfl) (af (l':=[P9,Qb]) (by kernel_rfl) ⟨Ug _,Uh _,trivial⟩) (by kernel_rfl) (hv t _ hyp_)
 · exact .inl rfl
def Qg: Opt:={ live:=[(8,[2,4,5]),(5,[2,4,5])],outs:=[(8,[2,3,4,5]),(5,[2,3,4,5])] }
def sCiv_C: SC:=[⟨95,_,rZ⟩,⟨257,_,BL⟩,⟨258,_,sf⟩]
def xm (aY a8 bc cH dx e8 e9 dj kM sX fI fJ fK: Int) (kR5 dh: Int→Int→Int→Int→Int→Int→Int→Int→Int→Int→Int→Int→Int→OR'): OR':=
 (bif (yrB dj) then (bif (decide ((pm dj)≤aY)) then (bif (yrB dj) then (kR5 (ad (aY - (pm dj))) a8 bc cH dx e8 e9 (ad (dj + 1)) kM sX fI fJ fK) else none) else (dh aY a8 bc cH dx e8 e9 dj kM sX fI fJ fK)) else none)
def nq: Nat→Int→Int→Int→Int→Int→Int→Int→Int→Int→Int→Int→Int→Int→(Int→Int→Int→Int→Int→Int→Int→Int→Int→Int→Int→Int→Int→OR')→OR'
 | 0,_,_,_,_,_,_,_,_,_,_,_,_,_,_=>none
 | n + 1,aY,a8,bc,cH,dx,e8,e9,dj,kM,sX,fI,fJ,fK,dh=>xm aY a8 bc cH dx e8 e9 dj kM sX fI fJ fK (fun aY a8 bc cH dx e8 e9 dj kM sX fI fJ fK=>nq n aY a8 bc cH dx e8 e9 dj kM sX fI fJ fK dh) dh
abbrev sCiv_p5: SP:=⟨57,[2,4,5],[(.v (.ptr 192 0)),(.v (.i .i64)),(.v (.ptr 384 0))],[(192, .var [(.i .i64),(.i .i64),(.i .i64),(.i .i64),(.i .i64),(.i .i64)]),(384, .var [(.i .i64),(.i .i64),(.i .i64),(.i .i64),(.i .i64),(.i .i64)])]⟩
noncomputable def Qh: Code:=ar (aC Tryz.f215) [1,1,1,1,0,0,0]
def Qi (f: (Int→Int→Int→Int→Int→Int→Int→Int→Int→Int→Int→Int→Int→OR')→OR') (k: KT): OR':=f (fun ai bJ cy ed dU cZ dV bv sI sJ kN kO kP=>k (Ex.exit 0) ((St.mk (aA 0 57 [(2,(AV.ptr 192 0)),(4,(AV.int .i64 ai)),(5,(AV.ptr 384 0))]) ((192,(Ob.var [.int .i64 bJ,.int .i64 cy,.int .i64 ed,.int .i64 dU,.int .i64 cZ,.int .i64 dV]))::((384,(Ob.var [.int .i64 bv,.int .i64 sI,.int .i64 sJ,.int .i64 kN,.int .i64 kO,.int .i64 kP]))::([]: (List (Nat×(Ob)))))))))
def Qj (n: Nat) (d: sCiv_p5.D): KT→OR':=Qi (nq n d.1.2.1 d.2.1.1 d.2.1.2.1 d.2.1.2.2.1 d.2.1.2.2.2.1 d.2.1.2.2.2.2.1 d.2.1.2.2.2.2.2.1 d.2.2.1.1 d.2.2.1.2.1 d.2.2.1.2.2.1 d.2.2.1.2.2.2.1 d.2.2.1.2.2.2.2.1 d.2.2.1.2.2.2.2.2.1)
def xn (U0 WG WH WI WJ WK WL Lt RZ WM Cm Cn Co: Int) (kR8 acq: Int→Int→Int→Int→Int→Int→Int→Int→Int→Int→Int→Int→Int→OR'): OR':=
 (bif (yrB Lt) then (bif (decide ((iF Lt RZ)≤U0)) then (bif (yrB Lt) then (kR8 (ad (U0 - (iF Lt RZ))) WG WH WI WJ WK WL Lt (ad (RZ + 1)) WM Cm Cn Co) else none) else (acq U0 WG WH WI WJ WK WL Lt RZ WM Cm Cn Co)) else none)
def nr: Nat→Int→Int→Int→Int→Int→Int→Int→Int→Int→Int→Int→Int→Int→(Int→Int→Int→Int→Int→Int→Int→Int→Int→Int→Int→Int→Int→OR')→OR'
 | 0,_,_,_,_,_,_,_,_,_,_,_,_,_,_=>none
 | n + 1,U0,WG,WH,WI,WJ,WK,WL,Lt,RZ,WM,Cm,Cn,Co,acq=>xn U0 WG WH WI WJ WK WL Lt RZ WM Cm Cn Co (fun U0 WG WH WI WJ WK WL Lt RZ WM Cm Cn Co=>nr n U0 WG WH WI WJ WK WL Lt RZ WM Cm Cn Co acq) acq
abbrev sCiv_p8: SP:=⟨57,[2,4,5],[(.v (.ptr 192 0)),(.v (.i .i64)),(.v (.ptr 384 0))],[(192, .var [(.i .i64),(.i .i64),(.i .i64),(.i .i64),(.i .i64),(.i .i64)]),(384, .var [(.i .i64),(.i .i64),(.i .i64),(.i .i64),(.i .i64),(.i .i64)])]⟩
noncomputable def Qk: Code:=ar (aC Tryz.f215) [1,1,1,1,1,0,0,0]
def Ql (f: (Int→Int→Int→Int→Int→Int→Int→Int→Int→Int→Int→Int→Int→OR')→OR') (k: KT): OR':=f (fun RJ WN WO WP WQ WR WS RK RL WT ES ET EU=>k (Ex.exit 2) ((St.mk (aA 0 57 [(2,(AV.ptr 192 0)),(4,(AV.int .i64 RJ)),(5,(AV.ptr 384 0))]) ((192,(Ob.var [.int .i64 WN,.int .i64 WO,.int .i64 WP,.int .i64 WQ,.int .i64 WR,.int .i64 WS]))::((384,(Ob.var [.int .i64 RK,.int .i64 RL,.int .i64 WT,.int .i64 ES,.int .i64 ET,.int .i64 EU]))::([]: (List (Nat×(Ob)))))))))
def Qm (n: Nat) (d: sCiv_p8.D): KT→OR':=Ql (nr n d.1.2.1 d.2.1.1 d.2.1.2.1 d.2.1.2.2.1 d.2.1.2.2.2.1 d.2.1.2.2.2.2.1 d.2.1.2.2.2.2.2.1 d.2.2.1.1 d.2.2.1.2.1 d.2.2.1.2.2.1 d.2.2.1.2.2.2.1 d.2.2.1.2.2.2.2.1 d.2.2.1.2.2.2.2.2.1)
def Qn (N: Nat): Lam:=bI [⟨5,sCiv_p5,Qj N⟩,⟨8,sCiv_p8,Qm N⟩]
theorem Ui (N: Nat): OkL Kx sCiv_C.s Qg 0 N (Qn N) Qh:=okL sCiv_p5 (Qj) (fun d kR=>Qi (xm d.1.2.1 d.2.1.1 d.2.1.2.1 d.2.1.2.2.1 d.2.1.2.2.2.1 d.2.1.2.2.2.2.1 d.2.1.2.2.2.2.2.1 d.2.2.1.1 d.2.2.1.2.1 d.2.2.1.2.2.1 d.2.2.1.2.2.2.1 d.2.2.1.2.2.2.2.1 d.2.2.1.2.2.2.2.2.1 (fun aY a8 bc cH dx e8 e9 dj kM sX fI fJ fK=>kR (((),aY,(),()),((a8,bc,cH,dx,e8,e9,()),(dj,kM,sX,fI,fJ,fK,()),()))))) (fun _ _=>by kernel_rfl) (fun _ _ _=>by kernel_rfl) (fun _ _=>by kernel_rfl) (fun _ _ _ _=>by kernel_rfl) (af (l':=[]) (by kernel_rfl) trivial)
theorem Uj (N: Nat): OkL Kx sCiv_C.s Qg 0 N (Qn N) Qk:=okL sCiv_p8 (Qm) (fun d kR=>Ql (xn d.1.2.1 d.2.1.1 d.2.1.2.1 d.2.1.2.2.1 d.2.1.2.2.2.1 d.2.1.2.2.2.2.1 d.2.1.2.2.2.2.2.1 d.2.2.1.1 d.2.2.1.2.1 d.2.2.1.2.2.1 d.2.2.1.2.2.2.1 d.2.2.1.2.2.2.2.1 d.2.2.1.2.2.2.2.2.1 (fun U0 WG WH WI WJ WK WL Lt RZ WM Cm Cn Co=>kR (((),U0,(),()),((WG,WH,WI,WJ,WK,WL,()),(Lt,RZ,WM,Cm,Cn,Co,()),()))))) (fun _ _=>by kernel_rfl) (fun _ _ _=>by kernel_rfl) (fun _ _=>by kernel_rfl) (fun _ _ _ _=>by kernel_rfl) (af (l':=[]) (by kernel_rfl) trivial)
def Iq (N: Nat) (t: Int): OR':=(bif (!(dZ t)) then (some ((AV.tup [.agg [.int .i64 0,.int .i64 0,.int .i64 0,.int .i64 0,.int .i64 0,.int .i64 0],.bool false]),[])) else (nq N (ad (Int.tdiv t 86400)) 0 0 0 0 0 0 1970 1 0 (Int.tmod (ad (Int.tdiv t 3600)) 24) (Int.tmod (ad (Int.tdiv t 60)) 60) (Int.tmod t 60) (fun ai bJ cy ed dU cZ dV bv sI sJ kN kO kP=>(nr N ai bJ cy ed dU cZ dV bv sI sJ kN kO kP (fun RJ WN WO WP WQ WR WS RK RL WT ES ET EU=>(some ((AV.tup [.agg [.int .i64 RK,.int .i64 RL,.int .i64 (ad (RJ + 1)),.int .i64 ES,.int .i64 ET,.int .i64 EU],.bool true]),[])))))))
def Ir (φ: Int→Br): List AV→List Ob→Br
 | [.int .i64 t],[]=>φ t
 | _,_=> .fail
theorem Qo {φ: Int→Br} (fu: Int→Nat) (hv: ∀ t res_,(φ t).val=some res_→Iq (fu t) t=some res_): Sound Kx 215 (Ir φ):=ah (C:=sCiv_C) (O:=Qg) Tryz.func215 (by kernel_rfl) fun args objs=>by
 unfold Ir;split
 · rename_i t;exact .inr fun _ hyp_=>aL (Λ:=Qn (fu t)) (by kernel_rfl) (af (l':=[Qh,Qk]) (by kernel_rfl) ⟨Ui _,Uj _,trivial⟩) (by kernel_rfl) (hv t _ hyp_)
 · exact .inl rfl
theorem fQ {y: Int} (h1: 1≤y) (h2: y≤100000): yrB y=true:=by unfold yrB;rw [dT' h1,dT' h2];rfl
theorem KW: Sound Kx 256 (RU (fun _=>true) fun c=> .bool (ce c)):=Uc P3 fun y m d h i s _=>by
 show (sg y m d h i s).val=some (.bool (ce ⟨y,m,d,h,i,s⟩),[])
 unfold sg ce
 by_cases c1: 1970≤y
 · by_cases c2: y≤9999
   · rw [fQ (by omega) (by omega),dT' c1,dT' c2]
     simp only
     generalize decide (1≤m)=b1
     generalize decide (m≤12)=b2
     generalize decide (1≤d)=b3
     generalize decide (d≤iF y m)=b4
     generalize decide (0≤h)=b5
     generalize decide (h≤23)=b6
     generalize decide (0≤i)=b7
     generalize decide (i≤59)=b8
     generalize decide (0≤s)=b9
     generalize decide (s≤59)=b10
     cases b1; · rfl
     cases b2; · rfl
     cases b3; · rfl
     cases b4; · rfl
     cases b5; · rfl
     cases b6; · rfl
     cases b7; · rfl
     cases b8; · rfl
     cases b9; · rfl
     cases b10 <;> rfl
   · rw [dT' c1,dF' c2];rfl
 · rw [dF' c1];rfl
theorem xo (y: Int): ∀ k: Nat,0≤mB y k∧mB y k≤31 * k
 | 0=>by simp [mB]
 | k + 1=>by
   have:=xo y k
   have:=kq y (k + 1)
   show 0≤mB y k + iF y (k + 1)∧mB y k + iF y (k + 1)≤_
   push_cast
   omega
theorem Qp (y M d h i s: Int) (hy: 1970≤y) (hy2: y≤9999) (hM: M≤12) (K: Int→Int→Int→Int→Int→Int→Int→OR'): ∀ (j: Nat) (acc mo: Int) (n: Nat),M - mo=j→1≤mo→j < n→ -10000000≤acc - mB y (mo - 1).toNat→acc - mB y (mo - 1).toNat≤10000000→
 nk n acc mo y M d h i s K=K (acc - mB y (mo - 1).toNat + mB y (M - 1).toNat) y M d h i s:=by
 intro j;induction j with
 | zero=>
   intro acc mo n hj h1 hn b0 b1;obtain ⟨n,rfl⟩:=bH hn;unfold nk xj
   obtain rfl: mo=M:=by omega
   rw [dF' (by omega),cond_false,show acc - mB y (mo - 1).toNat + mB y (mo - 1).toNat=acc by omega]
 | succ j ih=>
   intro acc mo n hj h1 hn b0 b1;obtain ⟨n,rfl⟩:=bH hn
   have hs:=iT y mo h1
   have hb:=kq y mo
   have hc:=xo y (mo - 1).toNat
   unfold nk xj
   rw [dT' (show mo < M by omega),fQ (by omega) (by omega),cond_true,cond_true,w64 (n:=acc + iF y mo) (by omega) (by omega),w64 (n:=mo + 1) (by omega) (by omega)]
   have e: (mo + 1 - 1).toNat=mo.toNat:=by congr 1;omega
   refine (ih (acc + iF y mo) (mo + 1) n (by omega) (by omega) (by omega) (by rw [e,hs];omega) (by rw [e,hs];omega)).trans ?_
   rw [e,hs]
   congr 1
   omega
def Zg (p: Cv→Int×Bool): Cv→AV:=fun c=> .tup [.int .i64 (p c).1, .bool (p c).2]
theorem Eo {y: Int} (h1: 1970≤y) (h2: y≤9999): 0≤dB y∧dB y≤2932897:=by
 have a:=fy h1
 have b:=fy (show y≤10000 by omega)
 rw [kr] at a
 rw [pn] at b
 exact ⟨a,b⟩
theorem Qq {y m d h i s: Int} (hk: ce ⟨y,m,d,h,i,s⟩=true): ad ((ad ((ad ((ad (86400 * (dB y + d - 1 + mB y (m - 1).toNat))) + (ad (3600 * h)))) + (ad (60 * i)))) + s)=Ar ⟨y,m,d,h,i,s⟩:=by
 obtain ⟨⟨h1,h2⟩,⟨h3,h4⟩,⟨h5,h6⟩,⟨h7,h8⟩,⟨h9,h10⟩,⟨h11,h12⟩⟩:=bG hk
 simp only at h1 h2 h3 h4 h5 h6 h7 h8 h9 h10 h11 h12
 have hd:=Eo h1 h2
 have hm:=xo y (m - 1).toNat
 have hm2: ((m - 1).toNat: Int)≤11:=by omega
 unfold Ar
 simp only
 generalize dB y=a at *
 generalize mB y (m - 1).toNat=b at *
 rw [w64 (n:=86400 * (a + d - 1 + b)) (by omega) (by omega),w64 (n:=3600 * h) (by omega) (by omega),w64 (n:=60 * i) (by omega) (by omega),w64 (n:=86400 * (a + d - 1 + b) + 3600 * h) (by omega) (by omega),
  w64 (n:=86400 * (a + d - 1 + b) + 3600 * h + 60 * i) (by omega) (by omega),w64 (by omega) (by omega)]
 omega
theorem Uk: Sound Kx 208 (RU (fun _=>true) (Zg iG)):=by
 refine (P7 (φ:=fun y m d h i s=> .ret (Zg iG ⟨y,m,d,h,i,s⟩) []) (fun _ m _ _ _ _=>m.toNat + 1) fun y m d h i s r hv=>?_).of fun args objs r hv=>?_
 · cases hv
   unfold Il
   show (bif !ce ⟨y,m,d,h,i,s⟩ then _ else _)=_
   unfold Zg iG
   cases hk: ce ⟨y,m,d,h,i,s⟩
   · rfl
   · obtain ⟨⟨h1,h2⟩,⟨h3,h4⟩,⟨h5,h6⟩,_⟩:=bG hk
     simp only at h1 h2 h3 h4 h5 h6
     have hd:=Eo h1 h2
     simp only [Bool.not_true,cond_false]
     rw [fQ (by omega) (by omega),cond_true,w64 (n:=dB y + d) (by omega) (by omega),w64 (n:=dB y + d - 1) (by omega) (by omega)]
     have e0: mB y (1 - 1 : Int).toNat=0:=rfl
     rw [Qp y m d h i s h1 h2 h4 _ (m - 1).toNat (dB y + d - 1) 1 (m.toNat + 1) (by omega) (by omega) (by omega) (by rw [e0];omega) (by rw [e0];omega),e0,Int.sub_zero]
     rw [Qq hk]
     rfl
 · unfold RU at hv;split at hv
   · obtain ⟨_,h2⟩:=ae hv
     exact h2
   · cases hv
theorem Ul (day: Int) (h0: 0≤day) (h1: day < 2932897): 1970≤1970 + day / 366∧1970 + day / 366≤yrP day:=by
 obtain ⟨g1,g2,g3,g4⟩:=ru day h0 h1
 refine ⟨by omega,?_⟩
 by_cases c: 1970 + day / 366≤yrP day
 · exact c
 · have hm:=fy (show yrP day + 1≤1970 + day / 366 by omega)
   have hb: dB (1970 + day / 366)≤day:=by
    unfold dB;omega
   omega
theorem KX (day a1 a2 a3 a4 a5 a6 m d h i s: Int) (h0: 0≤day) (h1: day < 2932897) (K: Int→Int→Int→Int→Int→Int→Int→Int→Int→Int→Int→Int→Int→OR'): ∀ (j: Nat) (y: Int) (n: Nat),yrP day - y=j→1970≤y→j < n→
 nl n day a1 a2 a3 a4 a5 a6 y m d h i s K=K day a1 a2 a3 a4 a5 a6 (yrP day) m d h i s:=by
 obtain ⟨g1,g2,g3,g4⟩:=ru day h0 h1
 intro j;induction j with
 | zero=>
   intro y n hj hy hn;obtain ⟨n,rfl⟩:=bH hn;unfold nl xk
   obtain rfl: y=yrP day:=by omega
   rw [w64 (n:=yrP day + 1) (by omega) (by omega),fQ (by omega) (by omega),cond_true,dF' (by omega),cond_false]
 | succ j ih=>
   intro y n hj hy hn;obtain ⟨n,rfl⟩:=bH hn;unfold nl xk
   have:=fy (show y + 1≤yrP day by omega)
   rw [w64 (n:=y + 1) (by omega) (by omega),fQ (by omega) (by omega),cond_true,dT' (by omega),cond_true]
   exact ih (y + 1) n (by omega) (by omega) (by omega)
theorem KY (y D a1 a2 a3 a4 a5 a6 d h i s: Int) (hy: 1970≤y) (hy2: y≤9999) (h0: 0≤D) (h1: D < pm y) (K: Int→Int→Int→Int→Int→Int→Int→Int→Int→Int→Int→Int→Int→OR'): ∀ (j: Nat) (m: Int) (n: Nat),moP y D - m=j→1≤m→j < n→
 np n (D - mB y (m - 1).toNat) a1 a2 a3 a4 a5 a6 y m d h i s K=K (D - mB y (moP y D - 1).toNat) a1 a2 a3 a4 a5 a6 y (moP y D) d h i s:=by
 obtain ⟨g1,g2,g3,g4⟩:=mT h0 h1
 have hyl:=mS y
 intro j;induction j with
 | zero=>
   intro m n hj hm hn;obtain ⟨n,rfl⟩:=bH hn;unfold np xl
   obtain rfl: m=moP y D:=by omega
   have hs:=iT y (moP y D) hm
   rw [fQ (by omega) (by omega),cond_true,dF' (by omega),cond_false]
 | succ j ih=>
   intro m n hj hm hn;obtain ⟨n,rfl⟩:=bH hn;unfold np xl
   have hs:=iT y m hm
   have hmono:=ku y (moP y D - 1).toNat m.toNat (by omega)
   have hb:=xo y (m - 1).toNat
   have hlb:=kq y m
   rw [fQ (by omega) (by omega),cond_true,dT' (by omega),cond_true,cond_true,w64 (n:=m + 1) (by omega) (by omega),w64 (n:=D - mB y (m - 1).toNat - iF y m) (by omega) (by omega)]
   have e: (m + 1 - 1).toNat=m.toNat:=by congr 1;omega
   have:=ih (m + 1) n (by omega) (by omega) (by omega)
   rw [e,hs] at this
   rw [show D - mB y (m - 1).toNat - iF y m=D - (mB y (m - 1).toNat + iF y m) by omega]
   exact this
theorem KZ (day a1 a2 a3 a4 a5 a6 m d h i s: Int) (h0: 0≤day) (h1: day < 2932897) (K: Int→Int→Int→Int→Int→Int→Int→Int→Int→Int→Int→Int→Int→OR'): ∀ (j: Nat) (y: Int) (n: Nat),yrP day - y=j→1970≤y→j < n→
 nq n (day - dB y) a1 a2 a3 a4 a5 a6 y m d h i s K=K (rv day) a1 a2 a3 a4 a5 a6 (yrP day) m d h i s:=by
 obtain ⟨g1,g2,g3,g4⟩:=ru day h0 h1
 intro j;induction j with
 | zero=>
   intro y n hj hy hn;obtain ⟨n,rfl⟩:=bH hn;unfold nq xm
   obtain rfl: y=yrP day:=by omega
   have hs:=rt (yrP day)
   rw [fQ (by omega) (by omega),cond_true,dF' (by omega),cond_false]
   rfl
 | succ j ih=>
   intro y n hj hy hn;obtain ⟨n,rfl⟩:=bH hn;unfold nq xm
   have:=fy (show y + 1≤yrP day by omega)
   have hs:=rt y
   have hb:=mS y
   have hd:=Eo hy (by omega)
   rw [fQ (by omega) (by omega),cond_true,dT' (by omega),cond_true,cond_true,w64 (n:=y + 1) (by omega) (by omega),w64 (n:=day - dB y - pm y) (by omega) (by omega)]
   have:=ih (y + 1) n (by omega) (by omega) (by omega)
   rw [hs] at this
   rw [show day - dB y - pm y=day - (dB y + pm y) by omega]
   exact this
theorem K1 (y D a1 a2 a3 a4 a5 a6 d h i s: Int) (hy: 1970≤y) (hy2: y≤9999) (h0: 0≤D) (h1: D < pm y) (K: Int→Int→Int→Int→Int→Int→Int→Int→Int→Int→Int→Int→Int→OR'): ∀ (j: Nat) (m: Int) (n: Nat),moP y D - m=j→1≤m→j < n→
 nr n (D - mB y (m - 1).toNat) a1 a2 a3 a4 a5 a6 y m d h i s K=K (D - mB y (moP y D - 1).toNat) a1 a2 a3 a4 a5 a6 y (moP y D) d h i s:=by
 obtain ⟨g1,g2,g3,g4⟩:=mT h0 h1
 have hyl:=mS y
 intro j;induction j with
 | zero=>
   intro m n hj hm hn;obtain ⟨n,rfl⟩:=bH hn;unfold nr xn
   obtain rfl: m=moP y D:=by omega
   have hs:=iT y (moP y D) hm
   rw [fQ (by omega) (by omega),cond_true,dF' (by omega),cond_false]
 | succ j ih=>
   intro m n hj hm hn;obtain ⟨n,rfl⟩:=bH hn;unfold nr xn
   have hs:=iT y m hm
   have hmono:=ku y (moP y D - 1).toNat m.toNat (by omega)
   have hb:=xo y (m - 1).toNat
   have hlb:=kq y m
   rw [fQ (by omega) (by omega),cond_true,dT' (by omega),cond_true,cond_true,w64 (n:=m + 1) (by omega) (by omega),w64 (n:=D - mB y (m - 1).toNat - iF y m) (by omega) (by omega)]
   have e: (m + 1 - 1).toNat=m.toNat:=by congr 1;omega
   have:=ih (m + 1) n (by omega) (by omega) (by omega)
   rw [e,hs] at this
   rw [show D - mB y (m - 1).toNat - iF y m=D - (mB y (m - 1).toNat + iF y m) by omega]
   exact this
def cvY (t: Int): Int:=(mv t).y
def cU (t: Int): Int:=(mv t).m
def cvD (t: Int): Int:=(mv t).d
def cvH (t: Int): Int:=(mv t).h
def sT (t: Int): Int:=(mv t).i
def sU (t: Int): Int:=(mv t).s
theorem iY (t: Int): cvM (cvY t) (cU t) (cvD t) (cvH t) (sT t) (sU t)=mv t:=rfl
def acf (t: Int): AV:= .agg [.int .i64 (cvY t), .int .i64 (cU t), .int .i64 (cvD t), .int .i64 (cvH t), .int .i64 (sT t), .int .i64 (sU t)]
theorem tdv {a: Int} (h: 0≤a) (k: Int): Int.tdiv a k=a / k:=Int.tdiv_eq_ediv_of_nonneg h
theorem xp: Sound Kx 251 (BI dZ acf):=by
 refine (Qf (φ:=fun t=> .ite (dZ t) (.ret (acf t) []) .fail) (fun _=>10020) fun t r hv=>?_).of fun args objs r hv=>?_
 · obtain ⟨h1,h2⟩:=ae hv
   cases h2
   obtain ⟨t0,t1⟩:=Ek h1
   obtain ⟨g0,g1,g2,g3⟩:=Dx h1
   have d0: 0≤t / 86400:=by omega
   have d1: t / 86400 < 2932897:=by omega
   obtain ⟨s1,s2⟩:=Ul (t / 86400) d0 d1
   have hm:=mT g0 g1
   have hdb:=Eo g2 g3
   unfold Io
   rw [Int.tmod_eq_emod_of_nonneg t0,tdv t0,w64 (n:=t / 86400) (by omega) (by omega),tdv d0,w64 (n:=t / 86400 / 366) (by omega) (by omega),w64 (n:=1970 + t / 86400 / 366) (by omega) (by omega),
    KX (t / 86400) 0 0 0 0 0 0 1 0 _ _ _ d0 d1 _ (yrP (t / 86400) - (1970 + t / 86400 / 366)).toNat (1970 + t / 86400 / 366) 10020 (by omega) s1 (by omega)]
   rw [fQ (by omega) (by omega),cond_true,w64 (n:=t / 86400 - dB (yrP (t / 86400))) (by omega) (by omega)]
   have e0: t / 86400 - dB (yrP (t / 86400))=rv (t / 86400) - mB (yrP (t / 86400)) (1 - 1 : Int).toNat:=by
    rw [show mB (yrP (t / 86400)) (1 - 1 : Int).toNat=0 from rfl,Int.sub_zero];rfl
   rw [e0,KY (yrP (t / 86400)) (rv (t / 86400)) 0 0 0 0 0 0 0 _ _ _ g2 g3 g0 g1 _ (moP (yrP (t / 86400)) (rv (t / 86400)) - 1).toNat 1 10020 (by omega) (by omega) (by omega)]
   have r0: 0≤t % 86400:=by omega
   have hb:=xo (yrP (t / 86400)) (moP (yrP (t / 86400)) (rv (t / 86400)) - 1).toNat
   have hy:=mS (yrP (t / 86400))
   rw [tdv r0,tdv r0,Int.tmod_eq_emod_of_nonneg r0,w64 (n:=t % 86400 / 3600) (by omega) (by omega),w64 (n:=t % 86400 / 60) (by omega) (by omega),Int.tmod_eq_emod_of_nonneg (show 0≤t % 86400 / 60 by omega),w64 (n:=rv (t / 86400) - mB (yrP (t / 86400)) (moP (yrP (t / 86400)) (rv (t / 86400)) - 1).toNat + 1) (by omega) (by omega),
    show t % 86400 / 3600=t / 3600 % 24 by omega,show t % 86400 / 60 % 60=t / 60 % 60 by omega,show t % 86400 % 60=t % 60 by omega]
   rfl
 · unfold BI at hv;split at hv
   · exact hv
   · cases hv
def aaU: List AV→List Ob→Br
 | [.int .i64 t],[]=> .ite (dZ t) (.ret (.tup [acf t, .bool true]) []) (.ret (.tup [.agg [.int .i64 0, .int .i64 0, .int .i64 0, .int .i64 0, .int .i64 0, .int .i64 0], .bool false]) [])
 | _,_=> .fail
theorem xq: Sound Kx 215 aaU:=by
 refine (Qo (φ:=fun t=> .ite (dZ t) (.ret (.tup [acf t, .bool true]) []) (.ret (.tup [.agg [.int .i64 0, .int .i64 0, .int .i64 0, .int .i64 0, .int .i64 0, .int .i64 0], .bool false]) [])) (fun _=>10020) fun t r hv=>?_).of fun args objs r hv=>?_
 · rw [← hv]
   unfold Iq
   cases h1: dZ t
   · rfl
   simp only [Bool.not_true,cond_false]
   obtain ⟨t0,t1⟩:=Ek h1
   obtain ⟨g0,g1,g2,g3⟩:=Dx h1
   have d0: 0≤t / 86400:=by omega
   have d1: t / 86400 < 2932897:=by omega
   have hm:=mT g0 g1
   have e1: t / 86400=t / 86400 - dB 1970:=by rw [kr];omega
   rw [tdv t0,tdv t0,tdv t0,w64 (n:=t / 86400) (by omega) (by omega),w64 (n:=t / 3600) (by omega) (by omega),w64 (n:=t / 60) (by omega) (by omega),Int.tmod_eq_emod_of_nonneg (show 0≤t / 3600 by omega),Int.tmod_eq_emod_of_nonneg (show 0≤t / 60 by omega),Int.tmod_eq_emod_of_nonneg t0]
   have l5:=fun K=>KZ (t / 86400) 0 0 0 0 0 0 1 0 (t / 3600 % 24) (t / 60 % 60) (t % 60) d0 d1 K (yrP (t / 86400) - 1970).toNat 1970 10020 (by omega) (by omega) (by omega)
   rw [← e1] at l5
   rw [l5]
   have e0: rv (t / 86400)=rv (t / 86400) - mB (yrP (t / 86400)) (1 - 1 : Int).toNat:=by
    rw [show mB (yrP (t / 86400)) (1 - 1 : Int).toNat=0 from rfl,Int.sub_zero]
   have l8:=fun K=>K1 (yrP (t / 86400)) (rv (t / 86400)) 0 0 0 0 0 0 0 (t / 3600 % 24) (t / 60 % 60) (t % 60) g2 g3 g0 g1 K (moP (yrP (t / 86400)) (rv (t / 86400)) - 1).toNat 1 10020 (by omega) (by omega) (by omega)
   rw [← e0] at l8
   rw [l8]
   have hb:=xo (yrP (t / 86400)) (moP (yrP (t / 86400)) (rv (t / 86400)) - 1).toNat
   have hy:=mS (yrP (t / 86400))
   rw [w64 (n:=rv (t / 86400) - mB (yrP (t / 86400)) (moP (yrP (t / 86400)) (rv (t / 86400)) - 1).toNat + 1) (by omega) (by omega)]
   rfl
 · unfold aaU at hv;split at hv
   · exact hv
   · cases hv
def aaV: List AV→List Ob→Br
 | [.str s, .str sep],[]=> .ite (decide (s.length≤1000000)) (.ret (.bool (mW s sep)) []) .fail
 | _,_=> .fail
theorem Yh: Sound Kx 246 aaV:=by
 refine cA Tryz.func246 (by kernel_rfl) rfl fun args objs res objs' hv w L vs hR hr=>?_
 unfold aaV at hv
 split at hv
 case h_2=>cases hv
 rename_i s sep
 obtain ⟨h1,h2⟩:=ae hv
 cases h2
 rw [decide_eq_true_eq] at h1
 refine ⟨rfl,?_⟩
 simp only [aX,rel] at hr
 obtain ⟨v,vs',rfl,rfl,v2,vs2,rfl,rfl,rfl⟩:=hr
 obtain ⟨m,hm⟩:=hR.g.2.1 0 (by kernel_rfl)
 refine (Tryz.strings_Contains ⟨s.toArray⟩ ⟨sep.toArray⟩ m w (by show s.toArray.size < _;simp;omega) hm).mono ?_
 rintro e w' ⟨rfl,rfl⟩
 refine ⟨_,rfl,Below.refl _ _,?_⟩
 simp only [rel]
 rfl
def Qr: Opt:={ live:=[(9,[1,4,6]),(5,[1,4,5])],outs:=[(9,[1,2,3,4]),(5,[1,2,3,4])] }
def sSec_C: SC:=[⟨256,_,KW⟩,⟨257,_,BL⟩,⟨258,_,sf⟩]
def xr (aY a8 bc cH dx e8 e9 dj: Int) (kR5: Int→Int→Int→Int→Int→Int→Int→Int→OR') (dh: Int→Int→Int→Int→Int→Int→Int→OR'): OR':=
 (bif (decide (a8 < bc)) then (bif (yrB a8) then (kR5 (ad (aY + (pm a8))) (ad (a8 + 1)) bc cH dx e8 e9 dj) else none) else (dh aY bc cH dx e8 e9 dj))
def ns: Nat→Int→Int→Int→Int→Int→Int→Int→Int→(Int→Int→Int→Int→Int→Int→Int→OR')→OR'
 | 0,_,_,_,_,_,_,_,_,_=>none
 | n + 1,aY,a8,bc,cH,dx,e8,e9,dj,dh=>xr aY a8 bc cH dx e8 e9 dj (fun aY a8 bc cH dx e8 e9 dj=>ns n aY a8 bc cH dx e8 e9 dj dh) dh
abbrev sSec_p5: SP:=⟨48,[1,4,5],[(.v (.ptr 128 0)),(.v (.i .i64)),(.v (.i .i64))],[(128, .var [(.i .i64),(.i .i64),(.i .i64),(.i .i64),(.i .i64),(.i .i64)])]⟩
noncomputable def Qs: Code:=ar (aC Tryz.f212) [1,1,1,0,1,0,0]
def Qt (f: (Int→Int→Int→Int→Int→Int→Int→OR')→OR') (k: KT): OR':=f (fun ai bJ cy ed dU cZ dV=>k (Ex.exit 0) ((St.mk (aA 0 48 [(1,(AV.ptr 128 0)),(4,(AV.int .i64 ai))]) ((128,(Ob.var [.int .i64 bJ,.int .i64 cy,.int .i64 ed,.int .i64 dU,.int .i64 cZ,.int .i64 dV]))::([]: (List (Nat×(Ob))))))))
def Qu (n: Nat) (d: sSec_p5.D): KT→OR':=Qt (ns n d.1.2.1 d.1.2.2.1 d.2.1.1 d.2.1.2.1 d.2.1.2.2.1 d.2.1.2.2.2.1 d.2.1.2.2.2.2.1 d.2.1.2.2.2.2.2.1)
def xu (tq jE mm oJ sY sZ s0 s7: Int) (kR9: Int→Int→Int→Int→Int→Int→Int→Int→OR') (U1: Int→Int→Int→Int→Int→Int→Int→OR'): OR':=
 (bif (decide (jE < oJ)) then (bif (yrB mm) then (kR9 (ad (tq + (iF mm jE))) (ad (jE + 1)) mm oJ sY sZ s0 s7) else none) else (U1 tq mm oJ sY sZ s0 s7))
def nt: Nat→Int→Int→Int→Int→Int→Int→Int→Int→(Int→Int→Int→Int→Int→Int→Int→OR')→OR'
 | 0,_,_,_,_,_,_,_,_,_=>none
 | n + 1,tq,jE,mm,oJ,sY,sZ,s0,s7,U1=>xu tq jE mm oJ sY sZ s0 s7 (fun tq jE mm oJ sY sZ s0 s7=>nt n tq jE mm oJ sY sZ s0 s7 U1) U1
abbrev sSec_p9: SP:=⟨48,[1,4,6],[(.v (.ptr 128 0)),(.v (.i .i64)),(.v (.i .i64))],[(128, .var [(.i .i64),(.i .i64),(.i .i64),(.i .i64),(.i .i64),(.i .i64)])]⟩
noncomputable def Qv: Code:=ar (aC Tryz.f212) [1,1,1,1,0,1,0,0]
def Qw (f: (Int→Int→Int→Int→Int→Int→Int→OR')→OR') (k: KT): OR':=f (fun sK vz vA Cp vB vC vD=>k (Ex.exit 2) ((St.mk (aA 0 48 [(1,(AV.ptr 128 0)),(4,(AV.int .i64 sK))]) ((128,(Ob.var [.int .i64 vz,.int .i64 vA,.int .i64 Cp,.int .i64 vB,.int .i64 vC,.int .i64 vD]))::([]: (List (Nat×(Ob))))))))
def Qx (n: Nat) (d: sSec_p9.D): KT→OR':=Qw (nt n d.1.2.1 d.1.2.2.1 d.2.1.1 d.2.1.2.1 d.2.1.2.2.1 d.2.1.2.2.2.1 d.2.1.2.2.2.2.1 d.2.1.2.2.2.2.2.1)
def Qy (N: Nat): Lam:=bI [⟨5,sSec_p5,Qu N⟩,⟨9,sSec_p9,Qx N⟩]
theorem Um (N: Nat): OkL Kx sSec_C.s Qr 0 N (Qy N) Qs:=okL sSec_p5 (Qu) (fun d kR=>Qt (xr d.1.2.1 d.1.2.2.1 d.2.1.1 d.2.1.2.1 d.2.1.2.2.1 d.2.1.2.2.2.1 d.2.1.2.2.2.2.1 d.2.1.2.2.2.2.2.1 (fun aY a8 bc cH dx e8 e9 dj=>kR (((),aY,a8,()),((bc,cH,dx,e8,e9,dj,()),()))))) (fun _ _=>by kernel_rfl) (fun _ _ _=>by kernel_rfl) (fun _ _=>by kernel_rfl) (fun _ _ _ _=>by kernel_rfl) (af (l':=[]) (by kernel_rfl) trivial)
theorem Un (N: Nat): OkL Kx sSec_C.s Qr 0 N (Qy N) Qv:=okL sSec_p9 (Qx) (fun d kR=>Qw (xu d.1.2.1 d.1.2.2.1 d.2.1.1 d.2.1.2.1 d.2.1.2.2.1 d.2.1.2.2.2.1 d.2.1.2.2.2.2.1 d.2.1.2.2.2.2.2.1 (fun tq jE mm oJ sY sZ s0 s7=>kR (((),tq,jE,()),((mm,oJ,sY,sZ,s0,s7,()),()))))) (fun _ _=>by kernel_rfl) (fun _ _ _=>by kernel_rfl) (fun _ _=>by kernel_rfl) (fun _ _ _ _=>by kernel_rfl) (af (l':=[]) (by kernel_rfl) trivial)
def Is (N: Nat) (y m d h i s: Int): OR':=(bif (!(ce (cvM y m d h i s))) then (some ((AV.tup [.int .i64 0,.bool false]),[])) else (ns N (ad (d - 1)) 1970 y m d h i s (fun ai bJ cy ed dU cZ dV=>(nt N ai 1 bJ cy ed dU cZ dV (fun sK vz vA Cp vB vC vD=>(some ((AV.tup [.int .i64 (ad ((ad ((ad ((ad ((ad ((ad (sK * 24)) + vB)) * 60)) + vC)) * 60)) + vD)),.bool true]),[])))))))
def It (φ: Int→Int→Int→Int→Int→Int→Br): List AV→List Ob→Br
 | [.agg [.int .i64 y, .int .i64 m, .int .i64 d, .int .i64 h, .int .i64 i, .int .i64 s]],[]=>φ y m d h i s
 | _,_=> .fail
theorem Qz {φ: Int→Int→Int→Int→Int→Int→Br} (fu: Int→Int→Int→Int→Int→Int→Nat) (hv: ∀ y m d h i s res_,(φ y m d h i s).val=some res_→Is (fu y m d h i s) y m d h i s=some res_): Sound Kx 212 (It φ):=ah (C:=sSec_C) (O:=Qr) Tryz.func212 (by kernel_rfl) fun args objs=>by
 unfold It;split
 · rename_i y m d h i s;exact .inr fun _ hyp_=>aL (Λ:=Qy (fu y m d h i s)) (by kernel_rfl) (af (l':=[Qs,Qv]) (by kernel_rfl) ⟨Um _,Un _,trivial⟩) (by kernel_rfl) (hv y m d h i s _ hyp_)
 · exact .inl rfl
def Yi: Opt:={ split:=true }
def Yj: SC:=[⟨130,_,iW⟩,⟨251,_,xp⟩,⟨252,_,sc⟩,⟨253,_,El⟩,⟨254,_,pF⟩,⟨245,_,lT⟩,⟨255,_,xh⟩]
abbrev ip (t: Int):=(((((cut (List.getD vl (Int.toNat (wkP t)) ([]: aa)) 0 3)++([44,32]: aa))++(aJ 2 (cvD t)))++([32]: aa))++(List.getD monL (Int.toNat (ad ((cU t) - 1))) ([]: aa)))
def xw (t: Int): Br:=(.ite (!(dZ t)) (.ret (AV.str ([]: aa)) []) (.ite (dZ t) (.ite (decide (0≤(wkP t))) (.ite (decide ((wkP t) < 7)) (.ite (decide (3≤((List.length (List.getD vl (Int.toNat (wkP t)) ([]: aa))): Int))) (.ite (decide (((List.length (cut (List.getD vl (Int.toNat (wkP t)) ([]: aa)) 0 3)) + 2)≤9223372036854775807)) (.ite (dgB (cvD t) 2) (.ite (decide (((List.length ((cut (List.getD vl (Int.toNat (wkP t)) ([]: aa)) 0 3)++([44,32]: aa))) + (List.length (aJ 2 (cvD t))))≤9223372036854775807)) (.ite (decide (((List.length (((cut (List.getD vl (Int.toNat (wkP t)) ([]: aa)) 0 3)++([44,32]: aa))++(aJ 2 (cvD t)))) + 1)≤9223372036854775807)) (.ite (decide (0≤(ad ((cU t) - 1)))) (.ite (decide ((ad ((cU t) - 1)) < 12)) (.ite (decide (((List.length ((((cut (List.getD vl (Int.toNat (wkP t)) ([]: aa)) 0 3)++([44,32]: aa))++(aJ 2 (cvD t)))++([32]: aa))) + (List.length (List.getD monL (Int.toNat (ad ((cU t) - 1))) ([]: aa))))≤9223372036854775807)) (.ite (decide (((List.length (ip t)) + 1)≤9223372036854775807)) (.ite (dgB (cvY t) 4) (.ite (decide (((List.length ((ip t)++([32]: aa))) + (List.length (aJ 4 (cvY t))))≤9223372036854775807)) (.ite (decide (((List.length (((ip t)++([32]: aa))++(aJ 4 (cvY t)))) + 1)≤9223372036854775807)) (.ite (ce (cvM (cvY t) (cU t) (cvD t) (cvH t) (sT t) (sU t))) (.ite (decide (((List.length ((((ip t)++([32]: aa))++(aJ 4 (cvY t)))++([32]: aa))) + (List.length (ap (cvM (cvY t) (cU t) (cvD t) (cvH t) (sT t) (sU t)))))≤9223372036854775807)) (.ite (decide (((List.length (((((ip t)++([32]: aa))++(aJ 4 (cvY t)))++([32]: aa))++(ap (cvM (cvY t) (cU t) (cvD t) (cvH t) (sT t) (sU t))))) + 4)≤9223372036854775807)) (.ret (AV.str ((((((ip t)++([32]: aa))++(aJ 4 (cvY t)))++([32]: aa))++(ap (cvM (cvY t) (cU t) (cvD t) (cvH t) (sT t) (sU t))))++([32,71,77,84]: aa))) []) .fail) .fail) .fail) .fail) .fail) .fail) .fail) .fail) .fail) .fail) .fail) .fail) .fail) .fail) .fail) .fail) .fail) .fail))
def QA: List AV→List Ob→Br
 | [.int .i64 t],[]=>xw t
 | _,_=> .fail
theorem Uo: Sound Kx 209 QA:=ac (C:=Yj) (O:=Yi) Tryz.func209 (by kernel_rfl) fun args objs=>by
 unfold QA;split
 · exact .inr (by kernel_rfl)
 · exact .inl rfl
def Yk: Opt:={ split:=true }
def Yl: SC:=[⟨130,_,iW⟩,⟨251,_,xp⟩,⟨252,_,sc⟩,⟨253,_,El⟩,⟨254,_,pF⟩,⟨245,_,lT⟩,⟨255,_,xh⟩]
abbrev iq (t: Int):=(((((List.getD vl (Int.toNat (wkP t)) ([]: aa))++([44,32]: aa))++(aJ 2 (cvD t)))++([45]: aa))++(List.getD monL (Int.toNat (ad ((cU t) - 1))) ([]: aa)))
def xx (t: Int): Br:=(.ite (!(dZ t)) (.ret (AV.str ([]: aa)) []) (.ite (dZ t) (.ite (decide (2069 < (cvY t))) (.ret (AV.str ([]: aa)) []) (.ite (dZ t) (.ite (decide (0≤(wkP t))) (.ite (decide ((wkP t) < 7)) (.ite (decide (((List.length (List.getD vl (Int.toNat (wkP t)) ([]: aa))) + 2)≤9223372036854775807)) (.ite (dgB (cvD t) 2) (.ite (decide (((List.length ((List.getD vl (Int.toNat (wkP t)) ([]: aa))++([44,32]: aa))) + (List.length (aJ 2 (cvD t))))≤9223372036854775807)) (.ite (decide (((List.length (((List.getD vl (Int.toNat (wkP t)) ([]: aa))++([44,32]: aa))++(aJ 2 (cvD t)))) + 1)≤9223372036854775807)) (.ite (decide (0≤(ad ((cU t) - 1)))) (.ite (decide ((ad ((cU t) - 1)) < 12)) (.ite (decide (((List.length ((((List.getD vl (Int.toNat (wkP t)) ([]: aa))++([44,32]: aa))++(aJ 2 (cvD t)))++([45]: aa))) + (List.length (List.getD monL (Int.toNat (ad ((cU t) - 1))) ([]: aa))))≤9223372036854775807)) (.ite (decide (((List.length (iq t)) + 1)≤9223372036854775807)) (.ite (dgB (cvY t) 2) (.ite (decide (((List.length ((iq t)++([45]: aa))) + (List.length (aJ 2 (cvY t))))≤9223372036854775807)) (.ite (decide (((List.length (((iq t)++([45]: aa))++(aJ 2 (cvY t)))) + 1)≤9223372036854775807)) (.ite (ce (cvM (cvY t) (cU t) (cvD t) (cvH t) (sT t) (sU t))) (.ite (decide (((List.length ((((iq t)++([45]: aa))++(aJ 2 (cvY t)))++([32]: aa))) + (List.length (ap (cvM (cvY t) (cU t) (cvD t) (cvH t) (sT t) (sU t)))))≤9223372036854775807)) (.ite (decide (((List.length (((((iq t)++([45]: aa))++(aJ 2 (cvY t)))++([32]: aa))++(ap (cvM (cvY t) (cU t) (cvD t) (cvH t) (sT t) (sU t))))) + 4)≤9223372036854775807)) (.ret (AV.str ((((((iq t)++([45]: aa))++(aJ 2 (cvY t)))++([32]: aa))++(ap (cvM (cvY t) (cU t) (cvD t) (cvH t) (sT t) (sU t))))++([32,71,77,84]: aa))) []) .fail) .fail) .fail) .fail) .fail) .fail) .fail) .fail) .fail) .fail) .fail) .fail) .fail) .fail) .fail) .fail) .fail)) .fail))
def QB: List AV→List Ob→Br
 | [.int .i64 t],[]=>xx t
 | _,_=> .fail
theorem Up: Sound Kx 210 QB:=ac (C:=Yl) (O:=Yk) Tryz.func210 (by kernel_rfl) fun args objs=>by
 unfold QB;split
 · exact .inr (by kernel_rfl)
 · exact .inl rfl
def Ym: Opt:={ split:=true }
def Yn: SC:=[⟨130,_,iW⟩,⟨251,_,xp⟩,⟨252,_,sc⟩,⟨253,_,El⟩,⟨254,_,pF⟩,⟨245,_,lT⟩,⟨255,_,xh⟩]
abbrev fR (t: Int):=(((cut (List.getD vl (Int.toNat (wkP t)) ([]: aa)) 0 3)++([32]: aa))++(List.getD monL (Int.toNat (ad ((cU t) - 1))) ([]: aa)))
abbrev jy (t: Int):=(((fR t)++([32]: aa))++(([32]: aa)++(cut (aJ 2 (cvD t)) 1 ((List.length (aJ 2 (cvD t))): Int))))
abbrev dS (t: Int):=(cvM (cvY t) (cU t) (cvD t) (cvH t) (sT t) (sU t))
abbrev xy (t: Int):=(decide (((List.length ((cut (List.getD vl (Int.toNat (wkP t)) ([]: aa)) 0 3)++([32]: aa))) + (List.length (List.getD monL (Int.toNat (ad ((cU t) - 1))) ([]: aa))))≤9223372036854775807))
abbrev lV (t: Int):=((((fR t)++([32]: aa))++(aJ 2 (cvD t)))++([32]: aa))
def xz (t: Int): Br:=(.ite (!(dZ t)) (.ret (AV.str ([]: aa)) []) (.ite (dZ t) (.ite (dgB (cvD t) 2) (.ite (decide ((cvD t) < 10)) (.ite (decide (1≤((List.length (aJ 2 (cvD t))): Int))) (.ite (decide ((1 + (List.length (cut (aJ 2 (cvD t)) 1 ((List.length (aJ 2 (cvD t))): Int))))≤9223372036854775807)) (.ite (decide (0≤(wkP t))) (.ite (decide ((wkP t) < 7)) (.ite (decide (3≤((List.length (List.getD vl (Int.toNat (wkP t)) ([]: aa))): Int))) (.ite (decide (((List.length (cut (List.getD vl (Int.toNat (wkP t)) ([]: aa)) 0 3)) + 1)≤9223372036854775807)) (.ite (decide (0≤(ad ((cU t) - 1)))) (.ite (decide ((ad ((cU t) - 1)) < 12)) (.ite (xy t) (.ite (decide (((List.length (fR t)) + 1)≤9223372036854775807)) (.ite (decide (((List.length ((fR t)++([32]: aa))) + (List.length (([32]: aa)++(cut (aJ 2 (cvD t)) 1 ((List.length (aJ 2 (cvD t))): Int)))))≤9223372036854775807)) (.ite (decide (((List.length (jy t)) + 1)≤9223372036854775807)) (.ite (ce (dS t)) (.ite (decide (((List.length ((jy t)++([32]: aa))) + (List.length (ap (dS t))))≤9223372036854775807)) (.ite (decide (((List.length (((jy t)++([32]: aa))++(ap (dS t)))) + 1)≤9223372036854775807)) (.ite (dgB (cvY t) 4) (.ite (decide (((List.length ((((jy t)++([32]: aa))++(ap (dS t)))++([32]: aa))) + (List.length (aJ 4 (cvY t))))≤9223372036854775807)) (.ret (AV.str (((((jy t)++([32]: aa))++(ap (dS t)))++([32]: aa))++(aJ 4 (cvY t)))) []) .fail) .fail) .fail) .fail) .fail) .fail) .fail) .fail) .fail) .fail) .fail) .fail) .fail) .fail) .fail) .fail) .fail) (.ite (decide (0≤(wkP t))) (.ite (decide ((wkP t) < 7)) (.ite (decide (3≤((List.length (List.getD vl (Int.toNat (wkP t)) ([]: aa))): Int))) (.ite (decide (((List.length (cut (List.getD vl (Int.toNat (wkP t)) ([]: aa)) 0 3)) + 1)≤9223372036854775807)) (.ite (decide (0≤(ad ((cU t) - 1)))) (.ite (decide ((ad ((cU t) - 1)) < 12)) (.ite (xy t) (.ite (decide (((List.length (fR t)) + 1)≤9223372036854775807)) (.ite (decide (((List.length ((fR t)++([32]: aa))) + (List.length (aJ 2 (cvD t))))≤9223372036854775807)) (.ite (decide (((List.length (((fR t)++([32]: aa))++(aJ 2 (cvD t)))) + 1)≤9223372036854775807)) (.ite (ce (dS t)) (.ite (decide (((List.length (lV t)) + (List.length (ap (dS t))))≤9223372036854775807)) (.ite (decide (((List.length ((lV t)++(ap (dS t)))) + 1)≤9223372036854775807)) (.ite (dgB (cvY t) 4) (.ite (decide (((List.length (((lV t)++(ap (dS t)))++([32]: aa))) + (List.length (aJ 4 (cvY t))))≤9223372036854775807)) (.ret (AV.str ((((lV t)++(ap (dS t)))++([32]: aa))++(aJ 4 (cvY t)))) []) .fail) .fail) .fail) .fail) .fail) .fail) .fail) .fail) .fail) .fail) .fail) .fail) .fail) .fail) .fail)) .fail) .fail))
def QC: List AV→List Ob→Br
 | [.int .i64 t],[]=>xz t
 | _,_=> .fail
theorem Uq: Sound Kx 211 QC:=ac (C:=Yn) (O:=Ym) Tryz.func211 (by kernel_rfl) fun args objs=>by
 unfold QC;split
 · exact .inr (by kernel_rfl)
 · exact .inl rfl
def Yo: Opt:={ split:=true }
def Yp: SC:=[⟨215,_,xq⟩,⟨216,_,sd⟩,⟨217,_,Em⟩,⟨218,_,pG⟩,⟨214,_,lU⟩,⟨219,_,xi⟩]
def xA (t: Int): Br:=(.ite (dZ t) (.ite (decide (3≤((List.length (cP (wkP t))): Int))) (.ite (decide (((List.length (cut (cP (wkP t)) 0 3)) + 2)≤9223372036854775807)) (.ite (pdB (cvD t) 2) (.ite (decide (((List.length ((cut (cP (wkP t)) 0 3)++([44,32]: aa))) + (List.length (aJ 2 (cvD t))))≤9223372036854775807)) (.ite (decide (((List.length (((cut (cP (wkP t)) 0 3)++([44,32]: aa))++(aJ 2 (cvD t)))) + 1)≤9223372036854775807)) (.ite (moB (cU t)) (.ite (decide (((List.length ((((cut (cP (wkP t)) 0 3)++([44,32]: aa))++(aJ 2 (cvD t)))++([32]: aa))) + (List.length (cw (cU t))))≤9223372036854775807)) (.ite (decide (((List.length (((((cut (cP (wkP t)) 0 3)++([44,32]: aa))++(aJ 2 (cvD t)))++([32]: aa))++(cw (cU t)))) + 1)≤9223372036854775807)) (.ite (pdB (cvY t) 4) (.ite (decide (((List.length ((((((cut (cP (wkP t)) 0 3)++([44,32]: aa))++(aJ 2 (cvD t)))++([32]: aa))++(cw (cU t)))++([32]: aa))) + (List.length (aJ 4 (cvY t))))≤9223372036854775807)) (.ite (decide (((List.length (((((((cut (cP (wkP t)) 0 3)++([44,32]: aa))++(aJ 2 (cvD t)))++([32]: aa))++(cw (cU t)))++([32]: aa))++(aJ 4 (cvY t)))) + 1)≤9223372036854775807)) (.ite (ce (cvM (cvY t) (cU t) (cvD t) (cvH t) (sT t) (sU t))) (.ite (decide (((List.length ((((((((cut (cP (wkP t)) 0 3)++([44,32]: aa))++(aJ 2 (cvD t)))++([32]: aa))++(cw (cU t)))++([32]: aa))++(aJ 4 (cvY t)))++([32]: aa))) + (List.length (ap (cvM (cvY t) (cU t) (cvD t) (cvH t) (sT t) (sU t)))))≤9223372036854775807)) (.ite (decide (((List.length (((((((((cut (cP (wkP t)) 0 3)++([44,32]: aa))++(aJ 2 (cvD t)))++([32]: aa))++(cw (cU t)))++([32]: aa))++(aJ 4 (cvY t)))++([32]: aa))++(ap (cvM (cvY t) (cU t) (cvD t) (cvH t) (sT t) (sU t))))) + 4)≤9223372036854775807)) (.ret (AV.str ((((((((((cut (cP (wkP t)) 0 3)++([44,32]: aa))++(aJ 2 (cvD t)))++([32]: aa))++(cw (cU t)))++([32]: aa))++(aJ 4 (cvY t)))++([32]: aa))++(ap (cvM (cvY t) (cU t) (cvD t) (cvH t) (sT t) (sU t))))++([32,71,77,84]: aa))) []) .fail) .fail) .fail) .fail) .fail) .fail) .fail) .fail) .fail) .fail) .fail) .fail) .fail) .fail) (.ret (AV.str ([]: aa)) []))
def QD: List AV→List Ob→Br
 | [.int .i64 t],[]=>xA t
 | _,_=> .fail
theorem Us: Sound Kx 155 QD:=ac (C:=Yp) (O:=Yo) Tryz.func155 (by kernel_rfl) fun args objs=>by
 unfold QD;split
 · exact .inr (by kernel_rfl)
 · exact .inl rfl
def Iu: Opt:={ live:=[(2,[0,5,6,7])],outs:=[(2,[2])] }
def iMonIn_C: SC:=[⟨245,_,lT⟩,⟨246,_,Yh⟩]
def lW (ay: aa) (aB cF: Int) (jD: (List aa)) (kR2: aa→Int→Int→(List aa)→OR') (cf: Int→OR') (cO: OR'): OR':=
 (bif (decide (cF < aB)) then (bif (decide (0≤cF)) then (bif (decide (cF < (jD.length: Int))) then (bif (decide (ay.length≤1000000)) then (bif (mW ay (List.getD jD (Int.toNat cF) ([]: aa))) then (cf (ad (cF + 1))) else (kR2 ay aB (ad (cF + 1)) jD)) else none) else none) else none) else cO)
def gE: Nat→aa→Int→Int→(List aa)→(Int→OR')→(OR')→OR'
 | 0,_,_,_,_,_,_=>none
 | n + 1,ay,aB,cF,jD,cf,cO=>lW ay aB cF jD (fun ay aB cF jD=>gE n ay aB cF jD cf cO) cf cO
abbrev iMonIn_p2: SP:=⟨18,[0,5,6,7],[(.v .s),(.v (.ref 384 0)),(.v (.i .i64)),(.v (.i .i64))],[(384, .arr Ty.str 0 false)]⟩
noncomputable def BM: Code:=ar (aC Tryz.f206) [1,0,1,0,0]
def BN (f: (Int→OR')→(OR')→OR') (k: KT): OR':=f (fun bO=>k Ex.ret ((St.mk (aA 0 18 [(2,(AV.int .i64 bO))]) ([]: (List (Nat×(Ob))))))) (k (Ex.exit 0) ((St.mk (aA 0 18 []) ([]: (List (Nat×(Ob)))))))
def BO (n: Nat) (d: iMonIn_p2.D): KT→OR':=BN (gE n d.1.1 d.1.2.2.1 d.1.2.2.2.1 d.2.1)
def Iv (N: Nat): Lam:=bI [⟨2,iMonIn_p2,BO N⟩]
theorem K2 (N: Nat): OkL Kx iMonIn_C.s Iu 0 N (Iv N) BM:=okL iMonIn_p2 (BO) (fun d kR=>BN (lW d.1.1 d.1.2.2.1 d.1.2.2.2.1 d.2.1 (fun ay aB cF jD=>kR ((ay,(),aB,cF,()),(jD,()))))) (fun _ _=>by kernel_rfl) (fun _ _ _=>by kernel_rfl) (fun _ _=>by kernel_rfl) (fun _ _ _ _=>by kernel_rfl) (af (l':=[]) (by kernel_rfl) trivial)
def vm (N: Nat) (s: aa): OR':=(gE N s 12 0 monL (fun bO=>(some ((AV.int .i64 bO),[]))) (some ((AV.int .i64 0),[])))
def vn (φ: aa→Br): List AV→List Ob→Br
 | [.str s],[]=>φ s
 | _,_=> .fail
theorem Ep {φ: aa→Br} (fu: aa→Nat) (hv: ∀ s res_,(φ s).val=some res_→vm (fu s) s=some res_): Sound Kx 206 (vn φ):=ah (C:=iMonIn_C) (O:=Iu) Tryz.func206 (by kernel_rfl) fun args objs=>by
 unfold vn;split
 · rename_i s;exact .inr fun _ hyp_=>aL (Λ:=Iv (fu s)) (by kernel_rfl) (af (l':=[BM]) (by kernel_rfl) ⟨K2 _,trivial⟩) (by kernel_rfl) (hv s _ hyp_)
 · exact .inl rfl
def Iw: Opt:={ live:=[(2,[0,3])],outs:=[(2,[2])] }
def sMonth_C: SC:=[⟨214,_,lU⟩]
def lX (ay: aa) (aB: Int) (kR2: aa→Int→OR') (cf: Int→OR') (cO: OR'): OR':=
 (bif (decide (aB≤12)) then (bif (moB aB) then (bif (decide ((cw aB)=ay)) then (cf aB) else (kR2 ay (ad (aB + 1)))) else none) else cO)
def gF: Nat→aa→Int→(Int→OR')→(OR')→OR'
 | 0,_,_,_,_=>none
 | n + 1,ay,aB,cf,cO=>lX ay aB (fun ay aB=>gF n ay aB cf cO) cf cO
abbrev sMonth_p2: SP:=⟨13,[0,3],[(.v .s),(.v (.i .i64))],[]⟩
noncomputable def BP: Code:=ar (aC Tryz.f154) [1,0,1,0,0]
def BQ (f: (Int→OR')→(OR')→OR') (k: KT): OR':=f (fun bO=>k Ex.ret ((St.mk (aA 0 13 [(2,(AV.int .i64 bO))]) ([]: (List (Nat×(Ob))))))) (k (Ex.exit 0) ((St.mk (aA 0 13 []) ([]: (List (Nat×(Ob)))))))
def BR (n: Nat) (d: sMonth_p2.D): KT→OR':=BQ (gF n d.1.1 d.1.2.1)
def Ix (N: Nat): Lam:=bI [⟨2,sMonth_p2,BR N⟩]
theorem K3 (N: Nat): OkL Kx sMonth_C.s Iw 0 N (Ix N) BP:=okL sMonth_p2 (BR) (fun d kR=>BQ (lX d.1.1 d.1.2.1 (fun ay aB=>kR ((ay,aB,()),())))) (fun _ _=>by kernel_rfl) (fun _ _ _=>by kernel_rfl) (fun _ _=>by kernel_rfl) (fun _ _ _ _=>by kernel_rfl) (af (l':=[]) (by kernel_rfl) trivial)
def vo (N: Nat) (s: aa): OR':=(gF N s 1 (fun bO=>(some ((AV.int .i64 bO),[]))) (some ((AV.int .i64 (-1)),[])))
def vp (φ: aa→Br): List AV→List Ob→Br
 | [.str s],[]=>φ s
 | _,_=> .fail
theorem Er {φ: aa→Br} (fu: aa→Nat) (hv: ∀ s res_,(φ s).val=some res_→vo (fu s) s=some res_): Sound Kx 154 (vp φ):=ah (C:=sMonth_C) (O:=Iw) Tryz.func154 (by kernel_rfl) fun args objs=>by
 unfold vp;split
 · rename_i s;exact .inr fun _ hyp_=>aL (Λ:=Ix (fu s)) (by kernel_rfl) (af (l':=[BP]) (by kernel_rfl) ⟨K3 _,trivial⟩) (by kernel_rfl) (hv s _ hyp_)
 · exact .inl rfl
theorem aaW {t: Int} (h: dZ t=true): 0≤wdP t∧wdP t < 7:=by
 unfold wdP;omega
theorem Yq {w: Int} (h0: 0≤w) (h1: w < 7): List.getD vl w.toNat []=cP w:=by
 have: w=0∨w=1∨w=2∨w=3∨w=4∨w=5∨w=6:=by omega
 rcases this with rfl | rfl | rfl | rfl | rfl | rfl | rfl <;> rfl
theorem QE {m: Int} (h0: 1≤m) (h1: m≤12): List.getD monL (m - 1).toNat []=cw m:=by
 rcases dR h0 h1 with rfl | rfl | rfl | rfl | rfl | rfl | rfl | rfl | rfl | rfl | rfl | rfl <;> rfl
theorem K4 (s: aa): Ev.cut s 0 3=s.take 3:=by unfold Ev.cut;simp
structure CivF (t: Int): Prop where
 wk: wkP t=wdP t
 d0: decide ((0 : Int)≤wdP t)=true
 d1: decide (wdP t < (7 : Int))=true
 dg: List.getD vl (wdP t).toNat ([]: aa)=cP (wdP t)
 m0: decide ((0 : Int)≤cU t - 1)=true
 m1: decide (cU t - 1 < (12 : Int))=true
 mw: ad (cU t - 1)=cU t - 1
 mg: List.getD monL (cU t - 1).toNat ([]: aa)=cw (cU t)
 ml: (cw (cU t)).length=3
 mb: moB (cU t)=true
 cl: (ap (cvM (cvY t) (cU t) (cvD t) (cvH t) (sT t) (sU t))).length=8
 ok: ce (cvM (cvY t) (cU t) (cvD t) (cvH t) (sT t) (sU t))=true
 g1: dgB (cvD t) 2=true
 g2: dgB (cvY t) 4=true
 g3: dgB (cvY t) 2=true
 p1: pdB (cvD t) 2=true
 p2: pdB (cvY t) 4=true
 p3: pdB (cvY t % 100) 2=true
theorem Zh {t: Int} (h: dZ t=true): CivF t:=by
 obtain ⟨hk,_⟩:=uB h
 obtain ⟨⟨h1,h2⟩,⟨h3,h4⟩,_⟩:=bG hk
 obtain ⟨w0,w1⟩:=aaW h
 obtain ⟨⟨_,_,_,g1,g2,g3⟩,⟨_,_,_,p1,p2,p3⟩⟩:=xg hk
 have h3': 1≤cU t:=h3
 have h4': cU t≤12:=h4
 exact ⟨by unfold wkP;rw [h];rfl,dT' w0,dT' w1,Yq w0 w1,dT' (by omega),dT' (by omega),w64 (by omega) (by omega),QE h3' h4',ky h3' h4',
  by unfold moB;rw [dT' h3',dT' h4'];rfl,eG _,hk,g1,g2,g3,p1,p2,p3⟩
theorem QF: Sound Kx 209 (BI (fun _=>true) fun t=> .str (dO t)):=nj Uo fun t _=>by
 show (xw t).val=some (.str (dO t),[])
 unfold xw dO ip
 cases h: dZ t
 · rfl
 have F:=Zh h
 have dl:=eZ (wdP t)
 have dl2:=iV (wdP t)
 have e3: decide ((3 : Int)≤((cP (wdP t)).length: Int))=true:=dT' (by omega)
 simp only [F.wk,F.d0,F.d1,F.dg,F.mw,F.m0,F.m1,F.mg,F.ml,F.cl,F.ok,F.g1,F.g2,F.g3,e3,K4,dl,List.length_append,aW,List.length_cons,List.length_nil,Br.val,Bool.not_true]
 simp [eJ,pp,List.append_assoc,iY,Br.val,cvD,cU,cvY]
 rfl
theorem QG: Sound Kx 210 (BI (fun _=>true) fun t=> .str (dP t)):=nj Up fun t _=>by
 show (xx t).val=some (.str (dP t),[])
 unfold xx dP iq
 cases h: dZ t
 · rfl
 have F:=Zh h
 have dl2:=iV (wdP t)
 by_cases c: cvY t≤2069
 · have e1: decide (2069 < cvY t)=false:=dF' (by omega)
   have e2: decide ((mv t).y≤2069)=true:=dT' c
   have e3: ∀ k: Nat,9≤k→decide ((cP (wdP t)).length≤k)=true:=fun k hk=>dT' (by omega)
   rw [e2]
   simp only [F.wk,F.d0,F.d1,F.dg,F.mw,F.m0,F.m1,F.mg,F.ml,F.cl,F.ok,F.g1,F.g2,F.g3,e1,List.length_append,aW,List.length_cons,List.length_nil,Br.val,Bool.not_true,Nat.add_assoc]
   simp (disch:=omega) [e3,f5,pp,List.append_assoc,iY,Br.val,cvD,cU,cvY]
   rfl
 · have e1: decide (2069 < cvY t)=true:=dT' (by omega)
   have e2: decide ((mv t).y≤2069)=false:=dF' c
   rw [e1,e2];rfl
theorem acY (n: Int): Ev.cut (aJ 2 n) 1 2=[dg n]:=rfl
theorem aaX (n: Int): Ev.cut (aJ 2 n) 1 ((aJ 2 n).length: Int)=[dg n]:=by
 rw [aW];rfl
theorem QH: Sound Kx 211 (BI (fun _=>true) fun t=> .str (eF t)):=nj Uq fun t _=>by
 show (xz t).val=some (.str (eF t),[])
 unfold xz eF lV xy dS jy fR
 cases h: dZ t
 · rfl
 have F:=Zh h
 have dl:=eZ (wdP t)
 have dl2:=iV (wdP t)
 have e3: decide ((3 : Int)≤((cP (wdP t)).length: Int))=true:=dT' (by omega)
 have hd: fH (wdP t) (mv t)=(cP (wdP t)).take 3++32::cw (cU t)++32::mU (cvD t)++32::ap (mv t)++32::aJ 4 (cvY t):=rfl
 rw [hd]
 by_cases c: cvD t < 10
 · have e1: decide (cvD t < 10)=true:=dT' c
   have e2: mU (cvD t)=[32,dg (cvD t)]:=by unfold mU;rw [e1];rfl
   have e4: decide ((1 : Int)≤(((aJ 2 (cvD t)).length: Nat): Int))=true:=by rw [aW];rfl
   rw [e2]
   simp only [F.wk,F.d0,F.d1,F.dg,F.mw,F.m0,F.m1,F.mg,F.ml,F.cl,F.ok,F.g1,F.g2,F.g3,e1,e3,e4,K4,aaX,dl,List.length_append,aW,List.length_cons,List.length_nil,Br.val,Bool.not_true]
   simp [List.append_assoc,iY,Br.val,acY]
 · have e1: decide (cvD t < 10)=false:=dF' c
   have e2: mU (cvD t)=aJ 2 (cvD t):=by unfold mU;rw [e1];rfl
   rw [e2]
   simp only [F.wk,F.d0,F.d1,F.dg,F.mw,F.m0,F.m1,F.mg,F.ml,F.cl,F.ok,F.g1,F.g2,F.g3,e1,e3,K4,dl,List.length_append,aW,List.length_cons,List.length_nil,Br.val,Bool.not_true]
   simp [List.append_assoc,iY,Br.val]
theorem BS: Sound Kx 155 (BI (fun _=>true) fun t=> .str (dO t)):=nj Us fun t _=>by
 show (xA t).val=some (.str (dO t),[])
 unfold xA dO
 cases h: dZ t
 · rfl
 have F:=Zh h
 have dl:=eZ (wdP t)
 have dl2:=iV (wdP t)
 have e3: decide ((3 : Int)≤((cP (wdP t)).length: Int))=true:=dT' (by omega)
 simp only [F.wk,F.d0,F.d1,F.mb,F.ml,F.cl,F.ok,F.p1,F.p2,F.p3,e3,K4,dl,List.length_append,aW,List.length_cons,List.length_nil,Br.val,Bool.not_true]
 simp [eJ,pp,List.append_assoc,iY,Br.val,cvD,cU,cvY]
 rfl
def Yr: Opt:={ split:=true }
def Ys: SC:=[⟨215,_,xq⟩,⟨216,_,sd⟩,⟨217,_,Em⟩,⟨218,_,pG⟩,⟨214,_,lU⟩,⟨219,_,xi⟩]
def xB (t: Int): Br:=(.ite (dZ t) (.ite (decide (2069 < (cvY t))) (.ret (AV.str ([]: aa)) []) (.ite (decide (((List.length (cP (wkP t))) + 2)≤9223372036854775807)) (.ite (pdB (cvD t) 2) (.ite (decide (((List.length ((cP (wkP t))++([44,32]: aa))) + (List.length (aJ 2 (cvD t))))≤9223372036854775807)) (.ite (decide (((List.length (((cP (wkP t))++([44,32]: aa))++(aJ 2 (cvD t)))) + 1)≤9223372036854775807)) (.ite (moB (cU t)) (.ite (decide (((List.length ((((cP (wkP t))++([44,32]: aa))++(aJ 2 (cvD t)))++([45]: aa))) + (List.length (cw (cU t))))≤9223372036854775807)) (.ite (decide (((List.length (((((cP (wkP t))++([44,32]: aa))++(aJ 2 (cvD t)))++([45]: aa))++(cw (cU t)))) + 1)≤9223372036854775807)) (.ite (pdB (Int.tmod (cvY t) 100) 2) (.ite (decide (((List.length ((((((cP (wkP t))++([44,32]: aa))++(aJ 2 (cvD t)))++([45]: aa))++(cw (cU t)))++([45]: aa))) + (List.length (aJ 2 (Int.tmod (cvY t) 100))))≤9223372036854775807)) (.ite (decide (((List.length (((((((cP (wkP t))++([44,32]: aa))++(aJ 2 (cvD t)))++([45]: aa))++(cw (cU t)))++([45]: aa))++(aJ 2 (Int.tmod (cvY t) 100)))) + 1)≤9223372036854775807)) (.ite (ce (cvM (cvY t) (cU t) (cvD t) (cvH t) (sT t) (sU t))) (.ite (decide (((List.length ((((((((cP (wkP t))++([44,32]: aa))++(aJ 2 (cvD t)))++([45]: aa))++(cw (cU t)))++([45]: aa))++(aJ 2 (Int.tmod (cvY t) 100)))++([32]: aa))) + (List.length (ap (cvM (cvY t) (cU t) (cvD t) (cvH t) (sT t) (sU t)))))≤9223372036854775807)) (.ite (decide (((List.length (((((((((cP (wkP t))++([44,32]: aa))++(aJ 2 (cvD t)))++([45]: aa))++(cw (cU t)))++([45]: aa))++(aJ 2 (Int.tmod (cvY t) 100)))++([32]: aa))++(ap (cvM (cvY t) (cU t) (cvD t) (cvH t) (sT t) (sU t))))) + 4)≤9223372036854775807)) (.ret (AV.str ((((((((((cP (wkP t))++([44,32]: aa))++(aJ 2 (cvD t)))++([45]: aa))++(cw (cU t)))++([45]: aa))++(aJ 2 (Int.tmod (cvY t) 100)))++([32]: aa))++(ap (cvM (cvY t) (cU t) (cvD t) (cvH t) (sT t) (sU t))))++([32,71,77,84]: aa))) []) .fail) .fail) .fail) .fail) .fail) .fail) .fail) .fail) .fail) .fail) .fail) .fail) .fail)) (.ret (AV.str ([]: aa)) []))
def QI: List AV→List Ob→Br
 | [.int .i64 t],[]=>xB t
 | _,_=> .fail
theorem Ut: Sound Kx 157 QI:=ac (C:=Ys) (O:=Yr) Tryz.func157 (by kernel_rfl) fun args objs=>by
 unfold QI;split
 · exact .inr (by kernel_rfl)
 · exact .inl rfl
def Yt: Opt:={ split:=true }
def Yu: SC:=[⟨215,_,xq⟩,⟨216,_,sd⟩,⟨217,_,Em⟩,⟨218,_,pG⟩,⟨214,_,lU⟩,⟨219,_,xi⟩,⟨191,_,mR⟩]
abbrev ez (t: Int):=((((cut (cP (wkP t)) 0 3)++([32]: aa))++(cw (cU t)))++([32]: aa))
abbrev dT (t: Int):=(cvM (cvY t) (cU t) (cvD t) (cvH t) (sT t) (sU t))
abbrev lY (t: Int):=(((ez t)++(([32]: aa)++(bR (cvD t))))++([32]: aa))
def xC (t: Int): Br:=(.ite (dZ t) (.ite (pdB (cvD t) 2) (.ite (decide ((cvD t) < 10)) (.ite (bw (cvD t)) (.ite (decide ((1 + (List.length (bR (cvD t))))≤9223372036854775807)) (.ite (decide (3≤((List.length (cP (wkP t))): Int))) (.ite (decide (((List.length (cut (cP (wkP t)) 0 3)) + 1)≤9223372036854775807)) (.ite (moB (cU t)) (.ite (decide (((List.length ((cut (cP (wkP t)) 0 3)++([32]: aa))) + (List.length (cw (cU t))))≤9223372036854775807)) (.ite (decide (((List.length (((cut (cP (wkP t)) 0 3)++([32]: aa))++(cw (cU t)))) + 1)≤9223372036854775807)) (.ite (decide (((List.length (ez t)) + (List.length (([32]: aa)++(bR (cvD t)))))≤9223372036854775807)) (.ite (decide (((List.length ((ez t)++(([32]: aa)++(bR (cvD t))))) + 1)≤9223372036854775807)) (.ite (ce (dT t)) (.ite (decide (((List.length (lY t)) + (List.length (ap (dT t))))≤9223372036854775807)) (.ite (decide (((List.length ((lY t)++(ap (dT t)))) + 1)≤9223372036854775807)) (.ite (pdB (cvY t) 4) (.ite (decide (((List.length (((lY t)++(ap (dT t)))++([32]: aa))) + (List.length (aJ 4 (cvY t))))≤9223372036854775807)) (.ret (AV.str ((((lY t)++(ap (dT t)))++([32]: aa))++(aJ 4 (cvY t)))) []) .fail) .fail) .fail) .fail) .fail) .fail) .fail) .fail) .fail) .fail) .fail) .fail) .fail) .fail) (.ite (decide (3≤((List.length (cP (wkP t))): Int))) (.ite (decide (((List.length (cut (cP (wkP t)) 0 3)) + 1)≤9223372036854775807)) (.ite (moB (cU t)) (.ite (decide (((List.length ((cut (cP (wkP t)) 0 3)++([32]: aa))) + (List.length (cw (cU t))))≤9223372036854775807)) (.ite (decide (((List.length (((cut (cP (wkP t)) 0 3)++([32]: aa))++(cw (cU t)))) + 1)≤9223372036854775807)) (.ite (decide (((List.length (ez t)) + (List.length (aJ 2 (cvD t))))≤9223372036854775807)) (.ite (decide (((List.length ((ez t)++(aJ 2 (cvD t)))) + 1)≤9223372036854775807)) (.ite (ce (dT t)) (.ite (decide (((List.length (((ez t)++(aJ 2 (cvD t)))++([32]: aa))) + (List.length (ap (dT t))))≤9223372036854775807)) (.ite (decide (((List.length ((((ez t)++(aJ 2 (cvD t)))++([32]: aa))++(ap (dT t)))) + 1)≤9223372036854775807)) (.ite (pdB (cvY t) 4) (.ite (decide (((List.length (((((ez t)++(aJ 2 (cvD t)))++([32]: aa))++(ap (dT t)))++([32]: aa))) + (List.length (aJ 4 (cvY t))))≤9223372036854775807)) (.ret (AV.str ((((((ez t)++(aJ 2 (cvD t)))++([32]: aa))++(ap (dT t)))++([32]: aa))++(aJ 4 (cvY t)))) []) .fail) .fail) .fail) .fail) .fail) .fail) .fail) .fail) .fail) .fail) .fail) .fail)) .fail) (.ret (AV.str ([]: aa)) []))
def QJ: List AV→List Ob→Br
 | [.int .i64 t],[]=>xC t
 | _,_=> .fail
theorem Uu: Sound Kx 156 QJ:=ac (C:=Yu) (O:=Yt) Tryz.func156 (by kernel_rfl) fun args objs=>by
 unfold QJ;split
 · exact .inr (by kernel_rfl)
 · exact .inl rfl
theorem aaY {t: Int} (h: dZ t=true): Int.tmod (cvY t) 100=cvY t % 100:=by
 obtain ⟨hk,_⟩:=uB h
 obtain ⟨⟨h1,h2⟩,_⟩:=bG hk
 exact Int.tmod_eq_emod_of_nonneg (show 0≤cvY t from by have: 1970≤cvY t:=h1;omega)
theorem BT: Sound Kx 157 (BI (fun _=>true) fun t=> .str (dP t)):=nj Ut fun t _=>by
 show (xB t).val=some (.str (dP t),[])
 unfold xB dP
 cases h: dZ t
 · rfl
 have F:=Zh h
 have dl2:=iV (wdP t)
 have hm:=aaY h
 have hp: aJ 2 (cvY t % 100)=aJ 2 (cvY t):=(DP _).symm
 by_cases c: cvY t≤2069
 · have e1: decide (2069 < cvY t)=false:=dF' (by omega)
   have e2: decide ((mv t).y≤2069)=true:=dT' c
   have e3: ∀ k: Nat,9≤k→decide ((cP (wdP t)).length≤k)=true:=fun k hk=>dT' (by omega)
   rw [e2]
   simp only [F.wk,F.d0,F.d1,hm,hp,F.mb,F.ml,F.cl,F.ok,F.p1,F.p2,F.p3,e1,List.length_append,aW,List.length_cons,List.length_nil,Br.val,Bool.not_true,Nat.add_assoc]
   simp (disch:=omega) [e3,f5,pp,List.append_assoc,iY,Br.val,cvD,cU,cvY]
   rfl
 · have e1: decide (2069 < cvY t)=true:=dT' (by omega)
   have e2: decide ((mv t).y≤2069)=false:=dF' c
   rw [e1,e2];rfl
theorem BU: Sound Kx 156 (BI (fun _=>true) fun t=> .str (eF t)):=nj Uu fun t _=>by
 show (xC t).val=some (.str (eF t),[])
 unfold xC eF lY dT ez
 cases h: dZ t
 · rfl
 have F:=Zh h
 have dl:=eZ (wdP t)
 have dl2:=iV (wdP t)
 have e3: decide ((3 : Int)≤((cP (wdP t)).length: Int))=true:=dT' (by omega)
 obtain ⟨hk,_⟩:=uB h
 obtain ⟨_,_,⟨d1,d2⟩,_⟩:=bG hk
 have d1': 1≤cvD t:=d1
 have hd: fH (wdP t) (mv t)=(cP (wdP t)).take 3++32::cw (cU t)++32::mU (cvD t)++32::ap (mv t)++32::aJ 4 (cvY t):=rfl
 rw [hd]
 by_cases c: cvD t < 10
 · have e1: decide (cvD t < 10)=true:=dT' c
   have e2: mU (cvD t)=[32,dg (cvD t)]:=by unfold mU;rw [e1];rfl
   have e5: bR (cvD t)=[dg (cvD t)]:=by
    have:=Ed (n:=cvD t)
    rw [show cvD t % 10=cvD t by omega] at this
    exact this
   have e6: bw (cvD t)=true:=by unfold bw;rw [dT' (by omega),dT' (by omega)];rfl
   rw [e2]
   simp only [F.wk,F.d0,F.d1,e5,e6,F.mb,F.ml,F.cl,F.ok,F.p1,F.p2,F.p3,e1,e3,K4,dl,List.length_append,aW,List.length_cons,List.length_nil,Br.val,Bool.not_true]
   simp [List.append_assoc,iY,Br.val]
 · have e1: decide (cvD t < 10)=false:=dF' c
   have e2: mU (cvD t)=aJ 2 (cvD t):=by unfold mU;rw [e1];rfl
   rw [e2]
   simp only [F.wk,F.d0,F.d1,F.mb,F.ml,F.cl,F.ok,F.p1,F.p2,F.p3,e1,e3,K4,dl,List.length_append,aW,List.length_cons,List.length_nil,Br.val,Bool.not_true]
   simp [List.append_assoc,iY,Br.val]
theorem K5 (y m d h i s: Int) (hy2: y≤9999) (K: Int→Int→Int→Int→Int→Int→Int→OR'): ∀ (j: Nat) (acc yy: Int) (n: Nat),y - yy=j→1970≤yy→j < n→ -10000000≤acc - dB yy→acc - dB yy≤10000000→
 ns n acc yy y m d h i s K=K (acc - dB yy + dB y) y m d h i s:=by
 intro j;induction j with
 | zero=>
   intro acc yy n hj h1 hn b0 b1;obtain ⟨n,rfl⟩:=bH hn;unfold ns xr
   obtain rfl: yy=y:=by omega
   rw [dF' (by omega),cond_false,show acc - dB yy + dB yy=acc by omega]
 | succ j ih=>
   intro acc yy n hj h1 hn b0 b1;obtain ⟨n,rfl⟩:=bH hn
   have hs:=rt yy
   have hb:=mS yy
   have hd:=Eo h1 (by omega)
   unfold ns xr
   rw [dT' (show yy < y by omega),fQ (by omega) (by omega),cond_true,cond_true,w64 (n:=acc + pm yy) (by omega) (by omega),w64 (n:=yy + 1) (by omega) (by omega)]
   refine (ih (acc + pm yy) (yy + 1) n (by omega) (by omega) (by omega) (by rw [hs];omega) (by rw [hs];omega)).trans ?_
   rw [hs]
   congr 1
   omega
theorem K6 (y M d h i s: Int) (hy: 1970≤y) (hy2: y≤9999) (hM: M≤12) (K: Int→Int→Int→Int→Int→Int→Int→OR'): ∀ (j: Nat) (acc mo: Int) (n: Nat),M - mo=j→1≤mo→j < n→ -10000000≤acc - mB y (mo - 1).toNat→acc - mB y (mo - 1).toNat≤10000000→
 nt n acc mo y M d h i s K=K (acc - mB y (mo - 1).toNat + mB y (M - 1).toNat) y M d h i s:=by
 intro j;induction j with
 | zero=>
   intro acc mo n hj h1 hn b0 b1;obtain ⟨n,rfl⟩:=bH hn;unfold nt xu
   obtain rfl: mo=M:=by omega
   rw [dF' (by omega),cond_false,show acc - mB y (mo - 1).toNat + mB y (mo - 1).toNat=acc by omega]
 | succ j ih=>
   intro acc mo n hj h1 hn b0 b1;obtain ⟨n,rfl⟩:=bH hn
   have hs:=iT y mo h1
   have hb:=kq y mo
   have hc:=xo y (mo - 1).toNat
   unfold nt xu
   rw [dT' (show mo < M by omega),fQ (by omega) (by omega),cond_true,cond_true,w64 (n:=acc + iF y mo) (by omega) (by omega),w64 (n:=mo + 1) (by omega) (by omega)]
   have e: (mo + 1 - 1).toNat=mo.toNat:=by congr 1;omega
   refine (ih (acc + iF y mo) (mo + 1) n (by omega) (by omega) (by omega) (by rw [e,hs];omega) (by rw [e,hs];omega)).trans ?_
   rw [e,hs]
   congr 1
   omega
theorem K7 {y m d h i s: Int} (hk: ce ⟨y,m,d,h,i,s⟩=true): ad ((ad ((ad ((ad ((ad ((ad ((d - 1 + dB y + mB y (m - 1).toNat) * 24)) + h)) * 60)) + i)) * 60)) + s)=Ar ⟨y,m,d,h,i,s⟩:=by
 obtain ⟨⟨h1,h2⟩,⟨h3,h4⟩,⟨h5,h6⟩,⟨h7,h8⟩,⟨h9,h10⟩,⟨h11,h12⟩⟩:=bG hk
 simp only at h1 h2 h3 h4 h5 h6 h7 h8 h9 h10 h11 h12
 have hd:=Eo h1 h2
 have hm:=xo y (m - 1).toNat
 have hm2: ((m - 1).toNat: Int)≤11:=by omega
 unfold Ar
 simp only
 generalize dB y=a at *
 generalize mB y (m - 1).toNat=b at *
 rw [w64 (n:=(d - 1 + a + b) * 24) (by omega) (by omega),w64 (n:=(d - 1 + a + b) * 24 + h) (by omega) (by omega),w64 (n:=((d - 1 + a + b) * 24 + h) * 60) (by omega) (by omega),w64 (n:=((d - 1 + a + b) * 24 + h) * 60 + i) (by omega) (by omega),
  w64 (n:=(((d - 1 + a + b) * 24 + h) * 60 + i) * 60) (by omega) (by omega),w64 (by omega) (by omega)]
 omega
theorem Uv: Sound Kx 212 (RU (fun _=>true) (Zg iG)):=by
 refine (Qz (φ:=fun y m d h i s=> .ret (Zg iG ⟨y,m,d,h,i,s⟩) []) (fun _ _ _ _ _ _=>10020) fun y m d h i s r hv=>?_).of fun args objs r hv=>?_
 · cases hv
   unfold Is
   show (bif !ce ⟨y,m,d,h,i,s⟩ then _ else _)=_
   unfold Zg iG
   cases hk: ce ⟨y,m,d,h,i,s⟩
   · rfl
   · obtain ⟨⟨h1,h2⟩,⟨h3,h4⟩,⟨h5,h6⟩,_⟩:=bG hk
     simp only at h1 h2 h3 h4 h5 h6
     have hd:=Eo h1 h2
     simp only [Bool.not_true,cond_false]
     have l5:=fun K=>K5 y m d h i s h2 K (y - 1970).toNat (d - 1) 1970 10020 (by omega) (by omega) (by omega) (by rw [kr];omega) (by rw [kr];omega)
     rw [kr,Int.sub_zero] at l5
     have e0: mB y (1 - 1 : Int).toNat=0:=rfl
     have l9:=fun K=>K6 y m d h i s h1 h2 h4 K (m - 1).toNat (d - 1 + dB y) 1 10020 (by omega) (by omega) (by omega) (by rw [e0];omega) (by rw [e0];omega)
     rw [e0,Int.sub_zero] at l9
     rw [w64 (n:=d - 1) (by omega) (by omega),l5,l9,K7 hk]
     rfl
 · unfold RU at hv;split at hv
   · obtain ⟨_,h2⟩:=ae hv
     exact h2
   · cases hv
def acg (g: aa→Bool) (p: aa→AV): List AV→List Ob→Br
 | [.str s],[]=> .ite (g s) (.ret (p s) []) .fail
 | _,_=> .fail
def ach (s: aa): Nat→Int→Int
 | 0,_=>0
 | j + 1,m=>bif mW s (cw m) then m else ach s j (m + 1)
theorem aaZ (s: aa): G7 s=ach s 12 1:=rfl
def aci (s: aa): Nat→Int→Int
 | 0,_=> -1
 | j + 1,m=>bif decide (cw m=s) then m else aci s j (m + 1)
theorem aa0 (s: aa): DQ s=aci s 12 1:=rfl
theorem Es (s: aa) (hl: s.length≤1000000) (K: Int→OR'): ∀ (j: Nat) (m: Int) (n: Nat),m + j=13→1≤m→j < n→gE n s 12 (m - 1) monL K (K 0)=K (ach s j m):=by
 intro j;induction j with
 | zero=>
   intro m n hj h1 hn;obtain ⟨n,rfl⟩:=bH hn;unfold gE lW
   rw [dF' (by omega)];rfl
 | succ j ih=>
   intro m n hj h1 hn;obtain ⟨n,rfl⟩:=bH hn
   have e1: decide (m - 1 < ((monL.length: Nat): Int))=true:=dT' (by show m - 1 < 12;omega)
   unfold gE lW
   rw [dT' (show m - 1 < 12 by omega),dT' (show 0≤m - 1 by omega),e1,dT' hl,QE h1 (by omega),w64 (n:=m - 1 + 1) (by omega) (by omega)]
   simp only [cond_true]
   have hr:=ih (m + 1) n (by omega) (by omega) (by omega)
   rw [show m + 1 - 1=m - 1 + 1 by omega] at hr
   rw [hr,ach,show m - 1 + 1=m by omega]
   cases mW s (cw m) <;> rfl
theorem K8: Sound Kx 206 (acg (fun s=>decide (s.length≤1000000)) fun s=> .int .i64 (G7 s)):=by
 refine (Ep (φ:=fun s=> .ite (decide (s.length≤1000000)) (.ret (.int .i64 (G7 s)) []) .fail) (fun _=>20) fun s r hv=>?_).of fun args objs r hv=>?_
 · obtain ⟨h1,h2⟩:=ae hv
   cases h2
   unfold vm
   rw [aaZ]
   exact Es s (of_decide_eq_true h1) (fun x=>some (.int .i64 x,[])) 12 1 20 (by omega) (by omega) (by omega)
 · unfold acg at hv;split at hv
   · exact hv
   · cases hv
theorem Et (s: aa) (K: Int→OR'): ∀ (j: Nat) (m: Int) (n: Nat),m + j=13→1≤m→j < n→gF n s m K (K (-1))=K (aci s j m):=by
 intro j;induction j with
 | zero=>
   intro m n hj h1 hn;obtain ⟨n,rfl⟩:=bH hn;unfold gF lX
   rw [dF' (by omega)];rfl
 | succ j ih=>
   intro m n hj h1 hn;obtain ⟨n,rfl⟩:=bH hn
   have e1: moB m=true:=by unfold moB;rw [dT' h1,dT' (by omega)];rfl
   unfold gF lX
   rw [dT' (show m≤12 by omega),e1,w64 (n:=m + 1) (by omega) (by omega)]
   simp only [cond_true]
   rw [ih (m + 1) n (by omega) (by omega) (by omega),aci]
   cases decide (cw m=s) <;> rfl
theorem K9: Sound Kx 154 (acg (fun _=>true) fun s=> .int .i64 (DQ s)):=by
 refine (Er (φ:=fun s=> .ret (.int .i64 (DQ s)) []) (fun _=>20) fun s r hv=>?_).of fun args objs r hv=>?_
 · cases hv
   unfold vo
   rw [aa0]
   exact Et s (fun x=>some (.int .i64 x,[])) 12 1 20 (by omega) (by omega) (by omega)
 · unfold acg at hv;split at hv
   · obtain ⟨_,h2⟩:=ae hv
     exact h2
   · cases hv
abbrev eK (code: List Int):=(ofI (bi 5 code (al 3 code 0) (av 3 (gf code))) ([97,98,44,33]: aa) code (al 5 code (al 3 code 0)) (av 5 (av 3 (gf code))))
abbrev kJ (code: List Int):=(ofH (bi 5 code (al 3 code 0) (av 3 (gf code))) ([97,98,44,33]: aa) code (al 5 code (al 3 code 0)) (av 5 (av 3 (gf code))))
abbrev kK (code: List Int):=(List.getD (List.set (List.set (List.set (List.replicate 3 ([]: aa)) 0 ([]: aa)) 1 ([87,47]: aa)) 2 ([119,47]: aa)) (Int.toNat (bi 3 code 0 (gf code))) ([]: aa))
abbrev nu (code: List Int):=(ofS (bi 5 code (al 3 code 0) (av 3 (gf code))) ([97,98,44,33]: aa) code (al 5 code (al 3 code 0)) (av 5 (av 3 (gf code))))
abbrev xD (code: List Int):=(ofS (ad (188 + (bi 2 code (al 9 code (al 3 code (eK code))) (av 9 (av 3 (kJ code)))))) ([116]: aa) code (al 2 code (al 9 code (al 3 code (eK code)))) (av 2 (av 9 (av 3 (kJ code)))))
def Eu (code: List Int): Br:=(.ite (decide (code.length≤281474976710656)) (.ite ((okC code 0)&&true) (.ite (decide (((List.length (kK code)) + 1)≤9223372036854775807)) (.ite (okC code (al 3 code 0)) (.ite (((okC code (al 5 code (al 3 code 0)))&&(decide ((bi 5 code (al 3 code 0) (av 3 (gf code)))≤1000000)))&&true) (.ite (decide (((List.length ((kK code)++([34]: aa))) + (List.length (nu code)))≤9223372036854775807)) (.ite (decide (((List.length (((kK code)++([34]: aa))++(nu code))) + 1)≤9223372036854775807)) (.ite (okC code (eK code)) (.ite (decide ((bi 3 code (eK code) (kJ code))=0)) (.ite ((okC code (al 3 code (eK code)))&&(decide ((List.length ((((kK code)++([34]: aa))++(nu code))++([34]: aa)))≤1000000))) (.ret (AV.str (Dw ((((kK code)++([34]: aa))++(nu code))++([34]: aa)) code (al 3 code (eK code)) (av 3 (kJ code))).1) []) .fail) (.ite (okC code (al 3 code (eK code))) (.ite (decide ((bi 9 code (al 3 code (eK code)) (av 3 (kJ code)))=0)) (.ite (okC code (al 9 code (al 3 code (eK code)))) (.ite (((okC code (al 2 code (al 9 code (al 3 code (eK code)))))&&(decide ((ad (188 + (bi 2 code (al 9 code (al 3 code (eK code))) (av 9 (av 3 (kJ code))))))≤1000000)))&&true) (.ite (decide ((1 + (List.length (xD code)))≤9223372036854775807)) (.ite (decide (((List.length (([34]: aa)++(xD code))) + 1)≤9223372036854775807)) (.ret (AV.str ((([34]: aa)++(xD code))++([34]: aa))) []) .fail) .fail) .fail) .fail) (.ret (AV.str ((((kK code)++([34]: aa))++(nu code))++([34]: aa))) [])) .fail)) .fail) .fail) .fail) .fail) .fail) .fail) .fail) .fail)
def adB: List AV→List Ob→Br
 | [.sh (.int .u8) code],[]=>Eu code
 | _,_=> .fail
def K_: SC:=[⟨115,_,mJ⟩,⟨71,_,cJ⟩,⟨155,_,BS⟩,⟨146,_,qp⟩,⟨157,_,BT⟩,⟨156,_,BU⟩,⟨193,_,rr⟩]
abbrev eo (at_: Int) (code: List Int) (i h: Int):=(ad (at_ + (List.getD (List.set (List.set (List.set (List.set (List.set (List.set (List.set (List.replicate 7 0) 0 (-100000)) 1 (-3000)) 2 (-60)) 3 (-5)) 4 0) 5 5) 6 60) (Int.toNat (bi 7 code i h)) 0)))
abbrev ep (at_: Int) (code: List Int) (i h: Int):=(List.set (List.set (List.set (List.set (List.replicate 4 ([]: aa)) 0 (dO (eo at_ code i h))) 1 (dP (eo at_ code i h))) 2 (eF (eo at_ code i h))) 3 ([48]: aa))
def fD (at_: Int) (code: List Int) (i h: Int): Br:=(.ite ((okC code i)&&true) (.ite (okC code (al 7 code i)) (.ite (decide ((bi 7 code (al 7 code i) (av 7 h))=0)) (.ret (AV.agg [.str ([68,97,116,101]: aa),.str (dO (eo at_ code i h))]) [.var [.sh (Ty.int .u8) code,.int .i64 (al 7 code (al 7 code i)),.int .i64 (av 7 (av 7 h))]]) (.ite (decide ((bi 7 code (al 7 code i) (av 7 h))=1)) (.ite ((okC code (al 7 code (al 7 code i)))&&(decide (0 < (List.length (ep at_ code i h))))) (.ret (AV.agg [.str ([69,120,112,105,114,101,115]: aa),.str (List.getD (ep at_ code i h) (Int.toNat (bi ((List.length (ep at_ code i h)): Int) code (al 7 code (al 7 code i)) (av 7 (av 7 h)))) ([]: aa))]) [.var [.sh (Ty.int .u8) code,.int .i64 (al ((List.length (ep at_ code i h)): Int) code (al 7 code (al 7 code i))),.int .i64 (av ((List.length (ep at_ code i h)): Int) (av 7 (av 7 h)))]]) .fail) (.ite (decide ((bi 7 code (al 7 code i) (av 7 h))=2)) (.ret (AV.agg [.str ([76,97,115,116,45,77,111,100,105,102,105,101,100]: aa),.str (dO (eo at_ code i h))]) [.var [.sh (Ty.int .u8) code,.int .i64 (al 7 code (al 7 code i)),.int .i64 (av 7 (av 7 h))]]) (.ite (decide ((bi 7 code (al 7 code i) (av 7 h))=3)) (.ite ((okC code (al 7 code (al 7 code i)))&&true) (.ret (AV.agg [.str ([65,103,101]: aa),.str (List.getD (List.set (List.set (List.set (List.set (List.replicate 4 ([]: aa)) 0 ([48]: aa)) 1 ([55]: aa)) 2 ([120]: aa)) 3 ([57,57,57,57,57,57,57,57,57,57,57]: aa)) (Int.toNat (bi 4 code (al 7 code (al 7 code i)) (av 7 (av 7 h)))) ([]: aa))]) [.var [.sh (Ty.int .u8) code,.int .i64 (al 4 code (al 7 code (al 7 code i))),.int .i64 (av 4 (av 7 (av 7 h)))]]) .fail) (.ite (decide ((bi 7 code (al 7 code i) (av 7 h))=4)) (.ite ((okC code (al 7 code (al 7 code i)))&&true) (.ret (AV.agg [.str ([67,97,99,104,101,45,67,111,110,116,114,111,108]: aa),.str (List.getD (List.set (List.set (List.set (List.set (List.set (List.set (List.set (List.set (List.replicate 8 ([]: aa)) 0 ([109,97,120,45,97,103,101,61,53]: aa)) 1 ([109,97,120,45,97,103,101,61,54,48]: aa)) 2 ([115,45,109,97,120,97,103,101,61,57]: aa)) 3 ([110,111,45,99,97,99,104,101]: aa)) 4 ([109,117,115,116,45,114,101,118,97,108,105,100,97,116,101]: aa)) 5 ([112,117,98,108,105,99]: aa)) 6 ([112,114,105,118,97,116,101]: aa)) 7 ([110,111,45,115,116,111,114,101]: aa)) (Int.toNat (bi 8 code (al 7 code (al 7 code i)) (av 7 (av 7 h)))) ([]: aa))]) [.var [.sh (Ty.int .u8) code,.int .i64 (al 8 code (al 7 code (al 7 code i))),.int .i64 (av 8 (av 7 (av 7 h)))]]) .fail) (.ite ((okC code (al 7 code (al 7 code i)))&&true) (.ret (AV.agg [.str (yb () code (al 7 code (al 7 code i)) (av 7 (av 7 h))).1.1,.str (yb () code (al 7 code (al 7 code i)) (av 7 (av 7 h))).1.2]) [.var [.sh (Ty.int .u8) code,.int .i64 (yb () code (al 7 code (al 7 code i)) (av 7 (av 7 h))).2.1,.int .i64 (yb () code (al 7 code (al 7 code i)) (av 7 (av 7 h))).2.2]]) .fail)))))) .fail) .fail)
def vq: List AV→List Ob→Br
 | [.ptr 0 0, .int .i64 at_],[.var [.sh (.int .u8) code, .int .i64 i, .int .i64 h]]=>fD at_ code i h
 | _,_=> .fail
theorem Ew: Sound Kx 114 vq:=ac (C:=K_) (O:=O0) Tryz.func114 (by kernel_rfl) fun args objs=>by
 unfold vq;split
 · exact .inr (by kernel_rfl)
 · exact .inl rfl
def kL (code: List Int) (i h: Int): Br:=(.ite (okC code i) (.ite (decide ((bi 10 code i h)=0)) (.ite ((okC code (al 10 code i))&&true) (.ret (AV.agg [.str ([73,102,45,78,111,110,101,45,77,97,116,99,104]: aa),.str (List.getD (List.set (List.set (List.set (List.set (List.set (List.set (List.replicate 6 ([]: aa)) 0 ([34,97,34]: aa)) 1 ([87,47,34,98,34]: aa)) 2 ([34,97,34,44,32,34,99,34]: aa)) 3 ([42]: aa)) 4 ([120]: aa)) 5 ([34,113,44,114,34]: aa)) (Int.toNat (bi 6 code (al 10 code i) (av 10 h))) ([]: aa))]) [.var [.sh (Ty.int .u8) code,.int .i64 (al 6 code (al 10 code i)),.int .i64 (av 6 (av 10 h))]]) .fail) (.ite (decide ((bi 10 code i h)=1)) (.ite ((okC code (al 10 code i))&&true) (.ret (AV.agg [.str ([73,102,45,77,111,100,105,102,105,101,100,45,83,105,110,99,101]: aa),.str (dO (ad (1000000 + (List.getD (List.set (List.set (List.set (List.set (List.replicate 4 0) 0 (-100000)) 1 (-60)) 2 0) 3 60) (Int.toNat (bi 4 code (al 10 code i) (av 10 h))) 0))))]) [.var [.sh (Ty.int .u8) code,.int .i64 (al 4 code (al 10 code i)),.int .i64 (av 4 (av 10 h))]]) .fail) (.ite (decide ((bi 10 code i h)=2)) (.ite ((okC code (al 10 code i))&&true) (.ret (AV.agg [.str (List.getD (List.set (List.set (List.set (List.set (List.set (List.replicate 5 ([]: aa)) 0 ([65,117,116,104,111,114,105,122,97,116,105,111,110]: aa)) 1 ([82,97,110,103,101]: aa)) 2 ([73,102,45,77,97,116,99,104]: aa)) 3 ([105,102,45,117,110,109,111,100,105,102,105,101,100,45,115,105,110,99,101]: aa)) 4 ([73,102,45,82,97,110,103,101]: aa)) (Int.toNat (bi 5 code (al 10 code i) (av 10 h))) ([]: aa)),.str ([122]: aa)]) [.var [.sh (Ty.int .u8) code,.int .i64 (al 5 code (al 10 code i)),.int .i64 (av 5 (av 10 h))]]) .fail) (.ite (decide ((bi 10 code i h)=3)) (.ite ((okC code (al 10 code i))&&true) (.ret (AV.agg [.str ([67,97,99,104,101,45,67,111,110,116,114,111,108]: aa),.str (List.getD (List.set (List.set (List.set (List.set (List.set (List.replicate 5 ([]: aa)) 0 ([110,111,45,99,97,99,104,101]: aa)) 1 ([110,111,45,115,116,111,114,101]: aa)) 2 ([109,97,120,45,97,103,101,61,51]: aa)) 3 ([109,97,120,45,115,116,97,108,101,61,53,48]: aa)) 4 ([111,110,108,121,45,105,102,45,99,97,99,104,101,100]: aa)) (Int.toNat (bi 5 code (al 10 code i) (av 10 h))) ([]: aa))]) [.var [.sh (Ty.int .u8) code,.int .i64 (al 5 code (al 10 code i)),.int .i64 (av 5 (av 10 h))]]) .fail) (.ite ((okC code (al 10 code i))&&true) (.ret (AV.agg [.str (yb () code (al 10 code i) (av 10 h)).1.1,.str (yb () code (al 10 code i) (av 10 h)).1.2]) [.var [.sh (Ty.int .u8) code,.int .i64 (yb () code (al 10 code i) (av 10 h)).2.1,.int .i64 (yb () code (al 10 code i) (av 10 h)).2.2]]) .fail))))) .fail)
end
end Go.Proofs.YtgknmoadpgpdeaaGreatDoor.Ev
namespace Go.Proofs.YtgknmoadpgpdeaaGreatDoor.Ev
open Go Go.RowKit
set_option linter.unusedVariables false
set_option linter.unusedSimpArgs false
set_option linter.defProp false
set_option maxRecDepth 20000
noncomputable section
theorem pH {α: Type} {p: α→Prop} {d: α} (hd: p d): ∀ (l: List α),(∀ x ∈ l,p x)→∀ k,p (l.getD k d)
 | [],_,k=>by simpa using hd
 | a::l,h,0=>by simpa using h a (List.mem_cons_self ..)
 | a::l,h,k + 1=>by simpa using pH hd l (fun x hx=>h x (List.mem_cons_of_mem _ hx)) k
theorem BV {code: List Int} {P: List UInt8×List UInt8→Prop} (a b: List UInt8) (i' h': Int) (hc: okC code i'=true) (hP: P (a,b)): Dra code fdA (fun _=>[]) P (.ret (.agg [.str a, .str b]) [.var [.sh (.int .u8) code, .int .i64 i', .int .i64 h']]):=⟨(a,b),i',h',rfl,hc,hP⟩
theorem BW {code: List Int} {P: List UInt8×List UInt8→Prop} (f: List UInt8×List UInt8) (i' h': Int) (hc: okC code i'=true) (hP: P f): Dra code fdA (fun _=>[]) P (.ret (.agg [.str f.1, .str f.2]) [.var [.sh (.int .u8) code, .int .i64 i', .int .i64 h']]):=⟨f,i',h',rfl,hc,hP⟩
theorem aa1 {a b: List UInt8} (h: a.headD 0≠67∧a.headD 0≠99): cq (a,b):=fun _=> .inl h
theorem Uw {a b: List UInt8} (h: (34 : UInt8) ∉ b): cq (a,b):=fun _=> .inr h
theorem Yv (code: List Int) (i h: Int) (hc: okC code i=true): Dra code fdA (fun _=>[]) cq (kL code i h):=by
 unfold kL
 obtain ⟨f1,f2⟩:=NZ (av 10 h) (a7 (n:=10) hc)
 repeat' (first | refine qr ?_ ?_ | refine qq (fun _=>?_) (fun _=>?_) | refine BW _ _ _ ?_ ?_ | refine BV _ _ _ _ ?_ ?_)
 all_goals first
  | ((repeat (first | exact hc | exact f1 | with_reducible apply a7 | with_reducible apply cG | with_reducible apply aI));done)
  | exact f2
  | (simp only [Bool.and_true,List.length_cons,List.length_nil,List.length_set,List.length_replicate];(repeat (first | exact hc | exact f1 | with_reducible apply a7 | with_reducible apply cG | with_reducible apply aI));done)
  | (simp only [Bool.and_eq_true,decide_eq_true_eq,List.length_cons,List.length_nil,List.length_set,List.length_replicate];refine ⟨?_,by omega⟩;(repeat (first | exact hc | exact f1 | with_reducible apply a7 | with_reducible apply cG | with_reducible apply aI));done)
  | exact Uw (by decide)
  | (exact Uw (pH (p:=fun v: List UInt8=>(34 : UInt8) ∉ v) (by decide) _ (by decide) _))
  | (refine aa1 ?_;constructor <;> decide)
  | (refine Aq ?_;simp only [List.length_cons,List.length_nil];omega)
  | skip
 all_goals trace_state
theorem Yw (at_: Int) (code: List Int) (i h: Int) (hc: okC code i=true): Dra code fdA (fun _=>[]) cq (fD at_ code i h):=by
 unfold fD ep eo
 obtain ⟨f1,f2⟩:=NZ (av 7 (av 7 h)) (a7 (n:=7) (a7 (n:=7) hc))
 repeat' (first | refine qr ?_ ?_ | refine qq (fun _=>?_) (fun _=>?_) | refine BW _ _ _ ?_ ?_ | refine BV _ _ _ _ ?_ ?_)
 all_goals first
  | ((repeat (first | exact hc | exact f1 | with_reducible apply a7 | with_reducible apply cG | with_reducible apply aI));done)
  | exact f2
  | (simp only [Bool.and_true,List.length_cons,List.length_nil,List.length_set,List.length_replicate];(repeat (first | exact hc | exact f1 | with_reducible apply a7 | with_reducible apply cG | with_reducible apply aI));done)
  | (simp only [Bool.and_eq_true,decide_eq_true_eq,List.length_cons,List.length_nil,List.length_set,List.length_replicate];refine ⟨?_,by omega⟩;(repeat (first | exact hc | exact f1 | with_reducible apply a7 | with_reducible apply cG | with_reducible apply aI));done)
  | exact Uw (by decide)
  | (exact Uw (pH (p:=fun v: List UInt8=>(34 : UInt8) ∉ v) (by decide) _ (by decide) _))
  | (refine aa1 ?_;constructor <;> decide)
  | (refine Aq ?_;simp only [List.length_cons,List.length_nil];omega)
  | skip
 all_goals trace_state
def f14_dr:=CP (α:=List UInt8×List UInt8) (fun (_: Unit) code i h=>kL code i h) (fun _=>true) fdA (fun _=>[]) ([],[]) (fun _ f=>cq f) (fun _ code i h hc _=>Yv code i h hc)
def Ux:=f14_dr.choose
theorem aa2 {code: List Int} {i: Int} (h: Int) (hc: okC code i=true): okC code (Ux () code i h).2.1=true∧cq (Ux () code i h).1:=(f14_dr.choose_spec () code i h hc rfl).2
def f13_dr:=CP (α:=List UInt8×List UInt8) (fun (n: Int) code i h=>fD n code i h) (fun _=>true) fdA (fun _=>[]) ([],[]) (fun _ f=>cq f) (fun n code i h hc _=>Yw n code i h hc)
def RV:=f13_dr.choose
def acZ: List AV→List Ob→Br:=drQ unI (fun _=>true) fdA (fun _=>[]) RV
theorem BX: Sound Kx 114 acZ:=
 MP Ew (fun (n: Int) code i h=>fD n code i h) (fun l b code i h hl=>by rw [ZQ hl];rfl) fun b code i h hc hg=>(f13_dr.choose_spec b code i h hc hg).1
theorem aa3 (n: Int) {code: List Int} {i: Int} (h: Int) (hc: okC code i=true): okC code (RV n code i h).2.1=true∧cq (RV n code i h).1:=(f13_dr.choose_spec n code i h hc rfl).2
def nv: Opt:={ live:=[(9,[0,2,4,6]),(5,[0,2,3,4,5])],outs:=[(9,[2,4]),(5,[0,2,4])] }
def l13entry_C: SC:=[⟨71,_,cJ⟩,⟨72,_,MO⟩,⟨115,_,mJ⟩,⟨146,_,qp⟩,⟨114,_,BX⟩,⟨193,_,rr⟩]
def si (aY a8: Int) (bc: (List Int)) (cH dx: Int) (e8: aa) (e9 dj: Int) (kM sX: aa) (fI: Int) (fJ: aa) (fK: Bool) (nC: aa) (nD nE: (List Fd)) (nF: aa) (nG nH: Int) (nI nJ: aa) (nK: Int) (nL: aa) (nM: Bool) (nN: aa) (nO kQ: (List Fd)) (kR5: Int→Int→(List Int)→Int→Int→aa→Int→Int→aa→aa→Int→aa→Bool→aa→(List Fd)→(List Fd)→aa→Int→Int→aa→aa→Int→aa→Bool→aa→(List Fd)→(List Fd)→OR') (dh: (List Int)→Int→Int→aa→Int→Int→aa→aa→Int→aa→Bool→aa→(List Fd)→(List Fd)→aa→Int→Int→aa→aa→Int→aa→Bool→aa→(List Fd)→(List Fd)→OR'): OR':=
 (bif (decide (0 < a8)) then (bif ((okC bc cH)&&true) then (bif (decide (((kQ.length + (List.length (List.set (List.replicate 1 (([]: aa),([]: aa))) 0 ((RV aY bc cH dx).1.1,(RV aY bc cH dx).1.2)))) * 32)≤140737488355328)) then (kR5 aY (ad (a8 - 1)) bc (RV aY bc cH dx).2.1 (RV aY bc cH dx).2.2 e8 e9 dj kM sX fI fJ fK nC nD nE nF nG nH nI nJ nK nL nM nN nO (kQ++(List.set (List.replicate 1 (([]: aa),([]: aa))) 0 ((RV aY bc cH dx).1.1,(RV aY bc cH dx).1.2)))) else none) else none) else (dh bc cH dx e8 e9 dj kM sX fI fJ fK nC nD nE nF nG nH nI nJ nK nL nM nN nO kQ))
def fE: Nat→Int→Int→(List Int)→Int→Int→aa→Int→Int→aa→aa→Int→aa→Bool→aa→(List Fd)→(List Fd)→aa→Int→Int→aa→aa→Int→aa→Bool→aa→(List Fd)→(List Fd)→((List Int)→Int→Int→aa→Int→Int→aa→aa→Int→aa→Bool→aa→(List Fd)→(List Fd)→aa→Int→Int→aa→aa→Int→aa→Bool→aa→(List Fd)→(List Fd)→OR')→OR'
 | 0,_,_,_,_,_,_,_,_,_,_,_,_,_,_,_,_,_,_,_,_,_,_,_,_,_,_,_,_=>none
 | n + 1,aY,a8,bc,cH,dx,e8,e9,dj,kM,sX,fI,fJ,fK,nC,nD,nE,nF,nG,nH,nI,nJ,nK,nL,nM,nN,nO,kQ,dh=>si aY a8 bc cH dx e8 e9 dj kM sX fI fJ fK nC nD nE nF nG nH nI nJ nK nL nM nN nO kQ (fun aY a8 bc cH dx e8 e9 dj kM sX fI fJ fK nC nD nE nF nG nH nI nJ nK nL nM nN nO kQ=>fE n aY a8 bc cH dx e8 e9 dj kM sX fI fJ fK nC nD nE nF nG nH nI nJ nK nL nM nN nO kQ dh) dh
abbrev l13entry_p5: SP:=⟨59,[0,2,3,4,5],[(.v (.ptr 0 0)),(.v (.ptr 192 0)),(.v (.i .i64)),(.v (.ptr 320 0)),(.v (.i .i64))],[(0, .var [(.sh (Ty.int .u8)),(.i .i64),(.i .i64)]),(192, .var [.s,(.i .i64),(.i .i64),(.ref 196 0), .s, .s,(.i .i64), .s, .b,(.ref 202 0), .s]),(196, .arr (Ty.pair Ty.str Ty.str) 0 false),(202, .arr (Ty.pair Ty.str Ty.str) 0 false),(320, .var [.s,(.i .i64),(.i .i64),(.ref 324 0), .s, .s,(.i .i64), .s, .b,(.ref 330 0), .s]),(324, .arr (Ty.pair Ty.str Ty.str) 0 false),(330, .arr (Ty.pair Ty.str Ty.str) 0 false)]⟩
noncomputable def sj: Code:=ar (aC Tryz.f150) [1,1,1,1,0,1,0,0]
def sk (f: ((List Int)→Int→Int→aa→Int→Int→aa→aa→Int→aa→Bool→aa→(List Fd)→(List Fd)→aa→Int→Int→aa→aa→Int→aa→Bool→aa→(List Fd)→(List Fd)→OR')→OR') (k: KT): OR':=f (fun ai bJ cy ed dU cZ dV bv sI sJ kN kO kP EV EW EX EY EZ E0 E1 E2 E3 E4 E5 E6=>k (Ex.exit 0) ((St.mk (aA 0 59 [(0,(AV.ptr 0 0)),(2,(AV.ptr 192 0)),(4,(AV.ptr 320 0))]) ((0,(Ob.var [.sh (Ty.int .u8) ai,.int .i64 bJ,.int .i64 cy]))::((192,(Ob.var [.str ed,.int .i64 dU,.int .i64 cZ,.ref 196 0,.str dV,.str bv,.int .i64 sI,.str sJ,.bool kN,.ref 202 0,.str kO]))::((196,(Ob.arr (Ty.pair Ty.str Ty.str) 0 false kP))::((202,(Ob.arr (Ty.pair Ty.str Ty.str) 0 false EV))::((320,(Ob.var [.str EW,.int .i64 EX,.int .i64 EY,.ref 324 0,.str EZ,.str E0,.int .i64 E1,.str E2,.bool E3,.ref 330 0,.str E4]))::((324,(Ob.arr (Ty.pair Ty.str Ty.str) 0 false E5))::((330,(Ob.arr (Ty.pair Ty.str Ty.str) 0 false E6))::([]: (List (Nat×(Ob))))))))))))))
def sl (n: Nat) (d: l13entry_p5.D): KT→OR':=sk (fE n d.1.2.2.1 d.1.2.2.2.2.1 d.2.1.1 d.2.1.2.1 d.2.1.2.2.1 d.2.2.1.1 d.2.2.1.2.1 d.2.2.1.2.2.1 d.2.2.1.2.2.2.2.1 d.2.2.1.2.2.2.2.2.1 d.2.2.1.2.2.2.2.2.2.1 d.2.2.1.2.2.2.2.2.2.2.1 d.2.2.1.2.2.2.2.2.2.2.2.1 d.2.2.1.2.2.2.2.2.2.2.2.2.2.1 d.2.2.2.1 d.2.2.2.2.1 d.2.2.2.2.2.1.1 d.2.2.2.2.2.1.2.1 d.2.2.2.2.2.1.2.2.1 d.2.2.2.2.2.1.2.2.2.2.1 d.2.2.2.2.2.1.2.2.2.2.2.1 d.2.2.2.2.2.1.2.2.2.2.2.2.1 d.2.2.2.2.2.1.2.2.2.2.2.2.2.1 d.2.2.2.2.2.1.2.2.2.2.2.2.2.2.1 d.2.2.2.2.2.1.2.2.2.2.2.2.2.2.2.2.1 d.2.2.2.2.2.2.1 d.2.2.2.2.2.2.2.1)
def sn (tq: Int) (jE: (List Int)) (mm oJ: Int) (sY: aa) (sZ s0: Int) (s7 Lm: aa) (Ln: Int) (nP: aa) (nQ: Bool) (nR: aa) (nS nT: (List Fd)) (nU: aa) (nV nW: Int) (nX nY: aa) (nZ: Int) (n0: aa) (n3: Bool) (n4: aa) (kS n5: (List Fd)) (kR9: Int→(List Int)→Int→Int→aa→Int→Int→aa→aa→Int→aa→Bool→aa→(List Fd)→(List Fd)→aa→Int→Int→aa→aa→Int→aa→Bool→aa→(List Fd)→(List Fd)→OR') (U1: (List Int)→Int→Int→aa→Int→Int→aa→aa→Int→aa→Bool→aa→(List Fd)→(List Fd)→aa→Int→Int→aa→aa→Int→aa→Bool→aa→(List Fd)→(List Fd)→OR'): OR':=
 (bif (decide (0 < tq)) then (bif ((okC jE mm)&&true) then (bif (decide (((kS.length + (List.length (List.set (List.replicate 1 (([]: aa),([]: aa))) 0 ((yb () jE mm oJ).1.1,(yb () jE mm oJ).1.2)))) * 32)≤140737488355328)) then (kR9 (ad (tq - 1)) jE (yb () jE mm oJ).2.1 (yb () jE mm oJ).2.2 sY sZ s0 s7 Lm Ln nP nQ nR nS nT nU nV nW nX nY nZ n0 n3 n4 (kS++(List.set (List.replicate 1 (([]: aa),([]: aa))) 0 ((yb () jE mm oJ).1.1,(yb () jE mm oJ).1.2))) n5) else none) else none) else (U1 jE mm oJ sY sZ s0 s7 Lm Ln nP nQ nR nS nT nU nV nW nX nY nZ n0 n3 n4 kS n5))
def fF: Nat→Int→(List Int)→Int→Int→aa→Int→Int→aa→aa→Int→aa→Bool→aa→(List Fd)→(List Fd)→aa→Int→Int→aa→aa→Int→aa→Bool→aa→(List Fd)→(List Fd)→((List Int)→Int→Int→aa→Int→Int→aa→aa→Int→aa→Bool→aa→(List Fd)→(List Fd)→aa→Int→Int→aa→aa→Int→aa→Bool→aa→(List Fd)→(List Fd)→OR')→OR'
 | 0,_,_,_,_,_,_,_,_,_,_,_,_,_,_,_,_,_,_,_,_,_,_,_,_,_,_,_=>none
 | n + 1,tq,jE,mm,oJ,sY,sZ,s0,s7,Lm,Ln,nP,nQ,nR,nS,nT,nU,nV,nW,nX,nY,nZ,n0,n3,n4,kS,n5,U1=>sn tq jE mm oJ sY sZ s0 s7 Lm Ln nP nQ nR nS nT nU nV nW nX nY nZ n0 n3 n4 kS n5 (fun tq jE mm oJ sY sZ s0 s7 Lm Ln nP nQ nR nS nT nU nV nW nX nY nZ n0 n3 n4 kS n5=>fF n tq jE mm oJ sY sZ s0 s7 Lm Ln nP nQ nR nS nT nU nV nW nX nY nZ n0 n3 n4 kS n5 U1) U1
abbrev l13entry_p9: SP:=⟨59,[0,2,4,6],[(.v (.ptr 0 0)),(.v (.ptr 192 0)),(.v (.ptr 320 0)),(.v (.i .i64))],[(0, .var [(.sh (Ty.int .u8)),(.i .i64),(.i .i64)]),(192, .var [.s,(.i .i64),(.i .i64),(.ref 196 0), .s, .s,(.i .i64), .s, .b,(.ref 202 0), .s]),(196, .arr (Ty.pair Ty.str Ty.str) 0 false),(202, .arr (Ty.pair Ty.str Ty.str) 0 false),(320, .var [.s,(.i .i64),(.i .i64),(.ref 324 0), .s, .s,(.i .i64), .s, .b,(.ref 330 0), .s]),(324, .arr (Ty.pair Ty.str Ty.str) 0 false),(330, .arr (Ty.pair Ty.str Ty.str) 0 false)]⟩
noncomputable def so: Code:=ar (aC Tryz.f150) [1,1,1,1,1,0,1,0,0]
def sp (f: ((List Int)→Int→Int→aa→Int→Int→aa→aa→Int→aa→Bool→aa→(List Fd)→(List Fd)→aa→Int→Int→aa→aa→Int→aa→Bool→aa→(List Fd)→(List Fd)→OR')→OR') (k: KT): OR':=f (fun sK vz vA Cp vB vC vD WU WV WW RM RN RO RP E7 E8 E9 E_ Fa Fb Fe Ff Fg Fh Fi=>k (Ex.exit 2) ((St.mk (aA 0 59 [(2,(AV.ptr 192 0)),(4,(AV.ptr 320 0))]) ((0,(Ob.var [.sh (Ty.int .u8) sK,.int .i64 vz,.int .i64 vA]))::((192,(Ob.var [.str Cp,.int .i64 vB,.int .i64 vC,.ref 196 0,.str vD,.str WU,.int .i64 WV,.str WW,.bool RM,.ref 202 0,.str RN]))::((196,(Ob.arr (Ty.pair Ty.str Ty.str) 0 false RO))::((202,(Ob.arr (Ty.pair Ty.str Ty.str) 0 false RP))::((320,(Ob.var [.str E7,.int .i64 E8,.int .i64 E9,.ref 324 0,.str E_,.str Fa,.int .i64 Fb,.str Fe,.bool Ff,.ref 330 0,.str Fg]))::((324,(Ob.arr (Ty.pair Ty.str Ty.str) 0 false Fh))::((330,(Ob.arr (Ty.pair Ty.str Ty.str) 0 false Fi))::([]: (List (Nat×(Ob))))))))))))))
def sq (n: Nat) (d: l13entry_p9.D): KT→OR':=sp (fF n d.1.2.2.2.1 d.2.1.1 d.2.1.2.1 d.2.1.2.2.1 d.2.2.1.1 d.2.2.1.2.1 d.2.2.1.2.2.1 d.2.2.1.2.2.2.2.1 d.2.2.1.2.2.2.2.2.1 d.2.2.1.2.2.2.2.2.2.1 d.2.2.1.2.2.2.2.2.2.2.1 d.2.2.1.2.2.2.2.2.2.2.2.1 d.2.2.1.2.2.2.2.2.2.2.2.2.2.1 d.2.2.2.1 d.2.2.2.2.1 d.2.2.2.2.2.1.1 d.2.2.2.2.2.1.2.1 d.2.2.2.2.2.1.2.2.1 d.2.2.2.2.2.1.2.2.2.2.1 d.2.2.2.2.2.1.2.2.2.2.2.1 d.2.2.2.2.2.1.2.2.2.2.2.2.1 d.2.2.2.2.2.1.2.2.2.2.2.2.2.1 d.2.2.2.2.2.1.2.2.2.2.2.2.2.2.1 d.2.2.2.2.2.1.2.2.2.2.2.2.2.2.2.2.1 d.2.2.2.2.2.2.1 d.2.2.2.2.2.2.2.1)
def nw (N: Nat): Lam:=bI [⟨5,l13entry_p5,sl N⟩,⟨9,l13entry_p9,sq N⟩]
theorem BY (N: Nat): OkL Kx l13entry_C.s nv 1 N (nw N) sj:=okL l13entry_p5 (sl) (fun d kR=>sk (si d.1.2.2.1 d.1.2.2.2.2.1 d.2.1.1 d.2.1.2.1 d.2.1.2.2.1 d.2.2.1.1 d.2.2.1.2.1 d.2.2.1.2.2.1 d.2.2.1.2.2.2.2.1 d.2.2.1.2.2.2.2.2.1 d.2.2.1.2.2.2.2.2.2.1 d.2.2.1.2.2.2.2.2.2.2.1 d.2.2.1.2.2.2.2.2.2.2.2.1 d.2.2.1.2.2.2.2.2.2.2.2.2.2.1 d.2.2.2.1 d.2.2.2.2.1 d.2.2.2.2.2.1.1 d.2.2.2.2.2.1.2.1 d.2.2.2.2.2.1.2.2.1 d.2.2.2.2.2.1.2.2.2.2.1 d.2.2.2.2.2.1.2.2.2.2.2.1 d.2.2.2.2.2.1.2.2.2.2.2.2.1 d.2.2.2.2.2.1.2.2.2.2.2.2.2.1 d.2.2.2.2.2.1.2.2.2.2.2.2.2.2.1 d.2.2.2.2.2.1.2.2.2.2.2.2.2.2.2.2.1 d.2.2.2.2.2.2.1 d.2.2.2.2.2.2.2.1 (fun aY a8 bc cH dx e8 e9 dj kM sX fI fJ fK nC nD nE nF nG nH nI nJ nK nL nM nN nO kQ=>kR (((),(),aY,(),a8,()),((bc,cH,dx,()),(e8,e9,dj,(),kM,sX,fI,fJ,fK,(),nC,()),nD,nE,(nF,nG,nH,(),nI,nJ,nK,nL,nM,(),nN,()),nO,kQ,()))))) (fun _ _=>by kernel_rfl) (fun _ _ _=>by kernel_rfl) (fun _ _=>by kernel_rfl) (fun _ _ _ _=>by kernel_rfl) (af (l':=[]) (by kernel_rfl) trivial)
theorem BZ (N: Nat): OkL Kx l13entry_C.s nv 1 N (nw N) so:=okL l13entry_p9 (sq) (fun d kR=>sp (sn d.1.2.2.2.1 d.2.1.1 d.2.1.2.1 d.2.1.2.2.1 d.2.2.1.1 d.2.2.1.2.1 d.2.2.1.2.2.1 d.2.2.1.2.2.2.2.1 d.2.2.1.2.2.2.2.2.1 d.2.2.1.2.2.2.2.2.2.1 d.2.2.1.2.2.2.2.2.2.2.1 d.2.2.1.2.2.2.2.2.2.2.2.1 d.2.2.1.2.2.2.2.2.2.2.2.2.2.1 d.2.2.2.1 d.2.2.2.2.1 d.2.2.2.2.2.1.1 d.2.2.2.2.2.1.2.1 d.2.2.2.2.2.1.2.2.1 d.2.2.2.2.2.1.2.2.2.2.1 d.2.2.2.2.2.1.2.2.2.2.2.1 d.2.2.2.2.2.1.2.2.2.2.2.2.1 d.2.2.2.2.2.1.2.2.2.2.2.2.2.1 d.2.2.2.2.2.1.2.2.2.2.2.2.2.2.1 d.2.2.2.2.2.1.2.2.2.2.2.2.2.2.2.2.1 d.2.2.2.2.2.2.1 d.2.2.2.2.2.2.2.1 (fun tq jE mm oJ sY sZ s0 s7 Lm Ln nP nQ nR nS nT nU nV nW nX nY nZ n0 n3 n4 kS n5=>kR (((),(),(),tq,()),((jE,mm,oJ,()),(sY,sZ,s0,(),s7,Lm,Ln,nP,nQ,(),nR,()),nS,nT,(nU,nV,nW,(),nX,nY,nZ,n0,n3,(),n4,()),kS,n5,()))))) (fun _ _=>by kernel_rfl) (fun _ _ _=>by kernel_rfl) (fun _ _=>by kernel_rfl) (fun _ _ _ _=>by kernel_rfl) (af (l':=[]) (by kernel_rfl) trivial)
abbrev cD (code h i):=(ofI (bi 2 code (al 30 code i) (av 30 h)) ([97,98]: aa) code (al 2 code (al 30 code i)) (av 2 (av 30 h)))
abbrev eq (code h i):=(ofH (bi 2 code (al 30 code i) (av 30 h)) ([97,98]: aa) code (al 2 code (al 30 code i)) (av 2 (av 30 h)))
def dE (N: Nat) (code: List Int) (i h: Int): OR':=(bif (okC code i) then (bif (okC code (al 30 code i)) then (bif (((okC code (al 2 code (al 30 code i)))&&(decide ((bi 2 code (al 30 code i) (av 30 h))≤1000000)))&&true) then (bif (decide ((17 + (List.length (ofS (bi 2 code (al 30 code i) (av 30 h)) ([97,98]: aa) code (al 2 code (al 30 code i)) (av 2 (av 30 h)))))≤9223372036854775807)) then (bif (okC code (cD code h i)) then (bif ((okC code (al 4 code (cD code h i)))&&true) then (bif ((okC code (al 6 code (al 4 code (cD code h i))))&&true) then (bif (okC code (al 3 code (al 6 code (al 4 code (cD code h i))))) then (fE N (ad (1000000 + (bi 30 code i h))) (bi 6 code (al 3 code (al 6 code (al 4 code (cD code h i)))) (av 3 (av 6 (av 4 (eq code h i))))) code (al 6 code (al 3 code (al 6 code (al 4 code (cD code h i))))) (av 6 (av 3 (av 6 (av 4 (eq code h i))))) ([]: aa) 0 0 ([]: aa) ([]: aa) 0 ([]: aa) false ([]: aa) ([]: (List Fd)) ([]: (List Fd)) (([104,116,116,112,58,47,47,97,46,101,120,97,109,112,108,101,47]: aa)++(ofS (bi 2 code (al 30 code i) (av 30 h)) ([97,98]: aa) code (al 2 code (al 30 code i)) (av 2 (av 30 h)))) (ad ((ad (1000000 + (bi 30 code i h))) - (bi 4 code (cD code h i) (eq code h i)))) (ad (1000000 + (bi 30 code i h))) ([]: aa) ([]: aa) (List.getD (List.set (List.set (List.set (List.set (List.set (List.set (List.replicate 6 0) 0 200) 1 200) 2 200) 3 404) 4 302) 5 500) (Int.toNat (bi 6 code (al 4 code (cD code h i)) (av 4 (eq code h i)))) 0) ([]: aa) false (List.getD (List.set (List.set (List.set (List.replicate 3 ([]: aa)) 0 ([]: aa)) 1 ([111,110,101]: aa)) 2 ([116,119,111]: aa)) (Int.toNat (bi 3 code (al 6 code (al 4 code (cD code h i))) (av 6 (av 4 (eq code h i))))) ([]: aa)) ([]: (List Fd)) ([]: (List Fd)) (fun ai bJ cy ed dU cZ dV bv sI sJ kN kO kP EV EW EX EY EZ E0 E1 E2 E3 E4 E5 E6=>(bif (okC ai bJ) then (fF N (bi 3 ai bJ cy) ai (al 3 ai bJ) (av 3 cy) ed dU cZ dV bv sI sJ kN kO kP EV EW EX EY EZ E0 E1 E2 E3 E4 E5 E6 (fun sK vz vA Cp vB vC vD WU WV WW RM RN RO RP E7 E8 E9 E_ Fa Fb Fe Ff Fg Fh Fi=>(some ((AV.agg [.str E7,.int .i64 E8,.int .i64 E9,.ref 1 0,.str E_,.str Fa,.int .i64 Fb,.str Fe,.bool Ff,.ref 2 0,.str Fg]),[.var [.sh (Ty.int .u8) sK,.int .i64 vz,.int .i64 vA],.arr (Ty.pair Ty.str Ty.str) 0 false Fh,.arr (Ty.pair Ty.str Ty.str) 0 false Fi])))) else none))) else none) else none) else none) else none) else none) else none) else none) else none)
def oG (φ: (List Int)→Int→Int→Br): List AV→List Ob→Br
 | [.ptr 0 0],[.var [.sh (.int .u8) code, .int .i64 i, .int .i64 h]]=>φ code i h
 | _,_=> .fail
theorem xE {φ: (List Int)→Int→Int→Br} (fu: (List Int)→Int→Int→Nat) (hv: ∀ code i h res_,(φ code i h).val=some res_→dE (fu code i h) code i h=some res_): Sound Kx 150 (oG φ):=ah (C:=l13entry_C) (O:=nv) Tryz.func150 (by kernel_rfl) fun args objs=>by
 unfold oG;split
 · rename_i code i h;exact .inr fun _ hyp_=>aL (Λ:=nw (fu code i h)) (by kernel_rfl) (af (l':=[sj,so]) (by kernel_rfl) ⟨BY _,BZ _,trivial⟩) (by kernel_rfl) (hv code i h _ hyp_)
 · exact .inl rfl
def QK (ax: Int) (an: (List Int)) (bl eR: Int) (jC jM: aa) (kV: Int) (sV: aa) (vw: Bool) (vx: aa) (gL: (List Fd)) (gM gO: aa) (sL: Int) (sM: aa) (sO: Bool) (sP: aa) (n6: (List Fd)) (kR3: Int→(List Int)→Int→Int→aa→aa→Int→aa→Bool→aa→(List Fd)→aa→aa→Int→aa→Bool→aa→(List Fd)→OR') (dH: (List Int)→Int→Int→aa→aa→Int→aa→Bool→aa→(List Fd)→aa→aa→Int→aa→Bool→aa→(List Fd)→OR'): OR':=
 (bif (decide (0 < ax)) then (bif ((okC an bl)&&true) then (bif (decide (((n6.length + (List.length (List.set (List.replicate 1 (([]: aa),([]: aa))) 0 ((Ux () an bl eR).1.1,(Ux () an bl eR).1.2)))) * 32)≤140737488355328)) then (kR3 (ad (ax - 1)) an (Ux () an bl eR).2.1 (Ux () an bl eR).2.2 jC jM kV sV vw vx gL gM gO sL sM sO sP (n6++(List.set (List.replicate 1 (([]: aa),([]: aa))) 0 ((Ux () an bl eR).1.1,(Ux () an bl eR).1.2)))) else none) else none) else (dH an bl eR jC jM kV sV vw vx gL gM gO sL sM sO sP n6))
def lZ: Nat→Int→(List Int)→Int→Int→aa→aa→Int→aa→Bool→aa→(List Fd)→aa→aa→Int→aa→Bool→aa→(List Fd)→((List Int)→Int→Int→aa→aa→Int→aa→Bool→aa→(List Fd)→aa→aa→Int→aa→Bool→aa→(List Fd)→OR')→OR'
 | 0,_,_,_,_,_,_,_,_,_,_,_,_,_,_,_,_,_,_,_=>none
 | n + 1,ax,an,bl,eR,jC,jM,kV,sV,vw,vx,gL,gM,gO,sL,sM,sO,sP,n6,dH=>QK ax an bl eR jC jM kV sV vw vx gL gM gO sL sM sO sP n6 (fun ax an bl eR jC jM kV sV vw vx gL gM gO sL sM sO sP n6=>lZ n ax an bl eR jC jM kV sV vw vx gL gM gO sL sM sO sP n6 dH) dH
def nx (N: Nat) (code: List Int) (i h: Int): OR':=(bif ((okC code i)&&true) then (bif (okC code (al 6 code i)) then (bif (((okC code (al 2 code (al 6 code i)))&&(decide ((bi 2 code (al 6 code i) (av 6 h))≤1000000)))&&true) then (bif (decide ((17 + (List.length (ofS (bi 2 code (al 6 code i) (av 6 h)) ([97,98]: aa) code (al 2 code (al 6 code i)) (av 2 (av 6 h)))))≤9223372036854775807)) then (bif (okC code (ofI (bi 2 code (al 6 code i) (av 6 h)) ([97,98]: aa) code (al 2 code (al 6 code i)) (av 2 (av 6 h)))) then (lZ N (bi 4 code (ofI (bi 2 code (al 6 code i) (av 6 h)) ([97,98]: aa) code (al 2 code (al 6 code i)) (av 2 (av 6 h))) (ofH (bi 2 code (al 6 code i) (av 6 h)) ([97,98]: aa) code (al 2 code (al 6 code i)) (av 2 (av 6 h)))) code (al 4 code (ofI (bi 2 code (al 6 code i) (av 6 h)) ([97,98]: aa) code (al 2 code (al 6 code i)) (av 2 (av 6 h)))) (av 4 (ofH (bi 2 code (al 6 code i) (av 6 h)) ([97,98]: aa) code (al 2 code (al 6 code i)) (av 2 (av 6 h)))) ([]: aa) ([]: aa) 0 ([]: aa) false ([]: aa) ([]: (List Fd)) (List.getD (List.set (List.set (List.set (List.set (List.set (List.set (List.replicate 6 ([]: aa)) 0 ([71,69,84]: aa)) 1 ([71,69,84]: aa)) 2 ([71,69,84]: aa)) 3 ([72,69,65,68]: aa)) 4 ([80,79,83,84]: aa)) 5 ([80,85,84]: aa)) (Int.toNat (bi 6 code i h)) ([]: aa)) (([104,116,116,112,58,47,47,97,46,101,120,97,109,112,108,101,47]: aa)++(ofS (bi 2 code (al 6 code i) (av 6 h)) ([97,98]: aa) code (al 2 code (al 6 code i)) (av 2 (av 6 h)))) 0 ([]: aa) false ([]: aa) ([]: (List Fd)) (fun bd gI mh oH IQ IR IS vy IT IU sE sG sH Y4 Y5 Y6 Y7=>(some ((AV.agg [.str sE,.str sG,.int .i64 sH,.str Y4,.bool Y5,.ref 1 0,.str Y6]),[.var [.sh (Ty.int .u8) bd,.int .i64 gI,.int .i64 mh],.arr (Ty.pair Ty.str Ty.str) 0 false Y7])))) else none) else none) else none) else none) else none)
end
end Go.Proofs.YtgknmoadpgpdeaaGreatDoor.Ev
namespace Go.Proofs.YtgknmoadpgpdeaaGreatDoor.Ev
open Go Go.RowKit
set_option linter.unusedVariables false
set_option linter.unusedSimpArgs false
set_option linter.defProp false
set_option maxRecDepth 20000
noncomputable section
theorem l4 {code: List Int} {D: Int→Int→Fd×Int×Int} (hD: ∀ i h,okC code i=true→okC code (D i h).2.1=true∧cq (D i h).1) {F: Nat→Int→Int→Int→List Fd→OR'} (K: Int→Int→List Fd→OR')
 (hF: ∀ N n i h acc,F (N + 1) n i h acc=bif decide ((0 : Int) < n) then (bif okC code i&&true then (bif decide ((acc.length + [(D i h).1].length) * 32≤140737488355328) then F N (ad (n - 1)) (D i h).2.1 (D i h).2.2 (acc++[(D i h).1]) else none) else none) else K i h acc)
 (R: OR'→Prop): ∀ (k N: Nat) (n i h: Int) (acc: List Fd),k < N→n=(k: Int)→okC code i=true→acc.length + k≤1000→(∀ f ∈ acc,cq f)→
 (∀ i' h' l,okC code i'=true→l.length≤acc.length + k→(∀ f ∈ l,cq f)→R (K i' h' l))→R (F N n i h acc)
 | 0,N,n,i,h,acc,hN,hn,hc,hl,hq,hK=>by
   obtain ⟨N,rfl⟩: ∃ m,N=m + 1:=⟨N - 1,by omega⟩
   rw [hF,dF' (by omega),cond_false]
   exact hK i h acc hc (by omega) hq
 | k + 1,N,n,i,h,acc,hN,hn,hc,hl,hq,hK=>by
   obtain ⟨N,rfl⟩: ∃ m,N=m + 1:=⟨N - 1,by omega⟩
   obtain ⟨h1,h2⟩:=hD i h hc
   rw [hF,dT' (by omega: (0 : Int) < n),cond_true,hc,Bool.and_true,cond_true,dT' (by rw [List.length_singleton];omega),cond_true,w64 (by omega) (by omega)]
   refine l4 hD K hF R k N (n - 1) _ _ _ (by omega) (by omega) h1 (by rw [List.length_append,List.length_singleton];omega) (fun f hf=>?_) fun i' h' l q1 q2 q3=>?_
   · rcases List.mem_append.1 hf with hf | hf
     · exact hq f hf
     · rw [List.mem_singleton.1 hf];exact h2
   · rw [List.length_append,List.length_singleton] at q2
     exact hK i' h' l q1 (by omega) q3
theorem Uy (an: (List Int)) (jC: (List UInt8)) (jM: (List UInt8)) (kV: Int) (sV: (List UInt8)) (vw: Bool) (vx: (List UInt8)) (gL: (List ((List UInt8)×(List UInt8)))) (gM: (List UInt8)) (gO: (List UInt8)) (sL: Int) (sM: (List UInt8)) (sO: Bool) (sP: (List UInt8)) (K: (List Int)→Int→Int→(List UInt8)→(List UInt8)→Int→(List UInt8)→Bool→(List UInt8)→(List ((List UInt8)×(List UInt8)))→(List UInt8)→(List UInt8)→Int→(List UInt8)→Bool→(List UInt8)→(List ((List UInt8)×(List UInt8)))→OR') (R: OR'→Prop) (k N: Nat) (ax bl eR: Int) (n6: List Fd) (hN: k < N) (hn: ax=(k: Int)) (hc: okC an bl=true) (hl: n6.length + k≤1000) (hq: ∀ f ∈ n6,cq f)
 (hK: ∀ i' h' l,okC an i'=true→l.length≤n6.length + k→(∀ f ∈ l,cq f)→R (K an i' h' jC jM kV sV vw vx gL gM gO sL sM sO sP l)): R (lZ N ax an bl eR jC jM kV sV vw vx gL gM gO sL sM sO sP n6 K):=
 l4 (code:=an) (D:=fun i h=>Ux () an i h) (fun i h hc=>aa2 h hc) (F:=fun N n i h acc=>lZ N n an i h jC jM kV sV vw vx gL gM gO sL sM sO sP acc K) (fun i' h' l=>K an i' h' jC jM kV sV vw vx gL gM gO sL sM sO sP l) (fun _ _ _ _ _=>rfl) R k N ax bl eR n6 hN hn hc hl hq hK
theorem QL (aY: Int) (bc: (List Int)) (e8: (List UInt8)) (e9: Int) (dj: Int) (kM: (List UInt8)) (sX: (List UInt8)) (fI: Int) (fJ: (List UInt8)) (fK: Bool) (nC: (List UInt8)) (nD: (List ((List UInt8)×(List UInt8)))) (nE: (List ((List UInt8)×(List UInt8)))) (nF: (List UInt8)) (nG: Int) (nH: Int) (nI: (List UInt8)) (nJ: (List UInt8)) (nK: Int) (nL: (List UInt8)) (nM: Bool) (nN: (List UInt8)) (nO: (List ((List UInt8)×(List UInt8)))) (K: (List Int)→Int→Int→(List UInt8)→Int→Int→(List UInt8)→(List UInt8)→Int→(List UInt8)→Bool→(List UInt8)→(List ((List UInt8)×(List UInt8)))→(List ((List UInt8)×(List UInt8)))→(List UInt8)→Int→Int→(List UInt8)→(List UInt8)→Int→(List UInt8)→Bool→(List UInt8)→(List ((List UInt8)×(List UInt8)))→(List ((List UInt8)×(List UInt8)))→OR') (R: OR'→Prop) (k N: Nat) (a8 cH dx: Int) (kQ: List Fd) (hN: k < N) (hn: a8=(k: Int)) (hc: okC bc cH=true) (hl: kQ.length + k≤1000) (hq: ∀ f ∈ kQ,cq f)
 (hK: ∀ i' h' l,okC bc i'=true→l.length≤kQ.length + k→(∀ f ∈ l,cq f)→R (K bc i' h' e8 e9 dj kM sX fI fJ fK nC nD nE nF nG nH nI nJ nK nL nM nN nO l)): R (fE N aY a8 bc cH dx e8 e9 dj kM sX fI fJ fK nC nD nE nF nG nH nI nJ nK nL nM nN nO kQ K):=
 l4 (code:=bc) (D:=fun i h=>RV aY bc i h) (fun i h hc=>aa3 aY h hc) (F:=fun N n i h acc=>fE N aY n bc i h e8 e9 dj kM sX fI fJ fK nC nD nE nF nG nH nI nJ nK nL nM nN nO acc K) (fun i' h' l=>K bc i' h' e8 e9 dj kM sX fI fJ fK nC nD nE nF nG nH nI nJ nK nL nM nN nO l) (fun _ _ _ _ _=>rfl) R k N a8 cH dx kQ hN hn hc hl hq hK
theorem QM (jE: (List Int)) (sY: (List UInt8)) (sZ: Int) (s0: Int) (s7: (List UInt8)) (Lm: (List UInt8)) (Ln: Int) (nP: (List UInt8)) (nQ: Bool) (nR: (List UInt8)) (nS: (List ((List UInt8)×(List UInt8)))) (nT: (List ((List UInt8)×(List UInt8)))) (nU: (List UInt8)) (nV: Int) (nW: Int) (nX: (List UInt8)) (nY: (List UInt8)) (nZ: Int) (n0: (List UInt8)) (n3: Bool) (n4: (List UInt8)) (n5: (List ((List UInt8)×(List UInt8)))) (K: (List Int)→Int→Int→(List UInt8)→Int→Int→(List UInt8)→(List UInt8)→Int→(List UInt8)→Bool→(List UInt8)→(List ((List UInt8)×(List UInt8)))→(List ((List UInt8)×(List UInt8)))→(List UInt8)→Int→Int→(List UInt8)→(List UInt8)→Int→(List UInt8)→Bool→(List UInt8)→(List ((List UInt8)×(List UInt8)))→(List ((List UInt8)×(List UInt8)))→OR') (R: OR'→Prop) (k N: Nat) (tq mm oJ: Int) (kS: List Fd) (hN: k < N) (hn: tq=(k: Int)) (hc: okC jE mm=true) (hl: kS.length + k≤1000) (hq: ∀ f ∈ kS,cq f)
 (hK: ∀ i' h' l,okC jE i'=true→l.length≤kS.length + k→(∀ f ∈ l,cq f)→R (K jE i' h' sY sZ s0 s7 Lm Ln nP nQ nR nS nT nU nV nW nX nY nZ n0 n3 n4 l n5)): R (fF N tq jE mm oJ sY sZ s0 s7 Lm Ln nP nQ nR nS nT nU nV nW nX nY nZ n0 n3 n4 kS n5 K):=
 l4 (code:=jE) (D:=fun i h=>yb () jE i h) (fun i h hc=>NZ h hc) (F:=fun N n i h acc=>fF N n jE i h sY sZ s0 s7 Lm Ln nP nQ nR nS nT nU nV nW nX nY nZ n0 n3 n4 acc n5 K) (fun i' h' l=>K jE i' h' sY sZ s0 s7 Lm Ln nP nQ nR nS nT nU nV nW nX nY nZ n0 n3 n4 l n5) (fun _ _ _ _ _=>rfl) R k N tq mm oJ kS hN hn hc hl hq hK
def Lq {α: Type} (code: List Int) (ra: α→AV) (ro: α→List Ob) (P: α→Prop) (o: OR'): Prop:=∃ (v: α) (i' h': Int),o=some (ra v,Vk code i' h'::ro v)∧okC code i'=true∧P v
theorem xF {α: Type} {code: List Int} {ra: α→AV} {ro: α→List Ob} {P: α→Prop} {c: Bool} {x: OR'} (h0: c=true) (h1: Lq code ra ro P x): Lq code ra ro P (bif c then x else none):=by subst h0;exact h1
theorem Iy {α: Type} {code: List Int} {ra: α→AV} {ro: α→List Ob} {P: α→Prop} {c: Bool} {x y: OR'} (h1: c=true→Lq code ra ro P x) (h2: c=false→Lq code ra ro P y): Lq code ra ro P (bif c then x else y):=by
 cases c
 · exact h2 rfl
 · exact h1 rfl
def acj (m: Mg): AV:= .agg [.str m.1, .str m.2.1, .int .i64 m.2.2.1, .str m.2.2.2.1, .bool m.2.2.2.2.1, .ref 1 0, .str m.2.2.2.2.2.2]
def ack (m: Mg): List Ob:=[.arr (.pair .str .str) 0 false m.2.2.2.2.2.1]
def mgQ (m: Mg): Prop:=(∀ f ∈ m.2.2.2.2.2.1,cq f)∧m.2.2.2.2.2.1.length≤40∧m.1.length≤100∧m.2.1.length≤1000
theorem xG {k: Nat} {l: List aa} (h: ∀ x ∈ l,x.length≤k) (j: Nat): (l.getD j []).length≤k:=pH (p:=fun v: aa=>v.length≤k) (Nat.zero_le _) l h j
theorem La {code: List Int} {P: Mg→Prop} (me ta: aa) (st: Int) (re: aa) (ba: Bool) (fs: List Fd) (bo: aa) (i' h': Int) (hc: okC code i'=true) (hP: P (me,ta,st,re,ba,fs,bo)):
 Lq code acj ack P (some (.agg [.str me, .str ta, .int .i64 st, .str re, .bool ba, .ref 1 0, .str bo],[.var [.sh (.int .u8) code, .int .i64 i', .int .i64 h'], .arr (.pair .str .str) 0 false fs])):=⟨_,i',h',rfl,hc,hP⟩
def etA (e: En): AV:= .agg [.str e.1, .int .i64 e.2.1, .int .i64 e.2.2.1, .ref 1 0, .str e.2.2.2.2.1, .str e.2.2.2.2.2.1, .int .i64 e.2.2.2.2.2.2.1, .str e.2.2.2.2.2.2.2.1, .bool e.2.2.2.2.2.2.2.2.1, .ref 2 0, .str e.2.2.2.2.2.2.2.2.2.2]
def etO (e: En): List Ob:=[.arr (.pair .str .str) 0 false e.2.2.2.1, .arr (.pair .str .str) 0 false e.2.2.2.2.2.2.2.2.2.1]
def etQ (e: En): Prop:=e.1.length≤1000∧e.2.2.2.1.length≤40∧e.2.2.2.2.2.2.2.2.2.1.length≤40
theorem Lb {code: List Int} {P: En→Prop} (ur: aa) (t1 t2: Int) (ak: List Fd) (me ta: aa) (st: Int) (re: aa) (ba: Bool) (fs: List Fd) (bo: aa) (i' h': Int) (hc: okC code i'=true) (hP: P (ur,t1,t2,ak,me,ta,st,re,ba,fs,bo)):
 Lq code etA etO P (some (.agg [.str ur, .int .i64 t1, .int .i64 t2, .ref 1 0, .str me, .str ta, .int .i64 st, .str re, .bool ba, .ref 2 0, .str bo],[.var [.sh (.int .u8) code, .int .i64 i', .int .i64 h'], .arr (.pair .str .str) 0 false ak, .arr (.pair .str .str) 0 false fs])):=⟨_,i',h',rfl,hc,hP⟩
theorem f9 {n: Int} (hn: 0≤n) (code: List Int) (i h: Int): (bi n code i h).toNat≤n.toNat:=by
 have h1:=fw n code i h
 by_cases h0: 0 < n
 · have:=h1.2 h0;omega
 · have e: bi n code i h=0:=by unfold bi;rw [dT' (by omega),cond_true]
   rw [e];omega
theorem xH (n: Int) (code: List Int) (i h: Int): bi n code i h=((bi n code i h).toNat: Int):=by
 have:=(fw n code i h).1;omega
theorem QN {s: aa} {k: Nat} (h: s.length≤k) (hk: k≤1000000): decide (17 + s.length≤9223372036854775807)=true:=dT' (by omega)
theorem vr {n: Int} (hn: 0≤n) (set: aa) (code code': List Int) (i h i' h': Int): (ofS (bi n code i h) set code' i' h').length≤n.toNat:=by rw [mK];exact f9 hn ..
theorem Yx (code: List Int) (i h: Int) (hc: okC code i=true): Lq code acj ack mgQ (nx 100 code i h):=by
 unfold nx
 repeat' (first | with_reducible refine xF ?_ ?_ | with_reducible refine Iy (fun _=>?_) (fun _=>?_))
 all_goals first
  | ((repeat (first | exact hc | with_reducible apply a7 | with_reducible apply cG | with_reducible apply aI));done)
  | (simp only [Bool.and_true,List.length_cons,List.length_nil,List.length_set,List.length_replicate];(repeat (first | exact hc | with_reducible apply a7 | with_reducible apply cG | with_reducible apply aI));done)
  | (simp (disch:=omega) only [Bool.and_true,Ap,decide_true];(repeat (first | exact hc | with_reducible apply a7 | with_reducible apply cG | with_reducible apply aI));done)
  | exact QN (vr (by omega) ..) (by decide)
  | (refine Uy _ _ _ _ _ _ _ _ _ _ _ _ _ _ _ (Lq code acj ack mgQ) _ 100 _ _ _ [] ?_ (xH ..) ?_ ?_ (fun _ hf=>absurd hf (List.not_mem_nil)) (fun i' h' l q1 q2 q3=>La _ _ _ _ _ _ _ _ _ q1 ⟨q3,?_,Nat.le_trans (xG (k:=4) (by decide) _) (by decide),by rw [List.length_append];exact Nat.le_trans (Nat.add_le_add_left (vr (by omega) ..) _) (by decide)⟩)
     · exact Nat.lt_of_le_of_lt (f9 (by omega) ..) (by decide)
     · (repeat (first | exact hc | with_reducible apply a7 | with_reducible apply cG | with_reducible apply aI))
     · exact Nat.le_trans (Nat.add_le_add_left (f9 (by omega) ..) _) (by decide)
     · exact Nat.le_trans q2 (Nat.le_trans (Nat.add_le_add_left (f9 (by omega) ..) _) (by decide)))
  | skip
 all_goals trace_state
theorem Yy (code: List Int) (i h: Int) (hc: okC code i=true): Lq code etA etO etQ (dE 100 code i h):=by
 unfold dE eq cD
 repeat' (first | with_reducible refine xF ?_ ?_ | with_reducible refine Iy (fun _=>?_) (fun _=>?_))
 all_goals first
  | ((repeat (first | exact hc | with_reducible apply a7 | with_reducible apply cG | with_reducible apply aI));done)
  | (simp only [Bool.and_true,List.length_cons,List.length_nil,List.length_set,List.length_replicate];(repeat (first | exact hc | with_reducible apply a7 | with_reducible apply cG | with_reducible apply aI));done)
  | (simp (disch:=omega) only [Bool.and_true,Ap,decide_true];(repeat (first | exact hc | with_reducible apply a7 | with_reducible apply cG | with_reducible apply aI));done)
  | exact QN (vr (by omega) ..) (by decide)
  | skip
 refine QL _ _ _ _ _ _ _ _ _ _ _ _ _ _ _ _ _ _ _ _ _ _ _ _ (Lq code etA etO etQ) _ 100 _ _ _ [] (Nat.lt_of_le_of_lt (f9 (by omega) ..) (by decide)) (xH ..) (by (repeat (first | exact hc | with_reducible apply a7 | with_reducible apply cG | with_reducible apply aI))) (Nat.le_trans (Nat.add_le_add_left (f9 (by omega) ..) _) (by decide)) (fun _ hf=>absurd hf (List.not_mem_nil)) (fun i' h' l q1 q2 q3=>?_)
 have q4: l.length≤40:=Nat.le_trans q2 (Nat.le_trans (Nat.add_le_add_left (f9 (by omega) ..) _) (by decide))
 refine xF q1 ?_
 refine QM _ _ _ _ _ _ _ _ _ _ _ _ _ _ _ _ _ _ _ _ _ _ _ (Lq code etA etO etQ) _ 100 _ _ _ [] (Nat.lt_of_le_of_lt (f9 (by omega) ..) (by decide)) (xH ..) (a7 q1) (Nat.le_trans (Nat.add_le_add_left (f9 (by omega) ..) _) (by decide)) (fun _ hf=>absurd hf (List.not_mem_nil)) (fun i2 h2 l2 r1 r2 r3=>?_)
 have r4: l2.length≤40:=Nat.le_trans r2 (Nat.le_trans (Nat.add_le_add_left (f9 (by omega) ..) _) (by decide))
 refine Lb _ _ _ _ _ _ _ _ _ _ _ _ _ r1 (show _∧_∧_ from ⟨?_,r4,q4⟩)
 rw [List.length_append]
 exact Nat.le_trans (Nat.add_le_add_left (vr (by omega) ..) _) (by decide)
def adC:=CP (α:=Mg) (fun (_: Unit) code i h=>match nx 100 code i h with | some r=>Br.ret r.1 r.2 | none=> .fail) (fun _=>true) acj ack ([],[],0,[],false,[],[]) (fun _ m=>mgQ m) (fun _ code i h hc _=>by
 obtain ⟨v,i',h',e,q⟩:=Yx code i h hc;exact ⟨v,i',h',by rw [e];rfl,q⟩)
theorem aa4 {o: OR'} {r: Rs} (h: (match o with | some r=>Br.ret r.1 r.2 | none=>Br.fail).val=some r): o=some r:=by
 cases o with
 | none=>cases h
 | some x=>simpa only [Br.val] using h
def ent_dr:=CP (α:=En) (fun (_: Unit) code i h=>match dE 100 code i h with | some r=>Br.ret r.1 r.2 | none=> .fail) (fun _=>true) etA etO en0 (fun _ m=>etQ m) (fun _ code i h hc _=>by
 obtain ⟨v,i',h',e,q⟩:=Yy code i h hc;exact ⟨v,i',h',by rw [e];rfl,q⟩)
def cx:=ent_dr.choose
def aa5: List AV→List Ob→Br:=drQ un0 (fun _=>true) etA etO cx
theorem B0: Sound Kx 150 aa5:=
 MP (xE (φ:=fun code i h=>match dE 100 code i h with | some r=>Br.ret r.1 r.2 | none=> .fail) (fun _ _ _=>100) fun code i h r hv=>aa4 hv) (fun (_: Unit) code i h=>match dE 100 code i h with | some r=>Br.ret r.1 r.2 | none=> .fail)
  (fun l b code i h hl=>by rw [MQ hl];rfl) fun b code i h hc hg=>(ent_dr.choose_spec b code i h hc hg).1
theorem Yz {code: List Int} {i: Int} (h: Int) (hc: okC code i=true): okC code (cx () code i h).2.1=true∧etQ (cx () code i h).1:=(ent_dr.choose_spec () code i h hc rfl).2
abbrev B1 (code: List Int) (i h: Int):=(List.set (List.replicate 1 (([]: aa),([]: aa))) 0 (([86,97,114,121]: aa),(List.getD (List.set (List.set (List.set (List.set (List.replicate 4 ([]: aa)) 0 ([42]: aa)) 1 ([65,99,99,101,112,116,44,32,97,99,99,101,112,116]: aa)) 2 ([120,44,32,42]: aa)) 3 ([65,99,99,101,112,116,44,73,102,45,78,111,110,101,45,77,97,116,99,104]: aa)) (Int.toNat (bi 4 code (al 8 code (cx () code i h).2.1) (av 8 (cx () code i h).2.2))) ([]: aa))))
abbrev sr (code: List Int) (i h: Int):=((Ob.var ((AV.sh (Ty.int .u8) code)::((AV.int .i64 (al 8 code (cx () code i h).2.1))::((AV.int .i64 (av 8 (cx () code i h).2.2))::[]))))::((Ob.arr (Ty.pair Ty.str Ty.str) 0 false (cx () code i h).1.2.2.2.2.2.2.2.2.2.1)::[]))
abbrev su (code: List Int) (i h: Int):=((AV.str (cx () code i h).1.2.2.2.2.2.2.2.1)::((AV.bool (cx () code i h).1.2.2.2.2.2.2.2.2.1)::((AV.ref 1 0)::((AV.str (cx () code i h).1.2.2.2.2.2.2.2.2.2.2)::[]))))
def QO (code: List Int) (i h: Int): Br:=(.ite ((okC code i)&&true) (.ite (okC code (cx () code i h).2.1) (.ite (decide ((bi 8 code (cx () code i h).2.1 (cx () code i h).2.2)=0)) (.ret (AV.agg ((AV.str (cx () code i h).1.2.2.2.2.1)::((AV.str (cx () code i h).1.2.2.2.2.2.1)::((AV.int .i64 206)::(su code i h))))) (sr code i h)) (.ite (decide ((bi 8 code (cx () code i h).2.1 (cx () code i h).2.2)=1)) (.ret (AV.agg [.str (cx () code i h).1.2.2.2.2.1,.str (cx () code i h).1.2.2.2.2.2.1,.int .i64 304,.str (cx () code i h).1.2.2.2.2.2.2.2.1,.bool true,.ref 1 0,.str ([]: aa)]) (sr code i h)) (.ite (decide ((bi 8 code (cx () code i h).2.1 (cx () code i h).2.2)=2)) (.ite ((okC code (al 8 code (cx () code i h).2.1))&&true) (.ite (decide ((((List.length (cx () code i h).1.2.2.2.2.2.2.2.2.2.1) + (List.length (B1 code i h))) * 32)≤140737488355328)) (.ret (AV.agg ((AV.str (cx () code i h).1.2.2.2.2.1)::((AV.str (cx () code i h).1.2.2.2.2.2.1)::((AV.int .i64 (cx () code i h).1.2.2.2.2.2.2.1)::(su code i h))))) [.var [.sh (Ty.int .u8) code,.int .i64 (al 4 code (al 8 code (cx () code i h).2.1)),.int .i64 (av 4 (av 8 (cx () code i h).2.2))],.arr (Ty.pair Ty.str Ty.str) 0 false ((cx () code i h).1.2.2.2.2.2.2.2.2.2.1++(B1 code i h))]) .fail) .fail) (.ret (AV.agg ((AV.str (cx () code i h).1.2.2.2.2.1)::((AV.str (cx () code i h).1.2.2.2.2.2.1)::((AV.int .i64 (cx () code i h).1.2.2.2.2.2.2.1)::(su code i h))))) (sr code i h))))) .fail) .fail)
def acl: List AV→List Ob→Br
 | [.ptr 0 0],[.var [.sh (.int .u8) code, .int .i64 i, .int .i64 h]]=>QO code i h
 | _,_=> .fail
def QP: SC:=[⟨150,_,B0⟩,⟨98,_,Jg⟩,⟨71,_,cJ⟩,⟨147,_,J5⟩,⟨115,_,mJ⟩]
abbrev fj (code: List Int) (i h: Int):=((AV.ref 1 0)::((AV.str (cx () code i h).1.2.2.2.2.1)::((AV.str (cx () code i h).1.2.2.2.2.2.1)::((AV.int .i64 (cx () code i h).1.2.2.2.2.2.2.1)::((AV.str (cx () code i h).1.2.2.2.2.2.2.2.1)::((AV.bool (cx () code i h).1.2.2.2.2.2.2.2.2.1)::((AV.ref 2 0)::((AV.str (cx () code i h).1.2.2.2.2.2.2.2.2.2.2)::[]))))))))
abbrev et (code: List Int) (i h: Int):=((Ob.arr (Ty.pair Ty.str Ty.str) 0 false (cx () code i h).1.2.2.2.1)::((Ob.arr (Ty.pair Ty.str Ty.str) 0 false (cx () code i h).1.2.2.2.2.2.2.2.2.2.1)::[]))
abbrev fk (code: List Int) (i h: Int):=(List.set (List.set (List.set (List.replicate 3 0) 0 (ad ((cx () code i h).1.2.2.1 + 1))) 1 (cx () code i h).1.2.2.1) 2 (-1))
abbrev bK (code: List Int) (i h: Int):=(al 6 code (al 6 code (cx () code i h).2.1))
abbrev fm (code: List Int) (i h: Int):=(bi 6 code (al 6 code (cx () code i h).2.1) (av 6 (cx () code i h).2.2))
abbrev cr (code: List Int) (i h: Int):=(av 6 (av 6 (cx () code i h).2.2))
def gG (code: List Int) (i h: Int): Br:=(.ite ((okC code i)&&true) (.ite (okC code (cx () code i h).2.1) (.ite (!(decide ((bi 6 code (cx () code i h).2.1 (cx () code i h).2.2)=0))) (.ret (AV.agg ((AV.str (cx () code i h).1.1)::((AV.int .i64 (cx () code i h).1.2.1)::((AV.int .i64 (cx () code i h).1.2.2.1)::(fj code i h))))) ((Ob.var [.sh (Ty.int .u8) code,.int .i64 (al 6 code (cx () code i h).2.1),.int .i64 (av 6 (cx () code i h).2.2)])::(et code i h))) (.ite (okC code (al 6 code (cx () code i h).2.1)) (.ite (decide ((fm code i h)=0)) (.ite ((okC code (bK code i h))&&(decide ((List.length (cx () code i h).1.1)≤1000000))) (.ret (AV.agg ((AV.str (Dw (cx () code i h).1.1 code (bK code i h) (cr code i h)).1)::((AV.int .i64 (cx () code i h).1.2.1)::((AV.int .i64 (cx () code i h).1.2.2.1)::(fj code i h))))) ((Ob.var [.sh (Ty.int .u8) code,.int .i64 (Dw (cx () code i h).1.1 code (bK code i h) (cr code i h)).2.1,.int .i64 (Dw (cx () code i h).1.1 code (bK code i h) (cr code i h)).2.2])::(et code i h))) .fail) (.ite (decide ((fm code i h)=1)) (.ite ((okC code (bK code i h))&&(decide (0 < (List.length (fk code i h))))) (.ret (AV.agg ((AV.str (cx () code i h).1.1)::((AV.int .i64 (List.getD (fk code i h) (Int.toNat (bi ((List.length (fk code i h)): Int) code (bK code i h) (cr code i h))) 0))::((AV.int .i64 (cx () code i h).1.2.2.1)::(fj code i h))))) ((Ob.var [.sh (Ty.int .u8) code,.int .i64 (al ((List.length (fk code i h)): Int) code (bK code i h)),.int .i64 (av ((List.length (fk code i h)): Int) (cr code i h))])::(et code i h))) .fail) (.ite (decide ((fm code i h)=2)) (.ite ((okC code (bK code i h))&&true) (.ret (AV.agg ((AV.str (cx () code i h).1.1)::((AV.int .i64 (cx () code i h).1.2.1)::((AV.int .i64 (List.getD (List.set (List.set (List.replicate 2 0) 0 253402300799) 1 253402300800) (Int.toNat (bi 2 code (bK code i h) (cr code i h))) 0))::(fj code i h))))) ((Ob.var [.sh (Ty.int .u8) code,.int .i64 (al 2 code (bK code i h)),.int .i64 (av 2 (cr code i h))])::(et code i h))) .fail) (.ite (decide ((fm code i h)=3)) (.ite (decide ((((List.length (cx () code i h).1.2.2.2.1) + 1) * 32)≤140737488355328)) (.ret (AV.agg ((AV.str (cx () code i h).1.1)::((AV.int .i64 (cx () code i h).1.2.1)::((AV.int .i64 (cx () code i h).1.2.2.1)::(fj code i h))))) [.var [.sh (Ty.int .u8) code,.int .i64 (bK code i h),.int .i64 (cr code i h)],.arr (Ty.pair Ty.str Ty.str) 0 false ((cx () code i h).1.2.2.2.1++(List.set (List.replicate 1 (([]: aa),([]: aa))) 0 (([]: aa),([]: aa)))),.arr (Ty.pair Ty.str Ty.str) 0 false (cx () code i h).1.2.2.2.2.2.2.2.2.2.1]) .fail) (.ite (decide ((fm code i h)=4)) (.ret (AV.agg [.str (cx () code i h).1.1,.int .i64 (cx () code i h).1.2.1,.int .i64 (cx () code i h).1.2.2.1,.ref 1 0,.str (cx () code i h).1.2.2.2.2.1,.str (cx () code i h).1.2.2.2.2.2.1,.int .i64 (cx () code i h).1.2.2.2.2.2.2.1,.str (cx () code i h).1.2.2.2.2.2.2.2.1,.bool true,.ref 2 0,.str ([]: aa)]) ((Ob.var [.sh (Ty.int .u8) code,.int .i64 (bK code i h),.int .i64 (cr code i h)])::(et code i h))) (.ite ((okC code (bK code i h))&&true) (.ret (AV.agg [.str (cx () code i h).1.1,.int .i64 (cx () code i h).1.2.1,.int .i64 (cx () code i h).1.2.2.1,.ref 1 0,.str (cx () code i h).1.2.2.2.2.1,.str (cx () code i h).1.2.2.2.2.2.1,.int .i64 (List.getD (List.set (List.set (List.set (List.replicate 3 0) 0 0) 1 204) 2 600) (Int.toNat (bi 3 code (bK code i h) (cr code i h))) 0),.str (cx () code i h).1.2.2.2.2.2.2.2.1,.bool (cx () code i h).1.2.2.2.2.2.2.2.2.1,.ref 2 0,.str (cx () code i h).1.2.2.2.2.2.2.2.2.2.2]) ((Ob.var [.sh (Ty.int .u8) code,.int .i64 (al 3 code (bK code i h)),.int .i64 (av 3 (cr code i h))])::(et code i h))) .fail)))))) .fail)) .fail) .fail)
def B2: List AV→List Ob→Br
 | [.ptr 0 0],[.var [.sh (.int .u8) code, .int .i64 i, .int .i64 h]]=>gG code i h
 | _,_=> .fail
theorem Ld: Sound Kx 79 B2:=ac (C:=QP) (O:=O0) Tryz.func79 (by kernel_rfl) fun args objs=>by
 unfold B2;split
 · exact .inr (by kernel_rfl)
 · exact .inl rfl
end
end Go.Proofs.YtgknmoadpgpdeaaGreatDoor.Ev
namespace Go.Proofs.YtgknmoadpgpdeaaGreatDoor.Ev
open Go Go.RowKit
set_option linter.unusedVariables false
set_option linter.unusedSimpArgs false
set_option linter.defProp false
set_option maxRecDepth 20000
noncomputable section
theorem QQ {code: List Int} {P: En→Prop} (ur: aa) (t1 t2: Int) (ak: List Fd) (me ta: aa) (st: Int) (re: aa) (ba: Bool) (fs: List Fd) (bo: aa) (i' h': Int) (hc: okC code i'=true) (hP: P (ur,t1,t2,ak,me,ta,st,re,ba,fs,bo)):
 Dra code etA etO P (.ret (.agg [.str ur, .int .i64 t1, .int .i64 t2, .ref 1 0, .str me, .str ta, .int .i64 st, .str re, .bool ba, .ref 2 0, .str bo]) [.var [.sh (.int .u8) code, .int .i64 i', .int .i64 h'], .arr (.pair .str .str) 0 false ak, .arr (.pair .str .str) 0 false fs]):=⟨_,i',h',rfl,hc,hP⟩
def Zi (e: En): Prop:=e.1.length≤2000∧e.2.2.2.1.length≤80∧e.2.2.2.2.2.2.2.2.2.1.length≤80
theorem Uz (code: List Int) (i h: Int) (hc: okC code i=true): Dra code etA etO Zi (gG code i h):=by
 unfold gG cr fm bK fk et fj
 obtain ⟨e1,e2,e3,e4⟩:=Yz h hc
 generalize cx () code i h=x at *
 obtain ⟨⟨ur,t1,t2,ak,me,ta,st,re,ba,fs,bo⟩,i1,h1⟩:=x
 simp only at e1 e2 e3 e4 ⊢
 obtain ⟨b1,b2⟩:=NY (code:=code) (i:=al 6 code (al 6 code i1)) ur (av 6 (av 6 h1)) (a7 (a7 e1)) (by omega)
 repeat' (first | with_reducible refine qr ?_ ?_ | with_reducible refine qq (fun _=>?_) (fun _=>?_) | with_reducible refine QQ _ _ _ _ _ _ _ _ _ _ _ _ _ ?_ ?_)
 all_goals first
  | ((repeat (first | exact hc | exact e1 | exact b1 | with_reducible apply a7 | with_reducible apply cG | with_reducible apply aI));done)
  | (simp only [Bool.and_true,List.length_cons,List.length_nil,List.length_set,List.length_replicate];(repeat (first | exact hc | exact e1 | exact b1 | with_reducible apply a7 | with_reducible apply cG | with_reducible apply aI));done)
  | (simp only [Bool.and_eq_true,decide_eq_true_eq,List.length_cons,List.length_nil,List.length_set,List.length_replicate];refine ⟨?_,by omega⟩;(repeat (first | exact hc | exact e1 | exact b1 | with_reducible apply a7 | with_reducible apply cG | with_reducible apply aI));done)
  | (simp (disch:=omega) only [Bool.and_true,Ap,decide_true];(repeat (first | exact hc | exact e1 | exact b1 | with_reducible apply a7 | with_reducible apply cG | with_reducible apply aI));done)
  | (refine (show _∧_∧_ from ⟨?_,?_,?_⟩) <;> simp only [List.length_append,List.length_cons,List.length_nil,List.length_set,List.length_replicate] <;> omega)
  | (rw [decide_eq_true_eq];omega)
  | (rw [decide_eq_true_eq];simp only [List.length_append,List.length_cons,List.length_nil,List.length_set,List.length_replicate];omega)
  | skip
 all_goals trace_state
def bente_dr:=CP (α:=En) (fun (_: Unit) code i h=>gG code i h) (fun _=>true) etA etO en0 (fun _ m=>Zi m) (fun _ code i h hc _=>Uz code i h hc)
def fS:=bente_dr.choose
def YA: List AV→List Ob→Br:=drQ un0 (fun _=>true) etA etO fS
theorem Ey: Sound Kx 79 YA:=
 MP Ld (fun (_: Unit) code i h=>gG code i h) (fun l b code i h hl=>by rw [MQ hl];rfl) fun b code i h hc hg=>(bente_dr.choose_spec b code i h hc hg).1
theorem UA {code: List Int} {i: Int} (h: Int) (hc: okC code i=true): okC code (fS () code i h).2.1=true∧Zi (fS () code i h).1:=(bente_dr.choose_spec () code i h hc rfl).2
theorem adD {code: List Int} (h: code.length≤281474976710656): okC code 0=true:=by
 unfold okC;simp only [Bool.and_eq_true,decide_eq_true_eq];exact ⟨by omega,h⟩
def Vq (Q: OR'→Prop) (b: Br): Prop:=Q b.val
theorem QR {Q: OR'→Prop} {c: Bool} {x: Br} (h0: c=true) (h1: Vq Q x): Vq Q (.ite c x .fail):=by subst h0;exact h1
theorem aa6 {Q: OR'→Prop} {c: Bool} {x y: Br} (h1: c=true→Vq Q x) (h2: c=false→Vq Q y): Vq Q (.ite c x y):=by
 cases c
 · exact h2 rfl
 · exact h1 rfl
theorem aa7 (code: List Int) (hl: code.length≤281474976710656): Vq (fun o=>∃ v: aa,o=some (.str v,[])∧v.length≤1000) (Eu code):=by
 have hc:=adD hl
 have hs: ∀ (l: List aa) (k: Nat) (n: Int) (set: aa) (c': List Int) (i' h' i2 h2: Int),(∀ x ∈ l,x.length≤2)→n=5→(l.getD k []++[34]++ofS (bi n code i' h') set c' i2 h2++[34]).length≤10:=by
  intro l k n set c' i' h' i2 h2 h hn
  subst hn
  have h1:=xG (k:=2) h k
  have h3:=vr (n:=5) (by omega) set code c' i' h' i2 h2
  simp only [List.length_append,List.length_cons,List.length_nil]
  have e5: Int.toNat 5=5:=rfl
  omega
 unfold Eu xD nu kK kJ eK
 have hS1:=hs ((((List.replicate 3 []).set 0 []).set 1 [87,47]).set 2 [119,47]) (bi 3 code 0 (gf code)).toNat 5 [97,98,44,33] code (al 3 code 0) (av 3 (gf code)) (al 5 code (al 3 code 0)) (av 5 (av 3 (gf code))) (by decide) rfl
 have g1:=xG (k:=2) (l:=(((List.replicate 3 []).set 0 []).set 1 [87,47]).set 2 [119,47]) (by decide) (bi 3 code 0 (gf code)).toNat
 have o1:=vr (n:=5) (by omega) [97,98,44,33] code code (al 3 code 0) (av 3 (gf code)) (al 5 code (al 3 code 0)) (av 5 (av 3 (gf code)))
 have c2: okC code (ofI (bi 5 code (al 3 code 0) (av 3 (gf code))) [97,98,44,33] code (al 5 code (al 3 code 0)) (av 5 (av 3 (gf code))))=true:=by (repeat (first | exact hc | exact c2 | exact b1 | with_reducible apply a7 | with_reducible apply cG | with_reducible apply aI))
 generalize (ofI (bi 5 code (al 3 code 0) (av 3 (gf code))) [97,98,44,33] code (al 5 code (al 3 code 0)) (av 5 (av 3 (gf code))))=I2 at *
 generalize (ofH (bi 5 code (al 3 code 0) (av 3 (gf code))) [97,98,44,33] code (al 5 code (al 3 code 0)) (av 5 (av 3 (gf code))))=H2 at *
 generalize (ofS (bi 5 code (al 3 code 0) (av 3 (gf code))) [97,98,44,33] code (al 5 code (al 3 code 0)) (av 5 (av 3 (gf code))))=S2 at *
 generalize ((((List.replicate 3 []).set 0 []).set 1 [87,47]).set 2 [119,47]: List aa).getD (bi 3 code 0 (gf code)).toNat []=G at *
 have e5: Int.toNat 5=5:=rfl
 rw [e5] at o1
 obtain ⟨b1,b2⟩:=NY (code:=code) (i:=al 3 code I2) (G++[34]++S2++[34]) (av 3 H2) (a7 c2) (by omega)
 have v2:=fw 2 code (al 9 code (al 3 code I2)) (av 9 (av 3 H2))
 have v3:=v2.2 (by omega)
 rw [w64 (n:=188 + bi 2 code (al 9 code (al 3 code I2)) (av 9 (av 3 H2))) (by omega) (by omega)]
 repeat' (first | with_reducible refine QR ?_ ?_ | with_reducible refine aa6 (fun _=>?_) (fun _=>?_))
 all_goals first
  | ((repeat (first | exact hc | exact c2 | exact b1 | with_reducible apply a7 | with_reducible apply cG | with_reducible apply aI));done)
  | exact dT' hl
  | (simp only [Bool.and_true,List.length_cons,List.length_nil,List.length_set,List.length_replicate];(repeat (first | exact hc | exact c2 | exact b1 | with_reducible apply a7 | with_reducible apply cG | with_reducible apply aI));done)
  | (simp (disch:=omega) only [Bool.and_true,Ap,decide_true];(repeat (first | exact hc | exact c2 | exact b1 | with_reducible apply a7 | with_reducible apply cG | with_reducible apply aI));done)
  | (simp only [Bool.and_eq_true,decide_eq_true_eq,and_true];refine ⟨?_,by omega⟩;(repeat (first | exact hc | exact c2 | exact b1 | with_reducible apply a7 | with_reducible apply cG | with_reducible apply aI));done)
  | (rw [decide_eq_true_eq];simp only [List.length_append,List.length_cons,List.length_nil] at *;omega)
  | (rw [decide_eq_true_eq,mK];omega)
  | (rw [decide_eq_true_eq];simp only [List.length_append,List.length_cons,List.length_nil,mK];omega)
  | (refine (show ∃ _,_ from ⟨_,rfl,?_⟩);omega)
  | (refine (show ∃ _,_ from ⟨_,rfl,?_⟩);simp only [List.length_append,List.length_cons,List.length_nil,mK];omega)
  | skip
 all_goals trace_state
open Classical in
noncomputable def Zj (code: List Int): aa:=if h: code.length≤281474976710656 then (aa7 code h).choose else []
def UB (code: List Int): Br:=(.ite (decide (code.length≤281474976710656)) (.ite (decide (code.length≤281474976710656)) (.ite (okC code 0) (.ite (decide ((bi 3 code 0 (gf code))=0)) (.ret (AV.tup [.str (Zj code),.str (Zj code)]) []) (.ite (decide ((bi 3 code 0 (gf code))=1)) (.ite (decide ((2 + (List.length (Zj code)))≤9223372036854775807)) (.ret (AV.tup [.str (Zj code),.str (([87,47]: aa)++(Zj code))]) []) .fail) (.ite (((okC code (al 3 code 0))&&true)&&true) (.ite (decide ((3 + (List.length (ofS 1 ([97,98]: aa) code (al 3 code 0) (av 3 (gf code)))))≤9223372036854775807)) (.ite (decide (((List.length (([87,47,34]: aa)++(ofS 1 ([97,98]: aa) code (al 3 code 0) (av 3 (gf code))))) + 1)≤9223372036854775807)) (.ret (AV.tup [.str (Zj code),.str ((([87,47,34]: aa)++(ofS 1 ([97,98]: aa) code (al 3 code 0) (av 3 (gf code))))++([34]: aa))]) []) .fail) .fail) .fail))) .fail) .fail) .fail)
def ac0: List AV→List Ob→Br
 | [.sh (.int .u8) code],[]=>UB code
 | _,_=> .fail
def YB: SC:=[⟨69,_,SB⟩,⟨79,_,Ey⟩]
def xI (code: List Int): Br:=(.ite (decide (code.length≤281474976710656)) (.ite ((okC code 0)&&true) (.ret (AV.agg [.str (fS () code 0 (gf code)).1.1,.int .i64 (fS () code 0 (gf code)).1.2.1,.int .i64 (fS () code 0 (gf code)).1.2.2.1,.ref 0 0,.str (fS () code 0 (gf code)).1.2.2.2.2.1,.str (fS () code 0 (gf code)).1.2.2.2.2.2.1,.int .i64 (fS () code 0 (gf code)).1.2.2.2.2.2.2.1,.str (fS () code 0 (gf code)).1.2.2.2.2.2.2.2.1,.bool (fS () code 0 (gf code)).1.2.2.2.2.2.2.2.2.1,.ref 1 0,.str (fS () code 0 (gf code)).1.2.2.2.2.2.2.2.2.2.2]) [.arr (Ty.pair Ty.str Ty.str) 0 false (fS () code 0 (gf code)).1.2.2.2.1,.arr (Ty.pair Ty.str Ty.str) 0 false (fS () code 0 (gf code)).1.2.2.2.2.2.2.2.2.2.1]) .fail) .fail)
def QS: List AV→List Ob→Br
 | [.sh (.int .u8) code],[]=>xI code
 | _,_=> .fail
theorem UC: Sound Kx 29 QS:=ac (C:=YB) (O:=O0) Tryz.func29 (by kernel_rfl) fun args objs=>by
 unfold QS;split
 · exact .inr (by kernel_rfl)
 · exact .inl rfl
def ac1: Opt:={ split:=true }
def ac2: SC:=[⟨153,_,Ii⟩,⟨212,_,Uv⟩]
def QT (y m d: Int) (k: aa): Br:=(.ite (decide (2≤(k.length: Int))) (.ite (decide ((List.length (cut k 0 2))≤12)) (.ite (decide (5≤(k.length: Int))) (.ite (decide ((List.length (cut k 3 5))≤12)) (.ite (decide (8≤(k.length: Int))) (.ite (decide ((List.length (cut k 6 8))≤12)) (.ite (iG (cvM y m d (dI (cut k 0 2)) (dI (cut k 3 5)) (dI (cut k 6 8)))).2 (.ret (AV.int .i64 (iG (cvM y m d (dI (cut k 0 2)) (dI (cut k 3 5)) (dI (cut k 6 8)))).1) []) (.ret (AV.int .i64 (-1)) [])) .fail) .fail) .fail) .fail) .fail) .fail)
def aa8: List AV→List Ob→Br
 | [.int .i64 y, .int .i64 m, .int .i64 d, .str k],[]=>QT y m d k
 | _,_=> .fail
theorem sAt_ok: Sound Kx 152 aa8:=ac (C:=ac2) (O:=ac1) Tryz.func152 (by kernel_rfl) fun args objs=>by
 unfold aa8;split
 · exact .inr (by kernel_rfl)
 · exact .inl rfl
def YC: Opt:={ split:=true }
def YD: SC:=[⟨205,_,PT⟩,⟨206,_,K8⟩,⟨207,_,Vt⟩,⟨208,_,Uk⟩,⟨209,_,QF⟩,⟨210,_,QG⟩,⟨211,_,QH⟩]
abbrev fT (s: aa):=(iG (cvM (ad ((ad ((List.getD (bN s) 1 0) + 1900)) + 100)) (G7 (cut s (sR s 44) (s.length: Int))) (List.getD (bN s) 0 0) (List.getD (bN s) 2 0) (List.getD (bN s) 3 0) (List.getD (bN s) 4 0)))
abbrev fU (s: aa):=(iG (cvM (ad ((List.getD (bN s) 1 0) + 1900)) (G7 (cut s (sR s 44) (s.length: Int))) (List.getD (bN s) 0 0) (List.getD (bN s) 2 0) (List.getD (bN s) 3 0) (List.getD (bN s) 4 0)))
abbrev fV (s: aa):=(iG (cvM (List.getD (bN s) 1 0) (G7 (cut s (sR s 44) (s.length: Int))) (List.getD (bN s) 0 0) (List.getD (bN s) 2 0) (List.getD (bN s) 3 0) (List.getD (bN s) 4 0)))
abbrev fW (s: aa):=(iG (cvM (List.getD (bN s) 4 0) (G7 (cut s 3 (s.length: Int))) (List.getD (bN s) 0 0) (List.getD (bN s) 1 0) (List.getD (bN s) 2 0) (List.getD (bN s) 3 0)))
abbrev dr (s: aa):=(Br.ret (AV.tup ((AV.int .i64 0)::((AV.bool false)::[]))) [])
abbrev dt (s: aa):=((List.length (bN s)): Int)
def xJ (s: aa): Br:=(.ite (decide ((s.length: Int) < 6)) (dr s) (.ite (decide (40 < (s.length: Int))) (dr s) (.ite (decide (s.length≤100000)) (.ite (!(decide ((dt s)=5))) (dr s) (.ite (decide (3≤(s.length: Int))) (.ite (decide ((List.length (cut s 3 (s.length: Int)))≤1000000)) (.ite (decide (0≤(sR s 44))) (.ite (decide (0≤(sR s 44))) (.ite (decide ((sR s 44)≤(s.length: Int))) (.ite (decide ((List.length (cut s (sR s 44) (s.length: Int)))≤1000000)) (.ite (decide (1 < (dt s))) (.ite (decide (0 < (dt s))) (.ite (decide (2 < (dt s))) (.ite (decide (3 < (dt s))) (.ite (decide (4 < (dt s))) (.ite (decide (0≤(sR s 45))) (.ite (decide ((ad ((List.getD (bN s) 1 0) + 1900)) < 1970)) (.ite (!(fT s).2) (dr s) (.ite (!(decide ((dO (fT s).1)=s))) (.ite (!(decide ((dP (fT s).1)=s))) (.ite (!(decide ((eF (fT s).1)=s))) (dr s) (.ret (AV.tup [.int .i64 (fT s).1,.bool true]) [])) (.ret (AV.tup [.int .i64 (fT s).1,.bool true]) [])) (.ret (AV.tup [.int .i64 (fT s).1,.bool true]) []))) (.ite (!(fU s).2) (dr s) (.ite (!(decide ((dO (fU s).1)=s))) (.ite (!(decide ((dP (fU s).1)=s))) (.ite (!(decide ((eF (fU s).1)=s))) (dr s) (.ret (AV.tup [.int .i64 (fU s).1,.bool true]) [])) (.ret (AV.tup [.int .i64 (fU s).1,.bool true]) [])) (.ret (AV.tup [.int .i64 (fU s).1,.bool true]) [])))) (.ite (!(fV s).2) (dr s) (.ite (!(decide ((dO (fV s).1)=s))) (.ite (!(decide ((dP (fV s).1)=s))) (.ite (!(decide ((eF (fV s).1)=s))) (dr s) (.ret (AV.tup [.int .i64 (fV s).1,.bool true]) [])) (.ret (AV.tup [.int .i64 (fV s).1,.bool true]) [])) (.ret (AV.tup [.int .i64 (fV s).1,.bool true]) [])))) .fail) .fail) .fail) .fail) .fail) .fail) .fail) .fail) (.ite (decide (4 < (dt s))) (.ite (decide (0 < (dt s))) (.ite (decide (1 < (dt s))) (.ite (decide (2 < (dt s))) (.ite (decide (3 < (dt s))) (.ite (!(fW s).2) (dr s) (.ite (!(decide ((dO (fW s).1)=s))) (.ite (!(decide ((dP (fW s).1)=s))) (.ite (!(decide ((eF (fW s).1)=s))) (dr s) (.ret (AV.tup [.int .i64 (fW s).1,.bool true]) [])) (.ret (AV.tup [.int .i64 (fW s).1,.bool true]) [])) (.ret (AV.tup [.int .i64 (fW s).1,.bool true]) []))) .fail) .fail) .fail) .fail) .fail)) .fail) .fail)) .fail)))
def QU: List AV→List Ob→Br
 | [.str s],[]=>xJ s
 | _,_=> .fail
theorem iRead_ok: Sound Kx 151 QU:=ac (C:=YD) (O:=YC) Tryz.func151 (by kernel_rfl) fun args objs=>by
 unfold QU;split
 · exact .inr (by kernel_rfl)
 · exact .inl rfl
theorem QV (l: aa) (n: Nat): Ev.cut l ((n: Nat): Int) (l.length: Int)=l.drop n:=by unfold Ev.cut;simp
def atB (k: aa): Bool:=decide (k.length=8)
def adE: List AV→List Ob→Br
 | [.int .i64 y, .int .i64 m, .int .i64 d, .str k],[]=> .ite (atB k) (.ret (.int .i64 (atS y m d k)) []) .fail
 | _,_=> .fail
theorem sw (k: aa) (a b: Nat) (h: b≤a + 4): (Ev.cut k ((a: Nat): Int) ((b: Nat): Int)).length≤4:=by
 unfold Ev.cut
 simp only [List.length_drop,List.length_take,Int.toNat_natCast]
 omega
theorem YE: Sound Kx 152 adE:=sAt_ok.of fun args objs r h=>by
 unfold adE at h;split at h
 · rename_i y m d k
   obtain ⟨h1,h2⟩:=ae h
   cases h2
   have hk: k.length=8:=of_decide_eq_true h1
   show (QT y m d k).val=some (.int .i64 (atS y m d k),[])
   have c1:=sw k 0 2 (by omega)
   have c2:=sw k 3 5 (by omega)
   have c3:=sw k 6 8 (by omega)
   unfold QT
   rw [dT' (show (2 : Int)≤(k.length: Int) by omega),dT' (show (5 : Int)≤(k.length: Int) by omega),dT' (show (8 : Int)≤(k.length: Int) by omega),
    dT' (show (Ev.cut k 0 2).length≤12 from Nat.le_trans c1 (by omega)),dT' (show (Ev.cut k 3 5).length≤12 from Nat.le_trans c2 (by omega)),dT' (show (Ev.cut k 6 8).length≤12 from Nat.le_trans c3 (by omega))]
   simp only [Br.val]
   unfold atS iG
   show _=some (AV.int .i64 (bif ce (cvM y m d (dI (Ev.cut k 0 2)) (dI (Ev.cut k 3 5)) (dI (Ev.cut k 6 8))) then Ar (cvM y m d (dI (Ev.cut k 0 2)) (dI (Ev.cut k 3 5)) (dI (Ev.cut k 6 8))) else -1),[])
   cases ce (cvM y m d (dI (Ev.cut k 0 2)) (dI (Ev.cut k 3 5)) (dI (Ev.cut k 6 8))) <;> rfl
 · cases h
theorem B3 (b: UInt8): ∀ s: aa,cE s (by8 b)=true→sR s (by8 b)=((aq s (by8 b)).length: Int)
 | [],h=>by cases h
 | a::r,h=>by
   have e: (by8 b).toNat.toUInt8=b:=by simp [by8]
   have hd: cE (a::r) (by8 b)=(decide (by8 a=by8 b)||cE r (by8 b)):=rfl
   have hu: aq (a::r) (by8 b)=bif !decide (by8 a=by8 b) then a::aq r (by8 b) else []:=by
    unfold aq;rw [List.takeWhile_cons];cases decide (by8 a=by8 b) <;> rfl
   unfold sR
   rw [e,hu]
   by_cases c: a=b
   · subst c
     unfold Lib.indexByte
     simp
   · have cb: ¬ by8 a=by8 b:=fun h=>c (by unfold by8 at h;exact UInt8.toNat_inj.1 (by omega))
     rw [hd,dF' cb,Bool.false_or] at h
     have ih:=B3 b r h
     unfold sR at ih
     rw [e] at ih
     unfold Lib.indexByte
     rw [if_neg (by simpa using c),ih,if_neg (by simp),dF' cb]
     rfl
def aa9 (s: aa) (c: Cv): Br:=
 (Br.ite (!(iG c).2) (Br.ret (AV.tup ((AV.int .i64 (0 : Int))::((AV.bool false)::([]: (List (AV)))))) ([]: (List (Ob)))) (Br.ite (!(decide ((dO (iG c).1)=s))) (Br.ite (!(decide ((dP (iG c).1)=s))) (Br.ite (!(decide ((eF (iG c).1)=s))) (Br.ret (AV.tup ((AV.int .i64 (0 : Int))::((AV.bool false)::([]: (List (AV)))))) ([]: (List (Ob)))) (Br.ret (AV.tup ((AV.int .i64 (iG c).1)::((AV.bool true)::([]: (List (AV)))))) ([]: (List (Ob))))) (Br.ret (AV.tup ((AV.int .i64 (iG c).1)::((AV.bool true)::([]: (List (AV)))))) ([]: (List (Ob))))) (Br.ret (AV.tup ((AV.int .i64 (iG c).1)::((AV.bool true)::([]: (List (AV)))))) ([]: (List (Ob))))))
theorem l6 (s: aa) (c: Cv): (aa9 s c).val=some (.tup [.int .i64 (XU s c).1, .bool (XU s c).2],[]):=by
 unfold aa9 XU
 generalize (iG c).2=b0
 generalize decide (dO (iG c).1=s)=b1
 generalize decide (dP (iG c).1=s)=b2
 generalize decide (eF (iG c).1=s)=b3
 generalize (iG c).1=v
 cases b0 <;> cases b1 <;> cases b2 <;> cases b3 <;> rfl
def Iz: List AV→List Ob→Br
 | [.str s],[]=> .ret (.tup [.int .i64 (jK s).1, .bool (jK s).2]) []
 | _,_=> .fail
theorem QW (s: aa): (xJ s).val=some (.tup [.int .i64 (rdI s).1, .bool (rdI s).2],[]):=by
 unfold xJ rdI dt dr fW fV fU fT
 by_cases c1: s.length < 6
 · rw [dT' (show (s.length: Int) < 6 by omega),dF' (show ¬ 6≤s.length by omega)];rfl
 rw [dF' (show ¬ (s.length: Int) < 6 by omega),dT' (show 6≤s.length by omega)]
 by_cases c2: 40 < s.length
 · rw [dT' (show (40 : Int) < (s.length: Int) by omega),dF' (show ¬ s.length≤40 by omega)];rfl
 rw [dF' (show ¬ (40 : Int) < (s.length: Int) by omega),dT' (show s.length≤40 by omega),dT' (show s.length≤100000 by omega)]
 by_cases c3: (bN s).length=5
 case neg=>rw [dF' (show ¬ ((bN s).length: Int)=5 by omega),dF' c3];rfl
 have lc: ∀ a b: Int,decide ((Ev.cut s a b).length≤1000000)=true:=fun a b=>dT' (by have:=XO s a b;omega)
 rw [dT' (show ((bN s).length: Int)=5 by omega),dT' c3,dT' (show (3 : Int)≤(s.length: Int) by omega),lc,lc,we s 44 (by omega) (by omega),we s 45 (by omega) (by omega),
  dT' (show (1 : Int) < ((bN s).length: Int) by omega),dT' (show (0 : Int) < ((bN s).length: Int) by omega),dT' (show (2 : Int) < ((bN s).length: Int) by omega),
  dT' (show (3 : Int) < ((bN s).length: Int) by omega),dT' (show (4 : Int) < ((bN s).length: Int) by omega)]
 have hn:=T8 s 1
 have cd: Ev.cut s 3 (s.length: Int)=s.drop 3:=QV s 3
 rw [w64 (n:=(bN s).getD 1 0 + 1900) (by omega) (by omega),w64 (n:=(bN s).getD 1 0 + 1900 + 100) (by omega) (by omega),cd]
 unfold cvI
 cases h44: cE s 44
 · exact l6 s _
 · have ix: sR s 44=((aq s 44).length: Int):=B3 44 s h44
   have hul: (aq s 44).length≤s.length:=by unfold aq;exact (List.takeWhile_sublist _).length_le
   rw [ix,QV,dT' (show ((aq s 44).length: Int)≤(s.length: Int) by omega)]
   cases h45: cE s 45
   · exact l6 s _
   · unfold cen
     cases hc: decide ((bN s).getD 1 0 + 1900 < 1970)
     · exact l6 s _
     · exact l6 s _
theorem QX: Sound Kx 151 Iz:=iRead_ok.of fun args objs r h=>by
 unfold Iz at h;split at h
 · rename_i s
   rw [← h]
   refine (QW s).trans ?_
   rw [VR];rfl
 · cases h
def YF: Opt:={ split:=true }
def YG: SC:=[⟨152,_,YE⟩,⟨153,_,Ii⟩,⟨154,_,K9⟩,⟨155,_,BS⟩,⟨156,_,BU⟩,⟨157,_,BT⟩]
abbrev xK (s: aa):=(Br.ite (decide (30≤(s.length: Int))) (Br.ite (decide ((s.length: Int)≤33)) (Br.ite (decide (0≤(ad ((s.length: Int) - 22)))) (Br.ite (decide ((ad ((s.length: Int) - 22))≤(s.length: Int))) (Br.ite (decide (9≤((List.length (cut s (ad ((s.length: Int) - 22)) (s.length: Int))): Int))) (Br.ite (decide ((List.length (cut (cut s (ad ((s.length: Int) - 22)) (s.length: Int)) 7 9))≤12)) (Br.ite (decide (70≤(dI (cut (cut s (ad ((s.length: Int) - 22)) (s.length: Int)) 7 9)))) (Br.ite (decide (6≤((List.length (cut s (ad ((s.length: Int) - 22)) (s.length: Int))): Int))) (Br.ite (decide (2≤((List.length (cut s (ad ((s.length: Int) - 22)) (s.length: Int))): Int))) (Br.ite (decide ((List.length (cut (cut s (ad ((s.length: Int) - 22)) (s.length: Int)) 0 2))≤12)) (Br.ite (decide (18≤((List.length (cut s (ad ((s.length: Int) - 22)) (s.length: Int))): Int))) (Br.ite (atB (cut (cut s (ad ((s.length: Int) - 22)) (s.length: Int)) 10 18)) (Br.ite (decide ((dP (atS (ad ((dI (cut (cut s (ad ((s.length: Int) - 22)) (s.length: Int)) 7 9)) + 1900)) (DQ (cut (cut s (ad ((s.length: Int) - 22)) (s.length: Int)) 3 6)) (dI (cut (cut s (ad ((s.length: Int) - 22)) (s.length: Int)) 0 2)) (cut (cut s (ad ((s.length: Int) - 22)) (s.length: Int)) 10 18)))=s)) (Br.ret (AV.tup ((AV.int .i64 (atS (ad ((dI (cut (cut s (ad ((s.length: Int) - 22)) (s.length: Int)) 7 9)) + 1900)) (DQ (cut (cut s (ad ((s.length: Int) - 22)) (s.length: Int)) 3 6)) (dI (cut (cut s (ad ((s.length: Int) - 22)) (s.length: Int)) 0 2)) (cut (cut s (ad ((s.length: Int) - 22)) (s.length: Int)) 10 18)))::((AV.bool true)::[]))) []) (Br.ret (AV.tup ((AV.int .i64 0)::((AV.bool false)::[]))) [])) Br.fail) Br.fail) Br.fail) Br.fail) Br.fail) (Br.ite (decide (6≤((List.length (cut s (ad ((s.length: Int) - 22)) (s.length: Int))): Int))) (Br.ite (decide (2≤((List.length (cut s (ad ((s.length: Int) - 22)) (s.length: Int))): Int))) (Br.ite (decide ((List.length (cut (cut s (ad ((s.length: Int) - 22)) (s.length: Int)) 0 2))≤12)) (Br.ite (decide (18≤((List.length (cut s (ad ((s.length: Int) - 22)) (s.length: Int))): Int))) (Br.ite (atB (cut (cut s (ad ((s.length: Int) - 22)) (s.length: Int)) 10 18)) (Br.ite (decide ((dP (atS (ad ((dI (cut (cut s (ad ((s.length: Int) - 22)) (s.length: Int)) 7 9)) + 2000)) (DQ (cut (cut s (ad ((s.length: Int) - 22)) (s.length: Int)) 3 6)) (dI (cut (cut s (ad ((s.length: Int) - 22)) (s.length: Int)) 0 2)) (cut (cut s (ad ((s.length: Int) - 22)) (s.length: Int)) 10 18)))=s)) (Br.ret (AV.tup ((AV.int .i64 (atS (ad ((dI (cut (cut s (ad ((s.length: Int) - 22)) (s.length: Int)) 7 9)) + 2000)) (DQ (cut (cut s (ad ((s.length: Int) - 22)) (s.length: Int)) 3 6)) (dI (cut (cut s (ad ((s.length: Int) - 22)) (s.length: Int)) 0 2)) (cut (cut s (ad ((s.length: Int) - 22)) (s.length: Int)) 10 18)))::((AV.bool true)::[]))) []) (Br.ret (AV.tup ((AV.int .i64 0)::((AV.bool false)::[]))) [])) Br.fail) Br.fail) Br.fail) Br.fail) Br.fail)) Br.fail) Br.fail) Br.fail) Br.fail) (Br.ret (AV.tup ((AV.int .i64 0)::((AV.bool false)::[]))) [])) (Br.ret (AV.tup ((AV.int .i64 0)::((AV.bool false)::[]))) []))
abbrev xL (s: aa):=(Br.ite (decide ((s.length: Int)=24)) (Br.ite (decide (24≤(s.length: Int))) (Br.ite (decide ((List.length (cut s 20 24))≤12)) (Br.ite (decide (7≤(s.length: Int))) (Br.ite (decide (10≤(s.length: Int))) (Br.ite (decide ((List.length (cut s 8 10))≤12)) (Br.ite (decide (19≤(s.length: Int))) (Br.ite (atB (cut s 11 19)) (Br.ite (decide ((eF (atS (dI (cut s 20 24)) (DQ (cut s 4 7)) (dI (cut s 8 10)) (cut s 11 19)))=s)) (Br.ret (AV.tup ((AV.int .i64 (atS (dI (cut s 20 24)) (DQ (cut s 4 7)) (dI (cut s 8 10)) (cut s 11 19)))::((AV.bool true)::[]))) []) (xK s)) Br.fail) Br.fail) Br.fail) Br.fail) Br.fail) Br.fail) Br.fail) (xK s))
def xM (s: aa): Br:=(.ite (decide ((s.length: Int)=29)) (.ite (decide (16≤(s.length: Int))) (.ite (decide ((List.length (cut s 12 16))≤12)) (.ite (decide (11≤(s.length: Int))) (.ite (decide (7≤(s.length: Int))) (.ite (decide ((List.length (cut s 5 7))≤12)) (.ite (decide (25≤(s.length: Int))) (.ite (atB (cut s 17 25)) (.ite (decide ((dO (atS (dI (cut s 12 16)) (DQ (cut s 8 11)) (dI (cut s 5 7)) (cut s 17 25)))=s)) (.ret (AV.tup [.int .i64 (atS (dI (cut s 12 16)) (DQ (cut s 8 11)) (dI (cut s 5 7)) (cut s 17 25)),.bool true]) []) (xL s)) .fail) .fail) .fail) .fail) .fail) .fail) .fail) (xL s))
def QY: List AV→List Ob→Br
 | [.str s],[]=>xM s
 | _,_=> .fail
theorem sRead_ok: Sound Kx 83 QY:=ac (C:=YG) (O:=YF) Tryz.func83 (by kernel_rfl) fun args objs=>by
 unfold QY;split
 · exact .inr (by kernel_rfl)
 · exact .inl rfl
theorem UD (k: aa) (a b: Nat) (h: a≤b) (h2: b≤k.length): (Ev.cut k ((a: Nat): Int) ((b: Nat): Int)).length=b - a:=by
 unfold Ev.cut
 simp only [List.length_drop,List.length_take,Int.toNat_natCast]
 omega
theorem c12 (k: aa) (a b: Nat) (h: b≤a + 4): decide ((Ev.cut k ((a: Nat): Int) ((b: Nat): Int)).length≤12)=true:=dT' (Nat.le_trans (sw k a b h) (by omega))
theorem at8 (k: aa) (a b: Nat) (h: b=a + 8) (h2: b≤k.length): atB (Ev.cut k ((a: Nat): Int) ((b: Nat): Int))=true:=dT' (by rw [UD k a b (by omega) h2];omega)
theorem QZ (s: aa): (xM s).val=some (.tup [.int .i64 (rdS s).1, .bool (rdS s).2],[]):=by
 unfold xM rdS xL xK
 by_cases c29: s.length=29
 · have T: ∀ k: Int,k≤29→decide (k≤(s.length: Int))=true:=fun k h=>dT' (by omega)
   rw [dT' (show (s.length: Int)=29 by omega),dT' c29,dF' (show ¬ (s.length: Int)=24 by omega),dF' (show ¬ s.length=24 by omega),dF' (show ¬ (30 : Int)≤(s.length: Int) by omega),dF' (show ¬ 30≤s.length by omega),
    T 16 (by omega),T 11 (by omega),T 7 (by omega),T 25 (by omega),show decide ((Ev.cut s 12 16).length≤12)=true from c12 s 12 16 (by omega),show decide ((Ev.cut s 5 7).length≤12)=true from c12 s 5 7 (by omega),show atB (Ev.cut s 17 25)=true from at8 s 17 25 (by omega) (by omega)]
   show (Br.ite (decide (dO (t1S s)=s)) (.ret (.tup [.int .i64 (t1S s), .bool true]) []) _).val=_
   cases decide (dO (t1S s)=s) <;> rfl
 rw [dF' (show ¬ (s.length: Int)=29 by omega),dF' c29]
 by_cases c24: s.length=24
 · have T: ∀ k: Int,k≤24→decide (k≤(s.length: Int))=true:=fun k h=>dT' (by omega)
   rw [dT' (show (s.length: Int)=24 by omega),dT' c24,dF' (show ¬ (30 : Int)≤(s.length: Int) by omega),dF' (show ¬ 30≤s.length by omega),
    T 24 (by omega),T 7 (by omega),T 10 (by omega),T 19 (by omega),show decide ((Ev.cut s 20 24).length≤12)=true from c12 s 20 24 (by omega),show decide ((Ev.cut s 8 10).length≤12)=true from c12 s 8 10 (by omega),show atB (Ev.cut s 11 19)=true from at8 s 11 19 (by omega) (by omega)]
   show (Br.ite (decide (eF (t2S s)=s)) (.ret (.tup [.int .i64 (t2S s), .bool true]) []) _).val=_
   cases decide (eF (t2S s)=s) <;> rfl
 rw [dF' (show ¬ (s.length: Int)=24 by omega),dF' c24]
 by_cases c30: 30≤s.length
 case neg=>rw [dF' (show ¬ (30 : Int)≤(s.length: Int) by omega),dF' c30];rfl
 rw [dT' (show (30 : Int)≤(s.length: Int) by omega),dT' c30]
 by_cases c33: s.length≤33
 case neg=>rw [dF' (show ¬ (s.length: Int)≤33 by omega),dF' c33];rfl
 rw [dT' (show (s.length: Int)≤33 by omega),dT' c33,w64 (n:=(s.length: Int) - 22) (by omega) (by omega),show (s.length: Int) - 22=((s.length - 22 : Nat): Int) by omega,QV,
  dT' (show (0 : Int)≤((s.length - 22 : Nat): Int) by omega),dT' (show ((s.length - 22 : Nat): Int)≤(s.length: Int) by omega)]
 have hr: (s.drop (s.length - 22)).length=22:=by rw [List.length_drop];omega
 generalize s.drop (s.length - 22)=r at *
 have T: ∀ k: Int,k≤22→decide (k≤(r.length: Int))=true:=fun k h=>dT' (by omega)
 have hn:=Yc (Ev.cut r 7 9) (sw r 7 9 (by omega))
 rw [T 9 (by omega),T 6 (by omega),T 2 (by omega),T 18 (by omega),show decide ((Ev.cut r 7 9).length≤12)=true from c12 r 7 9 (by omega),show decide ((Ev.cut r 0 2).length≤12)=true from c12 r 0 2 (by omega),show atB (Ev.cut r 10 18)=true from at8 r 10 18 (by omega) (by omega),
  w64 (n:=dI (Ev.cut r 7 9) + 1900) (by omega) (by omega),w64 (n:=dI (Ev.cut r 7 9) + 2000) (by omega) (by omega)]
 by_cases c70: 70≤dI (Ev.cut r 7 9)
 · have e: dI (Ev.cut r 7 9) + 1900=XW (dI (Ev.cut r 7 9)):=by unfold XW;rw [dT' c70];rfl
   rw [dT' c70,e]
   show (Br.ite (decide (dP (t3S r)=s)) (.ret (.tup [.int .i64 (t3S r), .bool true]) []) _).val=_
   cases decide (dP (t3S r)=s) <;> rfl
 · have e: dI (Ev.cut r 7 9) + 2000=XW (dI (Ev.cut r 7 9)):=by unfold XW;rw [dF' c70];rfl
   rw [dF' c70,e]
   show (Br.ite (decide (dP (t3S r)=s)) (.ret (.tup [.int .i64 (t3S r), .bool true]) []) _).val=_
   cases decide (dP (t3S r)=s) <;> rfl
theorem Q0: Sound Kx 83 Iz:=sRead_ok.of fun args objs r h=>by
 unfold Iz at h;split at h
 · rename_i s
   rw [← h]
   refine (QZ s).trans ?_
   rw [aaw];rfl
 · cases h
def aa_ (s p: aa): Br:=(.ite (decide ((p.length: Int)≤(s.length: Int))) (.ite (decide (0≤(p.length: Int))) (.ite (decide ((p.length: Int)≤(s.length: Int))) (.ret (AV.bool (decide ((cut s 0 (p.length: Int))=p))) []) .fail) .fail) (.ret (AV.bool false) []))
def aba: List AV→List Ob→Br
 | [.str s, .str p],[]=>aa_ s p
 | _,_=> .fail
theorem abb: Sound Kx 196 aba:=ac (C:=[]) (O:=O0) Tryz.func196 (by kernel_rfl) fun args objs=>by
 unfold aba;split
 · exact .inr (by kernel_rfl)
 · exact .inl rfl
def abc: Opt:={ split:=true }
def abd: SC:=[⟨196,_,abb⟩]
def YH (s p: aa): Br:=(.ite (decide ((p.length: Int)≤(s.length: Int))) (.ite (decide (0≤(p.length: Int))) (.ite (decide ((p.length: Int)≤(s.length: Int))) (.ite (decide ((cut s 0 (p.length: Int))=p)) (.ite (decide (0≤(p.length: Int))) (.ite (decide ((p.length: Int)≤(s.length: Int))) (.ret (AV.str (cut s (p.length: Int) (s.length: Int))) []) .fail) .fail) (.ret (AV.str s) [])) .fail) .fail) (.ret (AV.str s) []))
def Wa: List AV→List Ob→Br
 | [.str s, .str p],[]=>YH s p
 | _,_=> .fail
theorem YI: Sound Kx 149 Wa:=ac (C:=abd) (O:=abc) Tryz.func149 (by kernel_rfl) fun args objs=>by
 unfold Wa;split
 · exact .inr (by kernel_rfl)
 · exact .inl rfl
def ac3: SC:=[⟨149,_,YI⟩]
def Q1 (s p: aa): Br:=(.ite (decide ((p.length: Int)≤(s.length: Int))) (.ite (decide (0≤(p.length: Int))) (.ite (decide ((p.length: Int)≤(s.length: Int))) (.ite (decide ((cut s 0 (p.length: Int))=p)) (.ite (decide (0≤(p.length: Int))) (.ite (decide ((p.length: Int)≤(s.length: Int))) (.ret (AV.str (cut s (p.length: Int) (s.length: Int))) []) .fail) .fail) (.ret (AV.str s) [])) .fail) .fail) (.ret (AV.str s) []))
def abe: List AV→List Ob→Br
 | [.str s, .str p],[]=>Q1 s p
 | _,_=> .fail
theorem tpx_ok: Sound Kx 73 abe:=ac (C:=ac3) (O:=O0) Tryz.func73 (by kernel_rfl) fun args objs=>by
 unfold abe;split
 · exact .inr (by kernel_rfl)
 · exact .inl rfl
def abf: SC:=[⟨47,_,kp⟩]
def Ez (l: List Fd) (name: aa): Br:=(.ite (isM name) (.ite (decide (((List.length (dp l name)): Int)=0)) (.ret (AV.tup [.str ([]: aa),.bool false]) []) (.ite (decide (0 < ((List.length (dp l name)): Int))) (.ret (AV.tup [.str (List.getD (dp l name) 0 ([]: aa)),.bool true]) []) .fail)) .fail)
def Wb: List AV→List Ob→Br
 | [.sh (.pair .str .str) l, .str name],[]=>Ez l name
 | _,_=> .fail
theorem iGet_ok: Sound Kx 80 Wb:=ac (C:=abf) (O:=O0) Tryz.func80 (by kernel_rfl) fun args objs=>by
 unfold Wb;split
 · exact .inr (by kernel_rfl)
 · exact .inl rfl
def Q2: Opt:={ split:=true }
def ny (s: aa): Br:=(.ite (decide (2≤(s.length: Int))) (.ite (decide (2≤(s.length: Int))) (.ite (decide ((cut s 0 2)=([87,47]: aa))) (.ite (decide (2≤(s.length: Int))) (.ret (AV.str (cut s 2 (s.length: Int))) []) .fail) (.ret (AV.str s) [])) .fail) (.ret (AV.str s) []))
def B4: List AV→List Ob→Br
 | [.str s],[]=>ny s
 | _,_=> .fail
theorem sStrong_ok: Sound Kx 76 B4:=ac (C:=[]) (O:=Q2) Tryz.func76 (by kernel_rfl) fun args objs=>by
 unfold B4;split
 · exact .inr (by kernel_rfl)
 · exact .inl rfl
def EA (b: Int): Br:=(.ite (decide (32 < b)) (.ite (!(decide (b=34))) (.ret (AV.bool (!(decide (b=127)))) []) (.ret (AV.bool false) [])) (.ret (AV.bool false) []))
def Wc: List AV→List Ob→Br
 | [.int .u8 b],[]=>EA b
 | _,_=> .fail
theorem YJ: Sound Kx 75 Wc:=ac (C:=[]) (O:=O0) Tryz.func75 (by kernel_rfl) fun args objs=>by
 unfold Wc;split
 · exact .inr (by kernel_rfl)
 · exact .inl rfl
def tpP (s p: aa): aa:=bif decide (p.length≤s.length)&&decide (s.take p.length=p) then s.drop p.length else s
def bF (s: aa): aa:=tpP s [87,47]
theorem vu (s: aa): (bF s).length≤s.length:=by
 unfold bF tpP
 cases decide (([87,47]: aa).length≤s.length)&&decide (s.take ([87,47]: aa).length=[87,47])
 · exact Nat.le_refl _
 · rw [cond_true,List.length_drop];omega
def adF: List AV→List Ob→Br
 | [.str s, .str p],[]=> .ret (.str (tpP s p)) []
 | _,_=> .fail
theorem Q3 (s: aa) (n: Nat): Ev.cut s 0 ((n: Nat): Int)=s.take n:=by unfold Ev.cut;simp
theorem Q4: Sound Kx 73 adF:=tpx_ok.of fun args objs r h=>by
 unfold adF at h;split at h
 · rename_i s p
   rw [← h]
   show (Q1 s p).val=some (.str (tpP s p),[])
   unfold Q1 tpP
   rw [Q3,QV]
   by_cases c: p.length≤s.length
   · rw [dT' (show (p.length: Int)≤(s.length: Int) by omega),dT' (show (0 : Int)≤(p.length: Int) by omega),dT' c]
     cases decide (s.take p.length=p) <;> rfl
   · rw [dF' (show ¬ (p.length: Int)≤(s.length: Int) by omega),dF' c];rfl
 · cases h
def adG: List AV→List Ob→Br
 | [.str s],[]=> .ret (.str (bF s)) []
 | _,_=> .fail
theorem EB: Sound Kx 76 adG:=sStrong_ok.of fun args objs r h=>by
 unfold adG at h;split at h
 · rename_i s
   rw [← h]
   show (ny s).val=some (.str (bF s),[])
   have e1: Ev.cut s 0 2=s.take 2:=Q3 s 2
   have e2: Ev.cut s 2 (s.length: Int)=s.drop 2:=QV s 2
   unfold ny bF tpP
   rw [e1,e2]
   show _=some (AV.str (bif decide (2≤s.length)&&decide (s.take 2=[87,47]) then s.drop 2 else s),[])
   by_cases c: 2≤s.length
   · rw [dT' (show (2 : Int)≤(s.length: Int) by omega),dT' c]
     cases decide (s.take 2=[87,47]) <;> rfl
   · rw [dF' (show ¬ (2 : Int)≤(s.length: Int) by omega),dF' c];rfl
 · cases h
def iE (b: Int): Bool:=decide (32 < b)&& !decide (b=34)&& !decide (b=127)
theorem UE: Sound Kx 75 (F5 iE):=oN YJ fun b=>by
 show (EA b).val=some (.bool (iE b),[])
 unfold EA iE
 generalize decide (32 < b)=b1
 generalize decide (b=34)=b2
 generalize decide (b=127)=b3
 cases b1 <;> cases b2 <;> cases b3 <;> rfl
theorem xN: Sound Kx 80 wA:=iGet_ok.of fun args objs r h=>by
 unfold wA at h;split at h
 · rename_i l name
   obtain ⟨h1,h2⟩:=ae h
   cases h2
   show (Ez l name).val=some (.tup [.str ((dp l name).getD 0 []), .bool (go l name)],[])
   unfold Ez go
   rw [h1]
   cases hv: dp l name with
   | nil=>rfl
   | cons a v=>
     rw [dF' (show ¬ ((a::v).length: Int)=0 by simp only [List.length_cons];omega),dT' (show (0 : Int) < ((a::v).length: Int) by simp only [List.length_cons];omega),dT' (show 0 < (a::v).length by simp)]
     rfl
 · cases h
def dtP (l: List Fd) (name: aa): Int×Bool:=bif go l name then jK ((dp l name).getD 0 []) else (0,false)
theorem Q5: jK []=(0,false):=by rw [← VR];rfl
theorem Wd (l: List Fd) (name: aa): jK ((dp l name).getD 0 [])=dtP l name:=by
 unfold dtP go
 cases hv: dp l name with
 | nil=>exact Q5
 | cons a v=>rw [dT' (show 0 < (a::v).length by simp)];rfl
def abg: List AV→List Ob→Br
 | [.sh (.pair .str .str) l, .str name],[]=> .ite (isM name) (.ret (.tup [.int .i64 (dtP l name).1, .bool (dtP l name).2]) []) .fail
 | _,_=> .fail
def IA: Opt:={ live:=[(2,[0,1,5])],outs:=[(2,[4])] }
def allTag_C: SC:=[⟨75,_,UE⟩]
def l7 (ay: aa) (aB: Int) (kR2: aa→Int→OR') (cf cO: OR'): OR':=
 (bif (decide (aB < (ay.length: Int))) then (bif (decide (0≤aB)) then (bif (decide (aB < (ay.length: Int))) then (bif (!(iE (aj ay aB))) then cf else (kR2 ay (ad (aB + 1)))) else none) else none) else cO)
def gH: Nat→aa→Int→(OR')→(OR')→OR'
 | 0,_,_,_,_=>none
 | n + 1,ay,aB,cf,cO=>l7 ay aB (fun ay aB=>gH n ay aB cf cO) cf cO
abbrev allTag_p2: SP:=⟨18,[0,1,5],[(.v .s),(.v (.fn 75 [])),(.v (.i .i64))],[]⟩
noncomputable def B5: Code:=ar (aC Tryz.f74) [1,0,1,0,0]
def B6 (f: (OR')→(OR')→OR') (k: KT): OR':=f (k Ex.ret ((St.mk (aA 0 18 [(4,(AV.bool false))]) ([]: (List (Nat×(Ob))))))) (k (Ex.exit 0) ((St.mk (aA 0 18 []) ([]: (List (Nat×(Ob)))))))
def B7 (n: Nat) (d: allTag_p2.D): KT→OR':=B6 (gH n d.1.1 d.1.2.2.1)
def IB (N: Nat): Lam:=bI [⟨2,allTag_p2,B7 N⟩]
theorem Le (N: Nat): OkL Kx allTag_C.s IA 0 N (IB N) B5:=okL allTag_p2 (B7) (fun d kR=>B6 (l7 d.1.1 d.1.2.2.1 (fun ay aB=>kR ((ay,(),aB,()),())))) (fun _ _=>by kernel_rfl) (fun _ _ _=>by kernel_rfl) (fun _ _=>by kernel_rfl) (fun _ _ _ _=>by kernel_rfl) (af (l':=[]) (by kernel_rfl) trivial)
def vv (N: Nat) (s: aa): OR':=(gH N s 0 (some ((AV.bool false),[])) (some ((AV.bool true),[])))
def nz (φ: aa→Br): List AV→List Ob→Br
 | [.str s, .fn 75 []],[]=>φ s
 | _,_=> .fail
theorem EC {φ: aa→Br} (fu: aa→Nat) (hv: ∀ s res_,(φ s).val=some res_→vv (fu s) s=some res_): Sound Kx 74 (nz φ):=ah (C:=allTag_C) (O:=IA) Tryz.func74 (by kernel_rfl) fun args objs=>by
 unfold nz;split
 · rename_i s;exact .inr fun _ hyp_=>aL (Λ:=IB (fu s)) (by kernel_rfl) (af (l':=[B5]) (by kernel_rfl) ⟨Le _,trivial⟩) (by kernel_rfl) (hv s _ hyp_)
 · exact .inl rfl
def Q6: SC:=[⟨80,_,xN⟩,⟨151,_,QX⟩]
def nA (l: List Fd) (name: aa): Br:=(.ite (isM name) (.ret (AV.tup [.int .i64 (jK (List.getD (dp l name) 0 ([]: aa))).1,.bool (jK (List.getD (dp l name) 0 ([]: aa))).2]) []) .fail)
def B8: List AV→List Ob→Br
 | [.sh (.pair .str .str) l, .str name],[]=>nA l name
 | _,_=> .fail
theorem iDateIn_ok: Sound Kx 81 B8:=ac (C:=Q6) (O:=O0) Tryz.func81 (by kernel_rfl) fun args objs=>by
 unfold B8;split
 · exact .inr (by kernel_rfl)
 · exact .inl rfl
def We: Opt:={ live:=[(5,[3,4])],outs:=[(5,[2])] }
def sTag_C: SC:=[⟨76,_,EB⟩]
def xO (aY: aa) (a8: Int) (kR5: aa→Int→OR') (dh xX: OR'): OR':=
 (bif (decide (a8 < (ad ((aY.length: Int) - 1)))) then (bif (decide (0≤a8)) then (bif (decide (a8 < (aY.length: Int))) then (bif (decide ((aj aY a8)≤32)) then dh else (bif (decide (0≤a8)) then (bif (decide (a8 < (aY.length: Int))) then (bif (decide ((aj aY a8)=127)) then dh else (bif (decide (0≤a8)) then (bif (decide (a8 < (aY.length: Int))) then (bif (decide ((aj aY a8)=34)) then dh else (kR5 aY (ad (a8 + 1)))) else none) else none)) else none) else none)) else none) else none) else xX)
def nB: Nat→aa→Int→(OR')→(OR')→OR'
 | 0,_,_,_,_=>none
 | n + 1,aY,a8,dh,xX=>xO aY a8 (fun aY a8=>nB n aY a8 dh xX) dh xX
abbrev sTag_p5: SP:=⟨51,[3,4],[(.v .s),(.v (.i .i64))],[]⟩
noncomputable def Q7: Code:=ar (aC Tryz.f24) [1,1,1,0,1,0,0]
def Q8 (f: (OR')→(OR')→OR') (k: KT): OR':=f (k Ex.ret ((St.mk (aA 0 51 [(2,(AV.bool false))]) ([]: (List (Nat×(Ob))))))) (k (Ex.exit 0) ((St.mk (aA 0 51 []) ([]: (List (Nat×(Ob)))))))
def Q9 (n: Nat) (d: sTag_p5.D): KT→OR':=Q8 (nB n d.1.1 d.1.2.1)
def Wf (N: Nat): Lam:=bI [⟨5,sTag_p5,Q9 N⟩]
theorem UF (N: Nat): OkL Kx sTag_C.s We 0 N (Wf N) Q7:=okL sTag_p5 (Q9) (fun d kR=>Q8 (xO d.1.1 d.1.2.1 (fun aY a8=>kR ((aY,a8,()),())))) (fun _ _=>by kernel_rfl) (fun _ _ _=>by kernel_rfl) (fun _ _=>by kernel_rfl) (fun _ _ _ _=>by kernel_rfl) (af (l':=[]) (by kernel_rfl) trivial)
def IC (N: Nat) (s: aa): OR':=(bif (decide (190 < (s.length: Int))) then (some ((AV.bool false),[])) else (bif (decide (((List.length (bF s)): Int) < 2)) then (some ((AV.bool false),[])) else (bif (decide (0 < ((List.length (bF s)): Int))) then (bif (!(decide ((aj (bF s) 0)=34))) then (some ((AV.bool false),[])) else (bif (decide (0≤(ad (((List.length (bF s)): Int) - 1)))) then (bif (decide ((ad (((List.length (bF s)): Int) - 1)) < ((List.length (bF s)): Int))) then (bif (!(decide ((aj (bF s) (ad (((List.length (bF s)): Int) - 1)))=34))) then (some ((AV.bool false),[])) else (nB N (bF s) 1 (some ((AV.bool false),[])) (some ((AV.bool true),[])))) else none) else none)) else none)))
def ID (φ: aa→Br): List AV→List Ob→Br
 | [.str s],[]=>φ s
 | _,_=> .fail
theorem Q_ {φ: aa→Br} (fu: aa→Nat) (hv: ∀ s res_,(φ s).val=some res_→IC (fu s) s=some res_): Sound Kx 24 (ID φ):=ah (C:=sTag_C) (O:=We) Tryz.func24 (by kernel_rfl) fun args objs=>by
 unfold ID;split
 · rename_i s;exact .inr fun _ hyp_=>aL (Λ:=Wf (fu s)) (by kernel_rfl) (af (l':=[Q7]) (by kernel_rfl) ⟨UF _,trivial⟩) (by kernel_rfl) (hv s _ hyp_)
 · exact .inl rfl
end
end Go.Proofs.YtgknmoadpgpdeaaGreatDoor.Ev
