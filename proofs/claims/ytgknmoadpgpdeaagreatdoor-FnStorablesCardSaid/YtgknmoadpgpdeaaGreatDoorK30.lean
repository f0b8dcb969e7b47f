/- The texts Ya, Yb, Yc, Yd, Ye, Yf, Yg, ContS, Yh, Yi, Yj, Yk, Qi, Qj, Qk, Ql, Qm, one behind the other. -/
import Derived.Test.YtgknmoadpgpdeaaGreatDoorK25
import Derived.Test.YtgknmoadpgpdeaaGreatDoorK29
import Derived.Test.YtgknmoadpgpdeaaGreatDoorK13
import Derived.Test.YtgknmoadpgpdeaaGreatDoorK24
import Derived.Test.YtgknmoadpgpdeaaGreatDoorK19
import Derived.Test.YtgknmoadpgpdeaaGreatDoorK20
namespace Go.Proofs.YtgknmoadpgpdeaaGreatDoor.Ev
open Go Go.RowKit
set_option linter.unusedVariables false
set_option linter.unusedSimpArgs false
noncomputable section
def T0 (y: Int): Br:=(.ret (AV.int .i64 (ad ((ad ((ad ((ad ((ad (365 * (ad (y - 1970)))) + (ad (Int.tdiv (ad (y - 1)) 4)))) - (ad (Int.tdiv (ad (y - 1)) 100)))) + (ad (Int.tdiv (ad (y - 1)) 400)))) - 477))) [])
def aeS: List AV→List Ob→Br
 | [.int .i64 y],[]=>T0 y
 | _,_=> .fail
theorem aeT: Sound Kx 249 aeS:=ae (C:=[]) (O:=O0) Tryz.func249 (by kernel_rfl) fun args objs=>by
 unfold aeS;split
 · exact .inr (by kernel_rfl)
 · exact .inl rfl
def T1 (y m: Int): Br:=(.ite (decide (m=2)) (.ite (decide ((Int.tmod y 4)=0)) (.ite (!(decide ((Int.tmod y 100)=0))) (.ret (AV.int .i64 29) []) (.ite (decide ((Int.tmod y 400)=0)) (.ret (AV.int .i64 29) []) (.ite (decide (m=2)) (.ret (AV.int .i64 28) []) (.ite (decide (m=4)) (.ret (AV.int .i64 30) []) (.ite (decide (m=6)) (.ret (AV.int .i64 30) []) (.ite (decide (m=9)) (.ret (AV.int .i64 30) []) (.ite (decide (m=11)) (.ret (AV.int .i64 30) []) (.ret (AV.int .i64 31) [])))))))) (.ite (decide ((Int.tmod y 400)=0)) (.ret (AV.int .i64 29) []) (.ite (decide (m=2)) (.ret (AV.int .i64 28) []) (.ite (decide (m=4)) (.ret (AV.int .i64 30) []) (.ite (decide (m=6)) (.ret (AV.int .i64 30) []) (.ite (decide (m=9)) (.ret (AV.int .i64 30) []) (.ite (decide (m=11)) (.ret (AV.int .i64 30) []) (.ret (AV.int .i64 31) [])))))))) (.ite (decide (m=2)) (.ret (AV.int .i64 28) []) (.ite (decide (m=4)) (.ret (AV.int .i64 30) []) (.ite (decide (m=6)) (.ret (AV.int .i64 30) []) (.ite (decide (m=9)) (.ret (AV.int .i64 30) []) (.ite (decide (m=11)) (.ret (AV.int .i64 30) []) (.ret (AV.int .i64 31) [])))))))
def aeU: List AV→List Ob→Br
 | [.int .i64 y, .int .i64 m],[]=>T1 y m
 | _,_=> .fail
theorem aeV: Sound Kx 250 aeU:=ae (C:=[]) (O:=O0) Tryz.func250 (by kernel_rfl) fun args objs=>by
 unfold aeU;split
 · exact .inr (by kernel_rfl)
 · exact .inl rfl
def aaj: Opt:={ live:=[(2,[0,1,5])],outs:=[(2,[4,5])] }
def iDig_C: SC:=[⟨232,_,GM⟩]
def AT (aD aH: Int) (bW: aa) (kR2: Int→Int→aa→OR') (ca: aa→OR'): OR':=
 (bif (decide (0 < aH)) then (bif (bD (Int.tmod aD 10)) then (bif (decide (((List.length (bR (Int.tmod aD 10))) + bW.length)≤9223372036854775807)) then (kR2 (ad (Int.tdiv aD 10)) (ad (aH - 1)) ((bR (Int.tmod aD 10))++bW)) else none) else none) else (ca bW))
def pR: Nat→Int→Int→aa→(aa→OR')→OR'
 | 0,_,_,_,_=>none
 | n + 1,aD,aH,bW,ca=>AT aD aH bW (fun aD aH bW=>pR n aD aH bW ca) ca
abbrev iDig_p2: SP:=⟨18,[0,1,5],[(.v (.i .i64)),(.v (.i .i64)),(.v .s)],[]⟩
noncomputable def T2: Code:=aC (aG Tryz.f254) [1,1,0,0,0]
def T3 (f: (aa→OR')→OR') (k: KT): OR':=f (fun bK=>k (Ex.exit 0) ((St.mk (aF 0 18 [(5,(AV.str bK))]) ([]: (List (Nat×(Ob)))))))
def T4 (n: Nat) (d: iDig_p2.D): KT→OR':=T3 (pR n d.1.1 d.1.2.1 d.1.2.2.1)
def aak (N: Nat): Lam:=bH [⟨2,iDig_p2,T4 N⟩]
theorem Yn (N: Nat): OkL Kx iDig_C.s aaj 0 N (aak N) T2:=okL iDig_p2 (T4) (fun d kR=>T3 (AT d.1.1 d.1.2.1 d.1.2.2.1 (fun aD aH bW=>kR ((aD,aH,bW,()),())))) (fun _ _=>by kernel_rfl) (fun _ _ _=>by kernel_rfl) (fun _ _=>by kernel_rfl) (fun _ _ _ _=>by kernel_rfl) (al (l':=[]) (by kernel_rfl) trivial)
def MC (N: Nat) (n k: Int): OR':=(pR N n k ([]: aa) (fun bK=>(some ((AV.str bK),[]))))
def MD (φ: Int→Int→Br): List AV→List Ob→Br
 | [.int .i64 n, .int .i64 k],[]=>φ n k
 | _,_=> .fail
theorem T5 {φ: Int→Int→Br} (fu: Int→Int→Nat) (hv: ∀ n k res_,(φ n k).val=some res_→MC (fu n k) n k=some res_): Sound Kx 254 (MD φ):=ap (C:=iDig_C) (O:=aaj) Tryz.func254 (by kernel_rfl) fun args objs=>by
 unfold MD;split
 · rename_i n k;exact .inr fun _ hyp_=>aO (Λ:=aak (fu n k)) (by kernel_rfl) (al (l':=[T2]) (by kernel_rfl) ⟨Yn _,trivial⟩) (by kernel_rfl) (hv n k _ hyp_)
 · exact .inl rfl
def Yo: Br:=(.ret (AV.ref 0 0) [.arr Ty.str 0 false (List.set (List.set (List.set (List.set (List.set (List.set (List.set (List.replicate 7 ([]: aa)) 0 ([77,111,110,100,97,121]: aa)) 1 ([84,117,101,115,100,97,121]: aa)) 2 ([87,101,100,110,101,115,100,97,121]: aa)) 3 ([84,104,117,114,115,100,97,121]: aa)) 4 ([70,114,105,100,97,121]: aa)) 5 ([83,97,116,117,114,100,97,121]: aa)) 6 ([83,117,110,100,97,121]: aa))])
def T6: List AV→List Ob→Br
 | [],[]=>Yo
 | _,_=> .fail
theorem iDays_ok: Sound Kx 252 T6:=ae (C:=[]) (O:=O0) Tryz.func252 (by kernel_rfl) fun args objs=>by
 unfold T6;split
 · exact .inr (by kernel_rfl)
 · exact .inl rfl
def Yp: Br:=(.ret (AV.ref 0 0) [.arr Ty.str 0 false (List.set (List.set (List.set (List.set (List.set (List.set (List.set (List.set (List.set (List.set (List.set (List.set (List.replicate 12 ([]: aa)) 0 ([74,97,110]: aa)) 1 ([70,101,98]: aa)) 2 ([77,97,114]: aa)) 3 ([65,112,114]: aa)) 4 ([77,97,121]: aa)) 5 ([74,117,110]: aa)) 6 ([74,117,108]: aa)) 7 ([65,117,103]: aa)) 8 ([83,101,112]: aa)) 9 ([79,99,116]: aa)) 10 ([78,111,118]: aa)) 11 ([68,101,99]: aa))])
def T7: List AV→List Ob→Br
 | [],[]=>Yp
 | _,_=> .fail
theorem iMons_ok: Sound Kx 245 T7:=ae (C:=[]) (O:=O0) Tryz.func245 (by kernel_rfl) fun args objs=>by
 unfold T7;split
 · exact .inr (by kernel_rfl)
 · exact .inl rfl
def Ik: Opt:={ live:=[(7,[0,3,4,5,6]),(3,[0,3,4])],outs:=[(7,[0,2,3,4,5,6]),(3,[2,3])] }
def iNums_C: SC:=[⟨244,_,eO⟩]
def sE (cn: aa) (dQ eh bU: Int) (fg: (List Int)) (kR7 Gl: aa→Int→Int→Int→(List Int)→OR'): OR':=
 (bif (decide (eh < (cn.length: Int))) then (bif (decide (0≤eh)) then (bif (decide (eh < (cn.length: Int))) then (bif (aB (aq cn eh)) then (bif (decide ((ad (eh - dQ)) < 9)) then (bif (decide (0≤eh)) then (bif (decide (eh < (cn.length: Int))) then (kR7 cn dQ (ad (eh + 1)) (ad ((ad (10 * bU)) + (ad (wk8 ((aq cn eh) - 48))))) fg) else none) else none) else (Gl cn dQ eh bU fg)) else (Gl cn dQ eh bU fg)) else none) else none) else (Gl cn dQ eh bU fg))
def kT: Nat→aa→Int→Int→Int→(List Int)→(aa→Int→Int→Int→(List Int)→OR')→OR'
 | 0,_,_,_,_,_,_=>none
 | n + 1,cn,dQ,eh,bU,fg,Gl=>sE cn dQ eh bU fg (fun cn dQ eh bU fg=>kT n cn dQ eh bU fg Gl) Gl
abbrev iNums_p7: SP:=⟨50,[0,3,4,5,6],[(.v .s),(.v (.ref 256 0)),(.v (.i .i64)),(.v (.i .i64)),(.v (.i .i64))],[(256, .arr (Ty.int .i64) 0 false)]⟩
noncomputable def AU: Code:=aC (aG Tryz.f205) [1,1,0,1,0,0,1,0,0,1,1,0,0,0]
def ME (f: (aa→Int→Int→Int→(List Int)→OR')→OR') (k: KT): OR':=f (fun eM js lp Ng Gc=>k (Ex.exit 2) ((St.mk (aF 0 50 [(0,(AV.str eM)),(3,(AV.ref 256 0)),(4,(AV.int .i64 js)),(5,(AV.int .i64 lp)),(6,(AV.int .i64 Ng))]) ((256,(Ob.arr (Ty.int .i64) 0 false Gc))::([]: (List (Nat×(Ob))))))))
def MF (n: Nat) (d: iNums_p7.D): KT→OR':=ME (kT n d.1.1 d.1.2.2.1 d.1.2.2.2.1 d.1.2.2.2.2.1 d.2.1)
def n9 (N: Nat) (aI: aa) (aA: Int) (bp: (List Int)) (kR3: aa→Int→(List Int)→OR') (ei: (List Int)→OR'): OR':=
 (bif (decide (aA < (aI.length: Int))) then (kT N aI aA aA 0 bp (fun eM js lp Ng Gc=>(bif (decide (js < lp)) then (bif (decide (((Gc.length + (List.length (List.set (List.replicate 1 (0 : Int)) 0 Ng))) * 8)≤140737488355328)) then (kR3 eM (ad ((ad (lp - 1)) + 1)) (Gc++(List.set (List.replicate 1 (0 : Int)) 0 Ng))) else none) else (kR3 eM (ad (js + 1)) Gc)))) else (ei bp))
def jo (N: Nat): Nat→aa→Int→(List Int)→((List Int)→OR')→OR'
 | 0,_,_,_,_=>none
 | n + 1,aI,aA,bp,ei=>n9 N aI aA bp (fun aI aA bp=>jo N n aI aA bp ei) ei
abbrev iNums_p3: SP:=⟨50,[0,3,4],[(.v .s),(.v (.ref 256 0)),(.v (.i .i64))],[(256, .arr (Ty.int .i64) 0 false)]⟩
noncomputable def MG: Code:=aC (aG Tryz.f205) [1,1,0,1,0,0]
def MH (f: ((List Int)→OR')→OR') (k: KT): OR':=f (fun ab=>k (Ex.exit 0) ((St.mk (aF 0 50 [(3,(AV.ref 256 0))]) ((256,(Ob.arr (Ty.int .i64) 0 false ab))::([]: (List (Nat×(Ob))))))))
def MI (N n: Nat) (d: iNums_p3.D): KT→OR':=MH (jo N n d.1.1 d.1.2.2.1 d.2.1)
def Il (N: Nat): Lam:=bH [⟨7,iNums_p7,MF N⟩,⟨3,iNums_p3,MI N N⟩]
theorem FC (N: Nat): OkL Kx iNums_C.s Ik 0 N (Il N) AU:=okL iNums_p7 (MF) (fun d kR=>ME (sE d.1.1 d.1.2.2.1 d.1.2.2.2.1 d.1.2.2.2.2.1 d.2.1 (fun cn dQ eh bU fg=>kR ((cn,(),dQ,eh,bU,()),(fg,()))))) (fun _ _=>by kernel_rfl) (fun _ _ _=>by kernel_rfl) (fun _ _=>by kernel_rfl) (fun _ _ _ _=>by kernel_rfl) (al (l':=[]) (by kernel_rfl) trivial)
theorem T8 (N: Nat): OkL Kx iNums_C.s Ik 0 N (Il N) MG:=okL iNums_p3 (MI N) (fun d kR=>MH (n9 N d.1.1 d.1.2.2.1 d.2.1 (fun aI aA bp=>kR ((aI,(),aA,()),(bp,()))))) (fun _ _=>by kernel_rfl) (fun _ _ _=>by kernel_rfl) (fun _ _=>by kernel_rfl) (fun _ _ _ _=>by kernel_rfl) (al (l':=[AU]) (by kernel_rfl) ⟨FC _,trivial⟩)
def FD (N: Nat) (s: aa): OR':=(jo N N s 0 ([]: (List Int)) (fun ab=>(some ((AV.ref 0 0),[.arr (Ty.int .i64) 0 false ab]))))
def FE (φ: aa→Br): List AV→List Ob→Br
 | [.str s],[]=>φ s
 | _,_=> .fail
theorem Pf {φ: aa→Br} (fu: aa→Nat) (hv: ∀ s res_,(φ s).val=some res_→FD (fu s) s=some res_): Sound Kx 205 (FE φ):=ap (C:=iNums_C) (O:=Ik) Tryz.func205 (by kernel_rfl) fun args objs=>by
 unfold FE;split
 · rename_i s;exact .inr fun _ hyp_=>aO (Λ:=Il (fu s)) (by kernel_rfl) (al (l':=[MG,AU]) (by kernel_rfl) ⟨T8 _,FC _,trivial⟩) (by kernel_rfl) (hv s _ hyp_)
 · exact .inl rfl
def AW (y: Int): Br:=(.ite (decide ((Int.tmod y 4)=0)) (.ite (!(decide ((Int.tmod y 100)=0))) (.ret (AV.bool true) []) (.ret (AV.bool (decide ((Int.tmod y 400)=0))) [])) (.ret (AV.bool false) []))
def T9: List AV→List Ob→Br
 | [.int .i64 y],[]=>AW y
 | _,_=> .fail
theorem Yq: Sound Kx 292 T9:=ae (C:=[]) (O:=O0) Tryz.func292 (by kernel_rfl) fun args objs=>by
 unfold T9;split
 · exact .inr (by kernel_rfl)
 · exact .inl rfl
def AX (k: Int): Br:=(.ite (decide (k=0)) (.ret (AV.str ([77,111,110,100,97,121]: aa)) []) (.ite (decide (k=1)) (.ret (AV.str ([84,117,101,115,100,97,121]: aa)) []) (.ite (decide (k=2)) (.ret (AV.str ([87,101,100,110,101,115,100,97,121]: aa)) []) (.ite (decide (k=3)) (.ret (AV.str ([84,104,117,114,115,100,97,121]: aa)) []) (.ite (decide (k=4)) (.ret (AV.str ([70,114,105,100,97,121]: aa)) []) (.ite (decide (k=5)) (.ret (AV.str ([83,97,116,117,114,100,97,121]: aa)) []) (.ret (AV.str ([83,117,110,100,97,121]: aa)) [])))))))
def T_: List AV→List Ob→Br
 | [.int .i64 k],[]=>AX k
 | _,_=> .fail
theorem Yr: Sound Kx 216 T_:=ae (C:=[]) (O:=O0) Tryz.func216 (by kernel_rfl) fun args objs=>by
 unfold T_;split
 · exact .inr (by kernel_rfl)
 · exact .inl rfl
def AY (m: Int): Br:=(.ite (decide (0≤(ad ((ad (3 * m)) - 3)))) (.ite (decide ((ad ((ad (3 * m)) - 3))≤(ad (3 * m)))) (.ite (decide ((ad (3 * m))≤36)) (.ret (AV.str (cut ([74,97,110,70,101,98,77,97,114,65,112,114,77,97,121,74,117,110,74,117,108,65,117,103,83,101,112,79,99,116,78,111,118,68,101,99]: aa) (ad ((ad (3 * m)) - 3)) (ad (3 * m)))) []) .fail) .fail) .fail)
def Ua: List AV→List Ob→Br
 | [.int .i64 m],[]=>AY m
 | _,_=> .fail
theorem Ys: Sound Kx 214 Ua:=ae (C:=[]) (O:=O0) Tryz.func214 (by kernel_rfl) fun args objs=>by
 unfold Ua;split
 · exact .inr (by kernel_rfl)
 · exact .inl rfl
def aal: Opt:={ live:=[(2,[1,5])],outs:=[(2,[4,5])] }
def sPad_C: SC:=[⟨191,_,px⟩]
def AZ (aD: Int) (aH: aa) (kR2: Int→aa→OR') (ca: aa→OR'): OR':=
 (bif (decide ((aH.length: Int) < aD)) then (bif (decide ((1 + aH.length)≤9223372036854775807)) then (kR2 aD (([48]: aa)++aH)) else none) else (ca aH))
def my: Nat→Int→aa→(aa→OR')→OR'
 | 0,_,_,_=>none
 | n + 1,aD,aH,ca=>AZ aD aH (fun aD aH=>my n aD aH ca) ca
abbrev sPad_p2: SP:=⟨15,[1,5],[(.v (.i .i64)),(.v .s)],[]⟩
noncomputable def Ub: Code:=aC (aG Tryz.f218) [1,1,0,0,0]
def Uc (f: (aa→OR')→OR') (k: KT): OR':=f (fun bK=>k (Ex.exit 0) ((St.mk (aF 0 15 [(5,(AV.str bK))]) ([]: (List (Nat×(Ob)))))))
def Ud (n: Nat) (d: sPad_p2.D): KT→OR':=Uc (my n d.1.1 d.1.2.1)
def aam (N: Nat): Lam:=bH [⟨2,sPad_p2,Ud N⟩]
theorem Yt (N: Nat): OkL Kx sPad_C.s aal 0 N (aam N) Ub:=okL sPad_p2 (Ud) (fun d kR=>Uc (AZ d.1.1 d.1.2.1 (fun aD aH=>kR ((aD,aH,()),())))) (fun _ _=>by kernel_rfl) (fun _ _ _=>by kernel_rfl) (fun _ _=>by kernel_rfl) (fun _ _ _ _=>by kernel_rfl) (al (l':=[]) (by kernel_rfl) trivial)
def MJ (N: Nat) (n k: Int): OR':=(bif (bD n) then (my N k (bR n) (fun bK=>(some ((AV.str bK),[])))) else none)
def MK (φ: Int→Int→Br): List AV→List Ob→Br
 | [.int .i64 n, .int .i64 k],[]=>φ n k
 | _,_=> .fail
theorem Ue {φ: Int→Int→Br} (fu: Int→Int→Nat) (hv: ∀ n k res_,(φ n k).val=some res_→MJ (fu n k) n k=some res_): Sound Kx 218 (MK φ):=ap (C:=sPad_C) (O:=aal) Tryz.func218 (by kernel_rfl) fun args objs=>by
 unfold MK;split
 · rename_i n k;exact .inr fun _ hyp_=>aO (Λ:=aam (fu n k)) (by kernel_rfl) (al (l':=[Ub]) (by kernel_rfl) ⟨Yt _,trivial⟩) (by kernel_rfl) (hv n k _ hyp_)
 · exact .inl rfl
def FF (g: Int→Bool) (p: Int→AV): List AV→List Ob→Br
 | [.int .i64 n],[]=> .ite (g n) (.ret (p n) []) .fail
 | _,_=> .fail
theorem pS {n: Nat} {s: List AV→List Ob→Br} (hs: Sound Kx n s) {g: Int→Bool} {p: Int→AV} (h: ∀ a,g a=true→(s [.int .i64 a] []).val=some (p a,[])): Sound Kx n (FF g p):=hs.of fun args objs r hv=>by
 unfold FF at hv
 split at hv
 case h_2=>cases hv
 obtain ⟨h1,h2⟩:=ai hv
 cases h2
 exact h _ h1
def aan (g: Int→Int→Bool) (p: Int→Int→AV): List AV→List Ob→Br
 | [.int .i64 n, .int .i64 k],[]=> .ite (g n k) (.ret (p n k) []) .fail
 | _,_=> .fail
theorem aeW {n: Nat} {s: List AV→List Ob→Br} (hs: Sound Kx n s) {g: Int→Int→Bool} {p: Int→Int→AV} (h: ∀ a b,g a b=true→(s [.int .i64 a, .int .i64 b] []).val=some (p a b,[])): Sound Kx n (aan g p):=hs.of fun args objs r hv=>by
 unfold aan at hv
 split at hv
 case h_2=>cases hv
 obtain ⟨h1,h2⟩:=ai hv
 cases h2
 exact h _ _ h1
def yrB (y: Int): Bool:=decide (1≤y)&&decide (y≤100000)
theorem Uf {y: Int} (h: yrB y=true): 1≤y∧y≤100000:=by unfold yrB at h;rw [Bool.and_eq_true,decide_eq_true_eq,decide_eq_true_eq] at h;exact h
theorem Ug: Sound Kx 249 (FF yrB fun y=> .int .i64 (dB y)):=pS aeT fun y h=>by
 obtain ⟨h1,h2⟩:=Uf h
 show (T0 y).val=some (.int .i64 (dB y),[])
 have t: ∀ k: Int,Int.tdiv (y - 1) k=(y - 1) / k:=fun k=>Int.tdiv_eq_ediv_of_nonneg (by omega)
 unfold T0 dB
 rw [w64 (n:=y - 1) (by omega) (by omega),w64 (n:=y - 1970) (by omega) (by omega),t 4,t 100,t 400]
 simp (disch:=omega) only [w64,Br.val]
theorem vx {y: Int} (h: 0≤y) (k: Int): Int.tmod y k=y % k:=Int.tmod_eq_emod_of_nonneg h
theorem Im: Sound Kx 250 (aan (fun y _=>yrB y) fun y m=> .int .i64 (lk y m)):=aeW aeV fun y m h=>by
 obtain ⟨h1,h2⟩:=Uf h
 show (T1 y m).val=some (.int .i64 (lk y m),[])
 unfold T1 lk nF
 rw [vx (by omega),vx (by omega),vx (by omega)]
 generalize decide (m=2)=b1
 generalize decide (m=4)=b2
 generalize decide (m=6)=b3
 generalize decide (m=9)=b4
 generalize decide (m=11)=b5
 by_cases c8: y % 400=0
 · rw [dT' c8,dT' (show y % 4=0 by omega)]
   generalize decide (y % 100=0)=b7
   cases b1 <;> cases b2 <;> cases b3 <;> cases b4 <;> cases b5 <;> cases b7 <;> rfl
 · rw [dF' c8]
   generalize decide (y % 4=0)=b6
   generalize decide (y % 100=0)=b7
   cases b1 <;> cases b2 <;> cases b3 <;> cases b4 <;> cases b5 <;> cases b6 <;> cases b7 <;> rfl
theorem FG: Sound Kx 292 (FF yrB fun y=> .bool (nF y)):=pS Yq fun y h=>by
 obtain ⟨h1,h2⟩:=Uf h
 show (AW y).val=some (.bool (nF y),[])
 unfold AW nF
 rw [vx (by omega),vx (by omega),vx (by omega)]
 generalize decide (y % 4=0)=b6
 generalize decide (y % 100=0)=b7
 generalize decide (y % 400=0)=b8
 cases b6 <;> cases b7 <;> cases b8 <;> rfl
theorem Io {n: Int} : bR (n % 10)=[dg n]:=by
 rw [cQ,Lib.decDigits,dif_pos (by omega)];rfl
theorem Uh (k: aa→OR'): ∀ (j: Nat) (N: Int) (out: aa) (n: Nat),j < n→0≤N→N≤999999999999999→out.length + j≤1000→pR n N (j: Int) out k=k (be j N++out):=by
 intro j;induction j with
 | zero=>intro N out n hn h0 h1 h2;obtain ⟨n,rfl⟩:=bL hn;unfold pR AT;rw [dF' (by simp)];rfl
 | succ j ih=>
   intro N out n hn h0 h1 h2;obtain ⟨n,rfl⟩:=bL hn
   have e0: decide ((0 : Int) < ((j + 1 : Nat): Int))=true:=dT' (by omega)
   have e1: bD (N % 10)=true:=by unfold bD;rw [dT' (by omega),dT' (by omega)];rfl
   have e2: Int.tdiv N 10=N / 10:=Int.tdiv_eq_ediv_of_nonneg h0
   have e3: decide (([dg N].length + out.length)≤9223372036854775807)=true:=dT' (by simp only [List.length_singleton];omega)
   have e4: ad (((j + 1 : Nat): Int) - 1)=(j: Int):=by rw [w64 (by omega) (by omega)];omega
   unfold pR AT
   rw [vx h0,Io,e2,w64 (n:=N / 10) (by omega) (by omega),e4]
   simp only [e0,e1,e3,cond_true]
   rw [ih (N / 10) ([dg N]++out) n (by omega) (by omega) (by omega) (by simp only [List.length_append,List.length_singleton];omega)]
   rw [show be (j + 1) N=be j (N / 10)++[dg N] from rfl,List.append_assoc]
def dgB (n k: Int): Bool:=bD n&&(decide (0≤k)&&decide (k≤100))
theorem Yu {n: Int} (h: bD n=true): 0≤n∧n≤999999999999999:=by unfold bD at h;rw [Bool.and_eq_true,decide_eq_true_eq,decide_eq_true_eq] at h;exact h
theorem sG: Sound Kx 254 (aan dgB fun n k=> .str (be k.toNat n)):=by
 refine (T5 (φ:=fun n k=> .ite (dgB n k) (.ret (.str (be k.toNat n)) []) .fail) (fun _ k=>k.toNat + 1) fun n k r h=>?_).of fun args objs r h=>?_
 · obtain ⟨h1,h2⟩:=ai h
   cases h2
   unfold dgB at h1
   rw [Bool.and_eq_true,Bool.and_eq_true,decide_eq_true_eq,decide_eq_true_eq] at h1
   obtain ⟨g1,g2⟩:=Yu h1.1
   unfold MC
   have e: k=((k.toNat: Nat): Int):=by omega
   have:=Uh (fun x=>some (.str x,[])) k.toNat n [] (k.toNat + 1) (by omega) g1 g2 (by simp only [List.length_nil];omega)
   rw [← e,List.append_nil] at this
   exact this
 · unfold aan at h;split at h
   · exact h
   · cases h
def yU: List aa:=[[77,111,110,100,97,121],[84,117,101,115,100,97,121],[87,101,100,110,101,115,100,97,121],[84,104,117,114,115,100,97,121],[70,114,105,100,97,121],[83,97,116,117,114,100,97,121],[83,117,110,100,97,121]]
def monL: List aa:=[[74,97,110],[70,101,98],[77,97,114],[65,112,114],[77,97,121],[74,117,110],[74,117,108],[65,117,103],[83,101,112],[79,99,116],[78,111,118],[68,101,99]]
def agv (l: List aa): List AV→List Ob→Br
 | [],[]=> .ret (.ref 0 0) [.arr .str 0 false l]
 | _,_=> .fail
theorem vy: Sound Kx 252 (agv yU):=iDays_ok.of fun args objs r h=>by
 unfold agv at h;split at h
 · rw [← h];rfl
 · cases h
theorem n_: Sound Kx 245 (agv monL):=iMons_ok.of fun args objs r h=>by
 unfold agv at h;split at h
 · rw [← h];rfl
 · cases h
theorem vz: Sound Kx 216 (FF (fun _=>true) fun k=> .str (dJ k)):=pS Yr fun k h=>by
 show (AX k).val=some (.str (dJ k),[])
 unfold AX dJ
 generalize decide (k=0)=b0
 generalize decide (k=1)=b1
 generalize decide (k=2)=b2
 generalize decide (k=3)=b3
 generalize decide (k=4)=b4
 generalize decide (k=5)=b5
 cases b0 <;> cases b1 <;> cases b2 <;> cases b3 <;> cases b4 <;> cases b5 <;> rfl
def moB (m: Int): Bool:=decide (1≤m)&&decide (m≤12)
theorem aeX {m: Int} (h: moB m=true): 1≤m∧m≤12:=by unfold moB at h;rw [Bool.and_eq_true,decide_eq_true_eq,decide_eq_true_eq] at h;exact h
theorem vA: Sound Kx 214 (FF moB fun m=> .str (eD m)):=pS Ys fun m h=>by
 obtain ⟨h1,h2⟩:=aeX h
 show (AY m).val=some (.str (eD m),[])
 unfold AY
 rw [w64 (n:=3 * m) (by omega) (by omega),w64 (n:=3 * m - 3) (by omega) (by omega)]
 have e1: decide ((0 : Int)≤3 * m - 3)=true:=dT' (by omega)
 have e2: decide (3 * m - 3≤3 * m)=true:=dT' (by omega)
 have e3: decide (3 * m≤36)=true:=dT' (by omega)
 simp only [Br.val,e1,e2,e3]
 rfl
theorem ML: ∀ k: Nat,be k 0=List.replicate k 48
 | 0=>rfl
 | k + 1=>by
   unfold be
   rw [show (0 : Int) / 10=0 from rfl,ML k,List.replicate_succ']
   rfl
theorem Ui: ∀ (k: Nat) (n: Int),1≤k→0≤n→n < 10 ^ k→be k n=List.replicate (k - (bR n).length) 48++bR n
 | 0,n,h,_,_=>by omega
 | k + 1,n,h,h0,h1=>by
   by_cases c: n < 10
   · have e: bR n=[dg n]:=by
      have:=Io (n:=n)
      rw [show n % 10=n by omega] at this
      exact this
     unfold be
     rw [show n / 10=0 by omega,ML,e]
     rfl
   · have e: bR n=bR (n / 10)++[dg n]:=by
      rw [cQ,cQ,Lib.decDigits,dif_neg (by omega)]
      have t: n.toNat / 10=(n / 10).toNat:=by omega
      rw [t]
      congr 2
      unfold dg
      congr 1
      omega
     have hk: 1≤k:=by
      rcases Nat.eq_zero_or_pos k with rfl | hk
      · simp at h1;omega
      · exact hk
     have ih:=Ui k (n / 10) hk (by omega) (by rw [Int.pow_succ] at h1;omega)
     unfold be
     rw [ih,e,List.append_assoc,List.length_append,List.length_singleton,show k + 1 - ((bR (n / 10)).length + 1)=k - (bR (n / 10)).length by omega]
theorem Uj (k: Nat) (hk: k≤100) (K: aa→OR'): ∀ (j: Nat) (s: aa) (n: Nat),k - s.length=j→j < n→s.length≤1000→my n (k: Int) s K=K (List.replicate (k - s.length) 48++s):=by
 intro j;induction j with
 | zero=>
   intro s n hj hn hs;obtain ⟨n,rfl⟩:=bL hn;unfold my AZ
   rw [dF' (by omega),cond_false,hj];rfl
 | succ j ih=>
   intro s n hj hn hs;obtain ⟨n,rfl⟩:=bL hn
   have e0: decide ((s.length: Int) < (k: Int))=true:=dT' (by omega)
   have e1: decide (1 + s.length≤9223372036854775807)=true:=dT' (by omega)
   unfold my AZ
   rw [e0,e1,cond_true,cond_true]
   show my n (k: Int) ([48]++s) K=_
   rw [ih ([48]++s) n (by simp only [List.length_append,List.length_singleton];omega) (by omega) (by simp only [List.length_append,List.length_singleton];omega)]
   congr 1
   rw [List.length_append,List.length_singleton,show k - s.length=(k - (1 + s.length)) + 1 by omega,List.replicate_succ',List.append_assoc]
def pdB (n k: Int): Bool:=bif decide (k=2) then decide (0≤n)&&decide (n≤99) else bif decide (k=4) then decide (0≤n)&&decide (n≤9999) else false
theorem aeY {n k: Int} (h: pdB n k=true): (k=2∧0≤n∧n≤99)∨(k=4∧0≤n∧n≤9999):=by
 unfold pdB at h
 by_cases c: k=2
 · rw [dT' c,cond_true,Bool.and_eq_true,decide_eq_true_eq,decide_eq_true_eq] at h
   exact .inl ⟨c,h⟩
 · by_cases c4: k=4
   · rw [dF' c,dT' c4,cond_false,cond_true,Bool.and_eq_true,decide_eq_true_eq,decide_eq_true_eq] at h
     exact .inr ⟨c4,h⟩
   · rw [dF' c,dF' c4] at h;cases h
theorem sH: Sound Kx 218 (aan pdB fun n k=> .str (be k.toNat n)):=by
 refine (Ue (φ:=fun n k=> .ite (pdB n k) (.ret (.str (be k.toNat n)) []) .fail) (fun _ k=>k.toNat + 1) fun n k r h=>?_).of fun args objs r h=>?_
 · obtain ⟨h1,h2⟩:=ai h
   cases h2
   have g:=aeY h1
   have e15: bD n=true:=by unfold bD;rw [dT' (by omega),dT' (by omega)];rfl
   have hp: be k.toNat n=List.replicate (k.toNat - (bR n).length) 48++bR n:=Ui _ _ (by omega) (by omega) (by rcases g with ⟨rfl,_,_⟩ | ⟨rfl,_,_⟩ <;> simp <;> omega)
   have hl: (bR n).length≤15:=by rw [cQ];exact uI _ (by omega)
   have e: k=((k.toNat: Nat): Int):=by omega
   unfold MJ
   rw [e15,cond_true,hp]
   have:=Uj k.toNat (by omega) (fun x=>some (.str x,[])) _ (bR n) (k.toNat + 1) rfl (by omega) (by omega)
   rw [← e] at this
   exact this
 · unfold aan at h;split at h
   · exact h
   · cases h
def rP: Nat→Int→aa→Int×aa
 | _,n,[]=>(n,[])
 | j,n,c::r=>bif aB (by8 c) then (bif decide (j < 9) then rP (j + 1) (10 * n + (by8 c - 48)) r else (n,c::r)) else (n,c::r)
theorem A0: ∀ (r: aa) (j: Nat) (n: Int),eE (some (n,j)) r=(rP j n r).1::eE none (rP j n r).2
 | [],j,n=>rfl
 | c::r,j,n=>by
   unfold rP
   cases hd: aB (by8 c)
   · simp only [eE,hd,cond_false]
   · by_cases h9: j < 9
     · simp only [eE,hd,cond_true,dT' h9]
       exact A0 r (j + 1) _
     · simp only [eE,hd,cond_true,dF' h9,cond_false]
theorem Ip: ∀ (r: aa) (j: Nat) (n: Int),∃ p,r=p++(rP j n r).2
 | [],j,n=>⟨[],rfl⟩
 | c::r,j,n=>by
   unfold rP
   cases hd: aB (by8 c)
   · exact ⟨[],rfl⟩
   · by_cases h9: j < 9
     · rw [dT' h9]
       obtain ⟨p,hp⟩:=Ip r (j + 1) (10 * n + (by8 c - 48))
       exact ⟨c::p,by rw [cond_true,cond_true,List.cons_append,← hp]⟩
     · rw [dF' h9];exact ⟨[],rfl⟩
theorem Uk {c: UInt8} (h: aB (by8 c)=true): 48≤by8 c∧by8 c≤57:=by
 unfold aB at h;rw [Bool.and_eq_true,decide_eq_true_eq,decide_eq_true_eq] at h;exact h
theorem ahb {j: Nat} (h: j≤9): (10 : Int) ^ j≤1000000000:=by
 have: j=0∨j=1∨j=2∨j=3∨j=4∨j=5∨j=6∨j=7∨j=8∨j=9:=by omega
 rcases this with rfl | rfl | rfl | rfl | rfl | rfl | rfl | rfl | rfl | rfl <;> decide
theorem w8d {n: Int} (h0: 0≤n) (h1: n≤255): wk8 n=n:=w8 (by omega) (by omega)
theorem Iq (s: aa) (hl: s.length≤4611686018427387904) (i: Int) (out: List Int) (K: aa→Int→Int→Int→List Int→OR'): ∀ (r: aa) (j: Nat) (n k: Int) (m: Nat),At s k r→k=i + j→0≤i→r.length < m→j≤9→0≤n→n < 10 ^ j→
 kT m s i k n out K=K s i ((s.length: Int) - (rP j n r).2.length) (rP j n r).1 out:=by
 intro r;induction r with
 | nil=>
   intro j n k m h hk hi hm hj h0 h1;obtain ⟨m,rfl⟩:=bL hm;unfold kT sE
   rw [h.dge,cond_false]
   have:=h.ge
   show K s i k n out=K s i ((s.length: Int) - (([]: aa).length: Int)) n out
   rw [this];simp
 | cons c r ih=>
   intro j n k m h hk hi hm hj h0 h1;obtain ⟨m,rfl⟩:=bL hm
   simp only [List.length_cons] at hm
   have hle:=h.le
   simp only [List.length_cons] at hle
   have hp:=ahb hj
   unfold kT sE rP
   simp only [h.dlt,h.dnn,h.str,cond_true]
   cases hd: aB (by8 c)
   · simp only [cond_false]
     congr 1
     simp only [List.length_cons];omega
   · obtain ⟨d0,d1⟩:=Uk hd
     rw [w64 (n:=k - i) (by omega) (by omega),w8d (by omega) (by omega),w64 (n:=by8 c - 48) (by omega) (by omega),w64 (n:=10 * n) (by omega) (by omega),w64 (n:=10 * n + (by8 c - 48)) (by omega) (by omega),h.next hl]
     by_cases h9: j < 9
     · rw [dT' h9,dT' (show k - i < 9 by omega)]
       simp only [cond_true]
       exact ih (j + 1) _ (k + 1) m h.step (by omega) hi (by omega) (by omega) (by omega) (by rw [Int.pow_succ];omega)
     · rw [dF' h9,dF' (show ¬ k - i < 9 by omega)]
       simp only [cond_true,cond_false]
       congr 1
       simp only [List.length_cons];omega
theorem Ir (M: Nat) (s: aa) (hl: s.length≤1000000) (K: List Int→OR'): ∀ (u: Nat) (r: aa) (i: Int) (out: List Int) (n: Nat),r.length≤u→At s i r→u < n→s.length < M→out.length + r.length≤1000000→
 jo M n s i out K=K (out++eE none r):=by
 intro u;induction u with
 | zero=>
   intro r i out n hu h hn hN ho;obtain ⟨n,rfl⟩:=bL hn
   obtain rfl: r=[]:=List.length_eq_zero_iff.1 (by omega)
   unfold jo n9
   rw [h.dge,cond_false];simp [eE]
 | succ u ih=>
   intro r i out n hu h hn hN ho;obtain ⟨n,rfl⟩:=bL hn
   cases r with
   | nil=>unfold jo n9;rw [h.dge,cond_false];simp [eE]
   | cons c r=>
     have hle:=h.le
     have hnn:=h.nn
     unfold jo n9
     rw [h.dlt,cond_true,Iq s (by omega) i out _ (c::r) 0 0 i M h (by simp) hnn (by simp only [List.length_cons] at hle ⊢;omega) (by omega) (by omega) (by decide)]
     simp only [List.length_cons] at hle hu ho
     cases hd: aB (by8 c)
     · have e: rP 0 0 (c::r)=(0,c::r):=by unfold rP;rw [hd];rfl
       have e2: eE none (c::r)=eE none r:=by simp only [eE,hd,cond_false]
       rw [e,e2]
       simp only [List.length_cons]
       rw [dF' (show ¬ i < (s.length: Int) - ((r.length + 1 : Nat): Int) by omega),cond_false,h.next (by omega)]
       exact ih r (i + 1) out n (by omega) h.step (by omega) hN (by omega)
     · have e: rP 0 0 (c::r)=rP 1 (10 * 0 + (by8 c - 48)) r:=by
        rw [rP];rw [hd];rfl
       have e2: eE none (c::r)=(rP 0 0 (c::r)).1::eE none (rP 0 0 (c::r)).2:=by
        rw [e,← A0]
        simp only [eE,hd,cond_true]
        rw [show 10 * 0 + (by8 c - 48)=by8 c - 48 by omega]
       obtain ⟨p,hp⟩:=Ip r 1 (10 * 0 + (by8 c - 48))
       rw [← e] at hp
       have hpl: r.length=p.length + (rP 0 0 (c::r)).2.length:=by rw [← List.length_append,← hp]
       rw [e2]
       generalize (rP 0 0 (c::r)).1=v at *
       generalize hq: (rP 0 0 (c::r)).2=q at *
       have hs: At s ((s.length: Int) - (q.length: Int)) q:=by
        obtain ⟨z,hz,hzi⟩:=h
        refine ⟨z++c::p,?_,?_⟩
        · rw [hz,hp];simp
        · rw [hz,hp];simp;omega
       have e4: List.set (List.replicate (1 : Nat) (0 : Int)) 0 v=[v]:=rfl
       have e5: decide ((out.length + [v].length) * 8≤140737488355328)=true:=dT' (by simp only [List.length_singleton];omega)
       simp only [e4,e5]
       rw [dT' (show i < (s.length: Int) - (q.length: Int) by omega),cond_true,cond_true,w64 (n:=(s.length: Int) - (q.length: Int) - 1) (by omega) (by omega),
        show (s.length: Int) - (q.length: Int) - 1 + 1=(s.length: Int) - (q.length: Int) by omega,w64 (n:=(s.length: Int) - (q.length: Int)) (by omega) (by omega)]
       refine (ih q _ (out++[v]) n (by omega) hs (by omega) hN (by simp only [List.length_append,List.length_singleton];omega)).trans ?_
       rw [List.append_assoc];rfl
def aao: List AV→List Ob→Br
 | [.str s],[]=> .ite (decide (s.length≤100000)) (.ret (.ref 0 0) [.arr (.int .i64) 0 false (bP s)]) .fail
 | _,_=> .fail
theorem Ul: Sound Kx 205 aao:=by
 refine (Pf (φ:=fun s=> .ite (decide (s.length≤100000)) (.ret (.ref 0 0) [.arr (.int .i64) 0 false (bP s)]) .fail) (fun s=>s.length + 1) fun s r h=>?_).of fun args objs r h=>?_
 · obtain ⟨h1,h2⟩:=ai h
   cases h2
   rw [decide_eq_true_eq] at h1
   unfold FD
   exact Ir (s.length + 1) s (by omega) _ s.length s 0 [] (s.length + 1) (Nat.le_refl _) (At.start s) (by omega) (by omega) (by simp only [List.length_nil];omega)
 · unfold aao at h;split at h
   · exact h
   · cases h
theorem aap: ∀ (r: aa) (j: Nat) (n: Int),j≤9→0≤n→n < 10 ^ j→0≤(rP j n r).1∧(rP j n r).1 < 1000000000
 | [],j,n,hj,h0,h1=>by have:=ahb hj;exact ⟨h0,by show n < _;omega⟩
 | c::r,j,n,hj,h0,h1=>by
   have hp:=ahb hj
   unfold rP
   cases hd: aB (by8 c)
   · exact ⟨h0,by show n < _;omega⟩
   · obtain ⟨d0,d1⟩:=Uk hd
     by_cases h9: j < 9
     · rw [dT' h9]
       exact aap r (j + 1) _ (by omega) (by omega) (by rw [Int.pow_succ];omega)
     · rw [dF' h9];exact ⟨h0,by show n < _;omega⟩
theorem Is: ∀ (u: Nat) (r: aa),r.length≤u→∀ x ∈ eE none r,0≤x∧x < 1000000000
 | 0,r,hu,x,hx=>by
   obtain rfl: r=[]:=List.length_eq_zero_iff.1 (by omega)
   simp [eE] at hx
 | u + 1,[],hu,x,hx=>by simp [eE] at hx
 | u + 1,c::r,hu,x,hx=>by
   simp only [List.length_cons] at hu
   cases hd: aB (by8 c)
   · have e2: eE none (c::r)=eE none r:=by simp only [eE,hd,cond_false]
     rw [e2] at hx
     exact Is u r (by omega) x hx
   · obtain ⟨d0,d1⟩:=Uk hd
     have e2: eE none (c::r)=(rP 1 (by8 c - 48) r).1::eE none (rP 1 (by8 c - 48) r).2:=by
      rw [← A0];simp only [eE,hd,cond_true]
     rw [e2] at hx
     rcases List.mem_cons.1 hx with rfl | hx
     · exact aap r 1 _ (by omega) (by omega) (by omega)
     · obtain ⟨p,hp⟩:=Ip r 1 (by8 c - 48)
       have hpl: r.length=p.length + (rP 1 (by8 c - 48) r).2.length:=by rw [← List.length_append,← hp]
       exact Is u _ (by omega) x hx
theorem Yv (s: aa) (i: Nat): 0≤(bP s).getD i 0∧(bP s).getD i 0 < 1000000000:=by
 by_cases h: i < (bP s).length
 · rw [List.getD_eq_getElem?_getD,List.getElem?_eq_getElem h]
   exact Is _ s (Nat.le_refl _) _ (List.getElem_mem h)
 · rw [List.getD_eq_getElem?_getD,List.getElem?_eq_none (by omega)];decide
def ach: SC:=[⟨292,_,FG⟩]
def A1 (y m: Int): Br:=(.ite (decide (m=2)) (.ite (yrB y) (.ite (nF y) (.ret (AV.int .i64 29) []) (.ret (AV.int .i64 28) [])) .fail) (.ite (decide (m=4)) (.ret (AV.int .i64 30) []) (.ite (decide (m=6)) (.ret (AV.int .i64 30) []) (.ite (decide (m=9)) (.ret (AV.int .i64 30) []) (.ite (decide (m=11)) (.ret (AV.int .i64 30) []) (.ret (AV.int .i64 31) []))))))
def Um: List AV→List Ob→Br
 | [.int .i64 y, .int .i64 m],[]=>A1 y m
 | _,_=> .fail
theorem Yw: Sound Kx 258 Um:=ae (C:=ach) (O:=O0) Tryz.func258 (by kernel_rfl) fun args objs=>by
 unfold Um;split
 · exact .inr (by kernel_rfl)
 · exact .inl rfl
def aci: SC:=[⟨292,_,FG⟩]
def A2 (y: Int): Br:=(.ite (yrB y) (.ite (nF y) (.ret (AV.int .i64 366) []) (.ret (AV.int .i64 365) [])) .fail)
def Un: List AV→List Ob→Br
 | [.int .i64 y],[]=>A2 y
 | _,_=> .fail
theorem Yx: Sound Kx 257 Un:=ae (C:=aci) (O:=O0) Tryz.func257 (by kernel_rfl) fun args objs=>by
 unfold Un;split
 · exact .inr (by kernel_rfl)
 · exact .inl rfl
def Yy: Opt:={ split:=true }
def Yz: SC:=[⟨201,_,dx⟩,⟨250,_,Im⟩]
def vB (y m d h i s: Int): Br:=(.ite (decide (1970≤y)) (.ite (decide (y≤9999)) (.ite (decide (1≤m)) (.ite (decide (m≤12)) (.ite (yrB y) (.ite (decide (1≤d)) (.ite (decide (d≤(lk y m))) (.ite (decide (0≤h)) (.ite (decide (h≤23)) (.ite (decide (0≤i)) (.ite (decide (i≤59)) (.ite (decide (0≤s)) (.ite (decide (s≤59)) (.ret (AV.bool true) []) (.ret (AV.bool false) [])) (.ret (AV.bool false) [])) (.ret (AV.bool false) [])) (.ret (AV.bool false) [])) (.ret (AV.bool false) [])) (.ret (AV.bool false) [])) (.ret (AV.bool false) [])) (.ret (AV.bool false) [])) .fail) (.ret (AV.bool false) [])) (.ret (AV.bool false) [])) (.ret (AV.bool false) [])) (.ret (AV.bool false) []))
def MM: List AV→List Ob→Br
 | [.agg [.int .i64 y, .int .i64 m, .int .i64 d, .int .i64 h, .int .i64 i, .int .i64 s]],[]=>vB y m d h i s
 | _,_=> .fail
theorem Uo: Sound Kx 248 MM:=ae (C:=Yz) (O:=Yy) Tryz.func248 (by kernel_rfl) fun args objs=>by
 unfold MM;split
 · exact .inr (by kernel_rfl)
 · exact .inl rfl
def ahc: SC:=[⟨130,_,jW⟩]
def Up (t: Int): Br:=(.ite (!(fx t)) (.ret (AV.int .i64 (-1)) []) (.ret (AV.int .i64 (Int.tmod (ad ((ad (Int.tdiv t 86400)) + 3)) 7)) []))
def aeZ: List AV→List Ob→Br
 | [.int .i64 t],[]=>Up t
 | _,_=> .fail
theorem ae0: Sound Kx 253 aeZ:=ae (C:=ahc) (O:=O0) Tryz.func253 (by kernel_rfl) fun args objs=>by
 unfold aeZ;split
 · exact .inr (by kernel_rfl)
 · exact .inl rfl
def ahd: SC:=[⟨95,_,Fx⟩]
def Uq (t: Int): Br:=(.ite (!(fx t)) (.ret (AV.int .i64 (-1)) []) (.ret (AV.int .i64 (Int.tmod (ad ((ad (Int.tdiv t 86400)) + 3)) 7)) []))
def ae1: List AV→List Ob→Br
 | [.int .i64 t],[]=>Uq t
 | _,_=> .fail
theorem ae2: Sound Kx 217 ae1:=ae (C:=ahd) (O:=O0) Tryz.func217 (by kernel_rfl) fun args objs=>by
 unfold ae1;split
 · exact .inr (by kernel_rfl)
 · exact .inl rfl
def ae3: SC:=[⟨254,_,sG⟩]
def It (y m d h i s: Int): Br:=(.ite (dgB h 2) (.ite (decide (((List.length (be 2 h)) + 1)≤9223372036854775807)) (.ite (dgB i 2) (.ite (decide (((List.length ((be 2 h)++([58]: aa))) + (List.length (be 2 i)))≤9223372036854775807)) (.ite (decide (((List.length (((be 2 h)++([58]: aa))++(be 2 i))) + 1)≤9223372036854775807)) (.ite (dgB s 2) (.ite (decide (((List.length ((((be 2 h)++([58]: aa))++(be 2 i))++([58]: aa))) + (List.length (be 2 s)))≤9223372036854775807)) (.ret (AV.str (((((be 2 h)++([58]: aa))++(be 2 i))++([58]: aa))++(be 2 s))) []) .fail) .fail) .fail) .fail) .fail) .fail) .fail)
def aaq: List AV→List Ob→Br
 | [.agg [.int .i64 y, .int .i64 m, .int .i64 d, .int .i64 h, .int .i64 i, .int .i64 s]],[]=>It y m d h i s
 | _,_=> .fail
theorem acj: Sound Kx 255 aaq:=ae (C:=ae3) (O:=O0) Tryz.func255 (by kernel_rfl) fun args objs=>by
 unfold aaq;split
 · exact .inr (by kernel_rfl)
 · exact .inl rfl
def ae4: SC:=[⟨218,_,sH⟩]
def Iu (y m d h i s: Int): Br:=(.ite (pdB h 2) (.ite (decide (((List.length (be 2 h)) + 1)≤9223372036854775807)) (.ite (pdB i 2) (.ite (decide (((List.length ((be 2 h)++([58]: aa))) + (List.length (be 2 i)))≤9223372036854775807)) (.ite (decide (((List.length (((be 2 h)++([58]: aa))++(be 2 i))) + 1)≤9223372036854775807)) (.ite (pdB s 2) (.ite (decide (((List.length ((((be 2 h)++([58]: aa))++(be 2 i))++([58]: aa))) + (List.length (be 2 s)))≤9223372036854775807)) (.ret (AV.str (((((be 2 h)++([58]: aa))++(be 2 i))++([58]: aa))++(be 2 s))) []) .fail) .fail) .fail) .fail) .fail) .fail) .fail)
def aar: List AV→List Ob→Br
 | [.agg [.int .i64 y, .int .i64 m, .int .i64 d, .int .i64 h, .int .i64 i, .int .i64 s]],[]=>Iu y m d h i s
 | _,_=> .fail
theorem ack: Sound Kx 219 aar:=ae (C:=ae4) (O:=O0) Tryz.func219 (by kernel_rfl) fun args objs=>by
 unfold aar;split
 · exact .inr (by kernel_rfl)
 · exact .inl rfl
theorem Us: Sound Kx 258 (aan (fun y _=>yrB y) fun y m=> .int .i64 (lk y m)):=aeW Yw fun y m h=>by
 show (A1 y m).val=some (.int .i64 (lk y m),[])
 unfold A1 lk
 rw [h]
 generalize decide (m=2)=b1
 generalize decide (m=4)=b2
 generalize decide (m=6)=b3
 generalize decide (m=9)=b4
 generalize decide (m=11)=b5
 generalize nF y=b6
 cases b1 <;> cases b2 <;> cases b3 <;> cases b4 <;> cases b5 <;> cases b6 <;> rfl
theorem Ut: Sound Kx 257 (FF yrB fun y=> .int .i64 (wC y)):=pS Yx fun y h=>by
 show (A2 y).val=some (.int .i64 (wC y),[])
 unfold A2 wC
 rw [h]
 cases nF y <;> rfl
def cvM (y m d h i s: Int): Cv:=⟨y,m,d,h,i,s⟩
def acl (g: Cv→Bool) (p: Cv→AV): List AV→List Ob→Br
 | [.agg [.int .i64 y, .int .i64 m, .int .i64 d, .int .i64 h, .int .i64 i, .int .i64 s]],[]=> .ite (g (cvM y m d h i s)) (.ret (p (cvM y m d h i s)) []) .fail
 | _,_=> .fail
theorem acm {n: Nat} {f: List AV→List Ob→Br} (hs: Sound Kx n f) {g: Cv→Bool} {p: Cv→AV} (h: ∀ y m d h i s,g ⟨y,m,d,h,i,s⟩=true→(f [.agg [.int .i64 y, .int .i64 m, .int .i64 d, .int .i64 h, .int .i64 i, .int .i64 s]] []).val=some (p ⟨y,m,d,h,i,s⟩,[])): Sound Kx n (acl g p):=hs.of fun args objs r hv=>by
 unfold acl at hv
 split at hv
 case h_2=>cases hv
 obtain ⟨h1,h2⟩:=ai hv
 cases h2
 exact h _ _ _ _ _ _ h1
theorem Pg: Sound Kx 248 (acl (fun _=>true) fun c=> .bool (dj c)):=acm Uo fun y m d h i s _=>by
 show (vB y m d h i s).val=some (.bool (dj ⟨y,m,d,h,i,s⟩),[])
 unfold vB dj
 by_cases c1: 1970≤y
 · by_cases c2: y≤9999
   · have e: yrB y=true:=by unfold yrB;rw [dT' (by omega),dT' (by omega)];rfl
     rw [e,dT' c1,dT' c2]
     simp only
     generalize decide (1≤m)=b1
     generalize decide (m≤12)=b2
     generalize decide (1≤d)=b3
     generalize decide (d≤lk y m)=b4
     generalize decide (0≤h)=b5
     generalize decide (h≤23)=b6
     generalize decide (0≤i)=b7
     generalize decide (i≤59)=b8
     generalize decide (0≤s)=b9
     generalize decide (s≤59)=b10
     cases b1; · rfl
     cases b2; · rfl
     cases b3; · rfl
     cases b4; · rfl
     cases b5; · rfl
     cases b6; · rfl
     cases b7; · rfl
     cases b8; · rfl
     cases b9; · rfl
     cases b10 <;> rfl
   · rw [dT' c1,dF' c2];rfl
 · rw [dF' c1];rfl
def wkP (t: Int): Int:=bif fx t then wdP t else -1
theorem Iv {t: Int} (h: fx t=true): 0≤t∧t≤253402300799:=by unfold fx at h;rw [Bool.and_eq_true,decide_eq_true_eq,decide_eq_true_eq] at h;exact h
theorem ae5 {t: Int} (h: fx t=true): Int.tmod (ad ((ad (Int.tdiv t 86400)) + 3)) 7=wdP t:=by
 obtain ⟨h0,h1⟩:=Iv h
 have e: Int.tdiv t 86400=t / 86400:=Int.tdiv_eq_ediv_of_nonneg h0
 rw [e,w64 (n:=t / 86400) (by omega) (by omega),w64 (by omega) (by omega),Int.tmod_eq_emod_of_nonneg (by omega)]
 rfl
theorem Iw: Sound Kx 253 (FF (fun _=>true) fun t=> .int .i64 (wkP t)):=pS ae0 fun t _=>by
 show (Up t).val=some (.int .i64 (wkP t),[])
 unfold Up wkP
 cases h: fx t
 · rfl
 · rw [ae5 h];rfl
theorem Ix: Sound Kx 217 (FF (fun _=>true) fun t=> .int .i64 (wkP t)):=pS ae2 fun t _=>by
 show (Uq t).val=some (.int .i64 (wkP t),[])
 unfold Uq wkP
 cases h: fx t
 · rfl
 · rw [ae5 h];rfl
theorem A3 {c: Cv} (h: dj c=true): (dgB c.h 2=true∧dgB c.i 2=true∧dgB c.s 2=true∧dgB c.d 2=true∧dgB c.y 4=true∧dgB c.y 2=true)∧(pdB c.h 2=true∧pdB c.i 2=true∧pdB c.s 2=true∧pdB c.d 2=true∧pdB c.y 4=true∧pdB (c.y % 100) 2=true):=by
 obtain ⟨h1,h2,h3,h4,h5,h6⟩:=cL h
 have dd: ∀ n k: Int,0≤n→n≤9999→0≤k→k≤4→dgB n k=true:=fun n k a b c d=>by
  unfold dgB bD;rw [dT' a,dT' (by omega),dT' c,dT' (by omega)];rfl
 have p2: ∀ n: Int,0≤n→n≤99→pdB n 2=true:=fun n a b=>by unfold pdB;rw [dT' a,dT' b];rfl
 have p4: ∀ n: Int,0≤n→n≤9999→pdB n 4=true:=fun n a b=>by unfold pdB;rw [dT' a,dT' b];rfl
 refine ⟨⟨dd _ _ ?_ ?_ ?_ ?_,dd _ _ ?_ ?_ ?_ ?_,dd _ _ ?_ ?_ ?_ ?_,dd _ _ ?_ ?_ ?_ ?_,dd _ _ ?_ ?_ ?_ ?_,dd _ _ ?_ ?_ ?_ ?_⟩,p2 _ ?_ ?_,p2 _ ?_ ?_,p2 _ ?_ ?_,p2 _ ?_ ?_,p4 _ ?_ ?_,p2 _ ?_ ?_⟩ <;> omega
theorem A4: Sound Kx 255 (acl dj fun c=> .str (aW c)):=acm acj fun y m d h i s hc=>by
 show (It y m d h i s).val=some (.str (aW ⟨y,m,d,h,i,s⟩),[])
 obtain ⟨⟨h1,h2,h3,_⟩,_⟩:=A3 hc
 simp only at h1 h2 h3
 unfold It
 simp only [h1,h2,h3,List.length_append,cu,List.length_cons,List.length_nil,Br.val]
 unfold aW
 simp [List.append_assoc]
theorem A5: Sound Kx 219 (acl dj fun c=> .str (aW c)):=acm ack fun y m d h i s hc=>by
 show (Iu y m d h i s).val=some (.str (aW ⟨y,m,d,h,i,s⟩),[])
 obtain ⟨_,h1,h2,h3,_⟩:=A3 hc
 simp only at h1 h2 h3
 unfold Iu
 simp only [h1,h2,h3,List.length_append,cu,List.length_cons,List.length_nil,Br.val]
 unfold aW
 simp [List.append_assoc]
def Uu (y m d h i s: Int): Br:=(.ite (decide (1970≤y)) (.ite (decide (y≤9999)) (.ite (decide (1≤m)) (.ite (decide (m≤12)) (.ite (decide (1≤d)) (.ite (yrB y) (.ite (decide (d≤(lk y m))) (.ite (decide (0≤h)) (.ite (decide (h≤23)) (.ite (decide (0≤i)) (.ite (decide (i≤59)) (.ite (decide (0≤s)) (.ite (decide (s≤59)) (.ret (AV.bool true) []) (.ret (AV.bool false) [])) (.ret (AV.bool false) [])) (.ret (AV.bool false) [])) (.ret (AV.bool false) [])) (.ret (AV.bool false) [])) (.ret (AV.bool false) [])) (.ret (AV.bool false) [])) .fail) (.ret (AV.bool false) [])) (.ret (AV.bool false) [])) (.ret (AV.bool false) [])) (.ret (AV.bool false) [])) (.ret (AV.bool false) []))
def agw: List AV→List Ob→Br
 | [.agg [.int .i64 y, .int .i64 m, .int .i64 d, .int .i64 h, .int .i64 i, .int .i64 s]],[]=>Uu y m d h i s
 | _,_=> .fail
def aas: Opt:={ live:=[(5,[1,4,5])],outs:=[(5,[1,2,3,4])] }
def iSec_C: SC:=[⟨248,_,Pg⟩,⟨249,_,Ug⟩,⟨250,_,Im⟩]
def A6 (aZ bi a7 dm fe iS iT eG: Int) (kR5: Int→Int→Int→Int→Int→Int→Int→Int→OR') (eg: Int→Int→Int→Int→Int→Int→Int→OR'): OR':=
 (bif (decide (bi < dm)) then (bif (yrB a7) then (kR5 (ad (aZ + (lk a7 bi))) (ad (bi + 1)) a7 dm fe iS iT eG) else none) else (eg aZ a7 dm fe iS iT eG))
def pT: Nat→Int→Int→Int→Int→Int→Int→Int→Int→(Int→Int→Int→Int→Int→Int→Int→OR')→OR'
 | 0,_,_,_,_,_,_,_,_,_=>none
 | n + 1,aZ,bi,a7,dm,fe,iS,iT,eG,eg=>A6 aZ bi a7 dm fe iS iT eG (fun aZ bi a7 dm fe iS iT eG=>pT n aZ bi a7 dm fe iS iT eG eg) eg
abbrev iSec_p5: SP:=⟨41,[1,4,5],[(.v (.ptr 128 0)),(.v (.i .i64)),(.v (.i .i64))],[(128, .var [(.i .i64),(.i .i64),(.i .i64),(.i .i64),(.i .i64),(.i .i64)])]⟩
noncomputable def Uv: Code:=aC (aG Tryz.f208) [1,1,1,0,1,0,0]
def Uw (f: (Int→Int→Int→Int→Int→Int→Int→OR')→OR') (k: KT): OR':=f (fun av bY cW g_ gu eA gv=>k (Ex.exit 0) ((St.mk (aF 0 41 [(1,(AV.ptr 128 0)),(4,(AV.int .i64 av))]) ((128,(Ob.var [.int .i64 bY,.int .i64 cW,.int .i64 g_,.int .i64 gu,.int .i64 eA,.int .i64 gv]))::([]: (List (Nat×(Ob))))))))
def Ux (n: Nat) (d: iSec_p5.D): KT→OR':=Uw (pT n d.1.2.1 d.1.2.2.1 d.2.1.1 d.2.1.2.1 d.2.1.2.2.1 d.2.1.2.2.2.1 d.2.1.2.2.2.2.1 d.2.1.2.2.2.2.2.1)
def aat (N: Nat): Lam:=bH [⟨5,iSec_p5,Ux N⟩]
theorem YA (N: Nat): OkL Kx iSec_C.s aas 0 N (aat N) Uv:=okL iSec_p5 (Ux) (fun d kR=>Uw (A6 d.1.2.1 d.1.2.2.1 d.2.1.1 d.2.1.2.1 d.2.1.2.2.1 d.2.1.2.2.2.1 d.2.1.2.2.2.2.1 d.2.1.2.2.2.2.2.1 (fun aZ bi a7 dm fe iS iT eG=>kR (((),aZ,bi,()),((a7,dm,fe,iS,iT,eG,()),()))))) (fun _ _=>by kernel_rfl) (fun _ _ _=>by kernel_rfl) (fun _ _=>by kernel_rfl) (fun _ _ _ _=>by kernel_rfl) (al (l':=[]) (by kernel_rfl) trivial)
def MN (N: Nat) (y m d h i s: Int): OR':=(bif (!(dj (cvM y m d h i s))) then (some ((AV.tup [.int .i64 0,.bool false]),[])) else (bif (yrB y) then (pT N (ad ((ad ((dB y) + d)) - 1)) 1 y m d h i s (fun av bY cW g_ gu eA gv=>(some ((AV.tup [.int .i64 (ad ((ad ((ad ((ad (86400 * av)) + (ad (3600 * gu)))) + (ad (60 * eA)))) + gv)),.bool true]),[])))) else none))
def MO (φ: Int→Int→Int→Int→Int→Int→Br): List AV→List Ob→Br
 | [.agg [.int .i64 y, .int .i64 m, .int .i64 d, .int .i64 h, .int .i64 i, .int .i64 s]],[]=>φ y m d h i s
 | _,_=> .fail
theorem Uy {φ: Int→Int→Int→Int→Int→Int→Br} (fu: Int→Int→Int→Int→Int→Int→Nat) (hv: ∀ y m d h i s res_,(φ y m d h i s).val=some res_→MN (fu y m d h i s) y m d h i s=some res_): Sound Kx 208 (MO φ):=ap (C:=iSec_C) (O:=aas) Tryz.func208 (by kernel_rfl) fun args objs=>by
 unfold MO;split
 · rename_i y m d h i s;exact .inr fun _ hyp_=>aO (Λ:=aat (fu y m d h i s)) (by kernel_rfl) (al (l':=[Uv]) (by kernel_rfl) ⟨YA _,trivial⟩) (by kernel_rfl) (hv y m d h i s _ hyp_)
 · exact .inl rfl
def Uz: Opt:={ live:=[(6,[2,3,5]),(3,[2,3,5])],outs:=[(6,[2,3,5]),(3,[2,3,5])] }
def iCiv_C: SC:=[⟨249,_,Ug⟩,⟨250,_,Im⟩]
def A7 (aI aA bp dA fI fU gG jv jE jF dn dp dq: Int) (kR3 ei: Int→Int→Int→Int→Int→Int→Int→Int→Int→Int→Int→Int→Int→OR'): OR':=
 (bif (yrB (ad (jv + 1))) then (bif (decide ((dB (ad (jv + 1)))≤aI)) then (kR3 aI aA bp dA fI fU gG (ad (jv + 1)) jE jF dn dp dq) else (ei aI aA bp dA fI fU gG jv jE jF dn dp dq)) else none)
def pU: Nat→Int→Int→Int→Int→Int→Int→Int→Int→Int→Int→Int→Int→Int→(Int→Int→Int→Int→Int→Int→Int→Int→Int→Int→Int→Int→Int→OR')→OR'
 | 0,_,_,_,_,_,_,_,_,_,_,_,_,_,_=>none
 | n + 1,aI,aA,bp,dA,fI,fU,gG,jv,jE,jF,dn,dp,dq,ei=>A7 aI aA bp dA fI fU gG jv jE jF dn dp dq (fun aI aA bp dA fI fU gG jv jE jF dn dp dq=>pU n aI aA bp dA fI fU gG jv jE jF dn dp dq ei) ei
abbrev iCiv_p3: SP:=⟨58,[2,3,5],[(.v (.ptr 192 0)),(.v (.i .i64)),(.v (.ptr 384 0))],[(192, .var [(.i .i64),(.i .i64),(.i .i64),(.i .i64),(.i .i64),(.i .i64)]),(384, .var [(.i .i64),(.i .i64),(.i .i64),(.i .i64),(.i .i64),(.i .i64)])]⟩
noncomputable def UA: Code:=aC (aG Tryz.f251) [1,1,1,0,0,0]
def UB (f: (Int→Int→Int→Int→Int→Int→Int→Int→Int→Int→Int→Int→Int→OR')→OR') (k: KT): OR':=f (fun ab af ah iO o3 o4 o5 km o6 o7 bc bd gx=>k (Ex.exit 0) ((St.mk (aF 0 58 [(2,(AV.ptr 192 0)),(3,(AV.int .i64 ab)),(5,(AV.ptr 384 0))]) ((192,(Ob.var [.int .i64 af,.int .i64 ah,.int .i64 iO,.int .i64 o3,.int .i64 o4,.int .i64 o5]))::((384,(Ob.var [.int .i64 km,.int .i64 o6,.int .i64 o7,.int .i64 bc,.int .i64 bd,.int .i64 gx]))::([]: (List (Nat×(Ob)))))))))
def UC (n: Nat) (d: iCiv_p3.D): KT→OR':=UB (pU n d.1.2.1 d.2.1.1 d.2.1.2.1 d.2.1.2.2.1 d.2.1.2.2.2.1 d.2.1.2.2.2.2.1 d.2.1.2.2.2.2.2.1 d.2.2.1.1 d.2.2.1.2.1 d.2.2.1.2.2.1 d.2.2.1.2.2.2.1 d.2.2.1.2.2.2.2.1 d.2.2.1.2.2.2.2.2.1)
def A8 (cx cg dX fG ic aaJ aaK PP Wf aaL Gd Ge Gf: Int) (kR6 mD: Int→Int→Int→Int→Int→Int→Int→Int→Int→Int→Int→Int→Int→OR'): OR':=
 (bif (yrB PP) then (bif (decide ((lk PP Wf)≤cx)) then (bif (yrB PP) then (kR6 (ad (cx - (lk PP Wf))) cg dX fG ic aaJ aaK PP (ad (Wf + 1)) aaL Gd Ge Gf) else none) else (mD cx cg dX fG ic aaJ aaK PP Wf aaL Gd Ge Gf)) else none)
def pV: Nat→Int→Int→Int→Int→Int→Int→Int→Int→Int→Int→Int→Int→Int→(Int→Int→Int→Int→Int→Int→Int→Int→Int→Int→Int→Int→Int→OR')→OR'
 | 0,_,_,_,_,_,_,_,_,_,_,_,_,_,_=>none
 | n + 1,cx,cg,dX,fG,ic,aaJ,aaK,PP,Wf,aaL,Gd,Ge,Gf,mD=>A8 cx cg dX fG ic aaJ aaK PP Wf aaL Gd Ge Gf (fun cx cg dX fG ic aaJ aaK PP Wf aaL Gd Ge Gf=>pV n cx cg dX fG ic aaJ aaK PP Wf aaL Gd Ge Gf mD) mD
abbrev iCiv_p6: SP:=⟨58,[2,3,5],[(.v (.ptr 192 0)),(.v (.i .i64)),(.v (.ptr 384 0))],[(192, .var [(.i .i64),(.i .i64),(.i .i64),(.i .i64),(.i .i64),(.i .i64)]),(384, .var [(.i .i64),(.i .i64),(.i .i64),(.i .i64),(.i .i64),(.i .i64)])]⟩
noncomputable def UD: Code:=aC (aG Tryz.f251) [1,1,1,1,1,0,0,0]
def UE (f: (Int→Int→Int→Int→Int→Int→Int→Int→Int→Int→Int→Int→Int→OR')→OR') (k: KT): OR':=f (fun di dv rA aaM aaN aaO aaP VT VU aaQ I_ Ja Jb=>k (Ex.exit 2) ((St.mk (aF 0 58 [(2,(AV.ptr 192 0)),(3,(AV.int .i64 di)),(5,(AV.ptr 384 0))]) ((192,(Ob.var [.int .i64 dv,.int .i64 rA,.int .i64 aaM,.int .i64 aaN,.int .i64 aaO,.int .i64 aaP]))::((384,(Ob.var [.int .i64 VT,.int .i64 VU,.int .i64 aaQ,.int .i64 I_,.int .i64 Ja,.int .i64 Jb]))::([]: (List (Nat×(Ob)))))))))
def UF (n: Nat) (d: iCiv_p6.D): KT→OR':=UE (pV n d.1.2.1 d.2.1.1 d.2.1.2.1 d.2.1.2.2.1 d.2.1.2.2.2.1 d.2.1.2.2.2.2.1 d.2.1.2.2.2.2.2.1 d.2.2.1.1 d.2.2.1.2.1 d.2.2.1.2.2.1 d.2.2.1.2.2.2.1 d.2.2.1.2.2.2.2.1 d.2.2.1.2.2.2.2.2.1)
def UG (N: Nat): Lam:=bH [⟨3,iCiv_p3,UC N⟩,⟨6,iCiv_p6,UF N⟩]
theorem YB (N: Nat): OkL Kx iCiv_C.s Uz 0 N (UG N) UA:=okL iCiv_p3 (UC) (fun d kR=>UB (A7 d.1.2.1 d.2.1.1 d.2.1.2.1 d.2.1.2.2.1 d.2.1.2.2.2.1 d.2.1.2.2.2.2.1 d.2.1.2.2.2.2.2.1 d.2.2.1.1 d.2.2.1.2.1 d.2.2.1.2.2.1 d.2.2.1.2.2.2.1 d.2.2.1.2.2.2.2.1 d.2.2.1.2.2.2.2.2.1 (fun aI aA bp dA fI fU gG jv jE jF dn dp dq=>kR (((),aI,(),()),((aA,bp,dA,fI,fU,gG,()),(jv,jE,jF,dn,dp,dq,()),()))))) (fun _ _=>by kernel_rfl) (fun _ _ _=>by kernel_rfl) (fun _ _=>by kernel_rfl) (fun _ _ _ _=>by kernel_rfl) (al (l':=[]) (by kernel_rfl) trivial)
theorem YC (N: Nat): OkL Kx iCiv_C.s Uz 0 N (UG N) UD:=okL iCiv_p6 (UF) (fun d kR=>UE (A8 d.1.2.1 d.2.1.1 d.2.1.2.1 d.2.1.2.2.1 d.2.1.2.2.2.1 d.2.1.2.2.2.2.1 d.2.1.2.2.2.2.2.1 d.2.2.1.1 d.2.2.1.2.1 d.2.2.1.2.2.1 d.2.2.1.2.2.2.1 d.2.2.1.2.2.2.2.1 d.2.2.1.2.2.2.2.2.1 (fun cx cg dX fG ic aaJ aaK PP Wf aaL Gd Ge Gf=>kR (((),cx,(),()),((cg,dX,fG,ic,aaJ,aaK,()),(PP,Wf,aaL,Gd,Ge,Gf,()),()))))) (fun _ _=>by kernel_rfl) (fun _ _ _=>by kernel_rfl) (fun _ _=>by kernel_rfl) (fun _ _ _ _=>by kernel_rfl) (al (l':=[]) (by kernel_rfl) trivial)
def MP (N: Nat) (t: Int): OR':=(pU N (ad (Int.tdiv t 86400)) 0 0 0 0 0 0 (ad (1970 + (ad (Int.tdiv (ad (Int.tdiv t 86400)) 366)))) 1 0 (ad (Int.tdiv (Int.tmod t 86400) 3600)) (Int.tmod (ad (Int.tdiv (Int.tmod t 86400) 60)) 60) (Int.tmod (Int.tmod t 86400) 60) (fun ab af ah iO o3 o4 o5 km o6 o7 bc bd gx=>(bif (yrB km) then (pV N (ad (ab - (dB km))) af ah iO o3 o4 o5 km o6 o7 bc bd gx (fun di dv rA aaM aaN aaO aaP VT VU aaQ I_ Ja Jb=>(some ((AV.agg [.int .i64 VT,.int .i64 VU,.int .i64 (ad (di + 1)),.int .i64 I_,.int .i64 Ja,.int .i64 Jb]),[])))) else none)))
def MQ (φ: Int→Br): List AV→List Ob→Br
 | [.int .i64 t],[]=>φ t
 | _,_=> .fail
theorem UH {φ: Int→Br} (fu: Int→Nat) (hv: ∀ t res_,(φ t).val=some res_→MP (fu t) t=some res_): Sound Kx 251 (MQ φ):=ap (C:=iCiv_C) (O:=Uz) Tryz.func251 (by kernel_rfl) fun args objs=>by
 unfold MQ;split
 · rename_i t;exact .inr fun _ hyp_=>aO (Λ:=UG (fu t)) (by kernel_rfl) (al (l':=[UA,UD]) (by kernel_rfl) ⟨YB _,YC _,trivial⟩) (by kernel_rfl) (hv t _ hyp_)
 · exact .inl rfl
def UI: Opt:={ live:=[(8,[2,4,5]),(5,[2,4,5])],outs:=[(8,[2,3,4,5]),(5,[2,3,4,5])] }
def sCiv_C: SC:=[⟨95,_,Fx⟩,⟨257,_,Ut⟩,⟨258,_,Us⟩]
def A9 (aZ bi a7 dm fe iS iT eG mC we gH gI gJ: Int) (kR5 eg: Int→Int→Int→Int→Int→Int→Int→Int→Int→Int→Int→Int→Int→OR'): OR':=
 (bif (yrB eG) then (bif (decide ((wC eG)≤aZ)) then (bif (yrB eG) then (kR5 (ad (aZ - (wC eG))) bi a7 dm fe iS iT (ad (eG + 1)) mC we gH gI gJ) else none) else (eg aZ bi a7 dm fe iS iT eG mC we gH gI gJ)) else none)
def pW: Nat→Int→Int→Int→Int→Int→Int→Int→Int→Int→Int→Int→Int→Int→(Int→Int→Int→Int→Int→Int→Int→Int→Int→Int→Int→Int→Int→OR')→OR'
 | 0,_,_,_,_,_,_,_,_,_,_,_,_,_,_=>none
 | n + 1,aZ,bi,a7,dm,fe,iS,iT,eG,mC,we,gH,gI,gJ,eg=>A9 aZ bi a7 dm fe iS iT eG mC we gH gI gJ (fun aZ bi a7 dm fe iS iT eG mC we gH gI gJ=>pW n aZ bi a7 dm fe iS iT eG mC we gH gI gJ eg) eg
abbrev sCiv_p5: SP:=⟨57,[2,4,5],[(.v (.ptr 192 0)),(.v (.i .i64)),(.v (.ptr 384 0))],[(192, .var [(.i .i64),(.i .i64),(.i .i64),(.i .i64),(.i .i64),(.i .i64)]),(384, .var [(.i .i64),(.i .i64),(.i .i64),(.i .i64),(.i .i64),(.i .i64)])]⟩
noncomputable def UJ: Code:=aC (aG Tryz.f215) [1,1,1,1,0,0,0]
def UK (f: (Int→Int→Int→Int→Int→Int→Int→Int→Int→Int→Int→Int→Int→OR')→OR') (k: KT): OR':=f (fun av bY cW g_ gu eA gv bC vZ v6 mE mF mG=>k (Ex.exit 0) ((St.mk (aF 0 57 [(2,(AV.ptr 192 0)),(4,(AV.int .i64 av)),(5,(AV.ptr 384 0))]) ((192,(Ob.var [.int .i64 bY,.int .i64 cW,.int .i64 g_,.int .i64 gu,.int .i64 eA,.int .i64 gv]))::((384,(Ob.var [.int .i64 bC,.int .i64 vZ,.int .i64 v6,.int .i64 mE,.int .i64 mF,.int .i64 mG]))::([]: (List (Nat×(Ob)))))))))
def UL (n: Nat) (d: sCiv_p5.D): KT→OR':=UK (pW n d.1.2.1 d.2.1.1 d.2.1.2.1 d.2.1.2.2.1 d.2.1.2.2.2.1 d.2.1.2.2.2.2.1 d.2.1.2.2.2.2.2.1 d.2.2.1.1 d.2.2.1.2.1 d.2.2.1.2.2.1 d.2.2.1.2.2.2.1 d.2.2.1.2.2.2.2.1 d.2.2.1.2.2.2.2.2.1)
def A_ (sP wg wh wi wj wl wm rD sQ wn gK gL gM: Int) (kR8 Zf: Int→Int→Int→Int→Int→Int→Int→Int→Int→Int→Int→Int→Int→OR'): OR':=
 (bif (yrB rD) then (bif (decide ((lk rD sQ)≤sP)) then (bif (yrB rD) then (kR8 (ad (sP - (lk rD sQ))) wg wh wi wj wl wm rD (ad (sQ + 1)) wn gK gL gM) else none) else (Zf sP wg wh wi wj wl wm rD sQ wn gK gL gM)) else none)
def pX: Nat→Int→Int→Int→Int→Int→Int→Int→Int→Int→Int→Int→Int→Int→(Int→Int→Int→Int→Int→Int→Int→Int→Int→Int→Int→Int→Int→OR')→OR'
 | 0,_,_,_,_,_,_,_,_,_,_,_,_,_,_=>none
 | n + 1,sP,wg,wh,wi,wj,wl,wm,rD,sQ,wn,gK,gL,gM,Zf=>A_ sP wg wh wi wj wl wm rD sQ wn gK gL gM (fun sP wg wh wi wj wl wm rD sQ wn gK gL gM=>pX n sP wg wh wi wj wl wm rD sQ wn gK gL gM Zf) Zf
abbrev sCiv_p8: SP:=⟨57,[2,4,5],[(.v (.ptr 192 0)),(.v (.i .i64)),(.v (.ptr 384 0))],[(192, .var [(.i .i64),(.i .i64),(.i .i64),(.i .i64),(.i .i64),(.i .i64)]),(384, .var [(.i .i64),(.i .i64),(.i .i64),(.i .i64),(.i .i64),(.i .i64)])]⟩
noncomputable def UM: Code:=aC (aG Tryz.f215) [1,1,1,1,1,0,0,0]
def UN (f: (Int→Int→Int→Int→Int→Int→Int→Int→Int→Int→Int→Int→Int→OR')→OR') (k: KT): OR':=f (fun v7 ze zf Gg Gh Gi Gj zg zh Gk mH mI mJ=>k (Ex.exit 2) ((St.mk (aF 0 57 [(2,(AV.ptr 192 0)),(4,(AV.int .i64 v7)),(5,(AV.ptr 384 0))]) ((192,(Ob.var [.int .i64 ze,.int .i64 zf,.int .i64 Gg,.int .i64 Gh,.int .i64 Gi,.int .i64 Gj]))::((384,(Ob.var [.int .i64 zg,.int .i64 zh,.int .i64 Gk,.int .i64 mH,.int .i64 mI,.int .i64 mJ]))::([]: (List (Nat×(Ob)))))))))
def UO (n: Nat) (d: sCiv_p8.D): KT→OR':=UN (pX n d.1.2.1 d.2.1.1 d.2.1.2.1 d.2.1.2.2.1 d.2.1.2.2.2.1 d.2.1.2.2.2.2.1 d.2.1.2.2.2.2.2.1 d.2.2.1.1 d.2.2.1.2.1 d.2.2.1.2.2.1 d.2.2.1.2.2.2.1 d.2.2.1.2.2.2.2.1 d.2.2.1.2.2.2.2.2.1)
def UP (N: Nat): Lam:=bH [⟨5,sCiv_p5,UL N⟩,⟨8,sCiv_p8,UO N⟩]
theorem YD (N: Nat): OkL Kx sCiv_C.s UI 0 N (UP N) UJ:=okL sCiv_p5 (UL) (fun d kR=>UK (A9 d.1.2.1 d.2.1.1 d.2.1.2.1 d.2.1.2.2.1 d.2.1.2.2.2.1 d.2.1.2.2.2.2.1 d.2.1.2.2.2.2.2.1 d.2.2.1.1 d.2.2.1.2.1 d.2.2.1.2.2.1 d.2.2.1.2.2.2.1 d.2.2.1.2.2.2.2.1 d.2.2.1.2.2.2.2.2.1 (fun aZ bi a7 dm fe iS iT eG mC we gH gI gJ=>kR (((),aZ,(),()),((bi,a7,dm,fe,iS,iT,()),(eG,mC,we,gH,gI,gJ,()),()))))) (fun _ _=>by kernel_rfl) (fun _ _ _=>by kernel_rfl) (fun _ _=>by kernel_rfl) (fun _ _ _ _=>by kernel_rfl) (al (l':=[]) (by kernel_rfl) trivial)
theorem YE (N: Nat): OkL Kx sCiv_C.s UI 0 N (UP N) UM:=okL sCiv_p8 (UO) (fun d kR=>UN (A_ d.1.2.1 d.2.1.1 d.2.1.2.1 d.2.1.2.2.1 d.2.1.2.2.2.1 d.2.1.2.2.2.2.1 d.2.1.2.2.2.2.2.1 d.2.2.1.1 d.2.2.1.2.1 d.2.2.1.2.2.1 d.2.2.1.2.2.2.1 d.2.2.1.2.2.2.2.1 d.2.2.1.2.2.2.2.2.1 (fun sP wg wh wi wj wl wm rD sQ wn gK gL gM=>kR (((),sP,(),()),((wg,wh,wi,wj,wl,wm,()),(rD,sQ,wn,gK,gL,gM,()),()))))) (fun _ _=>by kernel_rfl) (fun _ _ _=>by kernel_rfl) (fun _ _=>by kernel_rfl) (fun _ _ _ _=>by kernel_rfl) (al (l':=[]) (by kernel_rfl) trivial)
def MR (N: Nat) (t: Int): OR':=(bif (!(fx t)) then (some ((AV.tup [.agg [.int .i64 0,.int .i64 0,.int .i64 0,.int .i64 0,.int .i64 0,.int .i64 0],.bool false]),[])) else (pW N (ad (Int.tdiv t 86400)) 0 0 0 0 0 0 1970 1 0 (Int.tmod (ad (Int.tdiv t 3600)) 24) (Int.tmod (ad (Int.tdiv t 60)) 60) (Int.tmod t 60) (fun av bY cW g_ gu eA gv bC vZ v6 mE mF mG=>(pX N av bY cW g_ gu eA gv bC vZ v6 mE mF mG (fun v7 ze zf Gg Gh Gi Gj zg zh Gk mH mI mJ=>(some ((AV.tup [.agg [.int .i64 zg,.int .i64 zh,.int .i64 (ad (v7 + 1)),.int .i64 mH,.int .i64 mI,.int .i64 mJ],.bool true]),[])))))))
def MS (φ: Int→Br): List AV→List Ob→Br
 | [.int .i64 t],[]=>φ t
 | _,_=> .fail
theorem UQ {φ: Int→Br} (fu: Int→Nat) (hv: ∀ t res_,(φ t).val=some res_→MR (fu t) t=some res_): Sound Kx 215 (MS φ):=ap (C:=sCiv_C) (O:=UI) Tryz.func215 (by kernel_rfl) fun args objs=>by
 unfold MS;split
 · rename_i t;exact .inr fun _ hyp_=>aO (Λ:=UP (fu t)) (by kernel_rfl) (al (l':=[UJ,UM]) (by kernel_rfl) ⟨YD _,YE _,trivial⟩) (by kernel_rfl) (hv t _ hyp_)
 · exact .inl rfl
theorem jY {y: Int} (h1: 1≤y) (h2: y≤100000): yrB y=true:=by unfold yrB;rw [dT' h1,dT' h2];rfl
theorem Iy (y: Int): ∀ k: Nat,0≤mB y k∧mB y k≤31 * k
 | 0=>by simp [mB]
 | k + 1=>by
   have:=Iy y k
   have:=py y (k + 1)
   show 0≤mB y k + lk y (k + 1)∧mB y k + lk y (k + 1)≤_
   push_cast
   omega
theorem UR (y M d h i s: Int) (hy: 1970≤y) (hy2: y≤9999) (hM: M≤12) (K: Int→Int→Int→Int→Int→Int→Int→OR'): ∀ (j: Nat) (acc mo: Int) (n: Nat),M - mo=j→1≤mo→j < n→ -10000000≤acc - mB y (mo - 1).toNat→acc - mB y (mo - 1).toNat≤10000000→
 pT n acc mo y M d h i s K=K (acc - mB y (mo - 1).toNat + mB y (M - 1).toNat) y M d h i s:=by
 intro j;induction j with
 | zero=>
   intro acc mo n hj h1 hn b0 b1;obtain ⟨n,rfl⟩:=bL hn;unfold pT A6
   obtain rfl: mo=M:=by omega
   rw [dF' (by omega),cond_false,show acc - mB y (mo - 1).toNat + mB y (mo - 1).toNat=acc by omega]
 | succ j ih=>
   intro acc mo n hj h1 hn b0 b1;obtain ⟨n,rfl⟩:=bL hn
   have hs:=lW y mo h1
   have hb:=py y mo
   have hc:=Iy y (mo - 1).toNat
   unfold pT A6
   rw [dT' (show mo < M by omega),jY (by omega) (by omega),cond_true,cond_true,w64 (n:=acc + lk y mo) (by omega) (by omega),w64 (n:=mo + 1) (by omega) (by omega)]
   have e: (mo + 1 - 1).toNat=mo.toNat:=by congr 1;omega
   refine (ih (acc + lk y mo) (mo + 1) n (by omega) (by omega) (by omega) (by rw [e,hs];omega) (by rw [e,hs];omega)).trans ?_
   rw [e,hs]
   congr 1
   omega
def ahe (p: Cv→Int×Bool): Cv→AV:=fun c=> .tup [.int .i64 (p c).1, .bool (p c).2]
theorem YF {y: Int} (h1: 1970≤y) (h2: y≤9999): 0≤dB y∧dB y≤2932897:=by
 have a:=gm h1
 have b:=gm (show y≤10000 by omega)
 rw [Ai] at a
 rw [sp] at b
 exact ⟨a,b⟩
theorem US {y m d h i s: Int} (hk: dj ⟨y,m,d,h,i,s⟩=true): ad ((ad ((ad ((ad (86400 * (dB y + d - 1 + mB y (m - 1).toNat))) + (ad (3600 * h)))) + (ad (60 * i)))) + s)=Wa ⟨y,m,d,h,i,s⟩:=by
 obtain ⟨⟨h1,h2⟩,⟨h3,h4⟩,⟨h5,h6⟩,⟨h7,h8⟩,⟨h9,h10⟩,⟨h11,h12⟩⟩:=cL hk
 simp only at h1 h2 h3 h4 h5 h6 h7 h8 h9 h10 h11 h12
 have hd:=YF h1 h2
 have hm:=Iy y (m - 1).toNat
 have hm2: ((m - 1).toNat: Int)≤11:=by omega
 unfold Wa
 simp only
 generalize dB y=a at *
 generalize mB y (m - 1).toNat=b at *
 rw [w64 (n:=86400 * (a + d - 1 + b)) (by omega) (by omega),w64 (n:=3600 * h) (by omega) (by omega),w64 (n:=60 * i) (by omega) (by omega),w64 (n:=86400 * (a + d - 1 + b) + 3600 * h) (by omega) (by omega),
  w64 (n:=86400 * (a + d - 1 + b) + 3600 * h + 60 * i) (by omega) (by omega),w64 (by omega) (by omega)]
 omega
theorem YG: Sound Kx 208 (acl (fun _=>true) (ahe ll)):=by
 refine (Uy (φ:=fun y m d h i s=> .ret (ahe ll ⟨y,m,d,h,i,s⟩) []) (fun _ m _ _ _ _=>m.toNat + 1) fun y m d h i s r hv=>?_).of fun args objs r hv=>?_
 · cases hv
   unfold MN
   show (bif !dj ⟨y,m,d,h,i,s⟩ then _ else _)=_
   unfold ahe ll
   cases hk: dj ⟨y,m,d,h,i,s⟩
   · rfl
   · obtain ⟨⟨h1,h2⟩,⟨h3,h4⟩,⟨h5,h6⟩,_⟩:=cL hk
     simp only at h1 h2 h3 h4 h5 h6
     have hd:=YF h1 h2
     simp only [Bool.not_true,cond_false]
     rw [jY (by omega) (by omega),cond_true,w64 (n:=dB y + d) (by omega) (by omega),w64 (n:=dB y + d - 1) (by omega) (by omega)]
     have e0: mB y (1 - 1 : Int).toNat=0:=rfl
     rw [UR y m d h i s h1 h2 h4 _ (m - 1).toNat (dB y + d - 1) 1 (m.toNat + 1) (by omega) (by omega) (by omega) (by rw [e0];omega) (by rw [e0];omega),e0,Int.sub_zero]
     rw [US hk]
     rfl
 · unfold acl at hv;split at hv
   · obtain ⟨_,h2⟩:=ai hv
     exact h2
   · cases hv
theorem YH (day: Int) (h0: 0≤day) (h1: day < 2932897): 1970≤1970 + day / 366∧1970 + day / 366≤yrP day:=by
 obtain ⟨g1,g2,g3,g4⟩:=uL day h0 h1
 refine ⟨by omega,?_⟩
 by_cases c: 1970 + day / 366≤yrP day
 · exact c
 · have hm:=gm (show yrP day + 1≤1970 + day / 366 by omega)
   have hb: dB (1970 + day / 366)≤day:=by
    unfold dB;omega
   omega
theorem Ph (day a1 a2 a3 a4 a5 a6 m d h i s: Int) (h0: 0≤day) (h1: day < 2932897) (K: Int→Int→Int→Int→Int→Int→Int→Int→Int→Int→Int→Int→Int→OR'): ∀ (j: Nat) (y: Int) (n: Nat),yrP day - y=j→1970≤y→j < n→
 pU n day a1 a2 a3 a4 a5 a6 y m d h i s K=K day a1 a2 a3 a4 a5 a6 (yrP day) m d h i s:=by
 obtain ⟨g1,g2,g3,g4⟩:=uL day h0 h1
 intro j;induction j with
 | zero=>
   intro y n hj hy hn;obtain ⟨n,rfl⟩:=bL hn;unfold pU A7
   obtain rfl: y=yrP day:=by omega
   rw [w64 (n:=yrP day + 1) (by omega) (by omega),jY (by omega) (by omega),cond_true,dF' (by omega),cond_false]
 | succ j ih=>
   intro y n hj hy hn;obtain ⟨n,rfl⟩:=bL hn;unfold pU A7
   have:=gm (show y + 1≤yrP day by omega)
   rw [w64 (n:=y + 1) (by omega) (by omega),jY (by omega) (by omega),cond_true,dT' (by omega),cond_true]
   exact ih (y + 1) n (by omega) (by omega) (by omega)
theorem Pi (y D a1 a2 a3 a4 a5 a6 d h i s: Int) (hy: 1970≤y) (hy2: y≤9999) (h0: 0≤D) (h1: D < wC y) (K: Int→Int→Int→Int→Int→Int→Int→Int→Int→Int→Int→Int→Int→OR'): ∀ (j: Nat) (m: Int) (n: Nat),moP y D - m=j→1≤m→j < n→
 pV n (D - mB y (m - 1).toNat) a1 a2 a3 a4 a5 a6 y m d h i s K=K (D - mB y (moP y D - 1).toNat) a1 a2 a3 a4 a5 a6 y (moP y D) d h i s:=by
 obtain ⟨g1,g2,g3,g4⟩:=pA h0 h1
 have hyl:=uK y
 intro j;induction j with
 | zero=>
   intro m n hj hm hn;obtain ⟨n,rfl⟩:=bL hn;unfold pV A8
   obtain rfl: m=moP y D:=by omega
   have hs:=lW y (moP y D) hm
   rw [jY (by omega) (by omega),cond_true,dF' (by omega),cond_false]
 | succ j ih=>
   intro m n hj hm hn;obtain ⟨n,rfl⟩:=bL hn;unfold pV A8
   have hs:=lW y m hm
   have hmono:=lX y (moP y D - 1).toNat m.toNat (by omega)
   have hb:=Iy y (m - 1).toNat
   have hlb:=py y m
   rw [jY (by omega) (by omega),cond_true,dT' (by omega),cond_true,cond_true,w64 (n:=m + 1) (by omega) (by omega),w64 (n:=D - mB y (m - 1).toNat - lk y m) (by omega) (by omega)]
   have e: (m + 1 - 1).toNat=m.toNat:=by congr 1;omega
   have:=ih (m + 1) n (by omega) (by omega) (by omega)
   rw [e,hs] at this
   rw [show D - mB y (m - 1).toNat - lk y m=D - (mB y (m - 1).toNat + lk y m) by omega]
   exact this
theorem Pj (day a1 a2 a3 a4 a5 a6 m d h i s: Int) (h0: 0≤day) (h1: day < 2932897) (K: Int→Int→Int→Int→Int→Int→Int→Int→Int→Int→Int→Int→Int→OR'): ∀ (j: Nat) (y: Int) (n: Nat),yrP day - y=j→1970≤y→j < n→
 pW n (day - dB y) a1 a2 a3 a4 a5 a6 y m d h i s K=K (uM day) a1 a2 a3 a4 a5 a6 (yrP day) m d h i s:=by
 obtain ⟨g1,g2,g3,g4⟩:=uL day h0 h1
 intro j;induction j with
 | zero=>
   intro y n hj hy hn;obtain ⟨n,rfl⟩:=bL hn;unfold pW A9
   obtain rfl: y=yrP day:=by omega
   have hs:=Ah (yrP day)
   rw [jY (by omega) (by omega),cond_true,dF' (by omega),cond_false]
   rfl
 | succ j ih=>
   intro y n hj hy hn;obtain ⟨n,rfl⟩:=bL hn;unfold pW A9
   have:=gm (show y + 1≤yrP day by omega)
   have hs:=Ah y
   have hb:=uK y
   have hd:=YF hy (by omega)
   rw [jY (by omega) (by omega),cond_true,dT' (by omega),cond_true,cond_true,w64 (n:=y + 1) (by omega) (by omega),w64 (n:=day - dB y - wC y) (by omega) (by omega)]
   have:=ih (y + 1) n (by omega) (by omega) (by omega)
   rw [hs] at this
   rw [show day - dB y - wC y=day - (dB y + wC y) by omega]
   exact this
theorem Pk (y D a1 a2 a3 a4 a5 a6 d h i s: Int) (hy: 1970≤y) (hy2: y≤9999) (h0: 0≤D) (h1: D < wC y) (K: Int→Int→Int→Int→Int→Int→Int→Int→Int→Int→Int→Int→Int→OR'): ∀ (j: Nat) (m: Int) (n: Nat),moP y D - m=j→1≤m→j < n→
 pX n (D - mB y (m - 1).toNat) a1 a2 a3 a4 a5 a6 y m d h i s K=K (D - mB y (moP y D - 1).toNat) a1 a2 a3 a4 a5 a6 y (moP y D) d h i s:=by
 obtain ⟨g1,g2,g3,g4⟩:=pA h0 h1
 have hyl:=uK y
 intro j;induction j with
 | zero=>
   intro m n hj hm hn;obtain ⟨n,rfl⟩:=bL hn;unfold pX A_
   obtain rfl: m=moP y D:=by omega
   have hs:=lW y (moP y D) hm
   rw [jY (by omega) (by omega),cond_true,dF' (by omega),cond_false]
 | succ j ih=>
   intro m n hj hm hn;obtain ⟨n,rfl⟩:=bL hn;unfold pX A_
   have hs:=lW y m hm
   have hmono:=lX y (moP y D - 1).toNat m.toNat (by omega)
   have hb:=Iy y (m - 1).toNat
   have hlb:=py y m
   rw [jY (by omega) (by omega),cond_true,dT' (by omega),cond_true,cond_true,w64 (n:=m + 1) (by omega) (by omega),w64 (n:=D - mB y (m - 1).toNat - lk y m) (by omega) (by omega)]
   have e: (m + 1 - 1).toNat=m.toNat:=by congr 1;omega
   have:=ih (m + 1) n (by omega) (by omega) (by omega)
   rw [e,hs] at this
   rw [show D - mB y (m - 1).toNat - lk y m=D - (mB y (m - 1).toNat + lk y m) by omega]
   exact this
def cvY (t: Int): Int:=(pz t).y
def c_ (t: Int): Int:=(pz t).m
def cvD (t: Int): Int:=(pz t).d
def cvH (t: Int): Int:=(pz t).h
def wb (t: Int): Int:=(pz t).i
def wd (t: Int): Int:=(pz t).s
theorem jZ (t: Int): cvM (cvY t) (c_ t) (cvD t) (cvH t) (wb t) (wd t)=pz t:=rfl
def agx (t: Int): AV:= .agg [.int .i64 (cvY t), .int .i64 (c_ t), .int .i64 (cvD t), .int .i64 (cvH t), .int .i64 (wb t), .int .i64 (wd t)]
theorem tdv {a: Int} (h: 0≤a) (k: Int): Int.tdiv a k=a / k:=Int.tdiv_eq_ediv_of_nonneg h
theorem Ba: Sound Kx 251 (FF fx agx):=by
 refine (UH (φ:=fun t=> .ite (fx t) (.ret (agx t) []) .fail) (fun _=>10020) fun t r hv=>?_).of fun args objs r hv=>?_
 · obtain ⟨h1,h2⟩:=ai hv
   cases h2
   obtain ⟨t0,t1⟩:=Iv h1
   obtain ⟨g0,g1,g2,g3⟩:=Hs h1
   have d0: 0≤t / 86400:=by omega
   have d1: t / 86400 < 2932897:=by omega
   obtain ⟨s1,s2⟩:=YH (t / 86400) d0 d1
   have hm:=pA g0 g1
   have hdb:=YF g2 g3
   unfold MP
   rw [Int.tmod_eq_emod_of_nonneg t0,tdv t0,w64 (n:=t / 86400) (by omega) (by omega),tdv d0,w64 (n:=t / 86400 / 366) (by omega) (by omega),w64 (n:=1970 + t / 86400 / 366) (by omega) (by omega),
    Ph (t / 86400) 0 0 0 0 0 0 1 0 _ _ _ d0 d1 _ (yrP (t / 86400) - (1970 + t / 86400 / 366)).toNat (1970 + t / 86400 / 366) 10020 (by omega) s1 (by omega)]
   rw [jY (by omega) (by omega),cond_true,w64 (n:=t / 86400 - dB (yrP (t / 86400))) (by omega) (by omega)]
   have e0: t / 86400 - dB (yrP (t / 86400))=uM (t / 86400) - mB (yrP (t / 86400)) (1 - 1 : Int).toNat:=by
    rw [show mB (yrP (t / 86400)) (1 - 1 : Int).toNat=0 from rfl,Int.sub_zero];rfl
   rw [e0,Pi (yrP (t / 86400)) (uM (t / 86400)) 0 0 0 0 0 0 0 _ _ _ g2 g3 g0 g1 _ (moP (yrP (t / 86400)) (uM (t / 86400)) - 1).toNat 1 10020 (by omega) (by omega) (by omega)]
   have r0: 0≤t % 86400:=by omega
   have hb:=Iy (yrP (t / 86400)) (moP (yrP (t / 86400)) (uM (t / 86400)) - 1).toNat
   have hy:=uK (yrP (t / 86400))
   rw [tdv r0,tdv r0,Int.tmod_eq_emod_of_nonneg r0,w64 (n:=t % 86400 / 3600) (by omega) (by omega),w64 (n:=t % 86400 / 60) (by omega) (by omega),Int.tmod_eq_emod_of_nonneg (show 0≤t % 86400 / 60 by omega),w64 (n:=uM (t / 86400) - mB (yrP (t / 86400)) (moP (yrP (t / 86400)) (uM (t / 86400)) - 1).toNat + 1) (by omega) (by omega),
    show t % 86400 / 3600=t / 3600 % 24 by omega,show t % 86400 / 60 % 60=t / 60 % 60 by omega,show t % 86400 % 60=t % 60 by omega]
   rfl
 · unfold FF at hv;split at hv
   · exact hv
   · cases hv
def ae6: List AV→List Ob→Br
 | [.int .i64 t],[]=> .ite (fx t) (.ret (.tup [agx t, .bool true]) []) (.ret (.tup [.agg [.int .i64 0, .int .i64 0, .int .i64 0, .int .i64 0, .int .i64 0, .int .i64 0], .bool false]) [])
 | _,_=> .fail
theorem Bb: Sound Kx 215 ae6:=by
 refine (UQ (φ:=fun t=> .ite (fx t) (.ret (.tup [agx t, .bool true]) []) (.ret (.tup [.agg [.int .i64 0, .int .i64 0, .int .i64 0, .int .i64 0, .int .i64 0, .int .i64 0], .bool false]) [])) (fun _=>10020) fun t r hv=>?_).of fun args objs r hv=>?_
 · rw [← hv]
   unfold MR
   cases h1: fx t
   · rfl
   simp only [Bool.not_true,cond_false]
   obtain ⟨t0,t1⟩:=Iv h1
   obtain ⟨g0,g1,g2,g3⟩:=Hs h1
   have d0: 0≤t / 86400:=by omega
   have d1: t / 86400 < 2932897:=by omega
   have hm:=pA g0 g1
   have e1: t / 86400=t / 86400 - dB 1970:=by rw [Ai];omega
   rw [tdv t0,tdv t0,tdv t0,w64 (n:=t / 86400) (by omega) (by omega),w64 (n:=t / 3600) (by omega) (by omega),w64 (n:=t / 60) (by omega) (by omega),Int.tmod_eq_emod_of_nonneg (show 0≤t / 3600 by omega),Int.tmod_eq_emod_of_nonneg (show 0≤t / 60 by omega),Int.tmod_eq_emod_of_nonneg t0]
   have l5:=fun K=>Pj (t / 86400) 0 0 0 0 0 0 1 0 (t / 3600 % 24) (t / 60 % 60) (t % 60) d0 d1 K (yrP (t / 86400) - 1970).toNat 1970 10020 (by omega) (by omega) (by omega)
   rw [← e1] at l5
   rw [l5]
   have e0: uM (t / 86400)=uM (t / 86400) - mB (yrP (t / 86400)) (1 - 1 : Int).toNat:=by
    rw [show mB (yrP (t / 86400)) (1 - 1 : Int).toNat=0 from rfl,Int.sub_zero]
   have l8:=fun K=>Pk (yrP (t / 86400)) (uM (t / 86400)) 0 0 0 0 0 0 0 (t / 3600 % 24) (t / 60 % 60) (t % 60) g2 g3 g0 g1 K (moP (yrP (t / 86400)) (uM (t / 86400)) - 1).toNat 1 10020 (by omega) (by omega) (by omega)
   rw [← e0] at l8
   rw [l8]
   have hb:=Iy (yrP (t / 86400)) (moP (yrP (t / 86400)) (uM (t / 86400)) - 1).toNat
   have hy:=uK (yrP (t / 86400))
   rw [w64 (n:=uM (t / 86400) - mB (yrP (t / 86400)) (moP (yrP (t / 86400)) (uM (t / 86400)) - 1).toNat + 1) (by omega) (by omega)]
   rfl
 · unfold ae6 at hv;split at hv
   · exact hv
   · cases hv
def ae7: List AV→List Ob→Br
 | [.str s, .str sep],[]=> .ite (decide (s.length≤1000000)) (.ret (.bool (pD s sep)) []) .fail
 | _,_=> .fail
theorem acn: Sound Kx 246 ae7:=by
 refine cE Tryz.func246 (by kernel_rfl) rfl fun args objs res objs' hv w L vs hR hr=>?_
 unfold ae7 at hv
 split at hv
 case h_2=>cases hv
 rename_i s sep
 obtain ⟨h1,h2⟩:=ai hv
 cases h2
 rw [decide_eq_true_eq] at h1
 refine ⟨rfl,?_⟩
 simp only [aU,rel] at hr
 obtain ⟨v,vs',rfl,rfl,v2,vs2,rfl,rfl,rfl⟩:=hr
 obtain ⟨m,hm⟩:=hR.g.2.1 0 (by kernel_rfl)
 refine (Tryz.strings_Contains ⟨s.toArray⟩ ⟨sep.toArray⟩ m w (by show s.toArray.size < _;simp;omega) hm).mono ?_
 rintro e w' ⟨rfl,rfl⟩
 refine ⟨_,rfl,Below.refl _ _,?_⟩
 simp only [rel]
 rfl
def agy (φ: Int→Int→Int→Int→Int→Int→Br): List AV→List Ob→Br
 | [.agg [.int .i64 y, .int .i64 m, .int .i64 d, .int .i64 h, .int .i64 i, .int .i64 s]],[]=>φ y m d h i s
 | _,_=> .fail
def aco: Opt:={ split:=true }
def acp: SC:=[⟨130,_,jW⟩,⟨251,_,Ba⟩,⟨252,_,vy⟩,⟨253,_,Iw⟩,⟨254,_,sG⟩,⟨245,_,n_⟩,⟨255,_,A4⟩]
abbrev jp (t: Int):=(((((cut (List.getD yU (Int.toNat (wkP t)) ([]: aa)) 0 3)++([44,32]: aa))++(be 2 (cvD t)))++([32]: aa))++(List.getD monL (Int.toNat (ad ((c_ t) - 1))) ([]: aa)))
def Bc (t: Int): Br:=(.ite (!(fx t)) (.ret (AV.str ([]: aa)) []) (.ite (fx t) (.ite (decide (0≤(wkP t))) (.ite (decide ((wkP t) < 7)) (.ite (decide (3≤((List.length (List.getD yU (Int.toNat (wkP t)) ([]: aa))): Int))) (.ite (decide (((List.length (cut (List.getD yU (Int.toNat (wkP t)) ([]: aa)) 0 3)) + 2)≤9223372036854775807)) (.ite (dgB (cvD t) 2) (.ite (decide (((List.length ((cut (List.getD yU (Int.toNat (wkP t)) ([]: aa)) 0 3)++([44,32]: aa))) + (List.length (be 2 (cvD t))))≤9223372036854775807)) (.ite (decide (((List.length (((cut (List.getD yU (Int.toNat (wkP t)) ([]: aa)) 0 3)++([44,32]: aa))++(be 2 (cvD t)))) + 1)≤9223372036854775807)) (.ite (decide (0≤(ad ((c_ t) - 1)))) (.ite (decide ((ad ((c_ t) - 1)) < 12)) (.ite (decide (((List.length ((((cut (List.getD yU (Int.toNat (wkP t)) ([]: aa)) 0 3)++([44,32]: aa))++(be 2 (cvD t)))++([32]: aa))) + (List.length (List.getD monL (Int.toNat (ad ((c_ t) - 1))) ([]: aa))))≤9223372036854775807)) (.ite (decide (((List.length (jp t)) + 1)≤9223372036854775807)) (.ite (dgB (cvY t) 4) (.ite (decide (((List.length ((jp t)++([32]: aa))) + (List.length (be 4 (cvY t))))≤9223372036854775807)) (.ite (decide (((List.length (((jp t)++([32]: aa))++(be 4 (cvY t)))) + 1)≤9223372036854775807)) (.ite (dj (cvM (cvY t) (c_ t) (cvD t) (cvH t) (wb t) (wd t))) (.ite (decide (((List.length ((((jp t)++([32]: aa))++(be 4 (cvY t)))++([32]: aa))) + (List.length (aW (cvM (cvY t) (c_ t) (cvD t) (cvH t) (wb t) (wd t)))))≤9223372036854775807)) (.ite (decide (((List.length (((((jp t)++([32]: aa))++(be 4 (cvY t)))++([32]: aa))++(aW (cvM (cvY t) (c_ t) (cvD t) (cvH t) (wb t) (wd t))))) + 4)≤9223372036854775807)) (.ret (AV.str ((((((jp t)++([32]: aa))++(be 4 (cvY t)))++([32]: aa))++(aW (cvM (cvY t) (c_ t) (cvD t) (cvH t) (wb t) (wd t))))++([32,71,77,84]: aa))) []) .fail) .fail) .fail) .fail) .fail) .fail) .fail) .fail) .fail) .fail) .fail) .fail) .fail) .fail) .fail) .fail) .fail) .fail))
def UT: List AV→List Ob→Br
 | [.int .i64 t],[]=>Bc t
 | _,_=> .fail
theorem YI: Sound Kx 209 UT:=ae (C:=acp) (O:=aco) Tryz.func209 (by kernel_rfl) fun args objs=>by
 unfold UT;split
 · exact .inr (by kernel_rfl)
 · exact .inl rfl
def acq: Opt:={ split:=true }
def acr: SC:=[⟨130,_,jW⟩,⟨251,_,Ba⟩,⟨252,_,vy⟩,⟨253,_,Iw⟩,⟨254,_,sG⟩,⟨245,_,n_⟩,⟨255,_,A4⟩]
abbrev jq (t: Int):=(((((List.getD yU (Int.toNat (wkP t)) ([]: aa))++([44,32]: aa))++(be 2 (cvD t)))++([45]: aa))++(List.getD monL (Int.toNat (ad ((c_ t) - 1))) ([]: aa)))
def Be (t: Int): Br:=(.ite (!(fx t)) (.ret (AV.str ([]: aa)) []) (.ite (fx t) (.ite (decide (2069 < (cvY t))) (.ret (AV.str ([]: aa)) []) (.ite (fx t) (.ite (decide (0≤(wkP t))) (.ite (decide ((wkP t) < 7)) (.ite (decide (((List.length (List.getD yU (Int.toNat (wkP t)) ([]: aa))) + 2)≤9223372036854775807)) (.ite (dgB (cvD t) 2) (.ite (decide (((List.length ((List.getD yU (Int.toNat (wkP t)) ([]: aa))++([44,32]: aa))) + (List.length (be 2 (cvD t))))≤9223372036854775807)) (.ite (decide (((List.length (((List.getD yU (Int.toNat (wkP t)) ([]: aa))++([44,32]: aa))++(be 2 (cvD t)))) + 1)≤9223372036854775807)) (.ite (decide (0≤(ad ((c_ t) - 1)))) (.ite (decide ((ad ((c_ t) - 1)) < 12)) (.ite (decide (((List.length ((((List.getD yU (Int.toNat (wkP t)) ([]: aa))++([44,32]: aa))++(be 2 (cvD t)))++([45]: aa))) + (List.length (List.getD monL (Int.toNat (ad ((c_ t) - 1))) ([]: aa))))≤9223372036854775807)) (.ite (decide (((List.length (jq t)) + 1)≤9223372036854775807)) (.ite (dgB (cvY t) 2) (.ite (decide (((List.length ((jq t)++([45]: aa))) + (List.length (be 2 (cvY t))))≤9223372036854775807)) (.ite (decide (((List.length (((jq t)++([45]: aa))++(be 2 (cvY t)))) + 1)≤9223372036854775807)) (.ite (dj (cvM (cvY t) (c_ t) (cvD t) (cvH t) (wb t) (wd t))) (.ite (decide (((List.length ((((jq t)++([45]: aa))++(be 2 (cvY t)))++([32]: aa))) + (List.length (aW (cvM (cvY t) (c_ t) (cvD t) (cvH t) (wb t) (wd t)))))≤9223372036854775807)) (.ite (decide (((List.length (((((jq t)++([45]: aa))++(be 2 (cvY t)))++([32]: aa))++(aW (cvM (cvY t) (c_ t) (cvD t) (cvH t) (wb t) (wd t))))) + 4)≤9223372036854775807)) (.ret (AV.str ((((((jq t)++([45]: aa))++(be 2 (cvY t)))++([32]: aa))++(aW (cvM (cvY t) (c_ t) (cvD t) (cvH t) (wb t) (wd t))))++([32,71,77,84]: aa))) []) .fail) .fail) .fail) .fail) .fail) .fail) .fail) .fail) .fail) .fail) .fail) .fail) .fail) .fail) .fail) .fail) .fail)) .fail))
def UU: List AV→List Ob→Br
 | [.int .i64 t],[]=>Be t
 | _,_=> .fail
theorem YJ: Sound Kx 210 UU:=ae (C:=acr) (O:=acq) Tryz.func210 (by kernel_rfl) fun args objs=>by
 unfold UU;split
 · exact .inr (by kernel_rfl)
 · exact .inl rfl
def acs: Opt:={ split:=true }
def act: SC:=[⟨130,_,jW⟩,⟨251,_,Ba⟩,⟨252,_,vy⟩,⟨253,_,Iw⟩,⟨254,_,sG⟩,⟨245,_,n_⟩,⟨255,_,A4⟩]
abbrev gV (t: Int):=(((cut (List.getD yU (Int.toNat (wkP t)) ([]: aa)) 0 3)++([32]: aa))++(List.getD monL (Int.toNat (ad ((c_ t) - 1))) ([]: aa)))
abbrev kU (t: Int):=(((gV t)++([32]: aa))++(([32]: aa)++(cut (be 2 (cvD t)) 1 ((List.length (be 2 (cvD t))): Int))))
abbrev ew (t: Int):=(cvM (cvY t) (c_ t) (cvD t) (cvH t) (wb t) (wd t))
abbrev Bf (t: Int):=(decide (((List.length ((cut (List.getD yU (Int.toNat (wkP t)) ([]: aa)) 0 3)++([32]: aa))) + (List.length (List.getD monL (Int.toNat (ad ((c_ t) - 1))) ([]: aa))))≤9223372036854775807))
abbrev oa (t: Int):=((((gV t)++([32]: aa))++(be 2 (cvD t)))++([32]: aa))
def Bg (t: Int): Br:=(.ite (!(fx t)) (.ret (AV.str ([]: aa)) []) (.ite (fx t) (.ite (dgB (cvD t) 2) (.ite (decide ((cvD t) < 10)) (.ite (decide (1≤((List.length (be 2 (cvD t))): Int))) (.ite (decide ((1 + (List.length (cut (be 2 (cvD t)) 1 ((List.length (be 2 (cvD t))): Int))))≤9223372036854775807)) (.ite (decide (0≤(wkP t))) (.ite (decide ((wkP t) < 7)) (.ite (decide (3≤((List.length (List.getD yU (Int.toNat (wkP t)) ([]: aa))): Int))) (.ite (decide (((List.length (cut (List.getD yU (Int.toNat (wkP t)) ([]: aa)) 0 3)) + 1)≤9223372036854775807)) (.ite (decide (0≤(ad ((c_ t) - 1)))) (.ite (decide ((ad ((c_ t) - 1)) < 12)) (.ite (Bf t) (.ite (decide (((List.length (gV t)) + 1)≤9223372036854775807)) (.ite (decide (((List.length ((gV t)++([32]: aa))) + (List.length (([32]: aa)++(cut (be 2 (cvD t)) 1 ((List.length (be 2 (cvD t))): Int)))))≤9223372036854775807)) (.ite (decide (((List.length (kU t)) + 1)≤9223372036854775807)) (.ite (dj (ew t)) (.ite (decide (((List.length ((kU t)++([32]: aa))) + (List.length (aW (ew t))))≤9223372036854775807)) (.ite (decide (((List.length (((kU t)++([32]: aa))++(aW (ew t)))) + 1)≤9223372036854775807)) (.ite (dgB (cvY t) 4) (.ite (decide (((List.length ((((kU t)++([32]: aa))++(aW (ew t)))++([32]: aa))) + (List.length (be 4 (cvY t))))≤9223372036854775807)) (.ret (AV.str (((((kU t)++([32]: aa))++(aW (ew t)))++([32]: aa))++(be 4 (cvY t)))) []) .fail) .fail) .fail) .fail) .fail) .fail) .fail) .fail) .fail) .fail) .fail) .fail) .fail) .fail) .fail) .fail) .fail) (.ite (decide (0≤(wkP t))) (.ite (decide ((wkP t) < 7)) (.ite (decide (3≤((List.length (List.getD yU (Int.toNat (wkP t)) ([]: aa))): Int))) (.ite (decide (((List.length (cut (List.getD yU (Int.toNat (wkP t)) ([]: aa)) 0 3)) + 1)≤9223372036854775807)) (.ite (decide (0≤(ad ((c_ t) - 1)))) (.ite (decide ((ad ((c_ t) - 1)) < 12)) (.ite (Bf t) (.ite (decide (((List.length (gV t)) + 1)≤9223372036854775807)) (.ite (decide (((List.length ((gV t)++([32]: aa))) + (List.length (be 2 (cvD t))))≤9223372036854775807)) (.ite (decide (((List.length (((gV t)++([32]: aa))++(be 2 (cvD t)))) + 1)≤9223372036854775807)) (.ite (dj (ew t)) (.ite (decide (((List.length (oa t)) + (List.length (aW (ew t))))≤9223372036854775807)) (.ite (decide (((List.length ((oa t)++(aW (ew t)))) + 1)≤9223372036854775807)) (.ite (dgB (cvY t) 4) (.ite (decide (((List.length (((oa t)++(aW (ew t)))++([32]: aa))) + (List.length (be 4 (cvY t))))≤9223372036854775807)) (.ret (AV.str ((((oa t)++(aW (ew t)))++([32]: aa))++(be 4 (cvY t)))) []) .fail) .fail) .fail) .fail) .fail) .fail) .fail) .fail) .fail) .fail) .fail) .fail) .fail) .fail) .fail)) .fail) .fail))
def UV: List AV→List Ob→Br
 | [.int .i64 t],[]=>Bg t
 | _,_=> .fail
theorem YK: Sound Kx 211 UV:=ae (C:=act) (O:=acs) Tryz.func211 (by kernel_rfl) fun args objs=>by
 unfold UV;split
 · exact .inr (by kernel_rfl)
 · exact .inl rfl
def acu: Opt:={ split:=true }
def acv: SC:=[⟨215,_,Bb⟩,⟨216,_,vz⟩,⟨217,_,Ix⟩,⟨218,_,sH⟩,⟨214,_,vA⟩,⟨219,_,A5⟩]
def Bh (t: Int): Br:=(.ite (fx t) (.ite (decide (3≤((List.length (dJ (wkP t))): Int))) (.ite (decide (((List.length (cut (dJ (wkP t)) 0 3)) + 2)≤9223372036854775807)) (.ite (pdB (cvD t) 2) (.ite (decide (((List.length ((cut (dJ (wkP t)) 0 3)++([44,32]: aa))) + (List.length (be 2 (cvD t))))≤9223372036854775807)) (.ite (decide (((List.length (((cut (dJ (wkP t)) 0 3)++([44,32]: aa))++(be 2 (cvD t)))) + 1)≤9223372036854775807)) (.ite (moB (c_ t)) (.ite (decide (((List.length ((((cut (dJ (wkP t)) 0 3)++([44,32]: aa))++(be 2 (cvD t)))++([32]: aa))) + (List.length (eD (c_ t))))≤9223372036854775807)) (.ite (decide (((List.length (((((cut (dJ (wkP t)) 0 3)++([44,32]: aa))++(be 2 (cvD t)))++([32]: aa))++(eD (c_ t)))) + 1)≤9223372036854775807)) (.ite (pdB (cvY t) 4) (.ite (decide (((List.length ((((((cut (dJ (wkP t)) 0 3)++([44,32]: aa))++(be 2 (cvD t)))++([32]: aa))++(eD (c_ t)))++([32]: aa))) + (List.length (be 4 (cvY t))))≤9223372036854775807)) (.ite (decide (((List.length (((((((cut (dJ (wkP t)) 0 3)++([44,32]: aa))++(be 2 (cvD t)))++([32]: aa))++(eD (c_ t)))++([32]: aa))++(be 4 (cvY t)))) + 1)≤9223372036854775807)) (.ite (dj (cvM (cvY t) (c_ t) (cvD t) (cvH t) (wb t) (wd t))) (.ite (decide (((List.length ((((((((cut (dJ (wkP t)) 0 3)++([44,32]: aa))++(be 2 (cvD t)))++([32]: aa))++(eD (c_ t)))++([32]: aa))++(be 4 (cvY t)))++([32]: aa))) + (List.length (aW (cvM (cvY t) (c_ t) (cvD t) (cvH t) (wb t) (wd t)))))≤9223372036854775807)) (.ite (decide (((List.length (((((((((cut (dJ (wkP t)) 0 3)++([44,32]: aa))++(be 2 (cvD t)))++([32]: aa))++(eD (c_ t)))++([32]: aa))++(be 4 (cvY t)))++([32]: aa))++(aW (cvM (cvY t) (c_ t) (cvD t) (cvH t) (wb t) (wd t))))) + 4)≤9223372036854775807)) (.ret (AV.str ((((((((((cut (dJ (wkP t)) 0 3)++([44,32]: aa))++(be 2 (cvD t)))++([32]: aa))++(eD (c_ t)))++([32]: aa))++(be 4 (cvY t)))++([32]: aa))++(aW (cvM (cvY t) (c_ t) (cvD t) (cvH t) (wb t) (wd t))))++([32,71,77,84]: aa))) []) .fail) .fail) .fail) .fail) .fail) .fail) .fail) .fail) .fail) .fail) .fail) .fail) .fail) .fail) (.ret (AV.str ([]: aa)) []))
def UW: List AV→List Ob→Br
 | [.int .i64 t],[]=>Bh t
 | _,_=> .fail
theorem YL: Sound Kx 155 UW:=ae (C:=acv) (O:=acu) Tryz.func155 (by kernel_rfl) fun args objs=>by
 unfold UW;split
 · exact .inr (by kernel_rfl)
 · exact .inl rfl
def MT: Opt:={ live:=[(2,[0,5,6,7])],outs:=[(2,[2])] }
def iMonIn_C: SC:=[⟨245,_,n_⟩,⟨246,_,acn⟩]
def od (aD: aa) (aH bW: Int) (gw: (List aa)) (kR2: aa→Int→Int→(List aa)→OR') (ca: Int→OR') (cI: OR'): OR':=
 (bif (decide (bW < aH)) then (bif (decide (0≤bW)) then (bif (decide (bW < (gw.length: Int))) then (bif (decide (aD.length≤1000000)) then (bif (pD aD (List.getD gw (Int.toNat bW) ([]: aa))) then (ca (ad (bW + 1))) else (kR2 aD aH (ad (bW + 1)) gw)) else none) else none) else none) else cI)
def iJ: Nat→aa→Int→Int→(List aa)→(Int→OR')→(OR')→OR'
 | 0,_,_,_,_,_,_=>none
 | n + 1,aD,aH,bW,gw,ca,cI=>od aD aH bW gw (fun aD aH bW gw=>iJ n aD aH bW gw ca cI) ca cI
abbrev iMonIn_p2: SP:=⟨18,[0,5,6,7],[(.v .s),(.v (.ref 384 0)),(.v (.i .i64)),(.v (.i .i64))],[(384, .arr Ty.str 0 false)]⟩
noncomputable def FH: Code:=aC (aG Tryz.f206) [1,0,1,0,0]
def FI (f: (Int→OR')→(OR')→OR') (k: KT): OR':=f (fun bK=>k Ex.ret ((St.mk (aF 0 18 [(2,(AV.int .i64 bK))]) ([]: (List (Nat×(Ob))))))) (k (Ex.exit 0) ((St.mk (aF 0 18 []) ([]: (List (Nat×(Ob)))))))
def FJ (n: Nat) (d: iMonIn_p2.D): KT→OR':=FI (iJ n d.1.1 d.1.2.2.1 d.1.2.2.2.1 d.2.1)
def MU (N: Nat): Lam:=bH [⟨2,iMonIn_p2,FJ N⟩]
theorem Pl (N: Nat): OkL Kx iMonIn_C.s MT 0 N (MU N) FH:=okL iMonIn_p2 (FJ) (fun d kR=>FI (od d.1.1 d.1.2.2.1 d.1.2.2.2.1 d.2.1 (fun aD aH bW gw=>kR ((aD,(),aH,bW,()),(gw,()))))) (fun _ _=>by kernel_rfl) (fun _ _ _=>by kernel_rfl) (fun _ _=>by kernel_rfl) (fun _ _ _ _=>by kernel_rfl) (al (l':=[]) (by kernel_rfl) trivial)
def yV (N: Nat) (s: aa): OR':=(iJ N s 12 0 monL (fun bK=>(some ((AV.int .i64 bK),[]))) (some ((AV.int .i64 0),[])))
def yW (φ: aa→Br): List AV→List Ob→Br
 | [.str s],[]=>φ s
 | _,_=> .fail
theorem Iz {φ: aa→Br} (fu: aa→Nat) (hv: ∀ s res_,(φ s).val=some res_→yV (fu s) s=some res_): Sound Kx 206 (yW φ):=ap (C:=iMonIn_C) (O:=MT) Tryz.func206 (by kernel_rfl) fun args objs=>by
 unfold yW;split
 · rename_i s;exact .inr fun _ hyp_=>aO (Λ:=MU (fu s)) (by kernel_rfl) (al (l':=[FH]) (by kernel_rfl) ⟨Pl _,trivial⟩) (by kernel_rfl) (hv s _ hyp_)
 · exact .inl rfl
theorem ae8 {t: Int} (h: fx t=true): 0≤wdP t∧wdP t < 7:=by
 unfold wdP;omega
theorem acw {w: Int} (h0: 0≤w) (h1: w < 7): List.getD yU w.toNat []=dJ w:=by
 have: w=0∨w=1∨w=2∨w=3∨w=4∨w=5∨w=6:=by omega
 rcases this with rfl | rfl | rfl | rfl | rfl | rfl | rfl <;> rfl
theorem UX {m: Int} (h0: 1≤m) (h1: m≤12): List.getD monL (m - 1).toNat []=eD m:=by
 rcases fk h0 h1 with rfl | rfl | rfl | rfl | rfl | rfl | rfl | rfl | rfl | rfl | rfl | rfl <;> rfl
theorem Pm (s: aa): Ev.cut s 0 3=s.take 3:=by unfold Ev.cut;simp
structure CivF (t: Int): Prop where
 wk: wkP t=wdP t
 d0: decide ((0 : Int)≤wdP t)=true
 d1: decide (wdP t < (7 : Int))=true
 dg: List.getD yU (wdP t).toNat ([]: aa)=dJ (wdP t)
 m0: decide ((0 : Int)≤c_ t - 1)=true
 m1: decide (c_ t - 1 < (12 : Int))=true
 mw: ad (c_ t - 1)=c_ t - 1
 mg: List.getD monL (c_ t - 1).toNat ([]: aa)=eD (c_ t)
 ml: (eD (c_ t)).length=3
 mb: moB (c_ t)=true
 cl: (aW (cvM (cvY t) (c_ t) (cvD t) (cvH t) (wb t) (wd t))).length=8
 ok: dj (cvM (cvY t) (c_ t) (cvD t) (cvH t) (wb t) (wd t))=true
 g1: dgB (cvD t) 2=true
 g2: dgB (cvY t) 4=true
 g3: dgB (cvY t) 2=true
 p1: pdB (cvD t) 2=true
 p2: pdB (cvY t) 4=true
 p3: pdB (cvY t % 100) 2=true
theorem adp {t: Int} (h: fx t=true): CivF t:=by
 obtain ⟨hk,_⟩:=D7 h
 obtain ⟨⟨h1,h2⟩,⟨h3,h4⟩,_⟩:=cL hk
 obtain ⟨w0,w1⟩:=ae8 h
 obtain ⟨⟨_,_,_,g1,g2,g3⟩,⟨_,_,_,p1,p2,p3⟩⟩:=A3 hk
 have h3': 1≤c_ t:=h3
 have h4': c_ t≤12:=h4
 exact ⟨by unfold wkP;rw [h];rfl,dT' w0,dT' w1,acw w0 w1,dT' (by omega),dT' (by omega),w64 (by omega) (by omega),UX h3' h4',AK h3' h4',
  by unfold moB;rw [dT' h3',dT' h4'];rfl,n0 _,hk,g1,g2,g3,p1,p2,p3⟩
theorem UY: Sound Kx 209 (FF (fun _=>true) fun t=> .str (ia t)):=pS YI fun t _=>by
 show (Bc t).val=some (.str (ia t),[])
 unfold Bc ia jp
 cases h: fx t
 · rfl
 have F:=adp h
 have dl:=jm (wdP t)
 have dl2:=md (wdP t)
 have e3: decide ((3 : Int)≤((dJ (wdP t)).length: Int))=true:=dT' (by omega)
 simp only [F.wk,F.d0,F.d1,F.dg,F.mw,F.m0,F.m1,F.mg,F.ml,F.cl,F.ok,F.g1,F.g2,F.g3,e3,Pm,dl,List.length_append,cu,List.length_cons,List.length_nil,Br.val,Bool.not_true]
 simp [k_,Ot,List.append_assoc,jZ,Br.val,cvD,c_,cvY]
 rfl
theorem UZ: Sound Kx 210 (FF (fun _=>true) fun t=> .str (jB t)):=pS YJ fun t _=>by
 show (Be t).val=some (.str (jB t),[])
 unfold Be jB jq
 cases h: fx t
 · rfl
 have F:=adp h
 have dl2:=md (wdP t)
 by_cases c: cvY t≤2069
 · have e1: decide (2069 < cvY t)=false:=dF' (by omega)
   have e2: decide ((pz t).y≤2069)=true:=dT' c
   have e3: ∀ k: Nat,9≤k→decide ((dJ (wdP t)).length≤k)=true:=fun k hk=>dT' (by omega)
   rw [e2]
   simp only [F.wk,F.d0,F.d1,F.dg,F.mw,F.m0,F.m1,F.mg,F.ml,F.cl,F.ok,F.g1,F.g2,F.g3,e1,List.length_append,cu,List.length_cons,List.length_nil,Br.val,Bool.not_true,Nat.add_assoc]
   simp (disch:=omega) [e3,lY,Ot,List.append_assoc,jZ,Br.val,cvD,c_,cvY]
   rfl
 · have e1: decide (2069 < cvY t)=true:=dT' (by omega)
   have e2: decide ((pz t).y≤2069)=false:=dF' c
   rw [e1,e2];rfl
theorem ahf (n: Int): Ev.cut (be 2 n) 1 2=[dg n]:=rfl
theorem ae9 (n: Int): Ev.cut (be 2 n) 1 ((be 2 n).length: Int)=[dg n]:=by
 rw [cu];rfl
theorem U0: Sound Kx 211 (FF (fun _=>true) fun t=> .str (jC t)):=pS YK fun t _=>by
 show (Bg t).val=some (.str (jC t),[])
 unfold Bg jC oa Bf ew kU gV
 cases h: fx t
 · rfl
 have F:=adp h
 have dl:=jm (wdP t)
 have dl2:=md (wdP t)
 have e3: decide ((3 : Int)≤((dJ (wdP t)).length: Int))=true:=dT' (by omega)
 have hd: pB (wdP t) (pz t)=(dJ (wdP t)).take 3++32::eD (c_ t)++32::wD (cvD t)++32::aW (pz t)++32::be 4 (cvY t):=rfl
 rw [hd]
 by_cases c: cvD t < 10
 · have e1: decide (cvD t < 10)=true:=dT' c
   have e2: wD (cvD t)=[32,dg (cvD t)]:=by unfold wD;rw [e1];rfl
   have e4: decide ((1 : Int)≤(((be 2 (cvD t)).length: Nat): Int))=true:=by rw [cu];rfl
   rw [e2]
   simp only [F.wk,F.d0,F.d1,F.dg,F.mw,F.m0,F.m1,F.mg,F.ml,F.cl,F.ok,F.g1,F.g2,F.g3,e1,e3,e4,Pm,ae9,dl,List.length_append,cu,List.length_cons,List.length_nil,Br.val,Bool.not_true]
   simp [List.append_assoc,jZ,Br.val,ahf]
 · have e1: decide (cvD t < 10)=false:=dF' c
   have e2: wD (cvD t)=be 2 (cvD t):=by unfold wD;rw [e1];rfl
   rw [e2]
   simp only [F.wk,F.d0,F.d1,F.dg,F.mw,F.m0,F.m1,F.mg,F.ml,F.cl,F.ok,F.g1,F.g2,F.g3,e1,e3,Pm,dl,List.length_append,cu,List.length_cons,List.length_nil,Br.val,Bool.not_true]
   simp [List.append_assoc,jZ,Br.val]
theorem FK: Sound Kx 155 (FF (fun _=>true) fun t=> .str (ia t)):=pS YL fun t _=>by
 show (Bh t).val=some (.str (ia t),[])
 unfold Bh ia
 cases h: fx t
 · rfl
 have F:=adp h
 have dl:=jm (wdP t)
 have dl2:=md (wdP t)
 have e3: decide ((3 : Int)≤((dJ (wdP t)).length: Int))=true:=dT' (by omega)
 simp only [F.wk,F.d0,F.d1,F.mb,F.ml,F.cl,F.ok,F.p1,F.p2,F.p3,e3,Pm,dl,List.length_append,cu,List.length_cons,List.length_nil,Br.val,Bool.not_true]
 simp [k_,Ot,List.append_assoc,jZ,Br.val,cvD,c_,cvY]
 rfl
def acx: Opt:={ split:=true }
def acy: SC:=[⟨215,_,Bb⟩,⟨216,_,vz⟩,⟨217,_,Ix⟩,⟨218,_,sH⟩,⟨214,_,vA⟩,⟨219,_,A5⟩]
def Bi (t: Int): Br:=(.ite (fx t) (.ite (decide (2069 < (cvY t))) (.ret (AV.str ([]: aa)) []) (.ite (decide (((List.length (dJ (wkP t))) + 2)≤9223372036854775807)) (.ite (pdB (cvD t) 2) (.ite (decide (((List.length ((dJ (wkP t))++([44,32]: aa))) + (List.length (be 2 (cvD t))))≤9223372036854775807)) (.ite (decide (((List.length (((dJ (wkP t))++([44,32]: aa))++(be 2 (cvD t)))) + 1)≤9223372036854775807)) (.ite (moB (c_ t)) (.ite (decide (((List.length ((((dJ (wkP t))++([44,32]: aa))++(be 2 (cvD t)))++([45]: aa))) + (List.length (eD (c_ t))))≤9223372036854775807)) (.ite (decide (((List.length (((((dJ (wkP t))++([44,32]: aa))++(be 2 (cvD t)))++([45]: aa))++(eD (c_ t)))) + 1)≤9223372036854775807)) (.ite (pdB (Int.tmod (cvY t) 100) 2) (.ite (decide (((List.length ((((((dJ (wkP t))++([44,32]: aa))++(be 2 (cvD t)))++([45]: aa))++(eD (c_ t)))++([45]: aa))) + (List.length (be 2 (Int.tmod (cvY t) 100))))≤9223372036854775807)) (.ite (decide (((List.length (((((((dJ (wkP t))++([44,32]: aa))++(be 2 (cvD t)))++([45]: aa))++(eD (c_ t)))++([45]: aa))++(be 2 (Int.tmod (cvY t) 100)))) + 1)≤9223372036854775807)) (.ite (dj (cvM (cvY t) (c_ t) (cvD t) (cvH t) (wb t) (wd t))) (.ite (decide (((List.length ((((((((dJ (wkP t))++([44,32]: aa))++(be 2 (cvD t)))++([45]: aa))++(eD (c_ t)))++([45]: aa))++(be 2 (Int.tmod (cvY t) 100)))++([32]: aa))) + (List.length (aW (cvM (cvY t) (c_ t) (cvD t) (cvH t) (wb t) (wd t)))))≤9223372036854775807)) (.ite (decide (((List.length (((((((((dJ (wkP t))++([44,32]: aa))++(be 2 (cvD t)))++([45]: aa))++(eD (c_ t)))++([45]: aa))++(be 2 (Int.tmod (cvY t) 100)))++([32]: aa))++(aW (cvM (cvY t) (c_ t) (cvD t) (cvH t) (wb t) (wd t))))) + 4)≤9223372036854775807)) (.ret (AV.str ((((((((((dJ (wkP t))++([44,32]: aa))++(be 2 (cvD t)))++([45]: aa))++(eD (c_ t)))++([45]: aa))++(be 2 (Int.tmod (cvY t) 100)))++([32]: aa))++(aW (cvM (cvY t) (c_ t) (cvD t) (cvH t) (wb t) (wd t))))++([32,71,77,84]: aa))) []) .fail) .fail) .fail) .fail) .fail) .fail) .fail) .fail) .fail) .fail) .fail) .fail) .fail)) (.ret (AV.str ([]: aa)) []))
def U1: List AV→List Ob→Br
 | [.int .i64 t],[]=>Bi t
 | _,_=> .fail
theorem YM: Sound Kx 157 U1:=ae (C:=acy) (O:=acx) Tryz.func157 (by kernel_rfl) fun args objs=>by
 unfold U1;split
 · exact .inr (by kernel_rfl)
 · exact .inl rfl
def acz: Opt:={ split:=true }
def acA: SC:=[⟨215,_,Bb⟩,⟨216,_,vz⟩,⟨217,_,Ix⟩,⟨218,_,sH⟩,⟨214,_,vA⟩,⟨219,_,A5⟩,⟨191,_,px⟩]
abbrev fc (t: Int):=((((cut (dJ (wkP t)) 0 3)++([32]: aa))++(eD (c_ t)))++([32]: aa))
abbrev ey (t: Int):=(cvM (cvY t) (c_ t) (cvD t) (cvH t) (wb t) (wd t))
abbrev oe (t: Int):=(((fc t)++(([32]: aa)++(bR (cvD t))))++([32]: aa))
def Bj (t: Int): Br:=(.ite (fx t) (.ite (pdB (cvD t) 2) (.ite (decide ((cvD t) < 10)) (.ite (bD (cvD t)) (.ite (decide ((1 + (List.length (bR (cvD t))))≤9223372036854775807)) (.ite (decide (3≤((List.length (dJ (wkP t))): Int))) (.ite (decide (((List.length (cut (dJ (wkP t)) 0 3)) + 1)≤9223372036854775807)) (.ite (moB (c_ t)) (.ite (decide (((List.length ((cut (dJ (wkP t)) 0 3)++([32]: aa))) + (List.length (eD (c_ t))))≤9223372036854775807)) (.ite (decide (((List.length (((cut (dJ (wkP t)) 0 3)++([32]: aa))++(eD (c_ t)))) + 1)≤9223372036854775807)) (.ite (decide (((List.length (fc t)) + (List.length (([32]: aa)++(bR (cvD t)))))≤9223372036854775807)) (.ite (decide (((List.length ((fc t)++(([32]: aa)++(bR (cvD t))))) + 1)≤9223372036854775807)) (.ite (dj (ey t)) (.ite (decide (((List.length (oe t)) + (List.length (aW (ey t))))≤9223372036854775807)) (.ite (decide (((List.length ((oe t)++(aW (ey t)))) + 1)≤9223372036854775807)) (.ite (pdB (cvY t) 4) (.ite (decide (((List.length (((oe t)++(aW (ey t)))++([32]: aa))) + (List.length (be 4 (cvY t))))≤9223372036854775807)) (.ret (AV.str ((((oe t)++(aW (ey t)))++([32]: aa))++(be 4 (cvY t)))) []) .fail) .fail) .fail) .fail) .fail) .fail) .fail) .fail) .fail) .fail) .fail) .fail) .fail) .fail) (.ite (decide (3≤((List.length (dJ (wkP t))): Int))) (.ite (decide (((List.length (cut (dJ (wkP t)) 0 3)) + 1)≤9223372036854775807)) (.ite (moB (c_ t)) (.ite (decide (((List.length ((cut (dJ (wkP t)) 0 3)++([32]: aa))) + (List.length (eD (c_ t))))≤9223372036854775807)) (.ite (decide (((List.length (((cut (dJ (wkP t)) 0 3)++([32]: aa))++(eD (c_ t)))) + 1)≤9223372036854775807)) (.ite (decide (((List.length (fc t)) + (List.length (be 2 (cvD t))))≤9223372036854775807)) (.ite (decide (((List.length ((fc t)++(be 2 (cvD t)))) + 1)≤9223372036854775807)) (.ite (dj (ey t)) (.ite (decide (((List.length (((fc t)++(be 2 (cvD t)))++([32]: aa))) + (List.length (aW (ey t))))≤9223372036854775807)) (.ite (decide (((List.length ((((fc t)++(be 2 (cvD t)))++([32]: aa))++(aW (ey t)))) + 1)≤9223372036854775807)) (.ite (pdB (cvY t) 4) (.ite (decide (((List.length (((((fc t)++(be 2 (cvD t)))++([32]: aa))++(aW (ey t)))++([32]: aa))) + (List.length (be 4 (cvY t))))≤9223372036854775807)) (.ret (AV.str ((((((fc t)++(be 2 (cvD t)))++([32]: aa))++(aW (ey t)))++([32]: aa))++(be 4 (cvY t)))) []) .fail) .fail) .fail) .fail) .fail) .fail) .fail) .fail) .fail) .fail) .fail) .fail)) .fail) (.ret (AV.str ([]: aa)) []))
def U2: List AV→List Ob→Br
 | [.int .i64 t],[]=>Bj t
 | _,_=> .fail
theorem YN: Sound Kx 156 U2:=ae (C:=acA) (O:=acz) Tryz.func156 (by kernel_rfl) fun args objs=>by
 unfold U2;split
 · exact .inr (by kernel_rfl)
 · exact .inl rfl
theorem ae_ {t: Int} (h: fx t=true): Int.tmod (cvY t) 100=cvY t % 100:=by
 obtain ⟨hk,_⟩:=D7 h
 obtain ⟨⟨h1,h2⟩,_⟩:=cL hk
 exact Int.tmod_eq_emod_of_nonneg (show 0≤cvY t from by have: 1970≤cvY t:=h1;omega)
theorem U3: Sound Kx 157 (FF (fun _=>true) fun t=> .str (jB t)):=pS YM fun t _=>by
 show (Bi t).val=some (.str (jB t),[])
 unfold Bi jB
 cases h: fx t
 · rfl
 have F:=adp h
 have dl2:=md (wdP t)
 have hm:=ae_ h
 have hp: be 2 (cvY t % 100)=be 2 (cvY t):=(Tg _).symm
 by_cases c: cvY t≤2069
 · have e1: decide (2069 < cvY t)=false:=dF' (by omega)
   have e2: decide ((pz t).y≤2069)=true:=dT' c
   have e3: ∀ k: Nat,9≤k→decide ((dJ (wdP t)).length≤k)=true:=fun k hk=>dT' (by omega)
   rw [e2]
   simp only [F.wk,F.d0,F.d1,hm,hp,F.mb,F.ml,F.cl,F.ok,F.p1,F.p2,F.p3,e1,List.length_append,cu,List.length_cons,List.length_nil,Br.val,Bool.not_true,Nat.add_assoc]
   simp (disch:=omega) [e3,lY,Ot,List.append_assoc,jZ,Br.val,cvD,c_,cvY]
   rfl
 · have e1: decide (2069 < cvY t)=true:=dT' (by omega)
   have e2: decide ((pz t).y≤2069)=false:=dF' c
   rw [e1,e2];rfl
theorem U4: Sound Kx 156 (FF (fun _=>true) fun t=> .str (jC t)):=pS YN fun t _=>by
 show (Bj t).val=some (.str (jC t),[])
 unfold Bj jC oe ey fc
 cases h: fx t
 · rfl
 have F:=adp h
 have dl:=jm (wdP t)
 have dl2:=md (wdP t)
 have e3: decide ((3 : Int)≤((dJ (wdP t)).length: Int))=true:=dT' (by omega)
 obtain ⟨hk,_⟩:=D7 h
 obtain ⟨_,_,⟨d1,d2⟩,_⟩:=cL hk
 have d1': 1≤cvD t:=d1
 have hd: pB (wdP t) (pz t)=(dJ (wdP t)).take 3++32::eD (c_ t)++32::wD (cvD t)++32::aW (pz t)++32::be 4 (cvY t):=rfl
 rw [hd]
 by_cases c: cvD t < 10
 · have e1: decide (cvD t < 10)=true:=dT' c
   have e2: wD (cvD t)=[32,dg (cvD t)]:=by unfold wD;rw [e1];rfl
   have e5: bR (cvD t)=[dg (cvD t)]:=by
    have:=Io (n:=cvD t)
    rw [show cvD t % 10=cvD t by omega] at this
    exact this
   have e6: bD (cvD t)=true:=by unfold bD;rw [dT' (by omega),dT' (by omega)];rfl
   rw [e2]
   simp only [F.wk,F.d0,F.d1,e5,e6,F.mb,F.ml,F.cl,F.ok,F.p1,F.p2,F.p3,e1,e3,Pm,dl,List.length_append,cu,List.length_cons,List.length_nil,Br.val,Bool.not_true]
   simp [List.append_assoc,jZ,Br.val]
 · have e1: decide (cvD t < 10)=false:=dF' c
   have e2: wD (cvD t)=be 2 (cvD t):=by unfold wD;rw [e1];rfl
   rw [e2]
   simp only [F.wk,F.d0,F.d1,F.mb,F.ml,F.cl,F.ok,F.p1,F.p2,F.p3,e1,e3,Pm,dl,List.length_append,cu,List.length_cons,List.length_nil,Br.val,Bool.not_true]
   simp [List.append_assoc,jZ,Br.val]
def ah9 (g: aa→Bool) (p: aa→AV): List AV→List Ob→Br
 | [.str s],[]=> .ite (g s) (.ret (p s) []) .fail
 | _,_=> .fail
def agz (s: aa): Nat→Int→Int
 | 0,_=>0
 | j + 1,m=>bif pD s (eD m) then m else agz s j (m + 1)
theorem afa (s: aa): Lu s=agz s 12 1:=rfl
theorem IA (s: aa) (hl: s.length≤1000000) (K: Int→OR'): ∀ (j: Nat) (m: Int) (n: Nat),m + j=13→1≤m→j < n→iJ n s 12 (m - 1) monL K (K 0)=K (agz s j m):=by
 intro j;induction j with
 | zero=>
   intro m n hj h1 hn;obtain ⟨n,rfl⟩:=bL hn;unfold iJ od
   rw [dF' (by omega)];rfl
 | succ j ih=>
   intro m n hj h1 hn;obtain ⟨n,rfl⟩:=bL hn
   have e1: decide (m - 1 < ((monL.length: Nat): Int))=true:=dT' (by show m - 1 < 12;omega)
   unfold iJ od
   rw [dT' (show m - 1 < 12 by omega),dT' (show 0≤m - 1 by omega),e1,dT' hl,UX h1 (by omega),w64 (n:=m - 1 + 1) (by omega) (by omega)]
   simp only [cond_true]
   have hr:=ih (m + 1) n (by omega) (by omega) (by omega)
   rw [show m + 1 - 1=m - 1 + 1 by omega] at hr
   rw [hr,agz,show m - 1 + 1=m by omega]
   cases pD s (eD m) <;> rfl
theorem Pn: Sound Kx 206 (ah9 (fun s=>decide (s.length≤1000000)) fun s=> .int .i64 (Lu s)):=by
 refine (Iz (φ:=fun s=> .ite (decide (s.length≤1000000)) (.ret (.int .i64 (Lu s)) []) .fail) (fun _=>20) fun s r hv=>?_).of fun args objs r hv=>?_
 · obtain ⟨h1,h2⟩:=ai hv
   cases h2
   unfold yV
   rw [afa]
   exact IA s (of_decide_eq_true h1) (fun x=>some (.int .i64 x,[])) 12 1 20 (by omega) (by omega) (by omega)
 · unfold ah9 at hv;split at hv
   · exact hv
   · cases hv
abbrev fD (code: List Int):=(ofI (aT 5 code (am 3 code 0) (aw 3 (fH code))) ([97,98,44,33]: aa) code (am 5 code (am 3 code 0)) (aw 5 (aw 3 (fH code))))
abbrev mz (code: List Int):=(ofH (aT 5 code (am 3 code 0) (aw 3 (fH code))) ([97,98,44,33]: aa) code (am 5 code (am 3 code 0)) (aw 5 (aw 3 (fH code))))
abbrev mA (code: List Int):=(List.getD (List.set (List.set (List.set (List.replicate 3 ([]: aa)) 0 ([]: aa)) 1 ([87,47]: aa)) 2 ([119,47]: aa)) (Int.toNat (aT 3 code 0 (fH code))) ([]: aa))
abbrev pY (code: List Int):=(ofS (aT 5 code (am 3 code 0) (aw 3 (fH code))) ([97,98,44,33]: aa) code (am 5 code (am 3 code 0)) (aw 5 (aw 3 (fH code))))
abbrev Bk (code: List Int):=(ofS (ad (188 + (aT 2 code (am 9 code (am 3 code (fD code))) (aw 9 (aw 3 (mz code)))))) ([116]: aa) code (am 2 code (am 9 code (am 3 code (fD code)))) (aw 2 (aw 9 (aw 3 (mz code)))))
def IB (code: List Int): Br:=(.ite (decide (code.length≤281474976710656)) (.ite ((okC code 0)&&true) (.ite (decide (((List.length (mA code)) + 1)≤9223372036854775807)) (.ite (okC code (am 3 code 0)) (.ite (((okC code (am 5 code (am 3 code 0)))&&(decide ((aT 5 code (am 3 code 0) (aw 3 (fH code)))≤1000000)))&&true) (.ite (decide (((List.length ((mA code)++([34]: aa))) + (List.length (pY code)))≤9223372036854775807)) (.ite (decide (((List.length (((mA code)++([34]: aa))++(pY code))) + 1)≤9223372036854775807)) (.ite (okC code (fD code)) (.ite (decide ((aT 3 code (fD code) (mz code))=0)) (.ite ((okC code (am 3 code (fD code)))&&(decide ((List.length ((((mA code)++([34]: aa))++(pY code))++([34]: aa)))≤1000000))) (.ret (AV.str (wB ((((mA code)++([34]: aa))++(pY code))++([34]: aa)) code (am 3 code (fD code)) (aw 3 (mz code))).1) []) .fail) (.ite (okC code (am 3 code (fD code))) (.ite (decide ((aT 9 code (am 3 code (fD code)) (aw 3 (mz code)))=0)) (.ite (okC code (am 9 code (am 3 code (fD code)))) (.ite (((okC code (am 2 code (am 9 code (am 3 code (fD code)))))&&(decide ((ad (188 + (aT 2 code (am 9 code (am 3 code (fD code))) (aw 9 (aw 3 (mz code))))))≤1000000)))&&true) (.ite (decide ((1 + (List.length (Bk code)))≤9223372036854775807)) (.ite (decide (((List.length (([34]: aa)++(Bk code))) + 1)≤9223372036854775807)) (.ret (AV.str ((([34]: aa)++(Bk code))++([34]: aa))) []) .fail) .fail) .fail) .fail) (.ret (AV.str ((((mA code)++([34]: aa))++(pY code))++([34]: aa))) [])) .fail)) .fail) .fail) .fail) .fail) .fail) .fail) .fail) .fail)
def ah_: List AV→List Ob→Br
 | [.sh (.int .u8) code],[]=>IB code
 | _,_=> .fail
def Po: SC:=[⟨115,_,ii⟩,⟨71,_,bQ⟩,⟨155,_,FK⟩,⟨146,_,gi⟩,⟨157,_,U3⟩,⟨156,_,U4⟩,⟨193,_,jh⟩]
abbrev eS (at_: Int) (code: List Int) (i h: Int):=(ad (at_ + (List.getD (List.set (List.set (List.set (List.set (List.set (List.set (List.set (List.replicate 7 (0 : Int)) 0 (-100000)) 1 (-3000)) 2 (-60)) 3 (-5)) 4 0) 5 5) 6 60) (Int.toNat (aT 7 code i h)) 0)))
abbrev eT (at_: Int) (code: List Int) (i h: Int):=(List.set (List.set (List.set (List.set (List.replicate 4 ([]: aa)) 0 (ia (eS at_ code i h))) 1 (jB (eS at_ code i h))) 2 (jC (eS at_ code i h))) 3 ([48]: aa))
def gp (at_: Int) (code: List Int) (i h: Int): Br:=(.ite ((okC code i)&&true) (.ite (okC code (am 7 code i)) (.ite (decide ((aT 7 code (am 7 code i) (aw 7 h))=0)) (.ret (AV.agg [.str ([68,97,116,101]: aa),.str (ia (eS at_ code i h))]) [.var [.sh (Ty.int .u8) code,.int .i64 (am 7 code (am 7 code i)),.int .i64 (aw 7 (aw 7 h))]]) (.ite (decide ((aT 7 code (am 7 code i) (aw 7 h))=1)) (.ite ((okC code (am 7 code (am 7 code i)))&&(decide (0 < (List.length (eT at_ code i h))))) (.ret (AV.agg [.str ([69,120,112,105,114,101,115]: aa),.str (List.getD (eT at_ code i h) (Int.toNat (aT ((List.length (eT at_ code i h)): Int) code (am 7 code (am 7 code i)) (aw 7 (aw 7 h)))) ([]: aa))]) [.var [.sh (Ty.int .u8) code,.int .i64 (am ((List.length (eT at_ code i h)): Int) code (am 7 code (am 7 code i))),.int .i64 (aw ((List.length (eT at_ code i h)): Int) (aw 7 (aw 7 h)))]]) .fail) (.ite (decide ((aT 7 code (am 7 code i) (aw 7 h))=2)) (.ret (AV.agg [.str ([76,97,115,116,45,77,111,100,105,102,105,101,100]: aa),.str (ia (eS at_ code i h))]) [.var [.sh (Ty.int .u8) code,.int .i64 (am 7 code (am 7 code i)),.int .i64 (aw 7 (aw 7 h))]]) (.ite (decide ((aT 7 code (am 7 code i) (aw 7 h))=3)) (.ite ((okC code (am 7 code (am 7 code i)))&&true) (.ret (AV.agg [.str ([65,103,101]: aa),.str (List.getD (List.set (List.set (List.set (List.set (List.replicate 4 ([]: aa)) 0 ([48]: aa)) 1 ([55]: aa)) 2 ([120]: aa)) 3 ([57,57,57,57,57,57,57,57,57,57,57]: aa)) (Int.toNat (aT 4 code (am 7 code (am 7 code i)) (aw 7 (aw 7 h)))) ([]: aa))]) [.var [.sh (Ty.int .u8) code,.int .i64 (am 4 code (am 7 code (am 7 code i))),.int .i64 (aw 4 (aw 7 (aw 7 h)))]]) .fail) (.ite (decide ((aT 7 code (am 7 code i) (aw 7 h))=4)) (.ite ((okC code (am 7 code (am 7 code i)))&&true) (.ret (AV.agg [.str ([67,97,99,104,101,45,67,111,110,116,114,111,108]: aa),.str (List.getD (List.set (List.set (List.set (List.set (List.set (List.set (List.set (List.set (List.replicate 8 ([]: aa)) 0 ([109,97,120,45,97,103,101,61,53]: aa)) 1 ([109,97,120,45,97,103,101,61,54,48]: aa)) 2 ([115,45,109,97,120,97,103,101,61,57]: aa)) 3 ([110,111,45,99,97,99,104,101]: aa)) 4 ([109,117,115,116,45,114,101,118,97,108,105,100,97,116,101]: aa)) 5 ([112,117,98,108,105,99]: aa)) 6 ([112,114,105,118,97,116,101]: aa)) 7 ([110,111,45,115,116,111,114,101]: aa)) (Int.toNat (aT 8 code (am 7 code (am 7 code i)) (aw 7 (aw 7 h)))) ([]: aa))]) [.var [.sh (Ty.int .u8) code,.int .i64 (am 8 code (am 7 code (am 7 code i))),.int .i64 (aw 8 (aw 7 (aw 7 h)))]]) .fail) (.ite ((okC code (am 7 code (am 7 code i)))&&true) (.ret (AV.agg [.str (rJ () code (am 7 code (am 7 code i)) (aw 7 (aw 7 h))).1.1,.str (rJ () code (am 7 code (am 7 code i)) (aw 7 (aw 7 h))).1.2]) [.var [.sh (Ty.int .u8) code,.int .i64 (rJ () code (am 7 code (am 7 code i)) (aw 7 (aw 7 h))).2.1,.int .i64 (rJ () code (am 7 code (am 7 code i)) (aw 7 (aw 7 h))).2.2]]) .fail)))))) .fail) .fail)
def yX: List AV→List Ob→Br
 | [.ptr 0 0, .int .i64 at_],[.var [.sh (.int .u8) code, .int .i64 i, .int .i64 h]]=>gp at_ code i h
 | _,_=> .fail
theorem IC: Sound Kx 114 yX:=ae (C:=Po) (O:=O0) Tryz.func114 (by kernel_rfl) fun args objs=>by
 unfold yX;split
 · exact .inr (by kernel_rfl)
 · exact .inl rfl
def Pp: SC:=[⟨115,_,ii⟩,⟨71,_,bQ⟩,⟨155,_,FK⟩,⟨146,_,gi⟩,⟨193,_,jh⟩]
def gq (code: List Int) (i h: Int): Br:=(.ite (okC code i) (.ite (decide ((aT 10 code i h)=0)) (.ite ((okC code (am 10 code i))&&true) (.ret (AV.agg [.str ([73,102,45,78,111,110,101,45,77,97,116,99,104]: aa),.str (List.getD (List.set (List.set (List.set (List.set (List.set (List.set (List.replicate 6 ([]: aa)) 0 ([34,97,34]: aa)) 1 ([87,47,34,98,34]: aa)) 2 ([34,97,34,44,32,34,99,34]: aa)) 3 ([42]: aa)) 4 ([120]: aa)) 5 ([34,113,44,114,34]: aa)) (Int.toNat (aT 6 code (am 10 code i) (aw 10 h))) ([]: aa))]) [.var [.sh (Ty.int .u8) code,.int .i64 (am 6 code (am 10 code i)),.int .i64 (aw 6 (aw 10 h))]]) .fail) (.ite (decide ((aT 10 code i h)=1)) (.ite ((okC code (am 10 code i))&&true) (.ret (AV.agg [.str ([73,102,45,77,111,100,105,102,105,101,100,45,83,105,110,99,101]: aa),.str (ia (ad (1000000 + (List.getD (List.set (List.set (List.set (List.set (List.replicate 4 (0 : Int)) 0 (-100000)) 1 (-60)) 2 0) 3 60) (Int.toNat (aT 4 code (am 10 code i) (aw 10 h))) 0))))]) [.var [.sh (Ty.int .u8) code,.int .i64 (am 4 code (am 10 code i)),.int .i64 (aw 4 (aw 10 h))]]) .fail) (.ite (decide ((aT 10 code i h)=2)) (.ite ((okC code (am 10 code i))&&true) (.ret (AV.agg [.str (List.getD (List.set (List.set (List.set (List.set (List.set (List.replicate 5 ([]: aa)) 0 ([65,117,116,104,111,114,105,122,97,116,105,111,110]: aa)) 1 ([82,97,110,103,101]: aa)) 2 ([73,102,45,77,97,116,99,104]: aa)) 3 ([105,102,45,117,110,109,111,100,105,102,105,101,100,45,115,105,110,99,101]: aa)) 4 ([73,102,45,82,97,110,103,101]: aa)) (Int.toNat (aT 5 code (am 10 code i) (aw 10 h))) ([]: aa)),.str ([122]: aa)]) [.var [.sh (Ty.int .u8) code,.int .i64 (am 5 code (am 10 code i)),.int .i64 (aw 5 (aw 10 h))]]) .fail) (.ite (decide ((aT 10 code i h)=3)) (.ite ((okC code (am 10 code i))&&true) (.ret (AV.agg [.str ([67,97,99,104,101,45,67,111,110,116,114,111,108]: aa),.str (List.getD (List.set (List.set (List.set (List.set (List.set (List.replicate 5 ([]: aa)) 0 ([110,111,45,99,97,99,104,101]: aa)) 1 ([110,111,45,115,116,111,114,101]: aa)) 2 ([109,97,120,45,97,103,101,61,51]: aa)) 3 ([109,97,120,45,115,116,97,108,101,61,53,48]: aa)) 4 ([111,110,108,121,45,105,102,45,99,97,99,104,101,100]: aa)) (Int.toNat (aT 5 code (am 10 code i) (aw 10 h))) ([]: aa))]) [.var [.sh (Ty.int .u8) code,.int .i64 (am 5 code (am 10 code i)),.int .i64 (aw 5 (aw 10 h))]]) .fail) (.ite ((okC code (am 10 code i))&&true) (.ret (AV.agg [.str (rJ () code (am 10 code i) (aw 10 h)).1.1,.str (rJ () code (am 10 code i) (aw 10 h)).1.2]) [.var [.sh (Ty.int .u8) code,.int .i64 (rJ () code (am 10 code i) (aw 10 h)).2.1,.int .i64 (rJ () code (am 10 code i) (aw 10 h)).2.2]]) .fail))))) .fail)
def yY: List AV→List Ob→Br
 | [.ptr 0 0],[.var [.sh (.int .u8) code, .int .i64 i, .int .i64 h]]=>gq code i h
 | _,_=> .fail
theorem ID: Sound Kx 169 yY:=ae (C:=Pp) (O:=O0) Tryz.func169 (by kernel_rfl) fun args objs=>by
 unfold yY;split
 · exact .inr (by kernel_rfl)
 · exact .inl rfl
def Pq (n: Int): Br:=(.ite (decide (n=200)) (.ret (AV.str ([79,75]: aa)) []) (.ite (decide (n=304)) (.ret (AV.str ([78,111,116,32,77,111,100,105,102,105,101,100]: aa)) []) (.ite (decide (n=400)) (.ret (AV.str ([66,97,100,32,82,101,113,117,101,115,116]: aa)) []) (.ite (decide (n=413)) (.ret (AV.str ([67,111,110,116,101,110,116,32,84,111,111,32,76,97,114,103,101]: aa)) []) (.ite (decide (n=431)) (.ret (AV.str ([82,101,113,117,101,115,116,32,72,101,97,100,101,114,32,70,105,101,108,100,115,32,84,111,111,32,76,97,114,103,101]: aa)) []) (.ite (decide (n=502)) (.ret (AV.str ([66,97,100,32,71,97,116,101,119,97,121]: aa)) []) (.ite (decide (n=503)) (.ret (AV.str ([83,101,114,118,105,99,101,32,85,110,97,118,97,105,108,97,98,108,101]: aa)) []) (.ite (decide (n=504)) (.ret (AV.str ([71,97,116,101,119,97,121,32,84,105,109,101,111,117,116]: aa)) []) (.ret (AV.str ([]: aa)) [])))))))))
def FL: List AV→List Ob→Br
 | [.int .i64 n],[]=>Pq n
 | _,_=> .fail
theorem Pr: Sound Kx 229 FL:=ae (C:=[]) (O:=O0) Tryz.func229 (by kernel_rfl) fun args objs=>by
 unfold FL;split
 · exact .inr (by kernel_rfl)
 · exact .inl rfl
end
end Go.Proofs.YtgknmoadpgpdeaaGreatDoor.Ev
namespace Go.Proofs.YtgknmoadpgpdeaaGreatDoor.Ev
open Go Go.RowKit
set_option linter.unusedVariables false
set_option linter.unusedSimpArgs false
set_option linter.defProp false
set_option maxRecDepth 20000
noncomputable section
theorem sI {α: Type} {p: α→Prop} {d: α} (hd: p d): ∀ (l: List α),(∀ x ∈ l,p x)→∀ k,p (l.getD k d)
 | [],_,k=>by simpa using hd
 | a::l,h,0=>by simpa using h a (List.mem_cons_self ..)
 | a::l,h,k + 1=>by simpa using sI hd l (fun x hx=>h x (List.mem_cons_of_mem _ hx)) k
theorem FM {code: List Int} {P: List UInt8×List UInt8→Prop} (a b: List UInt8) (i' h': Int) (hc: okC code i'=true) (hP: P (a,b)): Dra code fdA (fun _=>[]) P (.ret (.agg [.str a, .str b]) [.var [.sh (.int .u8) code, .int .i64 i', .int .i64 h']]):=⟨(a,b),i',h',rfl,hc,hP⟩
theorem FN {code: List Int} {P: List UInt8×List UInt8→Prop} (f: List UInt8×List UInt8) (i' h': Int) (hc: okC code i'=true) (hP: P f): Dra code fdA (fun _=>[]) P (.ret (.agg [.str f.1, .str f.2]) [.var [.sh (.int .u8) code, .int .i64 i', .int .i64 h']]):=⟨f,i',h',rfl,hc,hP⟩
theorem afb {a b: List UInt8} (h: a.headD 0≠67∧a.headD 0≠99): cq (a,b):=fun _=> .inl h
theorem U5 {a b: List UInt8} (h: (34 : UInt8) ∉ b): cq (a,b):=fun _=> .inr h
theorem acB (code: List Int) (i h: Int) (hc: okC code i=true): Dra code fdA (fun _=>[]) cq (gq code i h):=by
 unfold gq
 obtain ⟨f1,f2⟩:=Lq (aw 10 h) (ar (n:=10) hc)
 repeat' (first | refine tJ ?_ ?_ | refine tI (fun _=>?_) (fun _=>?_) | refine FN _ _ _ ?_ ?_ | refine FM _ _ _ _ ?_ ?_)
 all_goals first
  | ((repeat (first | exact hc | exact f1 | with_reducible apply ar | with_reducible apply bg | with_reducible apply au));done)
  | exact f2
  | (simp only [Bool.and_true,List.length_cons,List.length_nil,List.length_set,List.length_replicate];(repeat (first | exact hc | exact f1 | with_reducible apply ar | with_reducible apply bg | with_reducible apply au));done)
  | (simp only [Bool.and_eq_true,decide_eq_true_eq,List.length_cons,List.length_nil,List.length_set,List.length_replicate];refine ⟨?_,by omega⟩;(repeat (first | exact hc | exact f1 | with_reducible apply ar | with_reducible apply bg | with_reducible apply au));done)
  | exact U5 (by decide)
  | (exact U5 (sI (p:=fun v: List UInt8=>(34 : UInt8) ∉ v) (by decide) _ (by decide) _))
  | (refine afb ?_;constructor <;> decide)
  | (refine rf ?_;simp only [List.length_cons,List.length_nil];omega)
  | skip
 all_goals trace_state
theorem acC (at_: Int) (code: List Int) (i h: Int) (hc: okC code i=true): Dra code fdA (fun _=>[]) cq (gp at_ code i h):=by
 unfold gp eT eS
 obtain ⟨f1,f2⟩:=Lq (aw 7 (aw 7 h)) (ar (n:=7) (ar (n:=7) hc))
 repeat' (first | refine tJ ?_ ?_ | refine tI (fun _=>?_) (fun _=>?_) | refine FN _ _ _ ?_ ?_ | refine FM _ _ _ _ ?_ ?_)
 all_goals first
  | ((repeat (first | exact hc | exact f1 | with_reducible apply ar | with_reducible apply bg | with_reducible apply au));done)
  | exact f2
  | (simp only [Bool.and_true,List.length_cons,List.length_nil,List.length_set,List.length_replicate];(repeat (first | exact hc | exact f1 | with_reducible apply ar | with_reducible apply bg | with_reducible apply au));done)
  | (simp only [Bool.and_eq_true,decide_eq_true_eq,List.length_cons,List.length_nil,List.length_set,List.length_replicate];refine ⟨?_,by omega⟩;(repeat (first | exact hc | exact f1 | with_reducible apply ar | with_reducible apply bg | with_reducible apply au));done)
  | exact U5 (by decide)
  | (exact U5 (sI (p:=fun v: List UInt8=>(34 : UInt8) ∉ v) (by decide) _ (by decide) _))
  | (refine afb ?_;constructor <;> decide)
  | (refine rf ?_;simp only [List.length_cons,List.length_nil];omega)
  | skip
 all_goals trace_state
def f14_dr:=zI (α:=List UInt8×List UInt8) (fun (_: Unit) code i h=>gq code i h) (fun _=>true) fdA (fun _=>[]) ([],[]) (fun _ f=>cq f) (fun _ code i h hc _=>acB code i h hc)
def Wc:=f14_dr.choose
def ahg: List AV→List Ob→Br:=drQ un0 (fun _=>true) fdA (fun _=>[]) Wc
theorem FO: Sound Kx 169 ahg:=
 zJ ID (fun (_: Unit) code i h=>gq code i h) (fun l b code i h hl=>by rw [tH hl];rfl) fun b code i h hc hg=>(f14_dr.choose_spec b code i h hc hg).1
theorem afc {code: List Int} {i: Int} (h: Int) (hc: okC code i=true): okC code (Wc () code i h).2.1=true∧cq (Wc () code i h).1:=(f14_dr.choose_spec () code i h hc rfl).2
def f13_dr:=zI (α:=List UInt8×List UInt8) (fun (n: Int) code i h=>gp n code i h) (fun _=>true) fdA (fun _=>[]) ([],[]) (fun _ f=>cq f) (fun n code i h hc _=>acC n code i h hc)
def Wd:=f13_dr.choose
def ahh: List AV→List Ob→Br:=drQ unI (fun _=>true) fdA (fun _=>[]) Wd
theorem FP: Sound Kx 114 ahh:=
 zJ IC (fun (n: Int) code i h=>gp n code i h) (fun l b code i h hl=>by rw [adY hl];rfl) fun b code i h hc hg=>(f13_dr.choose_spec b code i h hc hg).1
theorem afd (n: Int) {code: List Int} {i: Int} (h: Int) (hc: okC code i=true): okC code (Wd n code i h).2.1=true∧cq (Wd n code i h).1:=(f13_dr.choose_spec n code i h hc rfl).2
def pZ: Opt:={ live:=[(9,[0,2,4,6]),(5,[0,2,3,4,5])],outs:=[(9,[2,4]),(5,[0,2,4])] }
def l13entry_C: SC:=[⟨71,_,bQ⟩,⟨72,_,tG⟩,⟨115,_,ii⟩,⟨146,_,gi⟩,⟨114,_,FP⟩,⟨193,_,jh⟩]
def vC (aZ bi: Int) (a7: (List Int)) (dm fe: Int) (iS: aa) (iT eG: Int) (mC we: aa) (gH: Int) (gI: aa) (gJ: Bool) (qb: aa) (qc qd: (List Fd)) (qe: aa) (qf qg: Int) (qh qi: aa) (qj: Int) (qk: aa) (ql: Bool) (qm: aa) (qn mK: (List Fd)) (kR5: Int→Int→(List Int)→Int→Int→aa→Int→Int→aa→aa→Int→aa→Bool→aa→(List Fd)→(List Fd)→aa→Int→Int→aa→aa→Int→aa→Bool→aa→(List Fd)→(List Fd)→OR') (eg: (List Int)→Int→Int→aa→Int→Int→aa→aa→Int→aa→Bool→aa→(List Fd)→(List Fd)→aa→Int→Int→aa→aa→Int→aa→Bool→aa→(List Fd)→(List Fd)→OR'): OR':=
 (bif (decide (0 < bi)) then (bif ((okC a7 dm)&&true) then (bif (decide (((mK.length + (List.length (List.set (List.replicate 1 (([]: aa),([]: aa))) 0 ((Wd aZ a7 dm fe).1.1,(Wd aZ a7 dm fe).1.2)))) * 32)≤140737488355328)) then (kR5 aZ (ad (bi - 1)) a7 (Wd aZ a7 dm fe).2.1 (Wd aZ a7 dm fe).2.2 iS iT eG mC we gH gI gJ qb qc qd qe qf qg qh qi qj qk ql qm qn (mK++(List.set (List.replicate 1 (([]: aa),([]: aa))) 0 ((Wd aZ a7 dm fe).1.1,(Wd aZ a7 dm fe).1.2)))) else none) else none) else (eg a7 dm fe iS iT eG mC we gH gI gJ qb qc qd qe qf qg qh qi qj qk ql qm qn mK))
def gr: Nat→Int→Int→(List Int)→Int→Int→aa→Int→Int→aa→aa→Int→aa→Bool→aa→(List Fd)→(List Fd)→aa→Int→Int→aa→aa→Int→aa→Bool→aa→(List Fd)→(List Fd)→((List Int)→Int→Int→aa→Int→Int→aa→aa→Int→aa→Bool→aa→(List Fd)→(List Fd)→aa→Int→Int→aa→aa→Int→aa→Bool→aa→(List Fd)→(List Fd)→OR')→OR'
 | 0,_,_,_,_,_,_,_,_,_,_,_,_,_,_,_,_,_,_,_,_,_,_,_,_,_,_,_,_=>none
 | n + 1,aZ,bi,a7,dm,fe,iS,iT,eG,mC,we,gH,gI,gJ,qb,qc,qd,qe,qf,qg,qh,qi,qj,qk,ql,qm,qn,mK,eg=>vC aZ bi a7 dm fe iS iT eG mC we gH gI gJ qb qc qd qe qf qg qh qi qj qk ql qm qn mK (fun aZ bi a7 dm fe iS iT eG mC we gH gI gJ qb qc qd qe qf qg qh qi qj qk ql qm qn mK=>gr n aZ bi a7 dm fe iS iT eG mC we gH gI gJ qb qc qd qe qf qg qh qi qj qk ql qm qn mK eg) eg
abbrev l13entry_p5: SP:=⟨59,[0,2,3,4,5],[(.v (.ptr 0 0)),(.v (.ptr 192 0)),(.v (.i .i64)),(.v (.ptr 320 0)),(.v (.i .i64))],[(0, .var [(.sh (Ty.int .u8)),(.i .i64),(.i .i64)]),(192, .var [.s,(.i .i64),(.i .i64),(.ref 196 0), .s, .s,(.i .i64), .s, .b,(.ref 202 0), .s]),(196, .arr (Ty.pair Ty.str Ty.str) 0 false),(202, .arr (Ty.pair Ty.str Ty.str) 0 false),(320, .var [.s,(.i .i64),(.i .i64),(.ref 324 0), .s, .s,(.i .i64), .s, .b,(.ref 330 0), .s]),(324, .arr (Ty.pair Ty.str Ty.str) 0 false),(330, .arr (Ty.pair Ty.str Ty.str) 0 false)]⟩
noncomputable def vD: Code:=aC (aG Tryz.f150) [1,1,1,1,0,1,0,0]
def vE (f: ((List Int)→Int→Int→aa→Int→Int→aa→aa→Int→aa→Bool→aa→(List Fd)→(List Fd)→aa→Int→Int→aa→aa→Int→aa→Bool→aa→(List Fd)→(List Fd)→OR')→OR') (k: KT): OR':=f (fun av bY cW g_ gu eA gv bC vZ v6 mE mF mG Jc Jd Je Jf Jg Jh Ji Jj Jk Jl Jm Jn=>k (Ex.exit 0) ((St.mk (aF 0 59 [(0,(AV.ptr 0 0)),(2,(AV.ptr 192 0)),(4,(AV.ptr 320 0))]) ((0,(Ob.var [.sh (Ty.int .u8) av,.int .i64 bY,.int .i64 cW]))::((192,(Ob.var [.str g_,.int .i64 gu,.int .i64 eA,.ref 196 0,.str gv,.str bC,.int .i64 vZ,.str v6,.bool mE,.ref 202 0,.str mF]))::((196,(Ob.arr (Ty.pair Ty.str Ty.str) 0 false mG))::((202,(Ob.arr (Ty.pair Ty.str Ty.str) 0 false Jc))::((320,(Ob.var [.str Jd,.int .i64 Je,.int .i64 Jf,.ref 324 0,.str Jg,.str Jh,.int .i64 Ji,.str Jj,.bool Jk,.ref 330 0,.str Jl]))::((324,(Ob.arr (Ty.pair Ty.str Ty.str) 0 false Jm))::((330,(Ob.arr (Ty.pair Ty.str Ty.str) 0 false Jn))::([]: (List (Nat×(Ob))))))))))))))
def vF (n: Nat) (d: l13entry_p5.D): KT→OR':=vE (gr n d.1.2.2.1 d.1.2.2.2.2.1 d.2.1.1 d.2.1.2.1 d.2.1.2.2.1 d.2.2.1.1 d.2.2.1.2.1 d.2.2.1.2.2.1 d.2.2.1.2.2.2.2.1 d.2.2.1.2.2.2.2.2.1 d.2.2.1.2.2.2.2.2.2.1 d.2.2.1.2.2.2.2.2.2.2.1 d.2.2.1.2.2.2.2.2.2.2.2.1 d.2.2.1.2.2.2.2.2.2.2.2.2.2.1 d.2.2.2.1 d.2.2.2.2.1 d.2.2.2.2.2.1.1 d.2.2.2.2.2.1.2.1 d.2.2.2.2.2.1.2.2.1 d.2.2.2.2.2.1.2.2.2.2.1 d.2.2.2.2.2.1.2.2.2.2.2.1 d.2.2.2.2.2.1.2.2.2.2.2.2.1 d.2.2.2.2.2.1.2.2.2.2.2.2.2.1 d.2.2.2.2.2.1.2.2.2.2.2.2.2.2.1 d.2.2.2.2.2.1.2.2.2.2.2.2.2.2.2.2.1 d.2.2.2.2.2.2.1 d.2.2.2.2.2.2.2.1)
def vG (PQ: Int) (sR: (List Int)) (Cb Gm: Int) (PF: aa) (PG PH: Int) (PI PJ: aa) (PK: Int) (qo: aa) (qp: Bool) (qq: aa) (qr qt: (List Fd)) (qu: aa) (qv qw: Int) (qx qy: aa) (qz: Int) (qC: aa) (qD: Bool) (qE: aa) (mL qF: (List Fd)) (kR9: Int→(List Int)→Int→Int→aa→Int→Int→aa→aa→Int→aa→Bool→aa→(List Fd)→(List Fd)→aa→Int→Int→aa→aa→Int→aa→Bool→aa→(List Fd)→(List Fd)→OR') (agB: (List Int)→Int→Int→aa→Int→Int→aa→aa→Int→aa→Bool→aa→(List Fd)→(List Fd)→aa→Int→Int→aa→aa→Int→aa→Bool→aa→(List Fd)→(List Fd)→OR'): OR':=
 (bif (decide (0 < PQ)) then (bif ((okC sR Cb)&&true) then (bif (decide (((mL.length + (List.length (List.set (List.replicate 1 (([]: aa),([]: aa))) 0 ((rJ () sR Cb Gm).1.1,(rJ () sR Cb Gm).1.2)))) * 32)≤140737488355328)) then (kR9 (ad (PQ - 1)) sR (rJ () sR Cb Gm).2.1 (rJ () sR Cb Gm).2.2 PF PG PH PI PJ PK qo qp qq qr qt qu qv qw qx qy qz qC qD qE (mL++(List.set (List.replicate 1 (([]: aa),([]: aa))) 0 ((rJ () sR Cb Gm).1.1,(rJ () sR Cb Gm).1.2))) qF) else none) else none) else (agB sR Cb Gm PF PG PH PI PJ PK qo qp qq qr qt qu qv qw qx qy qz qC qD qE mL qF))
def gt: Nat→Int→(List Int)→Int→Int→aa→Int→Int→aa→aa→Int→aa→Bool→aa→(List Fd)→(List Fd)→aa→Int→Int→aa→aa→Int→aa→Bool→aa→(List Fd)→(List Fd)→((List Int)→Int→Int→aa→Int→Int→aa→aa→Int→aa→Bool→aa→(List Fd)→(List Fd)→aa→Int→Int→aa→aa→Int→aa→Bool→aa→(List Fd)→(List Fd)→OR')→OR'
 | 0,_,_,_,_,_,_,_,_,_,_,_,_,_,_,_,_,_,_,_,_,_,_,_,_,_,_,_=>none
 | n + 1,PQ,sR,Cb,Gm,PF,PG,PH,PI,PJ,PK,qo,qp,qq,qr,qt,qu,qv,qw,qx,qy,qz,qC,qD,qE,mL,qF,agB=>vG PQ sR Cb Gm PF PG PH PI PJ PK qo qp qq qr qt qu qv qw qx qy qz qC qD qE mL qF (fun PQ sR Cb Gm PF PG PH PI PJ PK qo qp qq qr qt qu qv qw qx qy qz qC qD qE mL qF=>gt n PQ sR Cb Gm PF PG PH PI PJ PK qo qp qq qr qt qu qv qw qx qy qz qC qD qE mL qF agB) agB
abbrev l13entry_p9: SP:=⟨59,[0,2,4,6],[(.v (.ptr 0 0)),(.v (.ptr 192 0)),(.v (.ptr 320 0)),(.v (.i .i64))],[(0, .var [(.sh (Ty.int .u8)),(.i .i64),(.i .i64)]),(192, .var [.s,(.i .i64),(.i .i64),(.ref 196 0), .s, .s,(.i .i64), .s, .b,(.ref 202 0), .s]),(196, .arr (Ty.pair Ty.str Ty.str) 0 false),(202, .arr (Ty.pair Ty.str Ty.str) 0 false),(320, .var [.s,(.i .i64),(.i .i64),(.ref 324 0), .s, .s,(.i .i64), .s, .b,(.ref 330 0), .s]),(324, .arr (Ty.pair Ty.str Ty.str) 0 false),(330, .arr (Ty.pair Ty.str Ty.str) 0 false)]⟩
noncomputable def vH: Code:=aC (aG Tryz.f150) [1,1,1,1,1,0,1,0,0]
def vI (f: ((List Int)→Int→Int→aa→Int→Int→aa→aa→Int→aa→Bool→aa→(List Fd)→(List Fd)→aa→Int→Int→aa→aa→Int→aa→Bool→aa→(List Fd)→(List Fd)→OR')→OR') (k: KT): OR':=f (fun VV VW VX aaR aaS aaT aaU aaV aaW aaX VY VZ V0 V1 Jo Jp Jq Jr Js Jt Ju Jv Jw Jx Jy=>k (Ex.exit 2) ((St.mk (aF 0 59 [(2,(AV.ptr 192 0)),(4,(AV.ptr 320 0))]) ((0,(Ob.var [.sh (Ty.int .u8) VV,.int .i64 VW,.int .i64 VX]))::((192,(Ob.var [.str aaR,.int .i64 aaS,.int .i64 aaT,.ref 196 0,.str aaU,.str aaV,.int .i64 aaW,.str aaX,.bool VY,.ref 202 0,.str VZ]))::((196,(Ob.arr (Ty.pair Ty.str Ty.str) 0 false V0))::((202,(Ob.arr (Ty.pair Ty.str Ty.str) 0 false V1))::((320,(Ob.var [.str Jo,.int .i64 Jp,.int .i64 Jq,.ref 324 0,.str Jr,.str Js,.int .i64 Jt,.str Ju,.bool Jv,.ref 330 0,.str Jw]))::((324,(Ob.arr (Ty.pair Ty.str Ty.str) 0 false Jx))::((330,(Ob.arr (Ty.pair Ty.str Ty.str) 0 false Jy))::([]: (List (Nat×(Ob))))))))))))))
def vJ (n: Nat) (d: l13entry_p9.D): KT→OR':=vI (gt n d.1.2.2.2.1 d.2.1.1 d.2.1.2.1 d.2.1.2.2.1 d.2.2.1.1 d.2.2.1.2.1 d.2.2.1.2.2.1 d.2.2.1.2.2.2.2.1 d.2.2.1.2.2.2.2.2.1 d.2.2.1.2.2.2.2.2.2.1 d.2.2.1.2.2.2.2.2.2.2.1 d.2.2.1.2.2.2.2.2.2.2.2.1 d.2.2.1.2.2.2.2.2.2.2.2.2.2.1 d.2.2.2.1 d.2.2.2.2.1 d.2.2.2.2.2.1.1 d.2.2.2.2.2.1.2.1 d.2.2.2.2.2.1.2.2.1 d.2.2.2.2.2.1.2.2.2.2.1 d.2.2.2.2.2.1.2.2.2.2.2.1 d.2.2.2.2.2.1.2.2.2.2.2.2.1 d.2.2.2.2.2.1.2.2.2.2.2.2.2.1 d.2.2.2.2.2.1.2.2.2.2.2.2.2.2.1 d.2.2.2.2.2.1.2.2.2.2.2.2.2.2.2.2.1 d.2.2.2.2.2.2.1 d.2.2.2.2.2.2.2.1)
def p7 (N: Nat): Lam:=bH [⟨5,l13entry_p5,vF N⟩,⟨9,l13entry_p9,vJ N⟩]
theorem FQ (N: Nat): OkL Kx l13entry_C.s pZ 1 N (p7 N) vD:=okL l13entry_p5 (vF) (fun d kR=>vE (vC d.1.2.2.1 d.1.2.2.2.2.1 d.2.1.1 d.2.1.2.1 d.2.1.2.2.1 d.2.2.1.1 d.2.2.1.2.1 d.2.2.1.2.2.1 d.2.2.1.2.2.2.2.1 d.2.2.1.2.2.2.2.2.1 d.2.2.1.2.2.2.2.2.2.1 d.2.2.1.2.2.2.2.2.2.2.1 d.2.2.1.2.2.2.2.2.2.2.2.1 d.2.2.1.2.2.2.2.2.2.2.2.2.2.1 d.2.2.2.1 d.2.2.2.2.1 d.2.2.2.2.2.1.1 d.2.2.2.2.2.1.2.1 d.2.2.2.2.2.1.2.2.1 d.2.2.2.2.2.1.2.2.2.2.1 d.2.2.2.2.2.1.2.2.2.2.2.1 d.2.2.2.2.2.1.2.2.2.2.2.2.1 d.2.2.2.2.2.1.2.2.2.2.2.2.2.1 d.2.2.2.2.2.1.2.2.2.2.2.2.2.2.1 d.2.2.2.2.2.1.2.2.2.2.2.2.2.2.2.2.1 d.2.2.2.2.2.2.1 d.2.2.2.2.2.2.2.1 (fun aZ bi a7 dm fe iS iT eG mC we gH gI gJ qb qc qd qe qf qg qh qi qj qk ql qm qn mK=>kR (((),(),aZ,(),bi,()),((a7,dm,fe,()),(iS,iT,eG,(),mC,we,gH,gI,gJ,(),qb,()),qc,qd,(qe,qf,qg,(),qh,qi,qj,qk,ql,(),qm,()),qn,mK,()))))) (fun _ _=>by kernel_rfl) (fun _ _ _=>by kernel_rfl) (fun _ _=>by kernel_rfl) (fun _ _ _ _=>by kernel_rfl) (al (l':=[]) (by kernel_rfl) trivial)
theorem FR (N: Nat): OkL Kx l13entry_C.s pZ 1 N (p7 N) vH:=okL l13entry_p9 (vJ) (fun d kR=>vI (vG d.1.2.2.2.1 d.2.1.1 d.2.1.2.1 d.2.1.2.2.1 d.2.2.1.1 d.2.2.1.2.1 d.2.2.1.2.2.1 d.2.2.1.2.2.2.2.1 d.2.2.1.2.2.2.2.2.1 d.2.2.1.2.2.2.2.2.2.1 d.2.2.1.2.2.2.2.2.2.2.1 d.2.2.1.2.2.2.2.2.2.2.2.1 d.2.2.1.2.2.2.2.2.2.2.2.2.2.1 d.2.2.2.1 d.2.2.2.2.1 d.2.2.2.2.2.1.1 d.2.2.2.2.2.1.2.1 d.2.2.2.2.2.1.2.2.1 d.2.2.2.2.2.1.2.2.2.2.1 d.2.2.2.2.2.1.2.2.2.2.2.1 d.2.2.2.2.2.1.2.2.2.2.2.2.1 d.2.2.2.2.2.1.2.2.2.2.2.2.2.1 d.2.2.2.2.2.1.2.2.2.2.2.2.2.2.1 d.2.2.2.2.2.1.2.2.2.2.2.2.2.2.2.2.1 d.2.2.2.2.2.2.1 d.2.2.2.2.2.2.2.1 (fun PQ sR Cb Gm PF PG PH PI PJ PK qo qp qq qr qt qu qv qw qx qy qz qC qD qE mL qF=>kR (((),(),(),PQ,()),((sR,Cb,Gm,()),(PF,PG,PH,(),PI,PJ,PK,qo,qp,(),qq,()),qr,qt,(qu,qv,qw,(),qx,qy,qz,qC,qD,(),qE,()),mL,qF,()))))) (fun _ _=>by kernel_rfl) (fun _ _ _=>by kernel_rfl) (fun _ _=>by kernel_rfl) (fun _ _ _ _=>by kernel_rfl) (al (l':=[]) (by kernel_rfl) trivial)
abbrev cG (code h i):=(ofI (aT 2 code (am 30 code i) (aw 30 h)) ([97,98]: aa) code (am 2 code (am 30 code i)) (aw 2 (aw 30 h)))
abbrev eU (code h i):=(ofH (aT 2 code (am 30 code i) (aw 30 h)) ([97,98]: aa) code (am 2 code (am 30 code i)) (aw 2 (aw 30 h)))
def ef (N: Nat) (code: List Int) (i h: Int): OR':=(bif (okC code i) then (bif (okC code (am 30 code i)) then (bif (((okC code (am 2 code (am 30 code i)))&&(decide ((aT 2 code (am 30 code i) (aw 30 h))≤1000000)))&&true) then (bif (decide ((17 + (List.length (ofS (aT 2 code (am 30 code i) (aw 30 h)) ([97,98]: aa) code (am 2 code (am 30 code i)) (aw 2 (aw 30 h)))))≤9223372036854775807)) then (bif (okC code (cG code h i)) then (bif ((okC code (am 4 code (cG code h i)))&&true) then (bif ((okC code (am 6 code (am 4 code (cG code h i))))&&true) then (bif (okC code (am 3 code (am 6 code (am 4 code (cG code h i))))) then (gr N (ad (1000000 + (aT 30 code i h))) (aT 6 code (am 3 code (am 6 code (am 4 code (cG code h i)))) (aw 3 (aw 6 (aw 4 (eU code h i))))) code (am 6 code (am 3 code (am 6 code (am 4 code (cG code h i))))) (aw 6 (aw 3 (aw 6 (aw 4 (eU code h i))))) ([]: aa) 0 0 ([]: aa) ([]: aa) 0 ([]: aa) false ([]: aa) ([]: (List Fd)) ([]: (List Fd)) (([104,116,116,112,58,47,47,97,46,101,120,97,109,112,108,101,47]: aa)++(ofS (aT 2 code (am 30 code i) (aw 30 h)) ([97,98]: aa) code (am 2 code (am 30 code i)) (aw 2 (aw 30 h)))) (ad ((ad (1000000 + (aT 30 code i h))) - (aT 4 code (cG code h i) (eU code h i)))) (ad (1000000 + (aT 30 code i h))) ([]: aa) ([]: aa) (List.getD (List.set (List.set (List.set (List.set (List.set (List.set (List.replicate 6 (0 : Int)) 0 200) 1 200) 2 200) 3 404) 4 302) 5 500) (Int.toNat (aT 6 code (am 4 code (cG code h i)) (aw 4 (eU code h i)))) 0) ([]: aa) false (List.getD (List.set (List.set (List.set (List.replicate 3 ([]: aa)) 0 ([]: aa)) 1 ([111,110,101]: aa)) 2 ([116,119,111]: aa)) (Int.toNat (aT 3 code (am 6 code (am 4 code (cG code h i))) (aw 6 (aw 4 (eU code h i))))) ([]: aa)) ([]: (List Fd)) ([]: (List Fd)) (fun av bY cW g_ gu eA gv bC vZ v6 mE mF mG Jc Jd Je Jf Jg Jh Ji Jj Jk Jl Jm Jn=>(bif (okC av bY) then (gt N (aT 3 av bY cW) av (am 3 av bY) (aw 3 cW) g_ gu eA gv bC vZ v6 mE mF mG Jc Jd Je Jf Jg Jh Ji Jj Jk Jl Jm Jn (fun VV VW VX aaR aaS aaT aaU aaV aaW aaX VY VZ V0 V1 Jo Jp Jq Jr Js Jt Ju Jv Jw Jx Jy=>(some ((AV.agg [.str Jo,.int .i64 Jp,.int .i64 Jq,.ref 1 0,.str Jr,.str Js,.int .i64 Jt,.str Ju,.bool Jv,.ref 2 0,.str Jw]),[.var [.sh (Ty.int .u8) VV,.int .i64 VW,.int .i64 VX],.arr (Ty.pair Ty.str Ty.str) 0 false Jx,.arr (Ty.pair Ty.str Ty.str) 0 false Jy])))) else none))) else none) else none) else none) else none) else none) else none) else none) else none)
def rx (φ: (List Int)→Int→Int→Br): List AV→List Ob→Br
 | [.ptr 0 0],[.var [.sh (.int .u8) code, .int .i64 i, .int .i64 h]]=>φ code i h
 | _,_=> .fail
theorem Bl {φ: (List Int)→Int→Int→Br} (fu: (List Int)→Int→Int→Nat) (hv: ∀ code i h res_,(φ code i h).val=some res_→ef (fu code i h) code i h=some res_): Sound Kx 150 (rx φ):=ap (C:=l13entry_C) (O:=pZ) Tryz.func150 (by kernel_rfl) fun args objs=>by
 unfold rx;split
 · rename_i code i h;exact .inr fun _ hyp_=>aO (Λ:=p7 (fu code i h)) (by kernel_rfl) (al (l':=[vD,vH]) (by kernel_rfl) ⟨FQ _,FR _,trivial⟩) (by kernel_rfl) (hv code i h _ hyp_)
 · exact .inl rfl
def MV: Opt:={ live:=[(3,[0,2,3,4])],outs:=[(3,[2,3])] }
def l14req_C: SC:=[⟨146,_,gi⟩,⟨71,_,bQ⟩,⟨72,_,tG⟩,⟨169,_,FO⟩]
def FS (aI: Int) (aA: (List Int)) (bp dA: Int) (fI fU: aa) (gG: Int) (jv: aa) (jE: Bool) (jF: aa) (dn: (List Fd)) (dp dq: aa) (eY: Int) (eZ: aa) (e8: Bool) (e9: aa) (d8: (List Fd)) (kR3: Int→(List Int)→Int→Int→aa→aa→Int→aa→Bool→aa→(List Fd)→aa→aa→Int→aa→Bool→aa→(List Fd)→OR') (ei: (List Int)→Int→Int→aa→aa→Int→aa→Bool→aa→(List Fd)→aa→aa→Int→aa→Bool→aa→(List Fd)→OR'): OR':=
 (bif (decide (0 < aI)) then (bif ((okC aA bp)&&true) then (bif (decide (((d8.length + (List.length (List.set (List.replicate 1 (([]: aa),([]: aa))) 0 ((Wc () aA bp dA).1.1,(Wc () aA bp dA).1.2)))) * 32)≤140737488355328)) then (kR3 (ad (aI - 1)) aA (Wc () aA bp dA).2.1 (Wc () aA bp dA).2.2 fI fU gG jv jE jF dn dp dq eY eZ e8 e9 (d8++(List.set (List.replicate 1 (([]: aa),([]: aa))) 0 ((Wc () aA bp dA).1.1,(Wc () aA bp dA).1.2)))) else none) else none) else (ei aA bp dA fI fU gG jv jE jF dn dp dq eY eZ e8 e9 d8))
def j0: Nat→Int→(List Int)→Int→Int→aa→aa→Int→aa→Bool→aa→(List Fd)→aa→aa→Int→aa→Bool→aa→(List Fd)→((List Int)→Int→Int→aa→aa→Int→aa→Bool→aa→(List Fd)→aa→aa→Int→aa→Bool→aa→(List Fd)→OR')→OR'
 | 0,_,_,_,_,_,_,_,_,_,_,_,_,_,_,_,_,_,_,_=>none
 | n + 1,aI,aA,bp,dA,fI,fU,gG,jv,jE,jF,dn,dp,dq,eY,eZ,e8,e9,d8,ei=>FS aI aA bp dA fI fU gG jv jE jF dn dp dq eY eZ e8 e9 d8 (fun aI aA bp dA fI fU gG jv jE jF dn dp dq eY eZ e8 e9 d8=>j0 n aI aA bp dA fI fU gG jv jE jF dn dp dq eY eZ e8 e9 d8 ei) ei
abbrev l14req_p3: SP:=⟨28,[0,2,3,4],[(.v (.ptr 0 0)),(.v (.ptr 192 0)),(.v (.ptr 256 0)),(.v (.i .i64))],[(0, .var [(.sh (Ty.int .u8)),(.i .i64),(.i .i64)]),(192, .var [.s, .s,(.i .i64), .s, .b,(.ref 198 0), .s]),(198, .arr (Ty.pair Ty.str Ty.str) 0 false),(256, .var [.s, .s,(.i .i64), .s, .b,(.ref 262 0), .s]),(262, .arr (Ty.pair Ty.str Ty.str) 0 false)]⟩
noncomputable def FT: Code:=aC (aG Tryz.f97) [1,1,0,1,0,0]
def FU (f: ((List Int)→Int→Int→aa→aa→Int→aa→Bool→aa→(List Fd)→aa→aa→Int→aa→Bool→aa→(List Fd)→OR')→OR') (k: KT): OR':=f (fun ab af ah iO o3 o4 o5 km o6 o7 bc bd gx mM dI qG bq=>k (Ex.exit 0) ((St.mk (aF 0 28 [(2,(AV.ptr 192 0)),(3,(AV.ptr 256 0))]) ((0,(Ob.var [.sh (Ty.int .u8) ab,.int .i64 af,.int .i64 ah]))::((192,(Ob.var [.str iO,.str o3,.int .i64 o4,.str o5,.bool km,.ref 198 0,.str o6]))::((198,(Ob.arr (Ty.pair Ty.str Ty.str) 0 false o7))::((256,(Ob.var [.str bc,.str bd,.int .i64 gx,.str mM,.bool dI,.ref 262 0,.str qG]))::((262,(Ob.arr (Ty.pair Ty.str Ty.str) 0 false bq))::([]: (List (Nat×(Ob))))))))))))
def FV (n: Nat) (d: l14req_p3.D): KT→OR':=FU (j0 n d.1.2.2.2.1 d.2.1.1 d.2.1.2.1 d.2.1.2.2.1 d.2.2.1.1 d.2.2.1.2.1 d.2.2.1.2.2.1 d.2.2.1.2.2.2.1 d.2.2.1.2.2.2.2.1 d.2.2.1.2.2.2.2.2.2.1 d.2.2.2.1 d.2.2.2.2.1.1 d.2.2.2.2.1.2.1 d.2.2.2.2.1.2.2.1 d.2.2.2.2.1.2.2.2.1 d.2.2.2.2.1.2.2.2.2.1 d.2.2.2.2.1.2.2.2.2.2.2.1 d.2.2.2.2.2.1)
def MW (N: Nat): Lam:=bH [⟨3,l14req_p3,FV N⟩]
theorem Pt (N: Nat): OkL Kx l14req_C.s MV 1 N (MW N) FT:=okL l14req_p3 (FV) (fun d kR=>FU (FS d.1.2.2.2.1 d.2.1.1 d.2.1.2.1 d.2.1.2.2.1 d.2.2.1.1 d.2.2.1.2.1 d.2.2.1.2.2.1 d.2.2.1.2.2.2.1 d.2.2.1.2.2.2.2.1 d.2.2.1.2.2.2.2.2.2.1 d.2.2.2.1 d.2.2.2.2.1.1 d.2.2.2.2.1.2.1 d.2.2.2.2.1.2.2.1 d.2.2.2.2.1.2.2.2.1 d.2.2.2.2.1.2.2.2.2.1 d.2.2.2.2.1.2.2.2.2.2.2.1 d.2.2.2.2.2.1 (fun aI aA bp dA fI fU gG jv jE jF dn dp dq eY eZ e8 e9 d8=>kR (((),(),(),aI,()),((aA,bp,dA,()),(fI,fU,gG,jv,jE,(),jF,()),dn,(dp,dq,eY,eZ,e8,(),e9,()),d8,()))))) (fun _ _=>by kernel_rfl) (fun _ _ _=>by kernel_rfl) (fun _ _=>by kernel_rfl) (fun _ _ _ _=>by kernel_rfl) (al (l':=[]) (by kernel_rfl) trivial)
def ga (N: Nat) (code: List Int) (i h: Int): OR':=(bif ((okC code i)&&true) then (bif (okC code (am 6 code i)) then (bif (((okC code (am 2 code (am 6 code i)))&&(decide ((aT 2 code (am 6 code i) (aw 6 h))≤1000000)))&&true) then (bif (decide ((17 + (List.length (ofS (aT 2 code (am 6 code i) (aw 6 h)) ([97,98]: aa) code (am 2 code (am 6 code i)) (aw 2 (aw 6 h)))))≤9223372036854775807)) then (bif (okC code (ofI (aT 2 code (am 6 code i) (aw 6 h)) ([97,98]: aa) code (am 2 code (am 6 code i)) (aw 2 (aw 6 h)))) then (j0 N (aT 4 code (ofI (aT 2 code (am 6 code i) (aw 6 h)) ([97,98]: aa) code (am 2 code (am 6 code i)) (aw 2 (aw 6 h))) (ofH (aT 2 code (am 6 code i) (aw 6 h)) ([97,98]: aa) code (am 2 code (am 6 code i)) (aw 2 (aw 6 h)))) code (am 4 code (ofI (aT 2 code (am 6 code i) (aw 6 h)) ([97,98]: aa) code (am 2 code (am 6 code i)) (aw 2 (aw 6 h)))) (aw 4 (ofH (aT 2 code (am 6 code i) (aw 6 h)) ([97,98]: aa) code (am 2 code (am 6 code i)) (aw 2 (aw 6 h)))) ([]: aa) ([]: aa) 0 ([]: aa) false ([]: aa) ([]: (List Fd)) (List.getD (List.set (List.set (List.set (List.set (List.set (List.set (List.replicate 6 ([]: aa)) 0 ([71,69,84]: aa)) 1 ([71,69,84]: aa)) 2 ([71,69,84]: aa)) 3 ([72,69,65,68]: aa)) 4 ([80,79,83,84]: aa)) 5 ([80,85,84]: aa)) (Int.toNat (aT 6 code i h)) ([]: aa)) (([104,116,116,112,58,47,47,97,46,101,120,97,109,112,108,101,47]: aa)++(ofS (aT 2 code (am 6 code i) (aw 6 h)) ([97,98]: aa) code (am 2 code (am 6 code i)) (aw 2 (aw 6 h)))) 0 ([]: aa) false ([]: aa) ([]: (List Fd)) (fun ab af ah iO o3 o4 o5 km o6 o7 bc bd gx mM dI qG bq=>(some ((AV.agg [.str bc,.str bd,.int .i64 gx,.str mM,.bool dI,.ref 1 0,.str qG]),[.var [.sh (Ty.int .u8) ab,.int .i64 af,.int .i64 ah],.arr (Ty.pair Ty.str Ty.str) 0 false bq])))) else none) else none) else none) else none) else none)
def yZ (φ: (List Int)→Int→Int→Br): List AV→List Ob→Br
 | [.ptr 0 0],[.var [.sh (.int .u8) code, .int .i64 i, .int .i64 h]]=>φ code i h
 | _,_=> .fail
theorem IE {φ: (List Int)→Int→Int→Br} (fu: (List Int)→Int→Int→Nat) (hv: ∀ code i h res_,(φ code i h).val=some res_→ga (fu code i h) code i h=some res_): Sound Kx 97 (yZ φ):=ap (C:=l14req_C) (O:=MV) Tryz.func97 (by kernel_rfl) fun args objs=>by
 unfold yZ;split
 · rename_i code i h;exact .inr fun _ hyp_=>aO (Λ:=MW (fu code i h)) (by kernel_rfl) (al (l':=[FT]) (by kernel_rfl) ⟨Pt _,trivial⟩) (by kernel_rfl) (hv code i h _ hyp_)
 · exact .inl rfl
def U6: Opt:={ live:=[(3,[0,2,3,4])],outs:=[(3,[0,2,3])] }
def l6msg_C: SC:=[⟨71,_,bQ⟩,⟨98,_,pj⟩,⟨115,_,ii⟩,⟨72,_,tG⟩,⟨193,_,jh⟩,⟨229,_,Pr⟩,⟨190,_,C7⟩]
def MX (aI: Int) (aA: (List Int)) (bp dA: Int) (fI fU: aa) (gG: Int) (jv: aa) (jE: Bool) (jF: aa) (dn: (List Fd)) (dp dq: aa) (eY: Int) (eZ: aa) (e8: Bool) (e9: aa) (d8: (List Fd)) (kR3: Int→(List Int)→Int→Int→aa→aa→Int→aa→Bool→aa→(List Fd)→aa→aa→Int→aa→Bool→aa→(List Fd)→OR') (ei: (List Int)→Int→Int→aa→aa→Int→aa→Bool→aa→(List Fd)→aa→aa→Int→aa→Bool→aa→(List Fd)→OR'): OR':=
 (bif (decide (0 < aI)) then (bif ((okC aA bp)&&true) then (bif (decide (((d8.length + (List.length (List.set (List.replicate 1 (([]: aa),([]: aa))) 0 ((rJ () aA bp dA).1.1,(rJ () aA bp dA).1.2)))) * 32)≤140737488355328)) then (kR3 (ad (aI - 1)) aA (rJ () aA bp dA).2.1 (rJ () aA bp dA).2.2 fI fU gG jv jE jF dn dp dq eY eZ e8 e9 (d8++(List.set (List.replicate 1 (([]: aa),([]: aa))) 0 ((rJ () aA bp dA).1.1,(rJ () aA bp dA).1.2)))) else none) else none) else (ei aA bp dA fI fU gG jv jE jF dn dp dq eY eZ e8 e9 d8))
def og: Nat→Int→(List Int)→Int→Int→aa→aa→Int→aa→Bool→aa→(List Fd)→aa→aa→Int→aa→Bool→aa→(List Fd)→((List Int)→Int→Int→aa→aa→Int→aa→Bool→aa→(List Fd)→aa→aa→Int→aa→Bool→aa→(List Fd)→OR')→OR'
 | 0,_,_,_,_,_,_,_,_,_,_,_,_,_,_,_,_,_,_,_=>none
 | n + 1,aI,aA,bp,dA,fI,fU,gG,jv,jE,jF,dn,dp,dq,eY,eZ,e8,e9,d8,ei=>MX aI aA bp dA fI fU gG jv jE jF dn dp dq eY eZ e8 e9 d8 (fun aI aA bp dA fI fU gG jv jE jF dn dp dq eY eZ e8 e9 d8=>og n aI aA bp dA fI fU gG jv jE jF dn dp dq eY eZ e8 e9 d8 ei) ei
abbrev l6msg_p3: SP:=⟨56,[0,2,3,4],[(.v (.ptr 0 0)),(.v (.ptr 192 0)),(.v (.ptr 256 0)),(.v (.i .i64))],[(0, .var [(.sh (Ty.int .u8)),(.i .i64),(.i .i64)]),(192, .var [.s, .s,(.i .i64), .s, .b,(.ref 198 0), .s]),(198, .arr (Ty.pair Ty.str Ty.str) 0 false),(256, .var [.s, .s,(.i .i64), .s, .b,(.ref 262 0), .s]),(262, .arr (Ty.pair Ty.str Ty.str) 0 false)]⟩
noncomputable def MY: Code:=aC (aG Tryz.f170) [1,1,0,1,0,0]
def MZ (f: ((List Int)→Int→Int→aa→aa→Int→aa→Bool→aa→(List Fd)→aa→aa→Int→aa→Bool→aa→(List Fd)→OR')→OR') (k: KT): OR':=f (fun ab af ah iO o3 o4 o5 km o6 o7 bc bd gx mM dI qG bq=>k (Ex.exit 0) ((St.mk (aF 0 56 [(0,(AV.ptr 0 0)),(2,(AV.ptr 192 0)),(3,(AV.ptr 256 0))]) ((0,(Ob.var [.sh (Ty.int .u8) ab,.int .i64 af,.int .i64 ah]))::((192,(Ob.var [.str iO,.str o3,.int .i64 o4,.str o5,.bool km,.ref 198 0,.str o6]))::((198,(Ob.arr (Ty.pair Ty.str Ty.str) 0 false o7))::((256,(Ob.var [.str bc,.str bd,.int .i64 gx,.str mM,.bool dI,.ref 262 0,.str qG]))::((262,(Ob.arr (Ty.pair Ty.str Ty.str) 0 false bq))::([]: (List (Nat×(Ob))))))))))))
def M4 (n: Nat) (d: l6msg_p3.D): KT→OR':=MZ (og n d.1.2.2.2.1 d.2.1.1 d.2.1.2.1 d.2.1.2.2.1 d.2.2.1.1 d.2.2.1.2.1 d.2.2.1.2.2.1 d.2.2.1.2.2.2.1 d.2.2.1.2.2.2.2.1 d.2.2.1.2.2.2.2.2.2.1 d.2.2.2.1 d.2.2.2.2.1.1 d.2.2.2.2.1.2.1 d.2.2.2.2.1.2.2.1 d.2.2.2.2.1.2.2.2.1 d.2.2.2.2.1.2.2.2.2.1 d.2.2.2.2.1.2.2.2.2.2.2.1 d.2.2.2.2.2.1)
def U7 (N: Nat): Lam:=bH [⟨3,l6msg_p3,M4 N⟩]
theorem U8 (N: Nat): OkL Kx l6msg_C.s U6 1 N (U7 N) MY:=okL l6msg_p3 (M4) (fun d kR=>MZ (MX d.1.2.2.2.1 d.2.1.1 d.2.1.2.1 d.2.1.2.2.1 d.2.2.1.1 d.2.2.1.2.1 d.2.2.1.2.2.1 d.2.2.1.2.2.2.1 d.2.2.1.2.2.2.2.1 d.2.2.1.2.2.2.2.2.2.1 d.2.2.2.1 d.2.2.2.2.1.1 d.2.2.2.2.1.2.1 d.2.2.2.2.1.2.2.1 d.2.2.2.2.1.2.2.2.1 d.2.2.2.2.1.2.2.2.2.1 d.2.2.2.2.1.2.2.2.2.2.2.1 d.2.2.2.2.2.1 (fun aI aA bp dA fI fU gG jv jE jF dn dp dq eY eZ e8 e9 d8=>kR (((),(),(),aI,()),((aA,bp,dA,()),(fI,fU,gG,jv,jE,(),jF,()),dn,(dp,dq,eY,eZ,e8,(),e9,()),d8,()))))) (fun _ _=>by kernel_rfl) (fun _ _ _=>by kernel_rfl) (fun _ _=>by kernel_rfl) (fun _ _ _ _=>by kernel_rfl) (al (l':=[]) (by kernel_rfl) trivial)
abbrev ax (ab af ah):=(aT 6 ab (am 2 ab (ofI (aT 20 ab af ah) ([97,98,99,13,10,48]: aa) ab (am 20 ab af) (aw 20 ah))) (aw 2 (ofH (aT 20 ab af ah) ([97,98,99,13,10,48]: aa) ab (am 20 ab af) (aw 20 ah))))
abbrev de (ab af ah):=(am 2 ab (ofI (aT 20 ab af ah) ([97,98,99,13,10,48]: aa) ab (am 20 ab af) (aw 20 ah)))
abbrev b_ (ab af ah):=(aw 2 (ofH (aT 20 ab af ah) ([97,98,99,13,10,48]: aa) ab (am 20 ab af) (aw 20 ah)))
abbrev ez (ab af ah):=(ofS (aT 20 ab af ah) ([97,98,99,13,10,48]: aa) ab (am 20 ab af) (aw 20 ah))
abbrev bV (ab af ah):=(am 6 ab (de ab af ah))
abbrev fd (ab af ah):=(aT 5 ab (bV ab af ah) (aw 6 (b_ ab af ah)))
abbrev kV (ab af ah):=(aT 5 ab (am 5 ab (de ab af ah)) (aw 5 (b_ ab af ah)))
abbrev ci (ab af ah):=(aw 5 (aw 6 (b_ ab af ah)))
abbrev cj (ab af ah):=(am 5 ab (bV ab af ah))
def iK (N: Nat) (code: List Int) (i h: Int): OR':=(bif (okC code i) then (og N (aT 5 code i h) code (am 5 code i) (aw 5 h) ([]: aa) ([]: aa) 0 ([]: aa) false ([]: aa) ([]: (List Fd)) ([]: aa) ([]: aa) 0 ([]: aa) false ([]: aa) ([]: (List Fd)) (fun ab af ah iO o3 o4 o5 km o6 o7 bc bd gx mM dI qG bq=>(bif (okC ab af) then (bif (((okC ab (am 20 ab af))&&(decide ((aT 20 ab af ah)≤1000000)))&&true) then (bif (okC ab (ofI (aT 20 ab af ah) ([97,98,99,13,10,48]: aa) ab (am 20 ab af) (aw 20 ah))) then (bif (decide ((aT 2 ab (ofI (aT 20 ab af ah) ([97,98,99,13,10,48]: aa) ab (am 20 ab af) (aw 20 ah)) (ofH (aT 20 ab af ah) ([97,98,99,13,10,48]: aa) ab (am 20 ab af) (aw 20 ah)))=0)) then (bif (okC ab (de ab af ah)) then (bif (decide (0≤(aT 5 ab (de ab af ah) (b_ ab af ah)))) then (bif (decide ((aT 5 ab (de ab af ah) (b_ ab af ah)) < 5)) then (bif (okC ab (am 5 ab (de ab af ah))) then (bif (((okC ab (am 5 ab (am 5 ab (de ab af ah))))&&(decide ((kV ab af ah)≤1000000)))&&true) then (bif (decide ((17 + (List.length (ofS (kV ab af ah) ([97,98,63]: aa) ab (am 5 ab (am 5 ab (de ab af ah))) (aw 5 (aw 5 (b_ ab af ah))))))≤9223372036854775807)) then (some ((AV.agg [.str (List.getD (List.set (List.set (List.set (List.set (List.set (List.replicate 5 ([]: aa)) 0 ([71,69,84]: aa)) 1 ([72,69,65,68]: aa)) 2 ([80,79,83,84]: aa)) 3 ([68,69,76,69,84,69]: aa)) 4 ([120]: aa)) (Int.toNat (aT 5 ab (de ab af ah) (b_ ab af ah))) ([]: aa)),.str (([104,116,116,112,58,47,47,97,46,101,120,97,109,112,108,101,47]: aa)++(ofS (kV ab af ah) ([97,98,63]: aa) ab (am 5 ab (am 5 ab (de ab af ah))) (aw 5 (aw 5 (b_ ab af ah))))),.int .i64 gx,.str mM,.bool dI,.ref 1 0,.str (ez ab af ah)]),[.var [.sh (Ty.int .u8) ab,.int .i64 (ofI (kV ab af ah) ([97,98,63]: aa) ab (am 5 ab (am 5 ab (de ab af ah))) (aw 5 (aw 5 (b_ ab af ah)))),.int .i64 (ofH (kV ab af ah) ([97,98,63]: aa) ab (am 5 ab (am 5 ab (de ab af ah))) (aw 5 (aw 5 (b_ ab af ah))))],.arr (Ty.pair Ty.str Ty.str) 0 false bq])) else none) else none) else none) else none) else none) else none) else (bif ((okC ab (de ab af ah))&&true) then (bif (decide ((List.getD (List.set (List.set (List.set (List.set (List.set (List.set (List.replicate 6 (0 : Int)) 0 200) 1 200) 2 204) 3 304) 4 404) 5 599) (Int.toNat (ax ab af ah)) 0)=200)) then (bif ((decide ((List.getD (List.set (List.set (List.set (List.set (List.set (List.set (List.replicate 6 (0 : Int)) 0 200) 1 200) 2 204) 3 304) 4 404) 5 599) (Int.toNat (ax ab af ah)) 0)=204))||(decide ((List.getD (List.set (List.set (List.set (List.set (List.set (List.set (List.replicate 6 (0 : Int)) 0 200) 1 200) 2 204) 3 304) 4 404) 5 599) (Int.toNat (ax ab af ah)) 0)=304))) then (some ((AV.agg [.str bc,.str bd,.int .i64 (List.getD (List.set (List.set (List.set (List.set (List.set (List.set (List.replicate 6 (0 : Int)) 0 200) 1 200) 2 204) 3 304) 4 404) 5 599) (Int.toNat (ax ab af ah)) 0),.str ([79,75]: aa),.bool true,.ref 1 0,.str ([]: aa)]),[.var [.sh (Ty.int .u8) ab,.int .i64 (bV ab af ah),.int .i64 (aw 6 (b_ ab af ah))],.arr (Ty.pair Ty.str Ty.str) 0 false bq])) else (bif (okC ab (bV ab af ah)) then (bif (decide ((fd ab af ah)=0)) then (some ((AV.agg [.str bc,.str bd,.int .i64 (List.getD (List.set (List.set (List.set (List.set (List.set (List.set (List.replicate 6 (0 : Int)) 0 200) 1 200) 2 204) 3 304) 4 404) 5 599) (Int.toNat (ax ab af ah)) 0),.str ([79,75]: aa),.bool true,.ref 1 0,.str ([]: aa)]),[.var [.sh (Ty.int .u8) ab,.int .i64 (cj ab af ah),.int .i64 (ci ab af ah)],.arr (Ty.pair Ty.str Ty.str) 0 false bq])) else (some ((AV.agg [.str bc,.str bd,.int .i64 (List.getD (List.set (List.set (List.set (List.set (List.set (List.set (List.replicate 6 (0 : Int)) 0 200) 1 200) 2 204) 3 304) 4 404) 5 599) (Int.toNat (ax ab af ah)) 0),.str ([79,75]: aa),.bool dI,.ref 1 0,.str (ez ab af ah)]),[.var [.sh (Ty.int .u8) ab,.int .i64 (cj ab af ah),.int .i64 (ci ab af ah)],.arr (Ty.pair Ty.str Ty.str) 0 false bq]))) else none)) else (bif (decide ((List.getD (List.set (List.set (List.set (List.set (List.set (List.set (List.replicate 6 (0 : Int)) 0 200) 1 200) 2 204) 3 304) 4 404) 5 599) (Int.toNat (ax ab af ah)) 0)=304)) then (bif ((decide ((List.getD (List.set (List.set (List.set (List.set (List.set (List.set (List.replicate 6 (0 : Int)) 0 200) 1 200) 2 204) 3 304) 4 404) 5 599) (Int.toNat (ax ab af ah)) 0)=204))||(decide ((List.getD (List.set (List.set (List.set (List.set (List.set (List.set (List.replicate 6 (0 : Int)) 0 200) 1 200) 2 204) 3 304) 4 404) 5 599) (Int.toNat (ax ab af ah)) 0)=304))) then (some ((AV.agg [.str bc,.str bd,.int .i64 (List.getD (List.set (List.set (List.set (List.set (List.set (List.set (List.replicate 6 (0 : Int)) 0 200) 1 200) 2 204) 3 304) 4 404) 5 599) (Int.toNat (ax ab af ah)) 0),.str ([78,111,116,32,77,111,100,105,102,105,101,100]: aa),.bool true,.ref 1 0,.str ([]: aa)]),[.var [.sh (Ty.int .u8) ab,.int .i64 (bV ab af ah),.int .i64 (aw 6 (b_ ab af ah))],.arr (Ty.pair Ty.str Ty.str) 0 false bq])) else (bif (okC ab (bV ab af ah)) then (bif (decide ((fd ab af ah)=0)) then (some ((AV.agg [.str bc,.str bd,.int .i64 (List.getD (List.set (List.set (List.set (List.set (List.set (List.set (List.replicate 6 (0 : Int)) 0 200) 1 200) 2 204) 3 304) 4 404) 5 599) (Int.toNat (ax ab af ah)) 0),.str ([78,111,116,32,77,111,100,105,102,105,101,100]: aa),.bool true,.ref 1 0,.str ([]: aa)]),[.var [.sh (Ty.int .u8) ab,.int .i64 (cj ab af ah),.int .i64 (ci ab af ah)],.arr (Ty.pair Ty.str Ty.str) 0 false bq])) else (some ((AV.agg [.str bc,.str bd,.int .i64 (List.getD (List.set (List.set (List.set (List.set (List.set (List.set (List.replicate 6 (0 : Int)) 0 200) 1 200) 2 204) 3 304) 4 404) 5 599) (Int.toNat (ax ab af ah)) 0),.str ([78,111,116,32,77,111,100,105,102,105,101,100]: aa),.bool dI,.ref 1 0,.str (ez ab af ah)]),[.var [.sh (Ty.int .u8) ab,.int .i64 (cj ab af ah),.int .i64 (ci ab af ah)],.arr (Ty.pair Ty.str Ty.str) 0 false bq]))) else none)) else (bif (decide ((List.getD (List.set (List.set (List.set (List.set (List.set (List.set (List.replicate 6 (0 : Int)) 0 200) 1 200) 2 204) 3 304) 4 404) 5 599) (Int.toNat (ax ab af ah)) 0)=400)) then (bif ((decide ((List.getD (List.set (List.set (List.set (List.set (List.set (List.set (List.replicate 6 (0 : Int)) 0 200) 1 200) 2 204) 3 304) 4 404) 5 599) (Int.toNat (ax ab af ah)) 0)=204))||(decide ((List.getD (List.set (List.set (List.set (List.set (List.set (List.set (List.replicate 6 (0 : Int)) 0 200) 1 200) 2 204) 3 304) 4 404) 5 599) (Int.toNat (ax ab af ah)) 0)=304))) then (some ((AV.agg [.str bc,.str bd,.int .i64 (List.getD (List.set (List.set (List.set (List.set (List.set (List.set (List.replicate 6 (0 : Int)) 0 200) 1 200) 2 204) 3 304) 4 404) 5 599) (Int.toNat (ax ab af ah)) 0),.str ([66,97,100,32,82,101,113,117,101,115,116]: aa),.bool true,.ref 1 0,.str ([]: aa)]),[.var [.sh (Ty.int .u8) ab,.int .i64 (bV ab af ah),.int .i64 (aw 6 (b_ ab af ah))],.arr (Ty.pair Ty.str Ty.str) 0 false bq])) else (bif (okC ab (bV ab af ah)) then (bif (decide ((fd ab af ah)=0)) then (some ((AV.agg [.str bc,.str bd,.int .i64 (List.getD (List.set (List.set (List.set (List.set (List.set (List.set (List.replicate 6 (0 : Int)) 0 200) 1 200) 2 204) 3 304) 4 404) 5 599) (Int.toNat (ax ab af ah)) 0),.str ([66,97,100,32,82,101,113,117,101,115,116]: aa),.bool true,.ref 1 0,.str ([]: aa)]),[.var [.sh (Ty.int .u8) ab,.int .i64 (cj ab af ah),.int .i64 (ci ab af ah)],.arr (Ty.pair Ty.str Ty.str) 0 false bq])) else (some ((AV.agg [.str bc,.str bd,.int .i64 (List.getD (List.set (List.set (List.set (List.set (List.set (List.set (List.replicate 6 (0 : Int)) 0 200) 1 200) 2 204) 3 304) 4 404) 5 599) (Int.toNat (ax ab af ah)) 0),.str ([66,97,100,32,82,101,113,117,101,115,116]: aa),.bool dI,.ref 1 0,.str (ez ab af ah)]),[.var [.sh (Ty.int .u8) ab,.int .i64 (cj ab af ah),.int .i64 (ci ab af ah)],.arr (Ty.pair Ty.str Ty.str) 0 false bq]))) else none)) else (bif (decide ((List.getD (List.set (List.set (List.set (List.set (List.set (List.set (List.replicate 6 (0 : Int)) 0 200) 1 200) 2 204) 3 304) 4 404) 5 599) (Int.toNat (ax ab af ah)) 0)=413)) then (bif ((decide ((List.getD (List.set (List.set (List.set (List.set (List.set (List.set (List.replicate 6 (0 : Int)) 0 200) 1 200) 2 204) 3 304) 4 404) 5 599) (Int.toNat (ax ab af ah)) 0)=204))||(decide ((List.getD (List.set (List.set (List.set (List.set (List.set (List.set (List.replicate 6 (0 : Int)) 0 200) 1 200) 2 204) 3 304) 4 404) 5 599) (Int.toNat (ax ab af ah)) 0)=304))) then (some ((AV.agg [.str bc,.str bd,.int .i64 (List.getD (List.set (List.set (List.set (List.set (List.set (List.set (List.replicate 6 (0 : Int)) 0 200) 1 200) 2 204) 3 304) 4 404) 5 599) (Int.toNat (ax ab af ah)) 0),.str ([67,111,110,116,101,110,116,32,84,111,111,32,76,97,114,103,101]: aa),.bool true,.ref 1 0,.str ([]: aa)]),[.var [.sh (Ty.int .u8) ab,.int .i64 (bV ab af ah),.int .i64 (aw 6 (b_ ab af ah))],.arr (Ty.pair Ty.str Ty.str) 0 false bq])) else (bif (okC ab (bV ab af ah)) then (bif (decide ((fd ab af ah)=0)) then (some ((AV.agg [.str bc,.str bd,.int .i64 (List.getD (List.set (List.set (List.set (List.set (List.set (List.set (List.replicate 6 (0 : Int)) 0 200) 1 200) 2 204) 3 304) 4 404) 5 599) (Int.toNat (ax ab af ah)) 0),.str ([67,111,110,116,101,110,116,32,84,111,111,32,76,97,114,103,101]: aa),.bool true,.ref 1 0,.str ([]: aa)]),[.var [.sh (Ty.int .u8) ab,.int .i64 (cj ab af ah),.int .i64 (ci ab af ah)],.arr (Ty.pair Ty.str Ty.str) 0 false bq])) else (some ((AV.agg [.str bc,.str bd,.int .i64 (List.getD (List.set (List.set (List.set (List.set (List.set (List.set (List.replicate 6 (0 : Int)) 0 200) 1 200) 2 204) 3 304) 4 404) 5 599) (Int.toNat (ax ab af ah)) 0),.str ([67,111,110,116,101,110,116,32,84,111,111,32,76,97,114,103,101]: aa),.bool dI,.ref 1 0,.str (ez ab af ah)]),[.var [.sh (Ty.int .u8) ab,.int .i64 (cj ab af ah),.int .i64 (ci ab af ah)],.arr (Ty.pair Ty.str Ty.str) 0 false bq]))) else none)) else (bif (decide ((List.getD (List.set (List.set (List.set (List.set (List.set (List.set (List.replicate 6 (0 : Int)) 0 200) 1 200) 2 204) 3 304) 4 404) 5 599) (Int.toNat (ax ab af ah)) 0)=431)) then (bif ((decide ((List.getD (List.set (List.set (List.set (List.set (List.set (List.set (List.replicate 6 (0 : Int)) 0 200) 1 200) 2 204) 3 304) 4 404) 5 599) (Int.toNat (ax ab af ah)) 0)=204))||(decide ((List.getD (List.set (List.set (List.set (List.set (List.set (List.set (List.replicate 6 (0 : Int)) 0 200) 1 200) 2 204) 3 304) 4 404) 5 599) (Int.toNat (ax ab af ah)) 0)=304))) then (some ((AV.agg [.str bc,.str bd,.int .i64 (List.getD (List.set (List.set (List.set (List.set (List.set (List.set (List.replicate 6 (0 : Int)) 0 200) 1 200) 2 204) 3 304) 4 404) 5 599) (Int.toNat (ax ab af ah)) 0),.str ([82,101,113,117,101,115,116,32,72,101,97,100,101,114,32,70,105,101,108,100,115,32,84,111,111,32,76,97,114,103,101]: aa),.bool true,.ref 1 0,.str ([]: aa)]),[.var [.sh (Ty.int .u8) ab,.int .i64 (bV ab af ah),.int .i64 (aw 6 (b_ ab af ah))],.arr (Ty.pair Ty.str Ty.str) 0 false bq])) else (bif (okC ab (bV ab af ah)) then (bif (decide ((fd ab af ah)=0)) then (some ((AV.agg [.str bc,.str bd,.int .i64 (List.getD (List.set (List.set (List.set (List.set (List.set (List.set (List.replicate 6 (0 : Int)) 0 200) 1 200) 2 204) 3 304) 4 404) 5 599) (Int.toNat (ax ab af ah)) 0),.str ([82,101,113,117,101,115,116,32,72,101,97,100,101,114,32,70,105,101,108,100,115,32,84,111,111,32,76,97,114,103,101]: aa),.bool true,.ref 1 0,.str ([]: aa)]),[.var [.sh (Ty.int .u8) ab,.int .i64 (cj ab af ah),.int .i64 (ci ab af ah)],.arr (Ty.pair Ty.str Ty.str) 0 false bq])) else (some ((AV.agg [.str bc,.str bd,.int .i64 (List.getD (List.set (List.set (List.set (List.set (List.set (List.set (List.replicate 6 (0 : Int)) 0 200) 1 200) 2 204) 3 304) 4 404) 5 599) (Int.toNat (ax ab af ah)) 0),.str ([82,101,113,117,101,115,116,32,72,101,97,100,101,114,32,70,105,101,108,100,115,32,84,111,111,32,76,97,114,103,101]: aa),.bool dI,.ref 1 0,.str (ez ab af ah)]),[.var [.sh (Ty.int .u8) ab,.int .i64 (cj ab af ah),.int .i64 (ci ab af ah)],.arr (Ty.pair Ty.str Ty.str) 0 false bq]))) else none)) else (bif (decide ((List.getD (List.set (List.set (List.set (List.set (List.set (List.set (List.replicate 6 (0 : Int)) 0 200) 1 200) 2 204) 3 304) 4 404) 5 599) (Int.toNat (ax ab af ah)) 0)=502)) then (bif ((decide ((List.getD (List.set (List.set (List.set (List.set (List.set (List.set (List.replicate 6 (0 : Int)) 0 200) 1 200) 2 204) 3 304) 4 404) 5 599) (Int.toNat (ax ab af ah)) 0)=204))||(decide ((List.getD (List.set (List.set (List.set (List.set (List.set (List.set (List.replicate 6 (0 : Int)) 0 200) 1 200) 2 204) 3 304) 4 404) 5 599) (Int.toNat (ax ab af ah)) 0)=304))) then (some ((AV.agg [.str bc,.str bd,.int .i64 (List.getD (List.set (List.set (List.set (List.set (List.set (List.set (List.replicate 6 (0 : Int)) 0 200) 1 200) 2 204) 3 304) 4 404) 5 599) (Int.toNat (ax ab af ah)) 0),.str ([66,97,100,32,71,97,116,101,119,97,121]: aa),.bool true,.ref 1 0,.str ([]: aa)]),[.var [.sh (Ty.int .u8) ab,.int .i64 (bV ab af ah),.int .i64 (aw 6 (b_ ab af ah))],.arr (Ty.pair Ty.str Ty.str) 0 false bq])) else (bif (okC ab (bV ab af ah)) then (bif (decide ((fd ab af ah)=0)) then (some ((AV.agg [.str bc,.str bd,.int .i64 (List.getD (List.set (List.set (List.set (List.set (List.set (List.set (List.replicate 6 (0 : Int)) 0 200) 1 200) 2 204) 3 304) 4 404) 5 599) (Int.toNat (ax ab af ah)) 0),.str ([66,97,100,32,71,97,116,101,119,97,121]: aa),.bool true,.ref 1 0,.str ([]: aa)]),[.var [.sh (Ty.int .u8) ab,.int .i64 (cj ab af ah),.int .i64 (ci ab af ah)],.arr (Ty.pair Ty.str Ty.str) 0 false bq])) else (some ((AV.agg [.str bc,.str bd,.int .i64 (List.getD (List.set (List.set (List.set (List.set (List.set (List.set (List.replicate 6 (0 : Int)) 0 200) 1 200) 2 204) 3 304) 4 404) 5 599) (Int.toNat (ax ab af ah)) 0),.str ([66,97,100,32,71,97,116,101,119,97,121]: aa),.bool dI,.ref 1 0,.str (ez ab af ah)]),[.var [.sh (Ty.int .u8) ab,.int .i64 (cj ab af ah),.int .i64 (ci ab af ah)],.arr (Ty.pair Ty.str Ty.str) 0 false bq]))) else none)) else (bif (decide ((List.getD (List.set (List.set (List.set (List.set (List.set (List.set (List.replicate 6 (0 : Int)) 0 200) 1 200) 2 204) 3 304) 4 404) 5 599) (Int.toNat (ax ab af ah)) 0)=503)) then (bif ((decide ((List.getD (List.set (List.set (List.set (List.set (List.set (List.set (List.replicate 6 (0 : Int)) 0 200) 1 200) 2 204) 3 304) 4 404) 5 599) (Int.toNat (ax ab af ah)) 0)=204))||(decide ((List.getD (List.set (List.set (List.set (List.set (List.set (List.set (List.replicate 6 (0 : Int)) 0 200) 1 200) 2 204) 3 304) 4 404) 5 599) (Int.toNat (ax ab af ah)) 0)=304))) then (some ((AV.agg [.str bc,.str bd,.int .i64 (List.getD (List.set (List.set (List.set (List.set (List.set (List.set (List.replicate 6 (0 : Int)) 0 200) 1 200) 2 204) 3 304) 4 404) 5 599) (Int.toNat (ax ab af ah)) 0),.str ([83,101,114,118,105,99,101,32,85,110,97,118,97,105,108,97,98,108,101]: aa),.bool true,.ref 1 0,.str ([]: aa)]),[.var [.sh (Ty.int .u8) ab,.int .i64 (bV ab af ah),.int .i64 (aw 6 (b_ ab af ah))],.arr (Ty.pair Ty.str Ty.str) 0 false bq])) else (bif (okC ab (bV ab af ah)) then (bif (decide ((fd ab af ah)=0)) then (some ((AV.agg [.str bc,.str bd,.int .i64 (List.getD (List.set (List.set (List.set (List.set (List.set (List.set (List.replicate 6 (0 : Int)) 0 200) 1 200) 2 204) 3 304) 4 404) 5 599) (Int.toNat (ax ab af ah)) 0),.str ([83,101,114,118,105,99,101,32,85,110,97,118,97,105,108,97,98,108,101]: aa),.bool true,.ref 1 0,.str ([]: aa)]),[.var [.sh (Ty.int .u8) ab,.int .i64 (cj ab af ah),.int .i64 (ci ab af ah)],.arr (Ty.pair Ty.str Ty.str) 0 false bq])) else (some ((AV.agg [.str bc,.str bd,.int .i64 (List.getD (List.set (List.set (List.set (List.set (List.set (List.set (List.replicate 6 (0 : Int)) 0 200) 1 200) 2 204) 3 304) 4 404) 5 599) (Int.toNat (ax ab af ah)) 0),.str ([83,101,114,118,105,99,101,32,85,110,97,118,97,105,108,97,98,108,101]: aa),.bool dI,.ref 1 0,.str (ez ab af ah)]),[.var [.sh (Ty.int .u8) ab,.int .i64 (cj ab af ah),.int .i64 (ci ab af ah)],.arr (Ty.pair Ty.str Ty.str) 0 false bq]))) else none)) else (bif (decide ((List.getD (List.set (List.set (List.set (List.set (List.set (List.set (List.replicate 6 (0 : Int)) 0 200) 1 200) 2 204) 3 304) 4 404) 5 599) (Int.toNat (ax ab af ah)) 0)=504)) then (bif ((decide ((List.getD (List.set (List.set (List.set (List.set (List.set (List.set (List.replicate 6 (0 : Int)) 0 200) 1 200) 2 204) 3 304) 4 404) 5 599) (Int.toNat (ax ab af ah)) 0)=204))||(decide ((List.getD (List.set (List.set (List.set (List.set (List.set (List.set (List.replicate 6 (0 : Int)) 0 200) 1 200) 2 204) 3 304) 4 404) 5 599) (Int.toNat (ax ab af ah)) 0)=304))) then (some ((AV.agg [.str bc,.str bd,.int .i64 (List.getD (List.set (List.set (List.set (List.set (List.set (List.set (List.replicate 6 (0 : Int)) 0 200) 1 200) 2 204) 3 304) 4 404) 5 599) (Int.toNat (ax ab af ah)) 0),.str ([71,97,116,101,119,97,121,32,84,105,109,101,111,117,116]: aa),.bool true,.ref 1 0,.str ([]: aa)]),[.var [.sh (Ty.int .u8) ab,.int .i64 (bV ab af ah),.int .i64 (aw 6 (b_ ab af ah))],.arr (Ty.pair Ty.str Ty.str) 0 false bq])) else (bif (okC ab (bV ab af ah)) then (bif (decide ((fd ab af ah)=0)) then (some ((AV.agg [.str bc,.str bd,.int .i64 (List.getD (List.set (List.set (List.set (List.set (List.set (List.set (List.replicate 6 (0 : Int)) 0 200) 1 200) 2 204) 3 304) 4 404) 5 599) (Int.toNat (ax ab af ah)) 0),.str ([71,97,116,101,119,97,121,32,84,105,109,101,111,117,116]: aa),.bool true,.ref 1 0,.str ([]: aa)]),[.var [.sh (Ty.int .u8) ab,.int .i64 (cj ab af ah),.int .i64 (ci ab af ah)],.arr (Ty.pair Ty.str Ty.str) 0 false bq])) else (some ((AV.agg [.str bc,.str bd,.int .i64 (List.getD (List.set (List.set (List.set (List.set (List.set (List.set (List.replicate 6 (0 : Int)) 0 200) 1 200) 2 204) 3 304) 4 404) 5 599) (Int.toNat (ax ab af ah)) 0),.str ([71,97,116,101,119,97,121,32,84,105,109,101,111,117,116]: aa),.bool dI,.ref 1 0,.str (ez ab af ah)]),[.var [.sh (Ty.int .u8) ab,.int .i64 (cj ab af ah),.int .i64 (ci ab af ah)],.arr (Ty.pair Ty.str Ty.str) 0 false bq]))) else none)) else (bif ((decide ((List.getD (List.set (List.set (List.set (List.set (List.set (List.set (List.replicate 6 (0 : Int)) 0 200) 1 200) 2 204) 3 304) 4 404) 5 599) (Int.toNat (ax ab af ah)) 0)=204))||(decide ((List.getD (List.set (List.set (List.set (List.set (List.set (List.set (List.replicate 6 (0 : Int)) 0 200) 1 200) 2 204) 3 304) 4 404) 5 599) (Int.toNat (ax ab af ah)) 0)=304))) then (some ((AV.agg [.str bc,.str bd,.int .i64 (List.getD (List.set (List.set (List.set (List.set (List.set (List.set (List.replicate 6 (0 : Int)) 0 200) 1 200) 2 204) 3 304) 4 404) 5 599) (Int.toNat (ax ab af ah)) 0),.str ([]: aa),.bool true,.ref 1 0,.str ([]: aa)]),[.var [.sh (Ty.int .u8) ab,.int .i64 (bV ab af ah),.int .i64 (aw 6 (b_ ab af ah))],.arr (Ty.pair Ty.str Ty.str) 0 false bq])) else (bif (okC ab (bV ab af ah)) then (bif (decide ((fd ab af ah)=0)) then (some ((AV.agg [.str bc,.str bd,.int .i64 (List.getD (List.set (List.set (List.set (List.set (List.set (List.set (List.replicate 6 (0 : Int)) 0 200) 1 200) 2 204) 3 304) 4 404) 5 599) (Int.toNat (ax ab af ah)) 0),.str ([]: aa),.bool true,.ref 1 0,.str ([]: aa)]),[.var [.sh (Ty.int .u8) ab,.int .i64 (cj ab af ah),.int .i64 (ci ab af ah)],.arr (Ty.pair Ty.str Ty.str) 0 false bq])) else (some ((AV.agg [.str bc,.str bd,.int .i64 (List.getD (List.set (List.set (List.set (List.set (List.set (List.set (List.replicate 6 (0 : Int)) 0 200) 1 200) 2 204) 3 304) 4 404) 5 599) (Int.toNat (ax ab af ah)) 0),.str ([]: aa),.bool dI,.ref 1 0,.str (ez ab af ah)]),[.var [.sh (Ty.int .u8) ab,.int .i64 (cj ab af ah),.int .i64 (ci ab af ah)],.arr (Ty.pair Ty.str Ty.str) 0 false bq]))) else none)))))))))) else none)) else none) else none) else none))) else none)
def FW (φ: (List Int)→Int→Int→Br): List AV→List Ob→Br
 | [.ptr 0 0],[.var [.sh (.int .u8) code, .int .i64 i, .int .i64 h]]=>φ code i h
 | _,_=> .fail
theorem Pu {φ: (List Int)→Int→Int→Br} (fu: (List Int)→Int→Int→Nat) (hv: ∀ code i h res_,(φ code i h).val=some res_→iK (fu code i h) code i h=some res_): Sound Kx 170 (FW φ):=ap (C:=l6msg_C) (O:=U6) Tryz.func170 (by kernel_rfl) fun args objs=>by
 unfold FW;split
 · rename_i code i h;exact .inr fun _ hyp_=>aO (Λ:=U7 (fu code i h)) (by kernel_rfl) (al (l':=[MY]) (by kernel_rfl) ⟨U8 _,trivial⟩) (by kernel_rfl) (hv code i h _ hyp_)
 · exact .inl rfl
end
end Go.Proofs.YtgknmoadpgpdeaaGreatDoor.Ev
namespace Go.Proofs.YtgknmoadpgpdeaaGreatDoor.Ev
open Go Go.RowKit
set_option linter.unusedVariables false
set_option linter.unusedSimpArgs false
set_option linter.defProp false
set_option maxRecDepth 20000
noncomputable section
theorem j5 {code: List Int} {D: Int→Int→Fd×Int×Int} (hD: ∀ i h,okC code i=true→okC code (D i h).2.1=true∧cq (D i h).1) {F: Nat→Int→Int→Int→List Fd→OR'} (K: Int→Int→List Fd→OR')
 (hF: ∀ N n i h acc,F (N + 1) n i h acc=bif decide ((0 : Int) < n) then (bif okC code i&&true then (bif decide ((acc.length + [(D i h).1].length) * 32≤140737488355328) then F N (ad (n - 1)) (D i h).2.1 (D i h).2.2 (acc++[(D i h).1]) else none) else none) else K i h acc)
 (R: OR'→Prop): ∀ (k N: Nat) (n i h: Int) (acc: List Fd),k < N→n=(k: Int)→okC code i=true→acc.length + k≤1000→(∀ f ∈ acc,cq f)→
 (∀ i' h' l,okC code i'=true→l.length≤acc.length + k→(∀ f ∈ l,cq f)→R (K i' h' l))→R (F N n i h acc)
 | 0,N,n,i,h,acc,hN,hn,hc,hl,hq,hK=>by
   obtain ⟨N,rfl⟩: ∃ m,N=m + 1:=⟨N - 1,by omega⟩
   rw [hF,dF' (by omega),cond_false]
   exact hK i h acc hc (by omega) hq
 | k + 1,N,n,i,h,acc,hN,hn,hc,hl,hq,hK=>by
   obtain ⟨N,rfl⟩: ∃ m,N=m + 1:=⟨N - 1,by omega⟩
   obtain ⟨h1,h2⟩:=hD i h hc
   rw [hF,dT' (by omega: (0 : Int) < n),cond_true,hc,Bool.and_true,cond_true,dT' (by rw [List.length_singleton];omega),cond_true,w64 (by omega) (by omega)]
   refine j5 hD K hF R k N (n - 1) _ _ _ (by omega) (by omega) h1 (by rw [List.length_append,List.length_singleton];omega) (fun f hf=>?_) fun i' h' l q1 q2 q3=>?_
   · rcases List.mem_append.1 hf with hf | hf
     · exact hq f hf
     · rw [List.mem_singleton.1 hf];exact h2
   · rw [List.length_append,List.length_singleton] at q2
     exact hK i' h' l q1 (by omega) q3
theorem YO (aA: (List Int)) (fI: (List UInt8)) (fU: (List UInt8)) (gG: Int) (jv: (List UInt8)) (jE: Bool) (jF: (List UInt8)) (dn: (List ((List UInt8)×(List UInt8)))) (dp: (List UInt8)) (dq: (List UInt8)) (eY: Int) (eZ: (List UInt8)) (e8: Bool) (e9: (List UInt8)) (K: (List Int)→Int→Int→(List UInt8)→(List UInt8)→Int→(List UInt8)→Bool→(List UInt8)→(List ((List UInt8)×(List UInt8)))→(List UInt8)→(List UInt8)→Int→(List UInt8)→Bool→(List UInt8)→(List ((List UInt8)×(List UInt8)))→OR') (R: OR'→Prop) (k N: Nat) (aI bp dA: Int) (d8: List Fd) (hN: k < N) (hn: aI=(k: Int)) (hc: okC aA bp=true) (hl: d8.length + k≤1000) (hq: ∀ f ∈ d8,cq f)
 (hK: ∀ i' h' l,okC aA i'=true→l.length≤d8.length + k→(∀ f ∈ l,cq f)→R (K aA i' h' fI fU gG jv jE jF dn dp dq eY eZ e8 e9 l)): R (j0 N aI aA bp dA fI fU gG jv jE jF dn dp dq eY eZ e8 e9 d8 K):=
 j5 (code:=aA) (D:=fun i h=>Wc () aA i h) (fun i h hc=>afc h hc) (F:=fun N n i h acc=>j0 N n aA i h fI fU gG jv jE jF dn dp dq eY eZ e8 e9 acc K) (fun i' h' l=>K aA i' h' fI fU gG jv jE jF dn dp dq eY eZ e8 e9 l) (fun _ _ _ _ _=>rfl) R k N aI bp dA d8 hN hn hc hl hq hK
theorem YP (aA: (List Int)) (fI: (List UInt8)) (fU: (List UInt8)) (gG: Int) (jv: (List UInt8)) (jE: Bool) (jF: (List UInt8)) (dn: (List ((List UInt8)×(List UInt8)))) (dp: (List UInt8)) (dq: (List UInt8)) (eY: Int) (eZ: (List UInt8)) (e8: Bool) (e9: (List UInt8)) (K: (List Int)→Int→Int→(List UInt8)→(List UInt8)→Int→(List UInt8)→Bool→(List UInt8)→(List ((List UInt8)×(List UInt8)))→(List UInt8)→(List UInt8)→Int→(List UInt8)→Bool→(List UInt8)→(List ((List UInt8)×(List UInt8)))→OR') (R: OR'→Prop) (k N: Nat) (aI bp dA: Int) (d8: List Fd) (hN: k < N) (hn: aI=(k: Int)) (hc: okC aA bp=true) (hl: d8.length + k≤1000) (hq: ∀ f ∈ d8,cq f)
 (hK: ∀ i' h' l,okC aA i'=true→l.length≤d8.length + k→(∀ f ∈ l,cq f)→R (K aA i' h' fI fU gG jv jE jF dn dp dq eY eZ e8 e9 l)): R (og N aI aA bp dA fI fU gG jv jE jF dn dp dq eY eZ e8 e9 d8 K):=
 j5 (code:=aA) (D:=fun i h=>rJ () aA i h) (fun i h hc=>Lq h hc) (F:=fun N n i h acc=>og N n aA i h fI fU gG jv jE jF dn dp dq eY eZ e8 e9 acc K) (fun i' h' l=>K aA i' h' fI fU gG jv jE jF dn dp dq eY eZ e8 e9 l) (fun _ _ _ _ _=>rfl) R k N aI bp dA d8 hN hn hc hl hq hK
theorem U9 (aZ: Int) (a7: (List Int)) (iS: (List UInt8)) (iT: Int) (eG: Int) (mC: (List UInt8)) (we: (List UInt8)) (gH: Int) (gI: (List UInt8)) (gJ: Bool) (qb: (List UInt8)) (qc: (List ((List UInt8)×(List UInt8)))) (qd: (List ((List UInt8)×(List UInt8)))) (qe: (List UInt8)) (qf: Int) (qg: Int) (qh: (List UInt8)) (qi: (List UInt8)) (qj: Int) (qk: (List UInt8)) (ql: Bool) (qm: (List UInt8)) (qn: (List ((List UInt8)×(List UInt8)))) (K: (List Int)→Int→Int→(List UInt8)→Int→Int→(List UInt8)→(List UInt8)→Int→(List UInt8)→Bool→(List UInt8)→(List ((List UInt8)×(List UInt8)))→(List ((List UInt8)×(List UInt8)))→(List UInt8)→Int→Int→(List UInt8)→(List UInt8)→Int→(List UInt8)→Bool→(List UInt8)→(List ((List UInt8)×(List UInt8)))→(List ((List UInt8)×(List UInt8)))→OR') (R: OR'→Prop) (k N: Nat) (bi dm fe: Int) (mK: List Fd) (hN: k < N) (hn: bi=(k: Int)) (hc: okC a7 dm=true) (hl: mK.length + k≤1000) (hq: ∀ f ∈ mK,cq f)
 (hK: ∀ i' h' l,okC a7 i'=true→l.length≤mK.length + k→(∀ f ∈ l,cq f)→R (K a7 i' h' iS iT eG mC we gH gI gJ qb qc qd qe qf qg qh qi qj qk ql qm qn l)): R (gr N aZ bi a7 dm fe iS iT eG mC we gH gI gJ qb qc qd qe qf qg qh qi qj qk ql qm qn mK K):=
 j5 (code:=a7) (D:=fun i h=>Wd aZ a7 i h) (fun i h hc=>afd aZ h hc) (F:=fun N n i h acc=>gr N aZ n a7 i h iS iT eG mC we gH gI gJ qb qc qd qe qf qg qh qi qj qk ql qm qn acc K) (fun i' h' l=>K a7 i' h' iS iT eG mC we gH gI gJ qb qc qd qe qf qg qh qi qj qk ql qm qn l) (fun _ _ _ _ _=>rfl) R k N bi dm fe mK hN hn hc hl hq hK
theorem U_ (sR: (List Int)) (PF: (List UInt8)) (PG: Int) (PH: Int) (PI: (List UInt8)) (PJ: (List UInt8)) (PK: Int) (qo: (List UInt8)) (qp: Bool) (qq: (List UInt8)) (qr: (List ((List UInt8)×(List UInt8)))) (qt: (List ((List UInt8)×(List UInt8)))) (qu: (List UInt8)) (qv: Int) (qw: Int) (qx: (List UInt8)) (qy: (List UInt8)) (qz: Int) (qC: (List UInt8)) (qD: Bool) (qE: (List UInt8)) (qF: (List ((List UInt8)×(List UInt8)))) (K: (List Int)→Int→Int→(List UInt8)→Int→Int→(List UInt8)→(List UInt8)→Int→(List UInt8)→Bool→(List UInt8)→(List ((List UInt8)×(List UInt8)))→(List ((List UInt8)×(List UInt8)))→(List UInt8)→Int→Int→(List UInt8)→(List UInt8)→Int→(List UInt8)→Bool→(List UInt8)→(List ((List UInt8)×(List UInt8)))→(List ((List UInt8)×(List UInt8)))→OR') (R: OR'→Prop) (k N: Nat) (PQ Cb Gm: Int) (mL: List Fd) (hN: k < N) (hn: PQ=(k: Int)) (hc: okC sR Cb=true) (hl: mL.length + k≤1000) (hq: ∀ f ∈ mL,cq f)
 (hK: ∀ i' h' l,okC sR i'=true→l.length≤mL.length + k→(∀ f ∈ l,cq f)→R (K sR i' h' PF PG PH PI PJ PK qo qp qq qr qt qu qv qw qx qy qz qC qD qE l qF)): R (gt N PQ sR Cb Gm PF PG PH PI PJ PK qo qp qq qr qt qu qv qw qx qy qz qC qD qE mL qF K):=
 j5 (code:=sR) (D:=fun i h=>rJ () sR i h) (fun i h hc=>Lq h hc) (F:=fun N n i h acc=>gt N n sR i h PF PG PH PI PJ PK qo qp qq qr qt qu qv qw qx qy qz qC qD qE acc qF K) (fun i' h' l=>K sR i' h' PF PG PH PI PJ PK qo qp qq qr qt qu qv qw qx qy qz qC qD qE l qF) (fun _ _ _ _ _=>rfl) R k N PQ Cb Gm mL hN hn hc hl hq hK
def FX {α: Type} (code: List Int) (ra: α→AV) (ro: α→List Ob) (P: α→Prop) (o: OR'): Prop:=∃ (v: α) (i' h': Int),o=some (ra v,ZA code i' h'::ro v)∧okC code i'=true∧P v
theorem kW {α: Type} {code: List Int} {ra: α→AV} {ro: α→List Ob} {P: α→Prop} {c: Bool} {x: OR'} (h0: c=true) (h1: FX code ra ro P x): FX code ra ro P (bif c then x else none):=by subst h0;exact h1
theorem sJ {α: Type} {code: List Int} {ra: α→AV} {ro: α→List Ob} {P: α→Prop} {c: Bool} {x y: OR'} (h1: c=true→FX code ra ro P x) (h2: c=false→FX code ra ro P y): FX code ra ro P (bif c then x else y):=by
 cases c
 · exact h2 rfl
 · exact h1 rfl
def B_ (m: Mg): AV:= .agg [.str m.1, .str m.2.1, .int .i64 m.2.2.1, .str m.2.2.2.1, .bool m.2.2.2.2.1, .ref 1 0, .str m.2.2.2.2.2.2]
def Ca (m: Mg): List Ob:=[.arr (.pair .str .str) 0 false m.2.2.2.2.2.1]
def mgQ (m: Mg): Prop:=(∀ f ∈ m.2.2.2.2.2.1,cq f)∧m.2.2.2.2.2.1.length≤40∧m.1.length≤100∧m.2.1.length≤1000
theorem sK {k: Nat} {l: List aa} (h: ∀ x ∈ l,x.length≤k) (j: Nat): (l.getD j []).length≤k:=sI (p:=fun v: aa=>v.length≤k) (Nat.zero_le _) l h j
theorem iL {code: List Int} {P: Mg→Prop} (me ta: aa) (st: Int) (re: aa) (ba: Bool) (fs: List Fd) (bo: aa) (i' h': Int) (hc: okC code i'=true) (hP: P (me,ta,st,re,ba,fs,bo)):
 FX code B_ Ca P (some (.agg [.str me, .str ta, .int .i64 st, .str re, .bool ba, .ref 1 0, .str bo],[.var [.sh (.int .u8) code, .int .i64 i', .int .i64 h'], .arr (.pair .str .str) 0 false fs])):=⟨_,i',h',rfl,hc,hP⟩
def etA (e: En): AV:= .agg [.str e.1, .int .i64 e.2.1, .int .i64 e.2.2.1, .ref 1 0, .str e.2.2.2.2.1, .str e.2.2.2.2.2.1, .int .i64 e.2.2.2.2.2.2.1, .str e.2.2.2.2.2.2.2.1, .bool e.2.2.2.2.2.2.2.2.1, .ref 2 0, .str e.2.2.2.2.2.2.2.2.2.2]
def etO (e: En): List Ob:=[.arr (.pair .str .str) 0 false e.2.2.2.1, .arr (.pair .str .str) 0 false e.2.2.2.2.2.2.2.2.2.1]
def etQ (e: En): Prop:=e.1.length≤1000∧e.2.2.2.1.length≤40∧e.2.2.2.2.2.2.2.2.2.1.length≤40
theorem Pv {code: List Int} {P: En→Prop} (ur: aa) (t1 t2: Int) (ak: List Fd) (me ta: aa) (st: Int) (re: aa) (ba: Bool) (fs: List Fd) (bo: aa) (i' h': Int) (hc: okC code i'=true) (hP: P (ur,t1,t2,ak,me,ta,st,re,ba,fs,bo)):
 FX code etA etO P (some (.agg [.str ur, .int .i64 t1, .int .i64 t2, .ref 1 0, .str me, .str ta, .int .i64 st, .str re, .bool ba, .ref 2 0, .str bo],[.var [.sh (.int .u8) code, .int .i64 i', .int .i64 h'], .arr (.pair .str .str) 0 false ak, .arr (.pair .str .str) 0 false fs])):=⟨_,i',h',rfl,hc,hP⟩
theorem eV {n: Int} (hn: 0≤n) (code: List Int) (i h: Int): (aT n code i h).toNat≤n.toNat:=by
 have h1:=dS n code i h
 by_cases h0: 0 < n
 · have:=h1.2 h0;omega
 · have e: aT n code i h=0:=by unfold aT;rw [dT' (by omega),cond_true]
   rw [e];omega
theorem sL (n: Int) (code: List Int) (i h: Int): aT n code i h=((aT n code i h).toNat: Int):=by
 have:=(dS n code i h).1;omega
theorem IF {s: aa} {k: Nat} (h: s.length≤k) (hk: k≤1000000): decide (17 + s.length≤9223372036854775807)=true:=dT' (by omega)
theorem ry {n: Int} (hn: 0≤n) (set: aa) (code code': List Int) (i h i' h': Int): (ofS (aT n code i h) set code' i' h').length≤n.toNat:=by rw [lE];exact eV hn ..
theorem acD (code: List Int) (i h: Int) (hc: okC code i=true): FX code B_ Ca mgQ (ga 100 code i h):=by
 unfold ga
 repeat' (first | with_reducible refine kW ?_ ?_ | with_reducible refine sJ (fun _=>?_) (fun _=>?_))
 all_goals first
  | ((repeat (first | exact hc | with_reducible apply ar | with_reducible apply bg | with_reducible apply au));done)
  | (simp only [Bool.and_true,List.length_cons,List.length_nil,List.length_set,List.length_replicate];(repeat (first | exact hc | with_reducible apply ar | with_reducible apply bg | with_reducible apply au));done)
  | (simp (disch:=omega) only [Bool.and_true,uJ,decide_true];(repeat (first | exact hc | with_reducible apply ar | with_reducible apply bg | with_reducible apply au));done)
  | exact IF (ry (by omega) ..) (by decide)
  | (refine YO _ _ _ _ _ _ _ _ _ _ _ _ _ _ _ (FX code B_ Ca mgQ) _ 100 _ _ _ [] ?_ (sL ..) ?_ ?_ (fun _ hf=>absurd hf (List.not_mem_nil)) (fun i' h' l q1 q2 q3=>iL _ _ _ _ _ _ _ _ _ q1 ⟨q3,?_,Nat.le_trans (sK (k:=4) (by decide) _) (by decide),by rw [List.length_append];exact Nat.le_trans (Nat.add_le_add_left (ry (by omega) ..) _) (by decide)⟩)
     · exact Nat.lt_of_le_of_lt (eV (by omega) ..) (by decide)
     · (repeat (first | exact hc | with_reducible apply ar | with_reducible apply bg | with_reducible apply au))
     · exact Nat.le_trans (Nat.add_le_add_left (eV (by omega) ..) _) (by decide)
     · exact Nat.le_trans q2 (Nat.le_trans (Nat.add_le_add_left (eV (by omega) ..) _) (by decide)))
  | skip
 all_goals trace_state
theorem acE (code: List Int) (i h: Int) (hc: okC code i=true): FX code B_ Ca mgQ (iK 100 code i h):=by
 unfold iK cj ci kV fd bV ez b_ de ax
 refine kW hc ?_
 refine YP _ _ _ _ _ _ _ _ _ _ _ _ _ _ _ (FX code B_ Ca mgQ) _ 100 _ _ _ [] (Nat.lt_of_le_of_lt (eV (by omega) ..) (by decide)) (sL ..) (ar hc) (Nat.le_trans (Nat.add_le_add_left (eV (by omega) ..) _) (by decide)) (fun _ hf=>absurd hf (List.not_mem_nil)) (fun i' h' l q1 q2 q3=>?_)
 have q4: l.length≤40:=Nat.le_trans q2 (Nat.le_trans (Nat.add_le_add_left (eV (by omega) ..) _) (by decide))
 repeat' (first | with_reducible refine kW ?_ ?_ | with_reducible refine sJ (fun _=>?_) (fun _=>?_) | with_reducible refine iL _ _ _ _ _ _ _ _ _ ?_ ?_)
 all_goals first
  | ((repeat (first | exact hc | exact q1 | with_reducible apply ar | with_reducible apply bg | with_reducible apply au));done)
  | (simp only [Bool.and_true,List.length_cons,List.length_nil,List.length_set,List.length_replicate];(repeat (first | exact hc | exact q1 | with_reducible apply ar | with_reducible apply bg | with_reducible apply au));done)
  | (simp (disch:=omega) only [Bool.and_true,uJ,decide_true];(repeat (first | exact hc | exact q1 | with_reducible apply ar | with_reducible apply bg | with_reducible apply au));done)
  | exact IF (ry (by omega) ..) (by decide)
  | exact agY ..
  | exact aet _ _ _ (by omega) (by omega)
  | exact And.intro q3 (And.intro q4 (And.intro (Nat.le_trans (sK (k:=6) (by decide) _) (by decide)) (by rw [List.length_append];exact Nat.le_trans (Nat.add_le_add_left (ry (by omega) ..) _) (by decide))))
  | exact And.intro q3 (And.intro q4 (And.intro (by simp) (by simp)))
  | skip
 all_goals trace_state
theorem acF (code: List Int) (i h: Int) (hc: okC code i=true): FX code etA etO etQ (ef 100 code i h):=by
 unfold ef eU cG
 repeat' (first | with_reducible refine kW ?_ ?_ | with_reducible refine sJ (fun _=>?_) (fun _=>?_))
 all_goals first
  | ((repeat (first | exact hc | with_reducible apply ar | with_reducible apply bg | with_reducible apply au));done)
  | (simp only [Bool.and_true,List.length_cons,List.length_nil,List.length_set,List.length_replicate];(repeat (first | exact hc | with_reducible apply ar | with_reducible apply bg | with_reducible apply au));done)
  | (simp (disch:=omega) only [Bool.and_true,uJ,decide_true];(repeat (first | exact hc | with_reducible apply ar | with_reducible apply bg | with_reducible apply au));done)
  | exact IF (ry (by omega) ..) (by decide)
  | skip
 refine U9 _ _ _ _ _ _ _ _ _ _ _ _ _ _ _ _ _ _ _ _ _ _ _ _ (FX code etA etO etQ) _ 100 _ _ _ [] (Nat.lt_of_le_of_lt (eV (by omega) ..) (by decide)) (sL ..) (by (repeat (first | exact hc | with_reducible apply ar | with_reducible apply bg | with_reducible apply au))) (Nat.le_trans (Nat.add_le_add_left (eV (by omega) ..) _) (by decide)) (fun _ hf=>absurd hf (List.not_mem_nil)) (fun i' h' l q1 q2 q3=>?_)
 have q4: l.length≤40:=Nat.le_trans q2 (Nat.le_trans (Nat.add_le_add_left (eV (by omega) ..) _) (by decide))
 refine kW q1 ?_
 refine U_ _ _ _ _ _ _ _ _ _ _ _ _ _ _ _ _ _ _ _ _ _ _ _ (FX code etA etO etQ) _ 100 _ _ _ [] (Nat.lt_of_le_of_lt (eV (by omega) ..) (by decide)) (sL ..) (ar q1) (Nat.le_trans (Nat.add_le_add_left (eV (by omega) ..) _) (by decide)) (fun _ hf=>absurd hf (List.not_mem_nil)) (fun i2 h2 l2 r1 r2 r3=>?_)
 have r4: l2.length≤40:=Nat.le_trans r2 (Nat.le_trans (Nat.add_le_add_left (eV (by omega) ..) _) (by decide))
 refine Pv _ _ _ _ _ _ _ _ _ _ _ _ _ r1 (show _∧_∧_ from ⟨?_,r4,q4⟩)
 rw [List.length_append]
 exact Nat.le_trans (Nat.add_le_add_left (ry (by omega) ..) _) (by decide)
def req_dr:=zI (α:=Mg) (fun (_: Unit) code i h=>match ga 100 code i h with | some r=>Br.ret r.1 r.2 | none=> .fail) (fun _=>true) B_ Ca ([],[],0,[],false,[],[]) (fun _ m=>mgQ m) (fun _ code i h hc _=>by
 obtain ⟨v,i',h',e,q⟩:=acD code i h hc;exact ⟨v,i',h',by rw [e];rfl,q⟩)
def vK:=req_dr.choose
def ahi: List AV→List Ob→Br:=drQ un0 (fun _=>true) B_ Ca vK
theorem M5 {o: OR'} {r: Rs} (h: (match o with | some r=>Br.ret r.1 r.2 | none=>Br.fail).val=some r): o=some r:=by
 cases o with
 | none=>cases h
 | some x=>simpa only [Br.val] using h
theorem wM: Sound Kx 97 ahi:=
 zJ (IE (φ:=fun code i h=>match ga 100 code i h with | some r=>Br.ret r.1 r.2 | none=> .fail) (fun _ _ _=>100) fun code i h r hv=>M5 hv) (fun (_: Unit) code i h=>match ga 100 code i h with | some r=>Br.ret r.1 r.2 | none=> .fail)
  (fun l b code i h hl=>by rw [tH hl];rfl) fun b code i h hc hg=>(req_dr.choose_spec b code i h hc hg).1
theorem afe {code: List Int} {i: Int} (h: Int) (hc: okC code i=true): okC code (vK () code i h).2.1=true∧mgQ (vK () code i h).1:=(req_dr.choose_spec () code i h hc rfl).2
def msg_dr:=zI (α:=Mg) (fun (_: Unit) code i h=>match iK 100 code i h with | some r=>Br.ret r.1 r.2 | none=> .fail) (fun _=>true) B_ Ca ([],[],0,[],false,[],[]) (fun _ m=>mgQ m) (fun _ code i h hc _=>by
 obtain ⟨v,i',h',e,q⟩:=acE code i h hc;exact ⟨v,i',h',by rw [e];rfl,q⟩)
def ck:=msg_dr.choose
def ahj: List AV→List Ob→Br:=drQ un0 (fun _=>true) B_ Ca ck
theorem Va: Sound Kx 170 ahj:=
 zJ (Pu (φ:=fun code i h=>match iK 100 code i h with | some r=>Br.ret r.1 r.2 | none=> .fail) (fun _ _ _=>100) fun code i h r hv=>M5 hv) (fun (_: Unit) code i h=>match iK 100 code i h with | some r=>Br.ret r.1 r.2 | none=> .fail)
  (fun l b code i h hl=>by rw [tH hl];rfl) fun b code i h hc hg=>(msg_dr.choose_spec b code i h hc hg).1
theorem aff {code: List Int} {i: Int} (h: Int) (hc: okC code i=true): okC code (ck () code i h).2.1=true∧mgQ (ck () code i h).1:=(msg_dr.choose_spec () code i h hc rfl).2
def ent_dr:=zI (α:=En) (fun (_: Unit) code i h=>match ef 100 code i h with | some r=>Br.ret r.1 r.2 | none=> .fail) (fun _=>true) etA etO en0 (fun _ m=>etQ m) (fun _ code i h hc _=>by
 obtain ⟨v,i',h',e,q⟩:=acF code i h hc;exact ⟨v,i',h',by rw [e];rfl,q⟩)
def j6:=ent_dr.choose
def afg: List AV→List Ob→Br:=drQ un0 (fun _=>true) etA etO j6
theorem FY: Sound Kx 150 afg:=
 zJ (Bl (φ:=fun code i h=>match ef 100 code i h with | some r=>Br.ret r.1 r.2 | none=> .fail) (fun _ _ _=>100) fun code i h r hv=>M5 hv) (fun (_: Unit) code i h=>match ef 100 code i h with | some r=>Br.ret r.1 r.2 | none=> .fail)
  (fun l b code i h hl=>by rw [tH hl];rfl) fun b code i h hc hg=>(ent_dr.choose_spec b code i h hc hg).1
theorem acG {code: List Int} {i: Int} (h: Int) (hc: okC code i=true): okC code (j6 () code i h).2.1=true∧etQ (j6 () code i h).1:=(ent_dr.choose_spec () code i h hc rfl).2
def YQ: SC:=[⟨150,_,FY⟩,⟨71,_,bQ⟩,⟨146,_,gi⟩]
abbrev vL (code: List Int) (i h: Int):=(List.set (List.replicate 1 (([]: aa),([]: aa))) 0 (([86,97,114,121]: aa),(List.getD (List.set (List.set (List.set (List.set (List.replicate 4 ([]: aa)) 0 ([42]: aa)) 1 ([65,99,99,101,112,116,44,32,97,99,99,101,112,116]: aa)) 2 ([120,44,32,42]: aa)) 3 ([65,99,99,101,112,116,44,73,102,45,78,111,110,101,45,77,97,116,99,104]: aa)) (Int.toNat (aT 4 code (am 8 code (j6 () code i h).2.1) (aw 8 (j6 () code i h).2.2))) ([]: aa))))
abbrev oh (code: List Int) (i h: Int):=((Ob.var ((AV.sh (Ty.int .u8) code)::((AV.int .i64 (am 8 code (j6 () code i h).2.1))::((AV.int .i64 (aw 8 (j6 () code i h).2.2))::[]))))::((Ob.arr (Ty.pair Ty.str Ty.str) 0 false (j6 () code i h).1.2.2.2.2.2.2.2.2.2.1)::[]))
abbrev oi (code: List Int) (i h: Int):=((AV.str (j6 () code i h).1.2.2.2.2.2.2.2.1)::((AV.bool (j6 () code i h).1.2.2.2.2.2.2.2.2.1)::((AV.ref 1 0)::((AV.str (j6 () code i h).1.2.2.2.2.2.2.2.2.2.2)::[]))))
def j7 (code: List Int) (i h: Int): Br:=(.ite ((okC code i)&&true) (.ite (okC code (j6 () code i h).2.1) (.ite (decide ((aT 8 code (j6 () code i h).2.1 (j6 () code i h).2.2)=0)) (.ret (AV.agg ((AV.str (j6 () code i h).1.2.2.2.2.1)::((AV.str (j6 () code i h).1.2.2.2.2.2.1)::((AV.int .i64 206)::(oi code i h))))) (oh code i h)) (.ite (decide ((aT 8 code (j6 () code i h).2.1 (j6 () code i h).2.2)=1)) (.ret (AV.agg [.str (j6 () code i h).1.2.2.2.2.1,.str (j6 () code i h).1.2.2.2.2.2.1,.int .i64 304,.str (j6 () code i h).1.2.2.2.2.2.2.2.1,.bool true,.ref 1 0,.str ([]: aa)]) (oh code i h)) (.ite (decide ((aT 8 code (j6 () code i h).2.1 (j6 () code i h).2.2)=2)) (.ite ((okC code (am 8 code (j6 () code i h).2.1))&&true) (.ite (decide ((((List.length (j6 () code i h).1.2.2.2.2.2.2.2.2.2.1) + (List.length (vL code i h))) * 32)≤140737488355328)) (.ret (AV.agg ((AV.str (j6 () code i h).1.2.2.2.2.1)::((AV.str (j6 () code i h).1.2.2.2.2.2.1)::((AV.int .i64 (j6 () code i h).1.2.2.2.2.2.2.1)::(oi code i h))))) [.var [.sh (Ty.int .u8) code,.int .i64 (am 4 code (am 8 code (j6 () code i h).2.1)),.int .i64 (aw 4 (aw 8 (j6 () code i h).2.2))],.arr (Ty.pair Ty.str Ty.str) 0 false ((j6 () code i h).1.2.2.2.2.2.2.2.2.2.1++(vL code i h))]) .fail) .fail) (.ret (AV.agg ((AV.str (j6 () code i h).1.2.2.2.2.1)::((AV.str (j6 () code i h).1.2.2.2.2.2.1)::((AV.int .i64 (j6 () code i h).1.2.2.2.2.2.2.1)::(oi code i h))))) (oh code i h))))) .fail) .fail)
def M6: List AV→List Ob→Br
 | [.ptr 0 0],[.var [.sh (.int .u8) code, .int .i64 i, .int .i64 h]]=>j7 code i h
 | _,_=> .fail
theorem Vb: Sound Kx 100 M6:=ae (C:=YQ) (O:=O0) Tryz.func100 (by kernel_rfl) fun args objs=>by
 unfold M6;split
 · exact .inr (by kernel_rfl)
 · exact .inl rfl
def Bm: Opt:={ live:=[(8,[2,3,4]),(26,[0,2,3,5])],outs:=[(8,[2,3]),(26,[2,3])] }
def l6bent_C: SC:=[⟨170,_,Va⟩,⟨98,_,pj⟩,⟨71,_,bQ⟩,⟨147,_,Or⟩,⟨115,_,ii⟩,⟨72,_,tG⟩]
def FZ (sP: Int) (wg: (List Int)) (wh wi: Int) (wj wl: aa) (wm: Int) (rD: aa) (sQ: Bool) (wn: aa) (gK: (List Fd)) (gL gM: aa) (qH: Int) (qI: aa) (qJ: Bool) (qK: aa) (ld: (List Fd)) (kR8: Int→(List Int)→Int→Int→aa→aa→Int→aa→Bool→aa→(List Fd)→aa→aa→Int→aa→Bool→aa→(List Fd)→OR') (Zf: (List Int)→Int→Int→aa→aa→Int→aa→Bool→aa→(List Fd)→aa→aa→Int→aa→Bool→aa→(List Fd)→OR'): OR':=
 (bif (decide ((ld.length: Int) < sP)) then (bif (decide (((ld.length + 1) * 32)≤140737488355328)) then (kR8 sP wg wh wi wj wl wm rD sQ wn gK gL gM qH qI qJ qK (ld++(List.set (List.replicate 1 (([]: aa),([]: aa))) 0 (([112]: aa),([113]: aa))))) else none) else (Zf wg wh wi wj wl wm rD sQ wn gK gL gM qH qI qJ qK ld))
def j8: Nat→Int→(List Int)→Int→Int→aa→aa→Int→aa→Bool→aa→(List Fd)→aa→aa→Int→aa→Bool→aa→(List Fd)→((List Int)→Int→Int→aa→aa→Int→aa→Bool→aa→(List Fd)→aa→aa→Int→aa→Bool→aa→(List Fd)→OR')→OR'
 | 0,_,_,_,_,_,_,_,_,_,_,_,_,_,_,_,_,_,_,_=>none
 | n + 1,sP,wg,wh,wi,wj,wl,wm,rD,sQ,wn,gK,gL,gM,qH,qI,qJ,qK,ld,Zf=>FZ sP wg wh wi wj wl wm rD sQ wn gK gL gM qH qI qJ qK ld (fun sP wg wh wi wj wl wm rD sQ wn gK gL gM qH qI qJ qK ld=>j8 n sP wg wh wi wj wl wm rD sQ wn gK gL gM qH qI qJ qK ld Zf) Zf
abbrev l6bent_p8: SP:=⟨105,[2,3,4],[(.v (.ptr 192 0)),(.v (.ptr 256 0)),(.v (.i .i64))],[(0, .var [(.sh (Ty.int .u8)),(.i .i64),(.i .i64)]),(192, .var [.s, .s,(.i .i64), .s, .b,(.ref 198 0), .s]),(198, .arr (Ty.pair Ty.str Ty.str) 0 false),(256, .var [.s, .s,(.i .i64), .s, .b,(.ref 262 0), .s]),(262, .arr (Ty.pair Ty.str Ty.str) 0 false)]⟩
noncomputable def F1: Code:=aC (aG Tryz.f99) [1,1,1,0,1,0,1,0,1,0,0]
def F2 (f: ((List Int)→Int→Int→aa→aa→Int→aa→Bool→aa→(List Fd)→aa→aa→Int→aa→Bool→aa→(List Fd)→OR')→OR') (k: KT): OR':=f (fun v7 ze zf Gg Gh Gi Gj zg zh Gk mH mI mJ Jz JA JB JC=>k (Ex.exit 1) ((St.mk (aF 0 105 [(2,(AV.ptr 192 0)),(3,(AV.ptr 256 0))]) ((0,(Ob.var [.sh (Ty.int .u8) v7,.int .i64 ze,.int .i64 zf]))::((192,(Ob.var [.str Gg,.str Gh,.int .i64 Gi,.str Gj,.bool zg,.ref 198 0,.str zh]))::((198,(Ob.arr (Ty.pair Ty.str Ty.str) 0 false Gk))::((256,(Ob.var [.str mH,.str mI,.int .i64 mJ,.str Jz,.bool JA,.ref 262 0,.str JB]))::((262,(Ob.arr (Ty.pair Ty.str Ty.str) 0 false JC))::([]: (List (Nat×(Ob))))))))))))
def F3 (n: Nat) (d: l6bent_p8.D): KT→OR':=F2 (j8 n d.1.2.2.1 d.2.1.1 d.2.1.2.1 d.2.1.2.2.1 d.2.2.1.1 d.2.2.1.2.1 d.2.2.1.2.2.1 d.2.2.1.2.2.2.1 d.2.2.1.2.2.2.2.1 d.2.2.1.2.2.2.2.2.2.1 d.2.2.2.1 d.2.2.2.2.1.1 d.2.2.2.2.1.2.1 d.2.2.2.2.1.2.2.1 d.2.2.2.2.1.2.2.2.1 d.2.2.2.2.1.2.2.2.2.1 d.2.2.2.2.1.2.2.2.2.2.2.1 d.2.2.2.2.2.1)
def gc (qL: Int) (cA: (List Int)) (gO jr: Int) (mN mO: aa) (mP: Int) (mQ: aa) (mR: Bool) (mS: aa) (gy: (List Fd)) (gz gA: aa) (gB: Int) (gC: aa) (gD: Bool) (gE: aa) (gF: (List Fd)) (aiV: Int→(List Int)→Int→Int→aa→aa→Int→aa→Bool→aa→(List Fd)→aa→aa→Int→aa→Bool→aa→(List Fd)→OR') (Zg: (List Int)→Int→Int→aa→aa→Int→aa→Bool→aa→(List Fd)→aa→aa→Int→aa→Bool→aa→(List Fd)→OR'): OR':=
 (bif (decide (qL < 7)) then (bif (okC cA gO) then (bif (((okC cA (am 9 cA gO))&&(decide ((ad (180 + (aT 9 cA gO jr)))≤1000000)))&&true) then (bif (decide (((gF.length + (List.length (List.set (List.replicate 1 (([]: aa),([]: aa))) 0 (([110]: aa),(ofS (ad (180 + (aT 9 cA gO jr))) ([118]: aa) cA (am 9 cA gO) (aw 9 jr)))))) * 32)≤140737488355328)) then (aiV (ad (qL + 1)) cA (ofI (ad (180 + (aT 9 cA gO jr))) ([118]: aa) cA (am 9 cA gO) (aw 9 jr)) (ofH (ad (180 + (aT 9 cA gO jr))) ([118]: aa) cA (am 9 cA gO) (aw 9 jr)) mN mO mP mQ mR mS gy gz gA gB gC gD gE (gF++(List.set (List.replicate 1 (([]: aa),([]: aa))) 0 (([110]: aa),(ofS (ad (180 + (aT 9 cA gO jr))) ([118]: aa) cA (am 9 cA gO) (aw 9 jr)))))) else none) else none) else none) else (Zg cA gO jr mN mO mP mQ mR mS gy gz gA gB gC gD gE gF))
def iM: Nat→Int→(List Int)→Int→Int→aa→aa→Int→aa→Bool→aa→(List Fd)→aa→aa→Int→aa→Bool→aa→(List Fd)→((List Int)→Int→Int→aa→aa→Int→aa→Bool→aa→(List Fd)→aa→aa→Int→aa→Bool→aa→(List Fd)→OR')→OR'
 | 0,_,_,_,_,_,_,_,_,_,_,_,_,_,_,_,_,_,_,_=>none
 | n + 1,qL,cA,gO,jr,mN,mO,mP,mQ,mR,mS,gy,gz,gA,gB,gC,gD,gE,gF,Zg=>gc qL cA gO jr mN mO mP mQ mR mS gy gz gA gB gC gD gE gF (fun qL cA gO jr mN mO mP mQ mR mS gy gz gA gB gC gD gE gF=>iM n qL cA gO jr mN mO mP mQ mR mS gy gz gA gB gC gD gE gF Zg) Zg
abbrev l6bent_p26: SP:=⟨105,[0,2,3,5],[(.v (.ptr 0 0)),(.v (.ptr 192 0)),(.v (.ptr 256 0)),(.v (.i .i64))],[(0, .var [(.sh (Ty.int .u8)),(.i .i64),(.i .i64)]),(192, .var [.s, .s,(.i .i64), .s, .b,(.ref 198 0), .s]),(198, .arr (Ty.pair Ty.str Ty.str) 0 false),(256, .var [.s, .s,(.i .i64), .s, .b,(.ref 262 0), .s]),(262, .arr (Ty.pair Ty.str Ty.str) 0 false)]⟩
noncomputable def y0: Code:=aC (aG Tryz.f99) [1,1,1,0,1,0,1,1,1,1,1,1,1,1,1,1,1,1,1,1,1,1,1,0,1,0,0]
def y5 (f: ((List Int)→Int→Int→aa→aa→Int→aa→Bool→aa→(List Fd)→aa→aa→Int→aa→Bool→aa→(List Fd)→OR')→OR') (k: KT): OR':=f (fun JD JE JF V2 V3 V4 V5 V6 V7 V8 B0 B1 B2 B3 B4 B5 B6=>k (Ex.exit 3) ((St.mk (aF 0 105 [(2,(AV.ptr 192 0)),(3,(AV.ptr 256 0))]) ((0,(Ob.var [.sh (Ty.int .u8) JD,.int .i64 JE,.int .i64 JF]))::((192,(Ob.var [.str V2,.str V3,.int .i64 V4,.str V5,.bool V6,.ref 198 0,.str V7]))::((198,(Ob.arr (Ty.pair Ty.str Ty.str) 0 false V8))::((256,(Ob.var [.str B0,.str B1,.int .i64 B2,.str B3,.bool B4,.ref 262 0,.str B5]))::((262,(Ob.arr (Ty.pair Ty.str Ty.str) 0 false B6))::([]: (List (Nat×(Ob))))))))))))
def y6 (n: Nat) (d: l6bent_p26.D): KT→OR':=y5 (iM n d.1.2.2.2.1 d.2.1.1 d.2.1.2.1 d.2.1.2.2.1 d.2.2.1.1 d.2.2.1.2.1 d.2.2.1.2.2.1 d.2.2.1.2.2.2.1 d.2.2.1.2.2.2.2.1 d.2.2.1.2.2.2.2.2.2.1 d.2.2.2.1 d.2.2.2.2.1.1 d.2.2.2.2.1.2.1 d.2.2.2.2.1.2.2.1 d.2.2.2.2.1.2.2.2.1 d.2.2.2.2.1.2.2.2.2.1 d.2.2.2.2.1.2.2.2.2.2.2.1 d.2.2.2.2.2.1)
def Bn (N: Nat): Lam:=bH [⟨8,l6bent_p8,F3 N⟩,⟨26,l6bent_p26,y6 N⟩]
theorem Pw (N: Nat): OkL Kx l6bent_C.s Bm 1 N (Bn N) F1:=okL l6bent_p8 (F3) (fun d kR=>F2 (FZ d.1.2.2.1 d.2.1.1 d.2.1.2.1 d.2.1.2.2.1 d.2.2.1.1 d.2.2.1.2.1 d.2.2.1.2.2.1 d.2.2.1.2.2.2.1 d.2.2.1.2.2.2.2.1 d.2.2.1.2.2.2.2.2.2.1 d.2.2.2.1 d.2.2.2.2.1.1 d.2.2.2.2.1.2.1 d.2.2.2.2.1.2.2.1 d.2.2.2.2.1.2.2.2.1 d.2.2.2.2.1.2.2.2.2.1 d.2.2.2.2.1.2.2.2.2.2.2.1 d.2.2.2.2.2.1 (fun sP wg wh wi wj wl wm rD sQ wn gK gL gM qH qI qJ qK ld=>kR (((),(),sP,()),((wg,wh,wi,()),(wj,wl,wm,rD,sQ,(),wn,()),gK,(gL,gM,qH,qI,qJ,(),qK,()),ld,()))))) (fun _ _=>by kernel_rfl) (fun _ _ _=>by kernel_rfl) (fun _ _=>by kernel_rfl) (fun _ _ _ _=>by kernel_rfl) (al (l':=[]) (by kernel_rfl) trivial)
theorem IG (N: Nat): OkL Kx l6bent_C.s Bm 1 N (Bn N) y0:=okL l6bent_p26 (y6) (fun d kR=>y5 (gc d.1.2.2.2.1 d.2.1.1 d.2.1.2.1 d.2.1.2.2.1 d.2.2.1.1 d.2.2.1.2.1 d.2.2.1.2.2.1 d.2.2.1.2.2.2.1 d.2.2.1.2.2.2.2.1 d.2.2.1.2.2.2.2.2.2.1 d.2.2.2.1 d.2.2.2.2.1.1 d.2.2.2.2.1.2.1 d.2.2.2.2.1.2.2.1 d.2.2.2.2.1.2.2.2.1 d.2.2.2.2.1.2.2.2.2.1 d.2.2.2.2.1.2.2.2.2.2.2.1 d.2.2.2.2.2.1 (fun qL cA gO jr mN mO mP mQ mR mS gy gz gA gB gC gD gE gF=>kR (((),(),(),qL,()),((cA,gO,jr,()),(mN,mO,mP,mQ,mR,(),mS,()),gy,(gz,gA,gB,gC,gD,(),gE,()),gF,()))))) (fun _ _=>by kernel_rfl) (fun _ _ _=>by kernel_rfl) (fun _ _=>by kernel_rfl) (fun _ _ _ _=>by kernel_rfl) (al (l':=[]) (by kernel_rfl) trivial)
abbrev aJ (code h i):=(am 10 code (am 4 code (ck () code i h).2.1))
abbrev cm (code h i):=(aT 2 code (aJ code h i) (aw 10 (aw 4 (ck () code i h).2.2)))
abbrev dL (code h i):=(aT 10 code (am 4 code (ck () code i h).2.1) (aw 4 (ck () code i h).2.2))
abbrev bm (code h i):=(aw 10 (aw 4 (ck () code i h).2.2))
def gd (N: Nat) (code: List Int) (i h: Int): OR':=(bif ((okC code i)&&true) then (bif (okC code (ck () code i h).2.1) then (bif (!(decide ((aT 4 code (ck () code i h).2.1 (ck () code i h).2.2)=0))) then (some ((AV.agg [.str (ck () code i h).1.1,.str (ck () code i h).1.2.1,.int .i64 (ck () code i h).1.2.2.1,.str (ck () code i h).1.2.2.2.1,.bool (ck () code i h).1.2.2.2.2.1,.ref 1 0,.str (ck () code i h).1.2.2.2.2.2.2]),[.var [.sh (Ty.int .u8) code,.int .i64 (am 4 code (ck () code i h).2.1),.int .i64 (aw 4 (ck () code i h).2.2)],.arr (Ty.pair Ty.str Ty.str) 0 false (ck () code i h).1.2.2.2.2.2.1])) else (bif (okC code (am 4 code (ck () code i h).2.1)) then (bif (decide ((dL code h i)=8)) then (bif (okC code (aJ code h i)) then (j8 N (ad (20 - (cm code h i))) code (am 2 code (aJ code h i)) (aw 2 (bm code h i)) ([]: aa) ([]: aa) 0 ([]: aa) false ([]: aa) ([]: (List Fd)) (ck () code i h).1.1 (ck () code i h).1.2.1 (ck () code i h).1.2.2.1 (ck () code i h).1.2.2.2.1 (ck () code i h).1.2.2.2.2.1 (ck () code i h).1.2.2.2.2.2.2 (ck () code i h).1.2.2.2.2.2.1 (fun v7 ze zf Gg Gh Gi Gj zg zh Gk mH mI mJ Jz JA JB JC=>(some ((AV.agg [.str mH,.str mI,.int .i64 mJ,.str Jz,.bool JA,.ref 1 0,.str JB]),[.var [.sh (Ty.int .u8) v7,.int .i64 ze,.int .i64 zf],.arr (Ty.pair Ty.str Ty.str) 0 false JC])))) else none) else (bif (decide ((dL code h i)=0)) then (bif ((okC code (aJ code h i))&&(decide ((List.length (ck () code i h).1.1)≤1000000))) then (some ((AV.agg [.str (wB (ck () code i h).1.1 code (aJ code h i) (bm code h i)).1,.str (ck () code i h).1.2.1,.int .i64 (ck () code i h).1.2.2.1,.str (ck () code i h).1.2.2.2.1,.bool (ck () code i h).1.2.2.2.2.1,.ref 1 0,.str (ck () code i h).1.2.2.2.2.2.2]),[.var [.sh (Ty.int .u8) code,.int .i64 (wB (ck () code i h).1.1 code (aJ code h i) (bm code h i)).2.1,.int .i64 (wB (ck () code i h).1.1 code (aJ code h i) (bm code h i)).2.2],.arr (Ty.pair Ty.str Ty.str) 0 false (ck () code i h).1.2.2.2.2.2.1])) else none) else (bif (decide ((dL code h i)=1)) then (bif ((okC code (aJ code h i))&&(decide ((List.length (ck () code i h).1.2.1)≤1000000))) then (some ((AV.agg [.str (ck () code i h).1.1,.str (wB (ck () code i h).1.2.1 code (aJ code h i) (bm code h i)).1,.int .i64 (ck () code i h).1.2.2.1,.str (ck () code i h).1.2.2.2.1,.bool (ck () code i h).1.2.2.2.2.1,.ref 1 0,.str (ck () code i h).1.2.2.2.2.2.2]),[.var [.sh (Ty.int .u8) code,.int .i64 (wB (ck () code i h).1.2.1 code (aJ code h i) (bm code h i)).2.1,.int .i64 (wB (ck () code i h).1.2.1 code (aJ code h i) (bm code h i)).2.2],.arr (Ty.pair Ty.str Ty.str) 0 false (ck () code i h).1.2.2.2.2.2.1])) else none) else (bif (decide ((dL code h i)=2)) then (bif ((okC code (aJ code h i))&&true) then (some ((AV.agg [.str (ck () code i h).1.1,.str (ck () code i h).1.2.1,.int .i64 (List.getD (List.set (List.set (List.set (List.set (List.set (List.set (List.replicate 6 (0 : Int)) 0 0) 1 199) 2 200) 3 600) 4 304) 5 204) (Int.toNat (aT 6 code (aJ code h i) (bm code h i))) 0),.str (ck () code i h).1.2.2.2.1,.bool (ck () code i h).1.2.2.2.2.1,.ref 1 0,.str (ck () code i h).1.2.2.2.2.2.2]),[.var [.sh (Ty.int .u8) code,.int .i64 (am 6 code (aJ code h i)),.int .i64 (aw 6 (bm code h i))],.arr (Ty.pair Ty.str Ty.str) 0 false (ck () code i h).1.2.2.2.2.2.1])) else none) else (bif (decide ((dL code h i)=3)) then (bif (okC code (aJ code h i)) then (bif (((okC code (am 2 code (aJ code h i)))&&(decide ((ad (40 + (cm code h i)))≤1000000)))&&true) then (some ((AV.agg [.str (ck () code i h).1.1,.str (ck () code i h).1.2.1,.int .i64 (ck () code i h).1.2.2.1,.str (ofS (ad (40 + (cm code h i))) ([114,32]: aa) code (am 2 code (aJ code h i)) (aw 2 (bm code h i))),.bool (ck () code i h).1.2.2.2.2.1,.ref 1 0,.str (ck () code i h).1.2.2.2.2.2.2]),[.var [.sh (Ty.int .u8) code,.int .i64 (ofI (ad (40 + (cm code h i))) ([114,32]: aa) code (am 2 code (aJ code h i)) (aw 2 (bm code h i))),.int .i64 (ofH (ad (40 + (cm code h i))) ([114,32]: aa) code (am 2 code (aJ code h i)) (aw 2 (bm code h i)))],.arr (Ty.pair Ty.str Ty.str) 0 false (ck () code i h).1.2.2.2.2.2.1])) else none) else none) else (bif (decide ((dL code h i)=4)) then (some ((AV.agg [.str (ck () code i h).1.1,.str (ck () code i h).1.2.1,.int .i64 (ck () code i h).1.2.2.1,.str (ck () code i h).1.2.2.2.1,.bool (!(ck () code i h).1.2.2.2.2.1),.ref 1 0,.str (ck () code i h).1.2.2.2.2.2.2]),[.var [.sh (Ty.int .u8) code,.int .i64 (aJ code h i),.int .i64 (bm code h i)],.arr (Ty.pair Ty.str Ty.str) 0 false (ck () code i h).1.2.2.2.2.2.1])) else (bif (decide ((dL code h i)=5)) then (bif (okC code (aJ code h i)) then (bif (((okC code (am 2 code (aJ code h i)))&&(decide ((ad (600 + (cm code h i)))≤1000000)))&&true) then (some ((AV.agg [.str (ck () code i h).1.1,.str (ck () code i h).1.2.1,.int .i64 (ck () code i h).1.2.2.1,.str (ck () code i h).1.2.2.2.1,.bool (ck () code i h).1.2.2.2.2.1,.ref 1 0,.str (ofS (ad (600 + (cm code h i))) ([98,66]: aa) code (am 2 code (aJ code h i)) (aw 2 (bm code h i)))]),[.var [.sh (Ty.int .u8) code,.int .i64 (ofI (ad (600 + (cm code h i))) ([98,66]: aa) code (am 2 code (aJ code h i)) (aw 2 (bm code h i))),.int .i64 (ofH (ad (600 + (cm code h i))) ([98,66]: aa) code (am 2 code (aJ code h i)) (aw 2 (bm code h i)))],.arr (Ty.pair Ty.str Ty.str) 0 false (ck () code i h).1.2.2.2.2.2.1])) else none) else none) else (bif (decide ((dL code h i)=6)) then (bif (decide ((((List.length (ck () code i h).1.2.2.2.2.2.1) + 1) * 32)≤140737488355328)) then (some ((AV.agg [.str (ck () code i h).1.1,.str (ck () code i h).1.2.1,.int .i64 (ck () code i h).1.2.2.1,.str (ck () code i h).1.2.2.2.1,.bool (ck () code i h).1.2.2.2.2.1,.ref 1 0,.str (ck () code i h).1.2.2.2.2.2.2]),[.var [.sh (Ty.int .u8) code,.int .i64 (aJ code h i),.int .i64 (bm code h i)],.arr (Ty.pair Ty.str Ty.str) 0 false ((ck () code i h).1.2.2.2.2.2.1++(List.set (List.replicate 1 (([]: aa),([]: aa))) 0 (([67,111,110,116,101,110,116,45,108,101,110,103,116,104]: aa),([51]: aa))))])) else none) else (bif (decide ((dL code h i)=7)) then (iM N 0 code (aJ code h i) (bm code h i) ([]: aa) ([]: aa) 0 ([]: aa) false ([]: aa) ([]: (List Fd)) (ck () code i h).1.1 (ck () code i h).1.2.1 (ck () code i h).1.2.2.1 (ck () code i h).1.2.2.2.1 (ck () code i h).1.2.2.2.2.1 (ck () code i h).1.2.2.2.2.2.2 (ck () code i h).1.2.2.2.2.2.1 (fun JD JE JF V2 V3 V4 V5 V6 V7 V8 B0 B1 B2 B3 B4 B5 B6=>(some ((AV.agg [.str B0,.str B1,.int .i64 B2,.str B3,.bool B4,.ref 1 0,.str B5]),[.var [.sh (Ty.int .u8) JD,.int .i64 JE,.int .i64 JF],.arr (Ty.pair Ty.str Ty.str) 0 false B6])))) else (bif (okC code (aJ code h i)) then (bif (((okC code (am 2 code (aJ code h i)))&&(decide ((ad (193 + (cm code h i)))≤1000000)))&&true) then (bif (decide ((7 + (List.length (ofS (ad (193 + (cm code h i))) ([116]: aa) code (am 2 code (aJ code h i)) (aw 2 (bm code h i)))))≤9223372036854775807)) then (some ((AV.agg [.str (ck () code i h).1.1,.str (([104,116,116,112,58,47,47]: aa)++(ofS (ad (193 + (cm code h i))) ([116]: aa) code (am 2 code (aJ code h i)) (aw 2 (bm code h i)))),.int .i64 (ck () code i h).1.2.2.1,.str (ck () code i h).1.2.2.2.1,.bool (ck () code i h).1.2.2.2.2.1,.ref 1 0,.str (ck () code i h).1.2.2.2.2.2.2]),[.var [.sh (Ty.int .u8) code,.int .i64 (ofI (ad (193 + (cm code h i))) ([116]: aa) code (am 2 code (aJ code h i)) (aw 2 (bm code h i))),.int .i64 (ofH (ad (193 + (cm code h i))) ([116]: aa) code (am 2 code (aJ code h i)) (aw 2 (bm code h i)))],.arr (Ty.pair Ty.str Ty.str) 0 false (ck () code i h).1.2.2.2.2.2.1])) else none) else none) else none)))))))))) else none)) else none) else none)
def y7 (φ: (List Int)→Int→Int→Br): List AV→List Ob→Br
 | [.ptr 0 0],[.var [.sh (.int .u8) code, .int .i64 i, .int .i64 h]]=>φ code i h
 | _,_=> .fail
theorem IH {φ: (List Int)→Int→Int→Br} (fu: (List Int)→Int→Int→Nat) (hv: ∀ code i h res_,(φ code i h).val=some res_→gd (fu code i h) code i h=some res_): Sound Kx 99 (y7 φ):=ap (C:=l6bent_C) (O:=Bm) Tryz.func99 (by kernel_rfl) fun args objs=>by
 unfold y7;split
 · rename_i code i h;exact .inr fun _ hyp_=>aO (Λ:=Bn (fu code i h)) (by kernel_rfl) (al (l':=[F1,y0]) (by kernel_rfl) ⟨Pw _,IG _,trivial⟩) (by kernel_rfl) (hv code i h _ hyp_)
 · exact .inl rfl
end
end Go.Proofs.YtgknmoadpgpdeaaGreatDoor.Ev
