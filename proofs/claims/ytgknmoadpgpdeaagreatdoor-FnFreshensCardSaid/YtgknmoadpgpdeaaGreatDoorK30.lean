/- The texts Ya, Yb, Yc, Yd, Ye, Yf, Yg, ContS, Yh, Yi, Yj, Yk, Qi, Qj, Qk, Ql, Qm, one behind the other. -/
import Derived.Test.YtgknmoadpgpdeaaGreatDoorK25
import Derived.Test.YtgknmoadpgpdeaaGreatDoorK29
import Derived.Test.YtgknmoadpgpdeaaGreatDoorK13
import Derived.Test.YtgknmoadpgpdeaaGreatDoorK24
import Derived.Test.YtgknmoadpgpdeaaGreatDoorK19
import Derived.Test.YtgknmoadpgpdeaaGreatDoorK20
namespace Go.Proofs.YtgknmoadpgpdeaaGreatDoor.Ev
open Go Go.RowKit
set_option linter.unusedVariables false
set_option linter.unusedSimpArgs false
noncomputable section
def RZ (y: Int): Br:=(.ret (AV.int .i64 (ai ((ai ((ai ((ai ((ai (365 * (ai (y - 1970)))) + (ai (Int.tdiv (ai (y - 1)) 4)))) - (ai (Int.tdiv (ai (y - 1)) 100)))) + (ai (Int.tdiv (ai (y - 1)) 400)))) - 477))) [])
def aes: List AV→List Ob→Br
 | [.int .i64 y],[]=>RZ y
 | _,_=> .fail
theorem aet: Sound Kx 249 aes:=ah (C:=[]) (O:=O0) Tryz.func249 (by kernel_rfl) fun args objs=>by
 unfold aes;split
 · exact .inr (by kernel_rfl)
 · exact .inl rfl
def R0 (y m: Int): Br:=(.ite (decide (m=2)) (.ite (decide ((Int.tmod y 4)=0)) (.ite (!(decide ((Int.tmod y 100)=0))) (.ret (AV.int .i64 29) []) (.ite (decide ((Int.tmod y 400)=0)) (.ret (AV.int .i64 29) []) (.ite (decide (m=2)) (.ret (AV.int .i64 28) []) (.ite (decide (m=4)) (.ret (AV.int .i64 30) []) (.ite (decide (m=6)) (.ret (AV.int .i64 30) []) (.ite (decide (m=9)) (.ret (AV.int .i64 30) []) (.ite (decide (m=11)) (.ret (AV.int .i64 30) []) (.ret (AV.int .i64 31) [])))))))) (.ite (decide ((Int.tmod y 400)=0)) (.ret (AV.int .i64 29) []) (.ite (decide (m=2)) (.ret (AV.int .i64 28) []) (.ite (decide (m=4)) (.ret (AV.int .i64 30) []) (.ite (decide (m=6)) (.ret (AV.int .i64 30) []) (.ite (decide (m=9)) (.ret (AV.int .i64 30) []) (.ite (decide (m=11)) (.ret (AV.int .i64 30) []) (.ret (AV.int .i64 31) [])))))))) (.ite (decide (m=2)) (.ret (AV.int .i64 28) []) (.ite (decide (m=4)) (.ret (AV.int .i64 30) []) (.ite (decide (m=6)) (.ret (AV.int .i64 30) []) (.ite (decide (m=9)) (.ret (AV.int .i64 30) []) (.ite (decide (m=11)) (.ret (AV.int .i64 30) []) (.ret (AV.int .i64 31) [])))))))
def aeu: List AV→List Ob→Br
 | [.int .i64 y, .int .i64 m],[]=>R0 y m
 | _,_=> .fail
theorem aev: Sound Kx 250 aeu:=ah (C:=[]) (O:=O0) Tryz.func250 (by kernel_rfl) fun args objs=>by
 unfold aeu;split
 · exact .inr (by kernel_rfl)
 · exact .inl rfl
def ZG: Opt:={ live:=[(2,[0,1,5])],outs:=[(2,[4,5])] }
def iDig_C: SC:=[⟨232,_,Fg⟩]
def zk (aK aM: Int) (cr: aa) (kR2: Int→Int→aa→OR') (cu: aa→OR'): OR':=
 (bif (decide (0 < aM)) then (bif (bC (Int.tmod aK 10)) then (bif (decide (((List.length (bT (Int.tmod aK 10))) + cr.length)≤9223372036854775807)) then (kR2 (ai (Int.tdiv aK 10)) (ai (aM - 1)) ((bT (Int.tmod aK 10))++cr)) else none) else none) else (cu cr))
def oW: Nat→Int→Int→aa→(aa→OR')→OR'
 | 0,_,_,_,_=>none
 | n + 1,aK,aM,cr,cu=>zk aK aM cr (fun aK aM cr=>oW n aK aM cr cu) cu
abbrev iDig_p2: SP:=⟨18,[0,1,5],[(.v (.i .i64)),(.v (.i .i64)),(.v .s)],[]⟩
noncomputable def R4: Code:=aD (aG Tryz.f254) [1,1,0,0,0]
def R5 (f: (aa→OR')→OR') (k: KT): OR':=f (fun bS=>k (Ex.exit 0) ((St.mk (aH 0 18 [(5,(AV.str bS))]) ([]: (List (Nat×(Ob)))))))
def R6 (n: Nat) (d: iDig_p2.D): KT→OR':=R5 (oW n d.1.1 d.1.2.1 d.1.2.2.1)
def ZH (N: Nat): Lam:=bw [⟨2,iDig_p2,R6 N⟩]
theorem Xy (N: Nat): OkL Kx iDig_C.s ZG 0 N (ZH N) R4:=okL iDig_p2 (R6) (fun d kR=>R5 (zk d.1.1 d.1.2.1 d.1.2.2.1 (fun aK aM cr=>kR ((aK,aM,cr,()),())))) (fun _ _=>by kernel_rfl) (fun _ _ _=>by kernel_rfl) (fun _ _=>by kernel_rfl) (fun _ _ _ _=>by kernel_rfl) (am (l':=[]) (by kernel_rfl) trivial)
def Kj (N: Nat) (n k: Int): OR':=(oW N n k ([]: aa) (fun bS=>(some ((AV.str bS),[]))))
def Kk (φ: Int→Int→Br): List AV→List Ob→Br
 | [.int .i64 n, .int .i64 k],[]=>φ n k
 | _,_=> .fail
theorem R7 {φ: Int→Int→Br} (fu: Int→Int→Nat) (hv: ∀ n k res_,(φ n k).val=some res_→Kj (fu n k) n k=some res_): Sound Kx 254 (Kk φ):=ar (C:=iDig_C) (O:=ZG) Tryz.func254 (by kernel_rfl) fun args objs=>by
 unfold Kk;split
 · rename_i n k;exact .inr fun _ hyp_=>aS (Λ:=ZH (fu n k)) (by kernel_rfl) (am (l':=[R4]) (by kernel_rfl) ⟨Xy _,trivial⟩) (by kernel_rfl) (hv n k _ hyp_)
 · exact .inl rfl
def Xz: Br:=(.ret (AV.ref 0 0) [.arr Ty.str 0 false (List.set (List.set (List.set (List.set (List.set (List.set (List.set (List.replicate 7 ([]: aa)) 0 ([77,111,110,100,97,121]: aa)) 1 ([84,117,101,115,100,97,121]: aa)) 2 ([87,101,100,110,101,115,100,97,121]: aa)) 3 ([84,104,117,114,115,100,97,121]: aa)) 4 ([70,114,105,100,97,121]: aa)) 5 ([83,97,116,117,114,100,97,121]: aa)) 6 ([83,117,110,100,97,121]: aa))])
def R8: List AV→List Ob→Br
 | [],[]=>Xz
 | _,_=> .fail
theorem iDays_ok: Sound Kx 252 R8:=ah (C:=[]) (O:=O0) Tryz.func252 (by kernel_rfl) fun args objs=>by
 unfold R8;split
 · exact .inr (by kernel_rfl)
 · exact .inl rfl
def XA: Br:=(.ret (AV.ref 0 0) [.arr Ty.str 0 false (List.set (List.set (List.set (List.set (List.set (List.set (List.set (List.set (List.set (List.set (List.set (List.set (List.replicate 12 ([]: aa)) 0 ([74,97,110]: aa)) 1 ([70,101,98]: aa)) 2 ([77,97,114]: aa)) 3 ([65,112,114]: aa)) 4 ([77,97,121]: aa)) 5 ([74,117,110]: aa)) 6 ([74,117,108]: aa)) 7 ([65,117,103]: aa)) 8 ([83,101,112]: aa)) 9 ([79,99,116]: aa)) 10 ([78,111,118]: aa)) 11 ([68,101,99]: aa))])
def R9: List AV→List Ob→Br
 | [],[]=>XA
 | _,_=> .fail
theorem iMons_ok: Sound Kx 245 R9:=ah (C:=[]) (O:=O0) Tryz.func245 (by kernel_rfl) fun args objs=>by
 unfold R9;split
 · exact .inr (by kernel_rfl)
 · exact .inl rfl
def GB: Opt:={ live:=[(7,[0,3,4,5,6]),(3,[0,3,4])],outs:=[(7,[0,2,3,4,5,6]),(3,[2,3])] }
def iNums_C: SC:=[⟨244,_,fh⟩]
def rU (ca: aa) (dI cU bN: Int) (eq: (List Int)) (kR7 vK: aa→Int→Int→Int→(List Int)→OR'): OR':=
 (bif (decide (cU < (ca.length: Int))) then (bif (decide (0≤cU)) then (bif (decide (cU < (ca.length: Int))) then (bif (aJ (aC ca cU)) then (bif (decide ((ai (cU - dI)) < 9)) then (bif (decide (0≤cU)) then (bif (decide (cU < (ca.length: Int))) then (kR7 ca dI (ai (cU + 1)) (ai ((ai (10 * bN)) + (ai (wk8 ((aC ca cU) - 48))))) eq) else none) else none) else (vK ca dI cU bN eq)) else (vK ca dI cU bN eq)) else none) else none) else (vK ca dI cU bN eq))
def lf: Nat→aa→Int→Int→Int→(List Int)→(aa→Int→Int→Int→(List Int)→OR')→OR'
 | 0,_,_,_,_,_,_=>none
 | n + 1,ca,dI,cU,bN,eq,vK=>rU ca dI cU bN eq (fun ca dI cU bN eq=>lf n ca dI cU bN eq vK) vK
abbrev iNums_p7: SP:=⟨50,[0,3,4,5,6],[(.v .s),(.v (.ref 256 0)),(.v (.i .i64)),(.v (.i .i64)),(.v (.i .i64))],[(256, .arr (Ty.int .i64) 0 false)]⟩
noncomputable def zm: Code:=aD (aG Tryz.f205) [1,1,0,1,0,0,1,0,0,1,1,0,0,0]
def Kl (f: (aa→Int→Int→Int→(List Int)→OR')→OR') (k: KT): OR':=f (fun dR fP f5 vc qQ=>k (Ex.exit 2) ((St.mk (aH 0 50 [(0,(AV.str dR)),(3,(AV.ref 256 0)),(4,(AV.int .i64 fP)),(5,(AV.int .i64 f5)),(6,(AV.int .i64 vc))]) ((256,(Ob.arr (Ty.int .i64) 0 false qQ))::([]: (List (Nat×(Ob))))))))
def Km (n: Nat) (d: iNums_p7.D): KT→OR':=Kl (lf n d.1.1 d.1.2.2.1 d.1.2.2.2.1 d.1.2.2.2.2.1 d.2.1)
def nO (N: Nat) (aL: aa) (aA: Int) (bu: (List Int)) (kR3: aa→Int→(List Int)→OR') (eK: (List Int)→OR'): OR':=
 (bif (decide (aA < (aL.length: Int))) then (lf N aL aA aA 0 bu (fun dR fP f5 vc qQ=>(bif (decide (fP < f5)) then (bif (decide (((qQ.length + (List.length (List.set (List.replicate 1 (0 : Int)) 0 vc))) * 8)≤140737488355328)) then (kR3 dR (ai ((ai (f5 - 1)) + 1)) (qQ++(List.set (List.replicate 1 (0 : Int)) 0 vc))) else none) else (kR3 dR (ai (fP + 1)) qQ)))) else (eK bu))
def jD (N: Nat): Nat→aa→Int→(List Int)→((List Int)→OR')→OR'
 | 0,_,_,_,_=>none
 | n + 1,aL,aA,bu,eK=>nO N aL aA bu (fun aL aA bu=>jD N n aL aA bu eK) eK
abbrev iNums_p3: SP:=⟨50,[0,3,4],[(.v .s),(.v (.ref 256 0)),(.v (.i .i64))],[(256, .arr (Ty.int .i64) 0 false)]⟩
noncomputable def Kn: Code:=aD (aG Tryz.f205) [1,1,0,1,0,0]
def Ko (f: ((List Int)→OR')→OR') (k: KT): OR':=f (fun ab=>k (Ex.exit 0) ((St.mk (aH 0 50 [(3,(AV.ref 256 0))]) ((256,(Ob.arr (Ty.int .i64) 0 false ab))::([]: (List (Nat×(Ob))))))))
def Kp (N n: Nat) (d: iNums_p3.D): KT→OR':=Ko (jD N n d.1.1 d.1.2.2.1 d.2.1)
def GC (N: Nat): Lam:=bw [⟨7,iNums_p7,Km N⟩,⟨3,iNums_p3,Kp N N⟩]
theorem D0 (N: Nat): OkL Kx iNums_C.s GB 0 N (GC N) zm:=okL iNums_p7 (Km) (fun d kR=>Kl (rU d.1.1 d.1.2.2.1 d.1.2.2.2.1 d.1.2.2.2.2.1 d.2.1 (fun ca dI cU bN eq=>kR ((ca,(),dI,cU,bN,()),(eq,()))))) (fun _ _=>by kernel_rfl) (fun _ _ _=>by kernel_rfl) (fun _ _=>by kernel_rfl) (fun _ _ _ _=>by kernel_rfl) (am (l':=[]) (by kernel_rfl) trivial)
theorem R_ (N: Nat): OkL Kx iNums_C.s GB 0 N (GC N) Kn:=okL iNums_p3 (Kp N) (fun d kR=>Ko (nO N d.1.1 d.1.2.2.1 d.2.1 (fun aL aA bu=>kR ((aL,(),aA,()),(bu,()))))) (fun _ _=>by kernel_rfl) (fun _ _ _=>by kernel_rfl) (fun _ _=>by kernel_rfl) (fun _ _ _ _=>by kernel_rfl) (am (l':=[zm]) (by kernel_rfl) ⟨D0 _,trivial⟩)
def D1 (N: Nat) (s: aa): OR':=(jD N N s 0 ([]: (List Int)) (fun ab=>(some ((AV.ref 0 0),[.arr (Ty.int .i64) 0 false ab]))))
def D2 (φ: aa→Br): List AV→List Ob→Br
 | [.str s],[]=>φ s
 | _,_=> .fail
theorem Ny {φ: aa→Br} (fu: aa→Nat) (hv: ∀ s res_,(φ s).val=some res_→D1 (fu s) s=some res_): Sound Kx 205 (D2 φ):=ar (C:=iNums_C) (O:=GB) Tryz.func205 (by kernel_rfl) fun args objs=>by
 unfold D2;split
 · rename_i s;exact .inr fun _ hyp_=>aS (Λ:=GC (fu s)) (by kernel_rfl) (am (l':=[Kn,zm]) (by kernel_rfl) ⟨R_ _,D0 _,trivial⟩) (by kernel_rfl) (hv s _ hyp_)
 · exact .inl rfl
def zn (y: Int): Br:=(.ite (decide ((Int.tmod y 4)=0)) (.ite (!(decide ((Int.tmod y 100)=0))) (.ret (AV.bool true) []) (.ret (AV.bool (decide ((Int.tmod y 400)=0))) [])) (.ret (AV.bool false) []))
def Sa: List AV→List Ob→Br
 | [.int .i64 y],[]=>zn y
 | _,_=> .fail
theorem XB: Sound Kx 292 Sa:=ah (C:=[]) (O:=O0) Tryz.func292 (by kernel_rfl) fun args objs=>by
 unfold Sa;split
 · exact .inr (by kernel_rfl)
 · exact .inl rfl
def zo (k: Int): Br:=(.ite (decide (k=0)) (.ret (AV.str ([77,111,110,100,97,121]: aa)) []) (.ite (decide (k=1)) (.ret (AV.str ([84,117,101,115,100,97,121]: aa)) []) (.ite (decide (k=2)) (.ret (AV.str ([87,101,100,110,101,115,100,97,121]: aa)) []) (.ite (decide (k=3)) (.ret (AV.str ([84,104,117,114,115,100,97,121]: aa)) []) (.ite (decide (k=4)) (.ret (AV.str ([70,114,105,100,97,121]: aa)) []) (.ite (decide (k=5)) (.ret (AV.str ([83,97,116,117,114,100,97,121]: aa)) []) (.ret (AV.str ([83,117,110,100,97,121]: aa)) [])))))))
def Sb: List AV→List Ob→Br
 | [.int .i64 k],[]=>zo k
 | _,_=> .fail
theorem XC: Sound Kx 216 Sb:=ah (C:=[]) (O:=O0) Tryz.func216 (by kernel_rfl) fun args objs=>by
 unfold Sb;split
 · exact .inr (by kernel_rfl)
 · exact .inl rfl
def zp (m: Int): Br:=(.ite (decide (0≤(ai ((ai (3 * m)) - 3)))) (.ite (decide ((ai ((ai (3 * m)) - 3))≤(ai (3 * m)))) (.ite (decide ((ai (3 * m))≤36)) (.ret (AV.str (cut ([74,97,110,70,101,98,77,97,114,65,112,114,77,97,121,74,117,110,74,117,108,65,117,103,83,101,112,79,99,116,78,111,118,68,101,99]: aa) (ai ((ai (3 * m)) - 3)) (ai (3 * m)))) []) .fail) .fail) .fail)
def Sc: List AV→List Ob→Br
 | [.int .i64 m],[]=>zp m
 | _,_=> .fail
theorem XD: Sound Kx 214 Sc:=ah (C:=[]) (O:=O0) Tryz.func214 (by kernel_rfl) fun args objs=>by
 unfold Sc;split
 · exact .inr (by kernel_rfl)
 · exact .inl rfl
def ZI: Opt:={ live:=[(2,[1,5])],outs:=[(2,[4,5])] }
def sPad_C: SC:=[⟨191,_,oD⟩]
def zq (aK: Int) (aM: aa) (kR2: Int→aa→OR') (cu: aa→OR'): OR':=
 (bif (decide ((aM.length: Int) < aK)) then (bif (decide ((1 + aM.length)≤9223372036854775807)) then (kR2 aK (([48]: aa)++aM)) else none) else (cu aM))
def mL: Nat→Int→aa→(aa→OR')→OR'
 | 0,_,_,_=>none
 | n + 1,aK,aM,cu=>zq aK aM (fun aK aM=>mL n aK aM cu) cu
abbrev sPad_p2: SP:=⟨15,[1,5],[(.v (.i .i64)),(.v .s)],[]⟩
noncomputable def Sd: Code:=aD (aG Tryz.f218) [1,1,0,0,0]
def Se (f: (aa→OR')→OR') (k: KT): OR':=f (fun bS=>k (Ex.exit 0) ((St.mk (aH 0 15 [(5,(AV.str bS))]) ([]: (List (Nat×(Ob)))))))
def Sf (n: Nat) (d: sPad_p2.D): KT→OR':=Se (mL n d.1.1 d.1.2.1)
def ZJ (N: Nat): Lam:=bw [⟨2,sPad_p2,Sf N⟩]
theorem XE (N: Nat): OkL Kx sPad_C.s ZI 0 N (ZJ N) Sd:=okL sPad_p2 (Sf) (fun d kR=>Se (zq d.1.1 d.1.2.1 (fun aK aM=>kR ((aK,aM,()),())))) (fun _ _=>by kernel_rfl) (fun _ _ _=>by kernel_rfl) (fun _ _=>by kernel_rfl) (fun _ _ _ _=>by kernel_rfl) (am (l':=[]) (by kernel_rfl) trivial)
def Kq (N: Nat) (n k: Int): OR':=(bif (bC n) then (mL N k (bT n) (fun bS=>(some ((AV.str bS),[])))) else none)
def Kr (φ: Int→Int→Br): List AV→List Ob→Br
 | [.int .i64 n, .int .i64 k],[]=>φ n k
 | _,_=> .fail
theorem Sg {φ: Int→Int→Br} (fu: Int→Int→Nat) (hv: ∀ n k res_,(φ n k).val=some res_→Kq (fu n k) n k=some res_): Sound Kx 218 (Kr φ):=ar (C:=sPad_C) (O:=ZI) Tryz.func218 (by kernel_rfl) fun args objs=>by
 unfold Kr;split
 · rename_i n k;exact .inr fun _ hyp_=>aS (Λ:=ZJ (fu n k)) (by kernel_rfl) (am (l':=[Sd]) (by kernel_rfl) ⟨XE _,trivial⟩) (by kernel_rfl) (hv n k _ hyp_)
 · exact .inl rfl
def D3 (g: Int→Bool) (p: Int→AV): List AV→List Ob→Br
 | [.int .i64 n],[]=> .ite (g n) (.ret (p n) []) .fail
 | _,_=> .fail
theorem oX {n: Nat} {s: List AV→List Ob→Br} (hs: Sound Kx n s) {g: Int→Bool} {p: Int→AV} (h: ∀ a,g a=true→(s [.int .i64 a] []).val=some (p a,[])): Sound Kx n (D3 g p):=hs.of fun args objs r hv=>by
 unfold D3 at hv
 split at hv
 case h_2=>cases hv
 obtain ⟨h1,h2⟩:=al hv
 cases h2
 exact h _ h1
def ZK (g: Int→Int→Bool) (p: Int→Int→AV): List AV→List Ob→Br
 | [.int .i64 n, .int .i64 k],[]=> .ite (g n k) (.ret (p n k) []) .fail
 | _,_=> .fail
theorem aew {n: Nat} {s: List AV→List Ob→Br} (hs: Sound Kx n s) {g: Int→Int→Bool} {p: Int→Int→AV} (h: ∀ a b,g a b=true→(s [.int .i64 a, .int .i64 b] []).val=some (p a b,[])): Sound Kx n (ZK g p):=hs.of fun args objs r hv=>by
 unfold ZK at hv
 split at hv
 case h_2=>cases hv
 obtain ⟨h1,h2⟩:=al hv
 cases h2
 exact h _ _ h1
def yrB (y: Int): Bool:=decide (1≤y)&&decide (y≤100000)
theorem Sh {y: Int} (h: yrB y=true): 1≤y∧y≤100000:=by unfold yrB at h;rw [Bool.and_eq_true,decide_eq_true_eq,decide_eq_true_eq] at h;exact h
theorem Si: Sound Kx 249 (D3 yrB fun y=> .int .i64 (dB y)):=oX aet fun y h=>by
 obtain ⟨h1,h2⟩:=Sh h
 show (RZ y).val=some (.int .i64 (dB y),[])
 have t: ∀ k: Int,Int.tdiv (y - 1) k=(y - 1) / k:=fun k=>Int.tdiv_eq_ediv_of_nonneg (by omega)
 unfold RZ dB
 rw [w64 (n:=y - 1) (by omega) (by omega),w64 (n:=y - 1970) (by omega) (by omega),t 4,t 100,t 400]
 simp (disch:=omega) only [w64,Br.val]
theorem uI {y: Int} (h: 0≤y) (k: Int): Int.tmod y k=y % k:=Int.tmod_eq_emod_of_nonneg h
theorem GD: Sound Kx 250 (ZK (fun y _=>yrB y) fun y m=> .int .i64 (lK y m)):=aew aev fun y m h=>by
 obtain ⟨h1,h2⟩:=Sh h
 show (R0 y m).val=some (.int .i64 (lK y m),[])
 unfold R0 lK nD
 rw [uI (by omega),uI (by omega),uI (by omega)]
 generalize decide (m=2)=b1
 generalize decide (m=4)=b2
 generalize decide (m=6)=b3
 generalize decide (m=9)=b4
 generalize decide (m=11)=b5
 by_cases c8: y % 400=0
 · rw [dT' c8,dT' (show y % 4=0 by omega)]
   generalize decide (y % 100=0)=b7
   cases b1 <;> cases b2 <;> cases b3 <;> cases b4 <;> cases b5 <;> cases b7 <;> rfl
 · rw [dF' c8]
   generalize decide (y % 4=0)=b6
   generalize decide (y % 100=0)=b7
   cases b1 <;> cases b2 <;> cases b3 <;> cases b4 <;> cases b5 <;> cases b6 <;> cases b7 <;> rfl
theorem D4: Sound Kx 292 (D3 yrB fun y=> .bool (nD y)):=oX XB fun y h=>by
 obtain ⟨h1,h2⟩:=Sh h
 show (zn y).val=some (.bool (nD y),[])
 unfold zn nD
 rw [uI (by omega),uI (by omega),uI (by omega)]
 generalize decide (y % 4=0)=b6
 generalize decide (y % 100=0)=b7
 generalize decide (y % 400=0)=b8
 cases b6 <;> cases b7 <;> cases b8 <;> rfl
theorem GE {n: Int} : bT (n % 10)=[dg n]:=by
 rw [dh,Lib.decDigits,dif_pos (by omega)];rfl
theorem Sj (k: aa→OR'): ∀ (j: Nat) (N: Int) (out: aa) (n: Nat),j < n→0≤N→N≤999999999999999→out.length + j≤1000→oW n N (j: Int) out k=k (bh j N++out):=by
 intro j;induction j with
 | zero=>intro N out n hn h0 h1 h2;obtain ⟨n,rfl⟩:=bF hn;unfold oW zk;rw [dF' (by simp)];rfl
 | succ j ih=>
   intro N out n hn h0 h1 h2;obtain ⟨n,rfl⟩:=bF hn
   have e0: decide ((0 : Int) < ((j + 1 : Nat): Int))=true:=dT' (by omega)
   have e1: bC (N % 10)=true:=by unfold bC;rw [dT' (by omega),dT' (by omega)];rfl
   have e2: Int.tdiv N 10=N / 10:=Int.tdiv_eq_ediv_of_nonneg h0
   have e3: decide (([dg N].length + out.length)≤9223372036854775807)=true:=dT' (by simp only [List.length_singleton];omega)
   have e4: ai (((j + 1 : Nat): Int) - 1)=(j: Int):=by rw [w64 (by omega) (by omega)];omega
   unfold oW zk
   rw [uI h0,GE,e2,w64 (n:=N / 10) (by omega) (by omega),e4]
   simp only [e0,e1,e3,cond_true]
   rw [ih (N / 10) ([dg N]++out) n (by omega) (by omega) (by omega) (by simp only [List.length_append,List.length_singleton];omega)]
   rw [show bh (j + 1) N=bh j (N / 10)++[dg N] from rfl,List.append_assoc]
def dgB (n k: Int): Bool:=bC n&&(decide (0≤k)&&decide (k≤100))
theorem XF {n: Int} (h: bC n=true): 0≤n∧n≤999999999999999:=by unfold bC at h;rw [Bool.and_eq_true,decide_eq_true_eq,decide_eq_true_eq] at h;exact h
theorem rV: Sound Kx 254 (ZK dgB fun n k=> .str (bh k.toNat n)):=by
 refine (R7 (φ:=fun n k=> .ite (dgB n k) (.ret (.str (bh k.toNat n)) []) .fail) (fun _ k=>k.toNat + 1) fun n k r h=>?_).of fun args objs r h=>?_
 · obtain ⟨h1,h2⟩:=al h
   cases h2
   unfold dgB at h1
   rw [Bool.and_eq_true,Bool.and_eq_true,decide_eq_true_eq,decide_eq_true_eq] at h1
   obtain ⟨g1,g2⟩:=XF h1.1
   unfold Kj
   have e: k=((k.toNat: Nat): Int):=by omega
   have:=Sj (fun x=>some (.str x,[])) k.toNat n [] (k.toNat + 1) (by omega) g1 g2 (by simp only [List.length_nil];omega)
   rw [← e,List.append_nil] at this
   exact this
 · unfold ZK at h;split at h
   · exact h
   · cases h
def xM: List aa:=[[77,111,110,100,97,121],[84,117,101,115,100,97,121],[87,101,100,110,101,115,100,97,121],[84,104,117,114,115,100,97,121],[70,114,105,100,97,121],[83,97,116,117,114,100,97,121],[83,117,110,100,97,121]]
def monL: List aa:=[[74,97,110],[70,101,98],[77,97,114],[65,112,114],[77,97,121],[74,117,110],[74,117,108],[65,117,103],[83,101,112],[79,99,116],[78,111,118],[68,101,99]]
def agf (l: List aa): List AV→List Ob→Br
 | [],[]=> .ret (.ref 0 0) [.arr .str 0 false l]
 | _,_=> .fail
theorem uJ: Sound Kx 252 (agf xM):=iDays_ok.of fun args objs r h=>by
 unfold agf at h;split at h
 · rw [← h];rfl
 · cases h
theorem nP: Sound Kx 245 (agf monL):=iMons_ok.of fun args objs r h=>by
 unfold agf at h;split at h
 · rw [← h];rfl
 · cases h
theorem uK: Sound Kx 216 (D3 (fun _=>true) fun k=> .str (eb k)):=oX XC fun k h=>by
 show (zo k).val=some (.str (eb k),[])
 unfold zo eb
 generalize decide (k=0)=b0
 generalize decide (k=1)=b1
 generalize decide (k=2)=b2
 generalize decide (k=3)=b3
 generalize decide (k=4)=b4
 generalize decide (k=5)=b5
 cases b0 <;> cases b1 <;> cases b2 <;> cases b3 <;> cases b4 <;> cases b5 <;> rfl
def moB (m: Int): Bool:=decide (1≤m)&&decide (m≤12)
theorem aex {m: Int} (h: moB m=true): 1≤m∧m≤12:=by unfold moB at h;rw [Bool.and_eq_true,decide_eq_true_eq,decide_eq_true_eq] at h;exact h
theorem uL: Sound Kx 214 (D3 moB fun m=> .str (eZ m)):=oX XD fun m h=>by
 obtain ⟨h1,h2⟩:=aex h
 show (zp m).val=some (.str (eZ m),[])
 unfold zp
 rw [w64 (n:=3 * m) (by omega) (by omega),w64 (n:=3 * m - 3) (by omega) (by omega)]
 have e1: decide ((0 : Int)≤3 * m - 3)=true:=dT' (by omega)
 have e2: decide (3 * m - 3≤3 * m)=true:=dT' (by omega)
 have e3: decide (3 * m≤36)=true:=dT' (by omega)
 simp only [Br.val,e1,e2,e3]
 rfl
theorem Ks: ∀ k: Nat,bh k 0=List.replicate k 48
 | 0=>rfl
 | k + 1=>by
   unfold bh
   rw [show (0 : Int) / 10=0 from rfl,Ks k,List.replicate_succ']
   rfl
theorem Sk: ∀ (k: Nat) (n: Int),1≤k→0≤n→n < 10 ^ k→bh k n=List.replicate (k - (bT n).length) 48++bT n
 | 0,n,h,_,_=>by omega
 | k + 1,n,h,h0,h1=>by
   by_cases c: n < 10
   · have e: bT n=[dg n]:=by
      have:=GE (n:=n)
      rw [show n % 10=n by omega] at this
      exact this
     unfold bh
     rw [show n / 10=0 by omega,Ks,e]
     rfl
   · have e: bT n=bT (n / 10)++[dg n]:=by
      rw [dh,dh,Lib.decDigits,dif_neg (by omega)]
      have t: n.toNat / 10=(n / 10).toNat:=by omega
      rw [t]
      congr 2
      unfold dg
      congr 1
      omega
     have hk: 1≤k:=by
      rcases Nat.eq_zero_or_pos k with rfl | hk
      · simp at h1;omega
      · exact hk
     have ih:=Sk k (n / 10) hk (by omega) (by rw [Int.pow_succ] at h1;omega)
     unfold bh
     rw [ih,e,List.append_assoc,List.length_append,List.length_singleton,show k + 1 - ((bT (n / 10)).length + 1)=k - (bT (n / 10)).length by omega]
theorem Sl (k: Nat) (hk: k≤100) (K: aa→OR'): ∀ (j: Nat) (s: aa) (n: Nat),k - s.length=j→j < n→s.length≤1000→mL n (k: Int) s K=K (List.replicate (k - s.length) 48++s):=by
 intro j;induction j with
 | zero=>
   intro s n hj hn hs;obtain ⟨n,rfl⟩:=bF hn;unfold mL zq
   rw [dF' (by omega),cond_false,hj];rfl
 | succ j ih=>
   intro s n hj hn hs;obtain ⟨n,rfl⟩:=bF hn
   have e0: decide ((s.length: Int) < (k: Int))=true:=dT' (by omega)
   have e1: decide (1 + s.length≤9223372036854775807)=true:=dT' (by omega)
   unfold mL zq
   rw [e0,e1,cond_true,cond_true]
   show mL n (k: Int) ([48]++s) K=_
   rw [ih ([48]++s) n (by simp only [List.length_append,List.length_singleton];omega) (by omega) (by simp only [List.length_append,List.length_singleton];omega)]
   congr 1
   rw [List.length_append,List.length_singleton,show k - s.length=(k - (1 + s.length)) + 1 by omega,List.replicate_succ',List.append_assoc]
def pdB (n k: Int): Bool:=bif decide (k=2) then decide (0≤n)&&decide (n≤99) else bif decide (k=4) then decide (0≤n)&&decide (n≤9999) else false
theorem aey {n k: Int} (h: pdB n k=true): (k=2∧0≤n∧n≤99)∨(k=4∧0≤n∧n≤9999):=by
 unfold pdB at h
 by_cases c: k=2
 · rw [dT' c,cond_true,Bool.and_eq_true,decide_eq_true_eq,decide_eq_true_eq] at h
   exact .inl ⟨c,h⟩
 · by_cases c4: k=4
   · rw [dF' c,dT' c4,cond_false,cond_true,Bool.and_eq_true,decide_eq_true_eq,decide_eq_true_eq] at h
     exact .inr ⟨c4,h⟩
   · rw [dF' c,dF' c4] at h;cases h
theorem rW: Sound Kx 218 (ZK pdB fun n k=> .str (bh k.toNat n)):=by
 refine (Sg (φ:=fun n k=> .ite (pdB n k) (.ret (.str (bh k.toNat n)) []) .fail) (fun _ k=>k.toNat + 1) fun n k r h=>?_).of fun args objs r h=>?_
 · obtain ⟨h1,h2⟩:=al h
   cases h2
   have g:=aey h1
   have e15: bC n=true:=by unfold bC;rw [dT' (by omega),dT' (by omega)];rfl
   have hp: bh k.toNat n=List.replicate (k.toNat - (bT n).length) 48++bT n:=Sk _ _ (by omega) (by omega) (by rcases g with ⟨rfl,_,_⟩ | ⟨rfl,_,_⟩ <;> simp <;> omega)
   have hl: (bT n).length≤15:=by rw [dh];exact tZ _ (by omega)
   have e: k=((k.toNat: Nat): Int):=by omega
   unfold Kq
   rw [e15,cond_true,hp]
   have:=Sl k.toNat (by omega) (fun x=>some (.str x,[])) _ (bT n) (k.toNat + 1) rfl (by omega) (by omega)
   rw [← e] at this
   exact this
 · unfold ZK at h;split at h
   · exact h
   · cases h
def rc: Nat→Int→aa→Int×aa
 | _,n,[]=>(n,[])
 | j,n,c::r=>bif aJ (by8 c) then (bif decide (j < 9) then rc (j + 1) (10 * n + (by8 c - 48)) r else (n,c::r)) else (n,c::r)
theorem zr: ∀ (r: aa) (j: Nat) (n: Int),e8 (some (n,j)) r=(rc j n r).1::e8 none (rc j n r).2
 | [],j,n=>rfl
 | c::r,j,n=>by
   unfold rc
   cases hd: aJ (by8 c)
   · simp only [e8,hd,cond_false]
   · by_cases h9: j < 9
     · simp only [e8,hd,cond_true,dT' h9]
       exact zr r (j + 1) _
     · simp only [e8,hd,cond_true,dF' h9,cond_false]
theorem GF: ∀ (r: aa) (j: Nat) (n: Int),∃ p,r=p++(rc j n r).2
 | [],j,n=>⟨[],rfl⟩
 | c::r,j,n=>by
   unfold rc
   cases hd: aJ (by8 c)
   · exact ⟨[],rfl⟩
   · by_cases h9: j < 9
     · rw [dT' h9]
       obtain ⟨p,hp⟩:=GF r (j + 1) (10 * n + (by8 c - 48))
       exact ⟨c::p,by rw [cond_true,cond_true,List.cons_append,← hp]⟩
     · rw [dF' h9];exact ⟨[],rfl⟩
theorem Sn {c: UInt8} (h: aJ (by8 c)=true): 48≤by8 c∧by8 c≤57:=by
 unfold aJ at h;rw [Bool.and_eq_true,decide_eq_true_eq,decide_eq_true_eq] at h;exact h
theorem agT {j: Nat} (h: j≤9): (10 : Int) ^ j≤1000000000:=by
 have: j=0∨j=1∨j=2∨j=3∨j=4∨j=5∨j=6∨j=7∨j=8∨j=9:=by omega
 rcases this with rfl | rfl | rfl | rfl | rfl | rfl | rfl | rfl | rfl | rfl <;> decide
theorem w8d {n: Int} (h0: 0≤n) (h1: n≤255): wk8 n=n:=w8 (by omega) (by omega)
theorem GG (s: aa) (hl: s.length≤4611686018427387904) (i: Int) (out: List Int) (K: aa→Int→Int→Int→List Int→OR'): ∀ (r: aa) (j: Nat) (n k: Int) (m: Nat),At s k r→k=i + j→0≤i→r.length < m→j≤9→0≤n→n < 10 ^ j→
 lf m s i k n out K=K s i ((s.length: Int) - (rc j n r).2.length) (rc j n r).1 out:=by
 intro r;induction r with
 | nil=>
   intro j n k m h hk hi hm hj h0 h1;obtain ⟨m,rfl⟩:=bF hm;unfold lf rU
   rw [h.dge,cond_false]
   have:=h.ge
   show K s i k n out=K s i ((s.length: Int) - (([]: aa).length: Int)) n out
   rw [this];simp
 | cons c r ih=>
   intro j n k m h hk hi hm hj h0 h1;obtain ⟨m,rfl⟩:=bF hm
   simp only [List.length_cons] at hm
   have hle:=h.le
   simp only [List.length_cons] at hle
   have hp:=agT hj
   unfold lf rU rc
   simp only [h.dlt,h.dnn,h.str,cond_true]
   cases hd: aJ (by8 c)
   · simp only [cond_false]
     congr 1
     simp only [List.length_cons];omega
   · obtain ⟨d0,d1⟩:=Sn hd
     rw [w64 (n:=k - i) (by omega) (by omega),w8d (by omega) (by omega),w64 (n:=by8 c - 48) (by omega) (by omega),w64 (n:=10 * n) (by omega) (by omega),w64 (n:=10 * n + (by8 c - 48)) (by omega) (by omega),h.next hl]
     by_cases h9: j < 9
     · rw [dT' h9,dT' (show k - i < 9 by omega)]
       simp only [cond_true]
       exact ih (j + 1) _ (k + 1) m h.step (by omega) hi (by omega) (by omega) (by omega) (by rw [Int.pow_succ];omega)
     · rw [dF' h9,dF' (show ¬ k - i < 9 by omega)]
       simp only [cond_true,cond_false]
       congr 1
       simp only [List.length_cons];omega
theorem GH (M: Nat) (s: aa) (hl: s.length≤1000000) (K: List Int→OR'): ∀ (u: Nat) (r: aa) (i: Int) (out: List Int) (n: Nat),r.length≤u→At s i r→u < n→s.length < M→out.length + r.length≤1000000→
 jD M n s i out K=K (out++e8 none r):=by
 intro u;induction u with
 | zero=>
   intro r i out n hu h hn hN ho;obtain ⟨n,rfl⟩:=bF hn
   obtain rfl: r=[]:=List.length_eq_zero_iff.1 (by omega)
   unfold jD nO
   rw [h.dge,cond_false];simp [e8]
 | succ u ih=>
   intro r i out n hu h hn hN ho;obtain ⟨n,rfl⟩:=bF hn
   cases r with
   | nil=>unfold jD nO;rw [h.dge,cond_false];simp [e8]
   | cons c r=>
     have hle:=h.le
     have hnn:=h.nn
     unfold jD nO
     rw [h.dlt,cond_true,GG s (by omega) i out _ (c::r) 0 0 i M h (by simp) hnn (by simp only [List.length_cons] at hle ⊢;omega) (by omega) (by omega) (by decide)]
     simp only [List.length_cons] at hle hu ho
     cases hd: aJ (by8 c)
     · have e: rc 0 0 (c::r)=(0,c::r):=by unfold rc;rw [hd];rfl
       have e2: e8 none (c::r)=e8 none r:=by simp only [e8,hd,cond_false]
       rw [e,e2]
       simp only [List.length_cons]
       rw [dF' (show ¬ i < (s.length: Int) - ((r.length + 1 : Nat): Int) by omega),cond_false,h.next (by omega)]
       exact ih r (i + 1) out n (by omega) h.step (by omega) hN (by omega)
     · have e: rc 0 0 (c::r)=rc 1 (10 * 0 + (by8 c - 48)) r:=by
        rw [rc];rw [hd];rfl
       have e2: e8 none (c::r)=(rc 0 0 (c::r)).1::e8 none (rc 0 0 (c::r)).2:=by
        rw [e,← zr]
        simp only [e8,hd,cond_true]
        rw [show 10 * 0 + (by8 c - 48)=by8 c - 48 by omega]
       obtain ⟨p,hp⟩:=GF r 1 (10 * 0 + (by8 c - 48))
       rw [← e] at hp
       have hpl: r.length=p.length + (rc 0 0 (c::r)).2.length:=by rw [← List.length_append,← hp]
       rw [e2]
       generalize (rc 0 0 (c::r)).1=v at *
       generalize hq: (rc 0 0 (c::r)).2=q at *
       have hs: At s ((s.length: Int) - (q.length: Int)) q:=by
        obtain ⟨z,hz,hzi⟩:=h
        refine ⟨z++c::p,?_,?_⟩
        · rw [hz,hp];simp
        · rw [hz,hp];simp;omega
       have e4: List.set (List.replicate (1 : Nat) (0 : Int)) 0 v=[v]:=rfl
       have e5: decide ((out.length + [v].length) * 8≤140737488355328)=true:=dT' (by simp only [List.length_singleton];omega)
       simp only [e4,e5]
       rw [dT' (show i < (s.length: Int) - (q.length: Int) by omega),cond_true,cond_true,w64 (n:=(s.length: Int) - (q.length: Int) - 1) (by omega) (by omega),
        show (s.length: Int) - (q.length: Int) - 1 + 1=(s.length: Int) - (q.length: Int) by omega,w64 (n:=(s.length: Int) - (q.length: Int)) (by omega) (by omega)]
       refine (ih q _ (out++[v]) n (by omega) hs (by omega) hN (by simp only [List.length_append,List.length_singleton];omega)).trans ?_
       rw [List.append_assoc];rfl
def ZL: List AV→List Ob→Br
 | [.str s],[]=> .ite (decide (s.length≤100000)) (.ret (.ref 0 0) [.arr (.int .i64) 0 false (bR s)]) .fail
 | _,_=> .fail
theorem So: Sound Kx 205 ZL:=by
 refine (Ny (φ:=fun s=> .ite (decide (s.length≤100000)) (.ret (.ref 0 0) [.arr (.int .i64) 0 false (bR s)]) .fail) (fun s=>s.length + 1) fun s r h=>?_).of fun args objs r h=>?_
 · obtain ⟨h1,h2⟩:=al h
   cases h2
   rw [decide_eq_true_eq] at h1
   unfold D1
   exact GH (s.length + 1) s (by omega) _ s.length s 0 [] (s.length + 1) (Nat.le_refl _) (At.start s) (by omega) (by omega) (by simp only [List.length_nil];omega)
 · unfold ZL at h;split at h
   · exact h
   · cases h
theorem ZM: ∀ (r: aa) (j: Nat) (n: Int),j≤9→0≤n→n < 10 ^ j→0≤(rc j n r).1∧(rc j n r).1 < 1000000000
 | [],j,n,hj,h0,h1=>by have:=agT hj;exact ⟨h0,by show n < _;omega⟩
 | c::r,j,n,hj,h0,h1=>by
   have hp:=agT hj
   unfold rc
   cases hd: aJ (by8 c)
   · exact ⟨h0,by show n < _;omega⟩
   · obtain ⟨d0,d1⟩:=Sn hd
     by_cases h9: j < 9
     · rw [dT' h9]
       exact ZM r (j + 1) _ (by omega) (by omega) (by rw [Int.pow_succ];omega)
     · rw [dF' h9];exact ⟨h0,by show n < _;omega⟩
theorem GI: ∀ (u: Nat) (r: aa),r.length≤u→∀ x ∈ e8 none r,0≤x∧x < 1000000000
 | 0,r,hu,x,hx=>by
   obtain rfl: r=[]:=List.length_eq_zero_iff.1 (by omega)
   simp [e8] at hx
 | u + 1,[],hu,x,hx=>by simp [e8] at hx
 | u + 1,c::r,hu,x,hx=>by
   simp only [List.length_cons] at hu
   cases hd: aJ (by8 c)
   · have e2: e8 none (c::r)=e8 none r:=by simp only [e8,hd,cond_false]
     rw [e2] at hx
     exact GI u r (by omega) x hx
   · obtain ⟨d0,d1⟩:=Sn hd
     have e2: e8 none (c::r)=(rc 1 (by8 c - 48) r).1::e8 none (rc 1 (by8 c - 48) r).2:=by
      rw [← zr];simp only [e8,hd,cond_true]
     rw [e2] at hx
     rcases List.mem_cons.1 hx with rfl | hx
     · exact ZM r 1 _ (by omega) (by omega) (by omega)
     · obtain ⟨p,hp⟩:=GF r 1 (by8 c - 48)
       have hpl: r.length=p.length + (rc 1 (by8 c - 48) r).2.length:=by rw [← List.length_append,← hp]
       exact GI u _ (by omega) x hx
theorem XG (s: aa) (i: Nat): 0≤(bR s).getD i 0∧(bR s).getD i 0 < 1000000000:=by
 by_cases h: i < (bR s).length
 · rw [List.getD_eq_getElem?_getD,List.getElem?_eq_getElem h]
   exact GI _ s (Nat.le_refl _) _ (List.getElem_mem h)
 · rw [List.getD_eq_getElem?_getD,List.getElem?_eq_none (by omega)];decide
def abY: SC:=[⟨292,_,D4⟩]
def zt (y m: Int): Br:=(.ite (decide (m=2)) (.ite (yrB y) (.ite (nD y) (.ret (AV.int .i64 29) []) (.ret (AV.int .i64 28) [])) .fail) (.ite (decide (m=4)) (.ret (AV.int .i64 30) []) (.ite (decide (m=6)) (.ret (AV.int .i64 30) []) (.ite (decide (m=9)) (.ret (AV.int .i64 30) []) (.ite (decide (m=11)) (.ret (AV.int .i64 30) []) (.ret (AV.int .i64 31) []))))))
def Sp: List AV→List Ob→Br
 | [.int .i64 y, .int .i64 m],[]=>zt y m
 | _,_=> .fail
theorem XH: Sound Kx 258 Sp:=ah (C:=abY) (O:=O0) Tryz.func258 (by kernel_rfl) fun args objs=>by
 unfold Sp;split
 · exact .inr (by kernel_rfl)
 · exact .inl rfl
def abZ: SC:=[⟨292,_,D4⟩]
def zu (y: Int): Br:=(.ite (yrB y) (.ite (nD y) (.ret (AV.int .i64 366) []) (.ret (AV.int .i64 365) [])) .fail)
def Sq: List AV→List Ob→Br
 | [.int .i64 y],[]=>zu y
 | _,_=> .fail
theorem XI: Sound Kx 257 Sq:=ah (C:=abZ) (O:=O0) Tryz.func257 (by kernel_rfl) fun args objs=>by
 unfold Sq;split
 · exact .inr (by kernel_rfl)
 · exact .inl rfl
def XJ: Opt:={ split:=true }
def XK: SC:=[⟨201,_,dX⟩,⟨250,_,GD⟩]
def uM (y m d h i s: Int): Br:=(.ite (decide (1970≤y)) (.ite (decide (y≤9999)) (.ite (decide (1≤m)) (.ite (decide (m≤12)) (.ite (yrB y) (.ite (decide (1≤d)) (.ite (decide (d≤(lK y m))) (.ite (decide (0≤h)) (.ite (decide (h≤23)) (.ite (decide (0≤i)) (.ite (decide (i≤59)) (.ite (decide (0≤s)) (.ite (decide (s≤59)) (.ret (AV.bool true) []) (.ret (AV.bool false) [])) (.ret (AV.bool false) [])) (.ret (AV.bool false) [])) (.ret (AV.bool false) [])) (.ret (AV.bool false) [])) (.ret (AV.bool false) [])) (.ret (AV.bool false) [])) (.ret (AV.bool false) [])) .fail) (.ret (AV.bool false) [])) (.ret (AV.bool false) [])) (.ret (AV.bool false) [])) (.ret (AV.bool false) []))
def Kt: List AV→List Ob→Br
 | [.agg [.int .i64 y, .int .i64 m, .int .i64 d, .int .i64 h, .int .i64 i, .int .i64 s]],[]=>uM y m d h i s
 | _,_=> .fail
theorem Sr: Sound Kx 248 Kt:=ah (C:=XK) (O:=XJ) Tryz.func248 (by kernel_rfl) fun args objs=>by
 unfold Kt;split
 · exact .inr (by kernel_rfl)
 · exact .inl rfl
def agU: SC:=[⟨130,_,kB⟩]
def Ss (t: Int): Br:=(.ite (!(fb t)) (.ret (AV.int .i64 (-1)) []) (.ret (AV.int .i64 (Int.tmod (ai ((ai (Int.tdiv t 86400)) + 3)) 7)) []))
def aez: List AV→List Ob→Br
 | [.int .i64 t],[]=>Ss t
 | _,_=> .fail
theorem aeA: Sound Kx 253 aez:=ah (C:=agU) (O:=O0) Tryz.func253 (by kernel_rfl) fun args objs=>by
 unfold aez;split
 · exact .inr (by kernel_rfl)
 · exact .inl rfl
def agV: SC:=[⟨95,_,uF⟩]
def Su (t: Int): Br:=(.ite (!(fb t)) (.ret (AV.int .i64 (-1)) []) (.ret (AV.int .i64 (Int.tmod (ai ((ai (Int.tdiv t 86400)) + 3)) 7)) []))
def aeB: List AV→List Ob→Br
 | [.int .i64 t],[]=>Su t
 | _,_=> .fail
theorem aeC: Sound Kx 217 aeB:=ah (C:=agV) (O:=O0) Tryz.func217 (by kernel_rfl) fun args objs=>by
 unfold aeB;split
 · exact .inr (by kernel_rfl)
 · exact .inl rfl
def aeD: SC:=[⟨254,_,rV⟩]
def GJ (y m d h i s: Int): Br:=(.ite (dgB h 2) (.ite (decide (((List.length (bh 2 h)) + 1)≤9223372036854775807)) (.ite (dgB i 2) (.ite (decide (((List.length ((bh 2 h)++([58]: aa))) + (List.length (bh 2 i)))≤9223372036854775807)) (.ite (decide (((List.length (((bh 2 h)++([58]: aa))++(bh 2 i))) + 1)≤9223372036854775807)) (.ite (dgB s 2) (.ite (decide (((List.length ((((bh 2 h)++([58]: aa))++(bh 2 i))++([58]: aa))) + (List.length (bh 2 s)))≤9223372036854775807)) (.ret (AV.str (((((bh 2 h)++([58]: aa))++(bh 2 i))++([58]: aa))++(bh 2 s))) []) .fail) .fail) .fail) .fail) .fail) .fail) .fail)
def ZN: List AV→List Ob→Br
 | [.agg [.int .i64 y, .int .i64 m, .int .i64 d, .int .i64 h, .int .i64 i, .int .i64 s]],[]=>GJ y m d h i s
 | _,_=> .fail
theorem ab0: Sound Kx 255 ZN:=ah (C:=aeD) (O:=O0) Tryz.func255 (by kernel_rfl) fun args objs=>by
 unfold ZN;split
 · exact .inr (by kernel_rfl)
 · exact .inl rfl
def aeE: SC:=[⟨218,_,rW⟩]
def GK (y m d h i s: Int): Br:=(.ite (pdB h 2) (.ite (decide (((List.length (bh 2 h)) + 1)≤9223372036854775807)) (.ite (pdB i 2) (.ite (decide (((List.length ((bh 2 h)++([58]: aa))) + (List.length (bh 2 i)))≤9223372036854775807)) (.ite (decide (((List.length (((bh 2 h)++([58]: aa))++(bh 2 i))) + 1)≤9223372036854775807)) (.ite (pdB s 2) (.ite (decide (((List.length ((((bh 2 h)++([58]: aa))++(bh 2 i))++([58]: aa))) + (List.length (bh 2 s)))≤9223372036854775807)) (.ret (AV.str (((((bh 2 h)++([58]: aa))++(bh 2 i))++([58]: aa))++(bh 2 s))) []) .fail) .fail) .fail) .fail) .fail) .fail) .fail)
def ZO: List AV→List Ob→Br
 | [.agg [.int .i64 y, .int .i64 m, .int .i64 d, .int .i64 h, .int .i64 i, .int .i64 s]],[]=>GK y m d h i s
 | _,_=> .fail
theorem ab1: Sound Kx 219 ZO:=ah (C:=aeE) (O:=O0) Tryz.func219 (by kernel_rfl) fun args objs=>by
 unfold ZO;split
 · exact .inr (by kernel_rfl)
 · exact .inl rfl
theorem Sv: Sound Kx 258 (ZK (fun y _=>yrB y) fun y m=> .int .i64 (lK y m)):=aew XH fun y m h=>by
 show (zt y m).val=some (.int .i64 (lK y m),[])
 unfold zt lK
 rw [h]
 generalize decide (m=2)=b1
 generalize decide (m=4)=b2
 generalize decide (m=6)=b3
 generalize decide (m=9)=b4
 generalize decide (m=11)=b5
 generalize nD y=b6
 cases b1 <;> cases b2 <;> cases b3 <;> cases b4 <;> cases b5 <;> cases b6 <;> rfl
theorem Sw: Sound Kx 257 (D3 yrB fun y=> .int .i64 (vD y)):=oX XI fun y h=>by
 show (zu y).val=some (.int .i64 (vD y),[])
 unfold zu vD
 rw [h]
 cases nD y <;> rfl
def cvM (y m d h i s: Int): Cv:=⟨y,m,d,h,i,s⟩
def ab2 (g: Cv→Bool) (p: Cv→AV): List AV→List Ob→Br
 | [.agg [.int .i64 y, .int .i64 m, .int .i64 d, .int .i64 h, .int .i64 i, .int .i64 s]],[]=> .ite (g (cvM y m d h i s)) (.ret (p (cvM y m d h i s)) []) .fail
 | _,_=> .fail
theorem ab3 {n: Nat} {f: List AV→List Ob→Br} (hs: Sound Kx n f) {g: Cv→Bool} {p: Cv→AV} (h: ∀ y m d h i s,g ⟨y,m,d,h,i,s⟩=true→(f [.agg [.int .i64 y, .int .i64 m, .int .i64 d, .int .i64 h, .int .i64 i, .int .i64 s]] []).val=some (p ⟨y,m,d,h,i,s⟩,[])): Sound Kx n (ab2 g p):=hs.of fun args objs r hv=>by
 unfold ab2 at hv
 split at hv
 case h_2=>cases hv
 obtain ⟨h1,h2⟩:=al hv
 cases h2
 exact h _ _ _ _ _ _ h1
theorem Nz: Sound Kx 248 (ab2 (fun _=>true) fun c=> .bool (dJ c)):=ab3 Sr fun y m d h i s _=>by
 show (uM y m d h i s).val=some (.bool (dJ ⟨y,m,d,h,i,s⟩),[])
 unfold uM dJ
 by_cases c1: 1970≤y
 · by_cases c2: y≤9999
   · have e: yrB y=true:=by unfold yrB;rw [dT' (by omega),dT' (by omega)];rfl
     rw [e,dT' c1,dT' c2]
     simp only
     generalize decide (1≤m)=b1
     generalize decide (m≤12)=b2
     generalize decide (1≤d)=b3
     generalize decide (d≤lK y m)=b4
     generalize decide (0≤h)=b5
     generalize decide (h≤23)=b6
     generalize decide (0≤i)=b7
     generalize decide (i≤59)=b8
     generalize decide (0≤s)=b9
     generalize decide (s≤59)=b10
     cases b1; · rfl
     cases b2; · rfl
     cases b3; · rfl
     cases b4; · rfl
     cases b5; · rfl
     cases b6; · rfl
     cases b7; · rfl
     cases b8; · rfl
     cases b9; · rfl
     cases b10 <;> rfl
   · rw [dT' c1,dF' c2];rfl
 · rw [dF' c1];rfl
def wkP (t: Int): Int:=bif fb t then wdP t else -1
theorem GL {t: Int} (h: fb t=true): 0≤t∧t≤253402300799:=by unfold fb at h;rw [Bool.and_eq_true,decide_eq_true_eq,decide_eq_true_eq] at h;exact h
theorem aeF {t: Int} (h: fb t=true): Int.tmod (ai ((ai (Int.tdiv t 86400)) + 3)) 7=wdP t:=by
 obtain ⟨h0,h1⟩:=GL h
 have e: Int.tdiv t 86400=t / 86400:=Int.tdiv_eq_ediv_of_nonneg h0
 rw [e,w64 (n:=t / 86400) (by omega) (by omega),w64 (by omega) (by omega),Int.tmod_eq_emod_of_nonneg (by omega)]
 rfl
theorem GM: Sound Kx 253 (D3 (fun _=>true) fun t=> .int .i64 (wkP t)):=oX aeA fun t _=>by
 show (Ss t).val=some (.int .i64 (wkP t),[])
 unfold Ss wkP
 cases h: fb t
 · rfl
 · rw [aeF h];rfl
theorem GN: Sound Kx 217 (D3 (fun _=>true) fun t=> .int .i64 (wkP t)):=oX aeC fun t _=>by
 show (Su t).val=some (.int .i64 (wkP t),[])
 unfold Su wkP
 cases h: fb t
 · rfl
 · rw [aeF h];rfl
theorem zw {c: Cv} (h: dJ c=true): (dgB c.h 2=true∧dgB c.i 2=true∧dgB c.s 2=true∧dgB c.d 2=true∧dgB c.y 4=true∧dgB c.y 2=true)∧(pdB c.h 2=true∧pdB c.i 2=true∧pdB c.s 2=true∧pdB c.d 2=true∧pdB c.y 4=true∧pdB (c.y % 100) 2=true):=by
 obtain ⟨h1,h2,h3,h4,h5,h6⟩:=cY h
 have dd: ∀ n k: Int,0≤n→n≤9999→0≤k→k≤4→dgB n k=true:=fun n k a b c d=>by
  unfold dgB bC;rw [dT' a,dT' (by omega),dT' c,dT' (by omega)];rfl
 have p2: ∀ n: Int,0≤n→n≤99→pdB n 2=true:=fun n a b=>by unfold pdB;rw [dT' a,dT' b];rfl
 have p4: ∀ n: Int,0≤n→n≤9999→pdB n 4=true:=fun n a b=>by unfold pdB;rw [dT' a,dT' b];rfl
 refine ⟨⟨dd _ _ ?_ ?_ ?_ ?_,dd _ _ ?_ ?_ ?_ ?_,dd _ _ ?_ ?_ ?_ ?_,dd _ _ ?_ ?_ ?_ ?_,dd _ _ ?_ ?_ ?_ ?_,dd _ _ ?_ ?_ ?_ ?_⟩,p2 _ ?_ ?_,p2 _ ?_ ?_,p2 _ ?_ ?_,p2 _ ?_ ?_,p4 _ ?_ ?_,p2 _ ?_ ?_⟩ <;> omega
theorem zx: Sound Kx 255 (ab2 dJ fun c=> .str (aZ c)):=ab3 ab0 fun y m d h i s hc=>by
 show (GJ y m d h i s).val=some (.str (aZ ⟨y,m,d,h,i,s⟩),[])
 obtain ⟨⟨h1,h2,h3,_⟩,_⟩:=zw hc
 simp only at h1 h2 h3
 unfold GJ
 simp only [h1,h2,h3,List.length_append,cF,List.length_cons,List.length_nil,Br.val]
 unfold aZ
 simp [List.append_assoc]
theorem zy: Sound Kx 219 (ab2 dJ fun c=> .str (aZ c)):=ab3 ab1 fun y m d h i s hc=>by
 show (GK y m d h i s).val=some (.str (aZ ⟨y,m,d,h,i,s⟩),[])
 obtain ⟨_,h1,h2,h3,_⟩:=zw hc
 simp only at h1 h2 h3
 unfold GK
 simp only [h1,h2,h3,List.length_append,cF,List.length_cons,List.length_nil,Br.val]
 unfold aZ
 simp [List.append_assoc]
def Sx (y m d h i s: Int): Br:=(.ite (decide (1970≤y)) (.ite (decide (y≤9999)) (.ite (decide (1≤m)) (.ite (decide (m≤12)) (.ite (decide (1≤d)) (.ite (yrB y) (.ite (decide (d≤(lK y m))) (.ite (decide (0≤h)) (.ite (decide (h≤23)) (.ite (decide (0≤i)) (.ite (decide (i≤59)) (.ite (decide (0≤s)) (.ite (decide (s≤59)) (.ret (AV.bool true) []) (.ret (AV.bool false) [])) (.ret (AV.bool false) [])) (.ret (AV.bool false) [])) (.ret (AV.bool false) [])) (.ret (AV.bool false) [])) (.ret (AV.bool false) [])) (.ret (AV.bool false) [])) .fail) (.ret (AV.bool false) [])) (.ret (AV.bool false) [])) (.ret (AV.bool false) [])) (.ret (AV.bool false) [])) (.ret (AV.bool false) []))
def agh: List AV→List Ob→Br
 | [.agg [.int .i64 y, .int .i64 m, .int .i64 d, .int .i64 h, .int .i64 i, .int .i64 s]],[]=>Sx y m d h i s
 | _,_=> .fail
def ZP: Opt:={ live:=[(5,[1,4,5])],outs:=[(5,[1,2,3,4])] }
def iSec_C: SC:=[⟨248,_,Nz⟩,⟨249,_,Si⟩,⟨250,_,GD⟩]
def zz (aI aR aF a7 ck eg eh cZ: Int) (kR5: Int→Int→Int→Int→Int→Int→Int→Int→OR') (cR: Int→Int→Int→Int→Int→Int→Int→OR'): OR':=
 (bif (decide (aR < a7)) then (bif (yrB aF) then (kR5 (ai (aI + (lK aF aR))) (ai (aR + 1)) aF a7 ck eg eh cZ) else none) else (cR aI aF a7 ck eg eh cZ))
def oY: Nat→Int→Int→Int→Int→Int→Int→Int→Int→(Int→Int→Int→Int→Int→Int→Int→OR')→OR'
 | 0,_,_,_,_,_,_,_,_,_=>none
 | n + 1,aI,aR,aF,a7,ck,eg,eh,cZ,cR=>zz aI aR aF a7 ck eg eh cZ (fun aI aR aF a7 ck eg eh cZ=>oY n aI aR aF a7 ck eg eh cZ cR) cR
abbrev iSec_p5: SP:=⟨41,[1,4,5],[(.v (.ptr 128 0)),(.v (.i .i64)),(.v (.i .i64))],[(128, .var [(.i .i64),(.i .i64),(.i .i64),(.i .i64),(.i .i64),(.i .i64)])]⟩
noncomputable def Sy: Code:=aD (aG Tryz.f208) [1,1,1,0,1,0,0]
def Sz (f: (Int→Int→Int→Int→Int→Int→Int→OR')→OR') (k: KT): OR':=f (fun ap a_ cg eI ei cV dS=>k (Ex.exit 0) ((St.mk (aH 0 41 [(1,(AV.ptr 128 0)),(4,(AV.int .i64 ap))]) ((128,(Ob.var [.int .i64 a_,.int .i64 cg,.int .i64 eI,.int .i64 ei,.int .i64 cV,.int .i64 dS]))::([]: (List (Nat×(Ob))))))))
def SA (n: Nat) (d: iSec_p5.D): KT→OR':=Sz (oY n d.1.2.1 d.1.2.2.1 d.2.1.1 d.2.1.2.1 d.2.1.2.2.1 d.2.1.2.2.2.1 d.2.1.2.2.2.2.1 d.2.1.2.2.2.2.2.1)
def ZQ (N: Nat): Lam:=bw [⟨5,iSec_p5,SA N⟩]
theorem XL (N: Nat): OkL Kx iSec_C.s ZP 0 N (ZQ N) Sy:=okL iSec_p5 (SA) (fun d kR=>Sz (zz d.1.2.1 d.1.2.2.1 d.2.1.1 d.2.1.2.1 d.2.1.2.2.1 d.2.1.2.2.2.1 d.2.1.2.2.2.2.1 d.2.1.2.2.2.2.2.1 (fun aI aR aF a7 ck eg eh cZ=>kR (((),aI,aR,()),((aF,a7,ck,eg,eh,cZ,()),()))))) (fun _ _=>by kernel_rfl) (fun _ _ _=>by kernel_rfl) (fun _ _=>by kernel_rfl) (fun _ _ _ _=>by kernel_rfl) (am (l':=[]) (by kernel_rfl) trivial)
def Ku (N: Nat) (y m d h i s: Int): OR':=(bif (!(dJ (cvM y m d h i s))) then (some ((AV.tup [.int .i64 0,.bool false]),[])) else (bif (yrB y) then (oY N (ai ((ai ((dB y) + d)) - 1)) 1 y m d h i s (fun ap a_ cg eI ei cV dS=>(some ((AV.tup [.int .i64 (ai ((ai ((ai ((ai (86400 * ap)) + (ai (3600 * ei)))) + (ai (60 * cV)))) + dS)),.bool true]),[])))) else none))
def Kv (φ: Int→Int→Int→Int→Int→Int→Br): List AV→List Ob→Br
 | [.agg [.int .i64 y, .int .i64 m, .int .i64 d, .int .i64 h, .int .i64 i, .int .i64 s]],[]=>φ y m d h i s
 | _,_=> .fail
theorem SB {φ: Int→Int→Int→Int→Int→Int→Br} (fu: Int→Int→Int→Int→Int→Int→Nat) (hv: ∀ y m d h i s res_,(φ y m d h i s).val=some res_→Ku (fu y m d h i s) y m d h i s=some res_): Sound Kx 208 (Kv φ):=ar (C:=iSec_C) (O:=ZP) Tryz.func208 (by kernel_rfl) fun args objs=>by
 unfold Kv;split
 · rename_i y m d h i s;exact .inr fun _ hyp_=>aS (Λ:=ZQ (fu y m d h i s)) (by kernel_rfl) (am (l':=[Sy]) (by kernel_rfl) ⟨XL _,trivial⟩) (by kernel_rfl) (hv y m d h i s _ hyp_)
 · exact .inl rfl
def SD: Opt:={ live:=[(6,[2,3,5]),(3,[2,3,5])],outs:=[(6,[2,3,5]),(3,[2,3,5])] }
def iCiv_C: SC:=[⟨249,_,Si⟩,⟨250,_,GD⟩]
def zA (aL aA bu d_ gw gH ii j8 lp lq dY dZ d7: Int) (kR3 eK: Int→Int→Int→Int→Int→Int→Int→Int→Int→Int→Int→Int→Int→OR'): OR':=
 (bif (yrB (ai (j8 + 1))) then (bif (decide ((dB (ai (j8 + 1)))≤aL)) then (kR3 aL aA bu d_ gw gH ii (ai (j8 + 1)) lp lq dY dZ d7) else (eK aL aA bu d_ gw gH ii j8 lp lq dY dZ d7)) else none)
def oZ: Nat→Int→Int→Int→Int→Int→Int→Int→Int→Int→Int→Int→Int→Int→(Int→Int→Int→Int→Int→Int→Int→Int→Int→Int→Int→Int→Int→OR')→OR'
 | 0,_,_,_,_,_,_,_,_,_,_,_,_,_,_=>none
 | n + 1,aL,aA,bu,d_,gw,gH,ii,j8,lp,lq,dY,dZ,d7,eK=>zA aL aA bu d_ gw gH ii j8 lp lq dY dZ d7 (fun aL aA bu d_ gw gH ii j8 lp lq dY dZ d7=>oZ n aL aA bu d_ gw gH ii j8 lp lq dY dZ d7 eK) eK
abbrev iCiv_p3: SP:=⟨58,[2,3,5],[(.v (.ptr 192 0)),(.v (.i .i64)),(.v (.ptr 384 0))],[(192, .var [(.i .i64),(.i .i64),(.i .i64),(.i .i64),(.i .i64),(.i .i64)]),(384, .var [(.i .i64),(.i .i64),(.i .i64),(.i .i64),(.i .i64),(.i .i64)])]⟩
noncomputable def SE: Code:=aD (aG Tryz.f251) [1,1,1,0,0,0]
def SF (f: (Int→Int→Int→Int→Int→Int→Int→Int→Int→Int→Int→Int→Int→OR')→OR') (k: KT): OR':=f (fun ab ae af kF vd ve vf n6 vg vh bn bp jJ=>k (Ex.exit 0) ((St.mk (aH 0 58 [(2,(AV.ptr 192 0)),(3,(AV.int .i64 ab)),(5,(AV.ptr 384 0))]) ((192,(Ob.var [.int .i64 ae,.int .i64 af,.int .i64 kF,.int .i64 vd,.int .i64 ve,.int .i64 vf]))::((384,(Ob.var [.int .i64 n6,.int .i64 vg,.int .i64 vh,.int .i64 bn,.int .i64 bp,.int .i64 jJ]))::([]: (List (Nat×(Ob)))))))))
def SG (n: Nat) (d: iCiv_p3.D): KT→OR':=SF (oZ n d.1.2.1 d.2.1.1 d.2.1.2.1 d.2.1.2.2.1 d.2.1.2.2.2.1 d.2.1.2.2.2.2.1 d.2.1.2.2.2.2.2.1 d.2.2.1.1 d.2.2.1.2.1 d.2.2.1.2.2.1 d.2.2.1.2.2.2.1 d.2.2.1.2.2.2.2.1 d.2.2.1.2.2.2.2.2.1)
def zB (dU ec ej eJ iz aar aas Od VG aat EL EM EN: Int) (kR6 sd: Int→Int→Int→Int→Int→Int→Int→Int→Int→Int→Int→Int→Int→OR'): OR':=
 (bif (yrB Od) then (bif (decide ((lK Od VG)≤dU)) then (bif (yrB Od) then (kR6 (ai (dU - (lK Od VG))) ec ej eJ iz aar aas Od (ai (VG + 1)) aat EL EM EN) else none) else (sd dU ec ej eJ iz aar aas Od VG aat EL EM EN)) else none)
def o3: Nat→Int→Int→Int→Int→Int→Int→Int→Int→Int→Int→Int→Int→Int→(Int→Int→Int→Int→Int→Int→Int→Int→Int→Int→Int→Int→Int→OR')→OR'
 | 0,_,_,_,_,_,_,_,_,_,_,_,_,_,_=>none
 | n + 1,dU,ec,ej,eJ,iz,aar,aas,Od,VG,aat,EL,EM,EN,sd=>zB dU ec ej eJ iz aar aas Od VG aat EL EM EN (fun dU ec ej eJ iz aar aas Od VG aat EL EM EN=>o3 n dU ec ej eJ iz aar aas Od VG aat EL EM EN sd) sd
abbrev iCiv_p6: SP:=⟨58,[2,3,5],[(.v (.ptr 192 0)),(.v (.i .i64)),(.v (.ptr 384 0))],[(192, .var [(.i .i64),(.i .i64),(.i .i64),(.i .i64),(.i .i64),(.i .i64)]),(384, .var [(.i .i64),(.i .i64),(.i .i64),(.i .i64),(.i .i64),(.i .i64)])]⟩
noncomputable def SH: Code:=aD (aG Tryz.f251) [1,1,1,1,1,0,0,0]
def SI (f: (Int→Int→Int→Int→Int→Int→Int→Int→Int→Int→Int→Int→Int→OR')→OR') (k: KT): OR':=f (fun de dV qP aau aav aaw aax UR US aay Hg Hh Hi=>k (Ex.exit 2) ((St.mk (aH 0 58 [(2,(AV.ptr 192 0)),(3,(AV.int .i64 de)),(5,(AV.ptr 384 0))]) ((192,(Ob.var [.int .i64 dV,.int .i64 qP,.int .i64 aau,.int .i64 aav,.int .i64 aaw,.int .i64 aax]))::((384,(Ob.var [.int .i64 UR,.int .i64 US,.int .i64 aay,.int .i64 Hg,.int .i64 Hh,.int .i64 Hi]))::([]: (List (Nat×(Ob)))))))))
def SJ (n: Nat) (d: iCiv_p6.D): KT→OR':=SI (o3 n d.1.2.1 d.2.1.1 d.2.1.2.1 d.2.1.2.2.1 d.2.1.2.2.2.1 d.2.1.2.2.2.2.1 d.2.1.2.2.2.2.2.1 d.2.2.1.1 d.2.2.1.2.1 d.2.2.1.2.2.1 d.2.2.1.2.2.2.1 d.2.2.1.2.2.2.2.1 d.2.2.1.2.2.2.2.2.1)
def SK (N: Nat): Lam:=bw [⟨3,iCiv_p3,SG N⟩,⟨6,iCiv_p6,SJ N⟩]
theorem XM (N: Nat): OkL Kx iCiv_C.s SD 0 N (SK N) SE:=okL iCiv_p3 (SG) (fun d kR=>SF (zA d.1.2.1 d.2.1.1 d.2.1.2.1 d.2.1.2.2.1 d.2.1.2.2.2.1 d.2.1.2.2.2.2.1 d.2.1.2.2.2.2.2.1 d.2.2.1.1 d.2.2.1.2.1 d.2.2.1.2.2.1 d.2.2.1.2.2.2.1 d.2.2.1.2.2.2.2.1 d.2.2.1.2.2.2.2.2.1 (fun aL aA bu d_ gw gH ii j8 lp lq dY dZ d7=>kR (((),aL,(),()),((aA,bu,d_,gw,gH,ii,()),(j8,lp,lq,dY,dZ,d7,()),()))))) (fun _ _=>by kernel_rfl) (fun _ _ _=>by kernel_rfl) (fun _ _=>by kernel_rfl) (fun _ _ _ _=>by kernel_rfl) (am (l':=[]) (by kernel_rfl) trivial)
theorem XN (N: Nat): OkL Kx iCiv_C.s SD 0 N (SK N) SH:=okL iCiv_p6 (SJ) (fun d kR=>SI (zB d.1.2.1 d.2.1.1 d.2.1.2.1 d.2.1.2.2.1 d.2.1.2.2.2.1 d.2.1.2.2.2.2.1 d.2.1.2.2.2.2.2.1 d.2.2.1.1 d.2.2.1.2.1 d.2.2.1.2.2.1 d.2.2.1.2.2.2.1 d.2.2.1.2.2.2.2.1 d.2.2.1.2.2.2.2.2.1 (fun dU ec ej eJ iz aar aas Od VG aat EL EM EN=>kR (((),dU,(),()),((ec,ej,eJ,iz,aar,aas,()),(Od,VG,aat,EL,EM,EN,()),()))))) (fun _ _=>by kernel_rfl) (fun _ _ _=>by kernel_rfl) (fun _ _=>by kernel_rfl) (fun _ _ _ _=>by kernel_rfl) (am (l':=[]) (by kernel_rfl) trivial)
def Kw (N: Nat) (t: Int): OR':=(oZ N (ai (Int.tdiv t 86400)) 0 0 0 0 0 0 (ai (1970 + (ai (Int.tdiv (ai (Int.tdiv t 86400)) 366)))) 1 0 (ai (Int.tdiv (Int.tmod t 86400) 3600)) (Int.tmod (ai (Int.tdiv (Int.tmod t 86400) 60)) 60) (Int.tmod (Int.tmod t 86400) 60) (fun ab ae af kF vd ve vf n6 vg vh bn bp jJ=>(bif (yrB n6) then (o3 N (ai (ab - (dB n6))) ae af kF vd ve vf n6 vg vh bn bp jJ (fun de dV qP aau aav aaw aax UR US aay Hg Hh Hi=>(some ((AV.agg [.int .i64 UR,.int .i64 US,.int .i64 (ai (de + 1)),.int .i64 Hg,.int .i64 Hh,.int .i64 Hi]),[])))) else none)))
def Ky (φ: Int→Br): List AV→List Ob→Br
 | [.int .i64 t],[]=>φ t
 | _,_=> .fail
theorem SL {φ: Int→Br} (fu: Int→Nat) (hv: ∀ t res_,(φ t).val=some res_→Kw (fu t) t=some res_): Sound Kx 251 (Ky φ):=ar (C:=iCiv_C) (O:=SD) Tryz.func251 (by kernel_rfl) fun args objs=>by
 unfold Ky;split
 · rename_i t;exact .inr fun _ hyp_=>aS (Λ:=SK (fu t)) (by kernel_rfl) (am (l':=[SE,SH]) (by kernel_rfl) ⟨XM _,XN _,trivial⟩) (by kernel_rfl) (hv t _ hyp_)
 · exact .inl rfl
def SM: Opt:={ live:=[(8,[2,4,5]),(5,[2,4,5])],outs:=[(8,[2,3,4,5]),(5,[2,3,4,5])] }
def sCiv_C: SC:=[⟨95,_,uF⟩,⟨257,_,Sw⟩,⟨258,_,Sv⟩]
def zC (aI aR aF a7 ck eg eh cZ fe gJ cC cD cE: Int) (kR5 cR: Int→Int→Int→Int→Int→Int→Int→Int→Int→Int→Int→Int→Int→OR'): OR':=
 (bif (yrB cZ) then (bif (decide ((vD cZ)≤aI)) then (bif (yrB cZ) then (kR5 (ai (aI - (vD cZ))) aR aF a7 ck eg eh (ai (cZ + 1)) fe gJ cC cD cE) else none) else (cR aI aR aF a7 ck eg eh cZ fe gJ cC cD cE)) else none)
def o4: Nat→Int→Int→Int→Int→Int→Int→Int→Int→Int→Int→Int→Int→Int→(Int→Int→Int→Int→Int→Int→Int→Int→Int→Int→Int→Int→Int→OR')→OR'
 | 0,_,_,_,_,_,_,_,_,_,_,_,_,_,_=>none
 | n + 1,aI,aR,aF,a7,ck,eg,eh,cZ,fe,gJ,cC,cD,cE,cR=>zC aI aR aF a7 ck eg eh cZ fe gJ cC cD cE (fun aI aR aF a7 ck eg eh cZ fe gJ cC cD cE=>o4 n aI aR aF a7 ck eg eh cZ fe gJ cC cD cE cR) cR
abbrev sCiv_p5: SP:=⟨57,[2,4,5],[(.v (.ptr 192 0)),(.v (.i .i64)),(.v (.ptr 384 0))],[(192, .var [(.i .i64),(.i .i64),(.i .i64),(.i .i64),(.i .i64),(.i .i64)]),(384, .var [(.i .i64),(.i .i64),(.i .i64),(.i .i64),(.i .i64),(.i .i64)])]⟩
noncomputable def SN: Code:=aD (aG Tryz.f215) [1,1,1,1,0,0,0]
def SO (f: (Int→Int→Int→Int→Int→Int→Int→Int→Int→Int→Int→Int→Int→OR')→OR') (k: KT): OR':=f (fun ap a_ cg eI ei cV dS bb gK gL ey c_ ez=>k (Ex.exit 0) ((St.mk (aH 0 57 [(2,(AV.ptr 192 0)),(4,(AV.int .i64 ap)),(5,(AV.ptr 384 0))]) ((192,(Ob.var [.int .i64 a_,.int .i64 cg,.int .i64 eI,.int .i64 ei,.int .i64 cV,.int .i64 dS]))::((384,(Ob.var [.int .i64 bb,.int .i64 gK,.int .i64 gL,.int .i64 ey,.int .i64 c_,.int .i64 ez]))::([]: (List (Nat×(Ob)))))))))
def SQ (n: Nat) (d: sCiv_p5.D): KT→OR':=SO (o4 n d.1.2.1 d.2.1.1 d.2.1.2.1 d.2.1.2.2.1 d.2.1.2.2.2.1 d.2.1.2.2.2.2.1 d.2.1.2.2.2.2.2.1 d.2.2.1.1 d.2.2.1.2.1 d.2.2.1.2.2.1 d.2.2.1.2.2.2.1 d.2.2.1.2.2.2.2.1 d.2.2.1.2.2.2.2.2.1)
def zD (jR j9 il j_ ka kb kd je jS kf dK dL dM: Int) (kR8 Lr: Int→Int→Int→Int→Int→Int→Int→Int→Int→Int→Int→Int→Int→OR'): OR':=
 (bif (yrB je) then (bif (decide ((lK je jS)≤jR)) then (bif (yrB je) then (kR8 (ai (jR - (lK je jS))) j9 il j_ ka kb kd je (ai (jS + 1)) kf dK dL dM) else none) else (Lr jR j9 il j_ ka kb kd je jS kf dK dL dM)) else none)
def o5: Nat→Int→Int→Int→Int→Int→Int→Int→Int→Int→Int→Int→Int→Int→(Int→Int→Int→Int→Int→Int→Int→Int→Int→Int→Int→Int→Int→OR')→OR'
 | 0,_,_,_,_,_,_,_,_,_,_,_,_,_,_=>none
 | n + 1,jR,j9,il,j_,ka,kb,kd,je,jS,kf,dK,dL,dM,Lr=>zD jR j9 il j_ ka kb kd je jS kf dK dL dM (fun jR j9 il j_ ka kb kd je jS kf dK dL dM=>o5 n jR j9 il j_ ka kb kd je jS kf dK dL dM Lr) Lr
abbrev sCiv_p8: SP:=⟨57,[2,4,5],[(.v (.ptr 192 0)),(.v (.i .i64)),(.v (.ptr 384 0))],[(192, .var [(.i .i64),(.i .i64),(.i .i64),(.i .i64),(.i .i64),(.i .i64)]),(384, .var [(.i .i64),(.i .i64),(.i .i64),(.i .i64),(.i .i64),(.i .i64)])]⟩
noncomputable def SR: Code:=aD (aG Tryz.f215) [1,1,1,1,1,0,0,0]
def SS (f: (Int→Int→Int→Int→Int→Int→Int→Int→Int→Int→Int→Int→Int→OR')→OR') (k: KT): OR':=f (fun lN n7 n8 qR qS qT qU n9 n_ qV iu iw iy=>k (Ex.exit 2) ((St.mk (aH 0 57 [(2,(AV.ptr 192 0)),(4,(AV.int .i64 lN)),(5,(AV.ptr 384 0))]) ((192,(Ob.var [.int .i64 n7,.int .i64 n8,.int .i64 qR,.int .i64 qS,.int .i64 qT,.int .i64 qU]))::((384,(Ob.var [.int .i64 n9,.int .i64 n_,.int .i64 qV,.int .i64 iu,.int .i64 iw,.int .i64 iy]))::([]: (List (Nat×(Ob)))))))))
def ST (n: Nat) (d: sCiv_p8.D): KT→OR':=SS (o5 n d.1.2.1 d.2.1.1 d.2.1.2.1 d.2.1.2.2.1 d.2.1.2.2.2.1 d.2.1.2.2.2.2.1 d.2.1.2.2.2.2.2.1 d.2.2.1.1 d.2.2.1.2.1 d.2.2.1.2.2.1 d.2.2.1.2.2.2.1 d.2.2.1.2.2.2.2.1 d.2.2.1.2.2.2.2.2.1)
def SU (N: Nat): Lam:=bw [⟨5,sCiv_p5,SQ N⟩,⟨8,sCiv_p8,ST N⟩]
theorem XO (N: Nat): OkL Kx sCiv_C.s SM 0 N (SU N) SN:=okL sCiv_p5 (SQ) (fun d kR=>SO (zC d.1.2.1 d.2.1.1 d.2.1.2.1 d.2.1.2.2.1 d.2.1.2.2.2.1 d.2.1.2.2.2.2.1 d.2.1.2.2.2.2.2.1 d.2.2.1.1 d.2.2.1.2.1 d.2.2.1.2.2.1 d.2.2.1.2.2.2.1 d.2.2.1.2.2.2.2.1 d.2.2.1.2.2.2.2.2.1 (fun aI aR aF a7 ck eg eh cZ fe gJ cC cD cE=>kR (((),aI,(),()),((aR,aF,a7,ck,eg,eh,()),(cZ,fe,gJ,cC,cD,cE,()),()))))) (fun _ _=>by kernel_rfl) (fun _ _ _=>by kernel_rfl) (fun _ _=>by kernel_rfl) (fun _ _ _ _=>by kernel_rfl) (am (l':=[]) (by kernel_rfl) trivial)
theorem XP (N: Nat): OkL Kx sCiv_C.s SM 0 N (SU N) SR:=okL sCiv_p8 (ST) (fun d kR=>SS (zD d.1.2.1 d.2.1.1 d.2.1.2.1 d.2.1.2.2.1 d.2.1.2.2.2.1 d.2.1.2.2.2.2.1 d.2.1.2.2.2.2.2.1 d.2.2.1.1 d.2.2.1.2.1 d.2.2.1.2.2.1 d.2.2.1.2.2.2.1 d.2.2.1.2.2.2.2.1 d.2.2.1.2.2.2.2.2.1 (fun jR j9 il j_ ka kb kd je jS kf dK dL dM=>kR (((),jR,(),()),((j9,il,j_,ka,kb,kd,()),(je,jS,kf,dK,dL,dM,()),()))))) (fun _ _=>by kernel_rfl) (fun _ _ _=>by kernel_rfl) (fun _ _=>by kernel_rfl) (fun _ _ _ _=>by kernel_rfl) (am (l':=[]) (by kernel_rfl) trivial)
def Kz (N: Nat) (t: Int): OR':=(bif (!(fb t)) then (some ((AV.tup [.agg [.int .i64 0,.int .i64 0,.int .i64 0,.int .i64 0,.int .i64 0,.int .i64 0],.bool false]),[])) else (o4 N (ai (Int.tdiv t 86400)) 0 0 0 0 0 0 1970 1 0 (Int.tmod (ai (Int.tdiv t 3600)) 24) (Int.tmod (ai (Int.tdiv t 60)) 60) (Int.tmod t 60) (fun ap a_ cg eI ei cV dS bb gK gL ey c_ ez=>(o5 N ap a_ cg eI ei cV dS bb gK gL ey c_ ez (fun lN n7 n8 qR qS qT qU n9 n_ qV iu iw iy=>(some ((AV.tup [.agg [.int .i64 n9,.int .i64 n_,.int .i64 (ai (lN + 1)),.int .i64 iu,.int .i64 iw,.int .i64 iy],.bool true]),[])))))))
def KA (φ: Int→Br): List AV→List Ob→Br
 | [.int .i64 t],[]=>φ t
 | _,_=> .fail
theorem SV {φ: Int→Br} (fu: Int→Nat) (hv: ∀ t res_,(φ t).val=some res_→Kz (fu t) t=some res_): Sound Kx 215 (KA φ):=ar (C:=sCiv_C) (O:=SM) Tryz.func215 (by kernel_rfl) fun args objs=>by
 unfold KA;split
 · rename_i t;exact .inr fun _ hyp_=>aS (Λ:=SU (fu t)) (by kernel_rfl) (am (l':=[SN,SR]) (by kernel_rfl) ⟨XO _,XP _,trivial⟩) (by kernel_rfl) (hv t _ hyp_)
 · exact .inl rfl
theorem kC {y: Int} (h1: 1≤y) (h2: y≤100000): yrB y=true:=by unfold yrB;rw [dT' h1,dT' h2];rfl
theorem GO (y: Int): ∀ k: Nat,0≤mB y k∧mB y k≤31 * k
 | 0=>by simp [mB]
 | k + 1=>by
   have:=GO y k
   have:=oF y (k + 1)
   show 0≤mB y k + lK y (k + 1)∧mB y k + lK y (k + 1)≤_
   push_cast
   omega
theorem SW (y M d h i s: Int) (hy: 1970≤y) (hy2: y≤9999) (hM: M≤12) (K: Int→Int→Int→Int→Int→Int→Int→OR'): ∀ (j: Nat) (acc mo: Int) (n: Nat),M - mo=j→1≤mo→j < n→ -10000000≤acc - mB y (mo - 1).toNat→acc - mB y (mo - 1).toNat≤10000000→
 oY n acc mo y M d h i s K=K (acc - mB y (mo - 1).toNat + mB y (M - 1).toNat) y M d h i s:=by
 intro j;induction j with
 | zero=>
   intro acc mo n hj h1 hn b0 b1;obtain ⟨n,rfl⟩:=bF hn;unfold oY zz
   obtain rfl: mo=M:=by omega
   rw [dF' (by omega),cond_false,show acc - mB y (mo - 1).toNat + mB y (mo - 1).toNat=acc by omega]
 | succ j ih=>
   intro acc mo n hj h1 hn b0 b1;obtain ⟨n,rfl⟩:=bF hn
   have hs:=mq y mo h1
   have hb:=oF y mo
   have hc:=GO y (mo - 1).toNat
   unfold oY zz
   rw [dT' (show mo < M by omega),kC (by omega) (by omega),cond_true,cond_true,w64 (n:=acc + lK y mo) (by omega) (by omega),w64 (n:=mo + 1) (by omega) (by omega)]
   have e: (mo + 1 - 1).toNat=mo.toNat:=by congr 1;omega
   refine (ih (acc + lK y mo) (mo + 1) n (by omega) (by omega) (by omega) (by rw [e,hs];omega) (by rw [e,hs];omega)).trans ?_
   rw [e,hs]
   congr 1
   omega
def agW (p: Cv→Int×Bool): Cv→AV:=fun c=> .tup [.int .i64 (p c).1, .bool (p c).2]
theorem XQ {y: Int} (h1: 1970≤y) (h2: y≤9999): 0≤dB y∧dB y≤2932897:=by
 have a:=gB h1
 have b:=gB (show y≤10000 by omega)
 rw [yW] at a
 rw [rG] at b
 exact ⟨a,b⟩
theorem SX {y m d h i s: Int} (hk: dJ ⟨y,m,d,h,i,s⟩=true): ai ((ai ((ai ((ai (86400 * (dB y + d - 1 + mB y (m - 1).toNat))) + (ai (3600 * h)))) + (ai (60 * i)))) + s)=Vz ⟨y,m,d,h,i,s⟩:=by
 obtain ⟨⟨h1,h2⟩,⟨h3,h4⟩,⟨h5,h6⟩,⟨h7,h8⟩,⟨h9,h10⟩,⟨h11,h12⟩⟩:=cY hk
 simp only at h1 h2 h3 h4 h5 h6 h7 h8 h9 h10 h11 h12
 have hd:=XQ h1 h2
 have hm:=GO y (m - 1).toNat
 have hm2: ((m - 1).toNat: Int)≤11:=by omega
 unfold Vz
 simp only
 generalize dB y=a at *
 generalize mB y (m - 1).toNat=b at *
 rw [w64 (n:=86400 * (a + d - 1 + b)) (by omega) (by omega),w64 (n:=3600 * h) (by omega) (by omega),w64 (n:=60 * i) (by omega) (by omega),w64 (n:=86400 * (a + d - 1 + b) + 3600 * h) (by omega) (by omega),
  w64 (n:=86400 * (a + d - 1 + b) + 3600 * h + 60 * i) (by omega) (by omega),w64 (by omega) (by omega)]
 omega
theorem XR: Sound Kx 208 (ab2 (fun _=>true) (agW lL)):=by
 refine (SB (φ:=fun y m d h i s=> .ret (agW lL ⟨y,m,d,h,i,s⟩) []) (fun _ m _ _ _ _=>m.toNat + 1) fun y m d h i s r hv=>?_).of fun args objs r hv=>?_
 · cases hv
   unfold Ku
   show (bif !dJ ⟨y,m,d,h,i,s⟩ then _ else _)=_
   unfold agW lL
   cases hk: dJ ⟨y,m,d,h,i,s⟩
   · rfl
   · obtain ⟨⟨h1,h2⟩,⟨h3,h4⟩,⟨h5,h6⟩,_⟩:=cY hk
     simp only at h1 h2 h3 h4 h5 h6
     have hd:=XQ h1 h2
     simp only [Bool.not_true,cond_false]
     rw [kC (by omega) (by omega),cond_true,w64 (n:=dB y + d) (by omega) (by omega),w64 (n:=dB y + d - 1) (by omega) (by omega)]
     have e0: mB y (1 - 1 : Int).toNat=0:=rfl
     rw [SW y m d h i s h1 h2 h4 _ (m - 1).toNat (dB y + d - 1) 1 (m.toNat + 1) (by omega) (by omega) (by omega) (by rw [e0];omega) (by rw [e0];omega),e0,Int.sub_zero]
     rw [SX hk]
     rfl
 · unfold ab2 at hv;split at hv
   · obtain ⟨_,h2⟩:=al hv
     exact h2
   · cases hv
theorem XS (day: Int) (h0: 0≤day) (h1: day < 2932897): 1970≤1970 + day / 366∧1970 + day / 366≤yrP day:=by
 obtain ⟨g1,g2,g3,g4⟩:=t8 day h0 h1
 refine ⟨by omega,?_⟩
 by_cases c: 1970 + day / 366≤yrP day
 · exact c
 · have hm:=gB (show yrP day + 1≤1970 + day / 366 by omega)
   have hb: dB (1970 + day / 366)≤day:=by
    unfold dB;omega
   omega
theorem NA (day a1 a2 a3 a4 a5 a6 m d h i s: Int) (h0: 0≤day) (h1: day < 2932897) (K: Int→Int→Int→Int→Int→Int→Int→Int→Int→Int→Int→Int→Int→OR'): ∀ (j: Nat) (y: Int) (n: Nat),yrP day - y=j→1970≤y→j < n→
 oZ n day a1 a2 a3 a4 a5 a6 y m d h i s K=K day a1 a2 a3 a4 a5 a6 (yrP day) m d h i s:=by
 obtain ⟨g1,g2,g3,g4⟩:=t8 day h0 h1
 intro j;induction j with
 | zero=>
   intro y n hj hy hn;obtain ⟨n,rfl⟩:=bF hn;unfold oZ zA
   obtain rfl: y=yrP day:=by omega
   rw [w64 (n:=yrP day + 1) (by omega) (by omega),kC (by omega) (by omega),cond_true,dF' (by omega),cond_false]
 | succ j ih=>
   intro y n hj hy hn;obtain ⟨n,rfl⟩:=bF hn;unfold oZ zA
   have:=gB (show y + 1≤yrP day by omega)
   rw [w64 (n:=y + 1) (by omega) (by omega),kC (by omega) (by omega),cond_true,dT' (by omega),cond_true]
   exact ih (y + 1) n (by omega) (by omega) (by omega)
theorem NB (y D a1 a2 a3 a4 a5 a6 d h i s: Int) (hy: 1970≤y) (hy2: y≤9999) (h0: 0≤D) (h1: D < vD y) (K: Int→Int→Int→Int→Int→Int→Int→Int→Int→Int→Int→Int→Int→OR'): ∀ (j: Nat) (m: Int) (n: Nat),moP y D - m=j→1≤m→j < n→
 o3 n (D - mB y (m - 1).toNat) a1 a2 a3 a4 a5 a6 y m d h i s K=K (D - mB y (moP y D - 1).toNat) a1 a2 a3 a4 a5 a6 y (moP y D) d h i s:=by
 obtain ⟨g1,g2,g3,g4⟩:=oH h0 h1
 have hyl:=t7 y
 intro j;induction j with
 | zero=>
   intro m n hj hm hn;obtain ⟨n,rfl⟩:=bF hn;unfold o3 zB
   obtain rfl: m=moP y D:=by omega
   have hs:=mq y (moP y D) hm
   rw [kC (by omega) (by omega),cond_true,dF' (by omega),cond_false]
 | succ j ih=>
   intro m n hj hm hn;obtain ⟨n,rfl⟩:=bF hn;unfold o3 zB
   have hs:=mq y m hm
   have hmono:=mt y (moP y D - 1).toNat m.toNat (by omega)
   have hb:=GO y (m - 1).toNat
   have hlb:=oF y m
   rw [kC (by omega) (by omega),cond_true,dT' (by omega),cond_true,cond_true,w64 (n:=m + 1) (by omega) (by omega),w64 (n:=D - mB y (m - 1).toNat - lK y m) (by omega) (by omega)]
   have e: (m + 1 - 1).toNat=m.toNat:=by congr 1;omega
   have:=ih (m + 1) n (by omega) (by omega) (by omega)
   rw [e,hs] at this
   rw [show D - mB y (m - 1).toNat - lK y m=D - (mB y (m - 1).toNat + lK y m) by omega]
   exact this
theorem NC (day a1 a2 a3 a4 a5 a6 m d h i s: Int) (h0: 0≤day) (h1: day < 2932897) (K: Int→Int→Int→Int→Int→Int→Int→Int→Int→Int→Int→Int→Int→OR'): ∀ (j: Nat) (y: Int) (n: Nat),yrP day - y=j→1970≤y→j < n→
 o4 n (day - dB y) a1 a2 a3 a4 a5 a6 y m d h i s K=K (t_ day) a1 a2 a3 a4 a5 a6 (yrP day) m d h i s:=by
 obtain ⟨g1,g2,g3,g4⟩:=t8 day h0 h1
 intro j;induction j with
 | zero=>
   intro y n hj hy hn;obtain ⟨n,rfl⟩:=bF hn;unfold o4 zC
   obtain rfl: y=yrP day:=by omega
   have hs:=yV (yrP day)
   rw [kC (by omega) (by omega),cond_true,dF' (by omega),cond_false]
   rfl
 | succ j ih=>
   intro y n hj hy hn;obtain ⟨n,rfl⟩:=bF hn;unfold o4 zC
   have:=gB (show y + 1≤yrP day by omega)
   have hs:=yV y
   have hb:=t7 y
   have hd:=XQ hy (by omega)
   rw [kC (by omega) (by omega),cond_true,dT' (by omega),cond_true,cond_true,w64 (n:=y + 1) (by omega) (by omega),w64 (n:=day - dB y - vD y) (by omega) (by omega)]
   have:=ih (y + 1) n (by omega) (by omega) (by omega)
   rw [hs] at this
   rw [show day - dB y - vD y=day - (dB y + vD y) by omega]
   exact this
theorem ND (y D a1 a2 a3 a4 a5 a6 d h i s: Int) (hy: 1970≤y) (hy2: y≤9999) (h0: 0≤D) (h1: D < vD y) (K: Int→Int→Int→Int→Int→Int→Int→Int→Int→Int→Int→Int→Int→OR'): ∀ (j: Nat) (m: Int) (n: Nat),moP y D - m=j→1≤m→j < n→
 o5 n (D - mB y (m - 1).toNat) a1 a2 a3 a4 a5 a6 y m d h i s K=K (D - mB y (moP y D - 1).toNat) a1 a2 a3 a4 a5 a6 y (moP y D) d h i s:=by
 obtain ⟨g1,g2,g3,g4⟩:=oH h0 h1
 have hyl:=t7 y
 intro j;induction j with
 | zero=>
   intro m n hj hm hn;obtain ⟨n,rfl⟩:=bF hn;unfold o5 zD
   obtain rfl: m=moP y D:=by omega
   have hs:=mq y (moP y D) hm
   rw [kC (by omega) (by omega),cond_true,dF' (by omega),cond_false]
 | succ j ih=>
   intro m n hj hm hn;obtain ⟨n,rfl⟩:=bF hn;unfold o5 zD
   have hs:=mq y m hm
   have hmono:=mt y (moP y D - 1).toNat m.toNat (by omega)
   have hb:=GO y (m - 1).toNat
   have hlb:=oF y m
   rw [kC (by omega) (by omega),cond_true,dT' (by omega),cond_true,cond_true,w64 (n:=m + 1) (by omega) (by omega),w64 (n:=D - mB y (m - 1).toNat - lK y m) (by omega) (by omega)]
   have e: (m + 1 - 1).toNat=m.toNat:=by congr 1;omega
   have:=ih (m + 1) n (by omega) (by omega) (by omega)
   rw [e,hs] at this
   rw [show D - mB y (m - 1).toNat - lK y m=D - (mB y (m - 1).toNat + lK y m) by omega]
   exact this
def cvY (t: Int): Int:=(oG t).y
def dE (t: Int): Int:=(oG t).m
def cvD (t: Int): Int:=(oG t).d
def cvH (t: Int): Int:=(oG t).h
def vq (t: Int): Int:=(oG t).i
def vr (t: Int): Int:=(oG t).s
theorem kD (t: Int): cvM (cvY t) (dE t) (cvD t) (cvH t) (vq t) (vr t)=oG t:=rfl
def agi (t: Int): AV:= .agg [.int .i64 (cvY t), .int .i64 (dE t), .int .i64 (cvD t), .int .i64 (cvH t), .int .i64 (vq t), .int .i64 (vr t)]
theorem tdv {a: Int} (h: 0≤a) (k: Int): Int.tdiv a k=a / k:=Int.tdiv_eq_ediv_of_nonneg h
theorem zE: Sound Kx 251 (D3 fb agi):=by
 refine (SL (φ:=fun t=> .ite (fb t) (.ret (agi t) []) .fail) (fun _=>10020) fun t r hv=>?_).of fun args objs r hv=>?_
 · obtain ⟨h1,h2⟩:=al hv
   cases h2
   obtain ⟨t0,t1⟩:=GL h1
   obtain ⟨g0,g1,g2,g3⟩:=FY h1
   have d0: 0≤t / 86400:=by omega
   have d1: t / 86400 < 2932897:=by omega
   obtain ⟨s1,s2⟩:=XS (t / 86400) d0 d1
   have hm:=oH g0 g1
   have hdb:=XQ g2 g3
   unfold Kw
   rw [Int.tmod_eq_emod_of_nonneg t0,tdv t0,w64 (n:=t / 86400) (by omega) (by omega),tdv d0,w64 (n:=t / 86400 / 366) (by omega) (by omega),w64 (n:=1970 + t / 86400 / 366) (by omega) (by omega),
    NA (t / 86400) 0 0 0 0 0 0 1 0 _ _ _ d0 d1 _ (yrP (t / 86400) - (1970 + t / 86400 / 366)).toNat (1970 + t / 86400 / 366) 10020 (by omega) s1 (by omega)]
   rw [kC (by omega) (by omega),cond_true,w64 (n:=t / 86400 - dB (yrP (t / 86400))) (by omega) (by omega)]
   have e0: t / 86400 - dB (yrP (t / 86400))=t_ (t / 86400) - mB (yrP (t / 86400)) (1 - 1 : Int).toNat:=by
    rw [show mB (yrP (t / 86400)) (1 - 1 : Int).toNat=0 from rfl,Int.sub_zero];rfl
   rw [e0,NB (yrP (t / 86400)) (t_ (t / 86400)) 0 0 0 0 0 0 0 _ _ _ g2 g3 g0 g1 _ (moP (yrP (t / 86400)) (t_ (t / 86400)) - 1).toNat 1 10020 (by omega) (by omega) (by omega)]
   have r0: 0≤t % 86400:=by omega
   have hb:=GO (yrP (t / 86400)) (moP (yrP (t / 86400)) (t_ (t / 86400)) - 1).toNat
   have hy:=t7 (yrP (t / 86400))
   rw [tdv r0,tdv r0,Int.tmod_eq_emod_of_nonneg r0,w64 (n:=t % 86400 / 3600) (by omega) (by omega),w64 (n:=t % 86400 / 60) (by omega) (by omega),Int.tmod_eq_emod_of_nonneg (show 0≤t % 86400 / 60 by omega),w64 (n:=t_ (t / 86400) - mB (yrP (t / 86400)) (moP (yrP (t / 86400)) (t_ (t / 86400)) - 1).toNat + 1) (by omega) (by omega),
    show t % 86400 / 3600=t / 3600 % 24 by omega,show t % 86400 / 60 % 60=t / 60 % 60 by omega,show t % 86400 % 60=t % 60 by omega]
   rfl
 · unfold D3 at hv;split at hv
   · exact hv
   · cases hv
def aeG: List AV→List Ob→Br
 | [.int .i64 t],[]=> .ite (fb t) (.ret (.tup [agi t, .bool true]) []) (.ret (.tup [.agg [.int .i64 0, .int .i64 0, .int .i64 0, .int .i64 0, .int .i64 0, .int .i64 0], .bool false]) [])
 | _,_=> .fail
theorem zF: Sound Kx 215 aeG:=by
 refine (SV (φ:=fun t=> .ite (fb t) (.ret (.tup [agi t, .bool true]) []) (.ret (.tup [.agg [.int .i64 0, .int .i64 0, .int .i64 0, .int .i64 0, .int .i64 0, .int .i64 0], .bool false]) [])) (fun _=>10020) fun t r hv=>?_).of fun args objs r hv=>?_
 · rw [← hv]
   unfold Kz
   cases h1: fb t
   · rfl
   simp only [Bool.not_true,cond_false]
   obtain ⟨t0,t1⟩:=GL h1
   obtain ⟨g0,g1,g2,g3⟩:=FY h1
   have d0: 0≤t / 86400:=by omega
   have d1: t / 86400 < 2932897:=by omega
   have hm:=oH g0 g1
   have e1: t / 86400=t / 86400 - dB 1970:=by rw [yW];omega
   rw [tdv t0,tdv t0,tdv t0,w64 (n:=t / 86400) (by omega) (by omega),w64 (n:=t / 3600) (by omega) (by omega),w64 (n:=t / 60) (by omega) (by omega),Int.tmod_eq_emod_of_nonneg (show 0≤t / 3600 by omega),Int.tmod_eq_emod_of_nonneg (show 0≤t / 60 by omega),Int.tmod_eq_emod_of_nonneg t0]
   have l5:=fun K=>NC (t / 86400) 0 0 0 0 0 0 1 0 (t / 3600 % 24) (t / 60 % 60) (t % 60) d0 d1 K (yrP (t / 86400) - 1970).toNat 1970 10020 (by omega) (by omega) (by omega)
   rw [← e1] at l5
   rw [l5]
   have e0: t_ (t / 86400)=t_ (t / 86400) - mB (yrP (t / 86400)) (1 - 1 : Int).toNat:=by
    rw [show mB (yrP (t / 86400)) (1 - 1 : Int).toNat=0 from rfl,Int.sub_zero]
   have l8:=fun K=>ND (yrP (t / 86400)) (t_ (t / 86400)) 0 0 0 0 0 0 0 (t / 3600 % 24) (t / 60 % 60) (t % 60) g2 g3 g0 g1 K (moP (yrP (t / 86400)) (t_ (t / 86400)) - 1).toNat 1 10020 (by omega) (by omega) (by omega)
   rw [← e0] at l8
   rw [l8]
   have hb:=GO (yrP (t / 86400)) (moP (yrP (t / 86400)) (t_ (t / 86400)) - 1).toNat
   have hy:=t7 (yrP (t / 86400))
   rw [w64 (n:=t_ (t / 86400) - mB (yrP (t / 86400)) (moP (yrP (t / 86400)) (t_ (t / 86400)) - 1).toNat + 1) (by omega) (by omega)]
   rfl
 · unfold aeG at hv;split at hv
   · exact hv
   · cases hv
def aeH: List AV→List Ob→Br
 | [.str s, .str sep],[]=> .ite (decide (s.length≤1000000)) (.ret (.bool (oK s sep)) []) .fail
 | _,_=> .fail
theorem ab4: Sound Kx 246 aeH:=by
 refine cO Tryz.func246 (by kernel_rfl) rfl fun args objs res objs' hv w L vs hR hr=>?_
 unfold aeH at hv
 split at hv
 case h_2=>cases hv
 rename_i s sep
 obtain ⟨h1,h2⟩:=al hv
 cases h2
 rw [decide_eq_true_eq] at h1
 refine ⟨rfl,?_⟩
 simp only [aX,rel] at hr
 obtain ⟨v,vs',rfl,rfl,v2,vs2,rfl,rfl,rfl⟩:=hr
 obtain ⟨m,hm⟩:=hR.g.2.1 0 (by kernel_rfl)
 refine (Tryz.strings_Contains ⟨s.toArray⟩ ⟨sep.toArray⟩ m w (by show s.toArray.size < _;simp;omega) hm).mono ?_
 rintro e w' ⟨rfl,rfl⟩
 refine ⟨_,rfl,Below.refl _ _,?_⟩
 simp only [rel]
 rfl
def agj (φ: Int→Int→Int→Int→Int→Int→Br): List AV→List Ob→Br
 | [.agg [.int .i64 y, .int .i64 m, .int .i64 d, .int .i64 h, .int .i64 i, .int .i64 s]],[]=>φ y m d h i s
 | _,_=> .fail
def ab5: Opt:={ split:=true }
def ab6: SC:=[⟨130,_,kB⟩,⟨251,_,zE⟩,⟨252,_,uJ⟩,⟨253,_,GM⟩,⟨254,_,rV⟩,⟨245,_,nP⟩,⟨255,_,zx⟩]
abbrev jE (t: Int):=(((((cut (List.getD xM (Int.toNat (wkP t)) ([]: aa)) 0 3)++([44,32]: aa))++(bh 2 (cvD t)))++([32]: aa))++(List.getD monL (Int.toNat (ai ((dE t) - 1))) ([]: aa)))
def zG (t: Int): Br:=(.ite (!(fb t)) (.ret (AV.str ([]: aa)) []) (.ite (fb t) (.ite (decide (0≤(wkP t))) (.ite (decide ((wkP t) < 7)) (.ite (decide (3≤((List.length (List.getD xM (Int.toNat (wkP t)) ([]: aa))): Int))) (.ite (decide (((List.length (cut (List.getD xM (Int.toNat (wkP t)) ([]: aa)) 0 3)) + 2)≤9223372036854775807)) (.ite (dgB (cvD t) 2) (.ite (decide (((List.length ((cut (List.getD xM (Int.toNat (wkP t)) ([]: aa)) 0 3)++([44,32]: aa))) + (List.length (bh 2 (cvD t))))≤9223372036854775807)) (.ite (decide (((List.length (((cut (List.getD xM (Int.toNat (wkP t)) ([]: aa)) 0 3)++([44,32]: aa))++(bh 2 (cvD t)))) + 1)≤9223372036854775807)) (.ite (decide (0≤(ai ((dE t) - 1)))) (.ite (decide ((ai ((dE t) - 1)) < 12)) (.ite (decide (((List.length ((((cut (List.getD xM (Int.toNat (wkP t)) ([]: aa)) 0 3)++([44,32]: aa))++(bh 2 (cvD t)))++([32]: aa))) + (List.length (List.getD monL (Int.toNat (ai ((dE t) - 1))) ([]: aa))))≤9223372036854775807)) (.ite (decide (((List.length (jE t)) + 1)≤9223372036854775807)) (.ite (dgB (cvY t) 4) (.ite (decide (((List.length ((jE t)++([32]: aa))) + (List.length (bh 4 (cvY t))))≤9223372036854775807)) (.ite (decide (((List.length (((jE t)++([32]: aa))++(bh 4 (cvY t)))) + 1)≤9223372036854775807)) (.ite (dJ (cvM (cvY t) (dE t) (cvD t) (cvH t) (vq t) (vr t))) (.ite (decide (((List.length ((((jE t)++([32]: aa))++(bh 4 (cvY t)))++([32]: aa))) + (List.length (aZ (cvM (cvY t) (dE t) (cvD t) (cvH t) (vq t) (vr t)))))≤9223372036854775807)) (.ite (decide (((List.length (((((jE t)++([32]: aa))++(bh 4 (cvY t)))++([32]: aa))++(aZ (cvM (cvY t) (dE t) (cvD t) (cvH t) (vq t) (vr t))))) + 4)≤9223372036854775807)) (.ret (AV.str ((((((jE t)++([32]: aa))++(bh 4 (cvY t)))++([32]: aa))++(aZ (cvM (cvY t) (dE t) (cvD t) (cvH t) (vq t) (vr t))))++([32,71,77,84]: aa))) []) .fail) .fail) .fail) .fail) .fail) .fail) .fail) .fail) .fail) .fail) .fail) .fail) .fail) .fail) .fail) .fail) .fail) .fail))
def SY: List AV→List Ob→Br
 | [.int .i64 t],[]=>zG t
 | _,_=> .fail
theorem XT: Sound Kx 209 SY:=ah (C:=ab6) (O:=ab5) Tryz.func209 (by kernel_rfl) fun args objs=>by
 unfold SY;split
 · exact .inr (by kernel_rfl)
 · exact .inl rfl
def ab7: Opt:={ split:=true }
def ab8: SC:=[⟨130,_,kB⟩,⟨251,_,zE⟩,⟨252,_,uJ⟩,⟨253,_,GM⟩,⟨254,_,rV⟩,⟨245,_,nP⟩,⟨255,_,zx⟩]
abbrev jF (t: Int):=(((((List.getD xM (Int.toNat (wkP t)) ([]: aa))++([44,32]: aa))++(bh 2 (cvD t)))++([45]: aa))++(List.getD monL (Int.toNat (ai ((dE t) - 1))) ([]: aa)))
def zH (t: Int): Br:=(.ite (!(fb t)) (.ret (AV.str ([]: aa)) []) (.ite (fb t) (.ite (decide (2069 < (cvY t))) (.ret (AV.str ([]: aa)) []) (.ite (fb t) (.ite (decide (0≤(wkP t))) (.ite (decide ((wkP t) < 7)) (.ite (decide (((List.length (List.getD xM (Int.toNat (wkP t)) ([]: aa))) + 2)≤9223372036854775807)) (.ite (dgB (cvD t) 2) (.ite (decide (((List.length ((List.getD xM (Int.toNat (wkP t)) ([]: aa))++([44,32]: aa))) + (List.length (bh 2 (cvD t))))≤9223372036854775807)) (.ite (decide (((List.length (((List.getD xM (Int.toNat (wkP t)) ([]: aa))++([44,32]: aa))++(bh 2 (cvD t)))) + 1)≤9223372036854775807)) (.ite (decide (0≤(ai ((dE t) - 1)))) (.ite (decide ((ai ((dE t) - 1)) < 12)) (.ite (decide (((List.length ((((List.getD xM (Int.toNat (wkP t)) ([]: aa))++([44,32]: aa))++(bh 2 (cvD t)))++([45]: aa))) + (List.length (List.getD monL (Int.toNat (ai ((dE t) - 1))) ([]: aa))))≤9223372036854775807)) (.ite (decide (((List.length (jF t)) + 1)≤9223372036854775807)) (.ite (dgB (cvY t) 2) (.ite (decide (((List.length ((jF t)++([45]: aa))) + (List.length (bh 2 (cvY t))))≤9223372036854775807)) (.ite (decide (((List.length (((jF t)++([45]: aa))++(bh 2 (cvY t)))) + 1)≤9223372036854775807)) (.ite (dJ (cvM (cvY t) (dE t) (cvD t) (cvH t) (vq t) (vr t))) (.ite (decide (((List.length ((((jF t)++([45]: aa))++(bh 2 (cvY t)))++([32]: aa))) + (List.length (aZ (cvM (cvY t) (dE t) (cvD t) (cvH t) (vq t) (vr t)))))≤9223372036854775807)) (.ite (decide (((List.length (((((jF t)++([45]: aa))++(bh 2 (cvY t)))++([32]: aa))++(aZ (cvM (cvY t) (dE t) (cvD t) (cvH t) (vq t) (vr t))))) + 4)≤9223372036854775807)) (.ret (AV.str ((((((jF t)++([45]: aa))++(bh 2 (cvY t)))++([32]: aa))++(aZ (cvM (cvY t) (dE t) (cvD t) (cvH t) (vq t) (vr t))))++([32,71,77,84]: aa))) []) .fail) .fail) .fail) .fail) .fail) .fail) .fail) .fail) .fail) .fail) .fail) .fail) .fail) .fail) .fail) .fail) .fail)) .fail))
def SZ: List AV→List Ob→Br
 | [.int .i64 t],[]=>zH t
 | _,_=> .fail
theorem XU: Sound Kx 210 SZ:=ah (C:=ab8) (O:=ab7) Tryz.func210 (by kernel_rfl) fun args objs=>by
 unfold SZ;split
 · exact .inr (by kernel_rfl)
 · exact .inl rfl
def ab9: Opt:={ split:=true }
def ab_: SC:=[⟨130,_,kB⟩,⟨251,_,zE⟩,⟨252,_,uJ⟩,⟨253,_,GM⟩,⟨254,_,rV⟩,⟨245,_,nP⟩,⟨255,_,zx⟩]
abbrev h_ (t: Int):=(((cut (List.getD xM (Int.toNat (wkP t)) ([]: aa)) 0 3)++([32]: aa))++(List.getD monL (Int.toNat (ai ((dE t) - 1))) ([]: aa)))
abbrev lg (t: Int):=(((h_ t)++([32]: aa))++(([32]: aa)++(cut (bh 2 (cvD t)) 1 ((List.length (bh 2 (cvD t))): Int))))
abbrev eT (t: Int):=(cvM (cvY t) (dE t) (cvD t) (cvH t) (vq t) (vr t))
abbrev zI (t: Int):=(decide (((List.length ((cut (List.getD xM (Int.toNat (wkP t)) ([]: aa)) 0 3)++([32]: aa))) + (List.length (List.getD monL (Int.toNat (ai ((dE t) - 1))) ([]: aa))))≤9223372036854775807))
abbrev nQ (t: Int):=((((h_ t)++([32]: aa))++(bh 2 (cvD t)))++([32]: aa))
def zJ (t: Int): Br:=(.ite (!(fb t)) (.ret (AV.str ([]: aa)) []) (.ite (fb t) (.ite (dgB (cvD t) 2) (.ite (decide ((cvD t) < 10)) (.ite (decide (1≤((List.length (bh 2 (cvD t))): Int))) (.ite (decide ((1 + (List.length (cut (bh 2 (cvD t)) 1 ((List.length (bh 2 (cvD t))): Int))))≤9223372036854775807)) (.ite (decide (0≤(wkP t))) (.ite (decide ((wkP t) < 7)) (.ite (decide (3≤((List.length (List.getD xM (Int.toNat (wkP t)) ([]: aa))): Int))) (.ite (decide (((List.length (cut (List.getD xM (Int.toNat (wkP t)) ([]: aa)) 0 3)) + 1)≤9223372036854775807)) (.ite (decide (0≤(ai ((dE t) - 1)))) (.ite (decide ((ai ((dE t) - 1)) < 12)) (.ite (zI t) (.ite (decide (((List.length (h_ t)) + 1)≤9223372036854775807)) (.ite (decide (((List.length ((h_ t)++([32]: aa))) + (List.length (([32]: aa)++(cut (bh 2 (cvD t)) 1 ((List.length (bh 2 (cvD t))): Int)))))≤9223372036854775807)) (.ite (decide (((List.length (lg t)) + 1)≤9223372036854775807)) (.ite (dJ (eT t)) (.ite (decide (((List.length ((lg t)++([32]: aa))) + (List.length (aZ (eT t))))≤9223372036854775807)) (.ite (decide (((List.length (((lg t)++([32]: aa))++(aZ (eT t)))) + 1)≤9223372036854775807)) (.ite (dgB (cvY t) 4) (.ite (decide (((List.length ((((lg t)++([32]: aa))++(aZ (eT t)))++([32]: aa))) + (List.length (bh 4 (cvY t))))≤9223372036854775807)) (.ret (AV.str (((((lg t)++([32]: aa))++(aZ (eT t)))++([32]: aa))++(bh 4 (cvY t)))) []) .fail) .fail) .fail) .fail) .fail) .fail) .fail) .fail) .fail) .fail) .fail) .fail) .fail) .fail) .fail) .fail) .fail) (.ite (decide (0≤(wkP t))) (.ite (decide ((wkP t) < 7)) (.ite (decide (3≤((List.length (List.getD xM (Int.toNat (wkP t)) ([]: aa))): Int))) (.ite (decide (((List.length (cut (List.getD xM (Int.toNat (wkP t)) ([]: aa)) 0 3)) + 1)≤9223372036854775807)) (.ite (decide (0≤(ai ((dE t) - 1)))) (.ite (decide ((ai ((dE t) - 1)) < 12)) (.ite (zI t) (.ite (decide (((List.length (h_ t)) + 1)≤9223372036854775807)) (.ite (decide (((List.length ((h_ t)++([32]: aa))) + (List.length (bh 2 (cvD t))))≤9223372036854775807)) (.ite (decide (((List.length (((h_ t)++([32]: aa))++(bh 2 (cvD t)))) + 1)≤9223372036854775807)) (.ite (dJ (eT t)) (.ite (decide (((List.length (nQ t)) + (List.length (aZ (eT t))))≤9223372036854775807)) (.ite (decide (((List.length ((nQ t)++(aZ (eT t)))) + 1)≤9223372036854775807)) (.ite (dgB (cvY t) 4) (.ite (decide (((List.length (((nQ t)++(aZ (eT t)))++([32]: aa))) + (List.length (bh 4 (cvY t))))≤9223372036854775807)) (.ret (AV.str ((((nQ t)++(aZ (eT t)))++([32]: aa))++(bh 4 (cvY t)))) []) .fail) .fail) .fail) .fail) .fail) .fail) .fail) .fail) .fail) .fail) .fail) .fail) .fail) .fail) .fail)) .fail) .fail))
def S0: List AV→List Ob→Br
 | [.int .i64 t],[]=>zJ t
 | _,_=> .fail
theorem XV: Sound Kx 211 S0:=ah (C:=ab_) (O:=ab9) Tryz.func211 (by kernel_rfl) fun args objs=>by
 unfold S0;split
 · exact .inr (by kernel_rfl)
 · exact .inl rfl
def aca: Opt:={ split:=true }
def acb: SC:=[⟨215,_,zF⟩,⟨216,_,uK⟩,⟨217,_,GN⟩,⟨218,_,rW⟩,⟨214,_,uL⟩,⟨219,_,zy⟩]
def zK (t: Int): Br:=(.ite (fb t) (.ite (decide (3≤((List.length (eb (wkP t))): Int))) (.ite (decide (((List.length (cut (eb (wkP t)) 0 3)) + 2)≤9223372036854775807)) (.ite (pdB (cvD t) 2) (.ite (decide (((List.length ((cut (eb (wkP t)) 0 3)++([44,32]: aa))) + (List.length (bh 2 (cvD t))))≤9223372036854775807)) (.ite (decide (((List.length (((cut (eb (wkP t)) 0 3)++([44,32]: aa))++(bh 2 (cvD t)))) + 1)≤9223372036854775807)) (.ite (moB (dE t)) (.ite (decide (((List.length ((((cut (eb (wkP t)) 0 3)++([44,32]: aa))++(bh 2 (cvD t)))++([32]: aa))) + (List.length (eZ (dE t))))≤9223372036854775807)) (.ite (decide (((List.length (((((cut (eb (wkP t)) 0 3)++([44,32]: aa))++(bh 2 (cvD t)))++([32]: aa))++(eZ (dE t)))) + 1)≤9223372036854775807)) (.ite (pdB (cvY t) 4) (.ite (decide (((List.length ((((((cut (eb (wkP t)) 0 3)++([44,32]: aa))++(bh 2 (cvD t)))++([32]: aa))++(eZ (dE t)))++([32]: aa))) + (List.length (bh 4 (cvY t))))≤9223372036854775807)) (.ite (decide (((List.length (((((((cut (eb (wkP t)) 0 3)++([44,32]: aa))++(bh 2 (cvD t)))++([32]: aa))++(eZ (dE t)))++([32]: aa))++(bh 4 (cvY t)))) + 1)≤9223372036854775807)) (.ite (dJ (cvM (cvY t) (dE t) (cvD t) (cvH t) (vq t) (vr t))) (.ite (decide (((List.length ((((((((cut (eb (wkP t)) 0 3)++([44,32]: aa))++(bh 2 (cvD t)))++([32]: aa))++(eZ (dE t)))++([32]: aa))++(bh 4 (cvY t)))++([32]: aa))) + (List.length (aZ (cvM (cvY t) (dE t) (cvD t) (cvH t) (vq t) (vr t)))))≤9223372036854775807)) (.ite (decide (((List.length (((((((((cut (eb (wkP t)) 0 3)++([44,32]: aa))++(bh 2 (cvD t)))++([32]: aa))++(eZ (dE t)))++([32]: aa))++(bh 4 (cvY t)))++([32]: aa))++(aZ (cvM (cvY t) (dE t) (cvD t) (cvH t) (vq t) (vr t))))) + 4)≤9223372036854775807)) (.ret (AV.str ((((((((((cut (eb (wkP t)) 0 3)++([44,32]: aa))++(bh 2 (cvD t)))++([32]: aa))++(eZ (dE t)))++([32]: aa))++(bh 4 (cvY t)))++([32]: aa))++(aZ (cvM (cvY t) (dE t) (cvD t) (cvH t) (vq t) (vr t))))++([32,71,77,84]: aa))) []) .fail) .fail) .fail) .fail) .fail) .fail) .fail) .fail) .fail) .fail) .fail) .fail) .fail) .fail) (.ret (AV.str ([]: aa)) []))
def S1: List AV→List Ob→Br
 | [.int .i64 t],[]=>zK t
 | _,_=> .fail
theorem XW: Sound Kx 155 S1:=ah (C:=acb) (O:=aca) Tryz.func155 (by kernel_rfl) fun args objs=>by
 unfold S1;split
 · exact .inr (by kernel_rfl)
 · exact .inl rfl
def KB: Opt:={ live:=[(2,[0,5,6,7])],outs:=[(2,[2])] }
def iMonIn_C: SC:=[⟨245,_,nP⟩,⟨246,_,ab4⟩]
def nR (aK: aa) (aM cr: Int) (gV: (List aa)) (kR2: aa→Int→Int→(List aa)→OR') (cu: Int→OR') (dn: OR'): OR':=
 (bif (decide (cr < aM)) then (bif (decide (0≤cr)) then (bif (decide (cr < (gV.length: Int))) then (bif (decide (aK.length≤1000000)) then (bif (oK aK (List.getD gV (Int.toNat cr) ([]: aa))) then (cu (ai (cr + 1))) else (kR2 aK aM (ai (cr + 1)) gV)) else none) else none) else none) else dn)
def iX: Nat→aa→Int→Int→(List aa)→(Int→OR')→(OR')→OR'
 | 0,_,_,_,_,_,_=>none
 | n + 1,aK,aM,cr,gV,cu,dn=>nR aK aM cr gV (fun aK aM cr gV=>iX n aK aM cr gV cu dn) cu dn
abbrev iMonIn_p2: SP:=⟨18,[0,5,6,7],[(.v .s),(.v (.ref 384 0)),(.v (.i .i64)),(.v (.i .i64))],[(384, .arr Ty.str 0 false)]⟩
noncomputable def D5: Code:=aD (aG Tryz.f206) [1,0,1,0,0]
def D6 (f: (Int→OR')→(OR')→OR') (k: KT): OR':=f (fun bS=>k Ex.ret ((St.mk (aH 0 18 [(2,(AV.int .i64 bS))]) ([]: (List (Nat×(Ob))))))) (k (Ex.exit 0) ((St.mk (aH 0 18 []) ([]: (List (Nat×(Ob)))))))
def D7 (n: Nat) (d: iMonIn_p2.D): KT→OR':=D6 (iX n d.1.1 d.1.2.2.1 d.1.2.2.2.1 d.2.1)
def KC (N: Nat): Lam:=bw [⟨2,iMonIn_p2,D7 N⟩]
theorem NE (N: Nat): OkL Kx iMonIn_C.s KB 0 N (KC N) D5:=okL iMonIn_p2 (D7) (fun d kR=>D6 (nR d.1.1 d.1.2.2.1 d.1.2.2.2.1 d.2.1 (fun aK aM cr gV=>kR ((aK,(),aM,cr,()),(gV,()))))) (fun _ _=>by kernel_rfl) (fun _ _ _=>by kernel_rfl) (fun _ _=>by kernel_rfl) (fun _ _ _ _=>by kernel_rfl) (am (l':=[]) (by kernel_rfl) trivial)
def xN (N: Nat) (s: aa): OR':=(iX N s 12 0 monL (fun bS=>(some ((AV.int .i64 bS),[]))) (some ((AV.int .i64 0),[])))
def xO (φ: aa→Br): List AV→List Ob→Br
 | [.str s],[]=>φ s
 | _,_=> .fail
theorem GP {φ: aa→Br} (fu: aa→Nat) (hv: ∀ s res_,(φ s).val=some res_→xN (fu s) s=some res_): Sound Kx 206 (xO φ):=ar (C:=iMonIn_C) (O:=KB) Tryz.func206 (by kernel_rfl) fun args objs=>by
 unfold xO;split
 · rename_i s;exact .inr fun _ hyp_=>aS (Λ:=KC (fu s)) (by kernel_rfl) (am (l':=[D5]) (by kernel_rfl) ⟨NE _,trivial⟩) (by kernel_rfl) (hv s _ hyp_)
 · exact .inl rfl
theorem aeI {t: Int} (h: fb t=true): 0≤wdP t∧wdP t < 7:=by
 unfold wdP;omega
theorem acd {w: Int} (h0: 0≤w) (h1: w < 7): List.getD xM w.toNat []=eb w:=by
 have: w=0∨w=1∨w=2∨w=3∨w=4∨w=5∨w=6:=by omega
 rcases this with rfl | rfl | rfl | rfl | rfl | rfl | rfl <;> rfl
theorem S3 {m: Int} (h0: 1≤m) (h1: m≤12): List.getD monL (m - 1).toNat []=eZ m:=by
 rcases fM h0 h1 with rfl | rfl | rfl | rfl | rfl | rfl | rfl | rfl | rfl | rfl | rfl | rfl <;> rfl
theorem NF (s: aa): Ev.cut s 0 3=s.take 3:=by unfold Ev.cut;simp
structure CivF (t: Int): Prop where
 wk: wkP t=wdP t
 d0: decide ((0 : Int)≤wdP t)=true
 d1: decide (wdP t < (7 : Int))=true
 dg: List.getD xM (wdP t).toNat ([]: aa)=eb (wdP t)
 m0: decide ((0 : Int)≤dE t - 1)=true
 m1: decide (dE t - 1 < (12 : Int))=true
 mw: ai (dE t - 1)=dE t - 1
 mg: List.getD monL (dE t - 1).toNat ([]: aa)=eZ (dE t)
 ml: (eZ (dE t)).length=3
 mb: moB (dE t)=true
 cl: (aZ (cvM (cvY t) (dE t) (cvD t) (cvH t) (vq t) (vr t))).length=8
 ok: dJ (cvM (cvY t) (dE t) (cvD t) (cvH t) (vq t) (vr t))=true
 g1: dgB (cvD t) 2=true
 g2: dgB (cvY t) 4=true
 g3: dgB (cvY t) 2=true
 p1: pdB (cvD t) 2=true
 p2: pdB (cvY t) 4=true
 p3: pdB (cvY t % 100) 2=true
theorem ac8 {t: Int} (h: fb t=true): CivF t:=by
 obtain ⟨hk,_⟩:=CP h
 obtain ⟨⟨h1,h2⟩,⟨h3,h4⟩,_⟩:=cY hk
 obtain ⟨w0,w1⟩:=aeI h
 obtain ⟨⟨_,_,_,g1,g2,g3⟩,⟨_,_,_,p1,p2,p3⟩⟩:=zw hk
 have h3': 1≤dE t:=h3
 have h4': dE t≤12:=h4
 exact ⟨by unfold wkP;rw [h];rfl,dT' w0,dT' w1,acd w0 w1,dT' (by omega),dT' (by omega),w64 (by omega) (by omega),S3 h3' h4',zb h3' h4',
  by unfold moB;rw [dT' h3',dT' h4'];rfl,nJ _,hk,g1,g2,g3,p1,p2,p3⟩
theorem S4: Sound Kx 209 (D3 (fun _=>true) fun t=> .str (iq t)):=oX XT fun t _=>by
 show (zG t).val=some (.str (iq t),[])
 unfold zG iq jE
 cases h: fb t
 · rfl
 have F:=ac8 h
 have dl:=jB (wdP t)
 have dl2:=mz (wdP t)
 have e3: decide ((3 : Int)≤((eb (wdP t)).length: Int))=true:=dT' (by omega)
 simp only [F.wk,F.d0,F.d1,F.dg,F.mw,F.m0,F.m1,F.mg,F.ml,F.cl,F.ok,F.g1,F.g2,F.g3,e3,NF,dl,List.length_append,cF,List.length_cons,List.length_nil,Br.val,Bool.not_true]
 simp [lx,MI,List.append_assoc,kD,Br.val,cvD,dE,cvY]
 rfl
theorem S5: Sound Kx 210 (D3 (fun _=>true) fun t=> .str (jZ t)):=oX XU fun t _=>by
 show (zH t).val=some (.str (jZ t),[])
 unfold zH jZ jF
 cases h: fb t
 · rfl
 have F:=ac8 h
 have dl2:=mz (wdP t)
 by_cases c: cvY t≤2069
 · have e1: decide (2069 < cvY t)=false:=dF' (by omega)
   have e2: decide ((oG t).y≤2069)=true:=dT' c
   have e3: ∀ k: Nat,9≤k→decide ((eb (wdP t)).length≤k)=true:=fun k hk=>dT' (by omega)
   rw [e2]
   simp only [F.wk,F.d0,F.d1,F.dg,F.mw,F.m0,F.m1,F.mg,F.ml,F.cl,F.ok,F.g1,F.g2,F.g3,e1,List.length_append,cF,List.length_cons,List.length_nil,Br.val,Bool.not_true,Nat.add_assoc]
   simp (disch:=omega) [e3,mu,MI,List.append_assoc,kD,Br.val,cvD,dE,cvY]
   rfl
 · have e1: decide (2069 < cvY t)=true:=dT' (by omega)
   have e2: decide ((oG t).y≤2069)=false:=dF' c
   rw [e1,e2];rfl
theorem agX (n: Int): Ev.cut (bh 2 n) 1 2=[dg n]:=rfl
theorem aeJ (n: Int): Ev.cut (bh 2 n) 1 ((bh 2 n).length: Int)=[dg n]:=by
 rw [cF];rfl
theorem S6: Sound Kx 211 (D3 (fun _=>true) fun t=> .str (j0 t)):=oX XV fun t _=>by
 show (zJ t).val=some (.str (j0 t),[])
 unfold zJ j0 nQ zI eT lg h_
 cases h: fb t
 · rfl
 have F:=ac8 h
 have dl:=jB (wdP t)
 have dl2:=mz (wdP t)
 have e3: decide ((3 : Int)≤((eb (wdP t)).length: Int))=true:=dT' (by omega)
 have hd: oI (wdP t) (oG t)=(eb (wdP t)).take 3++32::eZ (dE t)++32::vE (cvD t)++32::aZ (oG t)++32::bh 4 (cvY t):=rfl
 rw [hd]
 by_cases c: cvD t < 10
 · have e1: decide (cvD t < 10)=true:=dT' c
   have e2: vE (cvD t)=[32,dg (cvD t)]:=by unfold vE;rw [e1];rfl
   have e4: decide ((1 : Int)≤(((bh 2 (cvD t)).length: Nat): Int))=true:=by rw [cF];rfl
   rw [e2]
   simp only [F.wk,F.d0,F.d1,F.dg,F.mw,F.m0,F.m1,F.mg,F.ml,F.cl,F.ok,F.g1,F.g2,F.g3,e1,e3,e4,NF,aeJ,dl,List.length_append,cF,List.length_cons,List.length_nil,Br.val,Bool.not_true]
   simp [List.append_assoc,kD,Br.val,agX]
 · have e1: decide (cvD t < 10)=false:=dF' c
   have e2: vE (cvD t)=bh 2 (cvD t):=by unfold vE;rw [e1];rfl
   rw [e2]
   simp only [F.wk,F.d0,F.d1,F.dg,F.mw,F.m0,F.m1,F.mg,F.ml,F.cl,F.ok,F.g1,F.g2,F.g3,e1,e3,NF,dl,List.length_append,cF,List.length_cons,List.length_nil,Br.val,Bool.not_true]
   simp [List.append_assoc,kD,Br.val]
theorem S7: Sound Kx 155 (D3 (fun _=>true) fun t=> .str (iq t)):=oX XW fun t _=>by
 show (zK t).val=some (.str (iq t),[])
 unfold zK iq
 cases h: fb t
 · rfl
 have F:=ac8 h
 have dl:=jB (wdP t)
 have dl2:=mz (wdP t)
 have e3: decide ((3 : Int)≤((eb (wdP t)).length: Int))=true:=dT' (by omega)
 simp only [F.wk,F.d0,F.d1,F.mb,F.ml,F.cl,F.ok,F.p1,F.p2,F.p3,e3,NF,dl,List.length_append,cF,List.length_cons,List.length_nil,Br.val,Bool.not_true]
 simp [lx,MI,List.append_assoc,kD,Br.val,cvD,dE,cvY]
 rfl
def ace: Opt:={ split:=true }
def acf: SC:=[⟨215,_,zF⟩,⟨216,_,uK⟩,⟨217,_,GN⟩,⟨218,_,rW⟩,⟨214,_,uL⟩,⟨219,_,zy⟩]
def zL (t: Int): Br:=(.ite (fb t) (.ite (decide (2069 < (cvY t))) (.ret (AV.str ([]: aa)) []) (.ite (decide (((List.length (eb (wkP t))) + 2)≤9223372036854775807)) (.ite (pdB (cvD t) 2) (.ite (decide (((List.length ((eb (wkP t))++([44,32]: aa))) + (List.length (bh 2 (cvD t))))≤9223372036854775807)) (.ite (decide (((List.length (((eb (wkP t))++([44,32]: aa))++(bh 2 (cvD t)))) + 1)≤9223372036854775807)) (.ite (moB (dE t)) (.ite (decide (((List.length ((((eb (wkP t))++([44,32]: aa))++(bh 2 (cvD t)))++([45]: aa))) + (List.length (eZ (dE t))))≤9223372036854775807)) (.ite (decide (((List.length (((((eb (wkP t))++([44,32]: aa))++(bh 2 (cvD t)))++([45]: aa))++(eZ (dE t)))) + 1)≤9223372036854775807)) (.ite (pdB (Int.tmod (cvY t) 100) 2) (.ite (decide (((List.length ((((((eb (wkP t))++([44,32]: aa))++(bh 2 (cvD t)))++([45]: aa))++(eZ (dE t)))++([45]: aa))) + (List.length (bh 2 (Int.tmod (cvY t) 100))))≤9223372036854775807)) (.ite (decide (((List.length (((((((eb (wkP t))++([44,32]: aa))++(bh 2 (cvD t)))++([45]: aa))++(eZ (dE t)))++([45]: aa))++(bh 2 (Int.tmod (cvY t) 100)))) + 1)≤9223372036854775807)) (.ite (dJ (cvM (cvY t) (dE t) (cvD t) (cvH t) (vq t) (vr t))) (.ite (decide (((List.length ((((((((eb (wkP t))++([44,32]: aa))++(bh 2 (cvD t)))++([45]: aa))++(eZ (dE t)))++([45]: aa))++(bh 2 (Int.tmod (cvY t) 100)))++([32]: aa))) + (List.length (aZ (cvM (cvY t) (dE t) (cvD t) (cvH t) (vq t) (vr t)))))≤9223372036854775807)) (.ite (decide (((List.length (((((((((eb (wkP t))++([44,32]: aa))++(bh 2 (cvD t)))++([45]: aa))++(eZ (dE t)))++([45]: aa))++(bh 2 (Int.tmod (cvY t) 100)))++([32]: aa))++(aZ (cvM (cvY t) (dE t) (cvD t) (cvH t) (vq t) (vr t))))) + 4)≤9223372036854775807)) (.ret (AV.str ((((((((((eb (wkP t))++([44,32]: aa))++(bh 2 (cvD t)))++([45]: aa))++(eZ (dE t)))++([45]: aa))++(bh 2 (Int.tmod (cvY t) 100)))++([32]: aa))++(aZ (cvM (cvY t) (dE t) (cvD t) (cvH t) (vq t) (vr t))))++([32,71,77,84]: aa))) []) .fail) .fail) .fail) .fail) .fail) .fail) .fail) .fail) .fail) .fail) .fail) .fail) .fail)) (.ret (AV.str ([]: aa)) []))
def S8: List AV→List Ob→Br
 | [.int .i64 t],[]=>zL t
 | _,_=> .fail
theorem XX: Sound Kx 157 S8:=ah (C:=acf) (O:=ace) Tryz.func157 (by kernel_rfl) fun args objs=>by
 unfold S8;split
 · exact .inr (by kernel_rfl)
 · exact .inl rfl
def acg: Opt:={ split:=true }
def ach: SC:=[⟨215,_,zF⟩,⟨216,_,uK⟩,⟨217,_,GN⟩,⟨218,_,rW⟩,⟨214,_,uL⟩,⟨219,_,zy⟩,⟨191,_,oD⟩]
abbrev fI (t: Int):=((((cut (eb (wkP t)) 0 3)++([32]: aa))++(eZ (dE t)))++([32]: aa))
abbrev eU (t: Int):=(cvM (cvY t) (dE t) (cvD t) (cvH t) (vq t) (vr t))
abbrev nS (t: Int):=(((fI t)++(([32]: aa)++(bT (cvD t))))++([32]: aa))
def zM (t: Int): Br:=(.ite (fb t) (.ite (pdB (cvD t) 2) (.ite (decide ((cvD t) < 10)) (.ite (bC (cvD t)) (.ite (decide ((1 + (List.length (bT (cvD t))))≤9223372036854775807)) (.ite (decide (3≤((List.length (eb (wkP t))): Int))) (.ite (decide (((List.length (cut (eb (wkP t)) 0 3)) + 1)≤9223372036854775807)) (.ite (moB (dE t)) (.ite (decide (((List.length ((cut (eb (wkP t)) 0 3)++([32]: aa))) + (List.length (eZ (dE t))))≤9223372036854775807)) (.ite (decide (((List.length (((cut (eb (wkP t)) 0 3)++([32]: aa))++(eZ (dE t)))) + 1)≤9223372036854775807)) (.ite (decide (((List.length (fI t)) + (List.length (([32]: aa)++(bT (cvD t)))))≤9223372036854775807)) (.ite (decide (((List.length ((fI t)++(([32]: aa)++(bT (cvD t))))) + 1)≤9223372036854775807)) (.ite (dJ (eU t)) (.ite (decide (((List.length (nS t)) + (List.length (aZ (eU t))))≤9223372036854775807)) (.ite (decide (((List.length ((nS t)++(aZ (eU t)))) + 1)≤9223372036854775807)) (.ite (pdB (cvY t) 4) (.ite (decide (((List.length (((nS t)++(aZ (eU t)))++([32]: aa))) + (List.length (bh 4 (cvY t))))≤9223372036854775807)) (.ret (AV.str ((((nS t)++(aZ (eU t)))++([32]: aa))++(bh 4 (cvY t)))) []) .fail) .fail) .fail) .fail) .fail) .fail) .fail) .fail) .fail) .fail) .fail) .fail) .fail) .fail) (.ite (decide (3≤((List.length (eb (wkP t))): Int))) (.ite (decide (((List.length (cut (eb (wkP t)) 0 3)) + 1)≤9223372036854775807)) (.ite (moB (dE t)) (.ite (decide (((List.length ((cut (eb (wkP t)) 0 3)++([32]: aa))) + (List.length (eZ (dE t))))≤9223372036854775807)) (.ite (decide (((List.length (((cut (eb (wkP t)) 0 3)++([32]: aa))++(eZ (dE t)))) + 1)≤9223372036854775807)) (.ite (decide (((List.length (fI t)) + (List.length (bh 2 (cvD t))))≤9223372036854775807)) (.ite (decide (((List.length ((fI t)++(bh 2 (cvD t)))) + 1)≤9223372036854775807)) (.ite (dJ (eU t)) (.ite (decide (((List.length (((fI t)++(bh 2 (cvD t)))++([32]: aa))) + (List.length (aZ (eU t))))≤9223372036854775807)) (.ite (decide (((List.length ((((fI t)++(bh 2 (cvD t)))++([32]: aa))++(aZ (eU t)))) + 1)≤9223372036854775807)) (.ite (pdB (cvY t) 4) (.ite (decide (((List.length (((((fI t)++(bh 2 (cvD t)))++([32]: aa))++(aZ (eU t)))++([32]: aa))) + (List.length (bh 4 (cvY t))))≤9223372036854775807)) (.ret (AV.str ((((((fI t)++(bh 2 (cvD t)))++([32]: aa))++(aZ (eU t)))++([32]: aa))++(bh 4 (cvY t)))) []) .fail) .fail) .fail) .fail) .fail) .fail) .fail) .fail) .fail) .fail) .fail) .fail)) .fail) (.ret (AV.str ([]: aa)) []))
def S9: List AV→List Ob→Br
 | [.int .i64 t],[]=>zM t
 | _,_=> .fail
theorem XY: Sound Kx 156 S9:=ah (C:=ach) (O:=acg) Tryz.func156 (by kernel_rfl) fun args objs=>by
 unfold S9;split
 · exact .inr (by kernel_rfl)
 · exact .inl rfl
theorem aeK {t: Int} (h: fb t=true): Int.tmod (cvY t) 100=cvY t % 100:=by
 obtain ⟨hk,_⟩:=CP h
 obtain ⟨⟨h1,h2⟩,_⟩:=cY hk
 exact Int.tmod_eq_emod_of_nonneg (show 0≤cvY t from by have: 1970≤cvY t:=h1;omega)
theorem S_: Sound Kx 157 (D3 (fun _=>true) fun t=> .str (jZ t)):=oX XX fun t _=>by
 show (zL t).val=some (.str (jZ t),[])
 unfold zL jZ
 cases h: fb t
 · rfl
 have F:=ac8 h
 have dl2:=mz (wdP t)
 have hm:=aeK h
 have hp: bh 2 (cvY t % 100)=bh 2 (cvY t):=(Rf _).symm
 by_cases c: cvY t≤2069
 · have e1: decide (2069 < cvY t)=false:=dF' (by omega)
   have e2: decide ((oG t).y≤2069)=true:=dT' c
   have e3: ∀ k: Nat,9≤k→decide ((eb (wdP t)).length≤k)=true:=fun k hk=>dT' (by omega)
   rw [e2]
   simp only [F.wk,F.d0,F.d1,hm,hp,F.mb,F.ml,F.cl,F.ok,F.p1,F.p2,F.p3,e1,List.length_append,cF,List.length_cons,List.length_nil,Br.val,Bool.not_true,Nat.add_assoc]
   simp (disch:=omega) [e3,mu,MI,List.append_assoc,kD,Br.val,cvD,dE,cvY]
   rfl
 · have e1: decide (2069 < cvY t)=true:=dT' (by omega)
   have e2: decide ((oG t).y≤2069)=false:=dF' c
   rw [e1,e2];rfl
theorem Ta: Sound Kx 156 (D3 (fun _=>true) fun t=> .str (j0 t)):=oX XY fun t _=>by
 show (zM t).val=some (.str (j0 t),[])
 unfold zM j0 nS eU fI
 cases h: fb t
 · rfl
 have F:=ac8 h
 have dl:=jB (wdP t)
 have dl2:=mz (wdP t)
 have e3: decide ((3 : Int)≤((eb (wdP t)).length: Int))=true:=dT' (by omega)
 obtain ⟨hk,_⟩:=CP h
 obtain ⟨_,_,⟨d1,d2⟩,_⟩:=cY hk
 have d1': 1≤cvD t:=d1
 have hd: oI (wdP t) (oG t)=(eb (wdP t)).take 3++32::eZ (dE t)++32::vE (cvD t)++32::aZ (oG t)++32::bh 4 (cvY t):=rfl
 rw [hd]
 by_cases c: cvD t < 10
 · have e1: decide (cvD t < 10)=true:=dT' c
   have e2: vE (cvD t)=[32,dg (cvD t)]:=by unfold vE;rw [e1];rfl
   have e5: bT (cvD t)=[dg (cvD t)]:=by
    have:=GE (n:=cvD t)
    rw [show cvD t % 10=cvD t by omega] at this
    exact this
   have e6: bC (cvD t)=true:=by unfold bC;rw [dT' (by omega),dT' (by omega)];rfl
   rw [e2]
   simp only [F.wk,F.d0,F.d1,e5,e6,F.mb,F.ml,F.cl,F.ok,F.p1,F.p2,F.p3,e1,e3,NF,dl,List.length_append,cF,List.length_cons,List.length_nil,Br.val,Bool.not_true]
   simp [List.append_assoc,kD,Br.val]
 · have e1: decide (cvD t < 10)=false:=dF' c
   have e2: vE (cvD t)=bh 2 (cvD t):=by unfold vE;rw [e1];rfl
   rw [e2]
   simp only [F.wk,F.d0,F.d1,F.mb,F.ml,F.cl,F.ok,F.p1,F.p2,F.p3,e1,e3,NF,dl,List.length_append,cF,List.length_cons,List.length_nil,Br.val,Bool.not_true]
   simp [List.append_assoc,kD,Br.val]
def ahE (g: aa→Bool) (p: aa→AV): List AV→List Ob→Br
 | [.str s],[]=> .ite (g s) (.ret (p s) []) .fail
 | _,_=> .fail
def agk (s: aa): Nat→Int→Int
 | 0,_=>0
 | j + 1,m=>bif oK s (eZ m) then m else agk s j (m + 1)
theorem aeL (s: aa): Jp s=agk s 12 1:=rfl
theorem GQ (s: aa) (hl: s.length≤1000000) (K: Int→OR'): ∀ (j: Nat) (m: Int) (n: Nat),m + j=13→1≤m→j < n→iX n s 12 (m - 1) monL K (K 0)=K (agk s j m):=by
 intro j;induction j with
 | zero=>
   intro m n hj h1 hn;obtain ⟨n,rfl⟩:=bF hn;unfold iX nR
   rw [dF' (by omega)];rfl
 | succ j ih=>
   intro m n hj h1 hn;obtain ⟨n,rfl⟩:=bF hn
   have e1: decide (m - 1 < ((monL.length: Nat): Int))=true:=dT' (by show m - 1 < 12;omega)
   unfold iX nR
   rw [dT' (show m - 1 < 12 by omega),dT' (show 0≤m - 1 by omega),e1,dT' hl,S3 h1 (by omega),w64 (n:=m - 1 + 1) (by omega) (by omega)]
   simp only [cond_true]
   have hr:=ih (m + 1) n (by omega) (by omega) (by omega)
   rw [show m + 1 - 1=m - 1 + 1 by omega] at hr
   rw [hr,agk,show m - 1 + 1=m by omega]
   cases oK s (eZ m) <;> rfl
theorem NG: Sound Kx 206 (ahE (fun s=>decide (s.length≤1000000)) fun s=> .int .i64 (Jp s)):=by
 refine (GP (φ:=fun s=> .ite (decide (s.length≤1000000)) (.ret (.int .i64 (Jp s)) []) .fail) (fun _=>20) fun s r hv=>?_).of fun args objs r hv=>?_
 · obtain ⟨h1,h2⟩:=al hv
   cases h2
   unfold xN
   rw [aeL]
   exact GQ s (of_decide_eq_true h1) (fun x=>some (.int .i64 x,[])) 12 1 20 (by omega) (by omega) (by omega)
 · unfold ahE at hv;split at hv
   · exact hv
   · cases hv
abbrev fT (code: List Int):=(ofI (aT 5 code (an 3 code 0) (au 3 (lI code))) ([97,98,44,33]: aa) code (an 5 code (an 3 code 0)) (au 5 (au 3 (lI code))))
abbrev mM (code: List Int):=(ofH (aT 5 code (an 3 code 0) (au 3 (lI code))) ([97,98,44,33]: aa) code (an 5 code (an 3 code 0)) (au 5 (au 3 (lI code))))
abbrev mN (code: List Int):=(List.getD (List.set (List.set (List.set (List.replicate 3 ([]: aa)) 0 ([]: aa)) 1 ([87,47]: aa)) 2 ([119,47]: aa)) (Int.toNat (aT 3 code 0 (lI code))) ([]: aa))
abbrev o6 (code: List Int):=(ofS (aT 5 code (an 3 code 0) (au 3 (lI code))) ([97,98,44,33]: aa) code (an 5 code (an 3 code 0)) (au 5 (au 3 (lI code))))
abbrev zN (code: List Int):=(ofS (ai (188 + (aT 2 code (an 9 code (an 3 code (fT code))) (au 9 (au 3 (mM code)))))) ([116]: aa) code (an 2 code (an 9 code (an 3 code (fT code)))) (au 2 (au 9 (au 3 (mM code)))))
def GR (code: List Int): Br:=(.ite (decide (code.length≤281474976710656)) (.ite ((okC code 0)&&true) (.ite (decide (((List.length (mN code)) + 1)≤9223372036854775807)) (.ite (okC code (an 3 code 0)) (.ite (((okC code (an 5 code (an 3 code 0)))&&(decide ((aT 5 code (an 3 code 0) (au 3 (lI code)))≤1000000)))&&true) (.ite (decide (((List.length ((mN code)++([34]: aa))) + (List.length (o6 code)))≤9223372036854775807)) (.ite (decide (((List.length (((mN code)++([34]: aa))++(o6 code))) + 1)≤9223372036854775807)) (.ite (okC code (fT code)) (.ite (decide ((aT 3 code (fT code) (mM code))=0)) (.ite ((okC code (an 3 code (fT code)))&&(decide ((List.length ((((mN code)++([34]: aa))++(o6 code))++([34]: aa)))≤1000000))) (.ret (AV.str (oE ((((mN code)++([34]: aa))++(o6 code))++([34]: aa)) code (an 3 code (fT code)) (au 3 (mM code))).1) []) .fail) (.ite (okC code (an 3 code (fT code))) (.ite (decide ((aT 9 code (an 3 code (fT code)) (au 3 (mM code)))=0)) (.ite (okC code (an 9 code (an 3 code (fT code)))) (.ite (((okC code (an 2 code (an 9 code (an 3 code (fT code)))))&&(decide ((ai (188 + (aT 2 code (an 9 code (an 3 code (fT code))) (au 9 (au 3 (mM code))))))≤1000000)))&&true) (.ite (decide ((1 + (List.length (zN code)))≤9223372036854775807)) (.ite (decide (((List.length (([34]: aa)++(zN code))) + 1)≤9223372036854775807)) (.ret (AV.str ((([34]: aa)++(zN code))++([34]: aa))) []) .fail) .fail) .fail) .fail) (.ret (AV.str ((((mN code)++([34]: aa))++(o6 code))++([34]: aa))) [])) .fail)) .fail) .fail) .fail) .fail) .fail) .fail) .fail) .fail)
def ahF: List AV→List Ob→Br
 | [.sh (.int .u8) code],[]=>GR code
 | _,_=> .fail
def NH: SC:=[⟨115,_,gh⟩,⟨71,_,ci⟩,⟨155,_,S7⟩,⟨146,_,sU⟩,⟨157,_,S_⟩,⟨156,_,Ta⟩,⟨193,_,mn⟩]
abbrev fk (at_: Int) (code: List Int) (i h: Int):=(ai (at_ + (List.getD (List.set (List.set (List.set (List.set (List.set (List.set (List.set (List.replicate 7 (0 : Int)) 0 (-100000)) 1 (-3000)) 2 (-60)) 3 (-5)) 4 0) 5 5) 6 60) (Int.toNat (aT 7 code i h)) 0)))
abbrev fm (at_: Int) (code: List Int) (i h: Int):=(List.set (List.set (List.set (List.set (List.replicate 4 ([]: aa)) 0 (iq (fk at_ code i h))) 1 (jZ (fk at_ code i h))) 2 (j0 (fk at_ code i h))) 3 ([48]: aa))
def gE (at_: Int) (code: List Int) (i h: Int): Br:=(.ite ((okC code i)&&true) (.ite (okC code (an 7 code i)) (.ite (decide ((aT 7 code (an 7 code i) (au 7 h))=0)) (.ret (AV.agg [.str ([68,97,116,101]: aa),.str (iq (fk at_ code i h))]) [.var [.sh (Ty.int .u8) code,.int .i64 (an 7 code (an 7 code i)),.int .i64 (au 7 (au 7 h))]]) (.ite (decide ((aT 7 code (an 7 code i) (au 7 h))=1)) (.ite ((okC code (an 7 code (an 7 code i)))&&(decide (0 < (List.length (fm at_ code i h))))) (.ret (AV.agg [.str ([69,120,112,105,114,101,115]: aa),.str (List.getD (fm at_ code i h) (Int.toNat (aT ((List.length (fm at_ code i h)): Int) code (an 7 code (an 7 code i)) (au 7 (au 7 h)))) ([]: aa))]) [.var [.sh (Ty.int .u8) code,.int .i64 (an ((List.length (fm at_ code i h)): Int) code (an 7 code (an 7 code i))),.int .i64 (au ((List.length (fm at_ code i h)): Int) (au 7 (au 7 h)))]]) .fail) (.ite (decide ((aT 7 code (an 7 code i) (au 7 h))=2)) (.ret (AV.agg [.str ([76,97,115,116,45,77,111,100,105,102,105,101,100]: aa),.str (iq (fk at_ code i h))]) [.var [.sh (Ty.int .u8) code,.int .i64 (an 7 code (an 7 code i)),.int .i64 (au 7 (au 7 h))]]) (.ite (decide ((aT 7 code (an 7 code i) (au 7 h))=3)) (.ite ((okC code (an 7 code (an 7 code i)))&&true) (.ret (AV.agg [.str ([65,103,101]: aa),.str (List.getD (List.set (List.set (List.set (List.set (List.replicate 4 ([]: aa)) 0 ([48]: aa)) 1 ([55]: aa)) 2 ([120]: aa)) 3 ([57,57,57,57,57,57,57,57,57,57,57]: aa)) (Int.toNat (aT 4 code (an 7 code (an 7 code i)) (au 7 (au 7 h)))) ([]: aa))]) [.var [.sh (Ty.int .u8) code,.int .i64 (an 4 code (an 7 code (an 7 code i))),.int .i64 (au 4 (au 7 (au 7 h)))]]) .fail) (.ite (decide ((aT 7 code (an 7 code i) (au 7 h))=4)) (.ite ((okC code (an 7 code (an 7 code i)))&&true) (.ret (AV.agg [.str ([67,97,99,104,101,45,67,111,110,116,114,111,108]: aa),.str (List.getD (List.set (List.set (List.set (List.set (List.set (List.set (List.set (List.set (List.replicate 8 ([]: aa)) 0 ([109,97,120,45,97,103,101,61,53]: aa)) 1 ([109,97,120,45,97,103,101,61,54,48]: aa)) 2 ([115,45,109,97,120,97,103,101,61,57]: aa)) 3 ([110,111,45,99,97,99,104,101]: aa)) 4 ([109,117,115,116,45,114,101,118,97,108,105,100,97,116,101]: aa)) 5 ([112,117,98,108,105,99]: aa)) 6 ([112,114,105,118,97,116,101]: aa)) 7 ([110,111,45,115,116,111,114,101]: aa)) (Int.toNat (aT 8 code (an 7 code (an 7 code i)) (au 7 (au 7 h)))) ([]: aa))]) [.var [.sh (Ty.int .u8) code,.int .i64 (an 8 code (an 7 code (an 7 code i))),.int .i64 (au 8 (au 7 (au 7 h)))]]) .fail) (.ite ((okC code (an 7 code (an 7 code i)))&&true) (.ret (AV.agg [.str (q8 () code (an 7 code (an 7 code i)) (au 7 (au 7 h))).1.1,.str (q8 () code (an 7 code (an 7 code i)) (au 7 (au 7 h))).1.2]) [.var [.sh (Ty.int .u8) code,.int .i64 (q8 () code (an 7 code (an 7 code i)) (au 7 (au 7 h))).2.1,.int .i64 (q8 () code (an 7 code (an 7 code i)) (au 7 (au 7 h))).2.2]]) .fail)))))) .fail) .fail)
def xP: List AV→List Ob→Br
 | [.ptr 0 0, .int .i64 at_],[.var [.sh (.int .u8) code, .int .i64 i, .int .i64 h]]=>gE at_ code i h
 | _,_=> .fail
theorem GS: Sound Kx 114 xP:=ah (C:=NH) (O:=O0) Tryz.func114 (by kernel_rfl) fun args objs=>by
 unfold xP;split
 · exact .inr (by kernel_rfl)
 · exact .inl rfl
def mO (code: List Int) (i h: Int): Br:=(.ite (okC code i) (.ite (decide ((aT 10 code i h)=0)) (.ite ((okC code (an 10 code i))&&true) (.ret (AV.agg [.str ([73,102,45,78,111,110,101,45,77,97,116,99,104]: aa),.str (List.getD (List.set (List.set (List.set (List.set (List.set (List.set (List.replicate 6 ([]: aa)) 0 ([34,97,34]: aa)) 1 ([87,47,34,98,34]: aa)) 2 ([34,97,34,44,32,34,99,34]: aa)) 3 ([42]: aa)) 4 ([120]: aa)) 5 ([34,113,44,114,34]: aa)) (Int.toNat (aT 6 code (an 10 code i) (au 10 h))) ([]: aa))]) [.var [.sh (Ty.int .u8) code,.int .i64 (an 6 code (an 10 code i)),.int .i64 (au 6 (au 10 h))]]) .fail) (.ite (decide ((aT 10 code i h)=1)) (.ite ((okC code (an 10 code i))&&true) (.ret (AV.agg [.str ([73,102,45,77,111,100,105,102,105,101,100,45,83,105,110,99,101]: aa),.str (iq (ai (1000000 + (List.getD (List.set (List.set (List.set (List.set (List.replicate 4 (0 : Int)) 0 (-100000)) 1 (-60)) 2 0) 3 60) (Int.toNat (aT 4 code (an 10 code i) (au 10 h))) 0))))]) [.var [.sh (Ty.int .u8) code,.int .i64 (an 4 code (an 10 code i)),.int .i64 (au 4 (au 10 h))]]) .fail) (.ite (decide ((aT 10 code i h)=2)) (.ite ((okC code (an 10 code i))&&true) (.ret (AV.agg [.str (List.getD (List.set (List.set (List.set (List.set (List.set (List.replicate 5 ([]: aa)) 0 ([65,117,116,104,111,114,105,122,97,116,105,111,110]: aa)) 1 ([82,97,110,103,101]: aa)) 2 ([73,102,45,77,97,116,99,104]: aa)) 3 ([105,102,45,117,110,109,111,100,105,102,105,101,100,45,115,105,110,99,101]: aa)) 4 ([73,102,45,82,97,110,103,101]: aa)) (Int.toNat (aT 5 code (an 10 code i) (au 10 h))) ([]: aa)),.str ([122]: aa)]) [.var [.sh (Ty.int .u8) code,.int .i64 (an 5 code (an 10 code i)),.int .i64 (au 5 (au 10 h))]]) .fail) (.ite (decide ((aT 10 code i h)=3)) (.ite ((okC code (an 10 code i))&&true) (.ret (AV.agg [.str ([67,97,99,104,101,45,67,111,110,116,114,111,108]: aa),.str (List.getD (List.set (List.set (List.set (List.set (List.set (List.replicate 5 ([]: aa)) 0 ([110,111,45,99,97,99,104,101]: aa)) 1 ([110,111,45,115,116,111,114,101]: aa)) 2 ([109,97,120,45,97,103,101,61,51]: aa)) 3 ([109,97,120,45,115,116,97,108,101,61,53,48]: aa)) 4 ([111,110,108,121,45,105,102,45,99,97,99,104,101,100]: aa)) (Int.toNat (aT 5 code (an 10 code i) (au 10 h))) ([]: aa))]) [.var [.sh (Ty.int .u8) code,.int .i64 (an 5 code (an 10 code i)),.int .i64 (au 5 (au 10 h))]]) .fail) (.ite ((okC code (an 10 code i))&&true) (.ret (AV.agg [.str (q8 () code (an 10 code i) (au 10 h)).1.1,.str (q8 () code (an 10 code i) (au 10 h)).1.2]) [.var [.sh (Ty.int .u8) code,.int .i64 (q8 () code (an 10 code i) (au 10 h)).2.1,.int .i64 (q8 () code (an 10 code i) (au 10 h)).2.2]]) .fail))))) .fail)
def NI (n: Int): Br:=(.ite (decide (n=200)) (.ret (AV.str ([79,75]: aa)) []) (.ite (decide (n=304)) (.ret (AV.str ([78,111,116,32,77,111,100,105,102,105,101,100]: aa)) []) (.ite (decide (n=400)) (.ret (AV.str ([66,97,100,32,82,101,113,117,101,115,116]: aa)) []) (.ite (decide (n=413)) (.ret (AV.str ([67,111,110,116,101,110,116,32,84,111,111,32,76,97,114,103,101]: aa)) []) (.ite (decide (n=431)) (.ret (AV.str ([82,101,113,117,101,115,116,32,72,101,97,100,101,114,32,70,105,101,108,100,115,32,84,111,111,32,76,97,114,103,101]: aa)) []) (.ite (decide (n=502)) (.ret (AV.str ([66,97,100,32,71,97,116,101,119,97,121]: aa)) []) (.ite (decide (n=503)) (.ret (AV.str ([83,101,114,118,105,99,101,32,85,110,97,118,97,105,108,97,98,108,101]: aa)) []) (.ite (decide (n=504)) (.ret (AV.str ([71,97,116,101,119,97,121,32,84,105,109,101,111,117,116]: aa)) []) (.ret (AV.str ([]: aa)) [])))))))))
def D8: List AV→List Ob→Br
 | [.int .i64 n],[]=>NI n
 | _,_=> .fail
theorem NJ: Sound Kx 229 D8:=ah (C:=[]) (O:=O0) Tryz.func229 (by kernel_rfl) fun args objs=>by
 unfold D8;split
 · exact .inr (by kernel_rfl)
 · exact .inl rfl
end
end Go.Proofs.YtgknmoadpgpdeaaGreatDoor.Ev
namespace Go.Proofs.YtgknmoadpgpdeaaGreatDoor.Ev
open Go Go.RowKit
set_option linter.unusedVariables false
set_option linter.unusedSimpArgs false
set_option linter.defProp false
set_option maxRecDepth 20000
noncomputable section
theorem rX {α: Type} {p: α→Prop} {d: α} (hd: p d): ∀ (l: List α),(∀ x ∈ l,p x)→∀ k,p (l.getD k d)
 | [],_,k=>by simpa using hd
 | a::l,h,0=>by simpa using h a (List.mem_cons_self ..)
 | a::l,h,k + 1=>by simpa using rX hd l (fun x hx=>h x (List.mem_cons_of_mem _ hx)) k
theorem D9 {code: List Int} {P: List UInt8×List UInt8→Prop} (a b: List UInt8) (i' h': Int) (hc: okC code i'=true) (hP: P (a,b)): Dra code fdA (fun _=>[]) P (.ret (.agg [.str a, .str b]) [.var [.sh (.int .u8) code, .int .i64 i', .int .i64 h']]):=⟨(a,b),i',h',rfl,hc,hP⟩
theorem D_ {code: List Int} {P: List UInt8×List UInt8→Prop} (f: List UInt8×List UInt8) (i' h': Int) (hc: okC code i'=true) (hP: P f): Dra code fdA (fun _=>[]) P (.ret (.agg [.str f.1, .str f.2]) [.var [.sh (.int .u8) code, .int .i64 i', .int .i64 h']]):=⟨f,i',h',rfl,hc,hP⟩
theorem aeM {a b: List UInt8} (h: a.headD 0≠67∧a.headD 0≠99): cq (a,b):=fun _=> .inl h
theorem Tb {a b: List UInt8} (h: (34 : UInt8) ∉ b): cq (a,b):=fun _=> .inr h
theorem aci (code: List Int) (i h: Int) (hc: okC code i=true): Dra code fdA (fun _=>[]) cq (mO code i h):=by
 unfold mO
 obtain ⟨f1,f2⟩:=Jl (au 10 h) (aq (n:=10) hc)
 repeat' (first | refine sX ?_ ?_ | refine sV (fun _=>?_) (fun _=>?_) | refine D_ _ _ _ ?_ ?_ | refine D9 _ _ _ _ ?_ ?_)
 all_goals first
  | ((repeat (first | exact hc | exact f1 | with_reducible apply aq | with_reducible apply be | with_reducible apply av));done)
  | exact f2
  | (simp only [Bool.and_true,List.length_cons,List.length_nil,List.length_set,List.length_replicate];(repeat (first | exact hc | exact f1 | with_reducible apply aq | with_reducible apply be | with_reducible apply av));done)
  | (simp only [Bool.and_eq_true,decide_eq_true_eq,List.length_cons,List.length_nil,List.length_set,List.length_replicate];refine ⟨?_,by omega⟩;(repeat (first | exact hc | exact f1 | with_reducible apply aq | with_reducible apply be | with_reducible apply av));done)
  | exact Tb (by decide)
  | (exact Tb (rX (p:=fun v: List UInt8=>(34 : UInt8) ∉ v) (by decide) _ (by decide) _))
  | (refine aeM ?_;constructor <;> decide)
  | (refine qC ?_;simp only [List.length_cons,List.length_nil];omega)
  | skip
 all_goals trace_state
theorem acj (at_: Int) (code: List Int) (i h: Int) (hc: okC code i=true): Dra code fdA (fun _=>[]) cq (gE at_ code i h):=by
 unfold gE fm fk
 obtain ⟨f1,f2⟩:=Jl (au 7 (au 7 h)) (aq (n:=7) (aq (n:=7) hc))
 repeat' (first | refine sX ?_ ?_ | refine sV (fun _=>?_) (fun _=>?_) | refine D_ _ _ _ ?_ ?_ | refine D9 _ _ _ _ ?_ ?_)
 all_goals first
  | ((repeat (first | exact hc | exact f1 | with_reducible apply aq | with_reducible apply be | with_reducible apply av));done)
  | exact f2
  | (simp only [Bool.and_true,List.length_cons,List.length_nil,List.length_set,List.length_replicate];(repeat (first | exact hc | exact f1 | with_reducible apply aq | with_reducible apply be | with_reducible apply av));done)
  | (simp only [Bool.and_eq_true,decide_eq_true_eq,List.length_cons,List.length_nil,List.length_set,List.length_replicate];refine ⟨?_,by omega⟩;(repeat (first | exact hc | exact f1 | with_reducible apply aq | with_reducible apply be | with_reducible apply av));done)
  | exact Tb (by decide)
  | (exact Tb (rX (p:=fun v: List UInt8=>(34 : UInt8) ∉ v) (by decide) _ (by decide) _))
  | (refine aeM ?_;constructor <;> decide)
  | (refine qC ?_;simp only [List.length_cons,List.length_nil];omega)
  | skip
 all_goals trace_state
def f14_dr:=yr (α:=List UInt8×List UInt8) (fun (_: Unit) code i h=>mO code i h) (fun _=>true) fdA (fun _=>[]) ([],[]) (fun _ f=>cq f) (fun _ code i h hc _=>aci code i h hc)
def XZ:=f14_dr.choose
theorem aeN {code: List Int} {i: Int} (h: Int) (hc: okC code i=true): okC code (XZ () code i h).2.1=true∧cq (XZ () code i h).1:=(f14_dr.choose_spec () code i h hc rfl).2
def f13_dr:=yr (α:=List UInt8×List UInt8) (fun (n: Int) code i h=>gE n code i h) (fun _=>true) fdA (fun _=>[]) ([],[]) (fun _ f=>cq f) (fun n code i h hc _=>acj n code i h hc)
def Ea:=f13_dr.choose
def agY: List AV→List Ob→Br:=drQ unI (fun _=>true) fdA (fun _=>[]) Ea
theorem qK: Sound Kx 114 agY:=
 Ff GS (fun (n: Int) code i h=>gE n code i h) (fun l b code i h hl=>by rw [adG hl];rfl) fun b code i h hc hg=>(f13_dr.choose_spec b code i h hc hg).1
theorem ZR (n: Int) {code: List Int} {i: Int} (h: Int) (hc: okC code i=true): okC code (Ea n code i h).2.1=true∧cq (Ea n code i h).1:=(f13_dr.choose_spec n code i h hc rfl).2
def o7: Opt:={ live:=[(9,[0,2,4,6]),(5,[0,2,3,4,5])],outs:=[(9,[2,4]),(5,[0,2,4])] }
def l13entry_C: SC:=[⟨71,_,ci⟩,⟨72,_,yq⟩,⟨115,_,gh⟩,⟨146,_,sU⟩,⟨114,_,qK⟩,⟨193,_,mn⟩]
def uN (aI aR: Int) (aF: (List Int)) (a7 ck: Int) (eg: aa) (eh cZ: Int) (fe gJ: aa) (cC: Int) (cD: aa) (cE: Bool) (dp: aa) (dq dr: (List Fd)) (dt: aa) (du dv: Int) (cv cS: aa) (da: Int) (dw: aa) (dx: Bool) (dy: aa) (dz cX: (List Fd)) (kR5: Int→Int→(List Int)→Int→Int→aa→Int→Int→aa→aa→Int→aa→Bool→aa→(List Fd)→(List Fd)→aa→Int→Int→aa→aa→Int→aa→Bool→aa→(List Fd)→(List Fd)→OR') (cR: (List Int)→Int→Int→aa→Int→Int→aa→aa→Int→aa→Bool→aa→(List Fd)→(List Fd)→aa→Int→Int→aa→aa→Int→aa→Bool→aa→(List Fd)→(List Fd)→OR'): OR':=
 (bif (decide (0 < aR)) then (bif ((okC aF a7)&&true) then (bif (decide (((cX.length + (List.length (List.set (List.replicate 1 (([]: aa),([]: aa))) 0 ((Ea aI aF a7 ck).1.1,(Ea aI aF a7 ck).1.2)))) * 32)≤140737488355328)) then (kR5 aI (ai (aR - 1)) aF (Ea aI aF a7 ck).2.1 (Ea aI aF a7 ck).2.2 eg eh cZ fe gJ cC cD cE dp dq dr dt du dv cv cS da dw dx dy dz (cX++(List.set (List.replicate 1 (([]: aa),([]: aa))) 0 ((Ea aI aF a7 ck).1.1,(Ea aI aF a7 ck).1.2)))) else none) else none) else (cR aF a7 ck eg eh cZ fe gJ cC cD cE dp dq dr dt du dv cv cS da dw dx dy dz cX))
def gF: Nat→Int→Int→(List Int)→Int→Int→aa→Int→Int→aa→aa→Int→aa→Bool→aa→(List Fd)→(List Fd)→aa→Int→Int→aa→aa→Int→aa→Bool→aa→(List Fd)→(List Fd)→((List Int)→Int→Int→aa→Int→Int→aa→aa→Int→aa→Bool→aa→(List Fd)→(List Fd)→aa→Int→Int→aa→aa→Int→aa→Bool→aa→(List Fd)→(List Fd)→OR')→OR'
 | 0,_,_,_,_,_,_,_,_,_,_,_,_,_,_,_,_,_,_,_,_,_,_,_,_,_,_,_,_=>none
 | n + 1,aI,aR,aF,a7,ck,eg,eh,cZ,fe,gJ,cC,cD,cE,dp,dq,dr,dt,du,dv,cv,cS,da,dw,dx,dy,dz,cX,cR=>uN aI aR aF a7 ck eg eh cZ fe gJ cC cD cE dp dq dr dt du dv cv cS da dw dx dy dz cX (fun aI aR aF a7 ck eg eh cZ fe gJ cC cD cE dp dq dr dt du dv cv cS da dw dx dy dz cX=>gF n aI aR aF a7 ck eg eh cZ fe gJ cC cD cE dp dq dr dt du dv cv cS da dw dx dy dz cX cR) cR
abbrev l13entry_p5: SP:=⟨59,[0,2,3,4,5],[(.v (.ptr 0 0)),(.v (.ptr 192 0)),(.v (.i .i64)),(.v (.ptr 320 0)),(.v (.i .i64))],[(0, .var [(.sh (Ty.int .u8)),(.i .i64),(.i .i64)]),(192, .var [.s,(.i .i64),(.i .i64),(.ref 196 0), .s, .s,(.i .i64), .s, .b,(.ref 202 0), .s]),(196, .arr (Ty.pair Ty.str Ty.str) 0 false),(202, .arr (Ty.pair Ty.str Ty.str) 0 false),(320, .var [.s,(.i .i64),(.i .i64),(.ref 324 0), .s, .s,(.i .i64), .s, .b,(.ref 330 0), .s]),(324, .arr (Ty.pair Ty.str Ty.str) 0 false),(330, .arr (Ty.pair Ty.str Ty.str) 0 false)]⟩
noncomputable def uO: Code:=aD (aG Tryz.f150) [1,1,1,1,0,1,0,0]
def uP (f: ((List Int)→Int→Int→aa→Int→Int→aa→aa→Int→aa→Bool→aa→(List Fd)→(List Fd)→aa→Int→Int→aa→aa→Int→aa→Bool→aa→(List Fd)→(List Fd)→OR')→OR') (k: KT): OR':=f (fun ap a_ cg eI ei cV dS bb gK gL ey c_ ez jK jL jM jN jO aj aw aE fx fy cT db=>k (Ex.exit 0) ((St.mk (aH 0 59 [(0,(AV.ptr 0 0)),(2,(AV.ptr 192 0)),(4,(AV.ptr 320 0))]) ((0,(Ob.var [.sh (Ty.int .u8) ap,.int .i64 a_,.int .i64 cg]))::((192,(Ob.var [.str eI,.int .i64 ei,.int .i64 cV,.ref 196 0,.str dS,.str bb,.int .i64 gK,.str gL,.bool ey,.ref 202 0,.str c_]))::((196,(Ob.arr (Ty.pair Ty.str Ty.str) 0 false ez))::((202,(Ob.arr (Ty.pair Ty.str Ty.str) 0 false jK))::((320,(Ob.var [.str jL,.int .i64 jM,.int .i64 jN,.ref 324 0,.str jO,.str aj,.int .i64 aw,.str aE,.bool fx,.ref 330 0,.str fy]))::((324,(Ob.arr (Ty.pair Ty.str Ty.str) 0 false cT))::((330,(Ob.arr (Ty.pair Ty.str Ty.str) 0 false db))::([]: (List (Nat×(Ob))))))))))))))
def uQ (n: Nat) (d: l13entry_p5.D): KT→OR':=uP (gF n d.1.2.2.1 d.1.2.2.2.2.1 d.2.1.1 d.2.1.2.1 d.2.1.2.2.1 d.2.2.1.1 d.2.2.1.2.1 d.2.2.1.2.2.1 d.2.2.1.2.2.2.2.1 d.2.2.1.2.2.2.2.2.1 d.2.2.1.2.2.2.2.2.2.1 d.2.2.1.2.2.2.2.2.2.2.1 d.2.2.1.2.2.2.2.2.2.2.2.1 d.2.2.1.2.2.2.2.2.2.2.2.2.2.1 d.2.2.2.1 d.2.2.2.2.1 d.2.2.2.2.2.1.1 d.2.2.2.2.2.1.2.1 d.2.2.2.2.2.1.2.2.1 d.2.2.2.2.2.1.2.2.2.2.1 d.2.2.2.2.2.1.2.2.2.2.2.1 d.2.2.2.2.2.1.2.2.2.2.2.2.1 d.2.2.2.2.2.1.2.2.2.2.2.2.2.1 d.2.2.2.2.2.1.2.2.2.2.2.2.2.2.1 d.2.2.2.2.2.1.2.2.2.2.2.2.2.2.2.2.1 d.2.2.2.2.2.2.1 d.2.2.2.2.2.2.2.1)
def uR (Oe: Int) (se: (List Int)) (AS EP: Int) (N4: aa) (N5 N6: Int) (N7 N8: aa) (N9: Int) (pl: aa) (pm: Bool) (pn: aa) (pp pq: (List Fd)) (pr: aa) (pt pu: Int) (pw px: aa) (py: Int) (pz: aa) (pA: Bool) (pB: aa) (mP pC: (List Fd)) (kR9: Int→(List Int)→Int→Int→aa→Int→Int→aa→aa→Int→aa→Bool→aa→(List Fd)→(List Fd)→aa→Int→Int→aa→aa→Int→aa→Bool→aa→(List Fd)→(List Fd)→OR') (agn: (List Int)→Int→Int→aa→Int→Int→aa→aa→Int→aa→Bool→aa→(List Fd)→(List Fd)→aa→Int→Int→aa→aa→Int→aa→Bool→aa→(List Fd)→(List Fd)→OR'): OR':=
 (bif (decide (0 < Oe)) then (bif ((okC se AS)&&true) then (bif (decide (((mP.length + (List.length (List.set (List.replicate 1 (([]: aa),([]: aa))) 0 ((q8 () se AS EP).1.1,(q8 () se AS EP).1.2)))) * 32)≤140737488355328)) then (kR9 (ai (Oe - 1)) se (q8 () se AS EP).2.1 (q8 () se AS EP).2.2 N4 N5 N6 N7 N8 N9 pl pm pn pp pq pr pt pu pw px py pz pA pB (mP++(List.set (List.replicate 1 (([]: aa),([]: aa))) 0 ((q8 () se AS EP).1.1,(q8 () se AS EP).1.2))) pC) else none) else none) else (agn se AS EP N4 N5 N6 N7 N8 N9 pl pm pn pp pq pr pt pu pw px py pz pA pB mP pC))
def gG: Nat→Int→(List Int)→Int→Int→aa→Int→Int→aa→aa→Int→aa→Bool→aa→(List Fd)→(List Fd)→aa→Int→Int→aa→aa→Int→aa→Bool→aa→(List Fd)→(List Fd)→((List Int)→Int→Int→aa→Int→Int→aa→aa→Int→aa→Bool→aa→(List Fd)→(List Fd)→aa→Int→Int→aa→aa→Int→aa→Bool→aa→(List Fd)→(List Fd)→OR')→OR'
 | 0,_,_,_,_,_,_,_,_,_,_,_,_,_,_,_,_,_,_,_,_,_,_,_,_,_,_,_=>none
 | n + 1,Oe,se,AS,EP,N4,N5,N6,N7,N8,N9,pl,pm,pn,pp,pq,pr,pt,pu,pw,px,py,pz,pA,pB,mP,pC,agn=>uR Oe se AS EP N4 N5 N6 N7 N8 N9 pl pm pn pp pq pr pt pu pw px py pz pA pB mP pC (fun Oe se AS EP N4 N5 N6 N7 N8 N9 pl pm pn pp pq pr pt pu pw px py pz pA pB mP pC=>gG n Oe se AS EP N4 N5 N6 N7 N8 N9 pl pm pn pp pq pr pt pu pw px py pz pA pB mP pC agn) agn
abbrev l13entry_p9: SP:=⟨59,[0,2,4,6],[(.v (.ptr 0 0)),(.v (.ptr 192 0)),(.v (.ptr 320 0)),(.v (.i .i64))],[(0, .var [(.sh (Ty.int .u8)),(.i .i64),(.i .i64)]),(192, .var [.s,(.i .i64),(.i .i64),(.ref 196 0), .s, .s,(.i .i64), .s, .b,(.ref 202 0), .s]),(196, .arr (Ty.pair Ty.str Ty.str) 0 false),(202, .arr (Ty.pair Ty.str Ty.str) 0 false),(320, .var [.s,(.i .i64),(.i .i64),(.ref 324 0), .s, .s,(.i .i64), .s, .b,(.ref 330 0), .s]),(324, .arr (Ty.pair Ty.str Ty.str) 0 false),(330, .arr (Ty.pair Ty.str Ty.str) 0 false)]⟩
noncomputable def uS: Code:=aD (aG Tryz.f150) [1,1,1,1,1,0,1,0,0]
def uT (f: ((List Int)→Int→Int→aa→Int→Int→aa→aa→Int→aa→Bool→aa→(List Fd)→(List Fd)→aa→Int→Int→aa→aa→Int→aa→Bool→aa→(List Fd)→(List Fd)→OR')→OR') (k: KT): OR':=f (fun UT UU UV aaz aaA aaB aaC aaD aaE aaF UW UX UY UZ Hj Hk Hl Hm Hn Ho Hp Hq Hr Hs Ht=>k (Ex.exit 2) ((St.mk (aH 0 59 [(2,(AV.ptr 192 0)),(4,(AV.ptr 320 0))]) ((0,(Ob.var [.sh (Ty.int .u8) UT,.int .i64 UU,.int .i64 UV]))::((192,(Ob.var [.str aaz,.int .i64 aaA,.int .i64 aaB,.ref 196 0,.str aaC,.str aaD,.int .i64 aaE,.str aaF,.bool UW,.ref 202 0,.str UX]))::((196,(Ob.arr (Ty.pair Ty.str Ty.str) 0 false UY))::((202,(Ob.arr (Ty.pair Ty.str Ty.str) 0 false UZ))::((320,(Ob.var [.str Hj,.int .i64 Hk,.int .i64 Hl,.ref 324 0,.str Hm,.str Hn,.int .i64 Ho,.str Hp,.bool Hq,.ref 330 0,.str Hr]))::((324,(Ob.arr (Ty.pair Ty.str Ty.str) 0 false Hs))::((330,(Ob.arr (Ty.pair Ty.str Ty.str) 0 false Ht))::([]: (List (Nat×(Ob))))))))))))))
def uU (n: Nat) (d: l13entry_p9.D): KT→OR':=uT (gG n d.1.2.2.2.1 d.2.1.1 d.2.1.2.1 d.2.1.2.2.1 d.2.2.1.1 d.2.2.1.2.1 d.2.2.1.2.2.1 d.2.2.1.2.2.2.2.1 d.2.2.1.2.2.2.2.2.1 d.2.2.1.2.2.2.2.2.2.1 d.2.2.1.2.2.2.2.2.2.2.1 d.2.2.1.2.2.2.2.2.2.2.2.1 d.2.2.1.2.2.2.2.2.2.2.2.2.2.1 d.2.2.2.1 d.2.2.2.2.1 d.2.2.2.2.2.1.1 d.2.2.2.2.2.1.2.1 d.2.2.2.2.2.1.2.2.1 d.2.2.2.2.2.1.2.2.2.2.1 d.2.2.2.2.2.1.2.2.2.2.2.1 d.2.2.2.2.2.1.2.2.2.2.2.2.1 d.2.2.2.2.2.1.2.2.2.2.2.2.2.1 d.2.2.2.2.2.1.2.2.2.2.2.2.2.2.1 d.2.2.2.2.2.1.2.2.2.2.2.2.2.2.2.2.1 d.2.2.2.2.2.2.1 d.2.2.2.2.2.2.2.1)
def o8 (N: Nat): Lam:=bw [⟨5,l13entry_p5,uQ N⟩,⟨9,l13entry_p9,uU N⟩]
theorem Eb (N: Nat): OkL Kx l13entry_C.s o7 1 N (o8 N) uO:=okL l13entry_p5 (uQ) (fun d kR=>uP (uN d.1.2.2.1 d.1.2.2.2.2.1 d.2.1.1 d.2.1.2.1 d.2.1.2.2.1 d.2.2.1.1 d.2.2.1.2.1 d.2.2.1.2.2.1 d.2.2.1.2.2.2.2.1 d.2.2.1.2.2.2.2.2.1 d.2.2.1.2.2.2.2.2.2.1 d.2.2.1.2.2.2.2.2.2.2.1 d.2.2.1.2.2.2.2.2.2.2.2.1 d.2.2.1.2.2.2.2.2.2.2.2.2.2.1 d.2.2.2.1 d.2.2.2.2.1 d.2.2.2.2.2.1.1 d.2.2.2.2.2.1.2.1 d.2.2.2.2.2.1.2.2.1 d.2.2.2.2.2.1.2.2.2.2.1 d.2.2.2.2.2.1.2.2.2.2.2.1 d.2.2.2.2.2.1.2.2.2.2.2.2.1 d.2.2.2.2.2.1.2.2.2.2.2.2.2.1 d.2.2.2.2.2.1.2.2.2.2.2.2.2.2.1 d.2.2.2.2.2.1.2.2.2.2.2.2.2.2.2.2.1 d.2.2.2.2.2.2.1 d.2.2.2.2.2.2.2.1 (fun aI aR aF a7 ck eg eh cZ fe gJ cC cD cE dp dq dr dt du dv cv cS da dw dx dy dz cX=>kR (((),(),aI,(),aR,()),((aF,a7,ck,()),(eg,eh,cZ,(),fe,gJ,cC,cD,cE,(),dp,()),dq,dr,(dt,du,dv,(),cv,cS,da,dw,dx,(),dy,()),dz,cX,()))))) (fun _ _=>by kernel_rfl) (fun _ _ _=>by kernel_rfl) (fun _ _=>by kernel_rfl) (fun _ _ _ _=>by kernel_rfl) (am (l':=[]) (by kernel_rfl) trivial)
theorem Ec (N: Nat): OkL Kx l13entry_C.s o7 1 N (o8 N) uS:=okL l13entry_p9 (uU) (fun d kR=>uT (uR d.1.2.2.2.1 d.2.1.1 d.2.1.2.1 d.2.1.2.2.1 d.2.2.1.1 d.2.2.1.2.1 d.2.2.1.2.2.1 d.2.2.1.2.2.2.2.1 d.2.2.1.2.2.2.2.2.1 d.2.2.1.2.2.2.2.2.2.1 d.2.2.1.2.2.2.2.2.2.2.1 d.2.2.1.2.2.2.2.2.2.2.2.1 d.2.2.1.2.2.2.2.2.2.2.2.2.2.1 d.2.2.2.1 d.2.2.2.2.1 d.2.2.2.2.2.1.1 d.2.2.2.2.2.1.2.1 d.2.2.2.2.2.1.2.2.1 d.2.2.2.2.2.1.2.2.2.2.1 d.2.2.2.2.2.1.2.2.2.2.2.1 d.2.2.2.2.2.1.2.2.2.2.2.2.1 d.2.2.2.2.2.1.2.2.2.2.2.2.2.1 d.2.2.2.2.2.1.2.2.2.2.2.2.2.2.1 d.2.2.2.2.2.1.2.2.2.2.2.2.2.2.2.2.1 d.2.2.2.2.2.2.1 d.2.2.2.2.2.2.2.1 (fun Oe se AS EP N4 N5 N6 N7 N8 N9 pl pm pn pp pq pr pt pu pw px py pz pA pB mP pC=>kR (((),(),(),Oe,()),((se,AS,EP,()),(N4,N5,N6,(),N7,N8,N9,pl,pm,(),pn,()),pp,pq,(pr,pt,pu,(),pw,px,py,pz,pA,(),pB,()),mP,pC,()))))) (fun _ _=>by kernel_rfl) (fun _ _ _=>by kernel_rfl) (fun _ _=>by kernel_rfl) (fun _ _ _ _=>by kernel_rfl) (am (l':=[]) (by kernel_rfl) trivial)
abbrev cQ (code h i):=(ofI (aT 2 code (an 30 code i) (au 30 h)) ([97,98]: aa) code (an 2 code (an 30 code i)) (au 2 (au 30 h)))
abbrev fp (code h i):=(ofH (aT 2 code (an 30 code i) (au 30 h)) ([97,98]: aa) code (an 2 code (an 30 code i)) (au 2 (au 30 h)))
def eH (N: Nat) (code: List Int) (i h: Int): OR':=(bif (okC code i) then (bif (okC code (an 30 code i)) then (bif (((okC code (an 2 code (an 30 code i)))&&(decide ((aT 2 code (an 30 code i) (au 30 h))≤1000000)))&&true) then (bif (decide ((17 + (List.length (ofS (aT 2 code (an 30 code i) (au 30 h)) ([97,98]: aa) code (an 2 code (an 30 code i)) (au 2 (au 30 h)))))≤9223372036854775807)) then (bif (okC code (cQ code h i)) then (bif ((okC code (an 4 code (cQ code h i)))&&true) then (bif ((okC code (an 6 code (an 4 code (cQ code h i))))&&true) then (bif (okC code (an 3 code (an 6 code (an 4 code (cQ code h i))))) then (gF N (ai (1000000 + (aT 30 code i h))) (aT 6 code (an 3 code (an 6 code (an 4 code (cQ code h i)))) (au 3 (au 6 (au 4 (fp code h i))))) code (an 6 code (an 3 code (an 6 code (an 4 code (cQ code h i))))) (au 6 (au 3 (au 6 (au 4 (fp code h i))))) ([]: aa) 0 0 ([]: aa) ([]: aa) 0 ([]: aa) false ([]: aa) ([]: (List Fd)) ([]: (List Fd)) (([104,116,116,112,58,47,47,97,46,101,120,97,109,112,108,101,47]: aa)++(ofS (aT 2 code (an 30 code i) (au 30 h)) ([97,98]: aa) code (an 2 code (an 30 code i)) (au 2 (au 30 h)))) (ai ((ai (1000000 + (aT 30 code i h))) - (aT 4 code (cQ code h i) (fp code h i)))) (ai (1000000 + (aT 30 code i h))) ([]: aa) ([]: aa) (List.getD (List.set (List.set (List.set (List.set (List.set (List.set (List.replicate 6 (0 : Int)) 0 200) 1 200) 2 200) 3 404) 4 302) 5 500) (Int.toNat (aT 6 code (an 4 code (cQ code h i)) (au 4 (fp code h i)))) 0) ([]: aa) false (List.getD (List.set (List.set (List.set (List.replicate 3 ([]: aa)) 0 ([]: aa)) 1 ([111,110,101]: aa)) 2 ([116,119,111]: aa)) (Int.toNat (aT 3 code (an 6 code (an 4 code (cQ code h i))) (au 6 (au 4 (fp code h i))))) ([]: aa)) ([]: (List Fd)) ([]: (List Fd)) (fun ap a_ cg eI ei cV dS bb gK gL ey c_ ez jK jL jM jN jO aj aw aE fx fy cT db=>(bif (okC ap a_) then (gG N (aT 3 ap a_ cg) ap (an 3 ap a_) (au 3 cg) eI ei cV dS bb gK gL ey c_ ez jK jL jM jN jO aj aw aE fx fy cT db (fun UT UU UV aaz aaA aaB aaC aaD aaE aaF UW UX UY UZ Hj Hk Hl Hm Hn Ho Hp Hq Hr Hs Ht=>(some ((AV.agg [.str Hj,.int .i64 Hk,.int .i64 Hl,.ref 1 0,.str Hm,.str Hn,.int .i64 Ho,.str Hp,.bool Hq,.ref 2 0,.str Hr]),[.var [.sh (Ty.int .u8) UT,.int .i64 UU,.int .i64 UV],.arr (Ty.pair Ty.str Ty.str) 0 false Hs,.arr (Ty.pair Ty.str Ty.str) 0 false Ht])))) else none))) else none) else none) else none) else none) else none) else none) else none) else none)
def qL (φ: (List Int)→Int→Int→Br): List AV→List Ob→Br
 | [.ptr 0 0],[.var [.sh (.int .u8) code, .int .i64 i, .int .i64 h]]=>φ code i h
 | _,_=> .fail
theorem zO {φ: (List Int)→Int→Int→Br} (fu: (List Int)→Int→Int→Nat) (hv: ∀ code i h res_,(φ code i h).val=some res_→eH (fu code i h) code i h=some res_): Sound Kx 150 (qL φ):=ar (C:=l13entry_C) (O:=o7) Tryz.func150 (by kernel_rfl) fun args objs=>by
 unfold qL;split
 · rename_i code i h;exact .inr fun _ hyp_=>aS (Λ:=o8 (fu code i h)) (by kernel_rfl) (am (l':=[uO,uS]) (by kernel_rfl) ⟨Eb _,Ec _,trivial⟩) (by kernel_rfl) (hv code i h _ hyp_)
 · exact .inl rfl
def Tc (aL: Int) (aA: (List Int)) (bu d_: Int) (gw gH: aa) (ii: Int) (j8: aa) (lp: Bool) (lq: aa) (dY: (List Fd)) (dZ d7: aa) (fV: Int) (fW: aa) (fX: Bool) (fY: aa) (eX: (List Fd)) (kR3: Int→(List Int)→Int→Int→aa→aa→Int→aa→Bool→aa→(List Fd)→aa→aa→Int→aa→Bool→aa→(List Fd)→OR') (eK: (List Int)→Int→Int→aa→aa→Int→aa→Bool→aa→(List Fd)→aa→aa→Int→aa→Bool→aa→(List Fd)→OR'): OR':=
 (bif (decide (0 < aL)) then (bif ((okC aA bu)&&true) then (bif (decide (((eX.length + (List.length (List.set (List.replicate 1 (([]: aa),([]: aa))) 0 ((XZ () aA bu d_).1.1,(XZ () aA bu d_).1.2)))) * 32)≤140737488355328)) then (kR3 (ai (aL - 1)) aA (XZ () aA bu d_).2.1 (XZ () aA bu d_).2.2 gw gH ii j8 lp lq dY dZ d7 fV fW fX fY (eX++(List.set (List.replicate 1 (([]: aa),([]: aa))) 0 ((XZ () aA bu d_).1.1,(XZ () aA bu d_).1.2)))) else none) else none) else (eK aA bu d_ gw gH ii j8 lp lq dY dZ d7 fV fW fX fY eX))
def nT: Nat→Int→(List Int)→Int→Int→aa→aa→Int→aa→Bool→aa→(List Fd)→aa→aa→Int→aa→Bool→aa→(List Fd)→((List Int)→Int→Int→aa→aa→Int→aa→Bool→aa→(List Fd)→aa→aa→Int→aa→Bool→aa→(List Fd)→OR')→OR'
 | 0,_,_,_,_,_,_,_,_,_,_,_,_,_,_,_,_,_,_,_=>none
 | n + 1,aL,aA,bu,d_,gw,gH,ii,j8,lp,lq,dY,dZ,d7,fV,fW,fX,fY,eX,eK=>Tc aL aA bu d_ gw gH ii j8 lp lq dY dZ d7 fV fW fX fY eX (fun aL aA bu d_ gw gH ii j8 lp lq dY dZ d7 fV fW fX fY eX=>nT n aL aA bu d_ gw gH ii j8 lp lq dY dZ d7 fV fW fX fY eX eK) eK
def o9 (N: Nat) (code: List Int) (i h: Int): OR':=(bif ((okC code i)&&true) then (bif (okC code (an 6 code i)) then (bif (((okC code (an 2 code (an 6 code i)))&&(decide ((aT 2 code (an 6 code i) (au 6 h))≤1000000)))&&true) then (bif (decide ((17 + (List.length (ofS (aT 2 code (an 6 code i) (au 6 h)) ([97,98]: aa) code (an 2 code (an 6 code i)) (au 2 (au 6 h)))))≤9223372036854775807)) then (bif (okC code (ofI (aT 2 code (an 6 code i) (au 6 h)) ([97,98]: aa) code (an 2 code (an 6 code i)) (au 2 (au 6 h)))) then (nT N (aT 4 code (ofI (aT 2 code (an 6 code i) (au 6 h)) ([97,98]: aa) code (an 2 code (an 6 code i)) (au 2 (au 6 h))) (ofH (aT 2 code (an 6 code i) (au 6 h)) ([97,98]: aa) code (an 2 code (an 6 code i)) (au 2 (au 6 h)))) code (an 4 code (ofI (aT 2 code (an 6 code i) (au 6 h)) ([97,98]: aa) code (an 2 code (an 6 code i)) (au 2 (au 6 h)))) (au 4 (ofH (aT 2 code (an 6 code i) (au 6 h)) ([97,98]: aa) code (an 2 code (an 6 code i)) (au 2 (au 6 h)))) ([]: aa) ([]: aa) 0 ([]: aa) false ([]: aa) ([]: (List Fd)) (List.getD (List.set (List.set (List.set (List.set (List.set (List.set (List.replicate 6 ([]: aa)) 0 ([71,69,84]: aa)) 1 ([71,69,84]: aa)) 2 ([71,69,84]: aa)) 3 ([72,69,65,68]: aa)) 4 ([80,79,83,84]: aa)) 5 ([80,85,84]: aa)) (Int.toNat (aT 6 code i h)) ([]: aa)) (([104,116,116,112,58,47,47,97,46,101,120,97,109,112,108,101,47]: aa)++(ofS (aT 2 code (an 6 code i) (au 6 h)) ([97,98]: aa) code (an 2 code (an 6 code i)) (au 2 (au 6 h)))) 0 ([]: aa) false ([]: aa) ([]: (List Fd)) (fun ab ae af kF vd ve vf n6 vg vh bn bp jJ vi eY Af bA=>(some ((AV.agg [.str bn,.str bp,.int .i64 jJ,.str vi,.bool eY,.ref 1 0,.str Af]),[.var [.sh (Ty.int .u8) ab,.int .i64 ae,.int .i64 af],.arr (Ty.pair Ty.str Ty.str) 0 false bA])))) else none) else none) else none) else none) else none)
def Td: Opt:={ live:=[(3,[0,2,3,4])],outs:=[(3,[0,2,3])] }
def l6msg_C: SC:=[⟨71,_,ci⟩,⟨98,_,kK⟩,⟨115,_,gh⟩,⟨72,_,yq⟩,⟨193,_,mn⟩,⟨229,_,NJ⟩,⟨190,_,BO⟩]
def KD (aL: Int) (aA: (List Int)) (bu d_: Int) (gw gH: aa) (ii: Int) (j8: aa) (lp: Bool) (lq: aa) (dY: (List Fd)) (dZ d7: aa) (fV: Int) (fW: aa) (fX: Bool) (fY: aa) (eX: (List Fd)) (kR3: Int→(List Int)→Int→Int→aa→aa→Int→aa→Bool→aa→(List Fd)→aa→aa→Int→aa→Bool→aa→(List Fd)→OR') (eK: (List Int)→Int→Int→aa→aa→Int→aa→Bool→aa→(List Fd)→aa→aa→Int→aa→Bool→aa→(List Fd)→OR'): OR':=
 (bif (decide (0 < aL)) then (bif ((okC aA bu)&&true) then (bif (decide (((eX.length + (List.length (List.set (List.replicate 1 (([]: aa),([]: aa))) 0 ((q8 () aA bu d_).1.1,(q8 () aA bu d_).1.2)))) * 32)≤140737488355328)) then (kR3 (ai (aL - 1)) aA (q8 () aA bu d_).2.1 (q8 () aA bu d_).2.2 gw gH ii j8 lp lq dY dZ d7 fV fW fX fY (eX++(List.set (List.replicate 1 (([]: aa),([]: aa))) 0 ((q8 () aA bu d_).1.1,(q8 () aA bu d_).1.2)))) else none) else none) else (eK aA bu d_ gw gH ii j8 lp lq dY dZ d7 fV fW fX fY eX))
def nU: Nat→Int→(List Int)→Int→Int→aa→aa→Int→aa→Bool→aa→(List Fd)→aa→aa→Int→aa→Bool→aa→(List Fd)→((List Int)→Int→Int→aa→aa→Int→aa→Bool→aa→(List Fd)→aa→aa→Int→aa→Bool→aa→(List Fd)→OR')→OR'
 | 0,_,_,_,_,_,_,_,_,_,_,_,_,_,_,_,_,_,_,_=>none
 | n + 1,aL,aA,bu,d_,gw,gH,ii,j8,lp,lq,dY,dZ,d7,fV,fW,fX,fY,eX,eK=>KD aL aA bu d_ gw gH ii j8 lp lq dY dZ d7 fV fW fX fY eX (fun aL aA bu d_ gw gH ii j8 lp lq dY dZ d7 fV fW fX fY eX=>nU n aL aA bu d_ gw gH ii j8 lp lq dY dZ d7 fV fW fX fY eX eK) eK
abbrev l6msg_p3: SP:=⟨56,[0,2,3,4],[(.v (.ptr 0 0)),(.v (.ptr 192 0)),(.v (.ptr 256 0)),(.v (.i .i64))],[(0, .var [(.sh (Ty.int .u8)),(.i .i64),(.i .i64)]),(192, .var [.s, .s,(.i .i64), .s, .b,(.ref 198 0), .s]),(198, .arr (Ty.pair Ty.str Ty.str) 0 false),(256, .var [.s, .s,(.i .i64), .s, .b,(.ref 262 0), .s]),(262, .arr (Ty.pair Ty.str Ty.str) 0 false)]⟩
noncomputable def KE: Code:=aD (aG Tryz.f170) [1,1,0,1,0,0]
def KF (f: ((List Int)→Int→Int→aa→aa→Int→aa→Bool→aa→(List Fd)→aa→aa→Int→aa→Bool→aa→(List Fd)→OR')→OR') (k: KT): OR':=f (fun ab ae af kF vd ve vf n6 vg vh bn bp jJ vi eY Af bA=>k (Ex.exit 0) ((St.mk (aH 0 56 [(0,(AV.ptr 0 0)),(2,(AV.ptr 192 0)),(3,(AV.ptr 256 0))]) ((0,(Ob.var [.sh (Ty.int .u8) ab,.int .i64 ae,.int .i64 af]))::((192,(Ob.var [.str kF,.str vd,.int .i64 ve,.str vf,.bool n6,.ref 198 0,.str vg]))::((198,(Ob.arr (Ty.pair Ty.str Ty.str) 0 false vh))::((256,(Ob.var [.str bn,.str bp,.int .i64 jJ,.str vi,.bool eY,.ref 262 0,.str Af]))::((262,(Ob.arr (Ty.pair Ty.str Ty.str) 0 false bA))::([]: (List (Nat×(Ob))))))))))))
def KG (n: Nat) (d: l6msg_p3.D): KT→OR':=KF (nU n d.1.2.2.2.1 d.2.1.1 d.2.1.2.1 d.2.1.2.2.1 d.2.2.1.1 d.2.2.1.2.1 d.2.2.1.2.2.1 d.2.2.1.2.2.2.1 d.2.2.1.2.2.2.2.1 d.2.2.1.2.2.2.2.2.2.1 d.2.2.2.1 d.2.2.2.2.1.1 d.2.2.2.2.1.2.1 d.2.2.2.2.1.2.2.1 d.2.2.2.2.1.2.2.2.1 d.2.2.2.2.1.2.2.2.2.1 d.2.2.2.2.1.2.2.2.2.2.2.1 d.2.2.2.2.2.1)
def Te (N: Nat): Lam:=bw [⟨3,l6msg_p3,KG N⟩]
theorem Tf (N: Nat): OkL Kx l6msg_C.s Td 1 N (Te N) KE:=okL l6msg_p3 (KG) (fun d kR=>KF (KD d.1.2.2.2.1 d.2.1.1 d.2.1.2.1 d.2.1.2.2.1 d.2.2.1.1 d.2.2.1.2.1 d.2.2.1.2.2.1 d.2.2.1.2.2.2.1 d.2.2.1.2.2.2.2.1 d.2.2.1.2.2.2.2.2.2.1 d.2.2.2.1 d.2.2.2.2.1.1 d.2.2.2.2.1.2.1 d.2.2.2.2.1.2.2.1 d.2.2.2.2.1.2.2.2.1 d.2.2.2.2.1.2.2.2.2.1 d.2.2.2.2.1.2.2.2.2.2.2.1 d.2.2.2.2.2.1 (fun aL aA bu d_ gw gH ii j8 lp lq dY dZ d7 fV fW fX fY eX=>kR (((),(),(),aL,()),((aA,bu,d_,()),(gw,gH,ii,j8,lp,(),lq,()),dY,(dZ,d7,fV,fW,fX,(),fY,()),eX,()))))) (fun _ _=>by kernel_rfl) (fun _ _ _=>by kernel_rfl) (fun _ _=>by kernel_rfl) (fun _ _ _ _=>by kernel_rfl) (am (l':=[]) (by kernel_rfl) trivial)
abbrev ax (ab ae af):=(aT 6 ab (an 2 ab (ofI (aT 20 ab ae af) ([97,98,99,13,10,48]: aa) ab (an 20 ab ae) (au 20 af))) (au 2 (ofH (aT 20 ab ae af) ([97,98,99,13,10,48]: aa) ab (an 20 ab ae) (au 20 af))))
abbrev dG (ab ae af):=(an 2 ab (ofI (aT 20 ab ae af) ([97,98,99,13,10,48]: aa) ab (an 20 ab ae) (au 20 af)))
abbrev cf (ab ae af):=(au 2 (ofH (aT 20 ab ae af) ([97,98,99,13,10,48]: aa) ab (an 20 ab ae) (au 20 af)))
abbrev eV (ab ae af):=(ofS (aT 20 ab ae af) ([97,98,99,13,10,48]: aa) ab (an 20 ab ae) (au 20 af))
abbrev bY (ab ae af):=(an 6 ab (dG ab ae af))
abbrev fJ (ab ae af):=(aT 5 ab (bY ab ae af) (au 6 (cf ab ae af)))
abbrev lh (ab ae af):=(aT 5 ab (an 5 ab (dG ab ae af)) (au 5 (cf ab ae af)))
abbrev cn (ab ae af):=(au 5 (au 6 (cf ab ae af)))
abbrev co (ab ae af):=(an 5 ab (bY ab ae af))
def iY (N: Nat) (code: List Int) (i h: Int): OR':=(bif (okC code i) then (nU N (aT 5 code i h) code (an 5 code i) (au 5 h) ([]: aa) ([]: aa) 0 ([]: aa) false ([]: aa) ([]: (List Fd)) ([]: aa) ([]: aa) 0 ([]: aa) false ([]: aa) ([]: (List Fd)) (fun ab ae af kF vd ve vf n6 vg vh bn bp jJ vi eY Af bA=>(bif (okC ab ae) then (bif (((okC ab (an 20 ab ae))&&(decide ((aT 20 ab ae af)≤1000000)))&&true) then (bif (okC ab (ofI (aT 20 ab ae af) ([97,98,99,13,10,48]: aa) ab (an 20 ab ae) (au 20 af))) then (bif (decide ((aT 2 ab (ofI (aT 20 ab ae af) ([97,98,99,13,10,48]: aa) ab (an 20 ab ae) (au 20 af)) (ofH (aT 20 ab ae af) ([97,98,99,13,10,48]: aa) ab (an 20 ab ae) (au 20 af)))=0)) then (bif (okC ab (dG ab ae af)) then (bif (decide (0≤(aT 5 ab (dG ab ae af) (cf ab ae af)))) then (bif (decide ((aT 5 ab (dG ab ae af) (cf ab ae af)) < 5)) then (bif (okC ab (an 5 ab (dG ab ae af))) then (bif (((okC ab (an 5 ab (an 5 ab (dG ab ae af))))&&(decide ((lh ab ae af)≤1000000)))&&true) then (bif (decide ((17 + (List.length (ofS (lh ab ae af) ([97,98,63]: aa) ab (an 5 ab (an 5 ab (dG ab ae af))) (au 5 (au 5 (cf ab ae af))))))≤9223372036854775807)) then (some ((AV.agg [.str (List.getD (List.set (List.set (List.set (List.set (List.set (List.replicate 5 ([]: aa)) 0 ([71,69,84]: aa)) 1 ([72,69,65,68]: aa)) 2 ([80,79,83,84]: aa)) 3 ([68,69,76,69,84,69]: aa)) 4 ([120]: aa)) (Int.toNat (aT 5 ab (dG ab ae af) (cf ab ae af))) ([]: aa)),.str (([104,116,116,112,58,47,47,97,46,101,120,97,109,112,108,101,47]: aa)++(ofS (lh ab ae af) ([97,98,63]: aa) ab (an 5 ab (an 5 ab (dG ab ae af))) (au 5 (au 5 (cf ab ae af))))),.int .i64 jJ,.str vi,.bool eY,.ref 1 0,.str (eV ab ae af)]),[.var [.sh (Ty.int .u8) ab,.int .i64 (ofI (lh ab ae af) ([97,98,63]: aa) ab (an 5 ab (an 5 ab (dG ab ae af))) (au 5 (au 5 (cf ab ae af)))),.int .i64 (ofH (lh ab ae af) ([97,98,63]: aa) ab (an 5 ab (an 5 ab (dG ab ae af))) (au 5 (au 5 (cf ab ae af))))],.arr (Ty.pair Ty.str Ty.str) 0 false bA])) else none) else none) else none) else none) else none) else none) else (bif ((okC ab (dG ab ae af))&&true) then (bif (decide ((List.getD (List.set (List.set (List.set (List.set (List.set (List.set (List.replicate 6 (0 : Int)) 0 200) 1 200) 2 204) 3 304) 4 404) 5 599) (Int.toNat (ax ab ae af)) 0)=200)) then (bif ((decide ((List.getD (List.set (List.set (List.set (List.set (List.set (List.set (List.replicate 6 (0 : Int)) 0 200) 1 200) 2 204) 3 304) 4 404) 5 599) (Int.toNat (ax ab ae af)) 0)=204))||(decide ((List.getD (List.set (List.set (List.set (List.set (List.set (List.set (List.replicate 6 (0 : Int)) 0 200) 1 200) 2 204) 3 304) 4 404) 5 599) (Int.toNat (ax ab ae af)) 0)=304))) then (some ((AV.agg [.str bn,.str bp,.int .i64 (List.getD (List.set (List.set (List.set (List.set (List.set (List.set (List.replicate 6 (0 : Int)) 0 200) 1 200) 2 204) 3 304) 4 404) 5 599) (Int.toNat (ax ab ae af)) 0),.str ([79,75]: aa),.bool true,.ref 1 0,.str ([]: aa)]),[.var [.sh (Ty.int .u8) ab,.int .i64 (bY ab ae af),.int .i64 (au 6 (cf ab ae af))],.arr (Ty.pair Ty.str Ty.str) 0 false bA])) else (bif (okC ab (bY ab ae af)) then (bif (decide ((fJ ab ae af)=0)) then (some ((AV.agg [.str bn,.str bp,.int .i64 (List.getD (List.set (List.set (List.set (List.set (List.set (List.set (List.replicate 6 (0 : Int)) 0 200) 1 200) 2 204) 3 304) 4 404) 5 599) (Int.toNat (ax ab ae af)) 0),.str ([79,75]: aa),.bool true,.ref 1 0,.str ([]: aa)]),[.var [.sh (Ty.int .u8) ab,.int .i64 (co ab ae af),.int .i64 (cn ab ae af)],.arr (Ty.pair Ty.str Ty.str) 0 false bA])) else (some ((AV.agg [.str bn,.str bp,.int .i64 (List.getD (List.set (List.set (List.set (List.set (List.set (List.set (List.replicate 6 (0 : Int)) 0 200) 1 200) 2 204) 3 304) 4 404) 5 599) (Int.toNat (ax ab ae af)) 0),.str ([79,75]: aa),.bool eY,.ref 1 0,.str (eV ab ae af)]),[.var [.sh (Ty.int .u8) ab,.int .i64 (co ab ae af),.int .i64 (cn ab ae af)],.arr (Ty.pair Ty.str Ty.str) 0 false bA]))) else none)) else (bif (decide ((List.getD (List.set (List.set (List.set (List.set (List.set (List.set (List.replicate 6 (0 : Int)) 0 200) 1 200) 2 204) 3 304) 4 404) 5 599) (Int.toNat (ax ab ae af)) 0)=304)) then (bif ((decide ((List.getD (List.set (List.set (List.set (List.set (List.set (List.set (List.replicate 6 (0 : Int)) 0 200) 1 200) 2 204) 3 304) 4 404) 5 599) (Int.toNat (ax ab ae af)) 0)=204))||(decide ((List.getD (List.set (List.set (List.set (List.set (List.set (List.set (List.replicate 6 (0 : Int)) 0 200) 1 200) 2 204) 3 304) 4 404) 5 599) (Int.toNat (ax ab ae af)) 0)=304))) then (some ((AV.agg [.str bn,.str bp,.int .i64 (List.getD (List.set (List.set (List.set (List.set (List.set (List.set (List.replicate 6 (0 : Int)) 0 200) 1 200) 2 204) 3 304) 4 404) 5 599) (Int.toNat (ax ab ae af)) 0),.str ([78,111,116,32,77,111,100,105,102,105,101,100]: aa),.bool true,.ref 1 0,.str ([]: aa)]),[.var [.sh (Ty.int .u8) ab,.int .i64 (bY ab ae af),.int .i64 (au 6 (cf ab ae af))],.arr (Ty.pair Ty.str Ty.str) 0 false bA])) else (bif (okC ab (bY ab ae af)) then (bif (decide ((fJ ab ae af)=0)) then (some ((AV.agg [.str bn,.str bp,.int .i64 (List.getD (List.set (List.set (List.set (List.set (List.set (List.set (List.replicate 6 (0 : Int)) 0 200) 1 200) 2 204) 3 304) 4 404) 5 599) (Int.toNat (ax ab ae af)) 0),.str ([78,111,116,32,77,111,100,105,102,105,101,100]: aa),.bool true,.ref 1 0,.str ([]: aa)]),[.var [.sh (Ty.int .u8) ab,.int .i64 (co ab ae af),.int .i64 (cn ab ae af)],.arr (Ty.pair Ty.str Ty.str) 0 false bA])) else (some ((AV.agg [.str bn,.str bp,.int .i64 (List.getD (List.set (List.set (List.set (List.set (List.set (List.set (List.replicate 6 (0 : Int)) 0 200) 1 200) 2 204) 3 304) 4 404) 5 599) (Int.toNat (ax ab ae af)) 0),.str ([78,111,116,32,77,111,100,105,102,105,101,100]: aa),.bool eY,.ref 1 0,.str (eV ab ae af)]),[.var [.sh (Ty.int .u8) ab,.int .i64 (co ab ae af),.int .i64 (cn ab ae af)],.arr (Ty.pair Ty.str Ty.str) 0 false bA]))) else none)) else (bif (decide ((List.getD (List.set (List.set (List.set (List.set (List.set (List.set (List.replicate 6 (0 : Int)) 0 200) 1 200) 2 204) 3 304) 4 404) 5 599) (Int.toNat (ax ab ae af)) 0)=400)) then (bif ((decide ((List.getD (List.set (List.set (List.set (List.set (List.set (List.set (List.replicate 6 (0 : Int)) 0 200) 1 200) 2 204) 3 304) 4 404) 5 599) (Int.toNat (ax ab ae af)) 0)=204))||(decide ((List.getD (List.set (List.set (List.set (List.set (List.set (List.set (List.replicate 6 (0 : Int)) 0 200) 1 200) 2 204) 3 304) 4 404) 5 599) (Int.toNat (ax ab ae af)) 0)=304))) then (some ((AV.agg [.str bn,.str bp,.int .i64 (List.getD (List.set (List.set (List.set (List.set (List.set (List.set (List.replicate 6 (0 : Int)) 0 200) 1 200) 2 204) 3 304) 4 404) 5 599) (Int.toNat (ax ab ae af)) 0),.str ([66,97,100,32,82,101,113,117,101,115,116]: aa),.bool true,.ref 1 0,.str ([]: aa)]),[.var [.sh (Ty.int .u8) ab,.int .i64 (bY ab ae af),.int .i64 (au 6 (cf ab ae af))],.arr (Ty.pair Ty.str Ty.str) 0 false bA])) else (bif (okC ab (bY ab ae af)) then (bif (decide ((fJ ab ae af)=0)) then (some ((AV.agg [.str bn,.str bp,.int .i64 (List.getD (List.set (List.set (List.set (List.set (List.set (List.set (List.replicate 6 (0 : Int)) 0 200) 1 200) 2 204) 3 304) 4 404) 5 599) (Int.toNat (ax ab ae af)) 0),.str ([66,97,100,32,82,101,113,117,101,115,116]: aa),.bool true,.ref 1 0,.str ([]: aa)]),[.var [.sh (Ty.int .u8) ab,.int .i64 (co ab ae af),.int .i64 (cn ab ae af)],.arr (Ty.pair Ty.str Ty.str) 0 false bA])) else (some ((AV.agg [.str bn,.str bp,.int .i64 (List.getD (List.set (List.set (List.set (List.set (List.set (List.set (List.replicate 6 (0 : Int)) 0 200) 1 200) 2 204) 3 304) 4 404) 5 599) (Int.toNat (ax ab ae af)) 0),.str ([66,97,100,32,82,101,113,117,101,115,116]: aa),.bool eY,.ref 1 0,.str (eV ab ae af)]),[.var [.sh (Ty.int .u8) ab,.int .i64 (co ab ae af),.int .i64 (cn ab ae af)],.arr (Ty.pair Ty.str Ty.str) 0 false bA]))) else none)) else (bif (decide ((List.getD (List.set (List.set (List.set (List.set (List.set (List.set (List.replicate 6 (0 : Int)) 0 200) 1 200) 2 204) 3 304) 4 404) 5 599) (Int.toNat (ax ab ae af)) 0)=413)) then (bif ((decide ((List.getD (List.set (List.set (List.set (List.set (List.set (List.set (List.replicate 6 (0 : Int)) 0 200) 1 200) 2 204) 3 304) 4 404) 5 599) (Int.toNat (ax ab ae af)) 0)=204))||(decide ((List.getD (List.set (List.set (List.set (List.set (List.set (List.set (List.replicate 6 (0 : Int)) 0 200) 1 200) 2 204) 3 304) 4 404) 5 599) (Int.toNat (ax ab ae af)) 0)=304))) then (some ((AV.agg [.str bn,.str bp,.int .i64 (List.getD (List.set (List.set (List.set (List.set (List.set (List.set (List.replicate 6 (0 : Int)) 0 200) 1 200) 2 204) 3 304) 4 404) 5 599) (Int.toNat (ax ab ae af)) 0),.str ([67,111,110,116,101,110,116,32,84,111,111,32,76,97,114,103,101]: aa),.bool true,.ref 1 0,.str ([]: aa)]),[.var [.sh (Ty.int .u8) ab,.int .i64 (bY ab ae af),.int .i64 (au 6 (cf ab ae af))],.arr (Ty.pair Ty.str Ty.str) 0 false bA])) else (bif (okC ab (bY ab ae af)) then (bif (decide ((fJ ab ae af)=0)) then (some ((AV.agg [.str bn,.str bp,.int .i64 (List.getD (List.set (List.set (List.set (List.set (List.set (List.set (List.replicate 6 (0 : Int)) 0 200) 1 200) 2 204) 3 304) 4 404) 5 599) (Int.toNat (ax ab ae af)) 0),.str ([67,111,110,116,101,110,116,32,84,111,111,32,76,97,114,103,101]: aa),.bool true,.ref 1 0,.str ([]: aa)]),[.var [.sh (Ty.int .u8) ab,.int .i64 (co ab ae af),.int .i64 (cn ab ae af)],.arr (Ty.pair Ty.str Ty.str) 0 false bA])) else (some ((AV.agg [.str bn,.str bp,.int .i64 (List.getD (List.set (List.set (List.set (List.set (List.set (List.set (List.replicate 6 (0 : Int)) 0 200) 1 200) 2 204) 3 304) 4 404) 5 599) (Int.toNat (ax ab ae af)) 0),.str ([67,111,110,116,101,110,116,32,84,111,111,32,76,97,114,103,101]: aa),.bool eY,.ref 1 0,.str (eV ab ae af)]),[.var [.sh (Ty.int .u8) ab,.int .i64 (co ab ae af),.int .i64 (cn ab ae af)],.arr (Ty.pair Ty.str Ty.str) 0 false bA]))) else none)) else (bif (decide ((List.getD (List.set (List.set (List.set (List.set (List.set (List.set (List.replicate 6 (0 : Int)) 0 200) 1 200) 2 204) 3 304) 4 404) 5 599) (Int.toNat (ax ab ae af)) 0)=431)) then (bif ((decide ((List.getD (List.set (List.set (List.set (List.set (List.set (List.set (List.replicate 6 (0 : Int)) 0 200) 1 200) 2 204) 3 304) 4 404) 5 599) (Int.toNat (ax ab ae af)) 0)=204))||(decide ((List.getD (List.set (List.set (List.set (List.set (List.set (List.set (List.replicate 6 (0 : Int)) 0 200) 1 200) 2 204) 3 304) 4 404) 5 599) (Int.toNat (ax ab ae af)) 0)=304))) then (some ((AV.agg [.str bn,.str bp,.int .i64 (List.getD (List.set (List.set (List.set (List.set (List.set (List.set (List.replicate 6 (0 : Int)) 0 200) 1 200) 2 204) 3 304) 4 404) 5 599) (Int.toNat (ax ab ae af)) 0),.str ([82,101,113,117,101,115,116,32,72,101,97,100,101,114,32,70,105,101,108,100,115,32,84,111,111,32,76,97,114,103,101]: aa),.bool true,.ref 1 0,.str ([]: aa)]),[.var [.sh (Ty.int .u8) ab,.int .i64 (bY ab ae af),.int .i64 (au 6 (cf ab ae af))],.arr (Ty.pair Ty.str Ty.str) 0 false bA])) else (bif (okC ab (bY ab ae af)) then (bif (decide ((fJ ab ae af)=0)) then (some ((AV.agg [.str bn,.str bp,.int .i64 (List.getD (List.set (List.set (List.set (List.set (List.set (List.set (List.replicate 6 (0 : Int)) 0 200) 1 200) 2 204) 3 304) 4 404) 5 599) (Int.toNat (ax ab ae af)) 0),.str ([82,101,113,117,101,115,116,32,72,101,97,100,101,114,32,70,105,101,108,100,115,32,84,111,111,32,76,97,114,103,101]: aa),.bool true,.ref 1 0,.str ([]: aa)]),[.var [.sh (Ty.int .u8) ab,.int .i64 (co ab ae af),.int .i64 (cn ab ae af)],.arr (Ty.pair Ty.str Ty.str) 0 false bA])) else (some ((AV.agg [.str bn,.str bp,.int .i64 (List.getD (List.set (List.set (List.set (List.set (List.set (List.set (List.replicate 6 (0 : Int)) 0 200) 1 200) 2 204) 3 304) 4 404) 5 599) (Int.toNat (ax ab ae af)) 0),.str ([82,101,113,117,101,115,116,32,72,101,97,100,101,114,32,70,105,101,108,100,115,32,84,111,111,32,76,97,114,103,101]: aa),.bool eY,.ref 1 0,.str (eV ab ae af)]),[.var [.sh (Ty.int .u8) ab,.int .i64 (co ab ae af),.int .i64 (cn ab ae af)],.arr (Ty.pair Ty.str Ty.str) 0 false bA]))) else none)) else (bif (decide ((List.getD (List.set (List.set (List.set (List.set (List.set (List.set (List.replicate 6 (0 : Int)) 0 200) 1 200) 2 204) 3 304) 4 404) 5 599) (Int.toNat (ax ab ae af)) 0)=502)) then (bif ((decide ((List.getD (List.set (List.set (List.set (List.set (List.set (List.set (List.replicate 6 (0 : Int)) 0 200) 1 200) 2 204) 3 304) 4 404) 5 599) (Int.toNat (ax ab ae af)) 0)=204))||(decide ((List.getD (List.set (List.set (List.set (List.set (List.set (List.set (List.replicate 6 (0 : Int)) 0 200) 1 200) 2 204) 3 304) 4 404) 5 599) (Int.toNat (ax ab ae af)) 0)=304))) then (some ((AV.agg [.str bn,.str bp,.int .i64 (List.getD (List.set (List.set (List.set (List.set (List.set (List.set (List.replicate 6 (0 : Int)) 0 200) 1 200) 2 204) 3 304) 4 404) 5 599) (Int.toNat (ax ab ae af)) 0),.str ([66,97,100,32,71,97,116,101,119,97,121]: aa),.bool true,.ref 1 0,.str ([]: aa)]),[.var [.sh (Ty.int .u8) ab,.int .i64 (bY ab ae af),.int .i64 (au 6 (cf ab ae af))],.arr (Ty.pair Ty.str Ty.str) 0 false bA])) else (bif (okC ab (bY ab ae af)) then (bif (decide ((fJ ab ae af)=0)) then (some ((AV.agg [.str bn,.str bp,.int .i64 (List.getD (List.set (List.set (List.set (List.set (List.set (List.set (List.replicate 6 (0 : Int)) 0 200) 1 200) 2 204) 3 304) 4 404) 5 599) (Int.toNat (ax ab ae af)) 0),.str ([66,97,100,32,71,97,116,101,119,97,121]: aa),.bool true,.ref 1 0,.str ([]: aa)]),[.var [.sh (Ty.int .u8) ab,.int .i64 (co ab ae af),.int .i64 (cn ab ae af)],.arr (Ty.pair Ty.str Ty.str) 0 false bA])) else (some ((AV.agg [.str bn,.str bp,.int .i64 (List.getD (List.set (List.set (List.set (List.set (List.set (List.set (List.replicate 6 (0 : Int)) 0 200) 1 200) 2 204) 3 304) 4 404) 5 599) (Int.toNat (ax ab ae af)) 0),.str ([66,97,100,32,71,97,116,101,119,97,121]: aa),.bool eY,.ref 1 0,.str (eV ab ae af)]),[.var [.sh (Ty.int .u8) ab,.int .i64 (co ab ae af),.int .i64 (cn ab ae af)],.arr (Ty.pair Ty.str Ty.str) 0 false bA]))) else none)) else (bif (decide ((List.getD (List.set (List.set (List.set (List.set (List.set (List.set (List.replicate 6 (0 : Int)) 0 200) 1 200) 2 204) 3 304) 4 404) 5 599) (Int.toNat (ax ab ae af)) 0)=503)) then (bif ((decide ((List.getD (List.set (List.set (List.set (List.set (List.set (List.set (List.replicate 6 (0 : Int)) 0 200) 1 200) 2 204) 3 304) 4 404) 5 599) (Int.toNat (ax ab ae af)) 0)=204))||(decide ((List.getD (List.set (List.set (List.set (List.set (List.set (List.set (List.replicate 6 (0 : Int)) 0 200) 1 200) 2 204) 3 304) 4 404) 5 599) (Int.toNat (ax ab ae af)) 0)=304))) then (some ((AV.agg [.str bn,.str bp,.int .i64 (List.getD (List.set (List.set (List.set (List.set (List.set (List.set (List.replicate 6 (0 : Int)) 0 200) 1 200) 2 204) 3 304) 4 404) 5 599) (Int.toNat (ax ab ae af)) 0),.str ([83,101,114,118,105,99,101,32,85,110,97,118,97,105,108,97,98,108,101]: aa),.bool true,.ref 1 0,.str ([]: aa)]),[.var [.sh (Ty.int .u8) ab,.int .i64 (bY ab ae af),.int .i64 (au 6 (cf ab ae af))],.arr (Ty.pair Ty.str Ty.str) 0 false bA])) else (bif (okC ab (bY ab ae af)) then (bif (decide ((fJ ab ae af)=0)) then (some ((AV.agg [.str bn,.str bp,.int .i64 (List.getD (List.set (List.set (List.set (List.set (List.set (List.set (List.replicate 6 (0 : Int)) 0 200) 1 200) 2 204) 3 304) 4 404) 5 599) (Int.toNat (ax ab ae af)) 0),.str ([83,101,114,118,105,99,101,32,85,110,97,118,97,105,108,97,98,108,101]: aa),.bool true,.ref 1 0,.str ([]: aa)]),[.var [.sh (Ty.int .u8) ab,.int .i64 (co ab ae af),.int .i64 (cn ab ae af)],.arr (Ty.pair Ty.str Ty.str) 0 false bA])) else (some ((AV.agg [.str bn,.str bp,.int .i64 (List.getD (List.set (List.set (List.set (List.set (List.set (List.set (List.replicate 6 (0 : Int)) 0 200) 1 200) 2 204) 3 304) 4 404) 5 599) (Int.toNat (ax ab ae af)) 0),.str ([83,101,114,118,105,99,101,32,85,110,97,118,97,105,108,97,98,108,101]: aa),.bool eY,.ref 1 0,.str (eV ab ae af)]),[.var [.sh (Ty.int .u8) ab,.int .i64 (co ab ae af),.int .i64 (cn ab ae af)],.arr (Ty.pair Ty.str Ty.str) 0 false bA]))) else none)) else (bif (decide ((List.getD (List.set (List.set (List.set (List.set (List.set (List.set (List.replicate 6 (0 : Int)) 0 200) 1 200) 2 204) 3 304) 4 404) 5 599) (Int.toNat (ax ab ae af)) 0)=504)) then (bif ((decide ((List.getD (List.set (List.set (List.set (List.set (List.set (List.set (List.replicate 6 (0 : Int)) 0 200) 1 200) 2 204) 3 304) 4 404) 5 599) (Int.toNat (ax ab ae af)) 0)=204))||(decide ((List.getD (List.set (List.set (List.set (List.set (List.set (List.set (List.replicate 6 (0 : Int)) 0 200) 1 200) 2 204) 3 304) 4 404) 5 599) (Int.toNat (ax ab ae af)) 0)=304))) then (some ((AV.agg [.str bn,.str bp,.int .i64 (List.getD (List.set (List.set (List.set (List.set (List.set (List.set (List.replicate 6 (0 : Int)) 0 200) 1 200) 2 204) 3 304) 4 404) 5 599) (Int.toNat (ax ab ae af)) 0),.str ([71,97,116,101,119,97,121,32,84,105,109,101,111,117,116]: aa),.bool true,.ref 1 0,.str ([]: aa)]),[.var [.sh (Ty.int .u8) ab,.int .i64 (bY ab ae af),.int .i64 (au 6 (cf ab ae af))],.arr (Ty.pair Ty.str Ty.str) 0 false bA])) else (bif (okC ab (bY ab ae af)) then (bif (decide ((fJ ab ae af)=0)) then (some ((AV.agg [.str bn,.str bp,.int .i64 (List.getD (List.set (List.set (List.set (List.set (List.set (List.set (List.replicate 6 (0 : Int)) 0 200) 1 200) 2 204) 3 304) 4 404) 5 599) (Int.toNat (ax ab ae af)) 0),.str ([71,97,116,101,119,97,121,32,84,105,109,101,111,117,116]: aa),.bool true,.ref 1 0,.str ([]: aa)]),[.var [.sh (Ty.int .u8) ab,.int .i64 (co ab ae af),.int .i64 (cn ab ae af)],.arr (Ty.pair Ty.str Ty.str) 0 false bA])) else (some ((AV.agg [.str bn,.str bp,.int .i64 (List.getD (List.set (List.set (List.set (List.set (List.set (List.set (List.replicate 6 (0 : Int)) 0 200) 1 200) 2 204) 3 304) 4 404) 5 599) (Int.toNat (ax ab ae af)) 0),.str ([71,97,116,101,119,97,121,32,84,105,109,101,111,117,116]: aa),.bool eY,.ref 1 0,.str (eV ab ae af)]),[.var [.sh (Ty.int .u8) ab,.int .i64 (co ab ae af),.int .i64 (cn ab ae af)],.arr (Ty.pair Ty.str Ty.str) 0 false bA]))) else none)) else (bif ((decide ((List.getD (List.set (List.set (List.set (List.set (List.set (List.set (List.replicate 6 (0 : Int)) 0 200) 1 200) 2 204) 3 304) 4 404) 5 599) (Int.toNat (ax ab ae af)) 0)=204))||(decide ((List.getD (List.set (List.set (List.set (List.set (List.set (List.set (List.replicate 6 (0 : Int)) 0 200) 1 200) 2 204) 3 304) 4 404) 5 599) (Int.toNat (ax ab ae af)) 0)=304))) then (some ((AV.agg [.str bn,.str bp,.int .i64 (List.getD (List.set (List.set (List.set (List.set (List.set (List.set (List.replicate 6 (0 : Int)) 0 200) 1 200) 2 204) 3 304) 4 404) 5 599) (Int.toNat (ax ab ae af)) 0),.str ([]: aa),.bool true,.ref 1 0,.str ([]: aa)]),[.var [.sh (Ty.int .u8) ab,.int .i64 (bY ab ae af),.int .i64 (au 6 (cf ab ae af))],.arr (Ty.pair Ty.str Ty.str) 0 false bA])) else (bif (okC ab (bY ab ae af)) then (bif (decide ((fJ ab ae af)=0)) then (some ((AV.agg [.str bn,.str bp,.int .i64 (List.getD (List.set (List.set (List.set (List.set (List.set (List.set (List.replicate 6 (0 : Int)) 0 200) 1 200) 2 204) 3 304) 4 404) 5 599) (Int.toNat (ax ab ae af)) 0),.str ([]: aa),.bool true,.ref 1 0,.str ([]: aa)]),[.var [.sh (Ty.int .u8) ab,.int .i64 (co ab ae af),.int .i64 (cn ab ae af)],.arr (Ty.pair Ty.str Ty.str) 0 false bA])) else (some ((AV.agg [.str bn,.str bp,.int .i64 (List.getD (List.set (List.set (List.set (List.set (List.set (List.set (List.replicate 6 (0 : Int)) 0 200) 1 200) 2 204) 3 304) 4 404) 5 599) (Int.toNat (ax ab ae af)) 0),.str ([]: aa),.bool eY,.ref 1 0,.str (eV ab ae af)]),[.var [.sh (Ty.int .u8) ab,.int .i64 (co ab ae af),.int .i64 (cn ab ae af)],.arr (Ty.pair Ty.str Ty.str) 0 false bA]))) else none)))))))))) else none)) else none) else none) else none))) else none)
def Ed (φ: (List Int)→Int→Int→Br): List AV→List Ob→Br
 | [.ptr 0 0],[.var [.sh (.int .u8) code, .int .i64 i, .int .i64 h]]=>φ code i h
 | _,_=> .fail
theorem NK {φ: (List Int)→Int→Int→Br} (fu: (List Int)→Int→Int→Nat) (hv: ∀ code i h res_,(φ code i h).val=some res_→iY (fu code i h) code i h=some res_): Sound Kx 170 (Ed φ):=ar (C:=l6msg_C) (O:=Td) Tryz.func170 (by kernel_rfl) fun args objs=>by
 unfold Ed;split
 · rename_i code i h;exact .inr fun _ hyp_=>aS (Λ:=Te (fu code i h)) (by kernel_rfl) (am (l':=[KE]) (by kernel_rfl) ⟨Tf _,trivial⟩) (by kernel_rfl) (hv code i h _ hyp_)
 · exact .inl rfl
end
end Go.Proofs.YtgknmoadpgpdeaaGreatDoor.Ev
namespace Go.Proofs.YtgknmoadpgpdeaaGreatDoor.Ev
open Go Go.RowKit
set_option linter.unusedVariables false
set_option linter.unusedSimpArgs false
set_option linter.defProp false
set_option maxRecDepth 20000
noncomputable section
theorem iZ {code: List Int} {D: Int→Int→Fd×Int×Int} (hD: ∀ i h,okC code i=true→okC code (D i h).2.1=true∧cq (D i h).1) {F: Nat→Int→Int→Int→List Fd→OR'} (K: Int→Int→List Fd→OR')
 (hF: ∀ N n i h acc,F (N + 1) n i h acc=bif decide ((0 : Int) < n) then (bif okC code i&&true then (bif decide ((acc.length + [(D i h).1].length) * 32≤140737488355328) then F N (ai (n - 1)) (D i h).2.1 (D i h).2.2 (acc++[(D i h).1]) else none) else none) else K i h acc)
 (R: OR'→Prop): ∀ (k N: Nat) (n i h: Int) (acc: List Fd),k < N→n=(k: Int)→okC code i=true→acc.length + k≤1000→(∀ f ∈ acc,cq f)→
 (∀ i' h' l,okC code i'=true→l.length≤acc.length + k→(∀ f ∈ l,cq f)→R (K i' h' l))→R (F N n i h acc)
 | 0,N,n,i,h,acc,hN,hn,hc,hl,hq,hK=>by
   obtain ⟨N,rfl⟩: ∃ m,N=m + 1:=⟨N - 1,by omega⟩
   rw [hF,dF' (by omega),cond_false]
   exact hK i h acc hc (by omega) hq
 | k + 1,N,n,i,h,acc,hN,hn,hc,hl,hq,hK=>by
   obtain ⟨N,rfl⟩: ∃ m,N=m + 1:=⟨N - 1,by omega⟩
   obtain ⟨h1,h2⟩:=hD i h hc
   rw [hF,dT' (by omega: (0 : Int) < n),cond_true,hc,Bool.and_true,cond_true,dT' (by rw [List.length_singleton];omega),cond_true,w64 (by omega) (by omega)]
   refine iZ hD K hF R k N (n - 1) _ _ _ (by omega) (by omega) h1 (by rw [List.length_append,List.length_singleton];omega) (fun f hf=>?_) fun i' h' l q1 q2 q3=>?_
   · rcases List.mem_append.1 hf with hf | hf
     · exact hq f hf
     · rw [List.mem_singleton.1 hf];exact h2
   · rw [List.length_append,List.length_singleton] at q2
     exact hK i' h' l q1 (by omega) q3
theorem X0 (aA: (List Int)) (gw: (List UInt8)) (gH: (List UInt8)) (ii: Int) (j8: (List UInt8)) (lp: Bool) (lq: (List UInt8)) (dY: (List ((List UInt8)×(List UInt8)))) (dZ: (List UInt8)) (d7: (List UInt8)) (fV: Int) (fW: (List UInt8)) (fX: Bool) (fY: (List UInt8)) (K: (List Int)→Int→Int→(List UInt8)→(List UInt8)→Int→(List UInt8)→Bool→(List UInt8)→(List ((List UInt8)×(List UInt8)))→(List UInt8)→(List UInt8)→Int→(List UInt8)→Bool→(List UInt8)→(List ((List UInt8)×(List UInt8)))→OR') (R: OR'→Prop) (k N: Nat) (aL bu d_: Int) (eX: List Fd) (hN: k < N) (hn: aL=(k: Int)) (hc: okC aA bu=true) (hl: eX.length + k≤1000) (hq: ∀ f ∈ eX,cq f)
 (hK: ∀ i' h' l,okC aA i'=true→l.length≤eX.length + k→(∀ f ∈ l,cq f)→R (K aA i' h' gw gH ii j8 lp lq dY dZ d7 fV fW fX fY l)): R (nT N aL aA bu d_ gw gH ii j8 lp lq dY dZ d7 fV fW fX fY eX K):=
 iZ (code:=aA) (D:=fun i h=>XZ () aA i h) (fun i h hc=>aeN h hc) (F:=fun N n i h acc=>nT N n aA i h gw gH ii j8 lp lq dY dZ d7 fV fW fX fY acc K) (fun i' h' l=>K aA i' h' gw gH ii j8 lp lq dY dZ d7 fV fW fX fY l) (fun _ _ _ _ _=>rfl) R k N aL bu d_ eX hN hn hc hl hq hK
theorem X1 (aA: (List Int)) (gw: (List UInt8)) (gH: (List UInt8)) (ii: Int) (j8: (List UInt8)) (lp: Bool) (lq: (List UInt8)) (dY: (List ((List UInt8)×(List UInt8)))) (dZ: (List UInt8)) (d7: (List UInt8)) (fV: Int) (fW: (List UInt8)) (fX: Bool) (fY: (List UInt8)) (K: (List Int)→Int→Int→(List UInt8)→(List UInt8)→Int→(List UInt8)→Bool→(List UInt8)→(List ((List UInt8)×(List UInt8)))→(List UInt8)→(List UInt8)→Int→(List UInt8)→Bool→(List UInt8)→(List ((List UInt8)×(List UInt8)))→OR') (R: OR'→Prop) (k N: Nat) (aL bu d_: Int) (eX: List Fd) (hN: k < N) (hn: aL=(k: Int)) (hc: okC aA bu=true) (hl: eX.length + k≤1000) (hq: ∀ f ∈ eX,cq f)
 (hK: ∀ i' h' l,okC aA i'=true→l.length≤eX.length + k→(∀ f ∈ l,cq f)→R (K aA i' h' gw gH ii j8 lp lq dY dZ d7 fV fW fX fY l)): R (nU N aL aA bu d_ gw gH ii j8 lp lq dY dZ d7 fV fW fX fY eX K):=
 iZ (code:=aA) (D:=fun i h=>q8 () aA i h) (fun i h hc=>Jl h hc) (F:=fun N n i h acc=>nU N n aA i h gw gH ii j8 lp lq dY dZ d7 fV fW fX fY acc K) (fun i' h' l=>K aA i' h' gw gH ii j8 lp lq dY dZ d7 fV fW fX fY l) (fun _ _ _ _ _=>rfl) R k N aL bu d_ eX hN hn hc hl hq hK
theorem Tg (aI: Int) (aF: (List Int)) (eg: (List UInt8)) (eh: Int) (cZ: Int) (fe: (List UInt8)) (gJ: (List UInt8)) (cC: Int) (cD: (List UInt8)) (cE: Bool) (dp: (List UInt8)) (dq: (List ((List UInt8)×(List UInt8)))) (dr: (List ((List UInt8)×(List UInt8)))) (dt: (List UInt8)) (du: Int) (dv: Int) (cv: (List UInt8)) (cS: (List UInt8)) (da: Int) (dw: (List UInt8)) (dx: Bool) (dy: (List UInt8)) (dz: (List ((List UInt8)×(List UInt8)))) (K: (List Int)→Int→Int→(List UInt8)→Int→Int→(List UInt8)→(List UInt8)→Int→(List UInt8)→Bool→(List UInt8)→(List ((List UInt8)×(List UInt8)))→(List ((List UInt8)×(List UInt8)))→(List UInt8)→Int→Int→(List UInt8)→(List UInt8)→Int→(List UInt8)→Bool→(List UInt8)→(List ((List UInt8)×(List UInt8)))→(List ((List UInt8)×(List UInt8)))→OR') (R: OR'→Prop) (k N: Nat) (aR a7 ck: Int) (cX: List Fd) (hN: k < N) (hn: aR=(k: Int)) (hc: okC aF a7=true) (hl: cX.length + k≤1000) (hq: ∀ f ∈ cX,cq f)
 (hK: ∀ i' h' l,okC aF i'=true→l.length≤cX.length + k→(∀ f ∈ l,cq f)→R (K aF i' h' eg eh cZ fe gJ cC cD cE dp dq dr dt du dv cv cS da dw dx dy dz l)): R (gF N aI aR aF a7 ck eg eh cZ fe gJ cC cD cE dp dq dr dt du dv cv cS da dw dx dy dz cX K):=
 iZ (code:=aF) (D:=fun i h=>Ea aI aF i h) (fun i h hc=>ZR aI h hc) (F:=fun N n i h acc=>gF N aI n aF i h eg eh cZ fe gJ cC cD cE dp dq dr dt du dv cv cS da dw dx dy dz acc K) (fun i' h' l=>K aF i' h' eg eh cZ fe gJ cC cD cE dp dq dr dt du dv cv cS da dw dx dy dz l) (fun _ _ _ _ _=>rfl) R k N aR a7 ck cX hN hn hc hl hq hK
theorem Th (se: (List Int)) (N4: (List UInt8)) (N5: Int) (N6: Int) (N7: (List UInt8)) (N8: (List UInt8)) (N9: Int) (pl: (List UInt8)) (pm: Bool) (pn: (List UInt8)) (pp: (List ((List UInt8)×(List UInt8)))) (pq: (List ((List UInt8)×(List UInt8)))) (pr: (List UInt8)) (pt: Int) (pu: Int) (pw: (List UInt8)) (px: (List UInt8)) (py: Int) (pz: (List UInt8)) (pA: Bool) (pB: (List UInt8)) (pC: (List ((List UInt8)×(List UInt8)))) (K: (List Int)→Int→Int→(List UInt8)→Int→Int→(List UInt8)→(List UInt8)→Int→(List UInt8)→Bool→(List UInt8)→(List ((List UInt8)×(List UInt8)))→(List ((List UInt8)×(List UInt8)))→(List UInt8)→Int→Int→(List UInt8)→(List UInt8)→Int→(List UInt8)→Bool→(List UInt8)→(List ((List UInt8)×(List UInt8)))→(List ((List UInt8)×(List UInt8)))→OR') (R: OR'→Prop) (k N: Nat) (Oe AS EP: Int) (mP: List Fd) (hN: k < N) (hn: Oe=(k: Int)) (hc: okC se AS=true) (hl: mP.length + k≤1000) (hq: ∀ f ∈ mP,cq f)
 (hK: ∀ i' h' l,okC se i'=true→l.length≤mP.length + k→(∀ f ∈ l,cq f)→R (K se i' h' N4 N5 N6 N7 N8 N9 pl pm pn pp pq pr pt pu pw px py pz pA pB l pC)): R (gG N Oe se AS EP N4 N5 N6 N7 N8 N9 pl pm pn pp pq pr pt pu pw px py pz pA pB mP pC K):=
 iZ (code:=se) (D:=fun i h=>q8 () se i h) (fun i h hc=>Jl h hc) (F:=fun N n i h acc=>gG N n se i h N4 N5 N6 N7 N8 N9 pl pm pn pp pq pr pt pu pw px py pz pA pB acc pC K) (fun i' h' l=>K se i' h' N4 N5 N6 N7 N8 N9 pl pm pn pp pq pr pt pu pw px py pz pA pB l pC) (fun _ _ _ _ _=>rfl) R k N Oe AS EP mP hN hn hc hl hq hK
def Ee {α: Type} (code: List Int) (ra: α→AV) (ro: α→List Ob) (P: α→Prop) (o: OR'): Prop:=∃ (v: α) (i' h': Int),o=some (ra v,Y5 code i' h'::ro v)∧okC code i'=true∧P v
theorem li {α: Type} {code: List Int} {ra: α→AV} {ro: α→List Ob} {P: α→Prop} {c: Bool} {x: OR'} (h0: c=true) (h1: Ee code ra ro P x): Ee code ra ro P (bif c then x else none):=by subst h0;exact h1
theorem rY {α: Type} {code: List Int} {ra: α→AV} {ro: α→List Ob} {P: α→Prop} {c: Bool} {x y: OR'} (h1: c=true→Ee code ra ro P x) (h2: c=false→Ee code ra ro P y): Ee code ra ro P (bif c then x else y):=by
 cases c
 · exact h2 rfl
 · exact h1 rfl
def NL (m: Mg): AV:= .agg [.str m.1, .str m.2.1, .int .i64 m.2.2.1, .str m.2.2.2.1, .bool m.2.2.2.2.1, .ref 1 0, .str m.2.2.2.2.2.2]
def NM (m: Mg): List Ob:=[.arr (.pair .str .str) 0 false m.2.2.2.2.2.1]
def mgQ (m: Mg): Prop:=(∀ f ∈ m.2.2.2.2.2.1,cq f)∧m.2.2.2.2.2.1.length≤40∧m.1.length≤100∧m.2.1.length≤1000
theorem rZ {k: Nat} {l: List aa} (h: ∀ x ∈ l,x.length≤k) (j: Nat): (l.getD j []).length≤k:=rX (p:=fun v: aa=>v.length≤k) (Nat.zero_le _) l h j
theorem i6 {code: List Int} {P: Mg→Prop} (me ta: aa) (st: Int) (re: aa) (ba: Bool) (fs: List Fd) (bo: aa) (i' h': Int) (hc: okC code i'=true) (hP: P (me,ta,st,re,ba,fs,bo)):
 Ee code NL NM P (some (.agg [.str me, .str ta, .int .i64 st, .str re, .bool ba, .ref 1 0, .str bo],[.var [.sh (.int .u8) code, .int .i64 i', .int .i64 h'], .arr (.pair .str .str) 0 false fs])):=⟨_,i',h',rfl,hc,hP⟩
def etA (e: En): AV:= .agg [.str e.1, .int .i64 e.2.1, .int .i64 e.2.2.1, .ref 1 0, .str e.2.2.2.2.1, .str e.2.2.2.2.2.1, .int .i64 e.2.2.2.2.2.2.1, .str e.2.2.2.2.2.2.2.1, .bool e.2.2.2.2.2.2.2.2.1, .ref 2 0, .str e.2.2.2.2.2.2.2.2.2.2]
def etO (e: En): List Ob:=[.arr (.pair .str .str) 0 false e.2.2.2.1, .arr (.pair .str .str) 0 false e.2.2.2.2.2.2.2.2.2.1]
def etQ (e: En): Prop:=e.1.length≤1000∧e.2.2.2.1.length≤40∧e.2.2.2.2.2.2.2.2.2.1.length≤40
theorem NN {code: List Int} {P: En→Prop} (ur: aa) (t1 t2: Int) (ak: List Fd) (me ta: aa) (st: Int) (re: aa) (ba: Bool) (fs: List Fd) (bo: aa) (i' h': Int) (hc: okC code i'=true) (hP: P (ur,t1,t2,ak,me,ta,st,re,ba,fs,bo)):
 Ee code etA etO P (some (.agg [.str ur, .int .i64 t1, .int .i64 t2, .ref 1 0, .str me, .str ta, .int .i64 st, .str re, .bool ba, .ref 2 0, .str bo],[.var [.sh (.int .u8) code, .int .i64 i', .int .i64 h'], .arr (.pair .str .str) 0 false ak, .arr (.pair .str .str) 0 false fs])):=⟨_,i',h',rfl,hc,hP⟩
theorem d9 {n: Int} (hn: 0≤n) (code: List Int) (i h: Int): (aT n code i h).toNat≤n.toNat:=by
 have h1:=et n code i h
 by_cases h0: 0 < n
 · have:=h1.2 h0;omega
 · have e: aT n code i h=0:=by unfold aT;rw [dT' (by omega),cond_true]
   rw [e];omega
theorem nV (n: Int) (code: List Int) (i h: Int): aT n code i h=((aT n code i h).toNat: Int):=by
 have:=(et n code i h).1;omega
theorem GT {s: aa} {k: Nat} (h: s.length≤k) (hk: k≤1000000): decide (17 + s.length≤9223372036854775807)=true:=dT' (by omega)
theorem qM {n: Int} (hn: 0≤n) (set: aa) (code code': List Int) (i h i' h': Int): (ofS (aT n code i h) set code' i' h').length≤n.toNat:=by rw [lY];exact d9 hn ..
theorem ack (code: List Int) (i h: Int) (hc: okC code i=true): Ee code NL NM mgQ (o9 100 code i h):=by
 unfold o9
 repeat' (first | with_reducible refine li ?_ ?_ | with_reducible refine rY (fun _=>?_) (fun _=>?_))
 all_goals first
  | ((repeat (first | exact hc | with_reducible apply aq | with_reducible apply be | with_reducible apply av));done)
  | (simp only [Bool.and_true,List.length_cons,List.length_nil,List.length_set,List.length_replicate];(repeat (first | exact hc | with_reducible apply aq | with_reducible apply be | with_reducible apply av));done)
  | (simp (disch:=omega) only [Bool.and_true,t6,decide_true];(repeat (first | exact hc | with_reducible apply aq | with_reducible apply be | with_reducible apply av));done)
  | exact GT (qM (by omega) ..) (by decide)
  | (refine X0 _ _ _ _ _ _ _ _ _ _ _ _ _ _ _ (Ee code NL NM mgQ) _ 100 _ _ _ [] ?_ (nV ..) ?_ ?_ (fun _ hf=>absurd hf (List.not_mem_nil)) (fun i' h' l q1 q2 q3=>i6 _ _ _ _ _ _ _ _ _ q1 ⟨q3,?_,Nat.le_trans (rZ (k:=4) (by decide) _) (by decide),by rw [List.length_append];exact Nat.le_trans (Nat.add_le_add_left (qM (by omega) ..) _) (by decide)⟩)
     · exact Nat.lt_of_le_of_lt (d9 (by omega) ..) (by decide)
     · (repeat (first | exact hc | with_reducible apply aq | with_reducible apply be | with_reducible apply av))
     · exact Nat.le_trans (Nat.add_le_add_left (d9 (by omega) ..) _) (by decide)
     · exact Nat.le_trans q2 (Nat.le_trans (Nat.add_le_add_left (d9 (by omega) ..) _) (by decide)))
  | skip
 all_goals trace_state
theorem acl (code: List Int) (i h: Int) (hc: okC code i=true): Ee code NL NM mgQ (iY 100 code i h):=by
 unfold iY co cn lh fJ bY eV cf dG ax
 refine li hc ?_
 refine X1 _ _ _ _ _ _ _ _ _ _ _ _ _ _ _ (Ee code NL NM mgQ) _ 100 _ _ _ [] (Nat.lt_of_le_of_lt (d9 (by omega) ..) (by decide)) (nV ..) (aq hc) (Nat.le_trans (Nat.add_le_add_left (d9 (by omega) ..) _) (by decide)) (fun _ hf=>absurd hf (List.not_mem_nil)) (fun i' h' l q1 q2 q3=>?_)
 have q4: l.length≤40:=Nat.le_trans q2 (Nat.le_trans (Nat.add_le_add_left (d9 (by omega) ..) _) (by decide))
 repeat' (first | with_reducible refine li ?_ ?_ | with_reducible refine rY (fun _=>?_) (fun _=>?_) | with_reducible refine i6 _ _ _ _ _ _ _ _ _ ?_ ?_)
 all_goals first
  | ((repeat (first | exact hc | exact q1 | with_reducible apply aq | with_reducible apply be | with_reducible apply av));done)
  | (simp only [Bool.and_true,List.length_cons,List.length_nil,List.length_set,List.length_replicate];(repeat (first | exact hc | exact q1 | with_reducible apply aq | with_reducible apply be | with_reducible apply av));done)
  | (simp (disch:=omega) only [Bool.and_true,t6,decide_true];(repeat (first | exact hc | exact q1 | with_reducible apply aq | with_reducible apply be | with_reducible apply av));done)
  | exact GT (qM (by omega) ..) (by decide)
  | exact agM ..
  | exact ad_ _ _ _ (by omega) (by omega)
  | exact And.intro q3 (And.intro q4 (And.intro (Nat.le_trans (rZ (k:=6) (by decide) _) (by decide)) (by rw [List.length_append];exact Nat.le_trans (Nat.add_le_add_left (qM (by omega) ..) _) (by decide))))
  | exact And.intro q3 (And.intro q4 (And.intro (by simp) (by simp)))
  | skip
 all_goals trace_state
theorem acm (code: List Int) (i h: Int) (hc: okC code i=true): Ee code etA etO etQ (eH 100 code i h):=by
 unfold eH fp cQ
 repeat' (first | with_reducible refine li ?_ ?_ | with_reducible refine rY (fun _=>?_) (fun _=>?_))
 all_goals first
  | ((repeat (first | exact hc | with_reducible apply aq | with_reducible apply be | with_reducible apply av));done)
  | (simp only [Bool.and_true,List.length_cons,List.length_nil,List.length_set,List.length_replicate];(repeat (first | exact hc | with_reducible apply aq | with_reducible apply be | with_reducible apply av));done)
  | (simp (disch:=omega) only [Bool.and_true,t6,decide_true];(repeat (first | exact hc | with_reducible apply aq | with_reducible apply be | with_reducible apply av));done)
  | exact GT (qM (by omega) ..) (by decide)
  | skip
 refine Tg _ _ _ _ _ _ _ _ _ _ _ _ _ _ _ _ _ _ _ _ _ _ _ _ (Ee code etA etO etQ) _ 100 _ _ _ [] (Nat.lt_of_le_of_lt (d9 (by omega) ..) (by decide)) (nV ..) (by (repeat (first | exact hc | with_reducible apply aq | with_reducible apply be | with_reducible apply av))) (Nat.le_trans (Nat.add_le_add_left (d9 (by omega) ..) _) (by decide)) (fun _ hf=>absurd hf (List.not_mem_nil)) (fun i' h' l q1 q2 q3=>?_)
 have q4: l.length≤40:=Nat.le_trans q2 (Nat.le_trans (Nat.add_le_add_left (d9 (by omega) ..) _) (by decide))
 refine li q1 ?_
 refine Th _ _ _ _ _ _ _ _ _ _ _ _ _ _ _ _ _ _ _ _ _ _ _ (Ee code etA etO etQ) _ 100 _ _ _ [] (Nat.lt_of_le_of_lt (d9 (by omega) ..) (by decide)) (nV ..) (aq q1) (Nat.le_trans (Nat.add_le_add_left (d9 (by omega) ..) _) (by decide)) (fun _ hf=>absurd hf (List.not_mem_nil)) (fun i2 h2 l2 r1 r2 r3=>?_)
 have r4: l2.length≤40:=Nat.le_trans r2 (Nat.le_trans (Nat.add_le_add_left (d9 (by omega) ..) _) (by decide))
 refine NN _ _ _ _ _ _ _ _ _ _ _ _ _ r1 (show _∧_∧_ from ⟨?_,r4,q4⟩)
 rw [List.length_append]
 exact Nat.le_trans (Nat.add_le_add_left (qM (by omega) ..) _) (by decide)
def ahG:=yr (α:=Mg) (fun (_: Unit) code i h=>match o9 100 code i h with | some r=>Br.ret r.1 r.2 | none=> .fail) (fun _=>true) NL NM ([],[],0,[],false,[],[]) (fun _ m=>mgQ m) (fun _ code i h hc _=>by
 obtain ⟨v,i',h',e,q⟩:=ack code i h hc;exact ⟨v,i',h',by rw [e];rfl,q⟩)
theorem KH {o: OR'} {r: Rs} (h: (match o with | some r=>Br.ret r.1 r.2 | none=>Br.fail).val=some r): o=some r:=by
 cases o with
 | none=>cases h
 | some x=>simpa only [Br.val] using h
def msg_dr:=yr (α:=Mg) (fun (_: Unit) code i h=>match iY 100 code i h with | some r=>Br.ret r.1 r.2 | none=> .fail) (fun _=>true) NL NM ([],[],0,[],false,[],[]) (fun _ m=>mgQ m) (fun _ code i h hc _=>by
 obtain ⟨v,i',h',e,q⟩:=acl code i h hc;exact ⟨v,i',h',by rw [e];rfl,q⟩)
def cx:=msg_dr.choose
def agZ: List AV→List Ob→Br:=drQ un0 (fun _=>true) NL NM cx
theorem Ti: Sound Kx 170 agZ:=
 Ff (NK (φ:=fun code i h=>match iY 100 code i h with | some r=>Br.ret r.1 r.2 | none=> .fail) (fun _ _ _=>100) fun code i h r hv=>KH hv) (fun (_: Unit) code i h=>match iY 100 code i h with | some r=>Br.ret r.1 r.2 | none=> .fail)
  (fun l b code i h hl=>by rw [BA hl];rfl) fun b code i h hc hg=>(msg_dr.choose_spec b code i h hc hg).1
theorem aeO {code: List Int} {i: Int} (h: Int) (hc: okC code i=true): okC code (cx () code i h).2.1=true∧mgQ (cx () code i h).1:=(msg_dr.choose_spec () code i h hc rfl).2
def ent_dr:=yr (α:=En) (fun (_: Unit) code i h=>match eH 100 code i h with | some r=>Br.ret r.1 r.2 | none=> .fail) (fun _=>true) etA etO en0 (fun _ m=>etQ m) (fun _ code i h hc _=>by
 obtain ⟨v,i',h',e,q⟩:=acm code i h hc;exact ⟨v,i',h',by rw [e];rfl,q⟩)
def cM:=ent_dr.choose
def aeP: List AV→List Ob→Br:=drQ un0 (fun _=>true) etA etO cM
theorem Ef: Sound Kx 150 aeP:=
 Ff (zO (φ:=fun code i h=>match eH 100 code i h with | some r=>Br.ret r.1 r.2 | none=> .fail) (fun _ _ _=>100) fun code i h r hv=>KH hv) (fun (_: Unit) code i h=>match eH 100 code i h with | some r=>Br.ret r.1 r.2 | none=> .fail)
  (fun l b code i h hl=>by rw [BA hl];rfl) fun b code i h hc hg=>(ent_dr.choose_spec b code i h hc hg).1
theorem acn {code: List Int} {i: Int} (h: Int) (hc: okC code i=true): okC code (cM () code i h).2.1=true∧etQ (cM () code i h).1:=(ent_dr.choose_spec () code i h hc rfl).2
abbrev Eg (code: List Int) (i h: Int):=(List.set (List.replicate 1 (([]: aa),([]: aa))) 0 (([86,97,114,121]: aa),(List.getD (List.set (List.set (List.set (List.set (List.replicate 4 ([]: aa)) 0 ([42]: aa)) 1 ([65,99,99,101,112,116,44,32,97,99,99,101,112,116]: aa)) 2 ([120,44,32,42]: aa)) 3 ([65,99,99,101,112,116,44,73,102,45,78,111,110,101,45,77,97,116,99,104]: aa)) (Int.toNat (aT 4 code (an 8 code (cM () code i h).2.1) (au 8 (cM () code i h).2.2))) ([]: aa))))
abbrev uV (code: List Int) (i h: Int):=((Ob.var ((AV.sh (Ty.int .u8) code)::((AV.int .i64 (an 8 code (cM () code i h).2.1))::((AV.int .i64 (au 8 (cM () code i h).2.2))::[]))))::((Ob.arr (Ty.pair Ty.str Ty.str) 0 false (cM () code i h).1.2.2.2.2.2.2.2.2.2.1)::[]))
abbrev uW (code: List Int) (i h: Int):=((AV.str (cM () code i h).1.2.2.2.2.2.2.2.1)::((AV.bool (cM () code i h).1.2.2.2.2.2.2.2.2.1)::((AV.ref 1 0)::((AV.str (cM () code i h).1.2.2.2.2.2.2.2.2.2.2)::[]))))
def Tj (code: List Int) (i h: Int): Br:=(.ite ((okC code i)&&true) (.ite (okC code (cM () code i h).2.1) (.ite (decide ((aT 8 code (cM () code i h).2.1 (cM () code i h).2.2)=0)) (.ret (AV.agg ((AV.str (cM () code i h).1.2.2.2.2.1)::((AV.str (cM () code i h).1.2.2.2.2.2.1)::((AV.int .i64 206)::(uW code i h))))) (uV code i h)) (.ite (decide ((aT 8 code (cM () code i h).2.1 (cM () code i h).2.2)=1)) (.ret (AV.agg [.str (cM () code i h).1.2.2.2.2.1,.str (cM () code i h).1.2.2.2.2.2.1,.int .i64 304,.str (cM () code i h).1.2.2.2.2.2.2.2.1,.bool true,.ref 1 0,.str ([]: aa)]) (uV code i h)) (.ite (decide ((aT 8 code (cM () code i h).2.1 (cM () code i h).2.2)=2)) (.ite ((okC code (an 8 code (cM () code i h).2.1))&&true) (.ite (decide ((((List.length (cM () code i h).1.2.2.2.2.2.2.2.2.2.1) + (List.length (Eg code i h))) * 32)≤140737488355328)) (.ret (AV.agg ((AV.str (cM () code i h).1.2.2.2.2.1)::((AV.str (cM () code i h).1.2.2.2.2.2.1)::((AV.int .i64 (cM () code i h).1.2.2.2.2.2.2.1)::(uW code i h))))) [.var [.sh (Ty.int .u8) code,.int .i64 (an 4 code (an 8 code (cM () code i h).2.1)),.int .i64 (au 4 (au 8 (cM () code i h).2.2))],.arr (Ty.pair Ty.str Ty.str) 0 false ((cM () code i h).1.2.2.2.2.2.2.2.2.2.1++(Eg code i h))]) .fail) .fail) (.ret (AV.agg ((AV.str (cM () code i h).1.2.2.2.2.1)::((AV.str (cM () code i h).1.2.2.2.2.2.1)::((AV.int .i64 (cM () code i h).1.2.2.2.2.2.2.1)::(uW code i h))))) (uV code i h))))) .fail) .fail)
def agl: List AV→List Ob→Br
 | [.ptr 0 0],[.var [.sh (.int .u8) code, .int .i64 i, .int .i64 h]]=>Tj code i h
 | _,_=> .fail
def Tk: SC:=[⟨150,_,Ef⟩,⟨98,_,kK⟩,⟨71,_,ci⟩,⟨147,_,wZ⟩,⟨115,_,gh⟩]
abbrev gq (code: List Int) (i h: Int):=((AV.ref 1 0)::((AV.str (cM () code i h).1.2.2.2.2.1)::((AV.str (cM () code i h).1.2.2.2.2.2.1)::((AV.int .i64 (cM () code i h).1.2.2.2.2.2.2.1)::((AV.str (cM () code i h).1.2.2.2.2.2.2.2.1)::((AV.bool (cM () code i h).1.2.2.2.2.2.2.2.2.1)::((AV.ref 2 0)::((AV.str (cM () code i h).1.2.2.2.2.2.2.2.2.2.2)::[]))))))))
abbrev fq (code: List Int) (i h: Int):=((Ob.arr (Ty.pair Ty.str Ty.str) 0 false (cM () code i h).1.2.2.2.1)::((Ob.arr (Ty.pair Ty.str Ty.str) 0 false (cM () code i h).1.2.2.2.2.2.2.2.2.2.1)::[]))
abbrev gr (code: List Int) (i h: Int):=(List.set (List.set (List.set (List.replicate 3 (0 : Int)) 0 (ai ((cM () code i h).1.2.2.1 + 1))) 1 (cM () code i h).1.2.2.1) 2 (-1))
abbrev bO (code: List Int) (i h: Int):=(an 6 code (an 6 code (cM () code i h).2.1))
abbrev gt (code: List Int) (i h: Int):=(aT 6 code (an 6 code (cM () code i h).2.1) (au 6 (cM () code i h).2.2))
abbrev cI (code: List Int) (i h: Int):=(au 6 (au 6 (cM () code i h).2.2))
def i7 (code: List Int) (i h: Int): Br:=(.ite ((okC code i)&&true) (.ite (okC code (cM () code i h).2.1) (.ite (!(decide ((aT 6 code (cM () code i h).2.1 (cM () code i h).2.2)=0))) (.ret (AV.agg ((AV.str (cM () code i h).1.1)::((AV.int .i64 (cM () code i h).1.2.1)::((AV.int .i64 (cM () code i h).1.2.2.1)::(gq code i h))))) ((Ob.var [.sh (Ty.int .u8) code,.int .i64 (an 6 code (cM () code i h).2.1),.int .i64 (au 6 (cM () code i h).2.2)])::(fq code i h))) (.ite (okC code (an 6 code (cM () code i h).2.1)) (.ite (decide ((gt code i h)=0)) (.ite ((okC code (bO code i h))&&(decide ((List.length (cM () code i h).1.1)≤1000000))) (.ret (AV.agg ((AV.str (oE (cM () code i h).1.1 code (bO code i h) (cI code i h)).1)::((AV.int .i64 (cM () code i h).1.2.1)::((AV.int .i64 (cM () code i h).1.2.2.1)::(gq code i h))))) ((Ob.var [.sh (Ty.int .u8) code,.int .i64 (oE (cM () code i h).1.1 code (bO code i h) (cI code i h)).2.1,.int .i64 (oE (cM () code i h).1.1 code (bO code i h) (cI code i h)).2.2])::(fq code i h))) .fail) (.ite (decide ((gt code i h)=1)) (.ite ((okC code (bO code i h))&&(decide (0 < (List.length (gr code i h))))) (.ret (AV.agg ((AV.str (cM () code i h).1.1)::((AV.int .i64 (List.getD (gr code i h) (Int.toNat (aT ((List.length (gr code i h)): Int) code (bO code i h) (cI code i h))) 0))::((AV.int .i64 (cM () code i h).1.2.2.1)::(gq code i h))))) ((Ob.var [.sh (Ty.int .u8) code,.int .i64 (an ((List.length (gr code i h)): Int) code (bO code i h)),.int .i64 (au ((List.length (gr code i h)): Int) (cI code i h))])::(fq code i h))) .fail) (.ite (decide ((gt code i h)=2)) (.ite ((okC code (bO code i h))&&true) (.ret (AV.agg ((AV.str (cM () code i h).1.1)::((AV.int .i64 (cM () code i h).1.2.1)::((AV.int .i64 (List.getD (List.set (List.set (List.replicate 2 (0 : Int)) 0 253402300799) 1 253402300800) (Int.toNat (aT 2 code (bO code i h) (cI code i h))) 0))::(gq code i h))))) ((Ob.var [.sh (Ty.int .u8) code,.int .i64 (an 2 code (bO code i h)),.int .i64 (au 2 (cI code i h))])::(fq code i h))) .fail) (.ite (decide ((gt code i h)=3)) (.ite (decide ((((List.length (cM () code i h).1.2.2.2.1) + 1) * 32)≤140737488355328)) (.ret (AV.agg ((AV.str (cM () code i h).1.1)::((AV.int .i64 (cM () code i h).1.2.1)::((AV.int .i64 (cM () code i h).1.2.2.1)::(gq code i h))))) [.var [.sh (Ty.int .u8) code,.int .i64 (bO code i h),.int .i64 (cI code i h)],.arr (Ty.pair Ty.str Ty.str) 0 false ((cM () code i h).1.2.2.2.1++(List.set (List.replicate 1 (([]: aa),([]: aa))) 0 (([]: aa),([]: aa)))),.arr (Ty.pair Ty.str Ty.str) 0 false (cM () code i h).1.2.2.2.2.2.2.2.2.2.1]) .fail) (.ite (decide ((gt code i h)=4)) (.ret (AV.agg [.str (cM () code i h).1.1,.int .i64 (cM () code i h).1.2.1,.int .i64 (cM () code i h).1.2.2.1,.ref 1 0,.str (cM () code i h).1.2.2.2.2.1,.str (cM () code i h).1.2.2.2.2.2.1,.int .i64 (cM () code i h).1.2.2.2.2.2.2.1,.str (cM () code i h).1.2.2.2.2.2.2.2.1,.bool true,.ref 2 0,.str ([]: aa)]) ((Ob.var [.sh (Ty.int .u8) code,.int .i64 (bO code i h),.int .i64 (cI code i h)])::(fq code i h))) (.ite ((okC code (bO code i h))&&true) (.ret (AV.agg [.str (cM () code i h).1.1,.int .i64 (cM () code i h).1.2.1,.int .i64 (cM () code i h).1.2.2.1,.ref 1 0,.str (cM () code i h).1.2.2.2.2.1,.str (cM () code i h).1.2.2.2.2.2.1,.int .i64 (List.getD (List.set (List.set (List.set (List.replicate 3 (0 : Int)) 0 0) 1 204) 2 600) (Int.toNat (aT 3 code (bO code i h) (cI code i h))) 0),.str (cM () code i h).1.2.2.2.2.2.2.2.1,.bool (cM () code i h).1.2.2.2.2.2.2.2.2.1,.ref 2 0,.str (cM () code i h).1.2.2.2.2.2.2.2.2.2.2]) ((Ob.var [.sh (Ty.int .u8) code,.int .i64 (an 3 code (bO code i h)),.int .i64 (au 3 (cI code i h))])::(fq code i h))) .fail)))))) .fail)) .fail) .fail)
def Eh: List AV→List Ob→Br
 | [.ptr 0 0],[.var [.sh (.int .u8) code, .int .i64 i, .int .i64 h]]=>i7 code i h
 | _,_=> .fail
theorem NO: Sound Kx 79 Eh:=ah (C:=Tk) (O:=O0) Tryz.func79 (by kernel_rfl) fun args objs=>by
 unfold Eh;split
 · exact .inr (by kernel_rfl)
 · exact .inl rfl
def zP: Opt:={ live:=[(8,[2,3,4]),(26,[0,2,3,5])],outs:=[(8,[2,3]),(26,[2,3])] }
def l6bent_C: SC:=[⟨170,_,Ti⟩,⟨98,_,kK⟩,⟨71,_,ci⟩,⟨147,_,wZ⟩,⟨115,_,gh⟩,⟨72,_,yq⟩]
def Ei (jR: Int) (j9: (List Int)) (il j_: Int) (ka kb: aa) (kd: Int) (je: aa) (jS: Bool) (kf: aa) (dK: (List Fd)) (dL dM: aa) (fA: Int) (fB: aa) (fC: Bool) (fD: aa) (eM: (List Fd)) (kR8: Int→(List Int)→Int→Int→aa→aa→Int→aa→Bool→aa→(List Fd)→aa→aa→Int→aa→Bool→aa→(List Fd)→OR') (Lr: (List Int)→Int→Int→aa→aa→Int→aa→Bool→aa→(List Fd)→aa→aa→Int→aa→Bool→aa→(List Fd)→OR'): OR':=
 (bif (decide ((eM.length: Int) < jR)) then (bif (decide (((eM.length + 1) * 32)≤140737488355328)) then (kR8 jR j9 il j_ ka kb kd je jS kf dK dL dM fA fB fC fD (eM++(List.set (List.replicate 1 (([]: aa),([]: aa))) 0 (([112]: aa),([113]: aa))))) else none) else (Lr j9 il j_ ka kb kd je jS kf dK dL dM fA fB fC fD eM))
def kE: Nat→Int→(List Int)→Int→Int→aa→aa→Int→aa→Bool→aa→(List Fd)→aa→aa→Int→aa→Bool→aa→(List Fd)→((List Int)→Int→Int→aa→aa→Int→aa→Bool→aa→(List Fd)→aa→aa→Int→aa→Bool→aa→(List Fd)→OR')→OR'
 | 0,_,_,_,_,_,_,_,_,_,_,_,_,_,_,_,_,_,_,_=>none
 | n + 1,jR,j9,il,j_,ka,kb,kd,je,jS,kf,dK,dL,dM,fA,fB,fC,fD,eM,Lr=>Ei jR j9 il j_ ka kb kd je jS kf dK dL dM fA fB fC fD eM (fun jR j9 il j_ ka kb kd je jS kf dK dL dM fA fB fC fD eM=>kE n jR j9 il j_ ka kb kd je jS kf dK dL dM fA fB fC fD eM Lr) Lr
abbrev l6bent_p8: SP:=⟨105,[2,3,4],[(.v (.ptr 192 0)),(.v (.ptr 256 0)),(.v (.i .i64))],[(0, .var [(.sh (Ty.int .u8)),(.i .i64),(.i .i64)]),(192, .var [.s, .s,(.i .i64), .s, .b,(.ref 198 0), .s]),(198, .arr (Ty.pair Ty.str Ty.str) 0 false),(256, .var [.s, .s,(.i .i64), .s, .b,(.ref 262 0), .s]),(262, .arr (Ty.pair Ty.str Ty.str) 0 false)]⟩
noncomputable def Ej: Code:=aD (aG Tryz.f99) [1,1,1,0,1,0,1,0,1,0,0]
def Ek (f: ((List Int)→Int→Int→aa→aa→Int→aa→Bool→aa→(List Fd)→aa→aa→Int→aa→Bool→aa→(List Fd)→OR')→OR') (k: KT): OR':=f (fun lN n7 n8 qR qS qT qU n9 n_ qV iu iw iy pD pE pF pG=>k (Ex.exit 1) ((St.mk (aH 0 105 [(2,(AV.ptr 192 0)),(3,(AV.ptr 256 0))]) ((0,(Ob.var [.sh (Ty.int .u8) lN,.int .i64 n7,.int .i64 n8]))::((192,(Ob.var [.str qR,.str qS,.int .i64 qT,.str qU,.bool n9,.ref 198 0,.str n_]))::((198,(Ob.arr (Ty.pair Ty.str Ty.str) 0 false qV))::((256,(Ob.var [.str iu,.str iw,.int .i64 iy,.str pD,.bool pE,.ref 262 0,.str pF]))::((262,(Ob.arr (Ty.pair Ty.str Ty.str) 0 false pG))::([]: (List (Nat×(Ob))))))))))))
def El (n: Nat) (d: l6bent_p8.D): KT→OR':=Ek (kE n d.1.2.2.1 d.2.1.1 d.2.1.2.1 d.2.1.2.2.1 d.2.2.1.1 d.2.2.1.2.1 d.2.2.1.2.2.1 d.2.2.1.2.2.2.1 d.2.2.1.2.2.2.2.1 d.2.2.1.2.2.2.2.2.2.1 d.2.2.2.1 d.2.2.2.2.1.1 d.2.2.2.2.1.2.1 d.2.2.2.2.1.2.2.1 d.2.2.2.2.1.2.2.2.1 d.2.2.2.2.1.2.2.2.2.1 d.2.2.2.2.1.2.2.2.2.2.2.1 d.2.2.2.2.2.1)
def gu (pH: Int) (cH: (List Int)) (gY jP: Int) (mQ mR: aa) (mS: Int) (mT: aa) (mU: Bool) (mV: aa) (gM: (List Fd)) (gO gP: aa) (gQ: Int) (gR: aa) (gS: Bool) (gT: aa) (gU: (List Fd)) (aik: Int→(List Int)→Int→Int→aa→aa→Int→aa→Bool→aa→(List Fd)→aa→aa→Int→aa→Bool→aa→(List Fd)→OR') (YG: (List Int)→Int→Int→aa→aa→Int→aa→Bool→aa→(List Fd)→aa→aa→Int→aa→Bool→aa→(List Fd)→OR'): OR':=
 (bif (decide (pH < 7)) then (bif (okC cH gY) then (bif (((okC cH (an 9 cH gY))&&(decide ((ai (180 + (aT 9 cH gY jP)))≤1000000)))&&true) then (bif (decide (((gU.length + (List.length (List.set (List.replicate 1 (([]: aa),([]: aa))) 0 (([110]: aa),(ofS (ai (180 + (aT 9 cH gY jP))) ([118]: aa) cH (an 9 cH gY) (au 9 jP)))))) * 32)≤140737488355328)) then (aik (ai (pH + 1)) cH (ofI (ai (180 + (aT 9 cH gY jP))) ([118]: aa) cH (an 9 cH gY) (au 9 jP)) (ofH (ai (180 + (aT 9 cH gY jP))) ([118]: aa) cH (an 9 cH gY) (au 9 jP)) mQ mR mS mT mU mV gM gO gP gQ gR gS gT (gU++(List.set (List.replicate 1 (([]: aa),([]: aa))) 0 (([110]: aa),(ofS (ai (180 + (aT 9 cH gY jP))) ([118]: aa) cH (an 9 cH gY) (au 9 jP)))))) else none) else none) else none) else (YG cH gY jP mQ mR mS mT mU mV gM gO gP gQ gR gS gT gU))
def i8: Nat→Int→(List Int)→Int→Int→aa→aa→Int→aa→Bool→aa→(List Fd)→aa→aa→Int→aa→Bool→aa→(List Fd)→((List Int)→Int→Int→aa→aa→Int→aa→Bool→aa→(List Fd)→aa→aa→Int→aa→Bool→aa→(List Fd)→OR')→OR'
 | 0,_,_,_,_,_,_,_,_,_,_,_,_,_,_,_,_,_,_,_=>none
 | n + 1,pH,cH,gY,jP,mQ,mR,mS,mT,mU,mV,gM,gO,gP,gQ,gR,gS,gT,gU,YG=>gu pH cH gY jP mQ mR mS mT mU mV gM gO gP gQ gR gS gT gU (fun pH cH gY jP mQ mR mS mT mU mV gM gO gP gQ gR gS gT gU=>i8 n pH cH gY jP mQ mR mS mT mU mV gM gO gP gQ gR gS gT gU YG) YG
abbrev l6bent_p26: SP:=⟨105,[0,2,3,5],[(.v (.ptr 0 0)),(.v (.ptr 192 0)),(.v (.ptr 256 0)),(.v (.i .i64))],[(0, .var [(.sh (Ty.int .u8)),(.i .i64),(.i .i64)]),(192, .var [.s, .s,(.i .i64), .s, .b,(.ref 198 0), .s]),(198, .arr (Ty.pair Ty.str Ty.str) 0 false),(256, .var [.s, .s,(.i .i64), .s, .b,(.ref 262 0), .s]),(262, .arr (Ty.pair Ty.str Ty.str) 0 false)]⟩
noncomputable def xQ: Code:=aD (aG Tryz.f99) [1,1,1,0,1,0,1,1,1,1,1,1,1,1,1,1,1,1,1,1,1,1,1,0,1,0,0]
def xR (f: ((List Int)→Int→Int→aa→aa→Int→aa→Bool→aa→(List Fd)→aa→aa→Int→aa→Bool→aa→(List Fd)→OR')→OR') (k: KT): OR':=f (fun Hu Hv Hw U0 U1 U2 U3 U4 U5 U6 Ag Ah Ai Aj Ak Al Am=>k (Ex.exit 3) ((St.mk (aH 0 105 [(2,(AV.ptr 192 0)),(3,(AV.ptr 256 0))]) ((0,(Ob.var [.sh (Ty.int .u8) Hu,.int .i64 Hv,.int .i64 Hw]))::((192,(Ob.var [.str U0,.str U1,.int .i64 U2,.str U3,.bool U4,.ref 198 0,.str U5]))::((198,(Ob.arr (Ty.pair Ty.str Ty.str) 0 false U6))::((256,(Ob.var [.str Ag,.str Ah,.int .i64 Ai,.str Aj,.bool Ak,.ref 262 0,.str Al]))::((262,(Ob.arr (Ty.pair Ty.str Ty.str) 0 false Am))::([]: (List (Nat×(Ob))))))))))))
def xS (n: Nat) (d: l6bent_p26.D): KT→OR':=xR (i8 n d.1.2.2.2.1 d.2.1.1 d.2.1.2.1 d.2.1.2.2.1 d.2.2.1.1 d.2.2.1.2.1 d.2.2.1.2.2.1 d.2.2.1.2.2.2.1 d.2.2.1.2.2.2.2.1 d.2.2.1.2.2.2.2.2.2.1 d.2.2.2.1 d.2.2.2.2.1.1 d.2.2.2.2.1.2.1 d.2.2.2.2.1.2.2.1 d.2.2.2.2.1.2.2.2.1 d.2.2.2.2.1.2.2.2.2.1 d.2.2.2.2.1.2.2.2.2.2.2.1 d.2.2.2.2.2.1)
def zQ (N: Nat): Lam:=bw [⟨8,l6bent_p8,El N⟩,⟨26,l6bent_p26,xS N⟩]
theorem NP (N: Nat): OkL Kx l6bent_C.s zP 1 N (zQ N) Ej:=okL l6bent_p8 (El) (fun d kR=>Ek (Ei d.1.2.2.1 d.2.1.1 d.2.1.2.1 d.2.1.2.2.1 d.2.2.1.1 d.2.2.1.2.1 d.2.2.1.2.2.1 d.2.2.1.2.2.2.1 d.2.2.1.2.2.2.2.1 d.2.2.1.2.2.2.2.2.2.1 d.2.2.2.1 d.2.2.2.2.1.1 d.2.2.2.2.1.2.1 d.2.2.2.2.1.2.2.1 d.2.2.2.2.1.2.2.2.1 d.2.2.2.2.1.2.2.2.2.1 d.2.2.2.2.1.2.2.2.2.2.2.1 d.2.2.2.2.2.1 (fun jR j9 il j_ ka kb kd je jS kf dK dL dM fA fB fC fD eM=>kR (((),(),jR,()),((j9,il,j_,()),(ka,kb,kd,je,jS,(),kf,()),dK,(dL,dM,fA,fB,fC,(),fD,()),eM,()))))) (fun _ _=>by kernel_rfl) (fun _ _ _=>by kernel_rfl) (fun _ _=>by kernel_rfl) (fun _ _ _ _=>by kernel_rfl) (am (l':=[]) (by kernel_rfl) trivial)
theorem GU (N: Nat): OkL Kx l6bent_C.s zP 1 N (zQ N) xQ:=okL l6bent_p26 (xS) (fun d kR=>xR (gu d.1.2.2.2.1 d.2.1.1 d.2.1.2.1 d.2.1.2.2.1 d.2.2.1.1 d.2.2.1.2.1 d.2.2.1.2.2.1 d.2.2.1.2.2.2.1 d.2.2.1.2.2.2.2.1 d.2.2.1.2.2.2.2.2.2.1 d.2.2.2.1 d.2.2.2.2.1.1 d.2.2.2.2.1.2.1 d.2.2.2.2.1.2.2.1 d.2.2.2.2.1.2.2.2.1 d.2.2.2.2.1.2.2.2.2.1 d.2.2.2.2.1.2.2.2.2.2.2.1 d.2.2.2.2.2.1 (fun pH cH gY jP mQ mR mS mT mU mV gM gO gP gQ gR gS gT gU=>kR (((),(),(),pH,()),((cH,gY,jP,()),(mQ,mR,mS,mT,mU,(),mV,()),gM,(gO,gP,gQ,gR,gS,(),gT,()),gU,()))))) (fun _ _=>by kernel_rfl) (fun _ _ _=>by kernel_rfl) (fun _ _=>by kernel_rfl) (fun _ _ _ _=>by kernel_rfl) (am (l':=[]) (by kernel_rfl) trivial)
abbrev aN (code h i):=(an 10 code (an 4 code (cx () code i h).2.1))
abbrev cy (code h i):=(aT 2 code (aN code h i) (au 10 (au 4 (cx () code i h).2.2)))
abbrev ef (code h i):=(aT 10 code (an 4 code (cx () code i h).2.1) (au 4 (cx () code i h).2.2))
abbrev bm (code h i):=(au 10 (au 4 (cx () code i h).2.2))
def gv (N: Nat) (code: List Int) (i h: Int): OR':=(bif ((okC code i)&&true) then (bif (okC code (cx () code i h).2.1) then (bif (!(decide ((aT 4 code (cx () code i h).2.1 (cx () code i h).2.2)=0))) then (some ((AV.agg [.str (cx () code i h).1.1,.str (cx () code i h).1.2.1,.int .i64 (cx () code i h).1.2.2.1,.str (cx () code i h).1.2.2.2.1,.bool (cx () code i h).1.2.2.2.2.1,.ref 1 0,.str (cx () code i h).1.2.2.2.2.2.2]),[.var [.sh (Ty.int .u8) code,.int .i64 (an 4 code (cx () code i h).2.1),.int .i64 (au 4 (cx () code i h).2.2)],.arr (Ty.pair Ty.str Ty.str) 0 false (cx () code i h).1.2.2.2.2.2.1])) else (bif (okC code (an 4 code (cx () code i h).2.1)) then (bif (decide ((ef code h i)=8)) then (bif (okC code (aN code h i)) then (kE N (ai (20 - (cy code h i))) code (an 2 code (aN code h i)) (au 2 (bm code h i)) ([]: aa) ([]: aa) 0 ([]: aa) false ([]: aa) ([]: (List Fd)) (cx () code i h).1.1 (cx () code i h).1.2.1 (cx () code i h).1.2.2.1 (cx () code i h).1.2.2.2.1 (cx () code i h).1.2.2.2.2.1 (cx () code i h).1.2.2.2.2.2.2 (cx () code i h).1.2.2.2.2.2.1 (fun lN n7 n8 qR qS qT qU n9 n_ qV iu iw iy pD pE pF pG=>(some ((AV.agg [.str iu,.str iw,.int .i64 iy,.str pD,.bool pE,.ref 1 0,.str pF]),[.var [.sh (Ty.int .u8) lN,.int .i64 n7,.int .i64 n8],.arr (Ty.pair Ty.str Ty.str) 0 false pG])))) else none) else (bif (decide ((ef code h i)=0)) then (bif ((okC code (aN code h i))&&(decide ((List.length (cx () code i h).1.1)≤1000000))) then (some ((AV.agg [.str (oE (cx () code i h).1.1 code (aN code h i) (bm code h i)).1,.str (cx () code i h).1.2.1,.int .i64 (cx () code i h).1.2.2.1,.str (cx () code i h).1.2.2.2.1,.bool (cx () code i h).1.2.2.2.2.1,.ref 1 0,.str (cx () code i h).1.2.2.2.2.2.2]),[.var [.sh (Ty.int .u8) code,.int .i64 (oE (cx () code i h).1.1 code (aN code h i) (bm code h i)).2.1,.int .i64 (oE (cx () code i h).1.1 code (aN code h i) (bm code h i)).2.2],.arr (Ty.pair Ty.str Ty.str) 0 false (cx () code i h).1.2.2.2.2.2.1])) else none) else (bif (decide ((ef code h i)=1)) then (bif ((okC code (aN code h i))&&(decide ((List.length (cx () code i h).1.2.1)≤1000000))) then (some ((AV.agg [.str (cx () code i h).1.1,.str (oE (cx () code i h).1.2.1 code (aN code h i) (bm code h i)).1,.int .i64 (cx () code i h).1.2.2.1,.str (cx () code i h).1.2.2.2.1,.bool (cx () code i h).1.2.2.2.2.1,.ref 1 0,.str (cx () code i h).1.2.2.2.2.2.2]),[.var [.sh (Ty.int .u8) code,.int .i64 (oE (cx () code i h).1.2.1 code (aN code h i) (bm code h i)).2.1,.int .i64 (oE (cx () code i h).1.2.1 code (aN code h i) (bm code h i)).2.2],.arr (Ty.pair Ty.str Ty.str) 0 false (cx () code i h).1.2.2.2.2.2.1])) else none) else (bif (decide ((ef code h i)=2)) then (bif ((okC code (aN code h i))&&true) then (some ((AV.agg [.str (cx () code i h).1.1,.str (cx () code i h).1.2.1,.int .i64 (List.getD (List.set (List.set (List.set (List.set (List.set (List.set (List.replicate 6 (0 : Int)) 0 0) 1 199) 2 200) 3 600) 4 304) 5 204) (Int.toNat (aT 6 code (aN code h i) (bm code h i))) 0),.str (cx () code i h).1.2.2.2.1,.bool (cx () code i h).1.2.2.2.2.1,.ref 1 0,.str (cx () code i h).1.2.2.2.2.2.2]),[.var [.sh (Ty.int .u8) code,.int .i64 (an 6 code (aN code h i)),.int .i64 (au 6 (bm code h i))],.arr (Ty.pair Ty.str Ty.str) 0 false (cx () code i h).1.2.2.2.2.2.1])) else none) else (bif (decide ((ef code h i)=3)) then (bif (okC code (aN code h i)) then (bif (((okC code (an 2 code (aN code h i)))&&(decide ((ai (40 + (cy code h i)))≤1000000)))&&true) then (some ((AV.agg [.str (cx () code i h).1.1,.str (cx () code i h).1.2.1,.int .i64 (cx () code i h).1.2.2.1,.str (ofS (ai (40 + (cy code h i))) ([114,32]: aa) code (an 2 code (aN code h i)) (au 2 (bm code h i))),.bool (cx () code i h).1.2.2.2.2.1,.ref 1 0,.str (cx () code i h).1.2.2.2.2.2.2]),[.var [.sh (Ty.int .u8) code,.int .i64 (ofI (ai (40 + (cy code h i))) ([114,32]: aa) code (an 2 code (aN code h i)) (au 2 (bm code h i))),.int .i64 (ofH (ai (40 + (cy code h i))) ([114,32]: aa) code (an 2 code (aN code h i)) (au 2 (bm code h i)))],.arr (Ty.pair Ty.str Ty.str) 0 false (cx () code i h).1.2.2.2.2.2.1])) else none) else none) else (bif (decide ((ef code h i)=4)) then (some ((AV.agg [.str (cx () code i h).1.1,.str (cx () code i h).1.2.1,.int .i64 (cx () code i h).1.2.2.1,.str (cx () code i h).1.2.2.2.1,.bool (!(cx () code i h).1.2.2.2.2.1),.ref 1 0,.str (cx () code i h).1.2.2.2.2.2.2]),[.var [.sh (Ty.int .u8) code,.int .i64 (aN code h i),.int .i64 (bm code h i)],.arr (Ty.pair Ty.str Ty.str) 0 false (cx () code i h).1.2.2.2.2.2.1])) else (bif (decide ((ef code h i)=5)) then (bif (okC code (aN code h i)) then (bif (((okC code (an 2 code (aN code h i)))&&(decide ((ai (600 + (cy code h i)))≤1000000)))&&true) then (some ((AV.agg [.str (cx () code i h).1.1,.str (cx () code i h).1.2.1,.int .i64 (cx () code i h).1.2.2.1,.str (cx () code i h).1.2.2.2.1,.bool (cx () code i h).1.2.2.2.2.1,.ref 1 0,.str (ofS (ai (600 + (cy code h i))) ([98,66]: aa) code (an 2 code (aN code h i)) (au 2 (bm code h i)))]),[.var [.sh (Ty.int .u8) code,.int .i64 (ofI (ai (600 + (cy code h i))) ([98,66]: aa) code (an 2 code (aN code h i)) (au 2 (bm code h i))),.int .i64 (ofH (ai (600 + (cy code h i))) ([98,66]: aa) code (an 2 code (aN code h i)) (au 2 (bm code h i)))],.arr (Ty.pair Ty.str Ty.str) 0 false (cx () code i h).1.2.2.2.2.2.1])) else none) else none) else (bif (decide ((ef code h i)=6)) then (bif (decide ((((List.length (cx () code i h).1.2.2.2.2.2.1) + 1) * 32)≤140737488355328)) then (some ((AV.agg [.str (cx () code i h).1.1,.str (cx () code i h).1.2.1,.int .i64 (cx () code i h).1.2.2.1,.str (cx () code i h).1.2.2.2.1,.bool (cx () code i h).1.2.2.2.2.1,.ref 1 0,.str (cx () code i h).1.2.2.2.2.2.2]),[.var [.sh (Ty.int .u8) code,.int .i64 (aN code h i),.int .i64 (bm code h i)],.arr (Ty.pair Ty.str Ty.str) 0 false ((cx () code i h).1.2.2.2.2.2.1++(List.set (List.replicate 1 (([]: aa),([]: aa))) 0 (([67,111,110,116,101,110,116,45,108,101,110,103,116,104]: aa),([51]: aa))))])) else none) else (bif (decide ((ef code h i)=7)) then (i8 N 0 code (aN code h i) (bm code h i) ([]: aa) ([]: aa) 0 ([]: aa) false ([]: aa) ([]: (List Fd)) (cx () code i h).1.1 (cx () code i h).1.2.1 (cx () code i h).1.2.2.1 (cx () code i h).1.2.2.2.1 (cx () code i h).1.2.2.2.2.1 (cx () code i h).1.2.2.2.2.2.2 (cx () code i h).1.2.2.2.2.2.1 (fun Hu Hv Hw U0 U1 U2 U3 U4 U5 U6 Ag Ah Ai Aj Ak Al Am=>(some ((AV.agg [.str Ag,.str Ah,.int .i64 Ai,.str Aj,.bool Ak,.ref 1 0,.str Al]),[.var [.sh (Ty.int .u8) Hu,.int .i64 Hv,.int .i64 Hw],.arr (Ty.pair Ty.str Ty.str) 0 false Am])))) else (bif (okC code (aN code h i)) then (bif (((okC code (an 2 code (aN code h i)))&&(decide ((ai (193 + (cy code h i)))≤1000000)))&&true) then (bif (decide ((7 + (List.length (ofS (ai (193 + (cy code h i))) ([116]: aa) code (an 2 code (aN code h i)) (au 2 (bm code h i)))))≤9223372036854775807)) then (some ((AV.agg [.str (cx () code i h).1.1,.str (([104,116,116,112,58,47,47]: aa)++(ofS (ai (193 + (cy code h i))) ([116]: aa) code (an 2 code (aN code h i)) (au 2 (bm code h i)))),.int .i64 (cx () code i h).1.2.2.1,.str (cx () code i h).1.2.2.2.1,.bool (cx () code i h).1.2.2.2.2.1,.ref 1 0,.str (cx () code i h).1.2.2.2.2.2.2]),[.var [.sh (Ty.int .u8) code,.int .i64 (ofI (ai (193 + (cy code h i))) ([116]: aa) code (an 2 code (aN code h i)) (au 2 (bm code h i))),.int .i64 (ofH (ai (193 + (cy code h i))) ([116]: aa) code (an 2 code (aN code h i)) (au 2 (bm code h i)))],.arr (Ty.pair Ty.str Ty.str) 0 false (cx () code i h).1.2.2.2.2.2.1])) else none) else none) else none)))))))))) else none)) else none) else none)
def xT (φ: (List Int)→Int→Int→Br): List AV→List Ob→Br
 | [.ptr 0 0],[.var [.sh (.int .u8) code, .int .i64 i, .int .i64 h]]=>φ code i h
 | _,_=> .fail
theorem GV {φ: (List Int)→Int→Int→Br} (fu: (List Int)→Int→Int→Nat) (hv: ∀ code i h res_,(φ code i h).val=some res_→gv (fu code i h) code i h=some res_): Sound Kx 99 (xT φ):=ar (C:=l6bent_C) (O:=zP) Tryz.func99 (by kernel_rfl) fun args objs=>by
 unfold xT;split
 · rename_i code i h;exact .inr fun _ hyp_=>aS (Λ:=zQ (fu code i h)) (by kernel_rfl) (am (l':=[Ej,xQ]) (by kernel_rfl) ⟨NP _,GU _,trivial⟩) (by kernel_rfl) (hv code i h _ hyp_)
 · exact .inl rfl
end
end Go.Proofs.YtgknmoadpgpdeaaGreatDoor.Ev
