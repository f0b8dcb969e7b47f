/- The texts Ext1, La, Lb, Lc, Ld, Le, Lf, Lg, Lh, Li, Lj, Lk, Ll, Lm, Ln, Na, Nb, Nc, Nd, Ua, Tk, one behind the other. -/
import Derived.Test.YtgknmoadpgpdeaaGreatDoorK13
import Derived.Lib.Bytealg
namespace Go.Proofs.YtgknmoadpgpdeaaGreatDoor.Ev
open Go Go.RowKit
set_option linter.unusedVariables false
set_option linter.unusedSimpArgs false
def v_ (s: List UInt8) (c: Int): Int:=Go.Lib.indexByte s c.toNat.toUInt8
def abo (s: List UInt8) (c: Int): Br:= .ret (.int .i64 (v_ s c)) []
def ZG: List AV→List Ob→Br
 | [.str s, .int .u8 c],[]=>abo s c
 | _,_=> .fail
theorem abp: Sound Kx 291 ZG:=by
 intro args objs res objs' hv w L vs hR ho hr
 unfold ZG at hv
 split at hv
 · rename_i s c
   cases hv
   simp only [aU,rel] at hr
   obtain ⟨v1,cs1,rfl,rfl,v2,cs2,rfl,rfl,rfl⟩:=hr
   refine .inr ⟨.int .i64 (Go.Lib.indexByte s c.toNat.toUInt8),w,?_,L,hR,ho,?_,by simp [rel,v_]⟩
   · have:=run_callFunc_extern (P:=Kx.P) (f:=291) (e:=Extern.BytealgIndexByte.indexByte) Tryz.func291 (by kernel_rfl) (by kernel_rfl) (by kernel_rfl) (by kernel_rfl) #[.string ⟨s.toArray⟩, .int .u8 c] w
     refine this.trans ?_
     rw [Go.Lib.run_indexByteString]
     simp [Result.andThen,v_]
   · exact Kept.refl _ _
 · cases hv
end Go.Proofs.YtgknmoadpgpdeaaGreatDoor.Ev
namespace Go.Proofs.YtgknmoadpgpdeaaGreatDoor.Ev
open Go Go.RowKit
set_option linter.unusedVariables false
set_option linter.unusedSimpArgs false
noncomputable section
def NE (b: Int): Br:=(.ite (decide (97≤b)) (.ret (AV.bool (decide (b≤122))) []) (.ret (AV.bool false) []))
def CY: List AV→List Ob→Br
 | [.int .u8 b],[]=>NE b
 | _,_=> .fail
theorem NF: Sound Kx 293 CY:=ae (C:=[]) (O:=O0) Tryz.func293 (by kernel_rfl) fun args objs=>by
 unfold CY;split
 · exact .inr (by kernel_rfl)
 · exact .inl rfl
def NG (b: Int): Br:=(.ite (decide (65≤b)) (.ret (AV.bool (decide (b≤90))) []) (.ret (AV.bool false) []))
def CZ: List AV→List Ob→Br
 | [.int .u8 b],[]=>NG b
 | _,_=> .fail
theorem NH: Sound Kx 197 CZ:=ae (C:=[]) (O:=O0) Tryz.func197 (by kernel_rfl) fun args objs=>by
 unfold CZ;split
 · exact .inr (by kernel_rfl)
 · exact .inl rfl
def NI (b: Int): Br:=(.ite (decide (48≤b)) (.ret (AV.bool (decide (b≤57))) []) (.ret (AV.bool false) []))
def C0: List AV→List Ob→Br
 | [.int .u8 b],[]=>NI b
 | _,_=> .fail
theorem NJ: Sound Kx 244 C0:=ae (C:=[]) (O:=O0) Tryz.func244 (by kernel_rfl) fun args objs=>by
 unfold C0;split
 · exact .inr (by kernel_rfl)
 · exact .inl rfl
def NK (b: Int): Br:=(.ite (decide (b=32)) (.ret (AV.bool true) []) (.ret (AV.bool (decide (b=9))) []))
def C1: List AV→List Ob→Br
 | [.int .u8 b],[]=>NK b
 | _,_=> .fail
theorem NL: Sound Kx 236 C1:=ae (C:=[]) (O:=O0) Tryz.func236 (by kernel_rfl) fun args objs=>by
 unfold C1;split
 · exact .inr (by kernel_rfl)
 · exact .inl rfl
def pm (b: Int): Br:=(.ite (decide (b=9)) (.ret (AV.bool true) []) (.ite (decide (32≤b)) (.ret (AV.bool (!(decide (b=127)))) []) (.ret (AV.bool false) [])))
def C2: List AV→List Ob→Br
 | [.int .u8 b],[]=>pm b
 | _,_=> .fail
theorem NM: Sound Kx 221 C2:=ae (C:=[]) (O:=O0) Tryz.func221 (by kernel_rfl) fun args objs=>by
 unfold C2;split
 · exact .inr (by kernel_rfl)
 · exact .inl rfl
def C3 (b: Int): Br:=(.ite (decide (33≤b)) (.ret (AV.bool (decide (b≤126))) []) (.ret (AV.bool false) []))
def tL: List AV→List Ob→Br
 | [.int .u8 b],[]=>C3 b
 | _,_=> .fail
theorem C4: Sound Kx 230 tL:=ae (C:=[]) (O:=O0) Tryz.func230 (by kernel_rfl) fun args objs=>by
 unfold tL;split
 · exact .inr (by kernel_rfl)
 · exact .inl rfl
def NN: SC:=[⟨201,_,dx⟩]
def GO (n: Int): Br:=(.ite (decide (200≤n)) (.ret (AV.bool (decide (n≤599))) []) (.ret (AV.bool false) []))
def xc: List AV→List Ob→Br
 | [.int .i64 n],[]=>GO n
 | _,_=> .fail
theorem GP: Sound Kx 174 xc:=ae (C:=NN) (O:=O0) Tryz.func174 (by kernel_rfl) fun args objs=>by
 unfold xc;split
 · exact .inr (by kernel_rfl)
 · exact .inl rfl
def tM (n: Int): Br:=(.ite (decide (n=204)) (.ret (AV.bool true) []) (.ret (AV.bool (decide (n=304))) []))
def lj: List AV→List Ob→Br
 | [.int .i64 n],[]=>tM n
 | _,_=> .fail
theorem tN: Sound Kx 176 lj:=ae (C:=[]) (O:=O0) Tryz.func176 (by kernel_rfl) fun args objs=>by
 unfold lj;split
 · exact .inr (by kernel_rfl)
 · exact .inl rfl
def tO (b: Int): Br:=(.ite (decide (65≤b)) (.ite (decide (b≤90)) (.ret (AV.int .u8 (wk8 (b + 32))) []) (.ret (AV.int .u8 b) [])) (.ret (AV.int .u8 b) []))
def Kj: List AV→List Ob→Br
 | [.int .u8 b],[]=>tO b
 | _,_=> .fail
theorem slower_ok: Sound Kx 164 Kj:=ae (C:=[]) (O:=O0) Tryz.func164 (by kernel_rfl) fun args objs=>by
 unfold Kj;split
 · exact .inr (by kernel_rfl)
 · exact .inl rfl
def Q9 (b: Int): Br:=(.ite (decide (b=32)) (.ret (AV.bool true) []) (.ret (AV.bool (decide (b=9))) []))
def Kk: List AV→List Ob→Br
 | [.int .u8 b],[]=>Q9 b
 | _,_=> .fail
theorem Q_: Sound Kx 261 Kk:=ae (C:=[]) (O:=O0) Tryz.func261 (by kernel_rfl) fun args objs=>by
 unfold Kk;split
 · exact .inr (by kernel_rfl)
 · exact .inl rfl
def Ra (b: Int): Br:=(.ite (decide (48≤b)) (.ret (AV.bool (decide (b≤57))) []) (.ret (AV.bool false) []))
def Kl: List AV→List Ob→Br
 | [.int .u8 b],[]=>Ra b
 | _,_=> .fail
theorem Rb: Sound Kx 213 Kl:=ae (C:=[]) (O:=O0) Tryz.func213 (by kernel_rfl) fun args objs=>by
 unfold Kl;split
 · exact .inr (by kernel_rfl)
 · exact .inl rfl
def tP (b: Int): Br:=(.ite (decide (b=9)) (.ret (AV.bool true) []) (.ite (decide (32≤b)) (.ret (AV.bool (!(decide (b=127)))) []) (.ret (AV.bool false) [])))
def Km: List AV→List Ob→Br
 | [.int .u8 b],[]=>tP b
 | _,_=> .fail
theorem Rc: Sound Kx 241 Km:=ae (C:=[]) (O:=O0) Tryz.func241 (by kernel_rfl) fun args objs=>by
 unfold Km;split
 · exact .inr (by kernel_rfl)
 · exact .inl rfl
def WV (n: Int): Br:=(.ite (decide (n=204)) (.ret (AV.bool true) []) (.ret (AV.bool (decide (n=304))) []))
def Rd: List AV→List Ob→Br
 | [.int .i64 n],[]=>WV n
 | _,_=> .fail
theorem WW: Sound Kx 190 Rd:=ae (C:=[]) (O:=O0) Tryz.func190 (by kernel_rfl) fun args objs=>by
 unfold Rd;split
 · exact .inr (by kernel_rfl)
 · exact .inl rfl
def jy (n: Int): Bool:=decide (97≤n)&&decide (n≤122)
def C5 (n: Int): Bool:=decide (65≤n)&&decide (n≤90)
def aB (n: Int): Bool:=decide (48≤n)&&decide (n≤57)
def ZH (n: Int): Bool:=decide (n=32)||decide (n=9)
def jz (n: Int): Bool:=decide (n=9)||(decide (32≤n)&& !decide (n=127))
def cZ (n: Int): Bool:=decide (33≤n)&&decide (n≤126)
def fM (n: Int): Int:=bif C5 n then n + 32 else n
def tokSet: aa:=[33,35,36,37,38,39,42,43,45,46,94,95,124,126]
def nh (n: Int): Bool:=jy n||C5 n||aB n||decide (n=96)||tokSet.any fun c=>decide (by8 c=n)
def Kn (p: Int→Bool): List AV→List Ob→Br
 | [.int .u8 b],[]=> .ret (.bool (p b)) []
 | _,_=> .fail
theorem rH {n: Nat} {s: List AV→List Ob→Br} (hs: Sound Kx n s) {p: Int→Bool} (h: ∀ b,(s [.int .u8 b] []).val=some (.bool (p b),[])): Sound Kx n (Kn p):=hs.of fun args objs r hv=>by
 unfold Kn at hv
 split at hv
 · rw [h];exact hv
 · cases hv
def WX (p: Int→Bool): List AV→List Ob→Br
 | [.int .i64 b],[]=> .ret (.bool (p b)) []
 | _,_=> .fail
theorem GQ {n: Nat} {s: List AV→List Ob→Br} (hs: Sound Kx n s) {p: Int→Bool} (h: ∀ b,(s [.int .i64 b] []).val=some (.bool (p b),[])): Sound Kx n (WX p):=hs.of fun args objs r hv=>by
 unfold WX at hv
 split at hv
 · rw [h];exact hv
 · cases hv
theorem zL (c x: Bool): (Br.ite c (.ret (.bool x) []) (.ret (.bool false) [])).val=some (.bool (c&&x),[]):=by cases c <;> rfl
theorem agl (c x: Bool): (Br.ite c (.ret (.bool true) []) (.ret (.bool x) [])).val=some (.bool (c||x),[]):=by cases c <;> rfl
theorem lG: Sound Kx 293 (Kn jy):=rH NF fun b=>zL _ _
theorem lI: Sound Kx 197 (Kn C5):=rH NH fun b=>zL _ _
theorem eO: Sound Kx 244 (Kn aB):=rH NJ fun b=>zL _ _
theorem zM: Sound Kx 230 (Kn cZ):=rH C4 fun b=>zL _ _
theorem GR: Sound Kx 236 (Kn ZH):=rH NL fun b=>agl _ _
theorem tQ: Sound Kx 221 (Kn jz):=rH NM fun b=>by
 show (pm b).val=_
 unfold pm jz
 simp only [Br.val]
 cases decide (b=9) <;> cases decide (32≤b) <;> rfl
theorem NO: Sound Kx 261 (Kn ZH):=rH Q_ fun b=>agl _ _
theorem fW: Sound Kx 213 (Kn aB):=rH Rb fun b=>zL _ _
theorem xd: Sound Kx 241 (Kn jz):=rH Rc fun b=>by
 show (tP b).val=_
 unfold tP jz
 simp only [Br.val]
 cases decide (b=9) <;> cases decide (32≤b) <;> rfl
def ad2: List AV→List Ob→Br
 | [.int .u8 b],[]=> .ite (decide (0≤b)&&decide (b < 256)) (.ret (.int .u8 (fM b)) []) .fail
 | _,_=> .fail
theorem kq: Sound Kx 164 ad2:=slower_ok.of fun args objs r h=>by
 unfold ad2 at h
 split at h
 · rename_i b
   obtain ⟨h1,h2⟩:=ai h
   simp only [Bool.and_eq_true,decide_eq_true_eq] at h1
   rw [← h2]
   show (tO b).val=_
   unfold tO fM C5
   by_cases g1: 65≤b <;> by_cases g2: b≤90 <;> simp only [Br.val,g1,g2,decide_true,decide_false,Bool.and_true,Bool.and_false,Bool.false_and,cond_true,cond_false]
   rw [w8 (by omega) (by omega)]
 · cases h
def NP (n: Int): Bool:=decide (200≤n)&&decide (n≤599)
def zN (n: Int): Bool:=decide (n=204)||decide (n=304)
theorem C6: Sound Kx 174 (WX NP):=GQ GP fun b=>zL _ _
theorem rI: Sound Kx 176 (WX zN):=GQ tN fun b=>agl _ _
theorem C7: Sound Kx 190 (WX zN):=GQ WW fun b=>agl _ _
def aP (p: Int→Bool) (s: aa): Bool:=s.all fun c=>p (by8 c)
def ay (s: aa): aa:=bG ((bytesOf s).map fM)
def sp8 (c: UInt8): Bool:=ZH (by8 c)
def lJ (s: aa): aa:=s.dropWhile sp8
def pn (s: aa): aa:=(s.reverse.dropWhile sp8).reverse
def aE (s: aa): aa:=pn (lJ s)
def C8 (s: aa): Bool:=decide (1≤s.length)&&decide (s.length≤4000)&&aP nh s
def isM (s: aa): Bool:=decide (s.length≤4611686018427387904)
def agQ: SC:=[⟨291,_,abp⟩]
def ad3 (s: aa) (c: Int): Br:=(.ret (AV.int .i64 (v_ s c)) [])
def ad4: List AV→List Ob→Br
 | [.str s, .int .u8 c],[]=>ad3 s c
 | _,_=> .fail
theorem ad5: Sound Kx 247 ad4:=ae (C:=agQ) (O:=O0) Tryz.func247 (by kernel_rfl) fun args objs=>by
 unfold ad4;split
 · exact .inr (by kernel_rfl)
 · exact .inl rfl
def agR: SC:=[⟨247,_,ad5⟩]
def ad6 (s: aa) (c: Int): Br:=(.ret (AV.int .i64 (v_ s c)) [])
def ad7: List AV→List Ob→Br
 | [.str s, .int .u8 c],[]=>ad6 s c
 | _,_=> .fail
theorem ZI: Sound Kx 207 ad7:=ae (C:=agR) (O:=O0) Tryz.func207 (by kernel_rfl) fun args objs=>by
 unfold ad7;split
 · exact .inr (by kernel_rfl)
 · exact .inl rfl
def WY: SC:=[⟨293,_,lG⟩,⟨197,_,lI⟩,⟨244,_,eO⟩,⟨207,_,ZI⟩]
def tR (b: Int): Br:=(.ite (jy b) (.ret (AV.bool true) []) (.ite (C5 b) (.ret (AV.bool true) []) (.ite (aB b) (.ret (AV.bool true) []) (.ite (decide (b=96)) (.ret (AV.bool true) []) (.ret (AV.bool (decide (0≤(v_ ([33,35,36,37,38,39,42,43,45,46,94,95,124,126]: aa) b)))) [])))))
def Ko: List AV→List Ob→Br
 | [.int .u8 b],[]=>tR b
 | _,_=> .fail
theorem isTokB_ok: Sound Kx 259 Ko:=ae (C:=WY) (O:=O0) Tryz.func259 (by kernel_rfl) fun args objs=>by
 unfold Ko;split
 · exact .inr (by kernel_rfl)
 · exact .inl rfl
def ZJ: Opt:={ live:=[(2,[0,1,5])],outs:=[(2,[4])] }
def zO (aD: aa) (aH bW: Int) (kR2: aa→Int→Int→OR') (ca cI: OR'): OR':=
 (bif (decide (bW < (aD.length: Int))) then (bif (decide (0≤bW)) then (bif (decide (bW < (aD.length: Int))) then (bif (decide ((aq aD bW)=aH)) then ca else (kR2 aD aH (ad (bW + 1)))) else none) else none) else cI)
def pp: Nat→aa→Int→Int→(OR')→(OR')→OR'
 | 0,_,_,_,_,_=>none
 | n + 1,aD,aH,bW,ca,cI=>zO aD aH bW (fun aD aH bW=>pp n aD aH bW ca cI) ca cI
abbrev shas_p2: SP:=⟨17,[0,1,5],[(.v .s),(.v (.i .u8)),(.v (.i .i64))],[]⟩
noncomputable def Re: Code:=aC (aG Tryz.f282) [1,0,1,0,0]
def Rf (f: (OR')→(OR')→OR') (k: KT): OR':=f (k Ex.ret ((St.mk (aF 0 17 [(4,(AV.bool true))]) ([]: (List (Nat×(Ob))))))) (k (Ex.exit 0) ((St.mk (aF 0 17 []) ([]: (List (Nat×(Ob)))))))
def Rg (n: Nat) (d: shas_p2.D): KT→OR':=Rf (pp n d.1.1 d.1.2.1 d.1.2.2.1)
def ZK (N: Nat): Lam:=bH [⟨2,shas_p2,Rg N⟩]
theorem WZ (N: Nat): OkL Kx noS ZJ 0 N (ZK N) Re:=okL shas_p2 (Rg) (fun d kR=>Rf (zO d.1.1 d.1.2.1 d.1.2.2.1 (fun aD aH bW=>kR ((aD,aH,bW,()),())))) (fun _ _=>by kernel_rfl) (fun _ _ _=>by kernel_rfl) (fun _ _=>by kernel_rfl) (fun _ _ _ _=>by kernel_rfl) (al (l':=[]) (by kernel_rfl) trivial)
def Kp (N: Nat) (s: aa) (b: Int): OR':=(pp N s b 0 (some ((AV.bool true),[])) (some ((AV.bool false),[])))
def Kq (φ: aa→Int→Br): List AV→List Ob→Br
 | [.str s, .int .u8 b],[]=>φ s b
 | _,_=> .fail
theorem Rh {φ: aa→Int→Br} (fu: aa→Int→Nat) (hv: ∀ s b res_,(φ s b).val=some res_→Kp (fu s b) s b=some res_): Sound Kx 282 (Kq φ):=ap (C:=[]) (O:=ZJ) Tryz.func282 (by kernel_rfl) fun args objs=>by
 unfold Kq;split
 · rename_i s b;exact .inr fun _ hyp_=>aO (Λ:=ZK (fu s b)) (by kernel_rfl) (al (l':=[Re]) (by kernel_rfl) ⟨WZ _,trivial⟩) (by kernel_rfl) (hv s b _ hyp_)
 · exact .inl rfl
def Ri: Opt:={ live:=[(3,[3,8,9,10])],outs:=[(3,[2,3])] }
def ifold_C: SC:=[⟨197,_,lI⟩]
def sc (aI aA: Int) (bp: (List Int)) (kR3: Int→Int→(List Int)→OR') (ei: (List Int)→OR'): OR':=
 (bif (decide (aA < aI)) then (bif (decide (0≤aA)) then (bif (decide (aA < (bp.length: Int))) then (bif (C5 (List.getD bp (Int.toNat aA) 0)) then (bif (decide (0≤aA)) then (bif (decide (aA < (bp.length: Int))) then (kR3 aI (ad (aA + 1)) (List.set bp (Int.toNat aA) (wk8 ((List.getD bp (Int.toNat aA) 0) + 32)))) else none) else none) else (kR3 aI (ad (aA + 1)) bp)) else none) else none) else (ei bp))
def i_: Nat→Int→Int→(List Int)→((List Int)→OR')→OR'
 | 0,_,_,_,_=>none
 | n + 1,aI,aA,bp,ei=>sc aI aA bp (fun aI aA bp=>i_ n aI aA bp ei) ei
abbrev ifold_p3: SP:=⟨25,[3,8,9,10],[(.v (.ref 256 0)),(.v (.ref 256 0)),(.v (.i .i64)),(.v (.i .i64))],[(256, .arr (Ty.int .u8) 0 false)]⟩
noncomputable def Kr: Code:=aC (aG Tryz.f118) [1,1,0,1,0,0]
def Ks (f: ((List Int)→OR')→OR') (k: KT): OR':=f (fun ab=>k (Ex.exit 0) ((St.mk (aF 0 25 [(3,(AV.ref 256 0))]) ((256,(Ob.arr (Ty.int .u8) 0 false ab))::([]: (List (Nat×(Ob))))))))
def Kt (n: Nat) (d: ifold_p3.D): KT→OR':=Ks (i_ n d.1.2.2.1 d.1.2.2.2.1 d.2.1)
def Rj (N: Nat): Lam:=bH [⟨3,ifold_p3,Kt N⟩]
theorem Rk (N: Nat): OkL Kx ifold_C.s Ri 0 N (Rj N) Kr:=okL ifold_p3 (Kt) (fun d kR=>Ks (sc d.1.2.2.1 d.1.2.2.2.1 d.2.1 (fun aI aA bp=>kR (((),(),aI,aA,()),(bp,()))))) (fun _ _=>by kernel_rfl) (fun _ _ _=>by kernel_rfl) (fun _ _=>by kernel_rfl) (fun _ _ _ _=>by kernel_rfl) (al (l':=[]) (by kernel_rfl) trivial)
def C9 (N: Nat) (s: aa): OR':=(i_ N ((List.length (bytesOf s)): Int) 0 (bytesOf s) (fun ab=>(some ((AV.str (bG ab)),[]))))
def C_ (φ: aa→Br): List AV→List Ob→Br
 | [.str s],[]=>φ s
 | _,_=> .fail
theorem NQ {φ: aa→Br} (fu: aa→Nat) (hv: ∀ s res_,(φ s).val=some res_→C9 (fu s) s=some res_): Sound Kx 118 (C_ φ):=ap (C:=ifold_C) (O:=Ri) Tryz.func118 (by kernel_rfl) fun args objs=>by
 unfold C_;split
 · rename_i s;exact .inr fun _ hyp_=>aO (Λ:=Rj (fu s)) (by kernel_rfl) (al (l':=[Kr]) (by kernel_rfl) ⟨Rk _,trivial⟩) (by kernel_rfl) (hv s _ hyp_)
 · exact .inl rfl
def Rm: Opt:={ live:=[(3,[3,4])],outs:=[(3,[2,3])] }
def sfold_C: SC:=[⟨164,_,kq⟩]
def sd (aI: Int) (aA: (List Int)) (kR3: Int→(List Int)→OR') (ei: (List Int)→OR'): OR':=
 (bif (decide (aI < (aA.length: Int))) then (bif (decide (0≤aI)) then (bif (decide (aI < (aA.length: Int))) then (bif ((decide (0≤(List.getD aA (Int.toNat aI) 0)))&&(decide ((List.getD aA (Int.toNat aI) 0) < 256))) then (bif (decide (0≤aI)) then (bif (decide (aI < (aA.length: Int))) then (kR3 (ad (aI + 1)) (List.set aA (Int.toNat aI) (fM (List.getD aA (Int.toNat aI) 0)))) else none) else none) else none) else none) else none) else (ei aA))
def kr: Nat→Int→(List Int)→((List Int)→OR')→OR'
 | 0,_,_,_=>none
 | n + 1,aI,aA,ei=>sd aI aA (fun aI aA=>kr n aI aA ei) ei
abbrev sfold_p3: SP:=⟨23,[3,4],[(.v (.ref 256 0)),(.v (.i .i64))],[(256, .arr (Ty.int .u8) 0 false)]⟩
noncomputable def Ku: Code:=aC (aG Tryz.f91) [1,1,0,1,0,0]
def Kv (f: ((List Int)→OR')→OR') (k: KT): OR':=f (fun ab=>k (Ex.exit 0) ((St.mk (aF 0 23 [(3,(AV.ref 256 0))]) ((256,(Ob.arr (Ty.int .u8) 0 false ab))::([]: (List (Nat×(Ob))))))))
def Kw (n: Nat) (d: sfold_p3.D): KT→OR':=Kv (kr n d.1.2.1 d.2.1)
def Rn (N: Nat): Lam:=bH [⟨3,sfold_p3,Kw N⟩]
theorem Ro (N: Nat): OkL Kx sfold_C.s Rm 0 N (Rn N) Ku:=okL sfold_p3 (Kw) (fun d kR=>Kv (sd d.1.2.1 d.2.1 (fun aI aA=>kR (((),aI,()),(aA,()))))) (fun _ _=>by kernel_rfl) (fun _ _ _=>by kernel_rfl) (fun _ _=>by kernel_rfl) (fun _ _ _ _=>by kernel_rfl) (al (l':=[]) (by kernel_rfl) trivial)
def Da (N: Nat) (s: aa): OR':=(kr N 0 (bytesOf s) (fun ab=>(some ((AV.str (bG ab)),[]))))
def Db (φ: aa→Br): List AV→List Ob→Br
 | [.str s],[]=>φ s
 | _,_=> .fail
theorem NR {φ: aa→Br} (fu: aa→Nat) (hv: ∀ s res_,(φ s).val=some res_→Da (fu s) s=some res_): Sound Kx 91 (Db φ):=ap (C:=sfold_C) (O:=Rm) Tryz.func91 (by kernel_rfl) fun args objs=>by
 unfold Db;split
 · rename_i s;exact .inr fun _ hyp_=>aO (Λ:=Rn (fu s)) (by kernel_rfl) (al (l':=[Ku]) (by kernel_rfl) ⟨Ro _,trivial⟩) (by kernel_rfl) (hv s _ hyp_)
 · exact .inl rfl
def GS: Opt:={ live:=[(3,[0]),(1,[0])],outs:=[(3,[0,2]),(1,[0,2])] }
def itrim_C: SC:=[⟨236,_,GR⟩]
def se (Nf: aa) (kR1 agf: aa→OR'): OR':=
 (bif (!(decide (Nf=([]: aa)))) then (bif (decide (0 < (Nf.length: Int))) then (bif (ZH (aq Nf 0)) then (bif (decide (1≤(Nf.length: Int))) then (kR1 (cut Nf 1 (Nf.length: Int))) else none) else (agf Nf)) else none) else (agf Nf))
def ku: Nat→aa→(aa→OR')→OR'
 | 0,_,_=>none
 | n + 1,Nf,agf=>se Nf (fun Nf=>ku n Nf agf) agf
abbrev itrim_p1: SP:=⟨28,[0],[(.v .s)],[]⟩
noncomputable def Ky: Code:=aC (aG Tryz.f180) [1,0,0,0]
def Kz (f: (aa→OR')→OR') (k: KT): OR':=f (fun VC=>k (Ex.exit 0) ((St.mk (aF 0 28 [(0,(AV.str VC))]) ([]: (List (Nat×(Ob)))))))
def KA (n: Nat) (d: itrim_p1.D): KT→OR':=Kz (ku n d.1.1)
def sf (aI: aa) (kR3 ei: aa→OR'): OR':=
 (bif (!(decide (aI=([]: aa)))) then (bif (decide (0≤(ad ((aI.length: Int) - 1)))) then (bif (decide ((ad ((aI.length: Int) - 1)) < (aI.length: Int))) then (bif (ZH (aq aI (ad ((aI.length: Int) - 1)))) then (bif (decide (0≤(ad ((aI.length: Int) - 1)))) then (bif (decide ((ad ((aI.length: Int) - 1))≤(aI.length: Int))) then (kR3 (cut aI 0 (ad ((aI.length: Int) - 1)))) else none) else none) else (ei aI)) else none) else none) else (ei aI))
def kw: Nat→aa→(aa→OR')→OR'
 | 0,_,_=>none
 | n + 1,aI,ei=>sf aI (fun aI=>kw n aI ei) ei
abbrev itrim_p3: SP:=⟨28,[0],[(.v .s)],[]⟩
noncomputable def KB: Code:=aC (aG Tryz.f180) [1,1,0,0,0]
def KC (f: (aa→OR')→OR') (k: KT): OR':=f (fun ab=>k (Ex.exit 2) ((St.mk (aF 0 28 [(0,(AV.str ab))]) ([]: (List (Nat×(Ob)))))))
def KD (n: Nat) (d: itrim_p3.D): KT→OR':=KC (kw n d.1.1)
def GT (N: Nat): Lam:=bH [⟨1,itrim_p1,KA N⟩,⟨3,itrim_p3,KD N⟩]
theorem Rp (N: Nat): OkL Kx itrim_C.s GS 0 N (GT N) Ky:=okL itrim_p1 (KA) (fun d kR=>Kz (se d.1.1 (fun Nf=>kR ((Nf,()),())))) (fun _ _=>by kernel_rfl) (fun _ _ _=>by kernel_rfl) (fun _ _=>by kernel_rfl) (fun _ _ _ _=>by kernel_rfl) (al (l':=[]) (by kernel_rfl) trivial)
theorem Rq (N: Nat): OkL Kx itrim_C.s GS 0 N (GT N) KB:=okL itrim_p3 (KD) (fun d kR=>KC (sf d.1.1 (fun aI=>kR ((aI,()),())))) (fun _ _=>by kernel_rfl) (fun _ _ _=>by kernel_rfl) (fun _ _=>by kernel_rfl) (fun _ _ _ _=>by kernel_rfl) (al (l':=[]) (by kernel_rfl) trivial)
def Dc (N: Nat) (s: aa): OR':=(ku N s (fun VC=>(kw N VC (fun ab=>(some ((AV.str ab),[]))))))
def Dd (φ: aa→Br): List AV→List Ob→Br
 | [.str s],[]=>φ s
 | _,_=> .fail
theorem NS {φ: aa→Br} (fu: aa→Nat) (hv: ∀ s res_,(φ s).val=some res_→Dc (fu s) s=some res_): Sound Kx 180 (Dd φ):=ap (C:=itrim_C) (O:=GS) Tryz.func180 (by kernel_rfl) fun args objs=>by
 unfold Dd;split
 · rename_i s;exact .inr fun _ hyp_=>aO (Λ:=GT (fu s)) (by kernel_rfl) (al (l':=[Ky,KB]) (by kernel_rfl) ⟨Rp _,Rq _,trivial⟩) (by kernel_rfl) (hv s _ hyp_)
 · exact .inl rfl
def GU: Opt:={ live:=[(5,[0,3,4]),(2,[0,3])],outs:=[(5,[0,2,3,4]),(2,[0,2,3])] }
def strim_C: SC:=[⟨261,_,NO⟩]
def sg (aD: aa) (aH: Int) (kR2 ca: aa→Int→OR'): OR':=
 (bif (decide (aH < (aD.length: Int))) then (bif (decide (0≤aH)) then (bif (decide (aH < (aD.length: Int))) then (bif (ZH (aq aD aH)) then (kR2 aD (ad (aH + 1))) else (ca aD aH)) else none) else none) else (ca aD aH))
def kx: Nat→aa→Int→(aa→Int→OR')→OR'
 | 0,_,_,_=>none
 | n + 1,aD,aH,ca=>sg aD aH (fun aD aH=>kx n aD aH ca) ca
abbrev strim_p2: SP:=⟨35,[0,3],[(.v .s),(.v (.i .i64))],[]⟩
noncomputable def KE: Code:=aC (aG Tryz.f224) [1,1,0,0,0]
def KF (f: (aa→Int→OR')→OR') (k: KT): OR':=f (fun bK iP=>k (Ex.exit 0) ((St.mk (aF 0 35 [(0,(AV.str bK)),(3,(AV.int .i64 iP))]) ([]: (List (Nat×(Ob)))))))
def KG (n: Nat) (d: strim_p2.D): KT→OR':=KF (kx n d.1.1 d.1.2.1)
def si (aZ: aa) (bi a7: Int) (kR5 eg: aa→Int→Int→OR'): OR':=
 (bif (decide (bi < a7)) then (bif (decide (0≤(ad (a7 - 1)))) then (bif (decide ((ad (a7 - 1)) < (aZ.length: Int))) then (bif (ZH (aq aZ (ad (a7 - 1)))) then (kR5 aZ bi (ad (a7 - 1))) else (eg aZ bi a7)) else none) else none) else (eg aZ bi a7))
def ja: Nat→aa→Int→Int→(aa→Int→Int→OR')→OR'
 | 0,_,_,_,_=>none
 | n + 1,aZ,bi,a7,eg=>si aZ bi a7 (fun aZ bi a7=>ja n aZ bi a7 eg) eg
abbrev strim_p5: SP:=⟨35,[0,3,4],[(.v .s),(.v (.i .i64)),(.v (.i .i64))],[]⟩
noncomputable def KH: Code:=aC (aG Tryz.f224) [1,1,1,1,0,0,0]
def KI (f: (aa→Int→Int→OR')→OR') (k: KT): OR':=f (fun av bY cW=>k (Ex.exit 2) ((St.mk (aF 0 35 [(0,(AV.str av)),(3,(AV.int .i64 bY)),(4,(AV.int .i64 cW))]) ([]: (List (Nat×(Ob)))))))
def KJ (n: Nat) (d: strim_p5.D): KT→OR':=KI (ja n d.1.1 d.1.2.1 d.1.2.2.1)
def GV (N: Nat): Lam:=bH [⟨2,strim_p2,KG N⟩,⟨5,strim_p5,KJ N⟩]
theorem Rr (N: Nat): OkL Kx strim_C.s GU 0 N (GV N) KE:=okL strim_p2 (KG) (fun d kR=>KF (sg d.1.1 d.1.2.1 (fun aD aH=>kR ((aD,aH,()),())))) (fun _ _=>by kernel_rfl) (fun _ _ _=>by kernel_rfl) (fun _ _=>by kernel_rfl) (fun _ _ _ _=>by kernel_rfl) (al (l':=[]) (by kernel_rfl) trivial)
theorem Rt (N: Nat): OkL Kx strim_C.s GU 0 N (GV N) KH:=okL strim_p5 (KJ) (fun d kR=>KI (si d.1.1 d.1.2.1 d.1.2.2.1 (fun aZ bi a7=>kR ((aZ,bi,a7,()),())))) (fun _ _=>by kernel_rfl) (fun _ _ _=>by kernel_rfl) (fun _ _=>by kernel_rfl) (fun _ _ _ _=>by kernel_rfl) (al (l':=[]) (by kernel_rfl) trivial)
def De (N: Nat) (s: aa): OR':=(kx N s 0 (fun bK iP=>(ja N bK iP (bK.length: Int) (fun av bY cW=>(bif (decide (0≤bY)) then (bif (decide (bY≤cW)) then (bif (decide (cW≤(av.length: Int))) then (some ((AV.str (cut av bY cW)),[])) else none) else none) else none)))))
def Df (φ: aa→Br): List AV→List Ob→Br
 | [.str s],[]=>φ s
 | _,_=> .fail
theorem NT {φ: aa→Br} (fu: aa→Nat) (hv: ∀ s res_,(φ s).val=some res_→De (fu s) s=some res_): Sound Kx 224 (Df φ):=ap (C:=strim_C) (O:=GU) Tryz.func224 (by kernel_rfl) fun args objs=>by
 unfold Df;split
 · rename_i s;exact .inr fun _ hyp_=>aO (Λ:=GV (fu s)) (by kernel_rfl) (al (l':=[KE,KH]) (by kernel_rfl) ⟨Rr _,Rt _,trivial⟩) (by kernel_rfl) (hv s _ hyp_)
 · exact .inl rfl
def KK: Opt:={ live:=[(2,[0,1,5])],outs:=[(2,[4])] }
def allVis_C: SC:=[⟨230,_,zM⟩]
def ni (aD: aa) (aH: Int) (kR2: aa→Int→OR') (ca cI: OR'): OR':=
 (bif (decide (aH < (aD.length: Int))) then (bif (decide (0≤aH)) then (bif (decide (aH < (aD.length: Int))) then (bif (!(cZ (aq aD aH))) then ca else (kR2 aD (ad (aH + 1)))) else none) else none) else cI)
def ij: Nat→aa→Int→(OR')→(OR')→OR'
 | 0,_,_,_,_=>none
 | n + 1,aD,aH,ca,cI=>ni aD aH (fun aD aH=>ij n aD aH ca cI) ca cI
abbrev allVis_p2: SP:=⟨18,[0,1,5],[(.v .s),(.v (.fn 230 [])),(.v (.i .i64))],[]⟩
noncomputable def Dg: Code:=aC (aG Tryz.f74) [1,0,1,0,0]
def Dh (f: (OR')→(OR')→OR') (k: KT): OR':=f (k Ex.ret ((St.mk (aF 0 18 [(4,(AV.bool false))]) ([]: (List (Nat×(Ob))))))) (k (Ex.exit 0) ((St.mk (aF 0 18 []) ([]: (List (Nat×(Ob)))))))
def Di (n: Nat) (d: allVis_p2.D): KT→OR':=Dh (ij n d.1.1 d.1.2.2.1)
def KL (N: Nat): Lam:=bH [⟨2,allVis_p2,Di N⟩]
theorem NU (N: Nat): OkL Kx allVis_C.s KK 0 N (KL N) Dg:=okL allVis_p2 (Di) (fun d kR=>Dh (ni d.1.1 d.1.2.2.1 (fun aD aH=>kR ((aD,(),aH,()),())))) (fun _ _=>by kernel_rfl) (fun _ _ _=>by kernel_rfl) (fun _ _=>by kernel_rfl) (fun _ _ _ _=>by kernel_rfl) (al (l':=[]) (by kernel_rfl) trivial)
def xe (N: Nat) (s: aa): OR':=(ij N s 0 (some ((AV.bool false),[])) (some ((AV.bool true),[])))
def pq (φ: aa→Br): List AV→List Ob→Br
 | [.str s, .fn 230 []],[]=>φ s
 | _,_=> .fail
theorem GW {φ: aa→Br} (fu: aa→Nat) (hv: ∀ s res_,(φ s).val=some res_→xe (fu s) s=some res_): Sound Kx 74 (pq φ):=ap (C:=allVis_C) (O:=KK) Tryz.func74 (by kernel_rfl) fun args objs=>by
 unfold pq;split
 · rename_i s;exact .inr fun _ hyp_=>aO (Λ:=KL (fu s)) (by kernel_rfl) (al (l':=[Dg]) (by kernel_rfl) ⟨NU _,trivial⟩) (by kernel_rfl) (hv s _ hyp_)
 · exact .inl rfl
def Ru: Opt:={ live:=[(2,[0,1,5])],outs:=[(2,[4])] }
def allPl_C: SC:=[⟨221,_,tQ⟩]
def sj (aD: aa) (aH: Int) (kR2: aa→Int→OR') (ca cI: OR'): OR':=
 (bif (decide (aH < (aD.length: Int))) then (bif (decide (0≤aH)) then (bif (decide (aH < (aD.length: Int))) then (bif (!(jz (aq aD aH))) then ca else (kR2 aD (ad (aH + 1)))) else none) else none) else cI)
def ky: Nat→aa→Int→(OR')→(OR')→OR'
 | 0,_,_,_,_=>none
 | n + 1,aD,aH,ca,cI=>sj aD aH (fun aD aH=>ky n aD aH ca cI) ca cI
abbrev allPl_p2: SP:=⟨18,[0,1,5],[(.v .s),(.v (.fn 221 [])),(.v (.i .i64))],[]⟩
noncomputable def KM: Code:=aC (aG Tryz.f74) [1,0,1,0,0]
def KN (f: (OR')→(OR')→OR') (k: KT): OR':=f (k Ex.ret ((St.mk (aF 0 18 [(4,(AV.bool false))]) ([]: (List (Nat×(Ob))))))) (k (Ex.exit 0) ((St.mk (aF 0 18 []) ([]: (List (Nat×(Ob)))))))
def KO (n: Nat) (d: allPl_p2.D): KT→OR':=KN (ky n d.1.1 d.1.2.2.1)
def Rv (N: Nat): Lam:=bH [⟨2,allPl_p2,KO N⟩]
theorem Rw (N: Nat): OkL Kx allPl_C.s Ru 0 N (Rv N) KM:=okL allPl_p2 (KO) (fun d kR=>KN (sj d.1.1 d.1.2.2.1 (fun aD aH=>kR ((aD,(),aH,()),())))) (fun _ _=>by kernel_rfl) (fun _ _ _=>by kernel_rfl) (fun _ _=>by kernel_rfl) (fun _ _ _ _=>by kernel_rfl) (al (l':=[]) (by kernel_rfl) trivial)
def Dj (N: Nat) (s: aa): OR':=(ky N s 0 (some ((AV.bool false),[])) (some ((AV.bool true),[])))
def tS (φ: aa→Br): List AV→List Ob→Br
 | [.str s, .fn 221 []],[]=>φ s
 | _,_=> .fail
theorem NV {φ: aa→Br} (fu: aa→Nat) (hv: ∀ s res_,(φ s).val=some res_→Dj (fu s) s=some res_): Sound Kx 74 (tS φ):=ap (C:=allPl_C) (O:=Ru) Tryz.func74 (by kernel_rfl) fun args objs=>by
 unfold tS;split
 · rename_i s;exact .inr fun _ hyp_=>aO (Λ:=Rv (fu s)) (by kernel_rfl) (al (l':=[KM]) (by kernel_rfl) ⟨Rw _,trivial⟩) (by kernel_rfl) (hv s _ hyp_)
 · exact .inl rfl
def Dk: Opt:={ live:=[(2,[0,3])],outs:=[(2,[2])] }
def splains_C: SC:=[⟨241,_,xd⟩]
def kz (aD: aa) (aH: Int) (kR2: aa→Int→OR') (ca cI: OR'): OR':=
 (bif (decide (aH < (aD.length: Int))) then (bif (decide (0≤aH)) then (bif (decide (aH < (aD.length: Int))) then (bif (!(jz (aq aD aH))) then ca else (kR2 aD (ad (aH + 1)))) else none) else none) else cI)
def fX: Nat→aa→Int→(OR')→(OR')→OR'
 | 0,_,_,_,_=>none
 | n + 1,aD,aH,ca,cI=>kz aD aH (fun aD aH=>fX n aD aH ca cI) ca cI
abbrev splains_p2: SP:=⟨15,[0,3],[(.v .s),(.v (.i .i64))],[]⟩
noncomputable def xf: Code:=aC (aG Tryz.f189) [1,0,1,0,0]
def xg (f: (OR')→(OR')→OR') (k: KT): OR':=f (k Ex.ret ((St.mk (aF 0 15 [(2,(AV.bool false))]) ([]: (List (Nat×(Ob))))))) (k (Ex.exit 0) ((St.mk (aF 0 15 []) ([]: (List (Nat×(Ob)))))))
def xh (n: Nat) (d: splains_p2.D): KT→OR':=xg (fX n d.1.1 d.1.2.1)
def Dl (N: Nat): Lam:=bH [⟨2,splains_p2,xh N⟩]
theorem GX (N: Nat): OkL Kx splains_C.s Dk 0 N (Dl N) xf:=okL splains_p2 (xh) (fun d kR=>xg (kz d.1.1 d.1.2.1 (fun aD aH=>kR ((aD,aH,()),())))) (fun _ _=>by kernel_rfl) (fun _ _ _=>by kernel_rfl) (fun _ _=>by kernel_rfl) (fun _ _ _ _=>by kernel_rfl) (al (l':=[]) (by kernel_rfl) trivial)
def tT (N: Nat) (s: aa): OR':=(fX N s 0 (some ((AV.bool false),[])) (some ((AV.bool true),[])))
def tU (φ: aa→Br): List AV→List Ob→Br
 | [.str s],[]=>φ s
 | _,_=> .fail
theorem Dm {φ: aa→Br} (fu: aa→Nat) (hv: ∀ s res_,(φ s).val=some res_→tT (fu s) s=some res_): Sound Kx 189 (tU φ):=ap (C:=splains_C) (O:=Dk) Tryz.func189 (by kernel_rfl) fun args objs=>by
 unfold tU;split
 · rename_i s;exact .inr fun _ hyp_=>aO (Λ:=Dl (fu s)) (by kernel_rfl) (al (l':=[xf]) (by kernel_rfl) ⟨GX _,trivial⟩) (by kernel_rfl) (hv s _ hyp_)
 · exact .inl rfl
def ZL: Opt:={ live:=[(2,[0,3])],outs:=[(2,[0,2])] }
def zP (aD: aa) (aH: Int) (kR2: aa→Int→OR') (ca cI: aa→OR'): OR':=
 (bif (decide (aH < (aD.length: Int))) then (bif (decide (0≤aH)) then (bif (decide (aH < (aD.length: Int))) then (bif (decide ((aq aD aH) < 33)) then (ca aD) else (bif (decide (0≤aH)) then (bif (decide (aH < (aD.length: Int))) then (bif (decide (126 < (aq aD aH))) then (ca aD) else (kR2 aD (ad (aH + 1)))) else none) else none)) else none) else none) else (cI aD))
def pt: Nat→aa→Int→(aa→OR')→(aa→OR')→OR'
 | 0,_,_,_,_=>none
 | n + 1,aD,aH,ca,cI=>zP aD aH (fun aD aH=>pt n aD aH ca cI) ca cI
abbrev svis_p2: SP:=⟨23,[0,3],[(.v .s),(.v (.i .i64))],[]⟩
noncomputable def Rx: Code:=aC (aG Tryz.f188) [1,0,1,0,0]
def Ry (f: (aa→OR')→(aa→OR')→OR') (k: KT): OR':=f (fun bK=>k Ex.ret ((St.mk (aF 0 23 [(0,(AV.str bK)),(2,(AV.bool false))]) ([]: (List (Nat×(Ob))))))) (fun kd=>k (Ex.exit 0) ((St.mk (aF 0 23 [(0,(AV.str kd))]) ([]: (List (Nat×(Ob)))))))
def RA (n: Nat) (d: svis_p2.D): KT→OR':=Ry (pt n d.1.1 d.1.2.1)
def ZM (N: Nat): Lam:=bH [⟨2,svis_p2,RA N⟩]
theorem W0 (N: Nat): OkL Kx noS ZL 0 N (ZM N) Rx:=okL svis_p2 (RA) (fun d kR=>Ry (zP d.1.1 d.1.2.1 (fun aD aH=>kR ((aD,aH,()),())))) (fun _ _=>by kernel_rfl) (fun _ _ _=>by kernel_rfl) (fun _ _=>by kernel_rfl) (fun _ _ _ _=>by kernel_rfl) (al (l':=[]) (by kernel_rfl) trivial)
def KP (N: Nat) (s: aa): OR':=(pt N s 0 (fun bK=>(some ((AV.bool false),[]))) (fun kd=>(some ((AV.bool (decide (0 < (kd.length: Int)))),[]))))
def KQ (φ: aa→Br): List AV→List Ob→Br
 | [.str s],[]=>φ s
 | _,_=> .fail
theorem RB {φ: aa→Br} (fu: aa→Nat) (hv: ∀ s res_,(φ s).val=some res_→KP (fu s) s=some res_): Sound Kx 188 (KQ φ):=ap (C:=[]) (O:=ZL) Tryz.func188 (by kernel_rfl) fun args objs=>by
 unfold KQ;split
 · rename_i s;exact .inr fun _ hyp_=>aO (Λ:=ZM (fu s)) (by kernel_rfl) (al (l':=[Rx]) (by kernel_rfl) ⟨W0 _,trivial⟩) (by kernel_rfl) (hv s _ hyp_)
 · exact .inl rfl
theorem fh {s: aa} (h: isM s=true): s.length≤4611686018427387904:=of_decide_eq_true h
theorem RC (l: aa) (b: Int) (hl: l.length≤4611686018427387904) (k0 k1: OR'): ∀ (r: aa) (i: Int) (n: Nat),At l i r→r.length < n→pp n l b i k0 k1=bif r.any (fun c=>decide (by8 c=b)) then k0 else k1:=by
 intro r;induction r with
 | nil=>intro i n h hn;obtain ⟨n,rfl⟩:=bL hn;unfold pp zO;simp only [h.dge,cond_false,List.any_nil]
 | cons a r ih=>
   intro i n h hn;obtain ⟨n,rfl⟩:=bL hn
   have hs:=ih (i + 1) n h.step (by simp at hn;omega)
   unfold pp zO;simp only [h.dlt,h.dnn,h.str,cond_true,h.next hl,hs,List.any_cons]
   cases decide (by8 a=b) <;> rfl
def ad8 (p: aa→Int→Bool): List AV→List Ob→Br
 | [.str s, .int .u8 b],[]=> .ite (isM s) (.ret (.bool (p s b)) []) .fail
 | _,_=> .fail
def cH (s: aa) (b: Int): Bool:=s.any fun c=>decide (by8 c=b)
theorem KR: Sound Kx 282 (ad8 cH):=by
 refine (Rh (φ:=fun s b=> .ite (isM s) (.ret (.bool (cH s b)) []) .fail) (fun s b=>s.length + 1) fun s b r h=>?_).of fun args objs r h=>?_
 · obtain ⟨h1,h2⟩:=ai h
   unfold Kp
   rw [RC s b (fh h1) _ _ s 0 _ (At.start s) (by omega),← h2]
   unfold cH
   cases s.any fun c=>decide (by8 c=b) <;> rfl
 · unfold ad8 at h;split at h
   · exact h
   · cases h
theorem W1 (s: aa) (b: Int) (h0: 0≤b) (h1: b < 256): (0≤v_ s b)↔cH s b=true:=by
 unfold v_ cH
 induction s with
 | nil=>simp [Go.Lib.indexByte]
 | cons a r ih=>
   have hc: (a=b.toNat.toUInt8)↔by8 a=b:=by
    unfold by8
    constructor
    · intro h;rw [h];simp;omega
    · intro h;rw [← h];simp
   show (0≤if (a==b.toNat.toUInt8)=true then 0 else if (Go.Lib.indexByte r b.toNat.toUInt8== -1)=true then -1 else Go.Lib.indexByte r b.toNat.toUInt8 + 1)↔_
   rw [List.any_cons]
   by_cases h: a=b.toNat.toUInt8
   · rw [if_pos (beq_iff_eq.2 h),dT' (hc.1 h)];simp
   · rw [if_neg (fun e=>h (beq_iff_eq.1 e)),dF' (fun e=>h (hc.2 e)),Bool.false_or,← ih]
     have:=Go.Lib.indexByte_ge r b.toNat.toUInt8
     split
     · rename_i g;have:=beq_iff_eq.1 g;omega
     · rename_i g;have: ¬ Go.Lib.indexByte r b.toNat.toUInt8= -1:=fun e=>g (beq_iff_eq.2 e);omega
theorem zQ (s: aa) (b: Int) (h0: 0≤b) (h1: b < 256): decide (0≤v_ s b)=cH s b:=by
 rw [Bool.eq_iff_iff,decide_eq_true_eq];exact W1 s b h0 h1
def W2: List AV→List Ob→Br
 | [.int .u8 b],[]=> .ite (decide (0≤b)&&decide (b < 256)) (.ret (.bool (nh b)) []) .fail
 | _,_=> .fail
theorem NW: Sound Kx 259 W2:=isTokB_ok.of fun args objs r h=>by
 unfold W2 at h;split at h
 · rename_i b
   obtain ⟨h1,h2⟩:=ai h
   simp only [Bool.and_eq_true,decide_eq_true_eq] at h1
   rw [← h2]
   show (tR b).val=_
   unfold tR nh
   rw [zQ _ _ h1.1 h1.2]
   unfold cH tokSet
   cases jy b <;> cases C5 b <;> cases aB b <;> cases decide (b=96) <;> simp only [Br.val,Bool.true_or,Bool.false_or]
 · cases h
theorem ZN {l r: List Int} {i a: Int} (h: At l i (a::r)) (b: Int): At (l.set i.toNat b) i (b::r):=by
 obtain ⟨p,rfl,rfl⟩:=h;exact ⟨p,by simp,rfl⟩
theorem W3 {l r: List Int} {i a: Int} (h: At l i (a::r)): l.set i.toNat a=l:=by
 obtain ⟨p,rfl,rfl⟩:=h;simp
theorem NX (m: Int) (k: List Int→OR'): ∀ (r l: List Int) (i: Int) (n: Nat),At l i r→r.length < n→m=(l.length: Int)→l.length≤4611686018427387904→(∀ b ∈ r,0≤b∧b < 256)→
 i_ n m i l k=k (l.take i.toNat++r.map fM):=by
 intro r;induction r with
 | nil=>
   intro l i n h hn hm hl hb;obtain ⟨n,rfl⟩:=bL hn
   subst hm
   unfold i_ sc;simp only [h.dge,cond_false,List.map_nil]
   congr 1;exact h.take.symm
 | cons a r ih=>
   intro l i n h hn hm hl hb;obtain ⟨n,rfl⟩:=bL hn
   subst hm
   have ha:=hb a (List.mem_cons_self ..)
   unfold i_ sc;simp only [h.dlt,h.dnn,h.get,cond_true,h.next hl,List.map_cons]
   have key: ∀ b,i_ n (l.length: Int) (i + 1) (l.set i.toNat b) k=k (l.take i.toNat++b::r.map fM):=by
    intro b
    have h':=ZN h b
    rw [ih _ (i + 1) n h'.step (by simp at hn;omega) (by simp) (by simpa using hl) (fun c hc=>hb c (List.mem_cons_of_mem _ hc))]
    congr 1
    obtain ⟨p,rfl,rfl⟩:=h
    have e: ((p.length: Int) + 1).toNat=p.length + 1:=by omega
    simp only [Int.toNat_natCast,QN,e]
    rw [List.take_append,List.take_append]
    simp [List.take_of_length_le]
   unfold fM
   cases hu: C5 a
   · simp only [cond_false]
     have:=key a
     rw [W3 h] at this
     rw [this];rfl
   · simp only [cond_true]
     unfold C5 at hu
     simp only [Bool.and_eq_true,decide_eq_true_eq] at hu
     rw [w8 (by omega) (by omega),key];rfl
theorem jb (s: aa): (bytesOf s).length=s.length:=by simp [bytesOf]
theorem xi (s: aa): ∀ b ∈ bytesOf s,0≤b∧b < 256:=by
 intro b hb
 simp only [bytesOf,List.mem_map] at hb
 obtain ⟨c,_,rfl⟩:=hb
 exact ⟨by omega,by have:=c.toNat_lt;omega⟩
theorem tV (s: aa): (ay s).length=s.length:=by simp [ay,bG,bytesOf]
def wa (p: aa→AV): List AV→List Ob→Br
 | [.str s],[]=> .ite (isM s) (.ret (p s) []) .fail
 | _,_=> .fail
theorem agS {n: Nat} {s: List AV→List Ob→Br} (hs: Sound Kx n s) {p: aa→AV} (h: ∀ x,isM x=true→(s [.str x] []).val=some (p x,[])): Sound Kx n (wa p):=hs.of fun args objs r hv=>by
 unfold wa at hv
 split at hv
 · obtain ⟨h1,h2⟩:=ai hv
   rw [h _ h1];exact h2
 · cases hv
theorem NY {n: Nat} {p: aa→AV} {sOf: (aa→Br)→List AV→List Ob→Br} (hs: Sound Kx n (sOf fun s=> .ite (isM s) (.ret (p s) []) .fail)) (he: ∀ f x,sOf f [.str x] []=f x): Sound Kx n (wa p):=
 agS hs fun x hx=>by rw [he];simp only [Br.val,hx]
theorem nj: Sound Kx 118 (wa fun s=> .str (ay s)):=by
 refine NY (NQ (fun s=>s.length + 1) fun s r h=>?_) fun _ _=>rfl
 obtain ⟨h1,h2⟩:=ai h
 unfold C9
 rw [NX _ _ _ _ 0 _ (At.start _) (by rw [jb];omega) rfl (by rw [jb];exact fh h1) (xi s),← h2]
 rfl
theorem NZ (k: List Int→OR'): ∀ (r l: List Int) (i: Int) (n: Nat),At l i r→r.length < n→l.length≤4611686018427387904→(∀ b ∈ r,0≤b∧b < 256)→
 kr n i l k=k (l.take i.toNat++r.map fM):=by
 intro r;induction r with
 | nil=>
   intro l i n h hn hl hb;obtain ⟨n,rfl⟩:=bL hn
   unfold kr sd;simp only [h.dge,cond_false,List.map_nil]
   congr 1;exact h.take.symm
 | cons a r ih=>
   intro l i n h hn hl hb;obtain ⟨n,rfl⟩:=bL hn
   have ha:=hb a (List.mem_cons_self ..)
   have e0: (decide (0≤a)&&decide (a < 256))=true:=by simp only [Bool.and_eq_true,decide_eq_true_eq];exact ha
   unfold kr sd;simp only [h.dlt,h.dnn,h.get,cond_true,h.next hl,List.map_cons,e0]
   have h':=ZN h (fM a)
   rw [ih _ (i + 1) n h'.step (by simp at hn;omega) (by simpa using hl) (fun c hc=>hb c (List.mem_cons_of_mem _ hc))]
   congr 1
   obtain ⟨p,rfl,rfl⟩:=h
   have e: ((p.length: Int) + 1).toNat=p.length + 1:=by omega
   simp only [Int.toNat_natCast,QN,e]
   rw [List.take_append,List.take_append]
   simp [List.take_of_length_le]
theorem ik: Sound Kx 91 (wa fun s=> .str (ay s)):=by
 refine NY (NR (fun s=>s.length + 1) fun s r h=>?_) fun _ _=>rfl
 obtain ⟨h1,h2⟩:=ai h
 unfold Da
 rw [NZ _ _ _ 0 _ (At.start _) (by rw [jb];omega) (by rw [jb];exact fh h1) (xi s),← h2]
 rfl
theorem aiq (a: UInt8) (r: aa): cut (a::r) 1 (((a::r).length: Nat): Int)=r:=by simp [cut]
theorem GY (k: aa→OR'): ∀ (s: aa) (n: Nat),s.length < n→ku n s k=k (lJ s):=by
 intro s;induction s with
 | nil=>intro n hn;obtain ⟨n,rfl⟩:=bL hn;unfold ku se;rfl
 | cons a r ih=>
   intro n hn;obtain ⟨n,rfl⟩:=bL hn
   have e1: decide (a::r=([]: aa))=false:=rfl
   have e2: decide ((0 : Int) < (((a::r).length: Nat): Int))=true:=dT' (by simp only [List.length_cons];omega)
   have e3: decide ((1 : Int)≤(((a::r).length: Nat): Int))=true:=dT' (by simp only [List.length_cons];omega)
   have e4: aq (a::r) 0=by8 a:=rfl
   unfold ku se
   simp only [e1,e2,e3,e4,Bool.not_false,cond_true,aiq]
   rw [ih n (by simp at hn;omega)]
   unfold lJ
   rw [List.dropWhile_cons]
   show (bif sp8 a then _ else _)=_
   cases sp8 a <;> rfl
theorem GZ (k: aa→OR'): ∀ (q: aa) (n: Nat),q.length < n→q.length≤4611686018427387904→kw n q.reverse k=k (pn q.reverse):=by
 intro q;induction q with
 | nil=>intro n hn _;obtain ⟨n,rfl⟩:=bL hn;unfold kw sf;rfl
 | cons a q ih=>
   intro n hn hl;obtain ⟨n,rfl⟩:=bL hn
   have e1: decide ((a::q).reverse=([]: aa))=false:=dF' (by simp)
   have e0: ad ((((a::q).reverse.length: Nat): Int) - 1)=(q.length: Int):=by rw [w64 (by simp only [List.length_reverse,List.length_cons];omega) (by simp only [List.length_reverse,List.length_cons] at hl ⊢;omega)];simp
   have e2: decide ((0 : Int)≤(q.length: Int))=true:=by simp
   have e3: decide ((q.length: Int) < (((a::q).reverse.length: Nat): Int))=true:=dT' (by simp only [List.length_reverse,List.length_cons];omega)
   have e5: decide ((q.length: Int)≤(((a::q).reverse.length: Nat): Int))=true:=dT' (by simp only [List.length_reverse,List.length_cons];omega)
   have e4: aq (a::q).reverse (q.length: Int)=by8 a:=by simp [aq,by8,List.getD_eq_getElem?_getD]
   have e6: cut (a::q).reverse 0 (q.length: Int)=q.reverse:=by simp [cut]
   unfold kw sf
   simp only [e0,e1,e2,e3,e4,e5,e6,Bool.not_false,cond_true]
   rw [ih n (by simp at hn;omega) (by simp at hl;omega)]
   unfold pn
   rw [List.reverse_reverse,List.reverse_reverse,List.dropWhile_cons]
   show (bif sp8 a then _ else _)=_
   cases sp8 a <;> simp
theorem tW (s: aa): (lJ s).length≤s.length:=List.Sublist.length_le (List.dropWhile_sublist _)
theorem Dn (s: aa): (pn s).length≤s.length:=by
 unfold pn;rw [List.length_reverse];exact Nat.le_trans (List.Sublist.length_le (List.dropWhile_sublist _)) (by simp)
theorem il (s: aa): (aE s).length≤s.length:=Nat.le_trans (Dn _) (tW _)
theorem nk: Sound Kx 180 (wa fun s=> .str (aE s)):=by
 refine NY (NS (fun s=>s.length + 1) fun s r h=>?_) fun _ _=>rfl
 obtain ⟨h1,h2⟩:=ai h
 unfold Dc
 have hl:=tW s
 have:=fh h1
 rw [GY _ s _ (by omega)]
 have:=GZ (fun ab=>some (AV.str ab,([]: List Ob))) (lJ s).reverse (s.length + 1) (by simp;omega) (by simp;omega)
 rw [List.reverse_reverse] at this
 rw [this,← h2]
 rfl
theorem G0 (l: aa) (hl: l.length≤4611686018427387904) (k: aa→Int→OR'): ∀ (r: aa) (i: Int) (n: Nat),At l i r→r.length < n→∃ j,At l j (lJ r)∧kx n l i k=k l j:=by
 intro r;induction r with
 | nil=>intro i n h hn;obtain ⟨n,rfl⟩:=bL hn;refine ⟨i,h,?_⟩;unfold kx sg;simp only [h.dge,cond_false]
 | cons a r ih=>
   intro i n h hn;obtain ⟨n,rfl⟩:=bL hn
   obtain ⟨j,hj,hs⟩:=ih (i + 1) n h.step (by simp at hn;omega)
   unfold lJ
   rw [List.dropWhile_cons]
   unfold kx sg
   simp only [h.dlt,h.dnn,h.str,cond_true,h.next hl,hs]
   have e: ZH (by8 a)=sp8 a:=rfl
   rw [e]
   cases sp8 a
   · exact ⟨i,h,rfl⟩
   · exact ⟨j,hj,rfl⟩
theorem G1 (l p: aa) (hl: l.length≤4611686018427387904) (k: aa→Int→Int→OR'): ∀ (q t: aa) (n: Nat),l=p++q.reverse++t→q.length < n→ja n l (p.length: Int) ((p.length: Int) + q.length) k=k l (p.length: Int) ((p.length: Int) + (pn q.reverse).length):=by
 intro q;induction q with
 | nil=>
   intro t n h hn;obtain ⟨n,rfl⟩:=bL hn
   have e: decide ((p.length: Int) < (p.length: Int) + (([]: aa).length: Int))=false:=by simp
   unfold ja si;simp only [e,cond_false];rfl
 | cons a q ih=>
   intro t n h hn;obtain ⟨n,rfl⟩:=bL hn
   have hlen: l.length=p.length + q.length + 1 + t.length:=by rw [h];simp;omega
   have e1: decide ((p.length: Int) < (p.length: Int) + (((a::q).length: Nat): Int))=true:=by simp;omega
   have e0: ad ((p.length: Int) + (((a::q).length: Nat): Int) - 1)=(p.length: Int) + q.length:=by rw [w64 (by simp;omega) (by simp;omega)];simp;omega
   have e2: decide ((0 : Int)≤(p.length: Int) + q.length)=true:=by simp;omega
   have e3: decide ((p.length: Int) + q.length < (l.length: Int))=true:=by rw [hlen];simp;omega
   have e4: aq l ((p.length: Int) + q.length)=by8 a:=by
    have e5: ((p.length: Int) + (q.length: Int)).toNat=(p++q.reverse).length:=by simp;omega
    unfold aq by8
    rw [e5,h]
    have: p++(a::q).reverse++t=(p++q.reverse)++a::t:=by simp
    rw [this,J5]
   unfold ja si
   simp only [e0,e1,e2,e3,e4,cond_true]
   rw [ih (a::t) n (by rw [h];simp) (by simp at hn;omega)]
   unfold pn
   rw [List.reverse_reverse,List.reverse_reverse,List.dropWhile_cons]
   show (bif sp8 a then _ else _)=_
   cases sp8 a <;> simp
theorem tX (p m t: aa): cut (p++m++t) (p.length: Int) ((p.length: Int) + m.length)=m:=by
 unfold cut
 have e1: ((p.length: Int) + (m.length: Int)).toNat=p.length + m.length:=by omega
 rw [e1,Int.toNat_natCast,List.append_assoc,List.take_append,List.drop_append]
 simp
theorem RD (s: aa): ∃ t,s=pn s++t:=by
 refine ⟨(s.reverse.takeWhile sp8).reverse,?_⟩
 unfold pn
 rw [← List.reverse_append,List.takeWhile_append_dropWhile,List.reverse_reverse]
theorem tY: Sound Kx 224 (wa fun s=> .str (aE s)):=by
 refine NY (NT (fun s=>s.length + 1) fun s r h=>?_) fun _ _=>rfl
 obtain ⟨h1,h2⟩:=ai h
 have hl:=fh h1
 unfold De
 obtain ⟨j,⟨p,hp,rfl⟩,hs⟩:=G0 s hl (fun bK iP=>ja (s.length + 1) bK iP ((List.length bK): Int) (fun av bY cW=>bif decide ((0 : Int)≤bY) then (bif decide (bY≤cW) then (bif decide (cW≤((List.length av): Int)) then some (AV.str (cut av bY cW),([]: List Ob)) else none) else none) else none)) s 0 (s.length + 1) (At.start s) (by omega)
 rw [hs]
 have hlen: (s.length: Int)=(p.length: Int) + ((lJ s).reverse.length: Int):=by
  have:=congrArg List.length hp
  simp only [List.length_append] at this
  rw [List.length_reverse];omega
 have hle:=tW s
 rw [hlen,G1 s p hl _ (lJ s).reverse [] _ (by simpa using hp) (by simp;omega),List.reverse_reverse]
 obtain ⟨t,ht⟩:=RD (lJ s)
 have hc:=tX p (pn (lJ s)) t
 rw [List.append_assoc,← ht,← hp] at hc
 have hr:=Dn (lJ s)
 have e1: decide ((0 : Int)≤(p.length: Int))=true:=by simp
 have e2: decide ((p.length: Int)≤(p.length: Int) + ((pn (lJ s)).length: Int))=true:=dT' (by omega)
 have e3: decide ((p.length: Int) + ((pn (lJ s)).length: Int)≤(s.length: Int))=true:=by rw [hlen];simp;omega
 simp only [e1,e2,e3,cond_true,hc]
 rw [← h2];rfl
theorem G2 (l: aa) (hl: l.length≤4611686018427387904) (k0 k1: OR'): ∀ (r: aa) (i: Int) (n: Nat),At l i r→r.length < n→ij n l i k0 k1=bif aP cZ r then k1 else k0:=by
 intro r;induction r with
 | nil=>intro i n h hn;obtain ⟨n,rfl⟩:=bL hn;unfold ij ni;simp only [h.dge,cond_false,aP,List.all_nil,cond_true]
 | cons a r ih=>
   intro i n h hn;obtain ⟨n,rfl⟩:=bL hn
   have hs:=ih (i + 1) n h.step (by simp at hn;omega)
   unfold ij ni;simp only [h.dlt,h.dnn,h.str,cond_true,h.next hl,hs,aP,List.all_cons]
   cases cZ (by8 a) <;> rfl
def W4:=pq fun s=> .ite (isM s) (.ret (.bool (aP cZ s)) []) .fail
theorem kA: Sound Kx 74 W4:=by
 refine GW (fun s=>s.length + 1) fun s r h=>?_
 obtain ⟨h1,h2⟩:=ai h
 unfold xe
 rw [G2 s (fh h1) _ _ s 0 _ (At.start s) (by omega),← h2]
 cases aP cZ s <;> rfl
theorem N0 (l: aa) (hl: l.length≤4611686018427387904) (k0 k1: OR'): ∀ (r: aa) (i: Int) (n: Nat),At l i r→r.length < n→ky n l i k0 k1=bif aP jz r then k1 else k0:=by
 intro r;induction r with
 | nil=>intro i n h hn;obtain ⟨n,rfl⟩:=bL hn;unfold ky sj;simp only [h.dge,cond_false,aP,List.all_nil,cond_true]
 | cons a r ih=>
   intro i n h hn;obtain ⟨n,rfl⟩:=bL hn
   have hs:=ih (i + 1) n h.step (by simp at hn;omega)
   unfold ky sj;simp only [h.dlt,h.dnn,h.str,cond_true,h.next hl,hs,aP,List.all_cons]
   cases jz (by8 a) <;> rfl
def abq:=tS fun s=> .ite (isM s) (.ret (.bool (aP jz s)) []) .fail
theorem Do: Sound Kx 74 abq:=by
 refine NV (fun s=>s.length + 1) fun s r h=>?_
 obtain ⟨h1,h2⟩:=ai h
 unfold Dj
 rw [N0 s (fh h1) _ _ s 0 _ (At.start s) (by omega),← h2]
 cases aP jz s <;> rfl
theorem Dp (l: aa) (hl: l.length≤4611686018427387904) (k0 k1: OR'): ∀ (r: aa) (i: Int) (n: Nat),At l i r→r.length < n→fX n l i k0 k1=bif aP jz r then k1 else k0:=by
 intro r;induction r with
 | nil=>intro i n h hn;obtain ⟨n,rfl⟩:=bL hn;unfold fX kz;simp only [h.dge,cond_false,aP,List.all_nil,cond_true]
 | cons a r ih=>
   intro i n h hn;obtain ⟨n,rfl⟩:=bL hn
   have hs:=ih (i + 1) n h.step (by simp at hn;omega)
   unfold fX kz;simp only [h.dlt,h.dnn,h.str,cond_true,h.next hl,hs,aP,List.all_cons]
   cases jz (by8 a) <;> rfl
theorem tZ: Sound Kx 189 (wa fun s=> .bool (aP jz s)):=by
 refine NY (Dm (fun s=>s.length + 1) fun s r h=>?_) fun _ _=>rfl
 obtain ⟨h1,h2⟩:=ai h
 unfold tT
 rw [Dp s (fh h1) _ _ s 0 _ (At.start s) (by omega),← h2]
 cases aP jz s <;> rfl
theorem RE (l: aa) (hl: l.length≤4611686018427387904) (k0 k1: aa→OR'): ∀ (r: aa) (i: Int) (n: Nat),At l i r→r.length < n→pt n l i k0 k1=bif aP cZ r then k1 l else k0 l:=by
 intro r;induction r with
 | nil=>intro i n h hn;obtain ⟨n,rfl⟩:=bL hn;unfold pt zP;simp only [h.dge,cond_false,aP,List.all_nil,cond_true]
 | cons a r ih=>
   intro i n h hn;obtain ⟨n,rfl⟩:=bL hn
   have hs:=ih (i + 1) n h.step (by simp at hn;omega)
   unfold pt zP;simp only [h.dlt,h.dnn,h.str,cond_true,h.next hl,hs,aP,List.all_cons,cZ]
   by_cases g1: by8 a < 33 <;> by_cases g2: 126 < by8 a
   · have e1: ¬ 33≤by8 a:=by omega
     simp only [g1,e1,decide_true,decide_false,cond_true,Bool.false_and,cond_false]
   · have e1: ¬ 33≤by8 a:=by omega
     simp only [g1,e1,decide_true,decide_false,cond_true,Bool.false_and,cond_false]
   · have e1: 33≤by8 a:=by omega
     have e2: ¬ by8 a≤126:=by omega
     simp only [g1,g2,e1,e2,decide_true,decide_false,cond_true,Bool.false_and,Bool.and_false,cond_false]
   · have e1: 33≤by8 a:=by omega
     have e2: by8 a≤126:=by omega
     simp only [g1,g2,e1,e2,decide_true,decide_false,cond_true,Bool.true_and,cond_false]
theorem sk: Sound Kx 188 (wa fun s=> .bool (aP cZ s&&decide ((0 : Int) < (s.length: Int)))):=by
 refine NY (RB (fun s=>s.length + 1) fun s r h=>?_) fun _ _=>rfl
 obtain ⟨h1,h2⟩:=ai h
 unfold KP
 rw [RE s (fh h1) _ _ s 0 _ (At.start s) (by omega),← h2]
 cases aP cZ s <;> rfl
def W5: SC:=[⟨164,_,kq⟩,⟨213,_,fW⟩,⟨282,_,KR⟩]
def t7 (b: Int): Br:=(.ite ((decide (0≤b))&&(decide (b < 256))) (.ite (decide (97≤(fM b))) (.ite (decide ((fM b)≤122)) (.ret (AV.bool true) []) (.ite (aB b) (.ret (AV.bool true) []) (.ite (decide (b=96)) (.ret (AV.bool true) []) (.ret (AV.bool (cH ([33,35,36,37,38,39,42,43,45,46,94,95,124,126]: aa) b)) [])))) (.ite (aB b) (.ret (AV.bool true) []) (.ite (decide (b=96)) (.ret (AV.bool true) []) (.ret (AV.bool (cH ([33,35,36,37,38,39,42,43,45,46,94,95,124,126]: aa) b)) [])))) .fail)
def KS: List AV→List Ob→Br
 | [.int .u8 b],[]=>t7 b
 | _,_=> .fail
theorem stchar_ok: Sound Kx 240 KS:=ae (C:=W5) (O:=O0) Tryz.func240 (by kernel_rfl) fun args objs=>by
 unfold KS;split
 · exact .inr (by kernel_rfl)
 · exact .inl rfl
def KU: Opt:={ live:=[(2,[0,1,5])],outs:=[(2,[4])] }
def allTok_C: SC:=[⟨259,_,NW⟩]
def nl (aD: aa) (aH: Int) (kR2: aa→Int→OR') (ca cI: OR'): OR':=
 (bif (decide (aH < (aD.length: Int))) then (bif (decide (0≤aH)) then (bif (decide (aH < (aD.length: Int))) then (bif ((decide (0≤(aq aD aH)))&&(decide ((aq aD aH) < 256))) then (bif (!(nh (aq aD aH))) then ca else (kR2 aD (ad (aH + 1)))) else none) else none) else none) else cI)
def im: Nat→aa→Int→(OR')→(OR')→OR'
 | 0,_,_,_,_=>none
 | n + 1,aD,aH,ca,cI=>nl aD aH (fun aD aH=>im n aD aH ca cI) ca cI
abbrev allTok_p2: SP:=⟨18,[0,1,5],[(.v .s),(.v (.fn 259 [])),(.v (.i .i64))],[]⟩
noncomputable def Dq: Code:=aC (aG Tryz.f74) [1,0,1,0,0]
def Ds (f: (OR')→(OR')→OR') (k: KT): OR':=f (k Ex.ret ((St.mk (aF 0 18 [(4,(AV.bool false))]) ([]: (List (Nat×(Ob))))))) (k (Ex.exit 0) ((St.mk (aF 0 18 []) ([]: (List (Nat×(Ob)))))))
def Dt (n: Nat) (d: allTok_p2.D): KT→OR':=Ds (im n d.1.1 d.1.2.2.1)
def KV (N: Nat): Lam:=bH [⟨2,allTok_p2,Dt N⟩]
theorem N1 (N: Nat): OkL Kx allTok_C.s KU 0 N (KV N) Dq:=okL allTok_p2 (Dt) (fun d kR=>Ds (nl d.1.1 d.1.2.2.1 (fun aD aH=>kR ((aD,(),aH,()),())))) (fun _ _=>by kernel_rfl) (fun _ _ _=>by kernel_rfl) (fun _ _=>by kernel_rfl) (fun _ _ _ _=>by kernel_rfl) (al (l':=[]) (by kernel_rfl) trivial)
def xj (N: Nat) (s: aa): OR':=(im N s 0 (some ((AV.bool false),[])) (some ((AV.bool true),[])))
def pw (φ: aa→Br): List AV→List Ob→Br
 | [.str s, .fn 259 []],[]=>φ s
 | _,_=> .fail
theorem G3 {φ: aa→Br} (fu: aa→Nat) (hv: ∀ s res_,(φ s).val=some res_→xj (fu s) s=some res_): Sound Kx 74 (pw φ):=ap (C:=allTok_C) (O:=KU) Tryz.func74 (by kernel_rfl) fun args objs=>by
 unfold pw;split
 · rename_i s;exact .inr fun _ hyp_=>aO (Λ:=KV (fu s)) (by kernel_rfl) (al (l':=[Dq]) (by kernel_rfl) ⟨N1 _,trivial⟩) (by kernel_rfl) (hv s _ hyp_)
 · exact .inl rfl
def abr: SC:=[⟨118,_,nj⟩]
def zR (s t: aa): Br:=(.ite (isM s) (.ite (isM t) (.ret (AV.bool (decide ((ay s)=(ay t)))) []) .fail) .fail)
def RF: List AV→List Ob→Br
 | [.str s, .str t],[]=>zR s t
 | _,_=> .fail
theorem isame_ok: Sound Kx 124 RF:=ae (C:=abr) (O:=O0) Tryz.func124 (by kernel_rfl) fun args objs=>by
 unfold RF;split
 · exact .inr (by kernel_rfl)
 · exact .inl rfl
def abs: SC:=[⟨91,_,ik⟩]
def zS (s t: aa): Br:=(.ite (isM s) (.ite (isM t) (.ret (AV.bool (decide ((ay s)=(ay t)))) []) .fail) .fail)
def RG: List AV→List Ob→Br
 | [.str s, .str t],[]=>zS s t
 | _,_=> .fail
theorem ssame_ok: Sound Kx 128 RG:=ae (C:=abs) (O:=O0) Tryz.func128 (by kernel_rfl) fun args objs=>by
 unfold RG;split
 · exact .inr (by kernel_rfl)
 · exact .inl rfl
def N2: SC:=[⟨74,_,Do⟩]
def lK (s: aa): Br:=(.ite (decide ((s.length: Int)≤40)) (.ite (isM s) (.ret (AV.bool (aP jz s)) []) .fail) (.ret (AV.bool false) []))
def xk: List AV→List Ob→Br
 | [.str s],[]=>lK s
 | _,_=> .fail
theorem G4: Sound Kx 175 xk:=ae (C:=N2) (O:=O0) Tryz.func175 (by kernel_rfl) fun args objs=>by
 unfold xk;split
 · exact .inr (by kernel_rfl)
 · exact .inl rfl
def N3: SC:=[⟨201,_,dx⟩,⟨74,_,kA⟩]
def lL (s: aa): Br:=(.ite (decide (1≤(s.length: Int))) (.ite (decide ((s.length: Int)≤200)) (.ite (isM s) (.ret (AV.bool (aP cZ s)) []) .fail) (.ret (AV.bool false) [])) (.ret (AV.bool false) []))
def xl: List AV→List Ob→Br
 | [.str s],[]=>lL s
 | _,_=> .fail
theorem G5: Sound Kx 173 xl:=ae (C:=N3) (O:=O0) Tryz.func173 (by kernel_rfl) fun args objs=>by
 unfold xl;split
 · exact .inr (by kernel_rfl)
 · exact .inl rfl
theorem N4: Sound Kx 240 W2:=stchar_ok.of fun args objs r h=>by
 unfold W2 at h;split at h
 · rename_i b
   obtain ⟨h1,h2⟩:=ai h
   have h3:=h1
   simp only [Bool.and_eq_true,decide_eq_true_eq] at h3
   rw [← h2]
   show (t7 b).val=_
   unfold t7 nh jy
   have hm: isM ((33 : UInt8)::35::36::37::38::39::42::43::45::46::94::95::124::126::[])=true:=by decide
   have hh: cH ((33 : UInt8)::35::36::37::38::39::42::43::45::46::94::95::124::126::[]) b=tokSet.any fun c=>decide (by8 c=b):=rfl
   simp only [Br.val,h1,hm,hh]
   unfold fM C5
   by_cases g1: 65≤b <;> by_cases g2: b≤90 <;> by_cases g3: 97≤b <;> by_cases g4: b≤122 <;> first | (exfalso;omega) | skip
   all_goals simp only [g1,g2,g3,g4,decide_true,decide_false,Bool.and_true,Bool.and_false,Bool.false_and,Bool.true_and,cond_true,cond_false,Bool.true_or,Bool.false_or]
   all_goals first
    | rfl
    | (have e1: (97 : Int)≤b + 32:=by omega
       have e2: b + 32≤122:=by omega
       simp only [e1,e2,decide_true])
    | (cases aB b <;> cases decide (b=96) <;> rfl)
 · cases h
theorem G6 (l: aa) (hl: l.length≤4611686018427387904) (k0 k1: OR'): ∀ (r: aa) (i: Int) (n: Nat),At l i r→r.length < n→im n l i k0 k1=bif aP nh r then k1 else k0:=by
 intro r;induction r with
 | nil=>intro i n h hn;obtain ⟨n,rfl⟩:=bL hn;unfold im nl;simp only [h.dge,cond_false,aP,List.all_nil,cond_true]
 | cons a r ih=>
   intro i n h hn;obtain ⟨n,rfl⟩:=bL hn
   have hs:=ih (i + 1) n h.step (by simp at hn;omega)
   have e0: (decide (0≤by8 a)&&decide (by8 a < 256))=true:=by simp only [Bool.and_eq_true,decide_eq_true_eq];exact ⟨J3 a,J4 a⟩
   unfold im nl;simp only [h.dlt,h.dnn,h.str,cond_true,h.next hl,hs,aP,List.all_cons,e0]
   cases nh (by8 a) <;> rfl
def W6:=pw fun s=> .ite (isM s) (.ret (.bool (aP nh s)) []) .fail
theorem N5: Sound Kx 74 W6:=by
 refine G3 (fun s=>s.length + 1) fun s r h=>?_
 obtain ⟨h1,h2⟩:=ai h
 unfold xj
 rw [G6 s (fh h1) _ _ s 0 _ (At.start s) (by omega),← h2]
 cases aP nh s <;> rfl
def np (s t: aa): Bool:=decide (ay s=ay t)
def KW: List AV→List Ob→Br
 | [.str s, .str t],[]=> .ite (isM s&&isM t) (.ret (.bool (np s t)) []) .fail
 | _,_=> .fail
theorem RH: Sound Kx 124 KW:=isame_ok.of fun args objs r h=>by
 unfold KW at h;split at h
 · rename_i s t
   obtain ⟨h1,h2⟩:=ai h
   rw [Bool.and_eq_true] at h1
   rw [← h2]
   show (zR s t).val=_
   unfold zR np
   simp only [Br.val,h1.1,h1.2]
 · cases h
theorem RI: Sound Kx 128 KW:=ssame_ok.of fun args objs r h=>by
 unfold KW at h;split at h
 · rename_i s t
   obtain ⟨h1,h2⟩:=ai h
   rw [Bool.and_eq_true] at h1
   rw [← h2]
   show (zS s t).val=_
   unfold zS np
   simp only [Br.val,h1.1,h1.2]
 · cases h
def abt (p: aa→AV): List AV→List Ob→Br
 | [.str s],[]=> .ret (p s) []
 | _,_=> .fail
theorem RJ {n: Nat} {s: List AV→List Ob→Br} (hs: Sound Kx n s) {p: aa→AV} (h: ∀ x,(s [.str x] []).val=some (p x,[])): Sound Kx n (abt p):=hs.of fun args objs r hv=>by
 unfold abt at hv
 split at hv
 · rw [h];exact hv
 · cases hv
theorem bn {s: aa} {n: Nat} (h: s.length≤n) (hn: n≤4611686018427387904:=by decide): isM s=true:=dT' (Nat.le_trans h hn)
def lM (s: aa): Bool:=decide (s.length≤40)&&aP jz s
def lN (s: aa): Bool:=decide (1≤s.length)&&decide (s.length≤200)&&aP cZ s
theorem G7 (s: aa) (n: Nat): decide ((s.length: Int)≤(n: Int))=decide (s.length≤n):=by congr 1;apply propext;omega
theorem Du: Sound Kx 175 (abt fun s=> .bool (lM s)):=RJ G4 fun s=>by
 show (lK s).val=_
 unfold lK lM
 by_cases h: s.length≤40
 · have h': (s.length: Int)≤40:=by omega
   simp only [Br.val,h,h',decide_true,bn h,Bool.true_and]
 · have h': ¬ (s.length: Int)≤40:=by omega
   simp only [Br.val,h,h',decide_false,Bool.false_and]
theorem Dv: Sound Kx 173 (abt fun s=> .bool (lN s)):=RJ G5 fun s=>by
 show (lL s).val=_
 unfold lL lN
 by_cases h: 1≤s.length
 · have h': (1 : Int)≤(s.length: Int):=by omega
   by_cases g: s.length≤200
   · have g': (s.length: Int)≤200:=by omega
     simp only [Br.val,h,h',g,g',decide_true,bn g,Bool.true_and]
   · have g': ¬ (s.length: Int)≤200:=by omega
     simp only [Br.val,h,h',g,g',decide_true,decide_false,Bool.true_and,Bool.false_and]
 · have h': ¬ (1 : Int)≤(s.length: Int):=by omega
   simp only [Br.val,h,h',decide_false,Bool.false_and]
def W7: SC:=[⟨201,_,dx⟩,⟨74,_,N5⟩]
def t8 (s: aa): Br:=(.ite (decide (1≤(s.length: Int))) (.ite (decide ((s.length: Int)≤4000)) (.ite (isM s) (.ret (AV.bool (aP nh s)) []) .fail) (.ret (AV.bool false) [])) (.ret (AV.bool false) []))
def KX: List AV→List Ob→Br
 | [.str s],[]=>t8 s
 | _,_=> .fail
theorem RK: Sound Kx 220 KX:=ae (C:=W7) (O:=O0) Tryz.func220 (by kernel_rfl) fun args objs=>by
 unfold KX;split
 · exact .inr (by kernel_rfl)
 · exact .inl rfl
def KY: Opt:={ live:=[(4,[0,3])],outs:=[(4,[2])] }
def sToken_C: SC:=[⟨240,_,N4⟩]
def nq (a_: aa) (a8: Int) (kR4: aa→Int→OR') (eK kX: OR'): OR':=
 (bif (decide (a8 < (a_.length: Int))) then (bif (decide (0≤a8)) then (bif (decide (a8 < (a_.length: Int))) then (bif ((decide (0≤(aq a_ a8)))&&(decide ((aq a_ a8) < 256))) then (bif (!(nh (aq a_ a8))) then eK else (kR4 a_ (ad (a8 + 1)))) else none) else none) else none) else kX)
def io: Nat→aa→Int→(OR')→(OR')→OR'
 | 0,_,_,_,_=>none
 | n + 1,a_,a8,eK,kX=>nq a_ a8 (fun a_ a8=>io n a_ a8 eK kX) eK kX
abbrev sToken_p4: SP:=⟨23,[0,3],[(.v .s),(.v (.i .i64))],[]⟩
noncomputable def Dw: Code:=aC (aG Tryz.f187) [1,1,0,1,0,0]
def Dx (f: (OR')→(OR')→OR') (k: KT): OR':=f (k Ex.ret ((St.mk (aF 0 23 [(2,(AV.bool false))]) ([]: (List (Nat×(Ob))))))) (k (Ex.exit 0) ((St.mk (aF 0 23 []) ([]: (List (Nat×(Ob)))))))
def Dy (n: Nat) (d: sToken_p4.D): KT→OR':=Dx (io n d.1.1 d.1.2.1)
def KZ (N: Nat): Lam:=bH [⟨4,sToken_p4,Dy N⟩]
theorem N6 (N: Nat): OkL Kx sToken_C.s KY 0 N (KZ N) Dw:=okL sToken_p4 (Dy) (fun d kR=>Dx (nq d.1.1 d.1.2.1 (fun a_ a8=>kR ((a_,a8,()),())))) (fun _ _=>by kernel_rfl) (fun _ _ _=>by kernel_rfl) (fun _ _=>by kernel_rfl) (fun _ _ _ _=>by kernel_rfl) (al (l':=[]) (by kernel_rfl) trivial)
def xm (N: Nat) (s: aa): OR':=(bif (decide ((s.length: Int)=0)) then (some ((AV.bool false),[])) else (bif (decide (4000 < (s.length: Int))) then (some ((AV.bool false),[])) else (io N s 0 (some ((AV.bool false),[])) (some ((AV.bool true),[])))))
def xn (φ: aa→Br): List AV→List Ob→Br
 | [.str s],[]=>φ s
 | _,_=> .fail
theorem G8 {φ: aa→Br} (fu: aa→Nat) (hv: ∀ s res_,(φ s).val=some res_→xm (fu s) s=some res_): Sound Kx 187 (xn φ):=ap (C:=sToken_C) (O:=KY) Tryz.func187 (by kernel_rfl) fun args objs=>by
 unfold xn;split
 · rename_i s;exact .inr fun _ hyp_=>aO (Λ:=KZ (fu s)) (by kernel_rfl) (al (l':=[Dw]) (by kernel_rfl) ⟨N6 _,trivial⟩) (by kernel_rfl) (hv s _ hyp_)
 · exact .inl rfl
theorem xo: Sound Kx 220 (abt fun s=> .bool (C8 s)):=RJ RK fun s=>by
 show (t8 s).val=_
 unfold t8 C8
 by_cases h: 1≤s.length
 · have h': (1 : Int)≤(s.length: Int):=by omega
   by_cases g: s.length≤4000
   · have g': (s.length: Int)≤4000:=by omega
     simp only [Br.val,h,h',g,g',decide_true,bn g,Bool.true_and]
   · have g': ¬ (s.length: Int)≤4000:=by omega
     simp only [Br.val,h,h',g,g',decide_true,decide_false,Bool.true_and,Bool.false_and]
 · have h': ¬ (1 : Int)≤(s.length: Int):=by omega
   simp only [Br.val,h,h',decide_false,Bool.false_and]
theorem G9 (l: aa) (hl: l.length≤4611686018427387904) (k0 k1: OR'): ∀ (r: aa) (i: Int) (n: Nat),At l i r→r.length < n→io n l i k0 k1=bif aP nh r then k1 else k0:=by
 intro r;induction r with
 | nil=>intro i n h hn;obtain ⟨n,rfl⟩:=bL hn;unfold io nq;simp only [h.dge,cond_false,aP,List.all_nil,cond_true]
 | cons a r ih=>
   intro i n h hn;obtain ⟨n,rfl⟩:=bL hn
   have hs:=ih (i + 1) n h.step (by simp at hn;omega)
   have e0: (decide (0≤by8 a)&&decide (by8 a < 256))=true:=by simp only [Bool.and_eq_true,decide_eq_true_eq];exact ⟨J3 a,J4 a⟩
   unfold io nq;simp only [h.dlt,h.dnn,h.str,cond_true,h.next hl,hs,aP,List.all_cons,e0]
   cases nh (by8 a) <;> rfl
theorem xp: Sound Kx 187 (abt fun s=> .bool (C8 s)):=by
 refine RJ (G8 (φ:=fun s=> .ret (.bool (C8 s)) []) (fun s=>s.length + 1) fun s r h=>?_) fun _=>rfl
 cases h
 unfold xm C8
 by_cases h: s.length=0
 · have: s=[]:=List.length_eq_zero_iff.1 h
   subst this;rfl
 · by_cases g: s.length≤4000
   · have h': ¬ (s.length: Int)=0:=by omega
     have h1: 1≤s.length:=by omega
     have g': ¬ (4000 : Int) < (s.length: Int):=by omega
     simp only [h',g',g,h1,decide_true,decide_false,cond_false,Bool.true_and]
     rw [G9 s (by omega) _ _ s 0 _ (At.start s) (by omega)]
     cases aP nh s <;> rfl
   · have h': ¬ (s.length: Int)=0:=by omega
     have g': (4000 : Int) < (s.length: Int):=by omega
     simp only [h',g',g,decide_true,decide_false,cond_false,cond_true,Bool.and_false,Bool.false_and]
def N7: SC:=[⟨220,_,xo⟩]
def lO (s: aa): Br:=(.ite (C8 s) (.ret (AV.bool (decide ((s.length: Int)≤20))) []) (.ret (AV.bool false) []))
def xq: List AV→List Ob→Br
 | [.str s],[]=>lO s
 | _,_=> .fail
theorem G_: Sound Kx 172 xq:=ae (C:=N7) (O:=O0) Tryz.func172 (by kernel_rfl) fun args objs=>by
 unfold xq;split
 · exact .inr (by kernel_rfl)
 · exact .inl rfl
def N8: Opt:={ split:=true }
def N9: SC:=[⟨220,_,xo⟩,⟨74,_,Do⟩,⟨180,_,nk⟩]
def lP (a b: aa): Br:=(.ite (C8 a) (.ite (decide ((a.length: Int)≤40)) (.ite (decide ((b.length: Int)≤190)) (.ite (isM b) (.ite (aP jz b) (.ite (isM b) (.ite (decide ((aE b)=b)) (.ret (AV.bool true) []) (.ret (AV.bool false) [])) .fail) (.ret (AV.bool false) [])) .fail) (.ret (AV.bool false) [])) (.ret (AV.bool false) [])) (.ret (AV.bool false) []))
def xr: List AV→List Ob→Br
 | [.agg [.str a, .str b]],[]=>lP a b
 | _,_=> .fail
theorem Ha: Sound Kx 158 xr:=ae (C:=N9) (O:=N8) Tryz.func158 (by kernel_rfl) fun args objs=>by
 unfold xr;split
 · exact .inr (by kernel_rfl)
 · exact .inl rfl
def N_: Opt:={ split:=true }
def Oa: SC:=[⟨187,_,xp⟩,⟨189,_,tZ⟩,⟨224,_,tY⟩]
def lQ (a b: aa): Br:=(.ite (decide ((a.length: Int)≤40)) (.ite (C8 a) (.ite (decide ((b.length: Int)≤190)) (.ite (isM b) (.ite (aP jz b) (.ite (isM b) (.ite (decide ((aE b)=b)) (.ret (AV.bool true) []) (.ret (AV.bool false) [])) .fail) (.ret (AV.bool false) [])) .fail) (.ret (AV.bool false) [])) (.ret (AV.bool false) [])) (.ret (AV.bool false) []))
def xu: List AV→List Ob→Br
 | [.agg [.str a, .str b]],[]=>lQ a b
 | _,_=> .fail
theorem Hb: Sound Kx 168 xu:=ae (C:=Oa) (O:=N_) Tryz.func168 (by kernel_rfl) fun args objs=>by
 unfold xu;split
 · exact .inr (by kernel_rfl)
 · exact .inl rfl
def Oc: SC:=[⟨187,_,xp⟩,⟨188,_,sk⟩]
def lR (me ta: aa) (st: Int) (re: aa) (ba: Bool) (fs: List (aa×aa)) (bo: aa): Br:=(.ite (decide ((me.length: Int)≤20)) (.ite (C8 me) (.ite (decide ((ta.length: Int)≤200)) (.ite (isM ta) (.ite ((aP cZ ta)&&(decide (0 < (ta.length: Int)))) (.ite (decide (st=0)) (.ite (decide (re=([]: aa))) (.ret (AV.bool (!ba)) []) (.ret (AV.bool false) [])) (.ret (AV.bool false) [])) (.ret (AV.bool false) [])) .fail) (.ret (AV.bool false) [])) (.ret (AV.bool false) [])) (.ret (AV.bool false) []))
def xw: List AV→List Ob→Br
 | [.agg [.str me, .str ta, .int .i64 st, .str re, .bool ba, .sh (.pair .str .str) fs, .str bo]],[]=>lR me ta st re ba fs bo
 | _,_=> .fail
theorem Hc: Sound Kx 111 xw:=ae (C:=Oc) (O:=O0) Tryz.func111 (by kernel_rfl) fun args objs=>by
 unfold xw;split
 · exact .inr (by kernel_rfl)
 · exact .inl rfl
def Od: SC:=[⟨189,_,tZ⟩,⟨190,_,C7⟩]
def lS (me ta: aa) (st: Int) (re: aa) (ba: Bool) (fs: List (aa×aa)) (bo: aa): Br:=(.ite (!(decide (ta=([]: aa)))) (.ret (AV.bool false) []) (.ite (decide (st < 200)) (.ret (AV.bool false) []) (.ite (decide (599 < st)) (.ret (AV.bool false) []) (.ite (decide (40 < (re.length: Int))) (.ret (AV.bool false) []) (.ite (isM re) (.ite (!(aP jz re)) (.ret (AV.bool false) []) (.ite ba (.ite (!(decide (bo=([]: aa)))) (.ret (AV.bool false) []) (.ite ba (.ret (AV.bool true) []) (.ret (AV.bool (!(zN st))) []))) (.ite ba (.ret (AV.bool true) []) (.ret (AV.bool (!(zN st))) [])))) .fail)))))
def xx: List AV→List Ob→Br
 | [.agg [.str me, .str ta, .int .i64 st, .str re, .bool ba, .sh (.pair .str .str) fs, .str bo]],[]=>lS me ta st re ba fs bo
 | _,_=> .fail
theorem Hd: Sound Kx 112 xx:=ae (C:=Od) (O:=O0) Tryz.func112 (by kernel_rfl) fun args objs=>by
 unfold xx;split
 · exact .inr (by kernel_rfl)
 · exact .inl rfl
abbrev Fd:=aa×aa
def nr (f: Fd): Bool:=C8 f.1&&decide (f.1.length≤40)&&decide (f.2.length≤190)&&aP jz f.2&&decide (aE f.2=f.2)
def ad9 (p: Fd→AV): List AV→List Ob→Br
 | [.agg [.str a, .str b]],[]=> .ret (p (a,b)) []
 | _,_=> .fail
theorem abu {n: Nat} {s: List AV→List Ob→Br} (hs: Sound Kx n s) {p: Fd→AV} (h: ∀ a b,(s [.agg [.str a, .str b]] []).val=some (p (a,b),[])): Sound Kx n (ad9 p):=hs.of fun args objs r hv=>by
 unfold ad9 at hv
 split at hv
 · rw [h];exact hv
 · cases hv
theorem Dz: Sound Kx 158 (ad9 fun f=> .bool (nr f)):=abu Ha fun a b=>by
 show (lP a b).val=_
 unfold lP nr
 have e1: decide ((a.length: Int)≤40)=decide (a.length≤40):=G7 a 40
 have e2: decide ((b.length: Int)≤190)=decide (b.length≤190):=G7 b 190
 simp only [e1,e2]
 by_cases h: b.length≤190
 · simp only [h,bn h,decide_true,Bool.and_true]
   cases C8 a <;> cases decide (a.length≤40) <;> cases aP jz b <;> cases decide (aE b=b) <;> rfl
 · simp only [h,decide_false]
   cases C8 a <;> cases decide (a.length≤40) <;> rfl
theorem qR: Sound Kx 168 (ad9 fun f=> .bool (nr f)):=abu Hb fun a b=>by
 show (lQ a b).val=_
 unfold lQ nr
 have e1: decide ((a.length: Int)≤40)=decide (a.length≤40):=G7 a 40
 have e2: decide ((b.length: Int)≤190)=decide (b.length≤190):=G7 b 190
 simp only [e1,e2]
 by_cases h: b.length≤190
 · simp only [h,bn h,decide_true,Bool.and_true]
   cases C8 a <;> cases decide (a.length≤40) <;> cases aP jz b <;> cases decide (aE b=b) <;> rfl
 · simp only [h,decide_false]
   cases C8 a <;> cases decide (a.length≤40) <;> rfl
def lT (s: aa): Bool:=C8 s&&decide (s.length≤20)
theorem DA: Sound Kx 172 (abt fun s=> .bool (lT s)):=RJ G_ fun s=>by
 show (lO s).val=_
 unfold lO lT
 have e1: decide ((s.length: Int)≤20)=decide (s.length≤20):=G7 s 20
 simp only [e1]
 exact zL _ _
abbrev Mg:=aa×aa×Int×aa×Bool×List Fd×aa
def ZO (me ta: aa) (st: Int) (re: aa) (ba: Bool): Bool:=lT me&&lN ta&&decide (st=0)&&decide (re=[])&& !ba
def W8 (ta: aa) (st: Int) (re: aa) (ba: Bool) (bo: aa): Bool:=decide (ta=[])&&NP st&&lM re&& !(ba&& !decide (bo=[]))&& !(zN st&& !ba)
def abv (p: Mg→AV): List AV→List Ob→Br
 | [.agg [.str me, .str ta, .int .i64 st, .str re, .bool ba, .sh (.pair .str .str) fs, .str bo]],[]=> .ret (p (me,ta,st,re,ba,fs,bo)) []
 | _,_=> .fail
theorem ad_ {n: Nat} {s: List AV→List Ob→Br} (hs: Sound Kx n s) {p: Mg→AV} (h: ∀ me ta st re ba fs bo,(s [.agg [.str me, .str ta, .int .i64 st, .str re, .bool ba, .sh (.pair .str .str) fs, .str bo]] []).val=some (p (me,ta,st,re,ba,fs,bo),[])): Sound Kx n (abv p):=hs.of fun args objs r hv=>by
 unfold abv at hv
 split at hv
 · rw [h];exact hv
 · cases hv
theorem DB: Sound Kx 111 (abv fun m=> .bool (ZO m.1 m.2.1 m.2.2.1 m.2.2.2.1 m.2.2.2.2.1)):=ad_ Hc fun me ta st re ba fs bo=>by
 show (lR me ta st re ba fs bo).val=some (.bool (ZO me ta st re ba),[])
 unfold lR ZO lT lN
 have e1: decide ((me.length: Int)≤20)=decide (me.length≤20):=G7 me 20
 have e2: decide ((ta.length: Int)≤200)=decide (ta.length≤200):=G7 ta 200
 have e3: decide ((0 : Int) < (ta.length: Int))=decide (1≤ta.length):=by congr 1;apply propext;omega
 simp only [e1,e2,e3]
 by_cases h: ta.length≤200
 · simp only [h,bn h,decide_true,Bool.and_true]
   cases decide (me.length≤20) <;> cases C8 me <;> cases aP cZ ta <;> cases decide (1≤ta.length) <;> cases decide (st=0) <;> cases decide (re=[]) <;> rfl
 · simp only [h,decide_false,Bool.and_false,Bool.false_and]
   cases decide (me.length≤20) <;> cases C8 me <;> rfl
theorem He: Sound Kx 112 (abv fun m=> .bool (W8 m.2.1 m.2.2.1 m.2.2.2.1 m.2.2.2.2.1 m.2.2.2.2.2.2)):=ad_ Hd fun me ta st re ba fs bo=>by
 show (lS me ta st re ba fs bo).val=some (.bool (W8 ta st re ba bo),[])
 unfold lS W8 lM NP
 have e1: decide ((40 : Int) < (re.length: Int))= !decide (re.length≤40):=by by_cases h: re.length≤40 <;> simp [h] <;> omega
 have e2: decide (st < 200)= !decide (200≤st):=by by_cases h: 200≤st <;> simp [h] <;> omega
 have e3: decide (599 < st)= !decide (st≤599):=by by_cases h: st≤599 <;> simp [h] <;> omega
 simp only [e1,e2,e3]
 by_cases h: re.length≤40
 · simp only [h,bn h,decide_true,Bool.not_true,Bool.true_and]
   cases decide (ta=[]) <;> cases decide (200≤st) <;> cases decide (st≤599) <;> cases aP jz re <;> cases ba <;> cases decide (bo=[]) <;> cases zN st <;> rfl
 · simp only [h,decide_false,Bool.not_false,Bool.false_and,Bool.and_false]
   cases decide (ta=[]) <;> cases decide (200≤st) <;> cases decide (st≤599) <;> rfl
def t_: Opt:={ live:=[(4,[8,9,10])],outs:=[(4,[2])] }
def iFieldsOk_C: SC:=[⟨158,_,Dz⟩]
def gP (a_: (List Fd)) (a8 aQ: Int) (kR4: (List Fd)→Int→Int→OR') (eK kX: OR'): OR':=
 (bif (decide (aQ < a8)) then (bif (decide (0≤aQ)) then (bif (decide (aQ < (a_.length: Int))) then (bif (!(nr ((List.getD a_ (Int.toNat aQ) (([]: aa),([]: aa))).1,(List.getD a_ (Int.toNat aQ) (([]: aa),([]: aa))).2))) then eK else (kR4 a_ a8 (ad (aQ + 1)))) else none) else none) else kX)
def d_: Nat→(List Fd)→Int→Int→(OR')→(OR')→OR'
 | 0,_,_,_,_,_=>none
 | n + 1,a_,a8,aQ,eK,kX=>gP a_ a8 aQ (fun a_ a8 aQ=>d_ n a_ a8 aQ eK kX) eK kX
abbrev iFieldsOk_p4: SP:=⟨18,[8,9,10],[(.v (.sh (Ty.pair Ty.str Ty.str))),(.v (.i .i64)),(.v (.i .i64))],[]⟩
noncomputable def qS: Code:=aC (aG Tryz.f84) [1,1,0,1,0,0]
def qT (f: (OR')→(OR')→OR') (k: KT): OR':=f (k Ex.ret ((St.mk (aF 0 18 [(2,(AV.bool false))]) ([]: (List (Nat×(Ob))))))) (k (Ex.exit 0) ((St.mk (aF 0 18 []) ([]: (List (Nat×(Ob)))))))
def qU (n: Nat) (d: iFieldsOk_p4.D): KT→OR':=qT (d_ n d.1.1 d.1.2.1 d.1.2.2.1)
def ua (N: Nat): Lam:=bH [⟨4,iFieldsOk_p4,qU N⟩]
theorem zT (N: Nat): OkL Kx iFieldsOk_C.s t_ 0 N (ua N) qS:=okL iFieldsOk_p4 (qU) (fun d kR=>qT (gP d.1.1 d.1.2.1 d.1.2.2.1 (fun a_ a8 aQ=>kR ((a_,a8,aQ,()),())))) (fun _ _=>by kernel_rfl) (fun _ _ _=>by kernel_rfl) (fun _ _=>by kernel_rfl) (fun _ _ _ _=>by kernel_rfl) (al (l':=[]) (by kernel_rfl) trivial)
def nt (N: Nat) (l: List Fd): OR':=(bif (decide (20 < (l.length: Int))) then (some ((AV.bool false),[])) else (d_ N l (l.length: Int) 0 (some ((AV.bool false),[])) (some ((AV.bool true),[]))))
def nu (φ: (List Fd)→Br): List AV→List Ob→Br
 | [.sh (.pair .str .str) l],[]=>φ l
 | _,_=> .fail
theorem wo {φ: (List Fd)→Br} (fu: (List Fd)→Nat) (hv: ∀ l res_,(φ l).val=some res_→nt (fu l) l=some res_): Sound Kx 84 (nu φ):=ap (C:=iFieldsOk_C) (O:=t_) Tryz.func84 (by kernel_rfl) fun args objs=>by
 unfold nu;split
 · rename_i l;exact .inr fun _ hyp_=>aO (Λ:=ua (fu l)) (by kernel_rfl) (al (l':=[qS]) (by kernel_rfl) ⟨zT _,trivial⟩) (by kernel_rfl) (hv l _ hyp_)
 · exact .inl rfl
def ub: Opt:={ live:=[(4,[0,3])],outs:=[(4,[2])] }
def sFieldsOk_C: SC:=[⟨168,_,qR⟩]
def gQ (a_: (List Fd)) (a8: Int) (kR4: (List Fd)→Int→OR') (eK kX: OR'): OR':=
 (bif (decide (a8 < (a_.length: Int))) then (bif (decide (0≤a8)) then (bif (decide (a8 < (a_.length: Int))) then (bif (!(nr ((List.getD a_ (Int.toNat a8) (([]: aa),([]: aa))).1,(List.getD a_ (Int.toNat a8) (([]: aa),([]: aa))).2))) then eK else (kR4 a_ (ad (a8 + 1)))) else none) else none) else kX)
def eb: Nat→(List Fd)→Int→(OR')→(OR')→OR'
 | 0,_,_,_,_=>none
 | n + 1,a_,a8,eK,kX=>gQ a_ a8 (fun a_ a8=>eb n a_ a8 eK kX) eK kX
abbrev sFieldsOk_p4: SP:=⟨19,[0,3],[(.v (.sh (Ty.pair Ty.str Ty.str))),(.v (.i .i64))],[]⟩
noncomputable def qV: Code:=aC (aG Tryz.f96) [1,1,0,1,0,0]
def qW (f: (OR')→(OR')→OR') (k: KT): OR':=f (k Ex.ret ((St.mk (aF 0 19 [(2,(AV.bool false))]) ([]: (List (Nat×(Ob))))))) (k (Ex.exit 0) ((St.mk (aF 0 19 []) ([]: (List (Nat×(Ob)))))))
def qX (n: Nat) (d: sFieldsOk_p4.D): KT→OR':=qW (eb n d.1.1 d.1.2.1)
def uc (N: Nat): Lam:=bH [⟨4,sFieldsOk_p4,qX N⟩]
theorem zU (N: Nat): OkL Kx sFieldsOk_C.s ub 0 N (uc N) qV:=okL sFieldsOk_p4 (qX) (fun d kR=>qW (gQ d.1.1 d.1.2.1 (fun a_ a8=>kR ((a_,a8,()),())))) (fun _ _=>by kernel_rfl) (fun _ _ _=>by kernel_rfl) (fun _ _=>by kernel_rfl) (fun _ _ _ _=>by kernel_rfl) (al (l':=[]) (by kernel_rfl) trivial)
def nv (N: Nat) (l: List Fd): OR':=(bif (decide (20 < (l.length: Int))) then (some ((AV.bool false),[])) else (eb N l 0 (some ((AV.bool false),[])) (some ((AV.bool true),[]))))
def nw (φ: (List Fd)→Br): List AV→List Ob→Br
 | [.sh (.pair .str .str) l],[]=>φ l
 | _,_=> .fail
theorem wq {φ: (List Fd)→Br} (fu: (List Fd)→Nat) (hv: ∀ l res_,(φ l).val=some res_→nv (fu l) l=some res_): Sound Kx 96 (nw φ):=ap (C:=sFieldsOk_C) (O:=ub) Tryz.func96 (by kernel_rfl) fun args objs=>by
 unfold nw;split
 · rename_i l;exact .inr fun _ hyp_=>aO (Λ:=uc (fu l)) (by kernel_rfl) (al (l':=[qV]) (by kernel_rfl) ⟨zU _,trivial⟩) (by kernel_rfl) (hv l _ hyp_)
 · exact .inl rfl
def DC: SC:=[⟨168,_,qR⟩]
def jc (a b: aa): Br:=(.ite (!(nr (a,b))) (.ret (AV.str ([]: aa)) []) (.ite (decide ((a.length + 2)≤9223372036854775807)) (.ite (decide (((List.length (a++([58,32]: aa))) + b.length)≤9223372036854775807)) (.ret (AV.str ((a++([58,32]: aa))++b)) []) .fail) .fail))
def qY: List AV→List Ob→Br
 | [.agg [.str a, .str b]],[]=>jc a b
 | _,_=> .fail
theorem zV: Sound Kx 192 qY:=ae (C:=DC) (O:=O0) Tryz.func192 (by kernel_rfl) fun args objs=>by
 unfold qY;split
 · exact .inr (by kernel_rfl)
 · exact .inl rfl
def cw (l: List Fd): Bool:=decide (l.length≤20)&&l.all nr
def ZP (p: List Fd→AV): List AV→List Ob→Br
 | [.sh (.pair .str .str) l],[]=> .ret (p l) []
 | _,_=> .fail
theorem aea {n: Nat} {s: List AV→List Ob→Br} (hs: Sound Kx n s) {p: List Fd→AV} (h: ∀ l,(s [.sh (.pair .str .str) l] []).val=some (p l,[])): Sound Kx n (ZP p):=hs.of fun args objs r hv=>by
 unfold ZP at hv
 split at hv
 · rw [h];exact hv
 · cases hv
theorem ZQ {α: Type} (l: List α) (n: Nat): decide ((n: Int) < (l.length: Int))= !decide (l.length≤n):=by by_cases h: l.length≤n <;> simp [h] <;> omega
theorem wt (l: List Fd) (hl: l.length≤4611686018427387904) (k0 k1: OR'): ∀ (r: List Fd) (i: Int) (n: Nat),At l i r→r.length < n→d_ n l (l.length: Int) i k0 k1=bif r.all nr then k1 else k0:=by
 intro r;induction r with
 | nil=>intro i n h hn;obtain ⟨n,rfl⟩:=bL hn;unfold d_ gP;simp only [h.dge,cond_false,List.all_nil,cond_true]
 | cons a r ih=>
   intro i n h hn;obtain ⟨n,rfl⟩:=bL hn
   have hs:=ih (i + 1) n h.step (by simp at hn;omega)
   unfold d_ gP;simp only [h.dlt,h.dnn,h.get,cond_true,h.next hl,hs,List.all_cons]
   cases nr a <;> rfl
theorem dy: Sound Kx 84 (ZP fun l=> .bool (cw l)):=by
 refine aea (wo (φ:=fun l=> .ret (.bool (cw l)) []) (fun l=>l.length + 1) fun l r h=>?_) fun _=>rfl
 cases h
 unfold nt cw
 have e:=ZQ l 20
 simp only [show ((20 : Nat): Int)=20 from rfl] at e
 rw [e]
 by_cases h: l.length≤20
 · simp only [h,decide_true,Bool.not_true,cond_false,Bool.true_and]
   rw [wt l (by omega) _ _ l 0 _ (At.start l) (by omega)]
   cases l.all nr <;> rfl
 · simp only [h,decide_false,Bool.not_false,cond_true,Bool.false_and]
theorem wu (l: List Fd) (hl: l.length≤4611686018427387904) (k0 k1: OR'): ∀ (r: List Fd) (i: Int) (n: Nat),At l i r→r.length < n→eb n l i k0 k1=bif r.all nr then k1 else k0:=by
 intro r;induction r with
 | nil=>intro i n h hn;obtain ⟨n,rfl⟩:=bL hn;unfold eb gQ;simp only [h.dge,cond_false,List.all_nil,cond_true]
 | cons a r ih=>
   intro i n h hn;obtain ⟨n,rfl⟩:=bL hn
   have hs:=ih (i + 1) n h.step (by simp at hn;omega)
   unfold eb gQ;simp only [h.dlt,h.dnn,h.get,cond_true,h.next hl,hs,List.all_cons]
   cases nr a <;> rfl
theorem nx: Sound Kx 96 (ZP fun l=> .bool (cw l)):=by
 refine aea (wq (φ:=fun l=> .ret (.bool (cw l)) []) (fun l=>l.length + 1) fun l r h=>?_) fun _=>rfl
 cases h
 unfold nv cw
 have e:=ZQ l 20
 simp only [show ((20 : Nat): Int)=20 from rfl] at e
 rw [e]
 by_cases h: l.length≤20
 · simp only [h,decide_true,Bool.not_true,cond_false,Bool.true_and]
   rw [wu l (by omega) _ _ l 0 _ (At.start l) (by omega)]
   cases l.all nr <;> rfl
 · simp only [h,decide_false,Bool.not_false,cond_true,Bool.false_and]
def jP (f: Fd): aa:=f.1++58::32::f.2
theorem jd {f: Fd} (h: nr f=true): f.1.length≤40∧f.2.length≤190:=by
 unfold nr at h;simp only [Bool.and_eq_true,decide_eq_true_eq] at h;exact ⟨h.1.1.1.2,h.1.1.2⟩
theorem wv: Sound Kx 192 (ad9 fun f=> .str (bif nr f then jP f else [])):=abu zV fun a b=>by
 show (jc a b).val=_
 unfold jc
 by_cases h: nr (a,b)=true
 · have hl:=jd h
   simp only at hl
   have e1: decide (a.length + 2≤9223372036854775807)=true:=dT' (by omega)
   have e2: decide ((a++[58,32]).length + b.length≤9223372036854775807)=true:=dT' (by simp;omega)
   simp only [h,Br.val,Bool.not_true,e1,e2,cond_true]
   simp [jP]
 · simp only [Bool.not_eq_true] at h
   simp only [h,Br.val,Bool.not_false,cond_false]
def DD: Opt:={ live:=[(5,[1,5,11,12,13])],outs:=[(5,[4,5])] }
def iValues_C: SC:=[⟨84,_,dy⟩,⟨124,_,RH⟩]
def kB (aZ: aa) (bi: (List Fd)) (a7 dm: Int) (fe: (List aa)) (kR5: aa→(List Fd)→Int→Int→(List aa)→OR') (eg: (List aa)→OR'): OR':=
 (bif (decide (dm < a7)) then (bif (decide (0≤dm)) then (bif (decide (dm < (bi.length: Int))) then (bif ((isM (List.getD bi (Int.toNat dm) (([]: aa),([]: aa))).1)&&(isM aZ)) then (bif (np (List.getD bi (Int.toNat dm) (([]: aa),([]: aa))).1 aZ) then (bif (decide (((fe.length + (List.length (List.set (List.replicate 1 ([]: aa)) 0 (List.getD bi (Int.toNat dm) (([]: aa),([]: aa))).2))) * 16)≤140737488355328)) then (kR5 aZ bi a7 (ad (dm + 1)) (fe++(List.set (List.replicate 1 ([]: aa)) 0 (List.getD bi (Int.toNat dm) (([]: aa),([]: aa))).2))) else none) else (kR5 aZ bi a7 (ad (dm + 1)) fe)) else none) else none) else none) else (eg fe))
def fY: Nat→aa→(List Fd)→Int→Int→(List aa)→((List aa)→OR')→OR'
 | 0,_,_,_,_,_,_=>none
 | n + 1,aZ,bi,a7,dm,fe,eg=>kB aZ bi a7 dm fe (fun aZ bi a7 dm fe=>fY n aZ bi a7 dm fe eg) eg
abbrev iValues_p5: SP:=⟨28,[1,5,11,12,13],[(.v .s),(.v (.ref 384 0)),(.v (.sh (Ty.pair Ty.str Ty.str))),(.v (.i .i64)),(.v (.i .i64))],[(384, .arr Ty.str 0 false)]⟩
noncomputable def xy: Code:=aC (aG Tryz.f47) [1,1,1,0,1,0,0]
def xz (f: ((List aa)→OR')→OR') (k: KT): OR':=f (fun av=>k (Ex.exit 0) ((St.mk (aF 0 28 [(5,(AV.ref 384 0))]) ((384,(Ob.arr Ty.str 0 false av))::([]: (List (Nat×(Ob))))))))
def xA (n: Nat) (d: iValues_p5.D): KT→OR':=xz (fY n d.1.1 d.1.2.2.1 d.1.2.2.2.1 d.1.2.2.2.2.1 d.2.1)
def DE (N: Nat): Lam:=bH [⟨5,iValues_p5,xA N⟩]
theorem Hf (N: Nat): OkL Kx iValues_C.s DD 0 N (DE N) xy:=okL iValues_p5 (xA) (fun d kR=>xz (kB d.1.1 d.1.2.2.1 d.1.2.2.2.1 d.1.2.2.2.2.1 d.2.1 (fun aZ bi a7 dm fe=>kR ((aZ,(),bi,a7,dm,()),(fe,()))))) (fun _ _=>by kernel_rfl) (fun _ _ _=>by kernel_rfl) (fun _ _=>by kernel_rfl) (fun _ _ _ _=>by kernel_rfl) (al (l':=[]) (by kernel_rfl) trivial)
def ue (N: Nat) (l: List Fd) (name: aa): OR':=(bif (!(cw l)) then (some ((AV.ref 0 0),[.arr Ty.str 0 false ([]: (List aa))])) else (fY N name l (l.length: Int) 0 ([]: (List aa)) (fun av=>(some ((AV.ref 0 0),[.arr Ty.str 0 false av])))))
def uf (φ: (List Fd)→aa→Br): List AV→List Ob→Br
 | [.sh (.pair .str .str) l, .str name],[]=>φ l name
 | _,_=> .fail
theorem DF {φ: (List Fd)→aa→Br} (fu: (List Fd)→aa→Nat) (hv: ∀ l name res_,(φ l name).val=some res_→ue (fu l name) l name=some res_): Sound Kx 47 (uf φ):=ap (C:=iValues_C) (O:=DD) Tryz.func47 (by kernel_rfl) fun args objs=>by
 unfold uf;split
 · rename_i l name;exact .inr fun _ hyp_=>aO (Λ:=DE (fu l name)) (by kernel_rfl) (al (l':=[xy]) (by kernel_rfl) ⟨Hf _,trivial⟩) (by kernel_rfl) (hv l name _ hyp_)
 · exact .inl rfl
def DG: Opt:={ live:=[(5,[0,1,5,6])],outs:=[(5,[4,5])] }
def sValues_C: SC:=[⟨96,_,nx⟩,⟨128,_,RI⟩]
def kC (aZ: (List Fd)) (bi: aa) (a7: Int) (dm: (List aa)) (kR5: (List Fd)→aa→Int→(List aa)→OR') (eg: (List aa)→OR'): OR':=
 (bif (decide (a7 < (aZ.length: Int))) then (bif (decide (0≤a7)) then (bif (decide (a7 < (aZ.length: Int))) then (bif ((isM (List.getD aZ (Int.toNat a7) (([]: aa),([]: aa))).1)&&(isM bi)) then (bif (np (List.getD aZ (Int.toNat a7) (([]: aa),([]: aa))).1 bi) then (bif (decide (0≤a7)) then (bif (decide (a7 < (aZ.length: Int))) then (bif (decide (((dm.length + (List.length (List.set (List.replicate 1 ([]: aa)) 0 (List.getD aZ (Int.toNat a7) (([]: aa),([]: aa))).2))) * 16)≤140737488355328)) then (kR5 aZ bi (ad (a7 + 1)) (dm++(List.set (List.replicate 1 ([]: aa)) 0 (List.getD aZ (Int.toNat a7) (([]: aa),([]: aa))).2))) else none) else none) else none) else (kR5 aZ bi (ad (a7 + 1)) dm)) else none) else none) else none) else (eg dm))
def fZ: Nat→(List Fd)→aa→Int→(List aa)→((List aa)→OR')→OR'
 | 0,_,_,_,_,_=>none
 | n + 1,aZ,bi,a7,dm,eg=>kC aZ bi a7 dm (fun aZ bi a7 dm=>fZ n aZ bi a7 dm eg) eg
abbrev sValues_p5: SP:=⟨32,[0,1,5,6],[(.v (.sh (Ty.pair Ty.str Ty.str))),(.v .s),(.v (.ref 384 0)),(.v (.i .i64))],[(384, .arr Ty.str 0 false)]⟩
noncomputable def xB: Code:=aC (aG Tryz.f48) [1,1,1,0,1,0,0]
def xC (f: ((List aa)→OR')→OR') (k: KT): OR':=f (fun av=>k (Ex.exit 0) ((St.mk (aF 0 32 [(5,(AV.ref 384 0))]) ((384,(Ob.arr Ty.str 0 false av))::([]: (List (Nat×(Ob))))))))
def xD (n: Nat) (d: sValues_p5.D): KT→OR':=xC (fZ n d.1.1 d.1.2.1 d.1.2.2.2.1 d.2.1)
def DH (N: Nat): Lam:=bH [⟨5,sValues_p5,xD N⟩]
theorem Hg (N: Nat): OkL Kx sValues_C.s DG 0 N (DH N) xB:=okL sValues_p5 (xD) (fun d kR=>xC (kC d.1.1 d.1.2.1 d.1.2.2.2.1 d.2.1 (fun aZ bi a7 dm=>kR ((aZ,bi,(),a7,()),(dm,()))))) (fun _ _=>by kernel_rfl) (fun _ _ _=>by kernel_rfl) (fun _ _=>by kernel_rfl) (fun _ _ _ _=>by kernel_rfl) (al (l':=[]) (by kernel_rfl) trivial)
def ug (N: Nat) (l: List Fd) (name: aa): OR':=(bif (!(cw l)) then (some ((AV.ref 0 0),[.arr Ty.str 0 false ([]: (List aa))])) else (fZ N l name 0 ([]: (List aa)) (fun av=>(some ((AV.ref 0 0),[.arr Ty.str 0 false av])))))
def uh (φ: (List Fd)→aa→Br): List AV→List Ob→Br
 | [.sh (.pair .str .str) l, .str name],[]=>φ l name
 | _,_=> .fail
theorem DI {φ: (List Fd)→aa→Br} (fu: (List Fd)→aa→Nat) (hv: ∀ l name res_,(φ l name).val=some res_→ug (fu l name) l name=some res_): Sound Kx 48 (uh φ):=ap (C:=sValues_C) (O:=DG) Tryz.func48 (by kernel_rfl) fun args objs=>by
 unfold uh;split
 · rename_i l name;exact .inr fun _ hyp_=>aO (Λ:=DH (fu l name)) (by kernel_rfl) (al (l':=[xB]) (by kernel_rfl) ⟨Hg _,trivial⟩) (by kernel_rfl) (hv l name _ hyp_)
 · exact .inl rfl
def DJ: Opt:={ live:=[(2,[0,3])],outs:=[(2,[2])] }
def sframed_C: SC:=[⟨91,_,ik⟩]
def kD (aD: (List Fd)) (aH: Int) (kR2: (List Fd)→Int→OR') (ca cI: OR'): OR':=
 (bif (decide (aH < (aD.length: Int))) then (bif (decide (0≤aH)) then (bif (decide (aH < (aD.length: Int))) then (bif (isM (List.getD aD (Int.toNat aH) (([]: aa),([]: aa))).1) then (bif (decide ((ay (List.getD aD (Int.toNat aH) (([]: aa),([]: aa))).1)=([99,111,110,116,101,110,116,45,108,101,110,103,116,104]: aa))) then ca else (bif (decide ((ay (List.getD aD (Int.toNat aH) (([]: aa),([]: aa))).1)=([116,114,97,110,115,102,101,114,45,101,110,99,111,100,105,110,103]: aa))) then ca else (bif (decide ((ay (List.getD aD (Int.toNat aH) (([]: aa),([]: aa))).1)=([116,114,97,105,108,101,114]: aa))) then ca else (kR2 aD (ad (aH + 1)))))) else none) else none) else none) else cI)
def f0: Nat→(List Fd)→Int→(OR')→(OR')→OR'
 | 0,_,_,_,_=>none
 | n + 1,aD,aH,ca,cI=>kD aD aH (fun aD aH=>f0 n aD aH ca cI) ca cI
abbrev sframed_p2: SP:=⟨27,[0,3],[(.v (.sh (Ty.pair Ty.str Ty.str))),(.v (.i .i64))],[]⟩
noncomputable def xE: Code:=aC (aG Tryz.f110) [1,0,1,0,0]
def xF (f: (OR')→(OR')→OR') (k: KT): OR':=f (k Ex.ret ((St.mk (aF 0 27 [(2,(AV.bool true))]) ([]: (List (Nat×(Ob))))))) (k (Ex.exit 0) ((St.mk (aF 0 27 []) ([]: (List (Nat×(Ob)))))))
def xG (n: Nat) (d: sframed_p2.D): KT→OR':=xF (f0 n d.1.1 d.1.2.1)
def DK (N: Nat): Lam:=bH [⟨2,sframed_p2,xG N⟩]
theorem Hh (N: Nat): OkL Kx sframed_C.s DJ 0 N (DK N) xE:=okL sframed_p2 (xG) (fun d kR=>xF (kD d.1.1 d.1.2.1 (fun aD aH=>kR ((aD,aH,()),())))) (fun _ _=>by kernel_rfl) (fun _ _ _=>by kernel_rfl) (fun _ _=>by kernel_rfl) (fun _ _ _ _=>by kernel_rfl) (al (l':=[]) (by kernel_rfl) trivial)
def ui (N: Nat) (l: List Fd): OR':=(f0 N l 0 (some ((AV.bool true),[])) (some ((AV.bool false),[])))
def uj (φ: (List Fd)→Br): List AV→List Ob→Br
 | [.sh (.pair .str .str) l],[]=>φ l
 | _,_=> .fail
theorem DL {φ: (List Fd)→Br} (fu: (List Fd)→Nat) (hv: ∀ l res_,(φ l).val=some res_→ui (fu l) l=some res_): Sound Kx 110 (uj φ):=ap (C:=sframed_C) (O:=DJ) Tryz.func110 (by kernel_rfl) fun args objs=>by
 unfold uj;split
 · rename_i l;exact .inr fun _ hyp_=>aO (Λ:=DK (fu l)) (by kernel_rfl) (al (l':=[xE]) (by kernel_rfl) ⟨Hh _,trivial⟩) (by kernel_rfl) (hv l _ hyp_)
 · exact .inl rfl
theorem bO {α: Type} (d x: α): List.set (List.replicate 1 d) 0 x=[x]:=rfl
theorem air {α β: Type} (x: α×β): (x.1,x.2)=x:=rfl
def k9 (l: List Fd) (name: aa): List aa:=(l.filter fun f=>np f.1 name).map (·.2)
def fi (l: List Fd) (name: aa): List aa:=bif cw l then k9 l name else []
theorem gj {l: List Fd} (h: cw l=true): l.length≤20∧∀ f ∈ l,nr f=true:=by
 unfold cw at h;rw [Bool.and_eq_true,decide_eq_true_eq,List.all_eq_true] at h;exact h
theorem zW {f: Fd} (h: nr f=true): isM f.1=true∧isM f.2=true:=⟨bn (jd h).1,bn (jd h).2⟩
theorem DM (name: aa) (hm: isM name=true) (l: List Fd) (hl: l.length≤20) (k: List aa→OR'): ∀ (r: List Fd) (i: Int) (n: Nat) (out: List aa),At l i r→r.length < n→(∀ f ∈ r,nr f=true)→out.length + r.length≤20→
 fY n name l (l.length: Int) i out k=k (out++k9 r name):=by
 intro r;induction r with
 | nil=>intro i n out h hn hf ho;obtain ⟨n,rfl⟩:=bL hn;unfold fY kB;simp only [h.dge,cond_false];simp [k9]
 | cons a r ih=>
   intro i n out h hn hf ho;obtain ⟨n,rfl⟩:=bL hn
   have ha:=zW (hf a (List.mem_cons_self ..))
   have hr:=fun f h=>hf f (List.mem_cons_of_mem _ h)
   simp only [List.length_cons] at ho hn
   have e0: decide ((out.length + [a.2].length) * 16≤140737488355328)=true:=dT' (by simp only [List.length_singleton];omega)
   unfold fY kB;simp only [h.dlt,h.dnn,h.get,cond_true,h.next (by omega),ha.1,hm,Bool.and_self,bO,e0]
   cases hs: np a.1 name
   · rw [cond_false,ih (i + 1) n out h.step (by omega) hr (by omega)];simp [k9,hs]
   · rw [cond_true,ih (i + 1) n (out++[a.2]) h.step (by omega) hr (by simp;omega)];simp [k9,hs]
def W9: List AV→List Ob→Br
 | [.sh (.pair .str .str) l, .str name],[]=> .ite (isM name) (.ret (.ref 0 0) [.arr .str 0 false (fi l name)]) .fail
 | _,_=> .fail
theorem lU: Sound Kx 47 W9:=by
 refine (DF (φ:=fun l name=> .ite (isM name) (.ret (.ref 0 0) [.arr .str 0 false (fi l name)]) .fail) (fun l _=>l.length + 1) fun l name r h=>?_).of fun args objs r h=>?_
 · obtain ⟨h1,h2⟩:=ai h
   cases h2
   unfold ue fi
   cases hf: cw l
   · rfl
   · obtain ⟨g1,g2⟩:=gj hf
     simp only [Bool.not_true,cond_false,cond_true]
     rw [DM name h1 l g1 _ l 0 _ [] (At.start l) (by omega) g2 (by simpa using g1)]
     rfl
 · unfold W9 at h;split at h
   · exact h
   · cases h
theorem DN (name: aa) (hm: isM name=true) (l: List Fd) (hl: l.length≤20) (k: List aa→OR'): ∀ (r: List Fd) (i: Int) (n: Nat) (out: List aa),At l i r→r.length < n→(∀ f ∈ r,nr f=true)→out.length + r.length≤20→
 fZ n l name i out k=k (out++k9 r name):=by
 intro r;induction r with
 | nil=>intro i n out h hn hf ho;obtain ⟨n,rfl⟩:=bL hn;unfold fZ kC;simp only [h.dge,cond_false];simp [k9]
 | cons a r ih=>
   intro i n out h hn hf ho;obtain ⟨n,rfl⟩:=bL hn
   have ha:=zW (hf a (List.mem_cons_self ..))
   have hr:=fun f h=>hf f (List.mem_cons_of_mem _ h)
   simp only [List.length_cons] at ho hn
   have e0: decide ((out.length + [a.2].length) * 16≤140737488355328)=true:=dT' (by simp only [List.length_singleton];omega)
   unfold fZ kC;simp only [h.dlt,h.dnn,h.get,cond_true,h.next (by omega),ha.1,hm,Bool.and_self,bO,e0]
   cases hs: np a.1 name
   · rw [cond_false,ih (i + 1) n out h.step (by omega) hr (by omega)];simp [k9,hs]
   · rw [cond_true,ih (i + 1) n (out++[a.2]) h.step (by omega) hr (by simp;omega)];simp [k9,hs]
theorem uk: Sound Kx 48 W9:=by
 refine (DI (φ:=fun l name=> .ite (isM name) (.ret (.ref 0 0) [.arr .str 0 false (fi l name)]) .fail) (fun l _=>l.length + 1) fun l name r h=>?_).of fun args objs r h=>?_
 · obtain ⟨h1,h2⟩:=ai h
   cases h2
   unfold ug fi
   cases hf: cw l
   · rfl
   · obtain ⟨g1,g2⟩:=gj hf
     simp only [Bool.not_true,cond_false,cond_true]
     rw [DN name h1 l g1 _ l 0 _ [] (At.start l) (by omega) g2 (by simpa using g1)]
     rfl
 · unfold W9 at h;split at h
   · exact h
   · cases h
def frC: aa:=[99,111,110,116,101,110,116,45,108,101,110,103,116,104]
def frT: aa:=[116,114,97,110,115,102,101,114,45,101,110,99,111,100,105,110,103]
def frR: aa:=[116,114,97,105,108,101,114]
def W_ (f: Fd): Bool:=decide (ay f.1=frC)||decide (ay f.1=frT)||decide (ay f.1=frR)
theorem DO (l: List Fd) (hl: l.length≤20) (k0 k1: OR'): ∀ (r: List Fd) (i: Int) (n: Nat),At l i r→r.length < n→(∀ f ∈ r,nr f=true)→f0 n l i k0 k1=bif r.any W_ then k0 else k1:=by
 intro r;induction r with
 | nil=>intro i n h hn hf;obtain ⟨n,rfl⟩:=bL hn;unfold f0 kD;simp only [h.dge,cond_false,List.any_nil]
 | cons a r ih=>
   intro i n h hn hf;obtain ⟨n,rfl⟩:=bL hn
   have ha:=zW (hf a (List.mem_cons_self ..))
   have hs:=ih (i + 1) n h.step (by simp at hn;omega) fun f h=>hf f (List.mem_cons_of_mem _ h)
   unfold f0 kD;simp only [h.dlt,h.dnn,h.get,cond_true,h.next (by omega),hs,ha.1,List.any_cons]
   show (bif decide (ay a.1=frC) then k0 else bif decide (ay a.1=frT) then k0 else bif decide (ay a.1=frR) then k0 else _)=bif W_ a||_ then _ else _
   unfold W_
   cases decide (ay a.1=frC) <;> cases decide (ay a.1=frT) <;> cases decide (ay a.1=frR) <;> rfl
def aeb: List AV→List Ob→Br
 | [.sh (.pair .str .str) l],[]=> .ite (cw l) (.ret (.bool (l.any W_)) []) .fail
 | _,_=> .fail
theorem Hi: Sound Kx 110 aeb:=by
 refine (DL (φ:=fun l=> .ite (cw l) (.ret (.bool (l.any W_)) []) .fail) (fun l=>l.length + 1) fun l r h=>?_).of fun args objs r h=>?_
 · obtain ⟨h1,h2⟩:=ai h
   cases h2
   obtain ⟨g1,g2⟩:=gj h1
   unfold ui
   rw [DO l g1 _ _ l 0 _ (At.start l) (by omega) g2]
   cases l.any W_ <;> rfl
 · unfold aeb at h;split at h
   · exact h
   · cases h
def aec: SC:=[⟨180,_,nk⟩]
def Hj (el: aa) (out: List aa): Br:=(.ite (isM el) (.ite (!(decide ((aE el)=([]: aa)))) (.ite (decide (((out.length + (List.length (List.set (List.replicate 1 ([]: aa)) 0 (aE el)))) * 16)≤140737488355328)) (.ret (AV.tup []) [.var [.ref 1 1],.arr Ty.str 1 false (out++(List.set (List.replicate 1 ([]: aa)) 0 (aE el)))]) .fail) (.ret (AV.tup []) [.var [.ref 1 0],.arr Ty.str 0 false out])) .fail)
def ZR: List AV→List Ob→Br
 | [.str el, .ptr 0 0],[.var [.ref 1 0], .arr .str 0 false out]=>Hj el out
 | _,_=> .fail
theorem abw: Sound Kx 222 ZR:=ae (C:=aec) (O:=O0) Tryz.func222 (by kernel_rfl) fun args objs=>by
 unfold ZR;split
 · exact .inr (by kernel_rfl)
 · exact .inl rfl
def abx: SC:=[⟨180,_,nk⟩]
def zX (el: aa): Br:=(.ite (isM el) (.ite (!(decide ((aE el)=([]: aa)))) (.ite (decide (((List.length (List.set (List.replicate 1 ([]: aa)) 0 (aE el))) * 16)≤140737488355328)) (.ret (AV.tup []) [.var [.ref 1 0],.arr Ty.str 0 false (List.set (List.replicate 1 ([]: aa)) 0 (aE el))]) .fail) (.ret (AV.tup []) [.var [.nil Ty.str]])) .fail)
def RL: List AV→List Ob→Br
 | [.str el, .ptr 0 0],[.var [.nil .str]]=>zX el
 | _,_=> .fail
theorem Xa: Sound Kx 222 RL:=ae (C:=abx) (O:=O0) Tryz.func222 (by kernel_rfl) fun args objs=>by
 unfold RL;split
 · exact .inr (by kernel_rfl)
 · exact .inl rfl
def ul: Opt:={ live:=[(7,[0,3,4,5,6])],outs:=[(7,[2,3])] }
def sElements_C: SC:=[⟨224,_,tY⟩]
def gR (cn: aa) (dQ: Int) (eh: Bool) (bU: Int) (fg: (List aa)) (kR7: aa→Int→Bool→Int→(List aa)→OR') (Gl: (List aa)→OR'): OR':=
 (bif (decide (bU≤(cn.length: Int))) then (bif (decide (bU=(cn.length: Int))) then (bif (decide (0≤dQ)) then (bif (decide (dQ≤bU)) then (bif (decide (bU≤(cn.length: Int))) then (bif (isM (cut cn dQ bU)) then (bif (decide (0 < ((List.length (aE (cut cn dQ bU))): Int))) then (bif (decide (((fg.length + (List.length (List.set (List.replicate 1 ([]: aa)) 0 (aE (cut cn dQ bU))))) * 16)≤140737488355328)) then (kR7 cn (ad (bU + 1)) eh (ad (bU + 1)) (fg++(List.set (List.replicate 1 ([]: aa)) 0 (aE (cut cn dQ bU))))) else none) else (kR7 cn (ad (bU + 1)) eh (ad (bU + 1)) fg)) else none) else none) else none) else none) else (bif (!eh) then (bif (decide (0≤bU)) then (bif (decide (bU < (cn.length: Int))) then (bif (decide ((aq cn bU)=44)) then (bif (decide (0≤dQ)) then (bif (decide (dQ≤bU)) then (bif (decide (bU≤(cn.length: Int))) then (bif (isM (cut cn dQ bU)) then (bif (decide (0 < ((List.length (aE (cut cn dQ bU))): Int))) then (bif (decide (((fg.length + (List.length (List.set (List.replicate 1 ([]: aa)) 0 (aE (cut cn dQ bU))))) * 16)≤140737488355328)) then (kR7 cn (ad (bU + 1)) eh (ad (bU + 1)) (fg++(List.set (List.replicate 1 ([]: aa)) 0 (aE (cut cn dQ bU))))) else none) else (kR7 cn (ad (bU + 1)) eh (ad (bU + 1)) fg)) else none) else none) else none) else none) else (bif (decide (0≤bU)) then (bif (decide (bU < (cn.length: Int))) then (bif (decide ((aq cn bU)=34)) then (kR7 cn dQ (!eh) (ad (bU + 1)) fg) else (bif eh then (bif (decide (0≤bU)) then (bif (decide (bU < (cn.length: Int))) then (bif (decide ((aq cn bU)=92)) then (bif (decide ((ad (bU + 1)) < (cn.length: Int))) then (kR7 cn dQ eh (ad ((ad (bU + 1)) + 1)) fg) else (kR7 cn dQ eh (ad (bU + 1)) fg)) else (kR7 cn dQ eh (ad (bU + 1)) fg)) else none) else none) else (kR7 cn dQ eh (ad (bU + 1)) fg))) else none) else none)) else none) else none) else (bif (decide (0≤bU)) then (bif (decide (bU < (cn.length: Int))) then (bif (decide ((aq cn bU)=34)) then (kR7 cn dQ (!eh) (ad (bU + 1)) fg) else (bif eh then (bif (decide (0≤bU)) then (bif (decide (bU < (cn.length: Int))) then (bif (decide ((aq cn bU)=92)) then (bif (decide ((ad (bU + 1)) < (cn.length: Int))) then (kR7 cn dQ eh (ad ((ad (bU + 1)) + 1)) fg) else (kR7 cn dQ eh (ad (bU + 1)) fg)) else (kR7 cn dQ eh (ad (bU + 1)) fg)) else none) else none) else (kR7 cn dQ eh (ad (bU + 1)) fg))) else none) else none))) else (Gl fg))
def cC: Nat→aa→Int→Bool→Int→(List aa)→((List aa)→OR')→OR'
 | 0,_,_,_,_,_,_=>none
 | n + 1,cn,dQ,eh,bU,fg,Gl=>gR cn dQ eh bU fg (fun cn dQ eh bU fg=>cC n cn dQ eh bU fg Gl) Gl
abbrev sElements_p7: SP:=⟨70,[0,3,4,5,6],[(.v .s),(.v (.ref 256 0)),(.v (.i .i64)),(.v .b),(.v (.i .i64))],[(256, .arr Ty.str 0 false)]⟩
noncomputable def qZ: Code:=aC (aG Tryz.f162) [1,1,1,1,1,0,1,0,0]
def q6 (f: ((List aa)→OR')→OR') (k: KT): OR':=f (fun eM=>k (Ex.exit 0) ((St.mk (aF 0 70 [(3,(AV.ref 256 0))]) ((256,(Ob.arr Ty.str 0 false eM))::([]: (List (Nat×(Ob))))))))
def q7 (n: Nat) (d: sElements_p7.D): KT→OR':=q6 (cC n d.1.1 d.1.2.2.1 d.1.2.2.2.1 d.1.2.2.2.2.1 d.2.1)
def um (N: Nat): Lam:=bH [⟨7,sElements_p7,q7 N⟩]
theorem zY (N: Nat): OkL Kx sElements_C.s ul 0 N (um N) qZ:=okL sElements_p7 (q7) (fun d kR=>q6 (gR d.1.1 d.1.2.2.1 d.1.2.2.2.1 d.1.2.2.2.2.1 d.2.1 (fun cn dQ eh bU fg=>kR ((cn,(),dQ,eh,bU,()),(fg,()))))) (fun _ _=>by kernel_rfl) (fun _ _ _=>by kernel_rfl) (fun _ _=>by kernel_rfl) (fun _ _ _ _=>by kernel_rfl) (al (l':=[]) (by kernel_rfl) trivial)
def ny (N: Nat) (s: aa): OR':=(bif (decide (4000 < (s.length: Int))) then (some ((AV.ref 0 0),[.arr Ty.str 0 false ([]: (List aa))])) else (cC N s 0 false 0 ([]: (List aa)) (fun eM=>(some ((AV.ref 0 0),[.arr Ty.str 0 false eM])))))
def nz (φ: aa→Br): List AV→List Ob→Br
 | [.str s],[]=>φ s
 | _,_=> .fail
theorem ww {φ: aa→Br} (fu: aa→Nat) (hv: ∀ s res_,(φ s).val=some res_→ny (fu s) s=some res_): Sound Kx 162 (nz φ):=ap (C:=sElements_C) (O:=ul) Tryz.func162 (by kernel_rfl) fun args objs=>by
 unfold nz;split
 · rename_i s;exact .inr fun _ hyp_=>aO (Λ:=um (fu s)) (by kernel_rfl) (al (l':=[qZ]) (by kernel_rfl) ⟨zY _,trivial⟩) (by kernel_rfl) (hv s _ hyp_)
 · exact .inl rfl
def DP: Opt:={ live:=[(4,[5,6,7])],outs:=[(4,[4,6])] }
def sJoined_C: SC:=[⟨48,_,uk⟩]
def ip (a_: aa) (a8: Int) (aQ: (List aa)) (kR4: aa→Int→(List aa)→OR') (eK: aa→OR'): OR':=
 (bif (decide (a8 < (aQ.length: Int))) then (bif (decide (0 < a8)) then (bif (decide ((a_.length + 2)≤9223372036854775807)) then (bif (decide (0≤a8)) then (bif (decide (a8 < (aQ.length: Int))) then (bif (decide (((List.length (a_++([44,32]: aa))) + (List.length (List.getD aQ (Int.toNat a8) ([]: aa))))≤9223372036854775807)) then (kR4 ((a_++([44,32]: aa))++(List.getD aQ (Int.toNat a8) ([]: aa))) (ad (a8 + 1)) aQ) else none) else none) else none) else none) else (bif (decide (0≤a8)) then (bif (decide (a8 < (aQ.length: Int))) then (bif (decide ((a_.length + (List.length (List.getD aQ (Int.toNat a8) ([]: aa))))≤9223372036854775807)) then (kR4 (a_++(List.getD aQ (Int.toNat a8) ([]: aa))) (ad (a8 + 1)) aQ) else none) else none) else none)) else (eK a_))
def eP: Nat→aa→Int→(List aa)→(aa→OR')→OR'
 | 0,_,_,_,_=>none
 | n + 1,a_,a8,aQ,eK=>ip a_ a8 aQ (fun a_ a8 aQ=>eP n a_ a8 aQ eK) eK
abbrev sJoined_p4: SP:=⟨28,[5,6,7],[(.v (.ref 384 0)),(.v .s),(.v (.i .i64))],[(384, .arr Ty.str 0 false)]⟩
noncomputable def xH: Code:=aC (aG Tryz.f163) [1,1,1,0,1,0,0]
def xI (f: (aa→OR')→OR') (k: KT): OR':=f (fun dh=>k (Ex.exit 0) ((St.mk (aF 0 28 [(6,(AV.str dh))]) ([]: (List (Nat×(Ob)))))))
def xJ (n: Nat) (d: sJoined_p4.D): KT→OR':=xI (eP n d.1.2.1 d.1.2.2.1 d.2.1)
def DQ (N: Nat): Lam:=bH [⟨4,sJoined_p4,xJ N⟩]
theorem Hk (N: Nat): OkL Kx sJoined_C.s DP 0 N (DQ N) xH:=okL sJoined_p4 (xJ) (fun d kR=>xI (ip d.1.2.1 d.1.2.2.1 d.2.1 (fun a_ a8 aQ=>kR (((),a_,a8,()),(aQ,()))))) (fun _ _=>by kernel_rfl) (fun _ _ _=>by kernel_rfl) (fun _ _=>by kernel_rfl) (fun _ _ _ _=>by kernel_rfl) (al (l':=[]) (by kernel_rfl) trivial)
def uo (N: Nat) (l: List Fd) (name: aa): OR':=(bif (isM name) then (eP N ([]: aa) 0 (fi l name) (fun dh=>(some ((AV.str dh),[])))) else none)
def uq (φ: (List Fd)→aa→Br): List AV→List Ob→Br
 | [.sh (.pair .str .str) l, .str name],[]=>φ l name
 | _,_=> .fail
theorem DR {φ: (List Fd)→aa→Br} (fu: (List Fd)→aa→Nat) (hv: ∀ l name res_,(φ l name).val=some res_→uo (fu l name) l name=some res_): Sound Kx 163 (uq φ):=ap (C:=sJoined_C) (O:=DP) Tryz.func163 (by kernel_rfl) fun args objs=>by
 unfold uq;split
 · rename_i l name;exact .inr fun _ hyp_=>aO (Λ:=DQ (fu l name)) (by kernel_rfl) (al (l':=[xH]) (by kernel_rfl) ⟨Hk _,trivial⟩) (by kernel_rfl) (hv l name _ hyp_)
 · exact .inl rfl
def RM: Opt:={ live:=[(2,[0,1,5])],outs:=[(2,[4])] }
def sl (aD: (List aa)) (aH: aa) (bW: Int) (kR2: (List aa)→aa→Int→OR') (ca cI: OR'): OR':=
 (bif (decide (bW < (aD.length: Int))) then (bif (decide (0≤bW)) then (bif (decide (bW < (aD.length: Int))) then (bif (decide ((List.getD aD (Int.toNat bW) ([]: aa))=aH)) then ca else (kR2 aD aH (ad (bW + 1)))) else none) else none) else cI)
def kE: Nat→(List aa)→aa→Int→(OR')→(OR')→OR'
 | 0,_,_,_,_,_=>none
 | n + 1,aD,aH,bW,ca,cI=>sl aD aH bW (fun aD aH bW=>kE n aD aH bW ca cI) ca cI
abbrev sl5in_p2: SP:=⟨18,[0,1,5],[(.v (.sh Ty.str)),(.v .s),(.v (.i .i64))],[]⟩
noncomputable def K1: Code:=aC (aG Tryz.f105) [1,0,1,0,0]
def K2 (f: (OR')→(OR')→OR') (k: KT): OR':=f (k Ex.ret ((St.mk (aF 0 18 [(4,(AV.bool true))]) ([]: (List (Nat×(Ob))))))) (k (Ex.exit 0) ((St.mk (aF 0 18 []) ([]: (List (Nat×(Ob)))))))
def K3 (n: Nat) (d: sl5in_p2.D): KT→OR':=K2 (kE n d.1.1 d.1.2.1 d.1.2.2.1)
def RN (N: Nat): Lam:=bH [⟨2,sl5in_p2,K3 N⟩]
theorem RO (N: Nat): OkL Kx noS RM 0 N (RN N) K1:=okL sl5in_p2 (K3) (fun d kR=>K2 (sl d.1.1 d.1.2.1 d.1.2.2.1 (fun aD aH bW=>kR ((aD,aH,bW,()),())))) (fun _ _=>by kernel_rfl) (fun _ _ _=>by kernel_rfl) (fun _ _=>by kernel_rfl) (fun _ _ _ _=>by kernel_rfl) (al (l':=[]) (by kernel_rfl) trivial)
def DS (N: Nat) (l: List aa) (s: aa): OR':=(kE N l s 0 (some ((AV.bool true),[])) (some ((AV.bool false),[])))
def DT (φ: (List aa)→aa→Br): List AV→List Ob→Br
 | [.sh .str l, .str s],[]=>φ l s
 | _,_=> .fail
theorem Oe {φ: (List aa)→aa→Br} (fu: (List aa)→aa→Nat) (hv: ∀ l s res_,(φ l s).val=some res_→DS (fu l s) l s=some res_): Sound Kx 105 (DT φ):=ap (C:=[]) (O:=RM) Tryz.func105 (by kernel_rfl) fun args objs=>by
 unfold DT;split
 · rename_i l s;exact .inr fun _ hyp_=>aO (Λ:=RN (fu l s)) (by kernel_rfl) (al (l':=[K1]) (by kernel_rfl) ⟨RO _,trivial⟩) (by kernel_rfl) (hv l s _ hyp_)
 · exact .inl rfl
def aed: List AV→List Ob→Br
 | [.str el, .ptr 0 0],[.var [.ref 1 0], .arr .str 0 false out]=> .ite (isM el&&decide (out.length≤100000)) (.ite (decide (aE el=[])) (.ret (.tup []) [.var [.ref 1 0], .arr .str 0 false out]) (.ret (.tup []) [.var [.ref 1 1], .arr .str 1 false (out++[aE el])])) .fail
 | [.str el, .ptr 0 0],[.var [.nil .str]]=> .ite (isM el) (.ite (decide (aE el=[])) (.ret (.tup []) [.var [.nil .str]]) (.ret (.tup []) [.var [.ref 1 0], .arr .str 0 false [aE el]])) .fail
 | _,_=> .fail
theorem aby: Sound Kx 222 aed:=by
 intro args objs res objs' hv
 unfold aed at hv
 split at hv
 · rename_i el out
   refine abw _ _ _ _ ?_
   show (Hj el out).val=_
   obtain ⟨h1,h2⟩:=ai hv
   rw [Bool.and_eq_true,decide_eq_true_eq] at h1
   unfold Hj
   refine (bv h1.1).trans (Eq.trans ?_ h2)
   rw [bO]
   cases c: decide (aE el=[])
   · exact bv (dT' (by simp only [List.length_singleton];omega))
   · rfl
 · rename_i el
   refine Xa _ _ _ _ ?_
   show (zX el).val=_
   obtain ⟨h1,h2⟩:=ai hv
   unfold zX
   refine (bv h1).trans (Eq.trans ?_ h2)
   rw [bO]
   cases c: decide (aE el=[])
   · rfl
   · rfl
 · cases hv
def ut: Opt:={ live:=[(7,[0,3,4,5,6,7])],outs:=[(7,[0,2,3,4,5])] }
def iElements_C: SC:=[⟨222,_,aby⟩]
def gS (cn: aa) (dQ: Int) (eh: Bool) (bU: Int) (fg: (List aa)) (kR7: aa→Int→Bool→Int→(List aa)→OR') (Gl: aa→Int→(List aa)→OR'): OR':=
 (bif (decide (bU < (cn.length: Int))) then (bif (decide (0≤bU)) then (bif (decide (bU < (cn.length: Int))) then (bif (decide ((aq cn bU)=34)) then (kR7 cn dQ (!eh) (ad (bU + 1)) fg) else (bif eh then (bif (decide (0≤bU)) then (bif (decide (bU < (cn.length: Int))) then (bif (decide ((aq cn bU)=92)) then (kR7 cn dQ eh (ad ((ad (bU + 1)) + 1)) fg) else (bif (!eh) then (bif (decide (0≤bU)) then (bif (decide (bU < (cn.length: Int))) then (bif (decide ((aq cn bU)=44)) then (bif (decide (0≤dQ)) then (bif (decide (dQ≤bU)) then (bif (decide (bU≤(cn.length: Int))) then (bif ((isM (cut cn dQ bU))&&(decide (fg.length≤100000))) then (bif (decide ((aE (cut cn dQ bU))=([]: aa))) then (kR7 cn (ad (bU + 1)) eh (ad (bU + 1)) fg) else (kR7 cn (ad (bU + 1)) eh (ad (bU + 1)) (fg++((aE (cut cn dQ bU))::([]: (List aa)))))) else none) else none) else none) else none) else (kR7 cn dQ eh (ad (bU + 1)) fg)) else none) else none) else (kR7 cn dQ eh (ad (bU + 1)) fg))) else none) else none) else (bif (!eh) then (bif (decide (0≤bU)) then (bif (decide (bU < (cn.length: Int))) then (bif (decide ((aq cn bU)=44)) then (bif (decide (0≤dQ)) then (bif (decide (dQ≤bU)) then (bif (decide (bU≤(cn.length: Int))) then (bif ((isM (cut cn dQ bU))&&(decide (fg.length≤100000))) then (bif (decide ((aE (cut cn dQ bU))=([]: aa))) then (kR7 cn (ad (bU + 1)) eh (ad (bU + 1)) fg) else (kR7 cn (ad (bU + 1)) eh (ad (bU + 1)) (fg++((aE (cut cn dQ bU))::([]: (List aa)))))) else none) else none) else none) else none) else (kR7 cn dQ eh (ad (bU + 1)) fg)) else none) else none) else (kR7 cn dQ eh (ad (bU + 1)) fg)))) else none) else none) else (Gl cn dQ fg))
def cP: Nat→aa→Int→Bool→Int→(List aa)→(aa→Int→(List aa)→OR')→OR'
 | 0,_,_,_,_,_,_=>none
 | n + 1,cn,dQ,eh,bU,fg,Gl=>gS cn dQ eh bU fg (fun cn dQ eh bU fg=>cP n cn dQ eh bU fg Gl) Gl
abbrev iElements_p7: SP:=⟨58,[0,3,4,5,6,7],[(.v .s),(.v (.ptr 256 0)),(.v (.fn 222 [(256,0)])),(.v (.i .i64)),(.v .b),(.v (.i .i64))],[(256, .var [(.ref 257 0)]),(257, .arr Ty.str 0 false)]⟩
noncomputable def q8: Code:=aC (aG Tryz.f160) [1,1,1,1,1,0,1,0,0]
def q9 (f: (aa→Int→(List aa)→OR')→OR') (k: KT): OR':=f (fun eM js lp=>k (Ex.exit 0) ((St.mk (aF 0 58 [(0,(AV.str eM)),(3,(AV.ptr 256 0)),(4,(AV.fn 222 [.ptr 256 0])),(5,(AV.int .i64 js))]) ((256,(Ob.var [.ref 257 0]))::((257,(Ob.arr Ty.str 0 false lp))::([]: (List (Nat×(Ob)))))))))
def q_ (n: Nat) (d: iElements_p7.D): KT→OR':=q9 (cP n d.1.1 d.1.2.2.2.1 d.1.2.2.2.2.1 d.1.2.2.2.2.2.1 d.2.2.1)
def uu (N: Nat): Lam:=bH [⟨7,iElements_p7,q_ N⟩]
theorem zZ (N: Nat): OkL Kx iElements_C.s ut 0 N (uu N) q8:=okL iElements_p7 (q_) (fun d kR=>q9 (gS d.1.1 d.1.2.2.2.1 d.1.2.2.2.2.1 d.1.2.2.2.2.2.1 d.2.2.1 (fun cn dQ eh bU fg=>kR ((cn,(),(),dQ,eh,bU,()),(((),()),fg,()))))) (fun _ _=>by kernel_rfl) (fun _ _ _=>by kernel_rfl) (fun _ _=>by kernel_rfl) (fun _ _ _ _=>by kernel_rfl) (al (l':=[]) (by kernel_rfl) trivial)
def nA (N: Nat) (s: aa): OR':=(bif (decide (4000 < (s.length: Int))) then (some ((AV.ref 0 0),[.arr Ty.str 0 false ([]: (List aa))])) else (cP N s 0 false 0 ([]: (List aa)) (fun eM js lp=>(bif (decide (0≤js)) then (bif (decide (js≤(eM.length: Int))) then (bif ((isM (cut eM js (eM.length: Int)))&&(decide (lp.length≤100000))) then (bif (decide ((aE (cut eM js (eM.length: Int)))=([]: aa))) then (some ((AV.ref 0 0),[.arr Ty.str 0 false lp])) else (some ((AV.ref 0 0),[.arr Ty.str 0 false (lp++((aE (cut eM js (eM.length: Int)))::([]: (List aa))))]))) else none) else none) else none))))
def nB (φ: aa→Br): List AV→List Ob→Br
 | [.str s],[]=>φ s
 | _,_=> .fail
theorem wy {φ: aa→Br} (fu: aa→Nat) (hv: ∀ s res_,(φ s).val=some res_→nA (fu s) s=some res_): Sound Kx 160 (nB φ):=ap (C:=iElements_C) (O:=ut) Tryz.func160 (by kernel_rfl) fun args objs=>by
 unfold nB;split
 · rename_i s;exact .inr fun _ hyp_=>aO (Λ:=uu (fu s)) (by kernel_rfl) (al (l':=[q8]) (by kernel_rfl) ⟨zZ _,trivial⟩) (by kernel_rfl) (hv s _ hyp_)
 · exact .inl rfl
def eQ: aa→Bool→aa→List aa
 | cur,_,[]=>[cur]
 | cur,q,c::r=>
   bif decide (by8 c=34) then eQ (cur++[c]) (!q) r
   else bif q&&decide (by8 c=92) then (match r with | []=>[cur++[c]] | d::r'=>eQ (cur++[c,d]) q r')
   else bif !q&&decide (by8 c=44) then cur::eQ [] q r
   else eQ (cur++[c]) q r
theorem iq (cur: aa) (q: Bool) (c: UInt8) (r: aa): eQ cur q (c::r)=bif decide (by8 c=34) then eQ (cur++[c]) (!q) r
 else bif q&&decide (by8 c=92) then (match r with | []=>[cur++[c]] | d::r'=>eQ (cur++[c,d]) q r')
 else bif !q&&decide (by8 c=44) then cur::eQ [] q r
 else eQ (cur++[c]) q r:=by cases r <;> rfl
theorem jQ (cur: aa) (q: Bool): eQ cur q []=[cur]:=rfl
def fN: List aa→List aa
 | []=>[]
 | x::r=>bif decide (aE x=[]) then fN r else aE x::fN r
def lV (s: aa): List aa:=bif decide (4000 < (s.length: Int)) then [] else fN (eQ [] false s)
theorem aee (l: aa): decide ((0 : Int) < (l.length: Int))= !decide (l=[]):=by cases l <;> simp
theorem gk (x: aa) (r: List aa): fN (x::r)=bif decide (aE x=[]) then fN r else aE x::fN r:=rfl
theorem wz (s: aa) (hl: s.length≤4000) (k: List aa→OR'): ∀ (n: Nat) (p cur r: aa) (q: Bool) (out: List aa) (i fr: Int),s=p++cur++r→i=((p.length + cur.length: Nat): Int)→fr=(p.length: Int)→r.length + 1 < n→out.length≤p.length→
 cC n s fr q i out k=k (out++fN (eQ cur q r)):=by
 intro n;induction n with
 | zero=>intro p cur r q out i fr hs hi hf hn;omega
 | succ n ih=>
   intro p cur r q out i fr hs hi hf hn ho
   have hat: At s i r:=⟨p++cur,hs,by rw [hi];simp⟩
   have hlen: s.length=p.length + cur.length + r.length:=by rw [hs];simp;omega
   have hcut: cut s fr i=cur:=by rw [hs,hi,hf,Int.natCast_add];exact tX p cur r
   have hnf: decide (0≤fr)=true:=dT' (by omega)
   have hfi: decide (fr≤i)=true:=dT' (by omega)
   have hil: decide (i≤(s.length: Int))=true:=dT' (by omega)
   have hM: isM cur=true:=bn (n:=4000) (by omega)
   have hw: ad (i + 1)=i + 1:=w64 (by omega) (by omega)
   have hap: decide ((out.length + [aE cur].length) * 16≤140737488355328)=true:=dT' (by simp only [List.length_singleton];omega)
   unfold cC gR
   simp only [hcut,hnf,hfi,hil,hM,hw,hap,bO,aee,cond_true,hat.dnn]
   cases r with
   | nil=>
     have he: decide (i=(s.length: Int))=true:=dT' (by simp only [List.length_nil] at hlen;omega)
     simp only [List.length_nil] at hn
     obtain ⟨m,rfl⟩: ∃ m,n=m + 1:=⟨n - 1,by omega⟩
     have hx: decide (i + 1≤(s.length: Int))=false:=dF' (by simp only [List.length_nil] at hlen;omega)
     have hend: ∀ o,cC (m + 1) s (i + 1) q (i + 1) o k=k o:=fun o=>by unfold cC gR;rw [hx,cond_false]
     simp only [he,cond_true,hend,jQ,gk,fN]
     cases decide (aE cur=[]) <;> simp
   | cons c r=>
     have he: decide (i=(s.length: Int))=false:=dF' (by simp only [List.length_cons] at hlen;omega)
     simp only [List.length_cons] at hn hlen
     have hstep: ∀ q',cC n s fr q' (i + 1) out k=k (out++fN (eQ (cur++[c]) q' r)):=fun q'=>
      ih p (cur++[c]) r q' out (i + 1) fr (by rw [hs];simp) (by rw [hi];simp;omega) hf (by omega) ho
     have hcom: ∀ q' o,o.length≤p.length + 1→cC n s (i + 1) q' (i + 1) o k=k (o++fN (eQ [] q' r)):=fun q' o ho'=>
      ih (p++cur++[c]) [] r q' o (i + 1) (i + 1) (by rw [hs];simp) (by rw [hi];simp;omega) (by rw [hi];simp;omega) (by omega) (by simp;omega)
     have h0:=hcom q out (by omega)
     have h1:=hcom q (out++[aE cur]) (by simp;omega)
     simp only [he,hat.dlt,hat.dnn,hat.str,cond_true,cond_false,h0,h1,hstep]
     rw [iq]
     cases c1: decide (by8 c=34)
     · cases q
       · cases c3: decide (by8 c=44)
         · simp
         · simp only [Bool.not_false,Bool.false_and,Bool.true_and,cond_true,cond_false,gk]
           cases decide (aE cur=[]) <;> simp
       · cases c2: decide (by8 c=92)
         · simp
         · simp only [Bool.not_true,Bool.true_and,cond_true,cond_false]
           cases r with
           | nil=>
             have hx: decide (i + 1 < (s.length: Int))=false:=dF' (by simp only [List.length_nil] at hlen;omega)
             simp only [hx,cond_false,jQ]
           | cons d r=>
             have hx: decide (i + 1 < (s.length: Int))=true:=dT' (by simp only [List.length_cons] at hlen;omega)
             have hw2: ad (i + 1 + 1)=i + 1 + 1:=w64 (by omega) (by omega)
             simp only [List.length_cons] at hn hlen
             simp only [hx,cond_true,hw2]
             exact ih p (cur++[c,d]) r true out _ fr (by rw [hs];simp) (by rw [hi];simp;omega) hf (by omega) ho
     · have c3: decide (by8 c=44)=false:=dF' (by have:=of_decide_eq_true c1;omega)
       cases q <;> simp [c3]
theorem wA (s: aa) (hl: s.length≤4000) (k: aa→Int→List aa→OR') (K: List aa→OR')
 (hk: ∀ (p cur: aa) (fr: Int) (out: List aa),s=p++cur→fr=(p.length: Int)→out.length≤p.length→k s fr out=K (out++fN [cur])): ∀ (n: Nat) (p cur r: aa) (q: Bool) (out: List aa) (i fr: Int),s=p++cur++r→i=((p.length + cur.length: Nat): Int)→fr=(p.length: Int)→r.length < n→out.length≤p.length→
 cP n s fr q i out k=K (out++fN (eQ cur q r)):=by
 intro n;induction n with
 | zero=>intro p cur r q out i fr hs hi hf hn;omega
 | succ n ih=>
   intro p cur r q out i fr hs hi hf hn ho
   have hat: At s i r:=⟨p++cur,hs,by rw [hi];simp⟩
   have hlen: s.length=p.length + cur.length + r.length:=by rw [hs];simp;omega
   have hcut: cut s fr i=cur:=by rw [hs,hi,hf,Int.natCast_add];exact tX p cur r
   have hnf: decide (0≤fr)=true:=dT' (by omega)
   have hfi: decide (fr≤i)=true:=dT' (by omega)
   have hil: decide (i≤(s.length: Int))=true:=dT' (by omega)
   have hM: isM cur=true:=bn (n:=4000) (by omega)
   have hw: ad (i + 1)=i + 1:=w64 (by omega) (by omega)
   have hap: decide (out.length≤100000)=true:=dT' (by omega)
   unfold cP gS
   simp only [hcut,hnf,hfi,hil,hM,hw,hap,cond_true,hat.dnn,Bool.and_self]
   cases r with
   | nil=>
     simp only [hat.dge,cond_false,jQ]
     exact hk p cur fr out (by rw [hs];simp) hf ho
   | cons c r=>
     simp only [List.length_cons] at hn hlen
     have hstep: ∀ q',cP n s fr q' (i + 1) out k=K (out++fN (eQ (cur++[c]) q' r)):=fun q'=>
      ih p (cur++[c]) r q' out (i + 1) fr (by rw [hs];simp) (by rw [hi];simp;omega) hf (by omega) ho
     have hcom: ∀ q' o,o.length≤p.length + 1→cP n s (i + 1) q' (i + 1) o k=K (o++fN (eQ [] q' r)):=fun q' o ho'=>
      ih (p++cur++[c]) [] r q' o (i + 1) (i + 1) (by rw [hs];simp) (by rw [hi];simp;omega) (by rw [hi];simp;omega) (by omega) (by simp;omega)
     have h0:=hcom q out (by omega)
     have h1:=hcom q (out++[aE cur]) (by simp;omega)
     simp only [hat.dlt,hat.dnn,hat.str,cond_true,cond_false,h0,h1,hstep]
     rw [iq]
     cases c1: decide (by8 c=34)
     · cases q
       · cases c3: decide (by8 c=44)
         · simp
         · simp only [Bool.not_false,Bool.false_and,Bool.true_and,cond_true,cond_false,gk]
           cases decide (aE cur=[]) <;> simp
       · cases c2: decide (by8 c=92)
         · simp
         · simp only [Bool.not_true,Bool.true_and,cond_true,cond_false]
           have hw2: ad (i + 1 + 1)=i + 1 + 1:=w64 (by omega) (by omega)
           cases r with
           | nil=>
             simp only [List.length_nil] at hn hlen
             obtain ⟨m,rfl⟩: ∃ m,n=m + 1:=⟨n - 1,by omega⟩
             have hx: decide (i + 1 + 1 < (s.length: Int))=false:=dF' (by omega)
             rw [hw2]
             unfold cP gS
             simp only [hx,cond_false]
             exact hk p (cur++[c]) fr out (by rw [hs];simp) hf ho
           | cons d r=>
             simp only [List.length_cons] at hn hlen
             rw [hw2]
             exact ih p (cur++[c,d]) r true out _ fr (by rw [hs];simp) (by rw [hi];simp;omega) hf (by omega) ho
     · have c3: decide (by8 c=44)=false:=dF' (by have:=of_decide_eq_true c1;omega)
       cases q <;> simp [c3]
def agm (p: aa→List aa): List AV→List Ob→Br
 | [.str s],[]=> .ret (.ref 0 0) [.arr .str 0 false (p s)]
 | _,_=> .fail
theorem z6: Sound Kx 162 (agm lV):=by
 refine (ww (φ:=fun s=> .ret (.ref 0 0) [.arr .str 0 false (lV s)]) (fun s=>s.length + 2) fun s r h=>?_).of fun args objs r h=>?_
 · cases h
   unfold ny lV
   cases c: decide (4000 < (s.length: Int))
   · have:=of_decide_eq_false c
     simp only [cond_false]
     rw [wz s (by omega) _ (s.length + 2) [] [] s false [] 0 0 rfl rfl rfl (by omega) (by simp)]
     rfl
   · rfl
 · unfold agm at h;split at h
   · exact h
   · cases h
theorem Of (p m: aa): cut (p++m) (p.length: Int) ((p++m).length: Int)=m:=by
 have:=tX p m []
 rw [List.append_nil] at this
 rw [← Int.natCast_add,← List.length_append] at this
 exact this
theorem z7: Sound Kx 160 (agm lV):=by
 refine (wy (φ:=fun s=> .ret (.ref 0 0) [.arr .str 0 false (lV s)]) (fun s=>s.length + 2) fun s r h=>?_).of fun args objs r h=>?_
 · cases h
   unfold nA lV
   cases c: decide (4000 < (s.length: Int))
   · have hl:=of_decide_eq_false c
     simp only [cond_false]
     rw [wA s (by omega) _ (fun o=>some (.ref 0 0,[.arr .str 0 false o])) ?_ (s.length + 2) [] [] s false [] 0 0 rfl rfl rfl (by omega) (by simp)]
     · rfl
     · intro p cur fr out hs hf ho
       have hlen: s.length=p.length + cur.length:=by rw [hs];simp
       have h1: cut s fr (s.length: Int)=cur:=by rw [hs,hf];exact Of p cur
       have h2: isM cur=true:=bn (n:=4000) (by omega)
       simp only [h1,h2,dT' (show 0≤fr by omega),dT' (show fr≤(s.length: Int) by omega),dT' (show out.length≤100000 by omega),Bool.and_self,cond_true,gk,fN]
       cases decide (aE cur=[]) <;> simp
   · rfl
 · unfold agm at h;split at h
   · exact h
   · cases h
def Xb: SC:=[⟨293,_,lG⟩,⟨197,_,lI⟩,⟨244,_,eO⟩]
def uv (b: Int): Br:=(.ite (jy b) (.ret (AV.bool true) []) (.ite (C5 b) (.ret (AV.bool true) []) (.ite (aB b) (.ret (AV.bool true) []) (.ite (decide (b=45)) (.ret (AV.bool true) []) (.ite (decide (b=46)) (.ret (AV.bool true) []) (.ite (decide (b=95)) (.ret (AV.bool true) []) (.ret (AV.bool (decide (b=126))) [])))))))
def K4: List AV→List Ob→Br
 | [.int .u8 b],[]=>uv b
 | _,_=> .fail
theorem RP: Sound Kx 336 K4:=ae (C:=Xb) (O:=O0) Tryz.func336 (by kernel_rfl) fun args objs=>by
 unfold K4;split
 · exact .inr (by kernel_rfl)
 · exact .inl rfl
def abz: SC:=[⟨244,_,eO⟩]
def z8 (b: Int): Br:=(.ite (aB b) (.ret (AV.int .i64 (ad (wk8 (b - 48)))) []) (.ite (decide (97≤b)) (.ite (decide (b≤102)) (.ret (AV.int .i64 (ad ((ad (wk8 (b - 97))) + 10))) []) (.ite (decide (65≤b)) (.ite (decide (b≤70)) (.ret (AV.int .i64 (ad ((ad (wk8 (b - 65))) + 10))) []) (.ret (AV.int .i64 (-1)) [])) (.ret (AV.int .i64 (-1)) []))) (.ite (decide (65≤b)) (.ite (decide (b≤70)) (.ret (AV.int .i64 (ad ((ad (wk8 (b - 65))) + 10))) []) (.ret (AV.int .i64 (-1)) [])) (.ret (AV.int .i64 (-1)) []))))
def RQ: List AV→List Ob→Br
 | [.int .u8 b],[]=>z8 b
 | _,_=> .fail
theorem hexOf_ok: Sound Kx 335 RQ:=ae (C:=abz) (O:=O0) Tryz.func335 (by kernel_rfl) fun args objs=>by
 unfold RQ;split
 · exact .inr (by kernel_rfl)
 · exact .inl rfl
def abA: SC:=[⟨164,_,kq⟩,⟨213,_,fW⟩,⟨282,_,KR⟩]
def z_ (b: Int): Br:=(.ite ((decide (0≤b))&&(decide (b < 256))) (.ite (decide (97≤(fM b))) (.ite (decide ((fM b)≤122)) (.ret (AV.bool true) []) (.ite (aB b) (.ret (AV.bool true) []) (.ret (AV.bool (cH ([45,46,95,126]: aa) b)) []))) (.ite (aB b) (.ret (AV.bool true) []) (.ret (AV.bool (cH ([45,46,95,126]: aa) b)) []))) .fail)
def RR: List AV→List Ob→Br
 | [.int .u8 b],[]=>z_ b
 | _,_=> .fail
theorem sfree_ok: Sound Kx 324 RR:=ae (C:=abA) (O:=O0) Tryz.func324 (by kernel_rfl) fun args objs=>by
 unfold RR;split
 · exact .inr (by kernel_rfl)
 · exact .inl rfl
def uw (b: Int): Br:=(.ite (decide (97≤b)) (.ite (decide (b≤122)) (.ret (AV.int .u8 (wk8 (b - 32))) []) (.ret (AV.int .u8 b) [])) (.ret (AV.int .u8 b) []))
def K5: List AV→List Ob→Br
 | [.int .u8 b],[]=>uw b
 | _,_=> .fail
theorem supper_ok: Sound Kx 325 K5:=ae (C:=[]) (O:=O0) Tryz.func325 (by kernel_rfl) fun args objs=>by
 unfold K5;split
 · exact .inr (by kernel_rfl)
 · exact .inl rfl
def abB: SC:=[⟨293,_,lG⟩,⟨244,_,eO⟩]
def Aa (b: Int): Br:=(.ite (jy b) (.ret (AV.bool true) []) (.ite (aB b) (.ret (AV.bool true) []) (.ite (decide (b=45)) (.ret (AV.bool true) []) (.ret (AV.bool (decide (b=46))) []))))
def RS: List AV→List Ob→Br
 | [.int .u8 b],[]=>Aa b
 | _,_=> .fail
theorem Xc: Sound Kx 337 RS:=ae (C:=abB) (O:=O0) Tryz.func337 (by kernel_rfl) fun args objs=>by
 unfold RS;split
 · exact .inr (by kernel_rfl)
 · exact .inl rfl
def xK: Opt:={ live:=[(5,[0,4,5])],outs:=[(5,[2,3,4])] }
def sReadHex_C: SC:=[⟨164,_,kq⟩,⟨213,_,fW⟩]
def je (aZ: aa) (bi a7: Int) (kR5: aa→Int→Int→OR') (eg Bw: Int→OR'): OR':=
 (bif (decide (a7 < (aZ.length: Int))) then (bif (decide (0≤a7)) then (bif (decide (a7 < (aZ.length: Int))) then (bif ((decide (0≤(aq aZ a7)))&&(decide ((aq aZ a7) < 256))) then (bif (aB (fM (aq aZ a7))) then (kR5 aZ (ad ((ad (bi * 16)) + (ad (wk8 ((fM (aq aZ a7)) - 48))))) (ad (a7 + 1))) else (bif (decide (97≤(fM (aq aZ a7)))) then (bif (decide ((fM (aq aZ a7))≤102)) then (kR5 aZ (ad ((ad ((ad (bi * 16)) + (ad (wk8 ((fM (aq aZ a7)) - 97))))) + 10)) (ad (a7 + 1))) else (eg bi)) else (eg bi))) else none) else none) else none) else (Bw bi))
def dT: Nat→aa→Int→Int→(Int→OR')→(Int→OR')→OR'
 | 0,_,_,_,_,_=>none
 | n + 1,aZ,bi,a7,eg,Bw=>je aZ bi a7 (fun aZ bi a7=>dT n aZ bi a7 eg Bw) eg Bw
abbrev sReadHex_p5: SP:=⟨49,[0,4,5],[(.v .s),(.v (.i .i64)),(.v (.i .i64))],[]⟩
noncomputable def ux: Code:=aC (aG Tryz.f323) [1,1,1,0,1,0,0]
def uy (f: (Int→OR')→(Int→OR')→OR') (k: KT): OR':=f (fun av=>k Ex.ret ((St.mk (aF 0 49 [(2,(AV.int .i64 0)),(3,(AV.bool false)),(4,(AV.int .i64 av))]) ([]: (List (Nat×(Ob))))))) (fun kf=>k (Ex.exit 0) ((St.mk (aF 0 49 [(4,(AV.int .i64 kf))]) ([]: (List (Nat×(Ob)))))))
def uz (n: Nat) (d: sReadHex_p5.D): KT→OR':=uy (dT n d.1.1 d.1.2.1 d.1.2.2.1)
def xL (N: Nat): Lam:=bH [⟨5,sReadHex_p5,uz N⟩]
theorem DU (N: Nat): OkL Kx sReadHex_C.s xK 0 N (xL N) ux:=okL sReadHex_p5 (uz) (fun d kR=>uy (je d.1.1 d.1.2.1 d.1.2.2.1 (fun aZ bi a7=>kR ((aZ,bi,a7,()),())))) (fun _ _=>by kernel_rfl) (fun _ _ _=>by kernel_rfl) (fun _ _=>by kernel_rfl) (fun _ _ _ _=>by kernel_rfl) (al (l':=[]) (by kernel_rfl) trivial)
def rb (N: Nat) (s: aa): OR':=(bif (decide ((s.length: Int)=0)) then (some ((AV.tup [.int .i64 0,.bool false]),[])) else (bif (decide (7 < (s.length: Int))) then (some ((AV.tup [.int .i64 0,.bool false]),[])) else (dT N s 0 0 (fun av=>(some ((AV.tup [.int .i64 0,.bool false]),[]))) (fun kf=>(some ((AV.tup [.int .i64 kf,.bool true]),[]))))))
def rc (φ: aa→Br): List AV→List Ob→Br
 | [.str s],[]=>φ s
 | _,_=> .fail
theorem Ab {φ: aa→Br} (fu: aa→Nat) (hv: ∀ s res_,(φ s).val=some res_→rb (fu s) s=some res_): Sound Kx 323 (rc φ):=ap (C:=sReadHex_C) (O:=xK) Tryz.func323 (by kernel_rfl) fun args objs=>by
 unfold rc;split
 · rename_i s;exact .inr fun _ hyp_=>aO (Λ:=xL (fu s)) (by kernel_rfl) (al (l':=[ux]) (by kernel_rfl) ⟨DU _,trivial⟩) (by kernel_rfl) (hv s _ hyp_)
 · exact .inl rfl
def K6: Opt:={ live:=[(4,[0,1,5,6,7])],outs:=[(4,[4,5])] }
def nC (a_: aa) (a8 aQ cz: Int) (dR: (List aa)) (kR4: aa→Int→Int→Int→(List aa)→OR') (eK: (List aa)→OR'): OR':=
 (bif (decide (cz≤(a_.length: Int))) then (bif (decide (cz=(a_.length: Int))) then (bif (decide (0≤aQ)) then (bif (decide (aQ≤cz)) then (bif (decide (cz≤(a_.length: Int))) then (bif (decide (((dR.length + (List.length (List.set (List.replicate 1 ([]: aa)) 0 (cut a_ aQ cz)))) * 16)≤140737488355328)) then (kR4 a_ a8 (ad (cz + 1)) (ad (cz + 1)) (dR++(List.set (List.replicate 1 ([]: aa)) 0 (cut a_ aQ cz)))) else none) else none) else none) else none) else (bif (decide (0≤cz)) then (bif (decide (cz < (a_.length: Int))) then (bif (decide ((aq a_ cz)=a8)) then (bif (decide (0≤aQ)) then (bif (decide (aQ≤cz)) then (bif (decide (cz≤(a_.length: Int))) then (bif (decide (((dR.length + (List.length (List.set (List.replicate 1 ([]: aa)) 0 (cut a_ aQ cz)))) * 16)≤140737488355328)) then (kR4 a_ a8 (ad (cz + 1)) (ad (cz + 1)) (dR++(List.set (List.replicate 1 ([]: aa)) 0 (cut a_ aQ cz)))) else none) else none) else none) else none) else (kR4 a_ a8 aQ (ad (cz + 1)) dR)) else none) else none)) else (eK dR))
def gl: Nat→aa→Int→Int→Int→(List aa)→((List aa)→OR')→OR'
 | 0,_,_,_,_,_,_=>none
 | n + 1,a_,a8,aQ,cz,dR,eK=>nC a_ a8 aQ cz dR (fun a_ a8 aQ cz dR=>gl n a_ a8 aQ cz dR eK) eK
abbrev ssplit_p4: SP:=⟨35,[0,1,5,6,7],[(.v .s),(.v (.i .u8)),(.v (.ref 384 0)),(.v (.i .i64)),(.v (.i .i64))],[(384, .arr Ty.str 0 false)]⟩
noncomputable def DV: Code:=aC (aG Tryz.f301) [1,1,1,0,1,0,0]
def DW (f: ((List aa)→OR')→OR') (k: KT): OR':=f (fun dh=>k (Ex.exit 0) ((St.mk (aF 0 35 [(5,(AV.ref 384 0))]) ((384,(Ob.arr Ty.str 0 false dh))::([]: (List (Nat×(Ob))))))))
def DX (n: Nat) (d: ssplit_p4.D): KT→OR':=DW (gl n d.1.1 d.1.2.1 d.1.2.2.2.1 d.1.2.2.2.2.1 d.2.1)
def K7 (N: Nat): Lam:=bH [⟨4,ssplit_p4,DX N⟩]
theorem Og (N: Nat): OkL Kx noS K6 0 N (K7 N) DV:=okL ssplit_p4 (DX) (fun d kR=>DW (nC d.1.1 d.1.2.1 d.1.2.2.2.1 d.1.2.2.2.2.1 d.2.1 (fun a_ a8 aQ cz dR=>kR ((a_,a8,(),aQ,cz,()),(dR,()))))) (fun _ _=>by kernel_rfl) (fun _ _ _=>by kernel_rfl) (fun _ _=>by kernel_rfl) (fun _ _ _ _=>by kernel_rfl) (al (l':=[]) (by kernel_rfl) trivial)
def xM (N: Nat) (s: aa) (b: Int): OR':=(gl N s b 0 0 ([]: (List aa)) (fun dh=>(some ((AV.ref 0 0),[.arr Ty.str 0 false dh]))))
def xN (φ: aa→Int→Br): List AV→List Ob→Br
 | [.str s, .int .u8 b],[]=>φ s b
 | _,_=> .fail
theorem Hl {φ: aa→Int→Br} (fu: aa→Int→Nat) (hv: ∀ s b res_,(φ s b).val=some res_→xM (fu s b) s b=some res_): Sound Kx 301 (xN φ):=ap (C:=[]) (O:=K6) Tryz.func301 (by kernel_rfl) fun args objs=>by
 unfold xN;split
 · rename_i s b;exact .inr fun _ hyp_=>aO (Λ:=K7 (fu s b)) (by kernel_rfl) (al (l':=[DV]) (by kernel_rfl) ⟨Og _,trivial⟩) (by kernel_rfl) (hv s b _ hyp_)
 · exact .inl rfl
def aef (s p: aa): Br:=(.ite (decide ((p.length: Int)≤(s.length: Int))) (.ite (decide (0≤(p.length: Int))) (.ite (decide ((p.length: Int)≤(s.length: Int))) (.ret (AV.bool (decide ((cut s 0 (p.length: Int))=p))) []) .fail) .fail) (.ret (AV.bool false) []))
def aeg: List AV→List Ob→Br
 | [.str s, .str p],[]=>aef s p
 | _,_=> .fail
theorem aeh: Sound Kx 196 aeg:=ae (C:=[]) (O:=O0) Tryz.func196 (by kernel_rfl) fun args objs=>by
 unfold aeg;split
 · exact .inr (by kernel_rfl)
 · exact .inl rfl
def agT: SC:=[⟨196,_,aeh⟩]
def aei (s p: aa): Br:=(.ite (decide ((p.length: Int)≤(s.length: Int))) (.ite (decide (0≤(p.length: Int))) (.ite (decide ((p.length: Int)≤(s.length: Int))) (.ret (AV.bool (decide ((cut s 0 (p.length: Int))=p))) []) .fail) .fail) (.ret (AV.bool false) []))
def aej: List AV→List Ob→Br
 | [.str s, .str p],[]=>aei s p
 | _,_=> .fail
theorem aek: Sound Kx 117 aej:=ae (C:=agT) (O:=O0) Tryz.func117 (by kernel_rfl) fun args objs=>by
 unfold aej;split
 · exact .inr (by kernel_rfl)
 · exact .inl rfl
theorem Ad (t: aa): ∀ (r cur: aa),(∀ c ∈ r,by8 c≠34)→∃ L,eQ cur false (r++44::t)=L++eQ [] false t
 | [],cur,_=>⟨[cur],by rw [List.nil_append,iq];rfl⟩
 | c::r,cur,h=>by
   have hc:=h c (List.mem_cons_self ..)
   have hr:=fun x hx=>h x (List.mem_cons_of_mem _ hx)
   rw [List.cons_append,iq,dF' hc,cond_false,Bool.false_and,cond_false,Bool.not_false,Bool.true_and]
   cases decide (by8 c=44)
   · rw [cond_false];exact Ad t r _ hr
   · rw [cond_true]
     obtain ⟨L,hL⟩:=Ad t r [] hr
     exact ⟨cur::L,by rw [hL];rfl⟩
theorem K8: ∀ (l m: List aa),fN (l++m)=fN l++fN m
 | [],m=>rfl
 | x::l,m=>by
   rw [List.cons_append,gk,gk,K8 l m]
   cases decide (aE x=[]) <;> rfl
theorem RT (r t: aa) (h: ∀ c ∈ r,by8 c≠34) (x: aa) (hx: x ∈ fN (eQ [] false t)): x ∈ fN (eQ [] false (r++44::t)):=by
 obtain ⟨L,hL⟩:=Ad t r [] h
 rw [hL,K8]
 exact List.mem_append_right _ hx
end
end Go.Proofs.YtgknmoadpgpdeaaGreatDoor.Ev
