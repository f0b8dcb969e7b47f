/- The texts Ext1, La, Lb, Lc, Ld, Le, Lf, Lg, Lh, Li, Lj, Lk, Ll, Lm, Ln, Na, Nb, Nc, Nd, Ua, Tk, one behind the other. -/
import Derived.Test.YtgknmoadpgpdeaaGreatDoorK13
import Derived.Lib.Bytealg
namespace Go.Proofs.YtgknmoadpgpdeaaGreatDoor.Ev
open Go Go.RowKit
set_option linter.unusedVariables false
set_option linter.unusedSimpArgs false
def sR (s: List UInt8) (c: Int): Int:=Go.Lib.indexByte s c.toNat.toUInt8
def Xn (s: List UInt8) (c: Int): Br:= .ret (.int .i64 (sR s c)) []
def Vr: List AV→List Ob→Br
 | [.str s, .int .u8 c],[]=>Xn s c
 | _,_=> .fail
theorem Xo: Sound Kx 291 Vr:=by
 intro args objs res objs' hv w L vs hR ho hr
 unfold Vr at hv
 split at hv
 · rename_i s c
   cases hv
   simp only [aX,rel] at hr
   obtain ⟨v1,cs1,rfl,rfl,v2,cs2,rfl,rfl,rfl⟩:=hr
   refine .inr ⟨.int .i64 (Go.Lib.indexByte s c.toNat.toUInt8),w,?_,L,hR,ho,?_,by simp [rel,sR]⟩
   · have:=run_callFunc_extern (P:=Kx.P) (f:=291) (e:=Extern.BytealgIndexByte.indexByte) Tryz.func291 (by kernel_rfl) (by kernel_rfl) (by kernel_rfl) (by kernel_rfl) #[.string ⟨s.toArray⟩, .int .u8 c] w
     refine this.trans ?_
     rw [Go.Lib.run_indexByteString]
     simp [Result.andThen,sR]
   · exact Kept.refl _ _
 · cases hv
end Go.Proofs.YtgknmoadpgpdeaaGreatDoor.Ev
namespace Go.Proofs.YtgknmoadpgpdeaaGreatDoor.Ev
open Go Go.RowKit
set_option linter.unusedVariables false
set_option linter.unusedSimpArgs false
noncomputable section
def Jj (b: Int): Br:=(.ite (decide (97≤b)) (.ret (AV.bool (decide (b≤122))) []) (.ret (AV.bool false) []))
def y9: List AV→List Ob→Br
 | [.int .u8 b],[]=>Jj b
 | _,_=> .fail
theorem Jk: Sound Kx 293 y9:=ac (C:=[]) (O:=O0) Tryz.func293 (by kernel_rfl) fun args objs=>by
 unfold y9;split
 · exact .inr (by kernel_rfl)
 · exact .inl rfl
def Jl (b: Int): Br:=(.ite (decide (65≤b)) (.ret (AV.bool (decide (b≤90))) []) (.ret (AV.bool false) []))
def y_: List AV→List Ob→Br
 | [.int .u8 b],[]=>Jl b
 | _,_=> .fail
theorem Jm: Sound Kx 197 y_:=ac (C:=[]) (O:=O0) Tryz.func197 (by kernel_rfl) fun args objs=>by
 unfold y_;split
 · exact .inr (by kernel_rfl)
 · exact .inl rfl
def Jn (b: Int): Br:=(.ite (decide (48≤b)) (.ret (AV.bool (decide (b≤57))) []) (.ret (AV.bool false) []))
def za: List AV→List Ob→Br
 | [.int .u8 b],[]=>Jn b
 | _,_=> .fail
theorem Jo: Sound Kx 244 za:=ac (C:=[]) (O:=O0) Tryz.func244 (by kernel_rfl) fun args objs=>by
 unfold za;split
 · exact .inr (by kernel_rfl)
 · exact .inl rfl
def Jp (b: Int): Br:=(.ite (decide (b=32)) (.ret (AV.bool true) []) (.ret (AV.bool (decide (b=9))) []))
def zb: List AV→List Ob→Br
 | [.int .u8 b],[]=>Jp b
 | _,_=> .fail
theorem Jq: Sound Kx 236 zb:=ac (C:=[]) (O:=O0) Tryz.func236 (by kernel_rfl) fun args objs=>by
 unfold zb;split
 · exact .inr (by kernel_rfl)
 · exact .inl rfl
def mM (b: Int): Br:=(.ite (decide (b=9)) (.ret (AV.bool true) []) (.ite (decide (32≤b)) (.ret (AV.bool (!(decide (b=127)))) []) (.ret (AV.bool false) [])))
def zc: List AV→List Ob→Br
 | [.int .u8 b],[]=>mM b
 | _,_=> .fail
theorem Jr: Sound Kx 221 zc:=ac (C:=[]) (O:=O0) Tryz.func221 (by kernel_rfl) fun args objs=>by
 unfold zc;split
 · exact .inr (by kernel_rfl)
 · exact .inl rfl
def zd (b: Int): Br:=(.ite (decide (33≤b)) (.ret (AV.bool (decide (b≤126))) []) (.ret (AV.bool false) []))
def qu: List AV→List Ob→Br
 | [.int .u8 b],[]=>zd b
 | _,_=> .fail
theorem ze: Sound Kx 230 qu:=ac (C:=[]) (O:=O0) Tryz.func230 (by kernel_rfl) fun args objs=>by
 unfold qu;split
 · exact .inr (by kernel_rfl)
 · exact .inl rfl
def Js: SC:=[⟨201,_,dc⟩]
def CR (n: Int): Br:=(.ite (decide (200≤n)) (.ret (AV.bool (decide (n≤599))) []) (.ret (AV.bool false) []))
def tN: List AV→List Ob→Br
 | [.int .i64 n],[]=>CR n
 | _,_=> .fail
theorem CS: Sound Kx 174 tN:=ac (C:=Js) (O:=O0) Tryz.func174 (by kernel_rfl) fun args objs=>by
 unfold tN;split
 · exact .inr (by kernel_rfl)
 · exact .inl rfl
def qv (n: Int): Br:=(.ite (decide (n=204)) (.ret (AV.bool true) []) (.ret (AV.bool (decide (n=304))) []))
def jR: List AV→List Ob→Br
 | [.int .i64 n],[]=>qv n
 | _,_=> .fail
theorem qw: Sound Kx 176 jR:=ac (C:=[]) (O:=O0) Tryz.func176 (by kernel_rfl) fun args objs=>by
 unfold jR;split
 · exact .inr (by kernel_rfl)
 · exact .inl rfl
def qx (b: Int): Br:=(.ite (decide (65≤b)) (.ite (decide (b≤90)) (.ret (AV.int .u8 (wk8 (b + 32))) []) (.ret (AV.int .u8 b) [])) (.ret (AV.int .u8 b) []))
def F1: List AV→List Ob→Br
 | [.int .u8 b],[]=>qx b
 | _,_=> .fail
theorem slower_ok: Sound Kx 164 F1:=ac (C:=[]) (O:=O0) Tryz.func164 (by kernel_rfl) fun args objs=>by
 unfold F1;split
 · exact .inr (by kernel_rfl)
 · exact .inl rfl
def MU (b: Int): Br:=(.ite (decide (b=32)) (.ret (AV.bool true) []) (.ret (AV.bool (decide (b=9))) []))
def F2: List AV→List Ob→Br
 | [.int .u8 b],[]=>MU b
 | _,_=> .fail
theorem MV: Sound Kx 261 F2:=ac (C:=[]) (O:=O0) Tryz.func261 (by kernel_rfl) fun args objs=>by
 unfold F2;split
 · exact .inr (by kernel_rfl)
 · exact .inl rfl
def MW (b: Int): Br:=(.ite (decide (48≤b)) (.ret (AV.bool (decide (b≤57))) []) (.ret (AV.bool false) []))
def F3: List AV→List Ob→Br
 | [.int .u8 b],[]=>MW b
 | _,_=> .fail
theorem MX: Sound Kx 213 F3:=ac (C:=[]) (O:=O0) Tryz.func213 (by kernel_rfl) fun args objs=>by
 unfold F3;split
 · exact .inr (by kernel_rfl)
 · exact .inl rfl
def qy (b: Int): Br:=(.ite (decide (b=9)) (.ret (AV.bool true) []) (.ite (decide (32≤b)) (.ret (AV.bool (!(decide (b=127)))) []) (.ret (AV.bool false) [])))
def F4: List AV→List Ob→Br
 | [.int .u8 b],[]=>qy b
 | _,_=> .fail
theorem MY: Sound Kx 241 F4:=ac (C:=[]) (O:=O0) Tryz.func241 (by kernel_rfl) fun args objs=>by
 unfold F4;split
 · exact .inr (by kernel_rfl)
 · exact .inl rfl
def SK (n: Int): Br:=(.ite (decide (n=204)) (.ret (AV.bool true) []) (.ret (AV.bool (decide (n=304))) []))
def MZ: List AV→List Ob→Br
 | [.int .i64 n],[]=>SK n
 | _,_=> .fail
theorem SL: Sound Kx 190 MZ:=ac (C:=[]) (O:=O0) Tryz.func190 (by kernel_rfl) fun args objs=>by
 unfold MZ;split
 · exact .inr (by kernel_rfl)
 · exact .inl rfl
def iA (n: Int): Bool:=decide (97≤n)&&decide (n≤122)
def CU (n: Int): Bool:=decide (65≤n)&&decide (n≤90)
def am (n: Int): Bool:=decide (48≤n)&&decide (n≤57)
def Vs (n: Int): Bool:=decide (n=32)||decide (n=9)
def qz (n: Int): Bool:=decide (n=9)||(decide (32≤n)&& !decide (n=127))
def cT (n: Int): Bool:=decide (33≤n)&&decide (n≤126)
def gg (n: Int): Int:=bif CU n then n + 32 else n
def tokSet: aa:=[33,35,36,37,38,39,42,43,45,46,94,95,124,126]
def li (n: Int): Bool:=iA n||CU n||am n||decide (n=96)||tokSet.any fun c=>decide (by8 c=n)
def F5 (p: Int→Bool): List AV→List Ob→Br
 | [.int .u8 b],[]=> .ret (.bool (p b)) []
 | _,_=> .fail
theorem oN {n: Nat} {s: List AV→List Ob→Br} (hs: Sound Kx n s) {p: Int→Bool} (h: ∀ b,(s [.int .u8 b] []).val=some (.bool (p b),[])): Sound Kx n (F5 p):=hs.of fun args objs r hv=>by
 unfold F5 at hv
 split at hv
 · rw [h];exact hv
 · cases hv
def Xp (p: Int→Bool): List AV→List Ob→Br
 | [.int .i64 b],[]=> .ret (.bool (p b)) []
 | _,_=> .fail
theorem M4 {n: Nat} {s: List AV→List Ob→Br} (hs: Sound Kx n s) {p: Int→Bool} (h: ∀ b,(s [.int .i64 b] []).val=some (.bool (p b),[])): Sound Kx n (Xp p):=hs.of fun args objs r hv=>by
 unfold Xp at hv
 split at hv
 · rw [h];exact hv
 · cases hv
theorem v8 (c x: Bool): (Br.ite c (.ret (.bool x) []) (.ret (.bool false) [])).val=some (.bool (c&&x),[]):=by cases c <;> rfl
theorem ab6 (c x: Bool): (Br.ite c (.ret (.bool true) []) (.ret (.bool x) [])).val=some (.bool (c||x),[]):=by cases c <;> rfl
theorem j7: Sound Kx 293 (F5 iA):=oN Jk fun b=>v8 _ _
theorem j8: Sound Kx 197 (F5 CU):=oN Jm fun b=>v8 _ _
theorem ei: Sound Kx 244 (F5 am):=oN Jo fun b=>v8 _ _
theorem v_: Sound Kx 230 (F5 cT):=oN ze fun b=>v8 _ _
theorem CV: Sound Kx 236 (F5 Vs):=oN Jq fun b=>ab6 _ _
theorem CW: Sound Kx 221 (F5 qz):=oN Jr fun b=>by
 show (mM b).val=_
 unfold mM qz
 simp only [Br.val]
 cases decide (b=9) <;> cases decide (32≤b) <;> rfl
theorem Jt: Sound Kx 261 (F5 Vs):=oN MV fun b=>ab6 _ _
theorem e_: Sound Kx 213 (F5 am):=oN MX fun b=>v8 _ _
theorem Ju: Sound Kx 241 (F5 qz):=oN MY fun b=>by
 show (qy b).val=_
 unfold qy qz
 simp only [Br.val]
 cases decide (b=9) <;> cases decide (32≤b) <;> rfl
def ZU: List AV→List Ob→Br
 | [.int .u8 b],[]=> .ite (decide (0≤b)&&decide (b < 256)) (.ret (.int .u8 (gg b)) []) .fail
 | _,_=> .fail
theorem ja: Sound Kx 164 ZU:=slower_ok.of fun args objs r h=>by
 unfold ZU at h
 split at h
 · rename_i b
   obtain ⟨h1,h2⟩:=ae h
   simp only [Bool.and_eq_true,decide_eq_true_eq] at h1
   rw [← h2]
   show (qx b).val=_
   unfold qx gg CU
   by_cases g1: 65≤b <;> by_cases g2: b≤90 <;> simp only [Br.val,g1,g2,decide_true,decide_false,Bool.and_true,Bool.and_false,Bool.false_and,cond_true,cond_false]
   rw [w8 (by omega) (by omega)]
 · cases h
def Jv (n: Int): Bool:=decide (200≤n)&&decide (n≤599)
def wa (n: Int): Bool:=decide (n=204)||decide (n=304)
theorem zf: Sound Kx 174 (Xp Jv):=M4 CS fun b=>v8 _ _
theorem oO: Sound Kx 176 (Xp wa):=M4 qw fun b=>ab6 _ _
theorem M5: Sound Kx 190 (Xp wa):=M4 SL fun b=>ab6 _ _
def aH (p: Int→Bool) (s: aa): Bool:=s.all fun c=>p (by8 c)
def aK (s: aa): aa:=bP ((bytesOf s).map gg)
def sp8 (c: UInt8): Bool:=Vs (by8 c)
def iQ (s: aa): aa:=s.dropWhile sp8
def lj (s: aa): aa:=(s.reverse.dropWhile sp8).reverse
def cg (s: aa): aa:=lj (iQ s)
def zg (s: aa): Bool:=decide (1≤s.length)&&decide (s.length≤4000)&&aH li s
def isM (s: aa): Bool:=decide (s.length≤4611686018427387904)
def acF: SC:=[⟨291,_,Xo⟩]
def ZV (s: aa) (c: Int): Br:=(.ret (AV.int .i64 (sR s c)) [])
def ZW: List AV→List Ob→Br
 | [.str s, .int .u8 c],[]=>ZV s c
 | _,_=> .fail
theorem ZX: Sound Kx 247 ZW:=ac (C:=acF) (O:=O0) Tryz.func247 (by kernel_rfl) fun args objs=>by
 unfold ZW;split
 · exact .inr (by kernel_rfl)
 · exact .inl rfl
def acG: SC:=[⟨247,_,ZX⟩]
def ZY (s: aa) (c: Int): Br:=(.ret (AV.int .i64 (sR s c)) [])
def ZZ: List AV→List Ob→Br
 | [.str s, .int .u8 c],[]=>ZY s c
 | _,_=> .fail
theorem Vt: Sound Kx 207 ZZ:=ac (C:=acG) (O:=O0) Tryz.func207 (by kernel_rfl) fun args objs=>by
 unfold ZZ;split
 · exact .inr (by kernel_rfl)
 · exact .inl rfl
def SM: SC:=[⟨293,_,j7⟩,⟨197,_,j8⟩,⟨244,_,ei⟩,⟨207,_,Vt⟩]
def qC (b: Int): Br:=(.ite (iA b) (.ret (AV.bool true) []) (.ite (CU b) (.ret (AV.bool true) []) (.ite (am b) (.ret (AV.bool true) []) (.ite (decide (b=96)) (.ret (AV.bool true) []) (.ret (AV.bool (decide (0≤(sR ([33,35,36,37,38,39,42,43,45,46,94,95,124,126]: aa) b)))) [])))))
def F6: List AV→List Ob→Br
 | [.int .u8 b],[]=>qC b
 | _,_=> .fail
theorem isTokB_ok: Sound Kx 259 F6:=ac (C:=SM) (O:=O0) Tryz.func259 (by kernel_rfl) fun args objs=>by
 unfold F6;split
 · exact .inr (by kernel_rfl)
 · exact .inl rfl
def Vu: Opt:={ live:=[(2,[0,1,5])],outs:=[(2,[4])] }
def wb (ay: aa) (aB cF: Int) (kR2: aa→Int→Int→OR') (cf cO: OR'): OR':=
 (bif (decide (cF < (ay.length: Int))) then (bif (decide (0≤cF)) then (bif (decide (cF < (ay.length: Int))) then (bif (decide ((aj ay cF)=aB)) then cf else (kR2 ay aB (ad (cF + 1)))) else none) else none) else cO)
def mN: Nat→aa→Int→Int→(OR')→(OR')→OR'
 | 0,_,_,_,_,_=>none
 | n + 1,ay,aB,cF,cf,cO=>wb ay aB cF (fun ay aB cF=>mN n ay aB cF cf cO) cf cO
abbrev shas_p2: SP:=⟨17,[0,1,5],[(.v .s),(.v (.i .u8)),(.v (.i .i64))],[]⟩
noncomputable def M6: Code:=ar (aC Tryz.f282) [1,0,1,0,0]
def M7 (f: (OR')→(OR')→OR') (k: KT): OR':=f (k Ex.ret ((St.mk (aA 0 17 [(4,(AV.bool true))]) ([]: (List (Nat×(Ob))))))) (k (Ex.exit 0) ((St.mk (aA 0 17 []) ([]: (List (Nat×(Ob)))))))
def M8 (n: Nat) (d: shas_p2.D): KT→OR':=M7 (mN n d.1.1 d.1.2.1 d.1.2.2.1)
def Vv (N: Nat): Lam:=bI [⟨2,shas_p2,M8 N⟩]
theorem SN (N: Nat): OkL Kx noS Vu 0 N (Vv N) M6:=okL shas_p2 (M8) (fun d kR=>M7 (wb d.1.1 d.1.2.1 d.1.2.2.1 (fun ay aB cF=>kR ((ay,aB,cF,()),())))) (fun _ _=>by kernel_rfl) (fun _ _ _=>by kernel_rfl) (fun _ _=>by kernel_rfl) (fun _ _ _ _=>by kernel_rfl) (af (l':=[]) (by kernel_rfl) trivial)
def F7 (N: Nat) (s: aa) (b: Int): OR':=(mN N s b 0 (some ((AV.bool true),[])) (some ((AV.bool false),[])))
def F8 (φ: aa→Int→Br): List AV→List Ob→Br
 | [.str s, .int .u8 b],[]=>φ s b
 | _,_=> .fail
theorem M9 {φ: aa→Int→Br} (fu: aa→Int→Nat) (hv: ∀ s b res_,(φ s b).val=some res_→F7 (fu s b) s b=some res_): Sound Kx 282 (F8 φ):=ah (C:=[]) (O:=Vu) Tryz.func282 (by kernel_rfl) fun args objs=>by
 unfold F8;split
 · rename_i s b;exact .inr fun _ hyp_=>aL (Λ:=Vv (fu s b)) (by kernel_rfl) (af (l':=[M6]) (by kernel_rfl) ⟨SN _,trivial⟩) (by kernel_rfl) (hv s b _ hyp_)
 · exact .inl rfl
def M_: Opt:={ live:=[(3,[3,8,9,10])],outs:=[(3,[2,3])] }
def ifold_C: SC:=[⟨197,_,j8⟩]
def o_ (ax an: Int) (bl: (List Int)) (kR3: Int→Int→(List Int)→OR') (dH: (List Int)→OR'): OR':=
 (bif (decide (an < ax)) then (bif (decide (0≤an)) then (bif (decide (an < (bl.length: Int))) then (bif (CU (List.getD bl (Int.toNat an) 0)) then (bif (decide (0≤an)) then (bif (decide (an < (bl.length: Int))) then (kR3 ax (ad (an + 1)) (List.set bl (Int.toNat an) (wk8 ((List.getD bl (Int.toNat an) 0) + 32)))) else none) else none) else (kR3 ax (ad (an + 1)) bl)) else none) else none) else (dH bl))
def gY: Nat→Int→Int→(List Int)→((List Int)→OR')→OR'
 | 0,_,_,_,_=>none
 | n + 1,ax,an,bl,dH=>o_ ax an bl (fun ax an bl=>gY n ax an bl dH) dH
abbrev ifold_p3: SP:=⟨25,[3,8,9,10],[(.v (.ref 256 0)),(.v (.ref 256 0)),(.v (.i .i64)),(.v (.i .i64))],[(256, .arr (Ty.int .u8) 0 false)]⟩
noncomputable def F9: Code:=ar (aC Tryz.f118) [1,1,0,1,0,0]
def F_ (f: ((List Int)→OR')→OR') (k: KT): OR':=f (fun bd=>k (Ex.exit 0) ((St.mk (aA 0 25 [(3,(AV.ref 256 0))]) ((256,(Ob.arr (Ty.int .u8) 0 false bd))::([]: (List (Nat×(Ob))))))))
def Ga (n: Nat) (d: ifold_p3.D): KT→OR':=F_ (gY n d.1.2.2.1 d.1.2.2.2.1 d.2.1)
def Na (N: Nat): Lam:=bI [⟨3,ifold_p3,Ga N⟩]
theorem Nb (N: Nat): OkL Kx ifold_C.s M_ 0 N (Na N) F9:=okL ifold_p3 (Ga) (fun d kR=>F_ (o_ d.1.2.2.1 d.1.2.2.2.1 d.2.1 (fun ax an bl=>kR (((),(),ax,an,()),(bl,()))))) (fun _ _=>by kernel_rfl) (fun _ _ _=>by kernel_rfl) (fun _ _=>by kernel_rfl) (fun _ _ _ _=>by kernel_rfl) (af (l':=[]) (by kernel_rfl) trivial)
def zh (N: Nat) (s: aa): OR':=(gY N ((List.length (bytesOf s)): Int) 0 (bytesOf s) (fun bd=>(some ((AV.str (bP bd)),[]))))
def zi (φ: aa→Br): List AV→List Ob→Br
 | [.str s],[]=>φ s
 | _,_=> .fail
theorem Jw {φ: aa→Br} (fu: aa→Nat) (hv: ∀ s res_,(φ s).val=some res_→zh (fu s) s=some res_): Sound Kx 118 (zi φ):=ah (C:=ifold_C) (O:=M_) Tryz.func118 (by kernel_rfl) fun args objs=>by
 unfold zi;split
 · rename_i s;exact .inr fun _ hyp_=>aL (Λ:=Na (fu s)) (by kernel_rfl) (af (l':=[F9]) (by kernel_rfl) ⟨Nb _,trivial⟩) (by kernel_rfl) (hv s _ hyp_)
 · exact .inl rfl
def Nc: Opt:={ live:=[(3,[3,4])],outs:=[(3,[2,3])] }
def sfold_C: SC:=[⟨164,_,ja⟩]
def pb (ax: Int) (an: (List Int)) (kR3: Int→(List Int)→OR') (dH: (List Int)→OR'): OR':=
 (bif (decide (ax < (an.length: Int))) then (bif (decide (0≤ax)) then (bif (decide (ax < (an.length: Int))) then (bif ((decide (0≤(List.getD an (Int.toNat ax) 0)))&&(decide ((List.getD an (Int.toNat ax) 0) < 256))) then (bif (decide (0≤ax)) then (bif (decide (ax < (an.length: Int))) then (kR3 (ad (ax + 1)) (List.set an (Int.toNat ax) (gg (List.getD an (Int.toNat ax) 0)))) else none) else none) else none) else none) else none) else (dH an))
def jb: Nat→Int→(List Int)→((List Int)→OR')→OR'
 | 0,_,_,_=>none
 | n + 1,ax,an,dH=>pb ax an (fun ax an=>jb n ax an dH) dH
abbrev sfold_p3: SP:=⟨23,[3,4],[(.v (.ref 256 0)),(.v (.i .i64))],[(256, .arr (Ty.int .u8) 0 false)]⟩
noncomputable def Gb: Code:=ar (aC Tryz.f91) [1,1,0,1,0,0]
def Gc (f: ((List Int)→OR')→OR') (k: KT): OR':=f (fun bd=>k (Ex.exit 0) ((St.mk (aA 0 23 [(3,(AV.ref 256 0))]) ((256,(Ob.arr (Ty.int .u8) 0 false bd))::([]: (List (Nat×(Ob))))))))
def Gd (n: Nat) (d: sfold_p3.D): KT→OR':=Gc (jb n d.1.2.1 d.2.1)
def Nd (N: Nat): Lam:=bI [⟨3,sfold_p3,Gd N⟩]
theorem Nf (N: Nat): OkL Kx sfold_C.s Nc 0 N (Nd N) Gb:=okL sfold_p3 (Gd) (fun d kR=>Gc (pb d.1.2.1 d.2.1 (fun ax an=>kR (((),ax,()),(an,()))))) (fun _ _=>by kernel_rfl) (fun _ _ _=>by kernel_rfl) (fun _ _=>by kernel_rfl) (fun _ _ _ _=>by kernel_rfl) (af (l':=[]) (by kernel_rfl) trivial)
def zj (N: Nat) (s: aa): OR':=(jb N 0 (bytesOf s) (fun bd=>(some ((AV.str (bP bd)),[]))))
def zk (φ: aa→Br): List AV→List Ob→Br
 | [.str s],[]=>φ s
 | _,_=> .fail
theorem Jx {φ: aa→Br} (fu: aa→Nat) (hv: ∀ s res_,(φ s).val=some res_→zj (fu s) s=some res_): Sound Kx 91 (zk φ):=ah (C:=sfold_C) (O:=Nc) Tryz.func91 (by kernel_rfl) fun args objs=>by
 unfold zk;split
 · rename_i s;exact .inr fun _ hyp_=>aL (Λ:=Nd (fu s)) (by kernel_rfl) (af (l':=[Gb]) (by kernel_rfl) ⟨Nf _,trivial⟩) (by kernel_rfl) (hv s _ hyp_)
 · exact .inl rfl
def CX: Opt:={ live:=[(3,[0]),(1,[0])],outs:=[(3,[0,2]),(1,[0,2])] }
def itrim_C: SC:=[⟨236,_,CV⟩]
def pc (IN: aa) (kR1 ab2: aa→OR'): OR':=
 (bif (!(decide (IN=([]: aa)))) then (bif (decide (0 < (IN.length: Int))) then (bif (Vs (aj IN 0)) then (bif (decide (1≤(IN.length: Int))) then (kR1 (cut IN 1 (IN.length: Int))) else none) else (ab2 IN)) else none) else (ab2 IN))
def jc: Nat→aa→(aa→OR')→OR'
 | 0,_,_=>none
 | n + 1,IN,ab2=>pc IN (fun IN=>jc n IN ab2) ab2
abbrev itrim_p1: SP:=⟨28,[0],[(.v .s)],[]⟩
noncomputable def Ge: Code:=ar (aC Tryz.f180) [1,0,0,0]
def Gf (f: (aa→OR')→OR') (k: KT): OR':=f (fun RF=>k (Ex.exit 0) ((St.mk (aA 0 28 [(0,(AV.str RF))]) ([]: (List (Nat×(Ob)))))))
def Gg (n: Nat) (d: itrim_p1.D): KT→OR':=Gf (jc n d.1.1)
def pd (ax: aa) (kR3 dH: aa→OR'): OR':=
 (bif (!(decide (ax=([]: aa)))) then (bif (decide (0≤(ad ((ax.length: Int) - 1)))) then (bif (decide ((ad ((ax.length: Int) - 1)) < (ax.length: Int))) then (bif (Vs (aj ax (ad ((ax.length: Int) - 1)))) then (bif (decide (0≤(ad ((ax.length: Int) - 1)))) then (bif (decide ((ad ((ax.length: Int) - 1))≤(ax.length: Int))) then (kR3 (cut ax 0 (ad ((ax.length: Int) - 1)))) else none) else none) else (dH ax)) else none) else none) else (dH ax))
def jd: Nat→aa→(aa→OR')→OR'
 | 0,_,_=>none
 | n + 1,ax,dH=>pd ax (fun ax=>jd n ax dH) dH
abbrev itrim_p3: SP:=⟨28,[0],[(.v .s)],[]⟩
noncomputable def Gh: Code:=ar (aC Tryz.f180) [1,1,0,0,0]
def Gi (f: (aa→OR')→OR') (k: KT): OR':=f (fun bd=>k (Ex.exit 2) ((St.mk (aA 0 28 [(0,(AV.str bd))]) ([]: (List (Nat×(Ob)))))))
def Gj (n: Nat) (d: itrim_p3.D): KT→OR':=Gi (jd n d.1.1)
def CY (N: Nat): Lam:=bI [⟨1,itrim_p1,Gg N⟩,⟨3,itrim_p3,Gj N⟩]
theorem Ng (N: Nat): OkL Kx itrim_C.s CX 0 N (CY N) Ge:=okL itrim_p1 (Gg) (fun d kR=>Gf (pc d.1.1 (fun IN=>kR ((IN,()),())))) (fun _ _=>by kernel_rfl) (fun _ _ _=>by kernel_rfl) (fun _ _=>by kernel_rfl) (fun _ _ _ _=>by kernel_rfl) (af (l':=[]) (by kernel_rfl) trivial)
theorem Nh (N: Nat): OkL Kx itrim_C.s CX 0 N (CY N) Gh:=okL itrim_p3 (Gj) (fun d kR=>Gi (pd d.1.1 (fun ax=>kR ((ax,()),())))) (fun _ _=>by kernel_rfl) (fun _ _ _=>by kernel_rfl) (fun _ _=>by kernel_rfl) (fun _ _ _ _=>by kernel_rfl) (af (l':=[]) (by kernel_rfl) trivial)
def zm (N: Nat) (s: aa): OR':=(jc N s (fun RF=>(jd N RF (fun bd=>(some ((AV.str bd),[]))))))
def zn (φ: aa→Br): List AV→List Ob→Br
 | [.str s],[]=>φ s
 | _,_=> .fail
theorem Jy {φ: aa→Br} (fu: aa→Nat) (hv: ∀ s res_,(φ s).val=some res_→zm (fu s) s=some res_): Sound Kx 180 (zn φ):=ah (C:=itrim_C) (O:=CX) Tryz.func180 (by kernel_rfl) fun args objs=>by
 unfold zn;split
 · rename_i s;exact .inr fun _ hyp_=>aL (Λ:=CY (fu s)) (by kernel_rfl) (af (l':=[Ge,Gh]) (by kernel_rfl) ⟨Ng _,Nh _,trivial⟩) (by kernel_rfl) (hv s _ hyp_)
 · exact .inl rfl
def CZ: Opt:={ live:=[(5,[0,3,4]),(2,[0,3])],outs:=[(5,[0,2,3,4]),(2,[0,2,3])] }
def strim_C: SC:=[⟨261,_,Jt⟩]
def pf (ay: aa) (aB: Int) (kR2 cf: aa→Int→OR'): OR':=
 (bif (decide (aB < (ay.length: Int))) then (bif (decide (0≤aB)) then (bif (decide (aB < (ay.length: Int))) then (bif (Vs (aj ay aB)) then (kR2 ay (ad (aB + 1))) else (cf ay aB)) else none) else none) else (cf ay aB))
def je: Nat→aa→Int→(aa→Int→OR')→OR'
 | 0,_,_,_=>none
 | n + 1,ay,aB,cf=>pf ay aB (fun ay aB=>je n ay aB cf) cf
abbrev strim_p2: SP:=⟨35,[0,3],[(.v .s),(.v (.i .i64))],[]⟩
noncomputable def Gk: Code:=ar (aC Tryz.f224) [1,1,0,0,0]
def Gl (f: (aa→Int→OR')→OR') (k: KT): OR':=f (fun bO gJ=>k (Ex.exit 0) ((St.mk (aA 0 35 [(0,(AV.str bO)),(3,(AV.int .i64 gJ))]) ([]: (List (Nat×(Ob)))))))
def Gm (n: Nat) (d: strim_p2.D): KT→OR':=Gl (je n d.1.1 d.1.2.1)
def pg (aY: aa) (a8 bc: Int) (kR5 dh: aa→Int→Int→OR'): OR':=
 (bif (decide (a8 < bc)) then (bif (decide (0≤(ad (bc - 1)))) then (bif (decide ((ad (bc - 1)) < (aY.length: Int))) then (bif (Vs (aj aY (ad (bc - 1)))) then (kR5 aY a8 (ad (bc - 1))) else (dh aY a8 bc)) else none) else none) else (dh aY a8 bc))
def gZ: Nat→aa→Int→Int→(aa→Int→Int→OR')→OR'
 | 0,_,_,_,_=>none
 | n + 1,aY,a8,bc,dh=>pg aY a8 bc (fun aY a8 bc=>gZ n aY a8 bc dh) dh
abbrev strim_p5: SP:=⟨35,[0,3,4],[(.v .s),(.v (.i .i64)),(.v (.i .i64))],[]⟩
noncomputable def Gn: Code:=ar (aC Tryz.f224) [1,1,1,1,0,0,0]
def Gp (f: (aa→Int→Int→OR')→OR') (k: KT): OR':=f (fun ai bJ cy=>k (Ex.exit 2) ((St.mk (aA 0 35 [(0,(AV.str ai)),(3,(AV.int .i64 bJ)),(4,(AV.int .i64 cy))]) ([]: (List (Nat×(Ob)))))))
def Gq (n: Nat) (d: strim_p5.D): KT→OR':=Gp (gZ n d.1.1 d.1.2.1 d.1.2.2.1)
def C0 (N: Nat): Lam:=bI [⟨2,strim_p2,Gm N⟩,⟨5,strim_p5,Gq N⟩]
theorem Ni (N: Nat): OkL Kx strim_C.s CZ 0 N (C0 N) Gk:=okL strim_p2 (Gm) (fun d kR=>Gl (pf d.1.1 d.1.2.1 (fun ay aB=>kR ((ay,aB,()),())))) (fun _ _=>by kernel_rfl) (fun _ _ _=>by kernel_rfl) (fun _ _=>by kernel_rfl) (fun _ _ _ _=>by kernel_rfl) (af (l':=[]) (by kernel_rfl) trivial)
theorem Nj (N: Nat): OkL Kx strim_C.s CZ 0 N (C0 N) Gn:=okL strim_p5 (Gq) (fun d kR=>Gp (pg d.1.1 d.1.2.1 d.1.2.2.1 (fun aY a8 bc=>kR ((aY,a8,bc,()),())))) (fun _ _=>by kernel_rfl) (fun _ _ _=>by kernel_rfl) (fun _ _=>by kernel_rfl) (fun _ _ _ _=>by kernel_rfl) (af (l':=[]) (by kernel_rfl) trivial)
def zo (N: Nat) (s: aa): OR':=(je N s 0 (fun bO gJ=>(gZ N bO gJ (bO.length: Int) (fun ai bJ cy=>(bif (decide (0≤bJ)) then (bif (decide (bJ≤cy)) then (bif (decide (cy≤(ai.length: Int))) then (some ((AV.str (cut ai bJ cy)),[])) else none) else none) else none)))))
def zp (φ: aa→Br): List AV→List Ob→Br
 | [.str s],[]=>φ s
 | _,_=> .fail
theorem Jz {φ: aa→Br} (fu: aa→Nat) (hv: ∀ s res_,(φ s).val=some res_→zo (fu s) s=some res_): Sound Kx 224 (zp φ):=ah (C:=strim_C) (O:=CZ) Tryz.func224 (by kernel_rfl) fun args objs=>by
 unfold zp;split
 · rename_i s;exact .inr fun _ hyp_=>aL (Λ:=C0 (fu s)) (by kernel_rfl) (af (l':=[Gk,Gn]) (by kernel_rfl) ⟨Ni _,Nj _,trivial⟩) (by kernel_rfl) (hv s _ hyp_)
 · exact .inl rfl
def Gr: Opt:={ live:=[(2,[0,1,5])],outs:=[(2,[4])] }
def allVis_C: SC:=[⟨230,_,v_⟩]
def lk (ay: aa) (aB: Int) (kR2: aa→Int→OR') (cf cO: OR'): OR':=
 (bif (decide (aB < (ay.length: Int))) then (bif (decide (0≤aB)) then (bif (decide (aB < (ay.length: Int))) then (bif (!(cT (aj ay aB))) then cf else (kR2 ay (ad (aB + 1)))) else none) else none) else cO)
def gh: Nat→aa→Int→(OR')→(OR')→OR'
 | 0,_,_,_,_=>none
 | n + 1,ay,aB,cf,cO=>lk ay aB (fun ay aB=>gh n ay aB cf cO) cf cO
abbrev allVis_p2: SP:=⟨18,[0,1,5],[(.v .s),(.v (.fn 230 [])),(.v (.i .i64))],[]⟩
noncomputable def zq: Code:=ar (aC Tryz.f74) [1,0,1,0,0]
def zr (f: (OR')→(OR')→OR') (k: KT): OR':=f (k Ex.ret ((St.mk (aA 0 18 [(4,(AV.bool false))]) ([]: (List (Nat×(Ob))))))) (k (Ex.exit 0) ((St.mk (aA 0 18 []) ([]: (List (Nat×(Ob)))))))
def zt (n: Nat) (d: allVis_p2.D): KT→OR':=zr (gh n d.1.1 d.1.2.2.1)
def Gs (N: Nat): Lam:=bI [⟨2,allVis_p2,zt N⟩]
theorem JA (N: Nat): OkL Kx allVis_C.s Gr 0 N (Gs N) zq:=okL allVis_p2 (zt) (fun d kR=>zr (lk d.1.1 d.1.2.2.1 (fun ay aB=>kR ((ay,(),aB,()),())))) (fun _ _=>by kernel_rfl) (fun _ _ _=>by kernel_rfl) (fun _ _=>by kernel_rfl) (fun _ _ _ _=>by kernel_rfl) (af (l':=[]) (by kernel_rfl) trivial)
def tO (N: Nat) (s: aa): OR':=(gh N s 0 (some ((AV.bool false),[])) (some ((AV.bool true),[])))
def mO (φ: aa→Br): List AV→List Ob→Br
 | [.str s, .fn 230 []],[]=>φ s
 | _,_=> .fail
theorem C1 {φ: aa→Br} (fu: aa→Nat) (hv: ∀ s res_,(φ s).val=some res_→tO (fu s) s=some res_): Sound Kx 74 (mO φ):=ah (C:=allVis_C) (O:=Gr) Tryz.func74 (by kernel_rfl) fun args objs=>by
 unfold mO;split
 · rename_i s;exact .inr fun _ hyp_=>aL (Λ:=Gs (fu s)) (by kernel_rfl) (af (l':=[zq]) (by kernel_rfl) ⟨JA _,trivial⟩) (by kernel_rfl) (hv s _ hyp_)
 · exact .inl rfl
def Nk: Opt:={ live:=[(2,[0,1,5])],outs:=[(2,[4])] }
def allPl_C: SC:=[⟨221,_,CW⟩]
def ph (ay: aa) (aB: Int) (kR2: aa→Int→OR') (cf cO: OR'): OR':=
 (bif (decide (aB < (ay.length: Int))) then (bif (decide (0≤aB)) then (bif (decide (aB < (ay.length: Int))) then (bif (!(qz (aj ay aB))) then cf else (kR2 ay (ad (aB + 1)))) else none) else none) else cO)
def jf: Nat→aa→Int→(OR')→(OR')→OR'
 | 0,_,_,_,_=>none
 | n + 1,ay,aB,cf,cO=>ph ay aB (fun ay aB=>jf n ay aB cf cO) cf cO
abbrev allPl_p2: SP:=⟨18,[0,1,5],[(.v .s),(.v (.fn 221 [])),(.v (.i .i64))],[]⟩
noncomputable def Gt: Code:=ar (aC Tryz.f74) [1,0,1,0,0]
def Gu (f: (OR')→(OR')→OR') (k: KT): OR':=f (k Ex.ret ((St.mk (aA 0 18 [(4,(AV.bool false))]) ([]: (List (Nat×(Ob))))))) (k (Ex.exit 0) ((St.mk (aA 0 18 []) ([]: (List (Nat×(Ob)))))))
def Gv (n: Nat) (d: allPl_p2.D): KT→OR':=Gu (jf n d.1.1 d.1.2.2.1)
def Nl (N: Nat): Lam:=bI [⟨2,allPl_p2,Gv N⟩]
theorem Nm (N: Nat): OkL Kx allPl_C.s Nk 0 N (Nl N) Gt:=okL allPl_p2 (Gv) (fun d kR=>Gu (ph d.1.1 d.1.2.2.1 (fun ay aB=>kR ((ay,(),aB,()),())))) (fun _ _=>by kernel_rfl) (fun _ _ _=>by kernel_rfl) (fun _ _=>by kernel_rfl) (fun _ _ _ _=>by kernel_rfl) (af (l':=[]) (by kernel_rfl) trivial)
def zu (N: Nat) (s: aa): OR':=(jf N s 0 (some ((AV.bool false),[])) (some ((AV.bool true),[])))
def qD (φ: aa→Br): List AV→List Ob→Br
 | [.str s, .fn 221 []],[]=>φ s
 | _,_=> .fail
theorem JB {φ: aa→Br} (fu: aa→Nat) (hv: ∀ s res_,(φ s).val=some res_→zu (fu s) s=some res_): Sound Kx 74 (qD φ):=ah (C:=allPl_C) (O:=Nk) Tryz.func74 (by kernel_rfl) fun args objs=>by
 unfold qD;split
 · rename_i s;exact .inr fun _ hyp_=>aL (Λ:=Nl (fu s)) (by kernel_rfl) (af (l':=[Gt]) (by kernel_rfl) ⟨Nm _,trivial⟩) (by kernel_rfl) (hv s _ hyp_)
 · exact .inl rfl
def zw: Opt:={ live:=[(2,[0,3])],outs:=[(2,[2])] }
def splains_C: SC:=[⟨241,_,Ju⟩]
def jg (ay: aa) (aB: Int) (kR2: aa→Int→OR') (cf cO: OR'): OR':=
 (bif (decide (aB < (ay.length: Int))) then (bif (decide (0≤aB)) then (bif (decide (aB < (ay.length: Int))) then (bif (!(qz (aj ay aB))) then cf else (kR2 ay (ad (aB + 1)))) else none) else none) else cO)
def fa: Nat→aa→Int→(OR')→(OR')→OR'
 | 0,_,_,_,_=>none
 | n + 1,ay,aB,cf,cO=>jg ay aB (fun ay aB=>fa n ay aB cf cO) cf cO
abbrev splains_p2: SP:=⟨15,[0,3],[(.v .s),(.v (.i .i64))],[]⟩
noncomputable def tP: Code:=ar (aC Tryz.f189) [1,0,1,0,0]
def tQ (f: (OR')→(OR')→OR') (k: KT): OR':=f (k Ex.ret ((St.mk (aA 0 15 [(2,(AV.bool false))]) ([]: (List (Nat×(Ob))))))) (k (Ex.exit 0) ((St.mk (aA 0 15 []) ([]: (List (Nat×(Ob)))))))
def tR (n: Nat) (d: splains_p2.D): KT→OR':=tQ (fa n d.1.1 d.1.2.1)
def zx (N: Nat): Lam:=bI [⟨2,splains_p2,tR N⟩]
theorem C2 (N: Nat): OkL Kx splains_C.s zw 0 N (zx N) tP:=okL splains_p2 (tR) (fun d kR=>tQ (jg d.1.1 d.1.2.1 (fun ay aB=>kR ((ay,aB,()),())))) (fun _ _=>by kernel_rfl) (fun _ _ _=>by kernel_rfl) (fun _ _=>by kernel_rfl) (fun _ _ _ _=>by kernel_rfl) (af (l':=[]) (by kernel_rfl) trivial)
def qE (N: Nat) (s: aa): OR':=(fa N s 0 (some ((AV.bool false),[])) (some ((AV.bool true),[])))
def qF (φ: aa→Br): List AV→List Ob→Br
 | [.str s],[]=>φ s
 | _,_=> .fail
theorem zy {φ: aa→Br} (fu: aa→Nat) (hv: ∀ s res_,(φ s).val=some res_→qE (fu s) s=some res_): Sound Kx 189 (qF φ):=ah (C:=splains_C) (O:=zw) Tryz.func189 (by kernel_rfl) fun args objs=>by
 unfold qF;split
 · rename_i s;exact .inr fun _ hyp_=>aL (Λ:=zx (fu s)) (by kernel_rfl) (af (l':=[tP]) (by kernel_rfl) ⟨C2 _,trivial⟩) (by kernel_rfl) (hv s _ hyp_)
 · exact .inl rfl
def Vw: Opt:={ live:=[(2,[0,3])],outs:=[(2,[0,2])] }
def wd (ay: aa) (aB: Int) (kR2: aa→Int→OR') (cf cO: aa→OR'): OR':=
 (bif (decide (aB < (ay.length: Int))) then (bif (decide (0≤aB)) then (bif (decide (aB < (ay.length: Int))) then (bif (decide ((aj ay aB) < 33)) then (cf ay) else (bif (decide (0≤aB)) then (bif (decide (aB < (ay.length: Int))) then (bif (decide (126 < (aj ay aB))) then (cf ay) else (kR2 ay (ad (aB + 1)))) else none) else none)) else none) else none) else (cO ay))
def mP: Nat→aa→Int→(aa→OR')→(aa→OR')→OR'
 | 0,_,_,_,_=>none
 | n + 1,ay,aB,cf,cO=>wd ay aB (fun ay aB=>mP n ay aB cf cO) cf cO
abbrev svis_p2: SP:=⟨23,[0,3],[(.v .s),(.v (.i .i64))],[]⟩
noncomputable def Nn: Code:=ar (aC Tryz.f188) [1,0,1,0,0]
def No (f: (aa→OR')→(aa→OR')→OR') (k: KT): OR':=f (fun bO=>k Ex.ret ((St.mk (aA 0 23 [(0,(AV.str bO)),(2,(AV.bool false))]) ([]: (List (Nat×(Ob))))))) (fun iZ=>k (Ex.exit 0) ((St.mk (aA 0 23 [(0,(AV.str iZ))]) ([]: (List (Nat×(Ob)))))))
def Np (n: Nat) (d: svis_p2.D): KT→OR':=No (mP n d.1.1 d.1.2.1)
def Vx (N: Nat): Lam:=bI [⟨2,svis_p2,Np N⟩]
theorem SO (N: Nat): OkL Kx noS Vw 0 N (Vx N) Nn:=okL svis_p2 (Np) (fun d kR=>No (wd d.1.1 d.1.2.1 (fun ay aB=>kR ((ay,aB,()),())))) (fun _ _=>by kernel_rfl) (fun _ _ _=>by kernel_rfl) (fun _ _=>by kernel_rfl) (fun _ _ _ _=>by kernel_rfl) (af (l':=[]) (by kernel_rfl) trivial)
def Gw (N: Nat) (s: aa): OR':=(mP N s 0 (fun bO=>(some ((AV.bool false),[]))) (fun iZ=>(some ((AV.bool (decide (0 < (iZ.length: Int)))),[]))))
def Gx (φ: aa→Br): List AV→List Ob→Br
 | [.str s],[]=>φ s
 | _,_=> .fail
theorem Nq {φ: aa→Br} (fu: aa→Nat) (hv: ∀ s res_,(φ s).val=some res_→Gw (fu s) s=some res_): Sound Kx 188 (Gx φ):=ah (C:=[]) (O:=Vw) Tryz.func188 (by kernel_rfl) fun args objs=>by
 unfold Gx;split
 · rename_i s;exact .inr fun _ hyp_=>aL (Λ:=Vx (fu s)) (by kernel_rfl) (af (l':=[Nn]) (by kernel_rfl) ⟨SO _,trivial⟩) (by kernel_rfl) (hv s _ hyp_)
 · exact .inl rfl
theorem eO {s: aa} (h: isM s=true): s.length≤4611686018427387904:=of_decide_eq_true h
theorem Nr (l: aa) (b: Int) (hl: l.length≤4611686018427387904) (k0 k1: OR'): ∀ (r: aa) (i: Int) (n: Nat),At l i r→r.length < n→mN n l b i k0 k1=bif r.any (fun c=>decide (by8 c=b)) then k0 else k1:=by
 intro r;induction r with
 | nil=>intro i n h hn;obtain ⟨n,rfl⟩:=bH hn;unfold mN wb;simp only [h.dge,cond_false,List.any_nil]
 | cons a r ih=>
   intro i n h hn;obtain ⟨n,rfl⟩:=bH hn
   have hs:=ih (i + 1) n h.step (by simp at hn;omega)
   unfold mN wb;simp only [h.dlt,h.dnn,h.str,cond_true,h.next hl,hs,List.any_cons]
   cases decide (by8 a=b) <;> rfl
def Z0 (p: aa→Int→Bool): List AV→List Ob→Br
 | [.str s, .int .u8 b],[]=> .ite (isM s) (.ret (.bool (p s b)) []) .fail
 | _,_=> .fail
def cE (s: aa) (b: Int): Bool:=s.any fun c=>decide (by8 c=b)
theorem Gy: Sound Kx 282 (Z0 cE):=by
 refine (M9 (φ:=fun s b=> .ite (isM s) (.ret (.bool (cE s b)) []) .fail) (fun s b=>s.length + 1) fun s b r h=>?_).of fun args objs r h=>?_
 · obtain ⟨h1,h2⟩:=ae h
   unfold F7
   rw [Nr s b (eO h1) _ _ s 0 _ (At.start s) (by omega),← h2]
   unfold cE
   cases s.any fun c=>decide (by8 c=b) <;> rfl
 · unfold Z0 at h;split at h
   · exact h
   · cases h
theorem SQ (s: aa) (b: Int) (h0: 0≤b) (h1: b < 256): (0≤sR s b)↔cE s b=true:=by
 unfold sR cE
 induction s with
 | nil=>simp [Go.Lib.indexByte]
 | cons a r ih=>
   have hc: (a=b.toNat.toUInt8)↔by8 a=b:=by
    unfold by8
    constructor
    · intro h;rw [h];simp;omega
    · intro h;rw [← h];simp
   show (0≤if (a==b.toNat.toUInt8)=true then 0 else if (Go.Lib.indexByte r b.toNat.toUInt8== -1)=true then -1 else Go.Lib.indexByte r b.toNat.toUInt8 + 1)↔_
   rw [List.any_cons]
   by_cases h: a=b.toNat.toUInt8
   · rw [if_pos (beq_iff_eq.2 h),dT' (hc.1 h)];simp
   · rw [if_neg (fun e=>h (beq_iff_eq.1 e)),dF' (fun e=>h (hc.2 e)),Bool.false_or,← ih]
     have:=Go.Lib.indexByte_ge r b.toNat.toUInt8
     split
     · rename_i g;have:=beq_iff_eq.1 g;omega
     · rename_i g;have: ¬ Go.Lib.indexByte r b.toNat.toUInt8= -1:=fun e=>g (beq_iff_eq.2 e);omega
theorem we (s: aa) (b: Int) (h0: 0≤b) (h1: b < 256): decide (0≤sR s b)=cE s b:=by
 rw [Bool.eq_iff_iff,decide_eq_true_eq];exact SQ s b h0 h1
def SR: List AV→List Ob→Br
 | [.int .u8 b],[]=> .ite (decide (0≤b)&&decide (b < 256)) (.ret (.bool (li b)) []) .fail
 | _,_=> .fail
theorem JC: Sound Kx 259 SR:=isTokB_ok.of fun args objs r h=>by
 unfold SR at h;split at h
 · rename_i b
   obtain ⟨h1,h2⟩:=ae h
   simp only [Bool.and_eq_true,decide_eq_true_eq] at h1
   rw [← h2]
   show (qC b).val=_
   unfold qC li
   rw [we _ _ h1.1 h1.2]
   unfold cE tokSet
   cases iA b <;> cases CU b <;> cases am b <;> cases decide (b=96) <;> simp only [Br.val,Bool.true_or,Bool.false_or]
 · cases h
theorem Vy {l r: List Int} {i a: Int} (h: At l i (a::r)) (b: Int): At (l.set i.toNat b) i (b::r):=by
 obtain ⟨p,rfl,rfl⟩:=h;exact ⟨p,by simp,rfl⟩
theorem SS {l r: List Int} {i a: Int} (h: At l i (a::r)): l.set i.toNat a=l:=by
 obtain ⟨p,rfl,rfl⟩:=h;simp
theorem JD (m: Int) (k: List Int→OR'): ∀ (r l: List Int) (i: Int) (n: Nat),At l i r→r.length < n→m=(l.length: Int)→l.length≤4611686018427387904→(∀ b ∈ r,0≤b∧b < 256)→
 gY n m i l k=k (l.take i.toNat++r.map gg):=by
 intro r;induction r with
 | nil=>
   intro l i n h hn hm hl hb;obtain ⟨n,rfl⟩:=bH hn
   subst hm
   unfold gY o_;simp only [h.dge,cond_false,List.map_nil]
   congr 1;exact h.take.symm
 | cons a r ih=>
   intro l i n h hn hm hl hb;obtain ⟨n,rfl⟩:=bH hn
   subst hm
   have ha:=hb a (List.mem_cons_self ..)
   unfold gY o_;simp only [h.dlt,h.dnn,h.get,cond_true,h.next hl,List.map_cons]
   have key: ∀ b,gY n (l.length: Int) (i + 1) (l.set i.toNat b) k=k (l.take i.toNat++b::r.map gg):=by
    intro b
    have h':=Vy h b
    rw [ih _ (i + 1) n h'.step (by simp at hn;omega) (by simp) (by simpa using hl) (fun c hc=>hb c (List.mem_cons_of_mem _ hc))]
    congr 1
    obtain ⟨p,rfl,rfl⟩:=h
    have e: ((p.length: Int) + 1).toNat=p.length + 1:=by omega
    simp only [Int.toNat_natCast,Mu,e]
    rw [List.take_append,List.take_append]
    simp [List.take_of_length_le]
   unfold gg
   cases hu: CU a
   · simp only [cond_false]
     have:=key a
     rw [SS h] at this
     rw [this];rfl
   · simp only [cond_true]
     unfold CU at hu
     simp only [Bool.and_eq_true,decide_eq_true_eq] at hu
     rw [w8 (by omega) (by omega),key];rfl
theorem g_ (s: aa): (bytesOf s).length=s.length:=by simp [bytesOf]
theorem tS (s: aa): ∀ b ∈ bytesOf s,0≤b∧b < 256:=by
 intro b hb
 simp only [bytesOf,List.mem_map] at hb
 obtain ⟨c,_,rfl⟩:=hb
 exact ⟨by omega,by have:=c.toNat_lt;omega⟩
theorem qG (s: aa): (aK s).length=s.length:=by simp [aK,bP,bytesOf]
def oP (p: aa→AV): List AV→List Ob→Br
 | [.str s],[]=> .ite (isM s) (.ret (p s) []) .fail
 | _,_=> .fail
theorem acH {n: Nat} {s: List AV→List Ob→Br} (hs: Sound Kx n s) {p: aa→AV} (h: ∀ x,isM x=true→(s [.str x] []).val=some (p x,[])): Sound Kx n (oP p):=hs.of fun args objs r hv=>by
 unfold oP at hv
 split at hv
 · obtain ⟨h1,h2⟩:=ae hv
   rw [h _ h1];exact h2
 · cases hv
theorem JE {n: Nat} {p: aa→AV} {sOf: (aa→Br)→List AV→List Ob→Br} (hs: Sound Kx n (sOf fun s=> .ite (isM s) (.ret (p s) []) .fail)) (he: ∀ f x,sOf f [.str x] []=f x): Sound Kx n (oP p):=
 acH hs fun x hx=>by rw [he];simp only [Br.val,hx]
theorem qH: Sound Kx 118 (oP fun s=> .str (aK s)):=by
 refine JE (Jw (fun s=>s.length + 1) fun s r h=>?_) fun _ _=>rfl
 obtain ⟨h1,h2⟩:=ae h
 unfold zh
 rw [JD _ _ _ _ 0 _ (At.start _) (by rw [g_];omega) rfl (by rw [g_];exact eO h1) (tS s),← h2]
 rfl
theorem JF (k: List Int→OR'): ∀ (r l: List Int) (i: Int) (n: Nat),At l i r→r.length < n→l.length≤4611686018427387904→(∀ b ∈ r,0≤b∧b < 256)→
 jb n i l k=k (l.take i.toNat++r.map gg):=by
 intro r;induction r with
 | nil=>
   intro l i n h hn hl hb;obtain ⟨n,rfl⟩:=bH hn
   unfold jb pb;simp only [h.dge,cond_false,List.map_nil]
   congr 1;exact h.take.symm
 | cons a r ih=>
   intro l i n h hn hl hb;obtain ⟨n,rfl⟩:=bH hn
   have ha:=hb a (List.mem_cons_self ..)
   have e0: (decide (0≤a)&&decide (a < 256))=true:=by simp only [Bool.and_eq_true,decide_eq_true_eq];exact ha
   unfold jb pb;simp only [h.dlt,h.dnn,h.get,cond_true,h.next hl,List.map_cons,e0]
   have h':=Vy h (gg a)
   rw [ih _ (i + 1) n h'.step (by simp at hn;omega) (by simpa using hl) (fun c hc=>hb c (List.mem_cons_of_mem _ hc))]
   congr 1
   obtain ⟨p,rfl,rfl⟩:=h
   have e: ((p.length: Int) + 1).toNat=p.length + 1:=by omega
   simp only [Int.toNat_natCast,Mu,e]
   rw [List.take_append,List.take_append]
   simp [List.take_of_length_le]
theorem ll: Sound Kx 91 (oP fun s=> .str (aK s)):=by
 refine JE (Jx (fun s=>s.length + 1) fun s r h=>?_) fun _ _=>rfl
 obtain ⟨h1,h2⟩:=ae h
 unfold zj
 rw [JF _ _ _ 0 _ (At.start _) (by rw [g_];omega) (by rw [g_];exact eO h1) (tS s),← h2]
 rfl
theorem adP (a: UInt8) (r: aa): cut (a::r) 1 (((a::r).length: Nat): Int)=r:=by simp [cut]
theorem C3 (k: aa→OR'): ∀ (s: aa) (n: Nat),s.length < n→jc n s k=k (iQ s):=by
 intro s;induction s with
 | nil=>intro n hn;obtain ⟨n,rfl⟩:=bH hn;unfold jc pc;rfl
 | cons a r ih=>
   intro n hn;obtain ⟨n,rfl⟩:=bH hn
   have e1: decide (a::r=([]: aa))=false:=rfl
   have e2: decide ((0 : Int) < (((a::r).length: Nat): Int))=true:=dT' (by simp only [List.length_cons];omega)
   have e3: decide ((1 : Int)≤(((a::r).length: Nat): Int))=true:=dT' (by simp only [List.length_cons];omega)
   have e4: aj (a::r) 0=by8 a:=rfl
   unfold jc pc
   simp only [e1,e2,e3,e4,Bool.not_false,cond_true,adP]
   rw [ih n (by simp at hn;omega)]
   unfold iQ
   rw [List.dropWhile_cons]
   show (bif sp8 a then _ else _)=_
   cases sp8 a <;> rfl
theorem C4 (k: aa→OR'): ∀ (q: aa) (n: Nat),q.length < n→q.length≤4611686018427387904→jd n q.reverse k=k (lj q.reverse):=by
 intro q;induction q with
 | nil=>intro n hn _;obtain ⟨n,rfl⟩:=bH hn;unfold jd pd;rfl
 | cons a q ih=>
   intro n hn hl;obtain ⟨n,rfl⟩:=bH hn
   have e1: decide ((a::q).reverse=([]: aa))=false:=dF' (by simp)
   have e0: ad ((((a::q).reverse.length: Nat): Int) - 1)=(q.length: Int):=by rw [w64 (by simp only [List.length_reverse,List.length_cons];omega) (by simp only [List.length_reverse,List.length_cons] at hl ⊢;omega)];simp
   have e2: decide ((0 : Int)≤(q.length: Int))=true:=by simp
   have e3: decide ((q.length: Int) < (((a::q).reverse.length: Nat): Int))=true:=dT' (by simp only [List.length_reverse,List.length_cons];omega)
   have e5: decide ((q.length: Int)≤(((a::q).reverse.length: Nat): Int))=true:=dT' (by simp only [List.length_reverse,List.length_cons];omega)
   have e4: aj (a::q).reverse (q.length: Int)=by8 a:=by simp [aj,by8,List.getD_eq_getElem?_getD]
   have e6: cut (a::q).reverse 0 (q.length: Int)=q.reverse:=by simp [cut]
   unfold jd pd
   simp only [e0,e1,e2,e3,e4,e5,e6,Bool.not_false,cond_true]
   rw [ih n (by simp at hn;omega) (by simp at hl;omega)]
   unfold lj
   rw [List.reverse_reverse,List.reverse_reverse,List.dropWhile_cons]
   show (bif sp8 a then _ else _)=_
   cases sp8 a <;> simp
theorem zz (s: aa): (iQ s).length≤s.length:=List.Sublist.length_le (List.dropWhile_sublist _)
theorem Ns (s: aa): (lj s).length≤s.length:=by
 unfold lj;rw [List.length_reverse];exact Nat.le_trans (List.Sublist.length_le (List.dropWhile_sublist _)) (by simp)
theorem qI: Sound Kx 180 (oP fun s=> .str (cg s)):=by
 refine JE (Jy (fun s=>s.length + 1) fun s r h=>?_) fun _ _=>rfl
 obtain ⟨h1,h2⟩:=ae h
 unfold zm
 have hl:=zz s
 have:=eO h1
 rw [C3 _ s _ (by omega)]
 have:=C4 (fun bd=>some (AV.str bd,([]: List Ob))) (iQ s).reverse (s.length + 1) (by simp;omega) (by simp;omega)
 rw [List.reverse_reverse] at this
 rw [this,← h2]
 rfl
theorem C5 (l: aa) (hl: l.length≤4611686018427387904) (k: aa→Int→OR'): ∀ (r: aa) (i: Int) (n: Nat),At l i r→r.length < n→∃ j,At l j (iQ r)∧je n l i k=k l j:=by
 intro r;induction r with
 | nil=>intro i n h hn;obtain ⟨n,rfl⟩:=bH hn;refine ⟨i,h,?_⟩;unfold je pf;simp only [h.dge,cond_false]
 | cons a r ih=>
   intro i n h hn;obtain ⟨n,rfl⟩:=bH hn
   obtain ⟨j,hj,hs⟩:=ih (i + 1) n h.step (by simp at hn;omega)
   unfold iQ
   rw [List.dropWhile_cons]
   unfold je pf
   simp only [h.dlt,h.dnn,h.str,cond_true,h.next hl,hs]
   have e: Vs (by8 a)=sp8 a:=rfl
   rw [e]
   cases sp8 a
   · exact ⟨i,h,rfl⟩
   · exact ⟨j,hj,rfl⟩
theorem C6 (l p: aa) (hl: l.length≤4611686018427387904) (k: aa→Int→Int→OR'): ∀ (q t: aa) (n: Nat),l=p++q.reverse++t→q.length < n→gZ n l (p.length: Int) ((p.length: Int) + q.length) k=k l (p.length: Int) ((p.length: Int) + (lj q.reverse).length):=by
 intro q;induction q with
 | nil=>
   intro t n h hn;obtain ⟨n,rfl⟩:=bH hn
   have e: decide ((p.length: Int) < (p.length: Int) + (([]: aa).length: Int))=false:=by simp
   unfold gZ pg;simp only [e,cond_false];rfl
 | cons a q ih=>
   intro t n h hn;obtain ⟨n,rfl⟩:=bH hn
   have hlen: l.length=p.length + q.length + 1 + t.length:=by rw [h];simp;omega
   have e1: decide ((p.length: Int) < (p.length: Int) + (((a::q).length: Nat): Int))=true:=by simp;omega
   have e0: ad ((p.length: Int) + (((a::q).length: Nat): Int) - 1)=(p.length: Int) + q.length:=by rw [w64 (by simp;omega) (by simp;omega)];simp;omega
   have e2: decide ((0 : Int)≤(p.length: Int) + q.length)=true:=by simp;omega
   have e3: decide ((p.length: Int) + q.length < (l.length: Int))=true:=by rw [hlen];simp;omega
   have e4: aj l ((p.length: Int) + q.length)=by8 a:=by
    have e5: ((p.length: Int) + (q.length: Int)).toNat=(p++q.reverse).length:=by simp;omega
    unfold aj by8
    rw [e5,h]
    have: p++(a::q).reverse++t=(p++q.reverse)++a::t:=by simp
    rw [this,FL]
   unfold gZ pg
   simp only [e0,e1,e2,e3,e4,cond_true]
   rw [ih (a::t) n (by rw [h];simp) (by simp at hn;omega)]
   unfold lj
   rw [List.reverse_reverse,List.reverse_reverse,List.dropWhile_cons]
   show (bif sp8 a then _ else _)=_
   cases sp8 a <;> simp
theorem qJ (p m t: aa): cut (p++m++t) (p.length: Int) ((p.length: Int) + m.length)=m:=by
 unfold cut
 have e1: ((p.length: Int) + (m.length: Int)).toNat=p.length + m.length:=by omega
 rw [e1,Int.toNat_natCast,List.append_assoc,List.take_append,List.drop_append]
 simp
theorem Nt (s: aa): ∃ t,s=lj s++t:=by
 refine ⟨(s.reverse.takeWhile sp8).reverse,?_⟩
 unfold lj
 rw [← List.reverse_append,List.takeWhile_append_dropWhile,List.reverse_reverse]
theorem zA: Sound Kx 224 (oP fun s=> .str (cg s)):=by
 refine JE (Jz (fun s=>s.length + 1) fun s r h=>?_) fun _ _=>rfl
 obtain ⟨h1,h2⟩:=ae h
 have hl:=eO h1
 unfold zo
 obtain ⟨j,⟨p,hp,rfl⟩,hs⟩:=C5 s hl (fun bO gJ=>gZ (s.length + 1) bO gJ ((List.length bO): Int) (fun ai bJ cy=>bif decide ((0 : Int)≤bJ) then (bif decide (bJ≤cy) then (bif decide (cy≤((List.length ai): Int)) then some (AV.str (cut ai bJ cy),([]: List Ob)) else none) else none) else none)) s 0 (s.length + 1) (At.start s) (by omega)
 rw [hs]
 have hlen: (s.length: Int)=(p.length: Int) + ((iQ s).reverse.length: Int):=by
  have:=congrArg List.length hp
  simp only [List.length_append] at this
  rw [List.length_reverse];omega
 have hle:=zz s
 rw [hlen,C6 s p hl _ (iQ s).reverse [] _ (by simpa using hp) (by simp;omega),List.reverse_reverse]
 obtain ⟨t,ht⟩:=Nt (iQ s)
 have hc:=qJ p (lj (iQ s)) t
 rw [List.append_assoc,← ht,← hp] at hc
 have hr:=Ns (iQ s)
 have e1: decide ((0 : Int)≤(p.length: Int))=true:=by simp
 have e2: decide ((p.length: Int)≤(p.length: Int) + ((lj (iQ s)).length: Int))=true:=dT' (by omega)
 have e3: decide ((p.length: Int) + ((lj (iQ s)).length: Int)≤(s.length: Int))=true:=by rw [hlen];simp;omega
 simp only [e1,e2,e3,cond_true,hc]
 rw [← h2];rfl
theorem C7 (l: aa) (hl: l.length≤4611686018427387904) (k0 k1: OR'): ∀ (r: aa) (i: Int) (n: Nat),At l i r→r.length < n→gh n l i k0 k1=bif aH cT r then k1 else k0:=by
 intro r;induction r with
 | nil=>intro i n h hn;obtain ⟨n,rfl⟩:=bH hn;unfold gh lk;simp only [h.dge,cond_false,aH,List.all_nil,cond_true]
 | cons a r ih=>
   intro i n h hn;obtain ⟨n,rfl⟩:=bH hn
   have hs:=ih (i + 1) n h.step (by simp at hn;omega)
   unfold gh lk;simp only [h.dlt,h.dnn,h.str,cond_true,h.next hl,hs,aH,List.all_cons]
   cases cT (by8 a) <;> rfl
def ST:=mO fun s=> .ite (isM s) (.ret (.bool (aH cT s)) []) .fail
theorem jh: Sound Kx 74 ST:=by
 refine C1 (fun s=>s.length + 1) fun s r h=>?_
 obtain ⟨h1,h2⟩:=ae h
 unfold tO
 rw [C7 s (eO h1) _ _ s 0 _ (At.start s) (by omega),← h2]
 cases aH cT s <;> rfl
theorem JG (l: aa) (hl: l.length≤4611686018427387904) (k0 k1: OR'): ∀ (r: aa) (i: Int) (n: Nat),At l i r→r.length < n→jf n l i k0 k1=bif aH qz r then k1 else k0:=by
 intro r;induction r with
 | nil=>intro i n h hn;obtain ⟨n,rfl⟩:=bH hn;unfold jf ph;simp only [h.dge,cond_false,aH,List.all_nil,cond_true]
 | cons a r ih=>
   intro i n h hn;obtain ⟨n,rfl⟩:=bH hn
   have hs:=ih (i + 1) n h.step (by simp at hn;omega)
   unfold jf ph;simp only [h.dlt,h.dnn,h.str,cond_true,h.next hl,hs,aH,List.all_cons]
   cases qz (by8 a) <;> rfl
def Xq:=qD fun s=> .ite (isM s) (.ret (.bool (aH qz s)) []) .fail
theorem zB: Sound Kx 74 Xq:=by
 refine JB (fun s=>s.length + 1) fun s r h=>?_
 obtain ⟨h1,h2⟩:=ae h
 unfold zu
 rw [JG s (eO h1) _ _ s 0 _ (At.start s) (by omega),← h2]
 cases aH qz s <;> rfl
theorem zC (l: aa) (hl: l.length≤4611686018427387904) (k0 k1: OR'): ∀ (r: aa) (i: Int) (n: Nat),At l i r→r.length < n→fa n l i k0 k1=bif aH qz r then k1 else k0:=by
 intro r;induction r with
 | nil=>intro i n h hn;obtain ⟨n,rfl⟩:=bH hn;unfold fa jg;simp only [h.dge,cond_false,aH,List.all_nil,cond_true]
 | cons a r ih=>
   intro i n h hn;obtain ⟨n,rfl⟩:=bH hn
   have hs:=ih (i + 1) n h.step (by simp at hn;omega)
   unfold fa jg;simp only [h.dlt,h.dnn,h.str,cond_true,h.next hl,hs,aH,List.all_cons]
   cases qz (by8 a) <;> rfl
theorem qK: Sound Kx 189 (oP fun s=> .bool (aH qz s)):=by
 refine JE (zy (fun s=>s.length + 1) fun s r h=>?_) fun _ _=>rfl
 obtain ⟨h1,h2⟩:=ae h
 unfold qE
 rw [zC s (eO h1) _ _ s 0 _ (At.start s) (by omega),← h2]
 cases aH qz s <;> rfl
theorem Nu (l: aa) (hl: l.length≤4611686018427387904) (k0 k1: aa→OR'): ∀ (r: aa) (i: Int) (n: Nat),At l i r→r.length < n→mP n l i k0 k1=bif aH cT r then k1 l else k0 l:=by
 intro r;induction r with
 | nil=>intro i n h hn;obtain ⟨n,rfl⟩:=bH hn;unfold mP wd;simp only [h.dge,cond_false,aH,List.all_nil,cond_true]
 | cons a r ih=>
   intro i n h hn;obtain ⟨n,rfl⟩:=bH hn
   have hs:=ih (i + 1) n h.step (by simp at hn;omega)
   unfold mP wd;simp only [h.dlt,h.dnn,h.str,cond_true,h.next hl,hs,aH,List.all_cons,cT]
   by_cases g1: by8 a < 33 <;> by_cases g2: 126 < by8 a
   · have e1: ¬ 33≤by8 a:=by omega
     simp only [g1,e1,decide_true,decide_false,cond_true,Bool.false_and,cond_false]
   · have e1: ¬ 33≤by8 a:=by omega
     simp only [g1,e1,decide_true,decide_false,cond_true,Bool.false_and,cond_false]
   · have e1: 33≤by8 a:=by omega
     have e2: ¬ by8 a≤126:=by omega
     simp only [g1,g2,e1,e2,decide_true,decide_false,cond_true,Bool.false_and,Bool.and_false,cond_false]
   · have e1: 33≤by8 a:=by omega
     have e2: by8 a≤126:=by omega
     simp only [g1,g2,e1,e2,decide_true,decide_false,cond_true,Bool.true_and,cond_false]
theorem pi: Sound Kx 188 (oP fun s=> .bool (aH cT s&&decide ((0 : Int) < (s.length: Int)))):=by
 refine JE (Nq (fun s=>s.length + 1) fun s r h=>?_) fun _ _=>rfl
 obtain ⟨h1,h2⟩:=ae h
 unfold Gw
 rw [Nu s (eO h1) _ _ s 0 _ (At.start s) (by omega),← h2]
 cases aH cT s <;> rfl
def SU: SC:=[⟨164,_,ja⟩,⟨213,_,e_⟩,⟨282,_,Gy⟩]
def qL (b: Int): Br:=(.ite ((decide (0≤b))&&(decide (b < 256))) (.ite (decide (97≤(gg b))) (.ite (decide ((gg b)≤122)) (.ret (AV.bool true) []) (.ite (am b) (.ret (AV.bool true) []) (.ite (decide (b=96)) (.ret (AV.bool true) []) (.ret (AV.bool (cE ([33,35,36,37,38,39,42,43,45,46,94,95,124,126]: aa) b)) [])))) (.ite (am b) (.ret (AV.bool true) []) (.ite (decide (b=96)) (.ret (AV.bool true) []) (.ret (AV.bool (cE ([33,35,36,37,38,39,42,43,45,46,94,95,124,126]: aa) b)) [])))) .fail)
def Gz: List AV→List Ob→Br
 | [.int .u8 b],[]=>qL b
 | _,_=> .fail
theorem stchar_ok: Sound Kx 240 Gz:=ac (C:=SU) (O:=O0) Tryz.func240 (by kernel_rfl) fun args objs=>by
 unfold Gz;split
 · exact .inr (by kernel_rfl)
 · exact .inl rfl
def GA: Opt:={ live:=[(2,[0,1,5])],outs:=[(2,[4])] }
def allTok_C: SC:=[⟨259,_,JC⟩]
def ln (ay: aa) (aB: Int) (kR2: aa→Int→OR') (cf cO: OR'): OR':=
 (bif (decide (aB < (ay.length: Int))) then (bif (decide (0≤aB)) then (bif (decide (aB < (ay.length: Int))) then (bif ((decide (0≤(aj ay aB)))&&(decide ((aj ay aB) < 256))) then (bif (!(li (aj ay aB))) then cf else (kR2 ay (ad (aB + 1)))) else none) else none) else none) else cO)
def gi: Nat→aa→Int→(OR')→(OR')→OR'
 | 0,_,_,_,_=>none
 | n + 1,ay,aB,cf,cO=>ln ay aB (fun ay aB=>gi n ay aB cf cO) cf cO
abbrev allTok_p2: SP:=⟨18,[0,1,5],[(.v .s),(.v (.fn 259 [])),(.v (.i .i64))],[]⟩
noncomputable def zD: Code:=ar (aC Tryz.f74) [1,0,1,0,0]
def zE (f: (OR')→(OR')→OR') (k: KT): OR':=f (k Ex.ret ((St.mk (aA 0 18 [(4,(AV.bool false))]) ([]: (List (Nat×(Ob))))))) (k (Ex.exit 0) ((St.mk (aA 0 18 []) ([]: (List (Nat×(Ob)))))))
def zF (n: Nat) (d: allTok_p2.D): KT→OR':=zE (gi n d.1.1 d.1.2.2.1)
def GB (N: Nat): Lam:=bI [⟨2,allTok_p2,zF N⟩]
theorem JH (N: Nat): OkL Kx allTok_C.s GA 0 N (GB N) zD:=okL allTok_p2 (zF) (fun d kR=>zE (ln d.1.1 d.1.2.2.1 (fun ay aB=>kR ((ay,(),aB,()),())))) (fun _ _=>by kernel_rfl) (fun _ _ _=>by kernel_rfl) (fun _ _=>by kernel_rfl) (fun _ _ _ _=>by kernel_rfl) (af (l':=[]) (by kernel_rfl) trivial)
def tT (N: Nat) (s: aa): OR':=(gi N s 0 (some ((AV.bool false),[])) (some ((AV.bool true),[])))
def mQ (φ: aa→Br): List AV→List Ob→Br
 | [.str s, .fn 259 []],[]=>φ s
 | _,_=> .fail
theorem C8 {φ: aa→Br} (fu: aa→Nat) (hv: ∀ s res_,(φ s).val=some res_→tT (fu s) s=some res_): Sound Kx 74 (mQ φ):=ah (C:=allTok_C) (O:=GA) Tryz.func74 (by kernel_rfl) fun args objs=>by
 unfold mQ;split
 · rename_i s;exact .inr fun _ hyp_=>aL (Λ:=GB (fu s)) (by kernel_rfl) (af (l':=[zD]) (by kernel_rfl) ⟨JH _,trivial⟩) (by kernel_rfl) (hv s _ hyp_)
 · exact .inl rfl
def Xr: SC:=[⟨118,_,qH⟩]
def wg (s t: aa): Br:=(.ite (isM s) (.ite (isM t) (.ret (AV.bool (decide ((aK s)=(aK t)))) []) .fail) .fail)
def Nv: List AV→List Ob→Br
 | [.str s, .str t],[]=>wg s t
 | _,_=> .fail
theorem isame_ok: Sound Kx 124 Nv:=ac (C:=Xr) (O:=O0) Tryz.func124 (by kernel_rfl) fun args objs=>by
 unfold Nv;split
 · exact .inr (by kernel_rfl)
 · exact .inl rfl
def Xs: SC:=[⟨91,_,ll⟩]
def wh (s t: aa): Br:=(.ite (isM s) (.ite (isM t) (.ret (AV.bool (decide ((aK s)=(aK t)))) []) .fail) .fail)
def Nw: List AV→List Ob→Br
 | [.str s, .str t],[]=>wh s t
 | _,_=> .fail
theorem ssame_ok: Sound Kx 128 Nw:=ac (C:=Xs) (O:=O0) Tryz.func128 (by kernel_rfl) fun args objs=>by
 unfold Nw;split
 · exact .inr (by kernel_rfl)
 · exact .inl rfl
def JI: SC:=[⟨74,_,zB⟩]
def j9 (s: aa): Br:=(.ite (decide ((s.length: Int)≤40)) (.ite (isM s) (.ret (AV.bool (aH qz s)) []) .fail) (.ret (AV.bool false) []))
def tU: List AV→List Ob→Br
 | [.str s],[]=>j9 s
 | _,_=> .fail
theorem C9: Sound Kx 175 tU:=ac (C:=JI) (O:=O0) Tryz.func175 (by kernel_rfl) fun args objs=>by
 unfold tU;split
 · exact .inr (by kernel_rfl)
 · exact .inl rfl
def JJ: SC:=[⟨201,_,dc⟩,⟨74,_,jh⟩]
def j_ (s: aa): Br:=(.ite (decide (1≤(s.length: Int))) (.ite (decide ((s.length: Int)≤200)) (.ite (isM s) (.ret (AV.bool (aH cT s)) []) .fail) (.ret (AV.bool false) [])) (.ret (AV.bool false) []))
def tV: List AV→List Ob→Br
 | [.str s],[]=>j_ s
 | _,_=> .fail
theorem C_: Sound Kx 173 tV:=ac (C:=JJ) (O:=O0) Tryz.func173 (by kernel_rfl) fun args objs=>by
 unfold tV;split
 · exact .inr (by kernel_rfl)
 · exact .inl rfl
theorem JK: Sound Kx 240 SR:=stchar_ok.of fun args objs r h=>by
 unfold SR at h;split at h
 · rename_i b
   obtain ⟨h1,h2⟩:=ae h
   have h3:=h1
   simp only [Bool.and_eq_true,decide_eq_true_eq] at h3
   rw [← h2]
   show (qL b).val=_
   unfold qL li iA
   have hm: isM ((33 : UInt8)::35::36::37::38::39::42::43::45::46::94::95::124::126::[])=true:=by decide
   have hh: cE ((33 : UInt8)::35::36::37::38::39::42::43::45::46::94::95::124::126::[]) b=tokSet.any fun c=>decide (by8 c=b):=rfl
   simp only [Br.val,h1,hm,hh]
   unfold gg CU
   by_cases g1: 65≤b <;> by_cases g2: b≤90 <;> by_cases g3: 97≤b <;> by_cases g4: b≤122 <;> first | (exfalso;omega) | skip
   all_goals simp only [g1,g2,g3,g4,decide_true,decide_false,Bool.and_true,Bool.and_false,Bool.false_and,Bool.true_and,cond_true,cond_false,Bool.true_or,Bool.false_or]
   all_goals first
    | rfl
    | (have e1: (97 : Int)≤b + 32:=by omega
       have e2: b + 32≤122:=by omega
       simp only [e1,e2,decide_true])
    | (cases am b <;> cases decide (b=96) <;> rfl)
 · cases h
theorem Da (l: aa) (hl: l.length≤4611686018427387904) (k0 k1: OR'): ∀ (r: aa) (i: Int) (n: Nat),At l i r→r.length < n→gi n l i k0 k1=bif aH li r then k1 else k0:=by
 intro r;induction r with
 | nil=>intro i n h hn;obtain ⟨n,rfl⟩:=bH hn;unfold gi ln;simp only [h.dge,cond_false,aH,List.all_nil,cond_true]
 | cons a r ih=>
   intro i n h hn;obtain ⟨n,rfl⟩:=bH hn
   have hs:=ih (i + 1) n h.step (by simp at hn;omega)
   have e0: (decide (0≤by8 a)&&decide (by8 a < 256))=true:=by simp only [Bool.and_eq_true,decide_eq_true_eq];exact ⟨FJ a,FK a⟩
   unfold gi ln;simp only [h.dlt,h.dnn,h.str,cond_true,h.next hl,hs,aH,List.all_cons,e0]
   cases li (by8 a) <;> rfl
def SV:=mQ fun s=> .ite (isM s) (.ret (.bool (aH li s)) []) .fail
theorem JL: Sound Kx 74 SV:=by
 refine C8 (fun s=>s.length + 1) fun s r h=>?_
 obtain ⟨h1,h2⟩:=ae h
 unfold tT
 rw [Da s (eO h1) _ _ s 0 _ (At.start s) (by omega),← h2]
 cases aH li s <;> rfl
def lp (s t: aa): Bool:=decide (aK s=aK t)
def GC: List AV→List Ob→Br
 | [.str s, .str t],[]=> .ite (isM s&&isM t) (.ret (.bool (lp s t)) []) .fail
 | _,_=> .fail
theorem Nx: Sound Kx 124 GC:=isame_ok.of fun args objs r h=>by
 unfold GC at h;split at h
 · rename_i s t
   obtain ⟨h1,h2⟩:=ae h
   rw [Bool.and_eq_true] at h1
   rw [← h2]
   show (wg s t).val=_
   unfold wg lp
   simp only [Br.val,h1.1,h1.2]
 · cases h
theorem Ny: Sound Kx 128 GC:=ssame_ok.of fun args objs r h=>by
 unfold GC at h;split at h
 · rename_i s t
   obtain ⟨h1,h2⟩:=ae h
   rw [Bool.and_eq_true] at h1
   rw [← h2]
   show (wh s t).val=_
   unfold wh lp
   simp only [Br.val,h1.1,h1.2]
 · cases h
def Xt (p: aa→AV): List AV→List Ob→Br
 | [.str s],[]=> .ret (p s) []
 | _,_=> .fail
theorem Nz {n: Nat} {s: List AV→List Ob→Br} (hs: Sound Kx n s) {p: aa→AV} (h: ∀ x,(s [.str x] []).val=some (p x,[])): Sound Kx n (Xt p):=hs.of fun args objs r hv=>by
 unfold Xt at hv
 split at hv
 · rw [h];exact hv
 · cases hv
theorem bU {s: aa} {n: Nat} (h: s.length≤n) (hn: n≤4611686018427387904:=by decide): isM s=true:=dT' (Nat.le_trans h hn)
def ka (s: aa): Bool:=decide (s.length≤40)&&aH qz s
def kb (s: aa): Bool:=decide (1≤s.length)&&decide (s.length≤200)&&aH cT s
theorem Db (s: aa) (n: Nat): decide ((s.length: Int)≤(n: Int))=decide (s.length≤n):=by congr 1;apply propext;omega
theorem zG: Sound Kx 175 (Xt fun s=> .bool (ka s)):=Nz C9 fun s=>by
 show (j9 s).val=_
 unfold j9 ka
 by_cases h: s.length≤40
 · have h': (s.length: Int)≤40:=by omega
   simp only [Br.val,h,h',decide_true,bU h,Bool.true_and]
 · have h': ¬ (s.length: Int)≤40:=by omega
   simp only [Br.val,h,h',decide_false,Bool.false_and]
theorem zH: Sound Kx 173 (Xt fun s=> .bool (kb s)):=Nz C_ fun s=>by
 show (j_ s).val=_
 unfold j_ kb
 by_cases h: 1≤s.length
 · have h': (1 : Int)≤(s.length: Int):=by omega
   by_cases g: s.length≤200
   · have g': (s.length: Int)≤200:=by omega
     simp only [Br.val,h,h',g,g',decide_true,bU g,Bool.true_and]
   · have g': ¬ (s.length: Int)≤200:=by omega
     simp only [Br.val,h,h',g,g',decide_true,decide_false,Bool.true_and,Bool.false_and]
 · have h': ¬ (1 : Int)≤(s.length: Int):=by omega
   simp only [Br.val,h,h',decide_false,Bool.false_and]
def SW: SC:=[⟨201,_,dc⟩,⟨74,_,JL⟩]
def qM (s: aa): Br:=(.ite (decide (1≤(s.length: Int))) (.ite (decide ((s.length: Int)≤4000)) (.ite (isM s) (.ret (AV.bool (aH li s)) []) .fail) (.ret (AV.bool false) [])) (.ret (AV.bool false) []))
def GD: List AV→List Ob→Br
 | [.str s],[]=>qM s
 | _,_=> .fail
theorem NA: Sound Kx 220 GD:=ac (C:=SW) (O:=O0) Tryz.func220 (by kernel_rfl) fun args objs=>by
 unfold GD;split
 · exact .inr (by kernel_rfl)
 · exact .inl rfl
def GE: Opt:={ live:=[(4,[0,3])],outs:=[(4,[2])] }
def sToken_C: SC:=[⟨240,_,JK⟩]
def lq (bp: aa) (bm: Int) (kR4: aa→Int→OR') (d_ ir: OR'): OR':=
 (bif (decide (bm < (bp.length: Int))) then (bif (decide (0≤bm)) then (bif (decide (bm < (bp.length: Int))) then (bif ((decide (0≤(aj bp bm)))&&(decide ((aj bp bm) < 256))) then (bif (!(li (aj bp bm))) then d_ else (kR4 bp (ad (bm + 1)))) else none) else none) else none) else ir)
def gj: Nat→aa→Int→(OR')→(OR')→OR'
 | 0,_,_,_,_=>none
 | n + 1,bp,bm,d_,ir=>lq bp bm (fun bp bm=>gj n bp bm d_ ir) d_ ir
abbrev sToken_p4: SP:=⟨23,[0,3],[(.v .s),(.v (.i .i64))],[]⟩
noncomputable def zI: Code:=ar (aC Tryz.f187) [1,1,0,1,0,0]
def zJ (f: (OR')→(OR')→OR') (k: KT): OR':=f (k Ex.ret ((St.mk (aA 0 23 [(2,(AV.bool false))]) ([]: (List (Nat×(Ob))))))) (k (Ex.exit 0) ((St.mk (aA 0 23 []) ([]: (List (Nat×(Ob)))))))
def zK (n: Nat) (d: sToken_p4.D): KT→OR':=zJ (gj n d.1.1 d.1.2.1)
def GF (N: Nat): Lam:=bI [⟨4,sToken_p4,zK N⟩]
theorem JM (N: Nat): OkL Kx sToken_C.s GE 0 N (GF N) zI:=okL sToken_p4 (zK) (fun d kR=>zJ (lq d.1.1 d.1.2.1 (fun bp bm=>kR ((bp,bm,()),())))) (fun _ _=>by kernel_rfl) (fun _ _ _=>by kernel_rfl) (fun _ _=>by kernel_rfl) (fun _ _ _ _=>by kernel_rfl) (af (l':=[]) (by kernel_rfl) trivial)
def tW (N: Nat) (s: aa): OR':=(bif (decide ((s.length: Int)=0)) then (some ((AV.bool false),[])) else (bif (decide (4000 < (s.length: Int))) then (some ((AV.bool false),[])) else (gj N s 0 (some ((AV.bool false),[])) (some ((AV.bool true),[])))))
def tX (φ: aa→Br): List AV→List Ob→Br
 | [.str s],[]=>φ s
 | _,_=> .fail
theorem Dc {φ: aa→Br} (fu: aa→Nat) (hv: ∀ s res_,(φ s).val=some res_→tW (fu s) s=some res_): Sound Kx 187 (tX φ):=ah (C:=sToken_C) (O:=GE) Tryz.func187 (by kernel_rfl) fun args objs=>by
 unfold tX;split
 · rename_i s;exact .inr fun _ hyp_=>aL (Λ:=GF (fu s)) (by kernel_rfl) (af (l':=[zI]) (by kernel_rfl) ⟨JM _,trivial⟩) (by kernel_rfl) (hv s _ hyp_)
 · exact .inl rfl
theorem tY: Sound Kx 220 (Xt fun s=> .bool (zg s)):=Nz NA fun s=>by
 show (qM s).val=_
 unfold qM zg
 by_cases h: 1≤s.length
 · have h': (1 : Int)≤(s.length: Int):=by omega
   by_cases g: s.length≤4000
   · have g': (s.length: Int)≤4000:=by omega
     simp only [Br.val,h,h',g,g',decide_true,bU g,Bool.true_and]
   · have g': ¬ (s.length: Int)≤4000:=by omega
     simp only [Br.val,h,h',g,g',decide_true,decide_false,Bool.true_and,Bool.false_and]
 · have h': ¬ (1 : Int)≤(s.length: Int):=by omega
   simp only [Br.val,h,h',decide_false,Bool.false_and]
theorem Dd (l: aa) (hl: l.length≤4611686018427387904) (k0 k1: OR'): ∀ (r: aa) (i: Int) (n: Nat),At l i r→r.length < n→gj n l i k0 k1=bif aH li r then k1 else k0:=by
 intro r;induction r with
 | nil=>intro i n h hn;obtain ⟨n,rfl⟩:=bH hn;unfold gj lq;simp only [h.dge,cond_false,aH,List.all_nil,cond_true]
 | cons a r ih=>
   intro i n h hn;obtain ⟨n,rfl⟩:=bH hn
   have hs:=ih (i + 1) n h.step (by simp at hn;omega)
   have e0: (decide (0≤by8 a)&&decide (by8 a < 256))=true:=by simp only [Bool.and_eq_true,decide_eq_true_eq];exact ⟨FJ a,FK a⟩
   unfold gj lq;simp only [h.dlt,h.dnn,h.str,cond_true,h.next hl,hs,aH,List.all_cons,e0]
   cases li (by8 a) <;> rfl
theorem tZ: Sound Kx 187 (Xt fun s=> .bool (zg s)):=by
 refine Nz (Dc (φ:=fun s=> .ret (.bool (zg s)) []) (fun s=>s.length + 1) fun s r h=>?_) fun _=>rfl
 cases h
 unfold tW zg
 by_cases h: s.length=0
 · have: s=[]:=List.length_eq_zero_iff.1 h
   subst this;rfl
 · by_cases g: s.length≤4000
   · have h': ¬ (s.length: Int)=0:=by omega
     have h1: 1≤s.length:=by omega
     have g': ¬ (4000 : Int) < (s.length: Int):=by omega
     simp only [h',g',g,h1,decide_true,decide_false,cond_false,Bool.true_and]
     rw [Dd s (by omega) _ _ s 0 _ (At.start s) (by omega)]
     cases aH li s <;> rfl
   · have h': ¬ (s.length: Int)=0:=by omega
     have g': (4000 : Int) < (s.length: Int):=by omega
     simp only [h',g',g,decide_true,decide_false,cond_false,cond_true,Bool.and_false,Bool.false_and]
def JN: SC:=[⟨220,_,tY⟩]
def kd (s: aa): Br:=(.ite (zg s) (.ret (AV.bool (decide ((s.length: Int)≤20))) []) (.ret (AV.bool false) []))
def t6: List AV→List Ob→Br
 | [.str s],[]=>kd s
 | _,_=> .fail
theorem De: Sound Kx 172 t6:=ac (C:=JN) (O:=O0) Tryz.func172 (by kernel_rfl) fun args objs=>by
 unfold t6;split
 · exact .inr (by kernel_rfl)
 · exact .inl rfl
def JO: Opt:={ split:=true }
def JP: SC:=[⟨220,_,tY⟩,⟨74,_,zB⟩,⟨180,_,qI⟩]
def kf (a b: aa): Br:=(.ite (zg a) (.ite (decide ((a.length: Int)≤40)) (.ite (decide ((b.length: Int)≤190)) (.ite (isM b) (.ite (aH qz b) (.ite (isM b) (.ite (decide ((cg b)=b)) (.ret (AV.bool true) []) (.ret (AV.bool false) [])) .fail) (.ret (AV.bool false) [])) .fail) (.ret (AV.bool false) [])) (.ret (AV.bool false) [])) (.ret (AV.bool false) []))
def t7: List AV→List Ob→Br
 | [.agg [.str a, .str b]],[]=>kf a b
 | _,_=> .fail
theorem Df: Sound Kx 158 t7:=ac (C:=JP) (O:=JO) Tryz.func158 (by kernel_rfl) fun args objs=>by
 unfold t7;split
 · exact .inr (by kernel_rfl)
 · exact .inl rfl
def JQ: Opt:={ split:=true }
def JR: SC:=[⟨187,_,tZ⟩,⟨189,_,qK⟩,⟨224,_,zA⟩]
def kg (a b: aa): Br:=(.ite (decide ((a.length: Int)≤40)) (.ite (zg a) (.ite (decide ((b.length: Int)≤190)) (.ite (isM b) (.ite (aH qz b) (.ite (isM b) (.ite (decide ((cg b)=b)) (.ret (AV.bool true) []) (.ret (AV.bool false) [])) .fail) (.ret (AV.bool false) [])) .fail) (.ret (AV.bool false) [])) (.ret (AV.bool false) [])) (.ret (AV.bool false) []))
def t8: List AV→List Ob→Br
 | [.agg [.str a, .str b]],[]=>kg a b
 | _,_=> .fail
theorem Dg: Sound Kx 168 t8:=ac (C:=JR) (O:=JQ) Tryz.func168 (by kernel_rfl) fun args objs=>by
 unfold t8;split
 · exact .inr (by kernel_rfl)
 · exact .inl rfl
def JS: SC:=[⟨187,_,tZ⟩,⟨188,_,pi⟩]
def kh (me ta: aa) (st: Int) (re: aa) (ba: Bool) (fs: List (aa×aa)) (bo: aa): Br:=(.ite (decide ((me.length: Int)≤20)) (.ite (zg me) (.ite (decide ((ta.length: Int)≤200)) (.ite (isM ta) (.ite ((aH cT ta)&&(decide (0 < (ta.length: Int)))) (.ite (decide (st=0)) (.ite (decide (re=([]: aa))) (.ret (AV.bool (!ba)) []) (.ret (AV.bool false) [])) (.ret (AV.bool false) [])) (.ret (AV.bool false) [])) .fail) (.ret (AV.bool false) [])) (.ret (AV.bool false) [])) (.ret (AV.bool false) []))
def t_: List AV→List Ob→Br
 | [.agg [.str me, .str ta, .int .i64 st, .str re, .bool ba, .sh (.pair .str .str) fs, .str bo]],[]=>kh me ta st re ba fs bo
 | _,_=> .fail
theorem Dh: Sound Kx 111 t_:=ac (C:=JS) (O:=O0) Tryz.func111 (by kernel_rfl) fun args objs=>by
 unfold t_;split
 · exact .inr (by kernel_rfl)
 · exact .inl rfl
def JT: SC:=[⟨189,_,qK⟩,⟨190,_,M5⟩]
def km (me ta: aa) (st: Int) (re: aa) (ba: Bool) (fs: List (aa×aa)) (bo: aa): Br:=(.ite (!(decide (ta=([]: aa)))) (.ret (AV.bool false) []) (.ite (decide (st < 200)) (.ret (AV.bool false) []) (.ite (decide (599 < st)) (.ret (AV.bool false) []) (.ite (decide (40 < (re.length: Int))) (.ret (AV.bool false) []) (.ite (isM re) (.ite (!(aH qz re)) (.ret (AV.bool false) []) (.ite ba (.ite (!(decide (bo=([]: aa)))) (.ret (AV.bool false) []) (.ite ba (.ret (AV.bool true) []) (.ret (AV.bool (!(wa st))) []))) (.ite ba (.ret (AV.bool true) []) (.ret (AV.bool (!(wa st))) [])))) .fail)))))
def ua: List AV→List Ob→Br
 | [.agg [.str me, .str ta, .int .i64 st, .str re, .bool ba, .sh (.pair .str .str) fs, .str bo]],[]=>km me ta st re ba fs bo
 | _,_=> .fail
theorem Di: Sound Kx 112 ua:=ac (C:=JT) (O:=O0) Tryz.func112 (by kernel_rfl) fun args objs=>by
 unfold ua;split
 · exact .inr (by kernel_rfl)
 · exact .inl rfl
abbrev Fd:=aa×aa
def hO (f: Fd): Bool:=zg f.1&&decide (f.1.length≤40)&&decide (f.2.length≤190)&&aH qz f.2&&decide (cg f.2=f.2)
def Z1 (p: Fd→AV): List AV→List Ob→Br
 | [.agg [.str a, .str b]],[]=> .ret (p (a,b)) []
 | _,_=> .fail
theorem Xu {n: Nat} {s: List AV→List Ob→Br} (hs: Sound Kx n s) {p: Fd→AV} (h: ∀ a b,(s [.agg [.str a, .str b]] []).val=some (p (a,b),[])): Sound Kx n (Z1 p):=hs.of fun args objs r hv=>by
 unfold Z1 at hv
 split at hv
 · rw [h];exact hv
 · cases hv
theorem zL: Sound Kx 158 (Z1 fun f=> .bool (hO f)):=Xu Df fun a b=>by
 show (kf a b).val=_
 unfold kf hO
 have e1: decide ((a.length: Int)≤40)=decide (a.length≤40):=Db a 40
 have e2: decide ((b.length: Int)≤190)=decide (b.length≤190):=Db b 190
 simp only [e1,e2]
 by_cases h: b.length≤190
 · simp only [h,bU h,decide_true,Bool.and_true]
   cases zg a <;> cases decide (a.length≤40) <;> cases aH qz b <;> cases decide (cg b=b) <;> rfl
 · simp only [h,decide_false]
   cases zg a <;> cases decide (a.length≤40) <;> rfl
theorem oc: Sound Kx 168 (Z1 fun f=> .bool (hO f)):=Xu Dg fun a b=>by
 show (kg a b).val=_
 unfold kg hO
 have e1: decide ((a.length: Int)≤40)=decide (a.length≤40):=Db a 40
 have e2: decide ((b.length: Int)≤190)=decide (b.length≤190):=Db b 190
 simp only [e1,e2]
 by_cases h: b.length≤190
 · simp only [h,bU h,decide_true,Bool.and_true]
   cases zg a <;> cases decide (a.length≤40) <;> cases aH qz b <;> cases decide (cg b=b) <;> rfl
 · simp only [h,decide_false]
   cases zg a <;> cases decide (a.length≤40) <;> rfl
def kn (s: aa): Bool:=zg s&&decide (s.length≤20)
theorem zM: Sound Kx 172 (Xt fun s=> .bool (kn s)):=Nz De fun s=>by
 show (kd s).val=_
 unfold kd kn
 have e1: decide ((s.length: Int)≤20)=decide (s.length≤20):=Db s 20
 simp only [e1]
 exact v8 _ _
abbrev Mg:=aa×aa×Int×aa×Bool×List Fd×aa
def Vz (me ta: aa) (st: Int) (re: aa) (ba: Bool): Bool:=kn me&&kb ta&&decide (st=0)&&decide (re=[])&& !ba
def SX (ta: aa) (st: Int) (re: aa) (ba: Bool) (bo: aa): Bool:=decide (ta=[])&&Jv st&&ka re&& !(ba&& !decide (bo=[]))&& !(wa st&& !ba)
def Xv (p: Mg→AV): List AV→List Ob→Br
 | [.agg [.str me, .str ta, .int .i64 st, .str re, .bool ba, .sh (.pair .str .str) fs, .str bo]],[]=> .ret (p (me,ta,st,re,ba,fs,bo)) []
 | _,_=> .fail
theorem Z2 {n: Nat} {s: List AV→List Ob→Br} (hs: Sound Kx n s) {p: Mg→AV} (h: ∀ me ta st re ba fs bo,(s [.agg [.str me, .str ta, .int .i64 st, .str re, .bool ba, .sh (.pair .str .str) fs, .str bo]] []).val=some (p (me,ta,st,re,ba,fs,bo),[])): Sound Kx n (Xv p):=hs.of fun args objs r hv=>by
 unfold Xv at hv
 split at hv
 · rw [h];exact hv
 · cases hv
theorem zN: Sound Kx 111 (Xv fun m=> .bool (Vz m.1 m.2.1 m.2.2.1 m.2.2.2.1 m.2.2.2.2.1)):=Z2 Dh fun me ta st re ba fs bo=>by
 show (kh me ta st re ba fs bo).val=some (.bool (Vz me ta st re ba),[])
 unfold kh Vz kn kb
 have e1: decide ((me.length: Int)≤20)=decide (me.length≤20):=Db me 20
 have e2: decide ((ta.length: Int)≤200)=decide (ta.length≤200):=Db ta 200
 have e3: decide ((0 : Int) < (ta.length: Int))=decide (1≤ta.length):=by congr 1;apply propext;omega
 simp only [e1,e2,e3]
 by_cases h: ta.length≤200
 · simp only [h,bU h,decide_true,Bool.and_true]
   cases decide (me.length≤20) <;> cases zg me <;> cases aH cT ta <;> cases decide (1≤ta.length) <;> cases decide (st=0) <;> cases decide (re=[]) <;> rfl
 · simp only [h,decide_false,Bool.and_false,Bool.false_and]
   cases decide (me.length≤20) <;> cases zg me <;> rfl
theorem Dj: Sound Kx 112 (Xv fun m=> .bool (SX m.2.1 m.2.2.1 m.2.2.2.1 m.2.2.2.2.1 m.2.2.2.2.2.2)):=Z2 Di fun me ta st re ba fs bo=>by
 show (km me ta st re ba fs bo).val=some (.bool (SX ta st re ba bo),[])
 unfold km SX ka Jv
 have e1: decide ((40 : Int) < (re.length: Int))= !decide (re.length≤40):=by by_cases h: re.length≤40 <;> simp [h] <;> omega
 have e2: decide (st < 200)= !decide (200≤st):=by by_cases h: 200≤st <;> simp [h] <;> omega
 have e3: decide (599 < st)= !decide (st≤599):=by by_cases h: st≤599 <;> simp [h] <;> omega
 simp only [e1,e2,e3]
 by_cases h: re.length≤40
 · simp only [h,bU h,decide_true,Bool.not_true,Bool.true_and]
   cases decide (ta=[]) <;> cases decide (200≤st) <;> cases decide (st≤599) <;> cases aH qz re <;> cases ba <;> cases decide (bo=[]) <;> cases wa st <;> rfl
 · simp only [h,decide_false,Bool.not_false,Bool.false_and,Bool.and_false]
   cases decide (ta=[]) <;> cases decide (200≤st) <;> cases decide (st≤599) <;> rfl
def qN: Opt:={ live:=[(4,[8,9,10])],outs:=[(4,[2])] }
def iFieldsOk_C: SC:=[⟨158,_,zL⟩]
def fL (bp: (List Fd)) (bm bW: Int) (kR4: (List Fd)→Int→Int→OR') (d_ ir: OR'): OR':=
 (bif (decide (bW < bm)) then (bif (decide (0≤bW)) then (bif (decide (bW < (bp.length: Int))) then (bif (!(hO ((List.getD bp (Int.toNat bW) (([]: aa),([]: aa))).1,(List.getD bp (Int.toNat bW) (([]: aa),([]: aa))).2))) then d_ else (kR4 bp bm (ad (bW + 1)))) else none) else none) else ir)
def dz: Nat→(List Fd)→Int→Int→(OR')→(OR')→OR'
 | 0,_,_,_,_,_=>none
 | n + 1,bp,bm,bW,d_,ir=>fL bp bm bW (fun bp bm bW=>dz n bp bm bW d_ ir) d_ ir
abbrev iFieldsOk_p4: SP:=⟨18,[8,9,10],[(.v (.sh (Ty.pair Ty.str Ty.str))),(.v (.i .i64)),(.v (.i .i64))],[]⟩
noncomputable def od: Code:=ar (aC Tryz.f84) [1,1,0,1,0,0]
def oe (f: (OR')→(OR')→OR') (k: KT): OR':=f (k Ex.ret ((St.mk (aA 0 18 [(2,(AV.bool false))]) ([]: (List (Nat×(Ob))))))) (k (Ex.exit 0) ((St.mk (aA 0 18 []) ([]: (List (Nat×(Ob)))))))
def og (n: Nat) (d: iFieldsOk_p4.D): KT→OR':=oe (dz n d.1.1 d.1.2.1 d.1.2.2.1)
def qO (N: Nat): Lam:=bI [⟨4,iFieldsOk_p4,og N⟩]
theorem wi (N: Nat): OkL Kx iFieldsOk_C.s qN 0 N (qO N) od:=okL iFieldsOk_p4 (og) (fun d kR=>oe (fL d.1.1 d.1.2.1 d.1.2.2.1 (fun bp bm bW=>kR ((bp,bm,bW,()),())))) (fun _ _=>by kernel_rfl) (fun _ _ _=>by kernel_rfl) (fun _ _=>by kernel_rfl) (fun _ _ _ _=>by kernel_rfl) (af (l':=[]) (by kernel_rfl) trivial)
def lr (N: Nat) (l: List Fd): OR':=(bif (decide (20 < (l.length: Int))) then (some ((AV.bool false),[])) else (dz N l (l.length: Int) 0 (some ((AV.bool false),[])) (some ((AV.bool true),[]))))
def ls (φ: (List Fd)→Br): List AV→List Ob→Br
 | [.sh (.pair .str .str) l],[]=>φ l
 | _,_=> .fail
theorem s8 {φ: (List Fd)→Br} (fu: (List Fd)→Nat) (hv: ∀ l res_,(φ l).val=some res_→lr (fu l) l=some res_): Sound Kx 84 (ls φ):=ah (C:=iFieldsOk_C) (O:=qN) Tryz.func84 (by kernel_rfl) fun args objs=>by
 unfold ls;split
 · rename_i l;exact .inr fun _ hyp_=>aL (Λ:=qO (fu l)) (by kernel_rfl) (af (l':=[od]) (by kernel_rfl) ⟨wi _,trivial⟩) (by kernel_rfl) (hv l _ hyp_)
 · exact .inl rfl
def qP: Opt:={ live:=[(4,[0,3])],outs:=[(4,[2])] }
def sFieldsOk_C: SC:=[⟨168,_,oc⟩]
def fM (bp: (List Fd)) (bm: Int) (kR4: (List Fd)→Int→OR') (d_ ir: OR'): OR':=
 (bif (decide (bm < (bp.length: Int))) then (bif (decide (0≤bm)) then (bif (decide (bm < (bp.length: Int))) then (bif (!(hO ((List.getD bp (Int.toNat bm) (([]: aa),([]: aa))).1,(List.getD bp (Int.toNat bm) (([]: aa),([]: aa))).2))) then d_ else (kR4 bp (ad (bm + 1)))) else none) else none) else ir)
def dA: Nat→(List Fd)→Int→(OR')→(OR')→OR'
 | 0,_,_,_,_=>none
 | n + 1,bp,bm,d_,ir=>fM bp bm (fun bp bm=>dA n bp bm d_ ir) d_ ir
abbrev sFieldsOk_p4: SP:=⟨19,[0,3],[(.v (.sh (Ty.pair Ty.str Ty.str))),(.v (.i .i64))],[]⟩
noncomputable def oh: Code:=ar (aC Tryz.f96) [1,1,0,1,0,0]
def oi (f: (OR')→(OR')→OR') (k: KT): OR':=f (k Ex.ret ((St.mk (aA 0 19 [(2,(AV.bool false))]) ([]: (List (Nat×(Ob))))))) (k (Ex.exit 0) ((St.mk (aA 0 19 []) ([]: (List (Nat×(Ob)))))))
def oj (n: Nat) (d: sFieldsOk_p4.D): KT→OR':=oi (dA n d.1.1 d.1.2.1)
def qQ (N: Nat): Lam:=bI [⟨4,sFieldsOk_p4,oj N⟩]
theorem wj (N: Nat): OkL Kx sFieldsOk_C.s qP 0 N (qQ N) oh:=okL sFieldsOk_p4 (oj) (fun d kR=>oi (fM d.1.1 d.1.2.1 (fun bp bm=>kR ((bp,bm,()),())))) (fun _ _=>by kernel_rfl) (fun _ _ _=>by kernel_rfl) (fun _ _=>by kernel_rfl) (fun _ _ _ _=>by kernel_rfl) (af (l':=[]) (by kernel_rfl) trivial)
def lu (N: Nat) (l: List Fd): OR':=(bif (decide (20 < (l.length: Int))) then (some ((AV.bool false),[])) else (dA N l 0 (some ((AV.bool false),[])) (some ((AV.bool true),[]))))
def lw (φ: (List Fd)→Br): List AV→List Ob→Br
 | [.sh (.pair .str .str) l],[]=>φ l
 | _,_=> .fail
theorem s9 {φ: (List Fd)→Br} (fu: (List Fd)→Nat) (hv: ∀ l res_,(φ l).val=some res_→lu (fu l) l=some res_): Sound Kx 96 (lw φ):=ah (C:=sFieldsOk_C) (O:=qP) Tryz.func96 (by kernel_rfl) fun args objs=>by
 unfold lw;split
 · rename_i l;exact .inr fun _ hyp_=>aL (Λ:=qQ (fu l)) (by kernel_rfl) (af (l':=[oh]) (by kernel_rfl) ⟨wj _,trivial⟩) (by kernel_rfl) (hv l _ hyp_)
 · exact .inl rfl
def zO: SC:=[⟨168,_,oc⟩]
def hY (a b: aa): Br:=(.ite (!(hO (a,b))) (.ret (AV.str ([]: aa)) []) (.ite (decide ((a.length + 2)≤9223372036854775807)) (.ite (decide (((List.length (a++([58,32]: aa))) + b.length)≤9223372036854775807)) (.ret (AV.str ((a++([58,32]: aa))++b)) []) .fail) .fail))
def ol: List AV→List Ob→Br
 | [.agg [.str a, .str b]],[]=>hY a b
 | _,_=> .fail
theorem wl: Sound Kx 192 ol:=ac (C:=zO) (O:=O0) Tryz.func192 (by kernel_rfl) fun args objs=>by
 unfold ol;split
 · exact .inr (by kernel_rfl)
 · exact .inl rfl
def co (l: List Fd): Bool:=decide (l.length≤20)&&l.all hO
def ab7 (p: List Fd→AV): List AV→List Ob→Br
 | [.sh (.pair .str .str) l],[]=> .ret (p l) []
 | _,_=> .fail
theorem Z3 {n: Nat} {s: List AV→List Ob→Br} (hs: Sound Kx n s) {p: List Fd→AV} (h: ∀ l,(s [.sh (.pair .str .str) l] []).val=some (p l,[])): Sound Kx n (ab7 p):=hs.of fun args objs r hv=>by
 unfold ab7 at hv
 split at hv
 · rw [h];exact hv
 · cases hv
theorem VA {α: Type} (l: List α) (n: Nat): decide ((n: Int) < (l.length: Int))= !decide (l.length≤n):=by by_cases h: l.length≤n <;> simp [h] <;> omega
theorem s_ (l: List Fd) (hl: l.length≤4611686018427387904) (k0 k1: OR'): ∀ (r: List Fd) (i: Int) (n: Nat),At l i r→r.length < n→dz n l (l.length: Int) i k0 k1=bif r.all hO then k1 else k0:=by
 intro r;induction r with
 | nil=>intro i n h hn;obtain ⟨n,rfl⟩:=bH hn;unfold dz fL;simp only [h.dge,cond_false,List.all_nil,cond_true]
 | cons a r ih=>
   intro i n h hn;obtain ⟨n,rfl⟩:=bH hn
   have hs:=ih (i + 1) n h.step (by simp at hn;omega)
   unfold dz fL;simp only [h.dlt,h.dnn,h.get,cond_true,h.next hl,hs,List.all_cons]
   cases hO a <;> rfl
theorem dM: Sound Kx 84 (ab7 fun l=> .bool (co l)):=by
 refine Z3 (s8 (φ:=fun l=> .ret (.bool (co l)) []) (fun l=>l.length + 1) fun l r h=>?_) fun _=>rfl
 cases h
 unfold lr co
 have e:=VA l 20
 simp only [show ((20 : Nat): Int)=20 from rfl] at e
 rw [e]
 by_cases h: l.length≤20
 · simp only [h,decide_true,Bool.not_true,cond_false,Bool.true_and]
   rw [s_ l (by omega) _ _ l 0 _ (At.start l) (by omega)]
   cases l.all hO <;> rfl
 · simp only [h,decide_false,Bool.not_false,cond_true,Bool.false_and]
theorem tb (l: List Fd) (hl: l.length≤4611686018427387904) (k0 k1: OR'): ∀ (r: List Fd) (i: Int) (n: Nat),At l i r→r.length < n→dA n l i k0 k1=bif r.all hO then k1 else k0:=by
 intro r;induction r with
 | nil=>intro i n h hn;obtain ⟨n,rfl⟩:=bH hn;unfold dA fM;simp only [h.dge,cond_false,List.all_nil,cond_true]
 | cons a r ih=>
   intro i n h hn;obtain ⟨n,rfl⟩:=bH hn
   have hs:=ih (i + 1) n h.step (by simp at hn;omega)
   unfold dA fM;simp only [h.dlt,h.dnn,h.get,cond_true,h.next hl,hs,List.all_cons]
   cases hO a <;> rfl
theorem hZ: Sound Kx 96 (ab7 fun l=> .bool (co l)):=by
 refine Z3 (s9 (φ:=fun l=> .ret (.bool (co l)) []) (fun l=>l.length + 1) fun l r h=>?_) fun _=>rfl
 cases h
 unfold lu co
 have e:=VA l 20
 simp only [show ((20 : Nat): Int)=20 from rfl] at e
 rw [e]
 by_cases h: l.length≤20
 · simp only [h,decide_true,Bool.not_true,cond_false,Bool.true_and]
   rw [tb l (by omega) _ _ l 0 _ (At.start l) (by omega)]
   cases l.all hO <;> rfl
 · simp only [h,decide_false,Bool.not_false,cond_true,Bool.false_and]
def iR (f: Fd): aa:=f.1++58::32::f.2
theorem h_ {f: Fd} (h: hO f=true): f.1.length≤40∧f.2.length≤190:=by
 unfold hO at h;simp only [Bool.and_eq_true,decide_eq_true_eq] at h;exact ⟨h.1.1.1.2,h.1.1.2⟩
theorem tc: Sound Kx 192 (Z1 fun f=> .str (bif hO f then iR f else [])):=Xu wl fun a b=>by
 show (hY a b).val=_
 unfold hY
 by_cases h: hO (a,b)=true
 · have hl:=h_ h
   simp only at hl
   have e1: decide (a.length + 2≤9223372036854775807)=true:=dT' (by omega)
   have e2: decide ((a++[58,32]).length + b.length≤9223372036854775807)=true:=dT' (by simp;omega)
   simp only [h,Br.val,Bool.not_true,e1,e2,cond_true]
   simp [iR]
 · simp only [Bool.not_eq_true] at h
   simp only [h,Br.val,Bool.not_false,cond_false]
def zP: Opt:={ live:=[(5,[1,5,11,12,13])],outs:=[(5,[4,5])] }
def iValues_C: SC:=[⟨84,_,dM⟩,⟨124,_,Nx⟩]
def ji (aY: aa) (a8: (List Fd)) (bc cH: Int) (dx: (List aa)) (kR5: aa→(List Fd)→Int→Int→(List aa)→OR') (dh: (List aa)→OR'): OR':=
 (bif (decide (cH < bc)) then (bif (decide (0≤cH)) then (bif (decide (cH < (a8.length: Int))) then (bif ((isM (List.getD a8 (Int.toNat cH) (([]: aa),([]: aa))).1)&&(isM aY)) then (bif (lp (List.getD a8 (Int.toNat cH) (([]: aa),([]: aa))).1 aY) then (bif (decide (((dx.length + (List.length (List.set (List.replicate 1 ([]: aa)) 0 (List.getD a8 (Int.toNat cH) (([]: aa),([]: aa))).2))) * 16)≤140737488355328)) then (kR5 aY a8 bc (ad (cH + 1)) (dx++(List.set (List.replicate 1 ([]: aa)) 0 (List.getD a8 (Int.toNat cH) (([]: aa),([]: aa))).2))) else none) else (kR5 aY a8 bc (ad (cH + 1)) dx)) else none) else none) else none) else (dh dx))
def fb: Nat→aa→(List Fd)→Int→Int→(List aa)→((List aa)→OR')→OR'
 | 0,_,_,_,_,_,_=>none
 | n + 1,aY,a8,bc,cH,dx,dh=>ji aY a8 bc cH dx (fun aY a8 bc cH dx=>fb n aY a8 bc cH dx dh) dh
abbrev iValues_p5: SP:=⟨28,[1,5,11,12,13],[(.v .s),(.v (.ref 384 0)),(.v (.sh (Ty.pair Ty.str Ty.str))),(.v (.i .i64)),(.v (.i .i64))],[(384, .arr Ty.str 0 false)]⟩
noncomputable def ub: Code:=ar (aC Tryz.f47) [1,1,1,0,1,0,0]
def uc (f: ((List aa)→OR')→OR') (k: KT): OR':=f (fun ai=>k (Ex.exit 0) ((St.mk (aA 0 28 [(5,(AV.ref 384 0))]) ((384,(Ob.arr Ty.str 0 false ai))::([]: (List (Nat×(Ob))))))))
def ue (n: Nat) (d: iValues_p5.D): KT→OR':=uc (fb n d.1.1 d.1.2.2.1 d.1.2.2.2.1 d.1.2.2.2.2.1 d.2.1)
def zQ (N: Nat): Lam:=bI [⟨5,iValues_p5,ue N⟩]
theorem Dk (N: Nat): OkL Kx iValues_C.s zP 0 N (zQ N) ub:=okL iValues_p5 (ue) (fun d kR=>uc (ji d.1.1 d.1.2.2.1 d.1.2.2.2.1 d.1.2.2.2.2.1 d.2.1 (fun aY a8 bc cH dx=>kR ((aY,(),a8,bc,cH,()),(dx,()))))) (fun _ _=>by kernel_rfl) (fun _ _ _=>by kernel_rfl) (fun _ _=>by kernel_rfl) (fun _ _ _ _=>by kernel_rfl) (af (l':=[]) (by kernel_rfl) trivial)
def qR (N: Nat) (l: List Fd) (name: aa): OR':=(bif (!(co l)) then (some ((AV.ref 0 0),[.arr Ty.str 0 false ([]: (List aa))])) else (fb N name l (l.length: Int) 0 ([]: (List aa)) (fun ai=>(some ((AV.ref 0 0),[.arr Ty.str 0 false ai])))))
def qS (φ: (List Fd)→aa→Br): List AV→List Ob→Br
 | [.sh (.pair .str .str) l, .str name],[]=>φ l name
 | _,_=> .fail
theorem zR {φ: (List Fd)→aa→Br} (fu: (List Fd)→aa→Nat) (hv: ∀ l name res_,(φ l name).val=some res_→qR (fu l name) l name=some res_): Sound Kx 47 (qS φ):=ah (C:=iValues_C) (O:=zP) Tryz.func47 (by kernel_rfl) fun args objs=>by
 unfold qS;split
 · rename_i l name;exact .inr fun _ hyp_=>aL (Λ:=zQ (fu l name)) (by kernel_rfl) (af (l':=[ub]) (by kernel_rfl) ⟨Dk _,trivial⟩) (by kernel_rfl) (hv l name _ hyp_)
 · exact .inl rfl
def zS: Opt:={ live:=[(5,[0,1,5,6])],outs:=[(5,[4,5])] }
def sValues_C: SC:=[⟨96,_,hZ⟩,⟨128,_,Ny⟩]
def jj (aY: (List Fd)) (a8: aa) (bc: Int) (cH: (List aa)) (kR5: (List Fd)→aa→Int→(List aa)→OR') (dh: (List aa)→OR'): OR':=
 (bif (decide (bc < (aY.length: Int))) then (bif (decide (0≤bc)) then (bif (decide (bc < (aY.length: Int))) then (bif ((isM (List.getD aY (Int.toNat bc) (([]: aa),([]: aa))).1)&&(isM a8)) then (bif (lp (List.getD aY (Int.toNat bc) (([]: aa),([]: aa))).1 a8) then (bif (decide (0≤bc)) then (bif (decide (bc < (aY.length: Int))) then (bif (decide (((cH.length + (List.length (List.set (List.replicate 1 ([]: aa)) 0 (List.getD aY (Int.toNat bc) (([]: aa),([]: aa))).2))) * 16)≤140737488355328)) then (kR5 aY a8 (ad (bc + 1)) (cH++(List.set (List.replicate 1 ([]: aa)) 0 (List.getD aY (Int.toNat bc) (([]: aa),([]: aa))).2))) else none) else none) else none) else (kR5 aY a8 (ad (bc + 1)) cH)) else none) else none) else none) else (dh cH))
def fc: Nat→(List Fd)→aa→Int→(List aa)→((List aa)→OR')→OR'
 | 0,_,_,_,_,_=>none
 | n + 1,aY,a8,bc,cH,dh=>jj aY a8 bc cH (fun aY a8 bc cH=>fc n aY a8 bc cH dh) dh
abbrev sValues_p5: SP:=⟨32,[0,1,5,6],[(.v (.sh (Ty.pair Ty.str Ty.str))),(.v .s),(.v (.ref 384 0)),(.v (.i .i64))],[(384, .arr Ty.str 0 false)]⟩
noncomputable def uf: Code:=ar (aC Tryz.f48) [1,1,1,0,1,0,0]
def ug (f: ((List aa)→OR')→OR') (k: KT): OR':=f (fun ai=>k (Ex.exit 0) ((St.mk (aA 0 32 [(5,(AV.ref 384 0))]) ((384,(Ob.arr Ty.str 0 false ai))::([]: (List (Nat×(Ob))))))))
def uh (n: Nat) (d: sValues_p5.D): KT→OR':=ug (fc n d.1.1 d.1.2.1 d.1.2.2.2.1 d.2.1)
def zT (N: Nat): Lam:=bI [⟨5,sValues_p5,uh N⟩]
theorem Dl (N: Nat): OkL Kx sValues_C.s zS 0 N (zT N) uf:=okL sValues_p5 (uh) (fun d kR=>ug (jj d.1.1 d.1.2.1 d.1.2.2.2.1 d.2.1 (fun aY a8 bc cH=>kR ((aY,a8,(),bc,()),(cH,()))))) (fun _ _=>by kernel_rfl) (fun _ _ _=>by kernel_rfl) (fun _ _=>by kernel_rfl) (fun _ _ _ _=>by kernel_rfl) (af (l':=[]) (by kernel_rfl) trivial)
def qT (N: Nat) (l: List Fd) (name: aa): OR':=(bif (!(co l)) then (some ((AV.ref 0 0),[.arr Ty.str 0 false ([]: (List aa))])) else (fc N l name 0 ([]: (List aa)) (fun ai=>(some ((AV.ref 0 0),[.arr Ty.str 0 false ai])))))
def qU (φ: (List Fd)→aa→Br): List AV→List Ob→Br
 | [.sh (.pair .str .str) l, .str name],[]=>φ l name
 | _,_=> .fail
theorem zU {φ: (List Fd)→aa→Br} (fu: (List Fd)→aa→Nat) (hv: ∀ l name res_,(φ l name).val=some res_→qT (fu l name) l name=some res_): Sound Kx 48 (qU φ):=ah (C:=sValues_C) (O:=zS) Tryz.func48 (by kernel_rfl) fun args objs=>by
 unfold qU;split
 · rename_i l name;exact .inr fun _ hyp_=>aL (Λ:=zT (fu l name)) (by kernel_rfl) (af (l':=[uf]) (by kernel_rfl) ⟨Dl _,trivial⟩) (by kernel_rfl) (hv l name _ hyp_)
 · exact .inl rfl
def zV: Opt:={ live:=[(2,[0,3])],outs:=[(2,[2])] }
def sframed_C: SC:=[⟨91,_,ll⟩]
def jk (ay: (List Fd)) (aB: Int) (kR2: (List Fd)→Int→OR') (cf cO: OR'): OR':=
 (bif (decide (aB < (ay.length: Int))) then (bif (decide (0≤aB)) then (bif (decide (aB < (ay.length: Int))) then (bif (isM (List.getD ay (Int.toNat aB) (([]: aa),([]: aa))).1) then (bif (decide ((aK (List.getD ay (Int.toNat aB) (([]: aa),([]: aa))).1)=([99,111,110,116,101,110,116,45,108,101,110,103,116,104]: aa))) then cf else (bif (decide ((aK (List.getD ay (Int.toNat aB) (([]: aa),([]: aa))).1)=([116,114,97,110,115,102,101,114,45,101,110,99,111,100,105,110,103]: aa))) then cf else (bif (decide ((aK (List.getD ay (Int.toNat aB) (([]: aa),([]: aa))).1)=([116,114,97,105,108,101,114]: aa))) then cf else (kR2 ay (ad (aB + 1)))))) else none) else none) else none) else cO)
def fd: Nat→(List Fd)→Int→(OR')→(OR')→OR'
 | 0,_,_,_,_=>none
 | n + 1,ay,aB,cf,cO=>jk ay aB (fun ay aB=>fd n ay aB cf cO) cf cO
abbrev sframed_p2: SP:=⟨27,[0,3],[(.v (.sh (Ty.pair Ty.str Ty.str))),(.v (.i .i64))],[]⟩
noncomputable def ui: Code:=ar (aC Tryz.f110) [1,0,1,0,0]
def uj (f: (OR')→(OR')→OR') (k: KT): OR':=f (k Ex.ret ((St.mk (aA 0 27 [(2,(AV.bool true))]) ([]: (List (Nat×(Ob))))))) (k (Ex.exit 0) ((St.mk (aA 0 27 []) ([]: (List (Nat×(Ob)))))))
def uk (n: Nat) (d: sframed_p2.D): KT→OR':=uj (fd n d.1.1 d.1.2.1)
def zW (N: Nat): Lam:=bI [⟨2,sframed_p2,uk N⟩]
theorem Dm (N: Nat): OkL Kx sframed_C.s zV 0 N (zW N) ui:=okL sframed_p2 (uk) (fun d kR=>uj (jk d.1.1 d.1.2.1 (fun ay aB=>kR ((ay,aB,()),())))) (fun _ _=>by kernel_rfl) (fun _ _ _=>by kernel_rfl) (fun _ _=>by kernel_rfl) (fun _ _ _ _=>by kernel_rfl) (af (l':=[]) (by kernel_rfl) trivial)
def qV (N: Nat) (l: List Fd): OR':=(fd N l 0 (some ((AV.bool true),[])) (some ((AV.bool false),[])))
def qW (φ: (List Fd)→Br): List AV→List Ob→Br
 | [.sh (.pair .str .str) l],[]=>φ l
 | _,_=> .fail
theorem zX {φ: (List Fd)→Br} (fu: (List Fd)→Nat) (hv: ∀ l res_,(φ l).val=some res_→qV (fu l) l=some res_): Sound Kx 110 (qW φ):=ah (C:=sframed_C) (O:=zV) Tryz.func110 (by kernel_rfl) fun args objs=>by
 unfold qW;split
 · rename_i l;exact .inr fun _ hyp_=>aL (Λ:=zW (fu l)) (by kernel_rfl) (af (l':=[ui]) (by kernel_rfl) ⟨Dm _,trivial⟩) (by kernel_rfl) (hv l _ hyp_)
 · exact .inl rfl
theorem ci {α: Type} (d x: α): List.set (List.replicate 1 d) 0 x=[x]:=rfl
theorem adQ {α β: Type} (x: α×β): (x.1,x.2)=x:=rfl
def ko (l: List Fd) (name: aa): List aa:=(l.filter fun f=>lp f.1 name).map (·.2)
def dp (l: List Fd) (name: aa): List aa:=bif co l then ko l name else []
theorem eC {l: List Fd} (h: co l=true): l.length≤20∧∀ f ∈ l,hO f=true:=by
 unfold co at h;rw [Bool.and_eq_true,decide_eq_true_eq,List.all_eq_true] at h;exact h
theorem wm {f: Fd} (h: hO f=true): isM f.1=true∧isM f.2=true:=⟨bU (h_ h).1,bU (h_ h).2⟩
theorem zY (name: aa) (hm: isM name=true) (l: List Fd) (hl: l.length≤20) (k: List aa→OR'): ∀ (r: List Fd) (i: Int) (n: Nat) (out: List aa),At l i r→r.length < n→(∀ f ∈ r,hO f=true)→out.length + r.length≤20→
 fb n name l (l.length: Int) i out k=k (out++ko r name):=by
 intro r;induction r with
 | nil=>intro i n out h hn hf ho;obtain ⟨n,rfl⟩:=bH hn;unfold fb ji;simp only [h.dge,cond_false];simp [ko]
 | cons a r ih=>
   intro i n out h hn hf ho;obtain ⟨n,rfl⟩:=bH hn
   have ha:=wm (hf a (List.mem_cons_self ..))
   have hr:=fun f h=>hf f (List.mem_cons_of_mem _ h)
   simp only [List.length_cons] at ho hn
   have e0: decide ((out.length + [a.2].length) * 16≤140737488355328)=true:=dT' (by simp only [List.length_singleton];omega)
   unfold fb ji;simp only [h.dlt,h.dnn,h.get,cond_true,h.next (by omega),ha.1,hm,Bool.and_self,ci,e0]
   cases hs: lp a.1 name
   · rw [cond_false,ih (i + 1) n out h.step (by omega) hr (by omega)];simp [ko,hs]
   · rw [cond_true,ih (i + 1) n (out++[a.2]) h.step (by omega) hr (by simp;omega)];simp [ko,hs]
def SY: List AV→List Ob→Br
 | [.sh (.pair .str .str) l, .str name],[]=> .ite (isM name) (.ret (.ref 0 0) [.arr .str 0 false (dp l name)]) .fail
 | _,_=> .fail
theorem kp: Sound Kx 47 SY:=by
 refine (zR (φ:=fun l name=> .ite (isM name) (.ret (.ref 0 0) [.arr .str 0 false (dp l name)]) .fail) (fun l _=>l.length + 1) fun l name r h=>?_).of fun args objs r h=>?_
 · obtain ⟨h1,h2⟩:=ae h
   cases h2
   unfold qR dp
   cases hf: co l
   · rfl
   · obtain ⟨g1,g2⟩:=eC hf
     simp only [Bool.not_true,cond_false,cond_true]
     rw [zY name h1 l g1 _ l 0 _ [] (At.start l) (by omega) g2 (by simpa using g1)]
     rfl
 · unfold SY at h;split at h
   · exact h
   · cases h
theorem zZ (name: aa) (hm: isM name=true) (l: List Fd) (hl: l.length≤20) (k: List aa→OR'): ∀ (r: List Fd) (i: Int) (n: Nat) (out: List aa),At l i r→r.length < n→(∀ f ∈ r,hO f=true)→out.length + r.length≤20→
 fc n l name i out k=k (out++ko r name):=by
 intro r;induction r with
 | nil=>intro i n out h hn hf ho;obtain ⟨n,rfl⟩:=bH hn;unfold fc jj;simp only [h.dge,cond_false];simp [ko]
 | cons a r ih=>
   intro i n out h hn hf ho;obtain ⟨n,rfl⟩:=bH hn
   have ha:=wm (hf a (List.mem_cons_self ..))
   have hr:=fun f h=>hf f (List.mem_cons_of_mem _ h)
   simp only [List.length_cons] at ho hn
   have e0: decide ((out.length + [a.2].length) * 16≤140737488355328)=true:=dT' (by simp only [List.length_singleton];omega)
   unfold fc jj;simp only [h.dlt,h.dnn,h.get,cond_true,h.next (by omega),ha.1,hm,Bool.and_self,ci,e0]
   cases hs: lp a.1 name
   · rw [cond_false,ih (i + 1) n out h.step (by omega) hr (by omega)];simp [ko,hs]
   · rw [cond_true,ih (i + 1) n (out++[a.2]) h.step (by omega) hr (by simp;omega)];simp [ko,hs]
theorem qX: Sound Kx 48 SY:=by
 refine (zU (φ:=fun l name=> .ite (isM name) (.ret (.ref 0 0) [.arr .str 0 false (dp l name)]) .fail) (fun l _=>l.length + 1) fun l name r h=>?_).of fun args objs r h=>?_
 · obtain ⟨h1,h2⟩:=ae h
   cases h2
   unfold qT dp
   cases hf: co l
   · rfl
   · obtain ⟨g1,g2⟩:=eC hf
     simp only [Bool.not_true,cond_false,cond_true]
     rw [zZ name h1 l g1 _ l 0 _ [] (At.start l) (by omega) g2 (by simpa using g1)]
     rfl
 · unfold SY at h;split at h
   · exact h
   · cases h
def frC: aa:=[99,111,110,116,101,110,116,45,108,101,110,103,116,104]
def frT: aa:=[116,114,97,110,115,102,101,114,45,101,110,99,111,100,105,110,103]
def frR: aa:=[116,114,97,105,108,101,114]
def SZ (f: Fd): Bool:=decide (aK f.1=frC)||decide (aK f.1=frT)||decide (aK f.1=frR)
theorem z6 (l: List Fd) (hl: l.length≤20) (k0 k1: OR'): ∀ (r: List Fd) (i: Int) (n: Nat),At l i r→r.length < n→(∀ f ∈ r,hO f=true)→fd n l i k0 k1=bif r.any SZ then k0 else k1:=by
 intro r;induction r with
 | nil=>intro i n h hn hf;obtain ⟨n,rfl⟩:=bH hn;unfold fd jk;simp only [h.dge,cond_false,List.any_nil]
 | cons a r ih=>
   intro i n h hn hf;obtain ⟨n,rfl⟩:=bH hn
   have ha:=wm (hf a (List.mem_cons_self ..))
   have hs:=ih (i + 1) n h.step (by simp at hn;omega) fun f h=>hf f (List.mem_cons_of_mem _ h)
   unfold fd jk;simp only [h.dlt,h.dnn,h.get,cond_true,h.next (by omega),hs,ha.1,List.any_cons]
   show (bif decide (aK a.1=frC) then k0 else bif decide (aK a.1=frT) then k0 else bif decide (aK a.1=frR) then k0 else _)=bif SZ a||_ then _ else _
   unfold SZ
   cases decide (aK a.1=frC) <;> cases decide (aK a.1=frT) <;> cases decide (aK a.1=frR) <;> rfl
def Z4: List AV→List Ob→Br
 | [.sh (.pair .str .str) l],[]=> .ite (co l) (.ret (.bool (l.any SZ)) []) .fail
 | _,_=> .fail
theorem Dn: Sound Kx 110 Z4:=by
 refine (zX (φ:=fun l=> .ite (co l) (.ret (.bool (l.any SZ)) []) .fail) (fun l=>l.length + 1) fun l r h=>?_).of fun args objs r h=>?_
 · obtain ⟨h1,h2⟩:=ae h
   cases h2
   obtain ⟨g1,g2⟩:=eC h1
   unfold qV
   rw [z6 l g1 _ _ l 0 _ (At.start l) (by omega) g2]
   cases l.any SZ <;> rfl
 · unfold Z4 at h;split at h
   · exact h
   · cases h
def Z5: SC:=[⟨180,_,qI⟩]
def Do (el: aa) (out: List aa): Br:=(.ite (isM el) (.ite (!(decide ((cg el)=([]: aa)))) (.ite (decide (((out.length + (List.length (List.set (List.replicate 1 ([]: aa)) 0 (cg el)))) * 16)≤140737488355328)) (.ret (AV.tup []) [.var [.ref 1 1],.arr Ty.str 1 false (out++(List.set (List.replicate 1 ([]: aa)) 0 (cg el)))]) .fail) (.ret (AV.tup []) [.var [.ref 1 0],.arr Ty.str 0 false out])) .fail)
def VB: List AV→List Ob→Br
 | [.str el, .ptr 0 0],[.var [.ref 1 0], .arr .str 0 false out]=>Do el out
 | _,_=> .fail
theorem Xw: Sound Kx 222 VB:=ac (C:=Z5) (O:=O0) Tryz.func222 (by kernel_rfl) fun args objs=>by
 unfold VB;split
 · exact .inr (by kernel_rfl)
 · exact .inl rfl
def Xx: SC:=[⟨180,_,qI⟩]
def wn (el: aa): Br:=(.ite (isM el) (.ite (!(decide ((cg el)=([]: aa)))) (.ite (decide (((List.length (List.set (List.replicate 1 ([]: aa)) 0 (cg el))) * 16)≤140737488355328)) (.ret (AV.tup []) [.var [.ref 1 0],.arr Ty.str 0 false (List.set (List.replicate 1 ([]: aa)) 0 (cg el))]) .fail) (.ret (AV.tup []) [.var [.nil Ty.str]])) .fail)
def NB: List AV→List Ob→Br
 | [.str el, .ptr 0 0],[.var [.nil .str]]=>wn el
 | _,_=> .fail
theorem S0: Sound Kx 222 NB:=ac (C:=Xx) (O:=O0) Tryz.func222 (by kernel_rfl) fun args objs=>by
 unfold NB;split
 · exact .inr (by kernel_rfl)
 · exact .inl rfl
def qY: Opt:={ live:=[(7,[0,3,4,5,6])],outs:=[(7,[2,3])] }
def sElements_C: SC:=[⟨224,_,zA⟩]
def fN (cj: aa) (du: Int) (dF: Bool) (bV: Int) (eA: (List aa)) (kR7: aa→Int→Bool→Int→(List aa)→OR') (Cq: (List aa)→OR'): OR':=
 (bif (decide (bV≤(cj.length: Int))) then (bif (decide (bV=(cj.length: Int))) then (bif (decide (0≤du)) then (bif (decide (du≤bV)) then (bif (decide (bV≤(cj.length: Int))) then (bif (isM (cut cj du bV)) then (bif (decide (0 < ((List.length (cg (cut cj du bV))): Int))) then (bif (decide (((eA.length + (List.length (List.set (List.replicate 1 ([]: aa)) 0 (cg (cut cj du bV))))) * 16)≤140737488355328)) then (kR7 cj (ad (bV + 1)) dF (ad (bV + 1)) (eA++(List.set (List.replicate 1 ([]: aa)) 0 (cg (cut cj du bV))))) else none) else (kR7 cj (ad (bV + 1)) dF (ad (bV + 1)) eA)) else none) else none) else none) else none) else (bif (!dF) then (bif (decide (0≤bV)) then (bif (decide (bV < (cj.length: Int))) then (bif (decide ((aj cj bV)=44)) then (bif (decide (0≤du)) then (bif (decide (du≤bV)) then (bif (decide (bV≤(cj.length: Int))) then (bif (isM (cut cj du bV)) then (bif (decide (0 < ((List.length (cg (cut cj du bV))): Int))) then (bif (decide (((eA.length + (List.length (List.set (List.replicate 1 ([]: aa)) 0 (cg (cut cj du bV))))) * 16)≤140737488355328)) then (kR7 cj (ad (bV + 1)) dF (ad (bV + 1)) (eA++(List.set (List.replicate 1 ([]: aa)) 0 (cg (cut cj du bV))))) else none) else (kR7 cj (ad (bV + 1)) dF (ad (bV + 1)) eA)) else none) else none) else none) else none) else (bif (decide (0≤bV)) then (bif (decide (bV < (cj.length: Int))) then (bif (decide ((aj cj bV)=34)) then (kR7 cj du (!dF) (ad (bV + 1)) eA) else (bif dF then (bif (decide (0≤bV)) then (bif (decide (bV < (cj.length: Int))) then (bif (decide ((aj cj bV)=92)) then (bif (decide ((ad (bV + 1)) < (cj.length: Int))) then (kR7 cj du dF (ad ((ad (bV + 1)) + 1)) eA) else (kR7 cj du dF (ad (bV + 1)) eA)) else (kR7 cj du dF (ad (bV + 1)) eA)) else none) else none) else (kR7 cj du dF (ad (bV + 1)) eA))) else none) else none)) else none) else none) else (bif (decide (0≤bV)) then (bif (decide (bV < (cj.length: Int))) then (bif (decide ((aj cj bV)=34)) then (kR7 cj du (!dF) (ad (bV + 1)) eA) else (bif dF then (bif (decide (0≤bV)) then (bif (decide (bV < (cj.length: Int))) then (bif (decide ((aj cj bV)=92)) then (bif (decide ((ad (bV + 1)) < (cj.length: Int))) then (kR7 cj du dF (ad ((ad (bV + 1)) + 1)) eA) else (kR7 cj du dF (ad (bV + 1)) eA)) else (kR7 cj du dF (ad (bV + 1)) eA)) else none) else none) else (kR7 cj du dF (ad (bV + 1)) eA))) else none) else none))) else (Cq eA))
def cv: Nat→aa→Int→Bool→Int→(List aa)→((List aa)→OR')→OR'
 | 0,_,_,_,_,_,_=>none
 | n + 1,cj,du,dF,bV,eA,Cq=>fN cj du dF bV eA (fun cj du dF bV eA=>cv n cj du dF bV eA Cq) Cq
abbrev sElements_p7: SP:=⟨70,[0,3,4,5,6],[(.v .s),(.v (.ref 256 0)),(.v (.i .i64)),(.v .b),(.v (.i .i64))],[(256, .arr Ty.str 0 false)]⟩
noncomputable def om: Code:=ar (aC Tryz.f162) [1,1,1,1,1,0,1,0,0]
def oo (f: ((List aa)→OR')→OR') (k: KT): OR':=f (fun ec=>k (Ex.exit 0) ((St.mk (aA 0 70 [(3,(AV.ref 256 0))]) ((256,(Ob.arr Ty.str 0 false ec))::([]: (List (Nat×(Ob))))))))
def oq (n: Nat) (d: sElements_p7.D): KT→OR':=oo (cv n d.1.1 d.1.2.2.1 d.1.2.2.2.1 d.1.2.2.2.2.1 d.2.1)
def qZ (N: Nat): Lam:=bI [⟨7,sElements_p7,oq N⟩]
theorem wo (N: Nat): OkL Kx sElements_C.s qY 0 N (qZ N) om:=okL sElements_p7 (oq) (fun d kR=>oo (fN d.1.1 d.1.2.2.1 d.1.2.2.2.1 d.1.2.2.2.2.1 d.2.1 (fun cj du dF bV eA=>kR ((cj,(),du,dF,bV,()),(eA,()))))) (fun _ _=>by kernel_rfl) (fun _ _ _=>by kernel_rfl) (fun _ _=>by kernel_rfl) (fun _ _ _ _=>by kernel_rfl) (af (l':=[]) (by kernel_rfl) trivial)
def lx (N: Nat) (s: aa): OR':=(bif (decide (4000 < (s.length: Int))) then (some ((AV.ref 0 0),[.arr Ty.str 0 false ([]: (List aa))])) else (cv N s 0 false 0 ([]: (List aa)) (fun ec=>(some ((AV.ref 0 0),[.arr Ty.str 0 false ec])))))
def ly (φ: aa→Br): List AV→List Ob→Br
 | [.str s],[]=>φ s
 | _,_=> .fail
theorem td {φ: aa→Br} (fu: aa→Nat) (hv: ∀ s res_,(φ s).val=some res_→lx (fu s) s=some res_): Sound Kx 162 (ly φ):=ah (C:=sElements_C) (O:=qY) Tryz.func162 (by kernel_rfl) fun args objs=>by
 unfold ly;split
 · rename_i s;exact .inr fun _ hyp_=>aL (Λ:=qZ (fu s)) (by kernel_rfl) (af (l':=[om]) (by kernel_rfl) ⟨wo _,trivial⟩) (by kernel_rfl) (hv s _ hyp_)
 · exact .inl rfl
def z7: Opt:={ live:=[(4,[5,6,7])],outs:=[(4,[4,6])] }
def sJoined_C: SC:=[⟨48,_,qX⟩]
def gk (bp: aa) (bm: Int) (bW: (List aa)) (kR4: aa→Int→(List aa)→OR') (d_: aa→OR'): OR':=
 (bif (decide (bm < (bW.length: Int))) then (bif (decide (0 < bm)) then (bif (decide ((bp.length + 2)≤9223372036854775807)) then (bif (decide (0≤bm)) then (bif (decide (bm < (bW.length: Int))) then (bif (decide (((List.length (bp++([44,32]: aa))) + (List.length (List.getD bW (Int.toNat bm) ([]: aa))))≤9223372036854775807)) then (kR4 ((bp++([44,32]: aa))++(List.getD bW (Int.toNat bm) ([]: aa))) (ad (bm + 1)) bW) else none) else none) else none) else none) else (bif (decide (0≤bm)) then (bif (decide (bm < (bW.length: Int))) then (bif (decide ((bp.length + (List.length (List.getD bW (Int.toNat bm) ([]: aa))))≤9223372036854775807)) then (kR4 (bp++(List.getD bW (Int.toNat bm) ([]: aa))) (ad (bm + 1)) bW) else none) else none) else none)) else (d_ bp))
def ej: Nat→aa→Int→(List aa)→(aa→OR')→OR'
 | 0,_,_,_,_=>none
 | n + 1,bp,bm,bW,d_=>gk bp bm bW (fun bp bm bW=>ej n bp bm bW d_) d_
abbrev sJoined_p4: SP:=⟨28,[5,6,7],[(.v (.ref 384 0)),(.v .s),(.v (.i .i64))],[(384, .arr Ty.str 0 false)]⟩
noncomputable def ul: Code:=ar (aC Tryz.f163) [1,1,1,0,1,0,0]
def um (f: (aa→OR')→OR') (k: KT): OR':=f (fun eH=>k (Ex.exit 0) ((St.mk (aA 0 28 [(6,(AV.str eH))]) ([]: (List (Nat×(Ob)))))))
def uo (n: Nat) (d: sJoined_p4.D): KT→OR':=um (ej n d.1.2.1 d.1.2.2.1 d.2.1)
def z8 (N: Nat): Lam:=bI [⟨4,sJoined_p4,uo N⟩]
theorem Dp (N: Nat): OkL Kx sJoined_C.s z7 0 N (z8 N) ul:=okL sJoined_p4 (uo) (fun d kR=>um (gk d.1.2.1 d.1.2.2.1 d.2.1 (fun bp bm bW=>kR (((),bp,bm,()),(bW,()))))) (fun _ _=>by kernel_rfl) (fun _ _ _=>by kernel_rfl) (fun _ _=>by kernel_rfl) (fun _ _ _ _=>by kernel_rfl) (af (l':=[]) (by kernel_rfl) trivial)
def q6 (N: Nat) (l: List Fd) (name: aa): OR':=(bif (isM name) then (ej N ([]: aa) 0 (dp l name) (fun eH=>(some ((AV.str eH),[])))) else none)
def q7 (φ: (List Fd)→aa→Br): List AV→List Ob→Br
 | [.sh (.pair .str .str) l, .str name],[]=>φ l name
 | _,_=> .fail
theorem z_ {φ: (List Fd)→aa→Br} (fu: (List Fd)→aa→Nat) (hv: ∀ l name res_,(φ l name).val=some res_→q6 (fu l name) l name=some res_): Sound Kx 163 (q7 φ):=ah (C:=sJoined_C) (O:=z7) Tryz.func163 (by kernel_rfl) fun args objs=>by
 unfold q7;split
 · rename_i l name;exact .inr fun _ hyp_=>aL (Λ:=z8 (fu l name)) (by kernel_rfl) (af (l':=[ul]) (by kernel_rfl) ⟨Dp _,trivial⟩) (by kernel_rfl) (hv l name _ hyp_)
 · exact .inl rfl
def NC: Opt:={ live:=[(2,[0,1,5])],outs:=[(2,[4])] }
def pj (ay: (List aa)) (aB: aa) (cF: Int) (kR2: (List aa)→aa→Int→OR') (cf cO: OR'): OR':=
 (bif (decide (cF < (ay.length: Int))) then (bif (decide (0≤cF)) then (bif (decide (cF < (ay.length: Int))) then (bif (decide ((List.getD ay (Int.toNat cF) ([]: aa))=aB)) then cf else (kR2 ay aB (ad (cF + 1)))) else none) else none) else cO)
def jl: Nat→(List aa)→aa→Int→(OR')→(OR')→OR'
 | 0,_,_,_,_,_=>none
 | n + 1,ay,aB,cF,cf,cO=>pj ay aB cF (fun ay aB cF=>jl n ay aB cF cf cO) cf cO
abbrev sl5in_p2: SP:=⟨18,[0,1,5],[(.v (.sh Ty.str)),(.v .s),(.v (.i .i64))],[]⟩
noncomputable def GG: Code:=ar (aC Tryz.f105) [1,0,1,0,0]
def GH (f: (OR')→(OR')→OR') (k: KT): OR':=f (k Ex.ret ((St.mk (aA 0 18 [(4,(AV.bool true))]) ([]: (List (Nat×(Ob))))))) (k (Ex.exit 0) ((St.mk (aA 0 18 []) ([]: (List (Nat×(Ob)))))))
def GI (n: Nat) (d: sl5in_p2.D): KT→OR':=GH (jl n d.1.1 d.1.2.1 d.1.2.2.1)
def ND (N: Nat): Lam:=bI [⟨2,sl5in_p2,GI N⟩]
theorem NE (N: Nat): OkL Kx noS NC 0 N (ND N) GG:=okL sl5in_p2 (GI) (fun d kR=>GH (pj d.1.1 d.1.2.1 d.1.2.2.1 (fun ay aB cF=>kR ((ay,aB,cF,()),())))) (fun _ _=>by kernel_rfl) (fun _ _ _=>by kernel_rfl) (fun _ _=>by kernel_rfl) (fun _ _ _ _=>by kernel_rfl) (af (l':=[]) (by kernel_rfl) trivial)
def Aa (N: Nat) (l: List aa) (s: aa): OR':=(jl N l s 0 (some ((AV.bool true),[])) (some ((AV.bool false),[])))
def Ab (φ: (List aa)→aa→Br): List AV→List Ob→Br
 | [.sh .str l, .str s],[]=>φ l s
 | _,_=> .fail
theorem JU {φ: (List aa)→aa→Br} (fu: (List aa)→aa→Nat) (hv: ∀ l s res_,(φ l s).val=some res_→Aa (fu l s) l s=some res_): Sound Kx 105 (Ab φ):=ah (C:=[]) (O:=NC) Tryz.func105 (by kernel_rfl) fun args objs=>by
 unfold Ab;split
 · rename_i l s;exact .inr fun _ hyp_=>aL (Λ:=ND (fu l s)) (by kernel_rfl) (af (l':=[GG]) (by kernel_rfl) ⟨NE _,trivial⟩) (by kernel_rfl) (hv l s _ hyp_)
 · exact .inl rfl
def Z6: List AV→List Ob→Br
 | [.str el, .ptr 0 0],[.var [.ref 1 0], .arr .str 0 false out]=> .ite (isM el&&decide (out.length≤100000)) (.ite (decide (cg el=[])) (.ret (.tup []) [.var [.ref 1 0], .arr .str 0 false out]) (.ret (.tup []) [.var [.ref 1 1], .arr .str 1 false (out++[cg el])])) .fail
 | [.str el, .ptr 0 0],[.var [.nil .str]]=> .ite (isM el) (.ite (decide (cg el=[])) (.ret (.tup []) [.var [.nil .str]]) (.ret (.tup []) [.var [.ref 1 0], .arr .str 0 false [cg el]])) .fail
 | _,_=> .fail
theorem Xy: Sound Kx 222 Z6:=by
 intro args objs res objs' hv
 unfold Z6 at hv
 split at hv
 · rename_i el out
   refine Xw _ _ _ _ ?_
   show (Do el out).val=_
   obtain ⟨h1,h2⟩:=ae hv
   rw [Bool.and_eq_true,decide_eq_true_eq] at h1
   unfold Do
   refine (bQ h1.1).trans (Eq.trans ?_ h2)
   rw [ci]
   cases c: decide (cg el=[])
   · exact bQ (dT' (by simp only [List.length_singleton];omega))
   · rfl
 · rename_i el
   refine S0 _ _ _ _ ?_
   show (wn el).val=_
   obtain ⟨h1,h2⟩:=ae hv
   unfold wn
   refine (bQ h1).trans (Eq.trans ?_ h2)
   rw [ci]
   cases c: decide (cg el=[])
   · rfl
   · rfl
 · cases hv
def q8: Opt:={ live:=[(7,[0,3,4,5,6,7])],outs:=[(7,[0,2,3,4,5])] }
def iElements_C: SC:=[⟨222,_,Xy⟩]
def fO (cj: aa) (du: Int) (dF: Bool) (bV: Int) (eA: (List aa)) (kR7: aa→Int→Bool→Int→(List aa)→OR') (Cq: aa→Int→(List aa)→OR'): OR':=
 (bif (decide (bV < (cj.length: Int))) then (bif (decide (0≤bV)) then (bif (decide (bV < (cj.length: Int))) then (bif (decide ((aj cj bV)=34)) then (kR7 cj du (!dF) (ad (bV + 1)) eA) else (bif dF then (bif (decide (0≤bV)) then (bif (decide (bV < (cj.length: Int))) then (bif (decide ((aj cj bV)=92)) then (kR7 cj du dF (ad ((ad (bV + 1)) + 1)) eA) else (bif (!dF) then (bif (decide (0≤bV)) then (bif (decide (bV < (cj.length: Int))) then (bif (decide ((aj cj bV)=44)) then (bif (decide (0≤du)) then (bif (decide (du≤bV)) then (bif (decide (bV≤(cj.length: Int))) then (bif ((isM (cut cj du bV))&&(decide (eA.length≤100000))) then (bif (decide ((cg (cut cj du bV))=([]: aa))) then (kR7 cj (ad (bV + 1)) dF (ad (bV + 1)) eA) else (kR7 cj (ad (bV + 1)) dF (ad (bV + 1)) (eA++((cg (cut cj du bV))::([]: (List aa)))))) else none) else none) else none) else none) else (kR7 cj du dF (ad (bV + 1)) eA)) else none) else none) else (kR7 cj du dF (ad (bV + 1)) eA))) else none) else none) else (bif (!dF) then (bif (decide (0≤bV)) then (bif (decide (bV < (cj.length: Int))) then (bif (decide ((aj cj bV)=44)) then (bif (decide (0≤du)) then (bif (decide (du≤bV)) then (bif (decide (bV≤(cj.length: Int))) then (bif ((isM (cut cj du bV))&&(decide (eA.length≤100000))) then (bif (decide ((cg (cut cj du bV))=([]: aa))) then (kR7 cj (ad (bV + 1)) dF (ad (bV + 1)) eA) else (kR7 cj (ad (bV + 1)) dF (ad (bV + 1)) (eA++((cg (cut cj du bV))::([]: (List aa)))))) else none) else none) else none) else none) else (kR7 cj du dF (ad (bV + 1)) eA)) else none) else none) else (kR7 cj du dF (ad (bV + 1)) eA)))) else none) else none) else (Cq cj du eA))
def cI: Nat→aa→Int→Bool→Int→(List aa)→(aa→Int→(List aa)→OR')→OR'
 | 0,_,_,_,_,_,_=>none
 | n + 1,cj,du,dF,bV,eA,Cq=>fO cj du dF bV eA (fun cj du dF bV eA=>cI n cj du dF bV eA Cq) Cq
abbrev iElements_p7: SP:=⟨58,[0,3,4,5,6,7],[(.v .s),(.v (.ptr 256 0)),(.v (.fn 222 [(256,0)])),(.v (.i .i64)),(.v .b),(.v (.i .i64))],[(256, .var [(.ref 257 0)]),(257, .arr Ty.str 0 false)]⟩
noncomputable def ot: Code:=ar (aC Tryz.f160) [1,1,1,1,1,0,1,0,0]
def ou (f: (aa→Int→(List aa)→OR')→OR') (k: KT): OR':=f (fun ec it jS=>k (Ex.exit 0) ((St.mk (aA 0 58 [(0,(AV.str ec)),(3,(AV.ptr 256 0)),(4,(AV.fn 222 [.ptr 256 0])),(5,(AV.int .i64 it))]) ((256,(Ob.var [.ref 257 0]))::((257,(Ob.arr Ty.str 0 false jS))::([]: (List (Nat×(Ob)))))))))
def ov (n: Nat) (d: iElements_p7.D): KT→OR':=ou (cI n d.1.1 d.1.2.2.2.1 d.1.2.2.2.2.1 d.1.2.2.2.2.2.1 d.2.2.1)
def q9 (N: Nat): Lam:=bI [⟨7,iElements_p7,ov N⟩]
theorem wq (N: Nat): OkL Kx iElements_C.s q8 0 N (q9 N) ot:=okL iElements_p7 (ov) (fun d kR=>ou (fO d.1.1 d.1.2.2.2.1 d.1.2.2.2.2.1 d.1.2.2.2.2.2.1 d.2.2.1 (fun cj du dF bV eA=>kR ((cj,(),(),du,dF,bV,()),(((),()),eA,()))))) (fun _ _=>by kernel_rfl) (fun _ _ _=>by kernel_rfl) (fun _ _=>by kernel_rfl) (fun _ _ _ _=>by kernel_rfl) (af (l':=[]) (by kernel_rfl) trivial)
def lz (N: Nat) (s: aa): OR':=(bif (decide (4000 < (s.length: Int))) then (some ((AV.ref 0 0),[.arr Ty.str 0 false ([]: (List aa))])) else (cI N s 0 false 0 ([]: (List aa)) (fun ec it jS=>(bif (decide (0≤it)) then (bif (decide (it≤(ec.length: Int))) then (bif ((isM (cut ec it (ec.length: Int)))&&(decide (jS.length≤100000))) then (bif (decide ((cg (cut ec it (ec.length: Int)))=([]: aa))) then (some ((AV.ref 0 0),[.arr Ty.str 0 false jS])) else (some ((AV.ref 0 0),[.arr Ty.str 0 false (jS++((cg (cut ec it (ec.length: Int)))::([]: (List aa))))]))) else none) else none) else none))))
def lB (φ: aa→Br): List AV→List Ob→Br
 | [.str s],[]=>φ s
 | _,_=> .fail
theorem tf {φ: aa→Br} (fu: aa→Nat) (hv: ∀ s res_,(φ s).val=some res_→lz (fu s) s=some res_): Sound Kx 160 (lB φ):=ah (C:=iElements_C) (O:=q8) Tryz.func160 (by kernel_rfl) fun args objs=>by
 unfold lB;split
 · rename_i s;exact .inr fun _ hyp_=>aL (Λ:=q9 (fu s)) (by kernel_rfl) (af (l':=[ot]) (by kernel_rfl) ⟨wq _,trivial⟩) (by kernel_rfl) (hv s _ hyp_)
 · exact .inl rfl
def dG: aa→Bool→aa→List aa
 | cur,_,[]=>[cur]
 | cur,q,c::r=>
   bif decide (by8 c=34) then dG (cur++[c]) (!q) r
   else bif q&&decide (by8 c=92) then (match r with | []=>[cur++[c]] | d::r'=>dG (cur++[c,d]) q r')
   else bif !q&&decide (by8 c=44) then cur::dG [] q r
   else dG (cur++[c]) q r
theorem ek (cur: aa) (q: Bool) (c: UInt8) (r: aa): dG cur q (c::r)=bif decide (by8 c=34) then dG (cur++[c]) (!q) r
 else bif q&&decide (by8 c=92) then (match r with | []=>[cur++[c]] | d::r'=>dG (cur++[c,d]) q r')
 else bif !q&&decide (by8 c=44) then cur::dG [] q r
 else dG (cur++[c]) q r:=by cases r <;> rfl
theorem gl (cur: aa) (q: Bool): dG cur q []=[cur]:=rfl
def iB: List aa→List aa
 | []=>[]
 | x::r=>bif decide (cg x=[]) then iB r else cg x::iB r
def lC (s: aa): List aa:=bif decide (4000 < (s.length: Int)) then [] else iB (dG [] false s)
theorem Z7 (l: aa): decide ((0 : Int) < (l.length: Int))= !decide (l=[]):=by cases l <;> simp
theorem gm (x: aa) (r: List aa): iB (x::r)=bif decide (cg x=[]) then iB r else cg x::iB r:=rfl
theorem tg (s: aa) (hl: s.length≤4000) (k: List aa→OR'): ∀ (n: Nat) (p cur r: aa) (q: Bool) (out: List aa) (i fr: Int),s=p++cur++r→i=((p.length + cur.length: Nat): Int)→fr=(p.length: Int)→r.length + 1 < n→out.length≤p.length→
 cv n s fr q i out k=k (out++iB (dG cur q r)):=by
 intro n;induction n with
 | zero=>intro p cur r q out i fr hs hi hf hn;omega
 | succ n ih=>
   intro p cur r q out i fr hs hi hf hn ho
   have hat: At s i r:=⟨p++cur,hs,by rw [hi];simp⟩
   have hlen: s.length=p.length + cur.length + r.length:=by rw [hs];simp;omega
   have hcut: cut s fr i=cur:=by rw [hs,hi,hf,Int.natCast_add];exact qJ p cur r
   have hnf: decide (0≤fr)=true:=dT' (by omega)
   have hfi: decide (fr≤i)=true:=dT' (by omega)
   have hil: decide (i≤(s.length: Int))=true:=dT' (by omega)
   have hM: isM cur=true:=bU (n:=4000) (by omega)
   have hw: ad (i + 1)=i + 1:=w64 (by omega) (by omega)
   have hap: decide ((out.length + [cg cur].length) * 16≤140737488355328)=true:=dT' (by simp only [List.length_singleton];omega)
   unfold cv fN
   simp only [hcut,hnf,hfi,hil,hM,hw,hap,ci,Z7,cond_true,hat.dnn]
   cases r with
   | nil=>
     have he: decide (i=(s.length: Int))=true:=dT' (by simp only [List.length_nil] at hlen;omega)
     simp only [List.length_nil] at hn
     obtain ⟨m,rfl⟩: ∃ m,n=m + 1:=⟨n - 1,by omega⟩
     have hx: decide (i + 1≤(s.length: Int))=false:=dF' (by simp only [List.length_nil] at hlen;omega)
     have hend: ∀ o,cv (m + 1) s (i + 1) q (i + 1) o k=k o:=fun o=>by unfold cv fN;rw [hx,cond_false]
     simp only [he,cond_true,hend,gl,gm,iB]
     cases decide (cg cur=[]) <;> simp
   | cons c r=>
     have he: decide (i=(s.length: Int))=false:=dF' (by simp only [List.length_cons] at hlen;omega)
     simp only [List.length_cons] at hn hlen
     have hstep: ∀ q',cv n s fr q' (i + 1) out k=k (out++iB (dG (cur++[c]) q' r)):=fun q'=>
      ih p (cur++[c]) r q' out (i + 1) fr (by rw [hs];simp) (by rw [hi];simp;omega) hf (by omega) ho
     have hcom: ∀ q' o,o.length≤p.length + 1→cv n s (i + 1) q' (i + 1) o k=k (o++iB (dG [] q' r)):=fun q' o ho'=>
      ih (p++cur++[c]) [] r q' o (i + 1) (i + 1) (by rw [hs];simp) (by rw [hi];simp;omega) (by rw [hi];simp;omega) (by omega) (by simp;omega)
     have h0:=hcom q out (by omega)
     have h1:=hcom q (out++[cg cur]) (by simp;omega)
     simp only [he,hat.dlt,hat.dnn,hat.str,cond_true,cond_false,h0,h1,hstep]
     rw [ek]
     cases c1: decide (by8 c=34)
     · cases q
       · cases c3: decide (by8 c=44)
         · simp
         · simp only [Bool.not_false,Bool.false_and,Bool.true_and,cond_true,cond_false,gm]
           cases decide (cg cur=[]) <;> simp
       · cases c2: decide (by8 c=92)
         · simp
         · simp only [Bool.not_true,Bool.true_and,cond_true,cond_false]
           cases r with
           | nil=>
             have hx: decide (i + 1 < (s.length: Int))=false:=dF' (by simp only [List.length_nil] at hlen;omega)
             simp only [hx,cond_false,gl]
           | cons d r=>
             have hx: decide (i + 1 < (s.length: Int))=true:=dT' (by simp only [List.length_cons] at hlen;omega)
             have hw2: ad (i + 1 + 1)=i + 1 + 1:=w64 (by omega) (by omega)
             simp only [List.length_cons] at hn hlen
             simp only [hx,cond_true,hw2]
             exact ih p (cur++[c,d]) r true out _ fr (by rw [hs];simp) (by rw [hi];simp;omega) hf (by omega) ho
     · have c3: decide (by8 c=44)=false:=dF' (by have:=of_decide_eq_true c1;omega)
       cases q <;> simp [c3]
theorem th (s: aa) (hl: s.length≤4000) (k: aa→Int→List aa→OR') (K: List aa→OR')
 (hk: ∀ (p cur: aa) (fr: Int) (out: List aa),s=p++cur→fr=(p.length: Int)→out.length≤p.length→k s fr out=K (out++iB [cur])): ∀ (n: Nat) (p cur r: aa) (q: Bool) (out: List aa) (i fr: Int),s=p++cur++r→i=((p.length + cur.length: Nat): Int)→fr=(p.length: Int)→r.length < n→out.length≤p.length→
 cI n s fr q i out k=K (out++iB (dG cur q r)):=by
 intro n;induction n with
 | zero=>intro p cur r q out i fr hs hi hf hn;omega
 | succ n ih=>
   intro p cur r q out i fr hs hi hf hn ho
   have hat: At s i r:=⟨p++cur,hs,by rw [hi];simp⟩
   have hlen: s.length=p.length + cur.length + r.length:=by rw [hs];simp;omega
   have hcut: cut s fr i=cur:=by rw [hs,hi,hf,Int.natCast_add];exact qJ p cur r
   have hnf: decide (0≤fr)=true:=dT' (by omega)
   have hfi: decide (fr≤i)=true:=dT' (by omega)
   have hil: decide (i≤(s.length: Int))=true:=dT' (by omega)
   have hM: isM cur=true:=bU (n:=4000) (by omega)
   have hw: ad (i + 1)=i + 1:=w64 (by omega) (by omega)
   have hap: decide (out.length≤100000)=true:=dT' (by omega)
   unfold cI fO
   simp only [hcut,hnf,hfi,hil,hM,hw,hap,cond_true,hat.dnn,Bool.and_self]
   cases r with
   | nil=>
     simp only [hat.dge,cond_false,gl]
     exact hk p cur fr out (by rw [hs];simp) hf ho
   | cons c r=>
     simp only [List.length_cons] at hn hlen
     have hstep: ∀ q',cI n s fr q' (i + 1) out k=K (out++iB (dG (cur++[c]) q' r)):=fun q'=>
      ih p (cur++[c]) r q' out (i + 1) fr (by rw [hs];simp) (by rw [hi];simp;omega) hf (by omega) ho
     have hcom: ∀ q' o,o.length≤p.length + 1→cI n s (i + 1) q' (i + 1) o k=K (o++iB (dG [] q' r)):=fun q' o ho'=>
      ih (p++cur++[c]) [] r q' o (i + 1) (i + 1) (by rw [hs];simp) (by rw [hi];simp;omega) (by rw [hi];simp;omega) (by omega) (by simp;omega)
     have h0:=hcom q out (by omega)
     have h1:=hcom q (out++[cg cur]) (by simp;omega)
     simp only [hat.dlt,hat.dnn,hat.str,cond_true,cond_false,h0,h1,hstep]
     rw [ek]
     cases c1: decide (by8 c=34)
     · cases q
       · cases c3: decide (by8 c=44)
         · simp
         · simp only [Bool.not_false,Bool.false_and,Bool.true_and,cond_true,cond_false,gm]
           cases decide (cg cur=[]) <;> simp
       · cases c2: decide (by8 c=92)
         · simp
         · simp only [Bool.not_true,Bool.true_and,cond_true,cond_false]
           have hw2: ad (i + 1 + 1)=i + 1 + 1:=w64 (by omega) (by omega)
           cases r with
           | nil=>
             simp only [List.length_nil] at hn hlen
             obtain ⟨m,rfl⟩: ∃ m,n=m + 1:=⟨n - 1,by omega⟩
             have hx: decide (i + 1 + 1 < (s.length: Int))=false:=dF' (by omega)
             rw [hw2]
             unfold cI fO
             simp only [hx,cond_false]
             exact hk p (cur++[c]) fr out (by rw [hs];simp) hf ho
           | cons d r=>
             simp only [List.length_cons] at hn hlen
             rw [hw2]
             exact ih p (cur++[c,d]) r true out _ fr (by rw [hs];simp) (by rw [hi];simp;omega) hf (by omega) ho
     · have c3: decide (by8 c=44)=false:=dF' (by have:=of_decide_eq_true c1;omega)
       cases q <;> simp [c3]
def ab8 (p: aa→List aa): List AV→List Ob→Br
 | [.str s],[]=> .ret (.ref 0 0) [.arr .str 0 false (p s)]
 | _,_=> .fail
theorem wt: Sound Kx 162 (ab8 lC):=by
 refine (td (φ:=fun s=> .ret (.ref 0 0) [.arr .str 0 false (lC s)]) (fun s=>s.length + 2) fun s r h=>?_).of fun args objs r h=>?_
 · cases h
   unfold lx lC
   cases c: decide (4000 < (s.length: Int))
   · have:=of_decide_eq_false c
     simp only [cond_false]
     rw [tg s (by omega) _ (s.length + 2) [] [] s false [] 0 0 rfl rfl rfl (by omega) (by simp)]
     rfl
   · rfl
 · unfold ab8 at h;split at h
   · exact h
   · cases h
theorem JV (p m: aa): cut (p++m) (p.length: Int) ((p++m).length: Int)=m:=by
 have:=qJ p m []
 rw [List.append_nil] at this
 rw [← Int.natCast_add,← List.length_append] at this
 exact this
theorem wu: Sound Kx 160 (ab8 lC):=by
 refine (tf (φ:=fun s=> .ret (.ref 0 0) [.arr .str 0 false (lC s)]) (fun s=>s.length + 2) fun s r h=>?_).of fun args objs r h=>?_
 · cases h
   unfold lz lC
   cases c: decide (4000 < (s.length: Int))
   · have hl:=of_decide_eq_false c
     simp only [cond_false]
     rw [th s (by omega) _ (fun o=>some (.ref 0 0,[.arr .str 0 false o])) ?_ (s.length + 2) [] [] s false [] 0 0 rfl rfl rfl (by omega) (by simp)]
     · rfl
     · intro p cur fr out hs hf ho
       have hlen: s.length=p.length + cur.length:=by rw [hs];simp
       have h1: cut s fr (s.length: Int)=cur:=by rw [hs,hf];exact JV p cur
       have h2: isM cur=true:=bU (n:=4000) (by omega)
       simp only [h1,h2,dT' (show 0≤fr by omega),dT' (show fr≤(s.length: Int) by omega),dT' (show out.length≤100000 by omega),Bool.and_self,cond_true,gm,iB]
       cases decide (cg cur=[]) <;> simp
   · rfl
 · unfold ab8 at h;split at h
   · exact h
   · cases h
def S1: SC:=[⟨293,_,j7⟩,⟨197,_,j8⟩,⟨244,_,ei⟩]
def q_ (b: Int): Br:=(.ite (iA b) (.ret (AV.bool true) []) (.ite (CU b) (.ret (AV.bool true) []) (.ite (am b) (.ret (AV.bool true) []) (.ite (decide (b=45)) (.ret (AV.bool true) []) (.ite (decide (b=46)) (.ret (AV.bool true) []) (.ite (decide (b=95)) (.ret (AV.bool true) []) (.ret (AV.bool (decide (b=126))) [])))))))
def GJ: List AV→List Ob→Br
 | [.int .u8 b],[]=>q_ b
 | _,_=> .fail
theorem NF: Sound Kx 336 GJ:=ac (C:=S1) (O:=O0) Tryz.func336 (by kernel_rfl) fun args objs=>by
 unfold GJ;split
 · exact .inr (by kernel_rfl)
 · exact .inl rfl
def Xz: SC:=[⟨244,_,ei⟩]
def wv (b: Int): Br:=(.ite (am b) (.ret (AV.int .i64 (ad (wk8 (b - 48)))) []) (.ite (decide (97≤b)) (.ite (decide (b≤102)) (.ret (AV.int .i64 (ad ((ad (wk8 (b - 97))) + 10))) []) (.ite (decide (65≤b)) (.ite (decide (b≤70)) (.ret (AV.int .i64 (ad ((ad (wk8 (b - 65))) + 10))) []) (.ret (AV.int .i64 (-1)) [])) (.ret (AV.int .i64 (-1)) []))) (.ite (decide (65≤b)) (.ite (decide (b≤70)) (.ret (AV.int .i64 (ad ((ad (wk8 (b - 65))) + 10))) []) (.ret (AV.int .i64 (-1)) [])) (.ret (AV.int .i64 (-1)) []))))
def NG: List AV→List Ob→Br
 | [.int .u8 b],[]=>wv b
 | _,_=> .fail
theorem hexOf_ok: Sound Kx 335 NG:=ac (C:=Xz) (O:=O0) Tryz.func335 (by kernel_rfl) fun args objs=>by
 unfold NG;split
 · exact .inr (by kernel_rfl)
 · exact .inl rfl
def XA: SC:=[⟨164,_,ja⟩,⟨213,_,e_⟩,⟨282,_,Gy⟩]
def ww (b: Int): Br:=(.ite ((decide (0≤b))&&(decide (b < 256))) (.ite (decide (97≤(gg b))) (.ite (decide ((gg b)≤122)) (.ret (AV.bool true) []) (.ite (am b) (.ret (AV.bool true) []) (.ret (AV.bool (cE ([45,46,95,126]: aa) b)) []))) (.ite (am b) (.ret (AV.bool true) []) (.ret (AV.bool (cE ([45,46,95,126]: aa) b)) []))) .fail)
def NH: List AV→List Ob→Br
 | [.int .u8 b],[]=>ww b
 | _,_=> .fail
theorem sfree_ok: Sound Kx 324 NH:=ac (C:=XA) (O:=O0) Tryz.func324 (by kernel_rfl) fun args objs=>by
 unfold NH;split
 · exact .inr (by kernel_rfl)
 · exact .inl rfl
def rb (b: Int): Br:=(.ite (decide (97≤b)) (.ite (decide (b≤122)) (.ret (AV.int .u8 (wk8 (b - 32))) []) (.ret (AV.int .u8 b) [])) (.ret (AV.int .u8 b) []))
def GK: List AV→List Ob→Br
 | [.int .u8 b],[]=>rb b
 | _,_=> .fail
theorem supper_ok: Sound Kx 325 GK:=ac (C:=[]) (O:=O0) Tryz.func325 (by kernel_rfl) fun args objs=>by
 unfold GK;split
 · exact .inr (by kernel_rfl)
 · exact .inl rfl
def XB: SC:=[⟨293,_,j7⟩,⟨244,_,ei⟩]
def wy (b: Int): Br:=(.ite (iA b) (.ret (AV.bool true) []) (.ite (am b) (.ret (AV.bool true) []) (.ite (decide (b=45)) (.ret (AV.bool true) []) (.ret (AV.bool (decide (b=46))) []))))
def NI: List AV→List Ob→Br
 | [.int .u8 b],[]=>wy b
 | _,_=> .fail
theorem S3: Sound Kx 337 NI:=ac (C:=XB) (O:=O0) Tryz.func337 (by kernel_rfl) fun args objs=>by
 unfold NI;split
 · exact .inr (by kernel_rfl)
 · exact .inl rfl
def uq: Opt:={ live:=[(5,[0,4,5])],outs:=[(5,[2,3,4])] }
def sReadHex_C: SC:=[⟨164,_,ja⟩,⟨213,_,e_⟩]
def ia (aY: aa) (a8 bc: Int) (kR5: aa→Int→Int→OR') (dh xX: Int→OR'): OR':=
 (bif (decide (bc < (aY.length: Int))) then (bif (decide (0≤bc)) then (bif (decide (bc < (aY.length: Int))) then (bif ((decide (0≤(aj aY bc)))&&(decide ((aj aY bc) < 256))) then (bif (am (gg (aj aY bc))) then (kR5 aY (ad ((ad (a8 * 16)) + (ad (wk8 ((gg (aj aY bc)) - 48))))) (ad (bc + 1))) else (bif (decide (97≤(gg (aj aY bc)))) then (bif (decide ((gg (aj aY bc))≤102)) then (kR5 aY (ad ((ad ((ad (a8 * 16)) + (ad (wk8 ((gg (aj aY bc)) - 97))))) + 10)) (ad (bc + 1))) else (dh a8)) else (dh a8))) else none) else none) else none) else (xX a8))
def dv: Nat→aa→Int→Int→(Int→OR')→(Int→OR')→OR'
 | 0,_,_,_,_,_=>none
 | n + 1,aY,a8,bc,dh,xX=>ia aY a8 bc (fun aY a8 bc=>dv n aY a8 bc dh xX) dh xX
abbrev sReadHex_p5: SP:=⟨49,[0,4,5],[(.v .s),(.v (.i .i64)),(.v (.i .i64))],[]⟩
noncomputable def rc: Code:=ar (aC Tryz.f323) [1,1,1,0,1,0,0]
def rf (f: (Int→OR')→(Int→OR')→OR') (k: KT): OR':=f (fun ai=>k Ex.ret ((St.mk (aA 0 49 [(2,(AV.int .i64 0)),(3,(AV.bool false)),(4,(AV.int .i64 ai))]) ([]: (List (Nat×(Ob))))))) (fun sC=>k (Ex.exit 0) ((St.mk (aA 0 49 [(4,(AV.int .i64 sC))]) ([]: (List (Nat×(Ob)))))))
def rg (n: Nat) (d: sReadHex_p5.D): KT→OR':=rf (dv n d.1.1 d.1.2.1 d.1.2.2.1)
def ut (N: Nat): Lam:=bI [⟨5,sReadHex_p5,rg N⟩]
theorem Ad (N: Nat): OkL Kx sReadHex_C.s uq 0 N (ut N) rc:=okL sReadHex_p5 (rg) (fun d kR=>rf (ia d.1.1 d.1.2.1 d.1.2.2.1 (fun aY a8 bc=>kR ((aY,a8,bc,()),())))) (fun _ _=>by kernel_rfl) (fun _ _ _=>by kernel_rfl) (fun _ _=>by kernel_rfl) (fun _ _ _ _=>by kernel_rfl) (af (l':=[]) (by kernel_rfl) trivial)
def ow (N: Nat) (s: aa): OR':=(bif (decide ((s.length: Int)=0)) then (some ((AV.tup [.int .i64 0,.bool false]),[])) else (bif (decide (7 < (s.length: Int))) then (some ((AV.tup [.int .i64 0,.bool false]),[])) else (dv N s 0 0 (fun ai=>(some ((AV.tup [.int .i64 0,.bool false]),[]))) (fun sC=>(some ((AV.tup [.int .i64 sC,.bool true]),[]))))))
def ox (φ: aa→Br): List AV→List Ob→Br
 | [.str s],[]=>φ s
 | _,_=> .fail
theorem wz {φ: aa→Br} (fu: aa→Nat) (hv: ∀ s res_,(φ s).val=some res_→ow (fu s) s=some res_): Sound Kx 323 (ox φ):=ah (C:=sReadHex_C) (O:=uq) Tryz.func323 (by kernel_rfl) fun args objs=>by
 unfold ox;split
 · rename_i s;exact .inr fun _ hyp_=>aL (Λ:=ut (fu s)) (by kernel_rfl) (af (l':=[rc]) (by kernel_rfl) ⟨Ad _,trivial⟩) (by kernel_rfl) (hv s _ hyp_)
 · exact .inl rfl
def GL: Opt:={ live:=[(4,[0,1,5,6,7])],outs:=[(4,[4,5])] }
def lD (bp: aa) (bm bW d7: Int) (kW: (List aa)) (kR4: aa→Int→Int→Int→(List aa)→OR') (d_: (List aa)→OR'): OR':=
 (bif (decide (d7≤(bp.length: Int))) then (bif (decide (d7=(bp.length: Int))) then (bif (decide (0≤bW)) then (bif (decide (bW≤d7)) then (bif (decide (d7≤(bp.length: Int))) then (bif (decide (((kW.length + (List.length (List.set (List.replicate 1 ([]: aa)) 0 (cut bp bW d7)))) * 16)≤140737488355328)) then (kR4 bp bm (ad (d7 + 1)) (ad (d7 + 1)) (kW++(List.set (List.replicate 1 ([]: aa)) 0 (cut bp bW d7)))) else none) else none) else none) else none) else (bif (decide (0≤d7)) then (bif (decide (d7 < (bp.length: Int))) then (bif (decide ((aj bp d7)=bm)) then (bif (decide (0≤bW)) then (bif (decide (bW≤d7)) then (bif (decide (d7≤(bp.length: Int))) then (bif (decide (((kW.length + (List.length (List.set (List.replicate 1 ([]: aa)) 0 (cut bp bW d7)))) * 16)≤140737488355328)) then (kR4 bp bm (ad (d7 + 1)) (ad (d7 + 1)) (kW++(List.set (List.replicate 1 ([]: aa)) 0 (cut bp bW d7)))) else none) else none) else none) else none) else (kR4 bp bm bW (ad (d7 + 1)) kW)) else none) else none)) else (d_ kW))
def fx: Nat→aa→Int→Int→Int→(List aa)→((List aa)→OR')→OR'
 | 0,_,_,_,_,_,_=>none
 | n + 1,bp,bm,bW,d7,kW,d_=>lD bp bm bW d7 kW (fun bp bm bW d7 kW=>fx n bp bm bW d7 kW d_) d_
abbrev ssplit_p4: SP:=⟨35,[0,1,5,6,7],[(.v .s),(.v (.i .u8)),(.v (.ref 384 0)),(.v (.i .i64)),(.v (.i .i64))],[(384, .arr Ty.str 0 false)]⟩
noncomputable def Ae: Code:=ar (aC Tryz.f301) [1,1,1,0,1,0,0]
def Af (f: ((List aa)→OR')→OR') (k: KT): OR':=f (fun eH=>k (Ex.exit 0) ((St.mk (aA 0 35 [(5,(AV.ref 384 0))]) ((384,(Ob.arr Ty.str 0 false eH))::([]: (List (Nat×(Ob))))))))
def Ag (n: Nat) (d: ssplit_p4.D): KT→OR':=Af (fx n d.1.1 d.1.2.1 d.1.2.2.2.1 d.1.2.2.2.2.1 d.2.1)
def GM (N: Nat): Lam:=bI [⟨4,ssplit_p4,Ag N⟩]
theorem JW (N: Nat): OkL Kx noS GL 0 N (GM N) Ae:=okL ssplit_p4 (Ag) (fun d kR=>Af (lD d.1.1 d.1.2.1 d.1.2.2.2.1 d.1.2.2.2.2.1 d.2.1 (fun bp bm bW d7 kW=>kR ((bp,bm,(),bW,d7,()),(kW,()))))) (fun _ _=>by kernel_rfl) (fun _ _ _=>by kernel_rfl) (fun _ _=>by kernel_rfl) (fun _ _ _ _=>by kernel_rfl) (af (l':=[]) (by kernel_rfl) trivial)
def uu (N: Nat) (s: aa) (b: Int): OR':=(fx N s b 0 0 ([]: (List aa)) (fun eH=>(some ((AV.ref 0 0),[.arr Ty.str 0 false eH]))))
def uv (φ: aa→Int→Br): List AV→List Ob→Br
 | [.str s, .int .u8 b],[]=>φ s b
 | _,_=> .fail
theorem Dq {φ: aa→Int→Br} (fu: aa→Int→Nat) (hv: ∀ s b res_,(φ s b).val=some res_→uu (fu s b) s b=some res_): Sound Kx 301 (uv φ):=ah (C:=[]) (O:=GL) Tryz.func301 (by kernel_rfl) fun args objs=>by
 unfold uv;split
 · rename_i s b;exact .inr fun _ hyp_=>aL (Λ:=GM (fu s b)) (by kernel_rfl) (af (l':=[Ae]) (by kernel_rfl) ⟨JW _,trivial⟩) (by kernel_rfl) (hv s b _ hyp_)
 · exact .inl rfl
def Z8 (s p: aa): Br:=(.ite (decide ((p.length: Int)≤(s.length: Int))) (.ite (decide (0≤(p.length: Int))) (.ite (decide ((p.length: Int)≤(s.length: Int))) (.ret (AV.bool (decide ((cut s 0 (p.length: Int))=p))) []) .fail) .fail) (.ret (AV.bool false) []))
def Z9: List AV→List Ob→Br
 | [.str s, .str p],[]=>Z8 s p
 | _,_=> .fail
theorem Z_: Sound Kx 196 Z9:=ac (C:=[]) (O:=O0) Tryz.func196 (by kernel_rfl) fun args objs=>by
 unfold Z9;split
 · exact .inr (by kernel_rfl)
 · exact .inl rfl
def acI: SC:=[⟨196,_,Z_⟩]
def aaa (s p: aa): Br:=(.ite (decide ((p.length: Int)≤(s.length: Int))) (.ite (decide (0≤(p.length: Int))) (.ite (decide ((p.length: Int)≤(s.length: Int))) (.ret (AV.bool (decide ((cut s 0 (p.length: Int))=p))) []) .fail) .fail) (.ret (AV.bool false) []))
def aab: List AV→List Ob→Br
 | [.str s, .str p],[]=>aaa s p
 | _,_=> .fail
theorem aac: Sound Kx 117 aab:=ac (C:=acI) (O:=O0) Tryz.func117 (by kernel_rfl) fun args objs=>by
 unfold aab;split
 · exact .inr (by kernel_rfl)
 · exact .inl rfl
end
end Go.Proofs.YtgknmoadpgpdeaaGreatDoor.Ev
