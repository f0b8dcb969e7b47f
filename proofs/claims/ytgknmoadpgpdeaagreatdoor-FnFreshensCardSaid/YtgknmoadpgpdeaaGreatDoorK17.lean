/- The texts Ext1, La, Lb, Lc, Ld, Le, Lf, Lg, Lh, Li, Lj, Lk, Ll, Lm, Ln, Na, Nb, Nc, Nd, Ua, Tk, one behind the other. -/
import Derived.Test.YtgknmoadpgpdeaaGreatDoorK13
import Derived.Lib.Bytealg
namespace Go.Proofs.YtgknmoadpgpdeaaGreatDoor.Ev
open Go Go.RowKit
set_option linter.unusedVariables false
set_option linter.unusedSimpArgs false
def vo (s: List UInt8) (c: Int): Int:=Go.Lib.indexByte s c.toNat.toUInt8
def abc (s: List UInt8) (c: Int): Br:= .ret (.int .i64 (vo s c)) []
def Za: List AV→List Ob→Br
 | [.str s, .int .u8 c],[]=>abc s c
 | _,_=> .fail
theorem abd: Sound Kx 291 Za:=by
 intro args objs res objs' hv w L vs hR ho hr
 unfold Za at hv
 split at hv
 · rename_i s c
   cases hv
   simp only [aX,rel] at hr
   obtain ⟨v1,cs1,rfl,rfl,v2,cs2,rfl,rfl,rfl⟩:=hr
   refine .inr ⟨.int .i64 (Go.Lib.indexByte s c.toNat.toUInt8),w,?_,L,hR,ho,?_,by simp [rel,vo]⟩
   · have:=run_callFunc_extern (P:=Kx.P) (f:=291) (e:=Extern.BytealgIndexByte.indexByte) Tryz.func291 (by kernel_rfl) (by kernel_rfl) (by kernel_rfl) (by kernel_rfl) #[.string ⟨s.toArray⟩, .int .u8 c] w
     refine this.trans ?_
     rw [Go.Lib.run_indexByteString]
     simp [Result.andThen,vo]
   · exact Kept.refl _ _
 · cases hv
end Go.Proofs.YtgknmoadpgpdeaaGreatDoor.Ev
namespace Go.Proofs.YtgknmoadpgpdeaaGreatDoor.Ev
open Go Go.RowKit
set_option linter.unusedVariables false
set_option linter.unusedSimpArgs false
noncomputable section
def LU (b: Int): Br:=(.ite (decide (97≤b)) (.ret (AV.bool (decide (b≤122))) []) (.ret (AV.bool false) []))
def BG: List AV→List Ob→Br
 | [.int .u8 b],[]=>LU b
 | _,_=> .fail
theorem LV: Sound Kx 293 BG:=ah (C:=[]) (O:=O0) Tryz.func293 (by kernel_rfl) fun args objs=>by
 unfold BG;split
 · exact .inr (by kernel_rfl)
 · exact .inl rfl
def LW (b: Int): Br:=(.ite (decide (65≤b)) (.ret (AV.bool (decide (b≤90))) []) (.ret (AV.bool false) []))
def BH: List AV→List Ob→Br
 | [.int .u8 b],[]=>LW b
 | _,_=> .fail
theorem LX: Sound Kx 197 BH:=ah (C:=[]) (O:=O0) Tryz.func197 (by kernel_rfl) fun args objs=>by
 unfold BH;split
 · exact .inr (by kernel_rfl)
 · exact .inl rfl
def LY (b: Int): Br:=(.ite (decide (48≤b)) (.ret (AV.bool (decide (b≤57))) []) (.ret (AV.bool false) []))
def BI: List AV→List Ob→Br
 | [.int .u8 b],[]=>LY b
 | _,_=> .fail
theorem LZ: Sound Kx 244 BI:=ah (C:=[]) (O:=O0) Tryz.func244 (by kernel_rfl) fun args objs=>by
 unfold BI;split
 · exact .inr (by kernel_rfl)
 · exact .inl rfl
def L4 (b: Int): Br:=(.ite (decide (b=32)) (.ret (AV.bool true) []) (.ret (AV.bool (decide (b=9))) []))
def BJ: List AV→List Ob→Br
 | [.int .u8 b],[]=>L4 b
 | _,_=> .fail
theorem L5: Sound Kx 236 BJ:=ah (C:=[]) (O:=O0) Tryz.func236 (by kernel_rfl) fun args objs=>by
 unfold BJ;split
 · exact .inr (by kernel_rfl)
 · exact .inl rfl
def ot (b: Int): Br:=(.ite (decide (b=9)) (.ret (AV.bool true) []) (.ite (decide (32≤b)) (.ret (AV.bool (!(decide (b=127)))) []) (.ret (AV.bool false) [])))
def BK: List AV→List Ob→Br
 | [.int .u8 b],[]=>ot b
 | _,_=> .fail
theorem L6: Sound Kx 221 BK:=ah (C:=[]) (O:=O0) Tryz.func221 (by kernel_rfl) fun args objs=>by
 unfold BK;split
 · exact .inr (by kernel_rfl)
 · exact .inl rfl
def BL (b: Int): Br:=(.ite (decide (33≤b)) (.ret (AV.bool (decide (b≤126))) []) (.ret (AV.bool false) []))
def sZ: List AV→List Ob→Br
 | [.int .u8 b],[]=>BL b
 | _,_=> .fail
theorem BM: Sound Kx 230 sZ:=ah (C:=[]) (O:=O0) Tryz.func230 (by kernel_rfl) fun args objs=>by
 unfold sZ;split
 · exact .inr (by kernel_rfl)
 · exact .inl rfl
def L7: SC:=[⟨201,_,dX⟩]
def Fh (n: Int): Br:=(.ite (decide (200≤n)) (.ret (AV.bool (decide (n≤599))) []) (.ret (AV.bool false) []))
def we: List AV→List Ob→Br
 | [.int .i64 n],[]=>Fh n
 | _,_=> .fail
theorem Fi: Sound Kx 174 we:=ah (C:=L7) (O:=O0) Tryz.func174 (by kernel_rfl) fun args objs=>by
 unfold we;split
 · exact .inr (by kernel_rfl)
 · exact .inl rfl
def s0 (n: Int): Br:=(.ite (decide (n=204)) (.ret (AV.bool true) []) (.ret (AV.bool (decide (n=304))) []))
def lJ: List AV→List Ob→Br
 | [.int .i64 n],[]=>s0 n
 | _,_=> .fail
theorem s7: Sound Kx 176 lJ:=ah (C:=[]) (O:=O0) Tryz.func176 (by kernel_rfl) fun args objs=>by
 unfold lJ;split
 · exact .inr (by kernel_rfl)
 · exact .inl rfl
def s8 (b: Int): Br:=(.ite (decide (65≤b)) (.ite (decide (b≤90)) (.ret (AV.int .u8 (wk8 (b + 32))) []) (.ret (AV.int .u8 b) [])) (.ret (AV.int .u8 b) []))
def Ii: List AV→List Ob→Br
 | [.int .u8 b],[]=>s8 b
 | _,_=> .fail
theorem slower_ok: Sound Kx 164 Ii:=ah (C:=[]) (O:=O0) Tryz.func164 (by kernel_rfl) fun args objs=>by
 unfold Ii;split
 · exact .inr (by kernel_rfl)
 · exact .inl rfl
def PB (b: Int): Br:=(.ite (decide (b=32)) (.ret (AV.bool true) []) (.ret (AV.bool (decide (b=9))) []))
def Ij: List AV→List Ob→Br
 | [.int .u8 b],[]=>PB b
 | _,_=> .fail
theorem PC: Sound Kx 261 Ij:=ah (C:=[]) (O:=O0) Tryz.func261 (by kernel_rfl) fun args objs=>by
 unfold Ij;split
 · exact .inr (by kernel_rfl)
 · exact .inl rfl
def PD (b: Int): Br:=(.ite (decide (48≤b)) (.ret (AV.bool (decide (b≤57))) []) (.ret (AV.bool false) []))
def Ik: List AV→List Ob→Br
 | [.int .u8 b],[]=>PD b
 | _,_=> .fail
theorem PE: Sound Kx 213 Ik:=ah (C:=[]) (O:=O0) Tryz.func213 (by kernel_rfl) fun args objs=>by
 unfold Ik;split
 · exact .inr (by kernel_rfl)
 · exact .inl rfl
def s9 (b: Int): Br:=(.ite (decide (b=9)) (.ret (AV.bool true) []) (.ite (decide (32≤b)) (.ret (AV.bool (!(decide (b=127)))) []) (.ret (AV.bool false) [])))
def Il: List AV→List Ob→Br
 | [.int .u8 b],[]=>s9 b
 | _,_=> .fail
theorem PF: Sound Kx 241 Il:=ah (C:=[]) (O:=O0) Tryz.func241 (by kernel_rfl) fun args objs=>by
 unfold Il;split
 · exact .inr (by kernel_rfl)
 · exact .inl rfl
def Wj (n: Int): Br:=(.ite (decide (n=204)) (.ret (AV.bool true) []) (.ret (AV.bool (decide (n=304))) []))
def PG: List AV→List Ob→Br
 | [.int .i64 n],[]=>Wj n
 | _,_=> .fail
theorem Wk: Sound Kx 190 PG:=ah (C:=[]) (O:=O0) Tryz.func190 (by kernel_rfl) fun args objs=>by
 unfold PG;split
 · exact .inr (by kernel_rfl)
 · exact .inl rfl
def jV (n: Int): Bool:=decide (97≤n)&&decide (n≤122)
def Fj (n: Int): Bool:=decide (65≤n)&&decide (n≤90)
def aJ (n: Int): Bool:=decide (48≤n)&&decide (n≤57)
def Zb (n: Int): Bool:=decide (n=32)||decide (n=9)
def s_ (n: Int): Bool:=decide (n=9)||(decide (32≤n)&& !decide (n=127))
def dD (n: Int): Bool:=decide (33≤n)&&decide (n≤126)
def iC (n: Int): Int:=bif Fj n then n + 32 else n
def tokSet: aa:=[33,35,36,37,38,39,42,43,45,46,94,95,124,126]
def nk (n: Int): Bool:=jV n||Fj n||aJ n||decide (n=96)||tokSet.any fun c=>decide (by8 c=n)
def Im (p: Int→Bool): List AV→List Ob→Br
 | [.int .u8 b],[]=> .ret (.bool (p b)) []
 | _,_=> .fail
theorem qZ {n: Nat} {s: List AV→List Ob→Br} (hs: Sound Kx n s) {p: Int→Bool} (h: ∀ b,(s [.int .u8 b] []).val=some (.bool (p b),[])): Sound Kx n (Im p):=hs.of fun args objs r hv=>by
 unfold Im at hv
 split at hv
 · rw [h];exact hv
 · cases hv
def abe (p: Int→Bool): List AV→List Ob→Br
 | [.int .i64 b],[]=> .ret (.bool (p b)) []
 | _,_=> .fail
theorem PH {n: Nat} {s: List AV→List Ob→Br} (hs: Sound Kx n s) {p: Int→Bool} (h: ∀ b,(s [.int .i64 b] []).val=some (.bool (p b),[])): Sound Kx n (abe p):=hs.of fun args objs r hv=>by
 unfold abe at hv
 split at hv
 · rw [h];exact hv
 · cases hv
theorem yy (c x: Bool): (Br.ite c (.ret (.bool x) []) (.ret (.bool false) [])).val=some (.bool (c&&x),[]):=by cases c <;> rfl
theorem af8 (c x: Bool): (Br.ite c (.ret (.bool true) []) (.ret (.bool x) [])).val=some (.bool (c||x),[]):=by cases c <;> rfl
theorem lZ: Sound Kx 293 (Im jV):=qZ LV fun b=>yy _ _
theorem l4: Sound Kx 197 (Im Fj):=qZ LX fun b=>yy _ _
theorem fh: Sound Kx 244 (Im aJ):=qZ LZ fun b=>yy _ _
theorem yz: Sound Kx 230 (Im dD):=qZ BM fun b=>yy _ _
theorem Fk: Sound Kx 236 (Im Zb):=qZ L5 fun b=>af8 _ _
theorem Fl: Sound Kx 221 (Im s_):=qZ L6 fun b=>by
 show (ot b).val=_
 unfold ot s_
 simp only [Br.val]
 cases decide (b=9) <;> cases decide (32≤b) <;> rfl
theorem L8: Sound Kx 261 (Im Zb):=qZ PC fun b=>af8 _ _
theorem iD: Sound Kx 213 (Im aJ):=qZ PE fun b=>yy _ _
theorem L9: Sound Kx 241 (Im s_):=qZ PF fun b=>by
 show (s9 b).val=_
 unfold s9 s_
 simp only [Br.val]
 cases decide (b=9) <;> cases decide (32≤b) <;> rfl
def adK: List AV→List Ob→Br
 | [.int .u8 b],[]=> .ite (decide (0≤b)&&decide (b < 256)) (.ret (.int .u8 (iC b)) []) .fail
 | _,_=> .fail
theorem kL: Sound Kx 164 adK:=slower_ok.of fun args objs r h=>by
 unfold adK at h
 split at h
 · rename_i b
   obtain ⟨h1,h2⟩:=al h
   simp only [Bool.and_eq_true,decide_eq_true_eq] at h1
   rw [← h2]
   show (s8 b).val=_
   unfold s8 iC Fj
   by_cases g1: 65≤b <;> by_cases g2: b≤90 <;> simp only [Br.val,g1,g2,decide_true,decide_false,Bool.and_true,Bool.and_false,Bool.false_and,cond_true,cond_false]
   rw [w8 (by omega) (by omega)]
 · cases h
def L_ (n: Int): Bool:=decide (200≤n)&&decide (n≤599)
def yA (n: Int): Bool:=decide (n=204)||decide (n=304)
theorem BN: Sound Kx 174 (abe L_):=PH Fi fun b=>yy _ _
theorem q6: Sound Kx 176 (abe yA):=PH s7 fun b=>af8 _ _
theorem BO: Sound Kx 190 (abe yA):=PH Wk fun b=>af8 _ _
def aU (p: Int→Bool) (s: aa): Bool:=s.all fun c=>p (by8 c)
def ay (s: aa): aa:=bQ ((bytesOf s).map iC)
def sp8 (c: UInt8): Bool:=Zb (by8 c)
def l6 (s: aa): aa:=s.dropWhile sp8
def ou (s: aa): aa:=(s.reverse.dropWhile sp8).reverse
def cw (s: aa): aa:=ou (l6 s)
def oa (s: aa): Bool:=decide (1≤s.length)&&decide (s.length≤4000)&&aU nk s
def isM (s: aa): Bool:=decide (s.length≤4611686018427387904)
def agD: SC:=[⟨291,_,abd⟩]
def adL (s: aa) (c: Int): Br:=(.ret (AV.int .i64 (vo s c)) [])
def adM: List AV→List Ob→Br
 | [.str s, .int .u8 c],[]=>adL s c
 | _,_=> .fail
theorem adN: Sound Kx 247 adM:=ah (C:=agD) (O:=O0) Tryz.func247 (by kernel_rfl) fun args objs=>by
 unfold adM;split
 · exact .inr (by kernel_rfl)
 · exact .inl rfl
def agE: SC:=[⟨247,_,adN⟩]
def adO (s: aa) (c: Int): Br:=(.ret (AV.int .i64 (vo s c)) [])
def adP: List AV→List Ob→Br
 | [.str s, .int .u8 c],[]=>adO s c
 | _,_=> .fail
theorem Zc: Sound Kx 207 adP:=ah (C:=agE) (O:=O0) Tryz.func207 (by kernel_rfl) fun args objs=>by
 unfold adP;split
 · exact .inr (by kernel_rfl)
 · exact .inl rfl
def Wl: SC:=[⟨293,_,lZ⟩,⟨197,_,l4⟩,⟨244,_,fh⟩,⟨207,_,Zc⟩]
def tb (b: Int): Br:=(.ite (jV b) (.ret (AV.bool true) []) (.ite (Fj b) (.ret (AV.bool true) []) (.ite (aJ b) (.ret (AV.bool true) []) (.ite (decide (b=96)) (.ret (AV.bool true) []) (.ret (AV.bool (decide (0≤(vo ([33,35,36,37,38,39,42,43,45,46,94,95,124,126]: aa) b)))) [])))))
def Io: List AV→List Ob→Br
 | [.int .u8 b],[]=>tb b
 | _,_=> .fail
theorem isTokB_ok: Sound Kx 259 Io:=ah (C:=Wl) (O:=O0) Tryz.func259 (by kernel_rfl) fun args objs=>by
 unfold Io;split
 · exact .inr (by kernel_rfl)
 · exact .inl rfl
def Zd: Opt:={ live:=[(2,[0,1,5])],outs:=[(2,[4])] }
def yB (aK: aa) (aM cr: Int) (kR2: aa→Int→Int→OR') (cu dn: OR'): OR':=
 (bif (decide (cr < (aK.length: Int))) then (bif (decide (0≤cr)) then (bif (decide (cr < (aK.length: Int))) then (bif (decide ((aC aK cr)=aM)) then cu else (kR2 aK aM (ai (cr + 1)))) else none) else none) else dn)
def ov: Nat→aa→Int→Int→(OR')→(OR')→OR'
 | 0,_,_,_,_,_=>none
 | n + 1,aK,aM,cr,cu,dn=>yB aK aM cr (fun aK aM cr=>ov n aK aM cr cu dn) cu dn
abbrev shas_p2: SP:=⟨17,[0,1,5],[(.v .s),(.v (.i .u8)),(.v (.i .i64))],[]⟩
noncomputable def PI: Code:=aD (aG Tryz.f282) [1,0,1,0,0]
def PJ (f: (OR')→(OR')→OR') (k: KT): OR':=f (k Ex.ret ((St.mk (aH 0 17 [(4,(AV.bool true))]) ([]: (List (Nat×(Ob))))))) (k (Ex.exit 0) ((St.mk (aH 0 17 []) ([]: (List (Nat×(Ob)))))))
def PK (n: Nat) (d: shas_p2.D): KT→OR':=PJ (ov n d.1.1 d.1.2.1 d.1.2.2.1)
def Ze (N: Nat): Lam:=bw [⟨2,shas_p2,PK N⟩]
theorem Wm (N: Nat): OkL Kx noS Zd 0 N (Ze N) PI:=okL shas_p2 (PK) (fun d kR=>PJ (yB d.1.1 d.1.2.1 d.1.2.2.1 (fun aK aM cr=>kR ((aK,aM,cr,()),())))) (fun _ _=>by kernel_rfl) (fun _ _ _=>by kernel_rfl) (fun _ _=>by kernel_rfl) (fun _ _ _ _=>by kernel_rfl) (am (l':=[]) (by kernel_rfl) trivial)
def Ip (N: Nat) (s: aa) (b: Int): OR':=(ov N s b 0 (some ((AV.bool true),[])) (some ((AV.bool false),[])))
def Iq (φ: aa→Int→Br): List AV→List Ob→Br
 | [.str s, .int .u8 b],[]=>φ s b
 | _,_=> .fail
theorem PL {φ: aa→Int→Br} (fu: aa→Int→Nat) (hv: ∀ s b res_,(φ s b).val=some res_→Ip (fu s b) s b=some res_): Sound Kx 282 (Iq φ):=ar (C:=[]) (O:=Zd) Tryz.func282 (by kernel_rfl) fun args objs=>by
 unfold Iq;split
 · rename_i s b;exact .inr fun _ hyp_=>aS (Λ:=Ze (fu s b)) (by kernel_rfl) (am (l':=[PI]) (by kernel_rfl) ⟨Wm _,trivial⟩) (by kernel_rfl) (hv s b _ hyp_)
 · exact .inl rfl
def PM: Opt:={ live:=[(3,[3,8,9,10])],outs:=[(3,[2,3])] }
def ifold_C: SC:=[⟨197,_,l4⟩]
def rv (aL aA: Int) (bu: (List Int)) (kR3: Int→Int→(List Int)→OR') (eK: (List Int)→OR'): OR':=
 (bif (decide (aA < aL)) then (bif (decide (0≤aA)) then (bif (decide (aA < (bu.length: Int))) then (bif (Fj (List.getD bu (Int.toNat aA) 0)) then (bif (decide (0≤aA)) then (bif (decide (aA < (bu.length: Int))) then (kR3 aL (ai (aA + 1)) (List.set bu (Int.toNat aA) (wk8 ((List.getD bu (Int.toNat aA) 0) + 32)))) else none) else none) else (kR3 aL (ai (aA + 1)) bu)) else none) else none) else (eK bu))
def jo: Nat→Int→Int→(List Int)→((List Int)→OR')→OR'
 | 0,_,_,_,_=>none
 | n + 1,aL,aA,bu,eK=>rv aL aA bu (fun aL aA bu=>jo n aL aA bu eK) eK
abbrev ifold_p3: SP:=⟨25,[3,8,9,10],[(.v (.ref 256 0)),(.v (.ref 256 0)),(.v (.i .i64)),(.v (.i .i64))],[(256, .arr (Ty.int .u8) 0 false)]⟩
noncomputable def Ir: Code:=aD (aG Tryz.f118) [1,1,0,1,0,0]
def Is (f: ((List Int)→OR')→OR') (k: KT): OR':=f (fun ab=>k (Ex.exit 0) ((St.mk (aH 0 25 [(3,(AV.ref 256 0))]) ((256,(Ob.arr (Ty.int .u8) 0 false ab))::([]: (List (Nat×(Ob))))))))
def It (n: Nat) (d: ifold_p3.D): KT→OR':=Is (jo n d.1.2.2.1 d.1.2.2.2.1 d.2.1)
def PN (N: Nat): Lam:=bw [⟨3,ifold_p3,It N⟩]
theorem PP (N: Nat): OkL Kx ifold_C.s PM 0 N (PN N) Ir:=okL ifold_p3 (It) (fun d kR=>Is (rv d.1.2.2.1 d.1.2.2.2.1 d.2.1 (fun aL aA bu=>kR (((),(),aL,aA,()),(bu,()))))) (fun _ _=>by kernel_rfl) (fun _ _ _=>by kernel_rfl) (fun _ _=>by kernel_rfl) (fun _ _ _ _=>by kernel_rfl) (am (l':=[]) (by kernel_rfl) trivial)
def BP (N: Nat) (s: aa): OR':=(jo N ((List.length (bytesOf s)): Int) 0 (bytesOf s) (fun ab=>(some ((AV.str (bQ ab)),[]))))
def BQ (φ: aa→Br): List AV→List Ob→Br
 | [.str s],[]=>φ s
 | _,_=> .fail
theorem Ma {φ: aa→Br} (fu: aa→Nat) (hv: ∀ s res_,(φ s).val=some res_→BP (fu s) s=some res_): Sound Kx 118 (BQ φ):=ar (C:=ifold_C) (O:=PM) Tryz.func118 (by kernel_rfl) fun args objs=>by
 unfold BQ;split
 · rename_i s;exact .inr fun _ hyp_=>aS (Λ:=PN (fu s)) (by kernel_rfl) (am (l':=[Ir]) (by kernel_rfl) ⟨PP _,trivial⟩) (by kernel_rfl) (hv s _ hyp_)
 · exact .inl rfl
def PQ: Opt:={ live:=[(3,[3,4])],outs:=[(3,[2,3])] }
def sfold_C: SC:=[⟨164,_,kL⟩]
def rx (aL: Int) (aA: (List Int)) (kR3: Int→(List Int)→OR') (eK: (List Int)→OR'): OR':=
 (bif (decide (aL < (aA.length: Int))) then (bif (decide (0≤aL)) then (bif (decide (aL < (aA.length: Int))) then (bif ((decide (0≤(List.getD aA (Int.toNat aL) 0)))&&(decide ((List.getD aA (Int.toNat aL) 0) < 256))) then (bif (decide (0≤aL)) then (bif (decide (aL < (aA.length: Int))) then (kR3 (ai (aL + 1)) (List.set aA (Int.toNat aL) (iC (List.getD aA (Int.toNat aL) 0)))) else none) else none) else none) else none) else none) else (eK aA))
def kM: Nat→Int→(List Int)→((List Int)→OR')→OR'
 | 0,_,_,_=>none
 | n + 1,aL,aA,eK=>rx aL aA (fun aL aA=>kM n aL aA eK) eK
abbrev sfold_p3: SP:=⟨23,[3,4],[(.v (.ref 256 0)),(.v (.i .i64))],[(256, .arr (Ty.int .u8) 0 false)]⟩
noncomputable def Iu: Code:=aD (aG Tryz.f91) [1,1,0,1,0,0]
def Iv (f: ((List Int)→OR')→OR') (k: KT): OR':=f (fun ab=>k (Ex.exit 0) ((St.mk (aH 0 23 [(3,(AV.ref 256 0))]) ((256,(Ob.arr (Ty.int .u8) 0 false ab))::([]: (List (Nat×(Ob))))))))
def Iw (n: Nat) (d: sfold_p3.D): KT→OR':=Iv (kM n d.1.2.1 d.2.1)
def PR (N: Nat): Lam:=bw [⟨3,sfold_p3,Iw N⟩]
theorem PS (N: Nat): OkL Kx sfold_C.s PQ 0 N (PR N) Iu:=okL sfold_p3 (Iw) (fun d kR=>Iv (rx d.1.2.1 d.2.1 (fun aL aA=>kR (((),aL,()),(aA,()))))) (fun _ _=>by kernel_rfl) (fun _ _ _=>by kernel_rfl) (fun _ _=>by kernel_rfl) (fun _ _ _ _=>by kernel_rfl) (am (l':=[]) (by kernel_rfl) trivial)
def BR (N: Nat) (s: aa): OR':=(kM N 0 (bytesOf s) (fun ab=>(some ((AV.str (bQ ab)),[]))))
def BS (φ: aa→Br): List AV→List Ob→Br
 | [.str s],[]=>φ s
 | _,_=> .fail
theorem Mb {φ: aa→Br} (fu: aa→Nat) (hv: ∀ s res_,(φ s).val=some res_→BR (fu s) s=some res_): Sound Kx 91 (BS φ):=ar (C:=sfold_C) (O:=PQ) Tryz.func91 (by kernel_rfl) fun args objs=>by
 unfold BS;split
 · rename_i s;exact .inr fun _ hyp_=>aS (Λ:=PR (fu s)) (by kernel_rfl) (am (l':=[Iu]) (by kernel_rfl) ⟨PS _,trivial⟩) (by kernel_rfl) (hv s _ hyp_)
 · exact .inl rfl
def Fm: Opt:={ live:=[(3,[0]),(1,[0])],outs:=[(3,[0,2]),(1,[0,2])] }
def itrim_C: SC:=[⟨236,_,Fk⟩]
def ry (Lp: aa) (kR1 af3: aa→OR'): OR':=
 (bif (!(decide (Lp=([]: aa)))) then (bif (decide (0 < (Lp.length: Int))) then (bif (Zb (aC Lp 0)) then (bif (decide (1≤(Lp.length: Int))) then (kR1 (cut Lp 1 (Lp.length: Int))) else none) else (af3 Lp)) else none) else (af3 Lp))
def kN: Nat→aa→(aa→OR')→OR'
 | 0,_,_=>none
 | n + 1,Lp,af3=>ry Lp (fun Lp=>kN n Lp af3) af3
abbrev itrim_p1: SP:=⟨28,[0],[(.v .s)],[]⟩
noncomputable def Ix: Code:=aD (aG Tryz.f180) [1,0,0,0]
def Iy (f: (aa→OR')→OR') (k: KT): OR':=f (fun UN=>k (Ex.exit 0) ((St.mk (aH 0 28 [(0,(AV.str UN))]) ([]: (List (Nat×(Ob)))))))
def Iz (n: Nat) (d: itrim_p1.D): KT→OR':=Iy (kN n d.1.1)
def rz (aL: aa) (kR3 eK: aa→OR'): OR':=
 (bif (!(decide (aL=([]: aa)))) then (bif (decide (0≤(ai ((aL.length: Int) - 1)))) then (bif (decide ((ai ((aL.length: Int) - 1)) < (aL.length: Int))) then (bif (Zb (aC aL (ai ((aL.length: Int) - 1)))) then (bif (decide (0≤(ai ((aL.length: Int) - 1)))) then (bif (decide ((ai ((aL.length: Int) - 1))≤(aL.length: Int))) then (kR3 (cut aL 0 (ai ((aL.length: Int) - 1)))) else none) else none) else (eK aL)) else none) else none) else (eK aL))
def kO: Nat→aa→(aa→OR')→OR'
 | 0,_,_=>none
 | n + 1,aL,eK=>rz aL (fun aL=>kO n aL eK) eK
abbrev itrim_p3: SP:=⟨28,[0],[(.v .s)],[]⟩
noncomputable def IA: Code:=aD (aG Tryz.f180) [1,1,0,0,0]
def IB (f: (aa→OR')→OR') (k: KT): OR':=f (fun ab=>k (Ex.exit 2) ((St.mk (aH 0 28 [(0,(AV.str ab))]) ([]: (List (Nat×(Ob)))))))
def IC (n: Nat) (d: itrim_p3.D): KT→OR':=IB (kO n d.1.1)
def Fo (N: Nat): Lam:=bw [⟨1,itrim_p1,Iz N⟩,⟨3,itrim_p3,IC N⟩]
theorem PT (N: Nat): OkL Kx itrim_C.s Fm 0 N (Fo N) Ix:=okL itrim_p1 (Iz) (fun d kR=>Iy (ry d.1.1 (fun Lp=>kR ((Lp,()),())))) (fun _ _=>by kernel_rfl) (fun _ _ _=>by kernel_rfl) (fun _ _=>by kernel_rfl) (fun _ _ _ _=>by kernel_rfl) (am (l':=[]) (by kernel_rfl) trivial)
theorem PU (N: Nat): OkL Kx itrim_C.s Fm 0 N (Fo N) IA:=okL itrim_p3 (IC) (fun d kR=>IB (rz d.1.1 (fun aL=>kR ((aL,()),())))) (fun _ _=>by kernel_rfl) (fun _ _ _=>by kernel_rfl) (fun _ _=>by kernel_rfl) (fun _ _ _ _=>by kernel_rfl) (am (l':=[]) (by kernel_rfl) trivial)
def BT (N: Nat) (s: aa): OR':=(kN N s (fun UN=>(kO N UN (fun ab=>(some ((AV.str ab),[]))))))
def BU (φ: aa→Br): List AV→List Ob→Br
 | [.str s],[]=>φ s
 | _,_=> .fail
theorem Mc {φ: aa→Br} (fu: aa→Nat) (hv: ∀ s res_,(φ s).val=some res_→BT (fu s) s=some res_): Sound Kx 180 (BU φ):=ar (C:=itrim_C) (O:=Fm) Tryz.func180 (by kernel_rfl) fun args objs=>by
 unfold BU;split
 · rename_i s;exact .inr fun _ hyp_=>aS (Λ:=Fo (fu s)) (by kernel_rfl) (am (l':=[Ix,IA]) (by kernel_rfl) ⟨PT _,PU _,trivial⟩) (by kernel_rfl) (hv s _ hyp_)
 · exact .inl rfl
def Fp: Opt:={ live:=[(5,[0,3,4]),(2,[0,3])],outs:=[(5,[0,2,3,4]),(2,[0,2,3])] }
def strim_C: SC:=[⟨261,_,L8⟩]
def rA (aK: aa) (aM: Int) (kR2 cu: aa→Int→OR'): OR':=
 (bif (decide (aM < (aK.length: Int))) then (bif (decide (0≤aM)) then (bif (decide (aM < (aK.length: Int))) then (bif (Zb (aC aK aM)) then (kR2 aK (ai (aM + 1))) else (cu aK aM)) else none) else none) else (cu aK aM))
def kP: Nat→aa→Int→(aa→Int→OR')→OR'
 | 0,_,_,_=>none
 | n + 1,aK,aM,cu=>rA aK aM (fun aK aM=>kP n aK aM cu) cu
abbrev strim_p2: SP:=⟨35,[0,3],[(.v .s),(.v (.i .i64))],[]⟩
noncomputable def ID: Code:=aD (aG Tryz.f224) [1,1,0,0,0]
def IE (f: (aa→Int→OR')→OR') (k: KT): OR':=f (fun bS fO=>k (Ex.exit 0) ((St.mk (aH 0 35 [(0,(AV.str bS)),(3,(AV.int .i64 fO))]) ([]: (List (Nat×(Ob)))))))
def IF (n: Nat) (d: strim_p2.D): KT→OR':=IE (kP n d.1.1 d.1.2.1)
def rB (aI: aa) (aR aF: Int) (kR5 cR: aa→Int→Int→OR'): OR':=
 (bif (decide (aR < aF)) then (bif (decide (0≤(ai (aF - 1)))) then (bif (decide ((ai (aF - 1)) < (aI.length: Int))) then (bif (Zb (aC aI (ai (aF - 1)))) then (kR5 aI aR (ai (aF - 1))) else (cR aI aR aF)) else none) else none) else (cR aI aR aF))
def jp: Nat→aa→Int→Int→(aa→Int→Int→OR')→OR'
 | 0,_,_,_,_=>none
 | n + 1,aI,aR,aF,cR=>rB aI aR aF (fun aI aR aF=>jp n aI aR aF cR) cR
abbrev strim_p5: SP:=⟨35,[0,3,4],[(.v .s),(.v (.i .i64)),(.v (.i .i64))],[]⟩
noncomputable def IG: Code:=aD (aG Tryz.f224) [1,1,1,1,0,0,0]
def IH (f: (aa→Int→Int→OR')→OR') (k: KT): OR':=f (fun ap a_ cg=>k (Ex.exit 2) ((St.mk (aH 0 35 [(0,(AV.str ap)),(3,(AV.int .i64 a_)),(4,(AV.int .i64 cg))]) ([]: (List (Nat×(Ob)))))))
def II (n: Nat) (d: strim_p5.D): KT→OR':=IH (jp n d.1.1 d.1.2.1 d.1.2.2.1)
def Fq (N: Nat): Lam:=bw [⟨2,strim_p2,IF N⟩,⟨5,strim_p5,II N⟩]
theorem PW (N: Nat): OkL Kx strim_C.s Fp 0 N (Fq N) ID:=okL strim_p2 (IF) (fun d kR=>IE (rA d.1.1 d.1.2.1 (fun aK aM=>kR ((aK,aM,()),())))) (fun _ _=>by kernel_rfl) (fun _ _ _=>by kernel_rfl) (fun _ _=>by kernel_rfl) (fun _ _ _ _=>by kernel_rfl) (am (l':=[]) (by kernel_rfl) trivial)
theorem PX (N: Nat): OkL Kx strim_C.s Fp 0 N (Fq N) IG:=okL strim_p5 (II) (fun d kR=>IH (rB d.1.1 d.1.2.1 d.1.2.2.1 (fun aI aR aF=>kR ((aI,aR,aF,()),())))) (fun _ _=>by kernel_rfl) (fun _ _ _=>by kernel_rfl) (fun _ _=>by kernel_rfl) (fun _ _ _ _=>by kernel_rfl) (am (l':=[]) (by kernel_rfl) trivial)
def BV (N: Nat) (s: aa): OR':=(kP N s 0 (fun bS fO=>(jp N bS fO (bS.length: Int) (fun ap a_ cg=>(bif (decide (0≤a_)) then (bif (decide (a_≤cg)) then (bif (decide (cg≤(ap.length: Int))) then (some ((AV.str (cut ap a_ cg)),[])) else none) else none) else none)))))
def BW (φ: aa→Br): List AV→List Ob→Br
 | [.str s],[]=>φ s
 | _,_=> .fail
theorem Md {φ: aa→Br} (fu: aa→Nat) (hv: ∀ s res_,(φ s).val=some res_→BV (fu s) s=some res_): Sound Kx 224 (BW φ):=ar (C:=strim_C) (O:=Fp) Tryz.func224 (by kernel_rfl) fun args objs=>by
 unfold BW;split
 · rename_i s;exact .inr fun _ hyp_=>aS (Λ:=Fq (fu s)) (by kernel_rfl) (am (l':=[ID,IG]) (by kernel_rfl) ⟨PW _,PX _,trivial⟩) (by kernel_rfl) (hv s _ hyp_)
 · exact .inl rfl
def IJ: Opt:={ live:=[(2,[0,1,5])],outs:=[(2,[4])] }
def allVis_C: SC:=[⟨230,_,yz⟩]
def nl (aK: aa) (aM: Int) (kR2: aa→Int→OR') (cu dn: OR'): OR':=
 (bif (decide (aM < (aK.length: Int))) then (bif (decide (0≤aM)) then (bif (decide (aM < (aK.length: Int))) then (bif (!(dD (aC aK aM))) then cu else (kR2 aK (ai (aM + 1)))) else none) else none) else dn)
def iE: Nat→aa→Int→(OR')→(OR')→OR'
 | 0,_,_,_,_=>none
 | n + 1,aK,aM,cu,dn=>nl aK aM (fun aK aM=>iE n aK aM cu dn) cu dn
abbrev allVis_p2: SP:=⟨18,[0,1,5],[(.v .s),(.v (.fn 230 [])),(.v (.i .i64))],[]⟩
noncomputable def BX: Code:=aD (aG Tryz.f74) [1,0,1,0,0]
def BY (f: (OR')→(OR')→OR') (k: KT): OR':=f (k Ex.ret ((St.mk (aH 0 18 [(4,(AV.bool false))]) ([]: (List (Nat×(Ob))))))) (k (Ex.exit 0) ((St.mk (aH 0 18 []) ([]: (List (Nat×(Ob)))))))
def BZ (n: Nat) (d: allVis_p2.D): KT→OR':=BY (iE n d.1.1 d.1.2.2.1)
def IK (N: Nat): Lam:=bw [⟨2,allVis_p2,BZ N⟩]
theorem Me (N: Nat): OkL Kx allVis_C.s IJ 0 N (IK N) BX:=okL allVis_p2 (BZ) (fun d kR=>BY (nl d.1.1 d.1.2.2.1 (fun aK aM=>kR ((aK,(),aM,()),())))) (fun _ _=>by kernel_rfl) (fun _ _ _=>by kernel_rfl) (fun _ _=>by kernel_rfl) (fun _ _ _ _=>by kernel_rfl) (am (l':=[]) (by kernel_rfl) trivial)
def wg (N: Nat) (s: aa): OR':=(iE N s 0 (some ((AV.bool false),[])) (some ((AV.bool true),[])))
def ow (φ: aa→Br): List AV→List Ob→Br
 | [.str s, .fn 230 []],[]=>φ s
 | _,_=> .fail
theorem Ft {φ: aa→Br} (fu: aa→Nat) (hv: ∀ s res_,(φ s).val=some res_→wg (fu s) s=some res_): Sound Kx 74 (ow φ):=ar (C:=allVis_C) (O:=IJ) Tryz.func74 (by kernel_rfl) fun args objs=>by
 unfold ow;split
 · rename_i s;exact .inr fun _ hyp_=>aS (Λ:=IK (fu s)) (by kernel_rfl) (am (l':=[BX]) (by kernel_rfl) ⟨Me _,trivial⟩) (by kernel_rfl) (hv s _ hyp_)
 · exact .inl rfl
def PY: Opt:={ live:=[(2,[0,1,5])],outs:=[(2,[4])] }
def allPl_C: SC:=[⟨221,_,Fl⟩]
def rC (aK: aa) (aM: Int) (kR2: aa→Int→OR') (cu dn: OR'): OR':=
 (bif (decide (aM < (aK.length: Int))) then (bif (decide (0≤aM)) then (bif (decide (aM < (aK.length: Int))) then (bif (!(s_ (aC aK aM))) then cu else (kR2 aK (ai (aM + 1)))) else none) else none) else dn)
def kQ: Nat→aa→Int→(OR')→(OR')→OR'
 | 0,_,_,_,_=>none
 | n + 1,aK,aM,cu,dn=>rC aK aM (fun aK aM=>kQ n aK aM cu dn) cu dn
abbrev allPl_p2: SP:=⟨18,[0,1,5],[(.v .s),(.v (.fn 221 [])),(.v (.i .i64))],[]⟩
noncomputable def IL: Code:=aD (aG Tryz.f74) [1,0,1,0,0]
def IM (f: (OR')→(OR')→OR') (k: KT): OR':=f (k Ex.ret ((St.mk (aH 0 18 [(4,(AV.bool false))]) ([]: (List (Nat×(Ob))))))) (k (Ex.exit 0) ((St.mk (aH 0 18 []) ([]: (List (Nat×(Ob)))))))
def IN (n: Nat) (d: allPl_p2.D): KT→OR':=IM (kQ n d.1.1 d.1.2.2.1)
def PZ (N: Nat): Lam:=bw [⟨2,allPl_p2,IN N⟩]
theorem P0 (N: Nat): OkL Kx allPl_C.s PY 0 N (PZ N) IL:=okL allPl_p2 (IN) (fun d kR=>IM (rC d.1.1 d.1.2.2.1 (fun aK aM=>kR ((aK,(),aM,()),())))) (fun _ _=>by kernel_rfl) (fun _ _ _=>by kernel_rfl) (fun _ _=>by kernel_rfl) (fun _ _ _ _=>by kernel_rfl) (am (l':=[]) (by kernel_rfl) trivial)
def B0 (N: Nat) (s: aa): OR':=(kQ N s 0 (some ((AV.bool false),[])) (some ((AV.bool true),[])))
def tc (φ: aa→Br): List AV→List Ob→Br
 | [.str s, .fn 221 []],[]=>φ s
 | _,_=> .fail
theorem Mf {φ: aa→Br} (fu: aa→Nat) (hv: ∀ s res_,(φ s).val=some res_→B0 (fu s) s=some res_): Sound Kx 74 (tc φ):=ar (C:=allPl_C) (O:=PY) Tryz.func74 (by kernel_rfl) fun args objs=>by
 unfold tc;split
 · rename_i s;exact .inr fun _ hyp_=>aS (Λ:=PZ (fu s)) (by kernel_rfl) (am (l':=[IL]) (by kernel_rfl) ⟨P0 _,trivial⟩) (by kernel_rfl) (hv s _ hyp_)
 · exact .inl rfl
def B1: Opt:={ live:=[(2,[0,3])],outs:=[(2,[2])] }
def splains_C: SC:=[⟨241,_,L9⟩]
def kS (aK: aa) (aM: Int) (kR2: aa→Int→OR') (cu dn: OR'): OR':=
 (bif (decide (aM < (aK.length: Int))) then (bif (decide (0≤aM)) then (bif (decide (aM < (aK.length: Int))) then (bif (!(s_ (aC aK aM))) then cu else (kR2 aK (ai (aM + 1)))) else none) else none) else dn)
def gi: Nat→aa→Int→(OR')→(OR')→OR'
 | 0,_,_,_,_=>none
 | n + 1,aK,aM,cu,dn=>kS aK aM (fun aK aM=>gi n aK aM cu dn) cu dn
abbrev splains_p2: SP:=⟨15,[0,3],[(.v .s),(.v (.i .i64))],[]⟩
noncomputable def wh: Code:=aD (aG Tryz.f189) [1,0,1,0,0]
def wi (f: (OR')→(OR')→OR') (k: KT): OR':=f (k Ex.ret ((St.mk (aH 0 15 [(2,(AV.bool false))]) ([]: (List (Nat×(Ob))))))) (k (Ex.exit 0) ((St.mk (aH 0 15 []) ([]: (List (Nat×(Ob)))))))
def wj (n: Nat) (d: splains_p2.D): KT→OR':=wi (gi n d.1.1 d.1.2.1)
def B2 (N: Nat): Lam:=bw [⟨2,splains_p2,wj N⟩]
theorem Fu (N: Nat): OkL Kx splains_C.s B1 0 N (B2 N) wh:=okL splains_p2 (wj) (fun d kR=>wi (kS d.1.1 d.1.2.1 (fun aK aM=>kR ((aK,aM,()),())))) (fun _ _=>by kernel_rfl) (fun _ _ _=>by kernel_rfl) (fun _ _=>by kernel_rfl) (fun _ _ _ _=>by kernel_rfl) (am (l':=[]) (by kernel_rfl) trivial)
def td (N: Nat) (s: aa): OR':=(gi N s 0 (some ((AV.bool false),[])) (some ((AV.bool true),[])))
def tf (φ: aa→Br): List AV→List Ob→Br
 | [.str s],[]=>φ s
 | _,_=> .fail
theorem B3 {φ: aa→Br} (fu: aa→Nat) (hv: ∀ s res_,(φ s).val=some res_→td (fu s) s=some res_): Sound Kx 189 (tf φ):=ar (C:=splains_C) (O:=B1) Tryz.func189 (by kernel_rfl) fun args objs=>by
 unfold tf;split
 · rename_i s;exact .inr fun _ hyp_=>aS (Λ:=B2 (fu s)) (by kernel_rfl) (am (l':=[wh]) (by kernel_rfl) ⟨Fu _,trivial⟩) (by kernel_rfl) (hv s _ hyp_)
 · exact .inl rfl
def Zf: Opt:={ live:=[(2,[0,3])],outs:=[(2,[0,2])] }
def yC (aK: aa) (aM: Int) (kR2: aa→Int→OR') (cu dn: aa→OR'): OR':=
 (bif (decide (aM < (aK.length: Int))) then (bif (decide (0≤aM)) then (bif (decide (aM < (aK.length: Int))) then (bif (decide ((aC aK aM) < 33)) then (cu aK) else (bif (decide (0≤aM)) then (bif (decide (aM < (aK.length: Int))) then (bif (decide (126 < (aC aK aM))) then (cu aK) else (kR2 aK (ai (aM + 1)))) else none) else none)) else none) else none) else (dn aK))
def ox: Nat→aa→Int→(aa→OR')→(aa→OR')→OR'
 | 0,_,_,_,_=>none
 | n + 1,aK,aM,cu,dn=>yC aK aM (fun aK aM=>ox n aK aM cu dn) cu dn
abbrev svis_p2: SP:=⟨23,[0,3],[(.v .s),(.v (.i .i64))],[]⟩
noncomputable def P2: Code:=aD (aG Tryz.f188) [1,0,1,0,0]
def P3 (f: (aa→OR')→(aa→OR')→OR') (k: KT): OR':=f (fun bS=>k Ex.ret ((St.mk (aH 0 23 [(0,(AV.str bS)),(2,(AV.bool false))]) ([]: (List (Nat×(Ob))))))) (fun gI=>k (Ex.exit 0) ((St.mk (aH 0 23 [(0,(AV.str gI))]) ([]: (List (Nat×(Ob)))))))
def P4 (n: Nat) (d: svis_p2.D): KT→OR':=P3 (ox n d.1.1 d.1.2.1)
def Zg (N: Nat): Lam:=bw [⟨2,svis_p2,P4 N⟩]
theorem Wn (N: Nat): OkL Kx noS Zf 0 N (Zg N) P2:=okL svis_p2 (P4) (fun d kR=>P3 (yC d.1.1 d.1.2.1 (fun aK aM=>kR ((aK,aM,()),())))) (fun _ _=>by kernel_rfl) (fun _ _ _=>by kernel_rfl) (fun _ _=>by kernel_rfl) (fun _ _ _ _=>by kernel_rfl) (am (l':=[]) (by kernel_rfl) trivial)
def IO (N: Nat) (s: aa): OR':=(ox N s 0 (fun bS=>(some ((AV.bool false),[]))) (fun gI=>(some ((AV.bool (decide (0 < (gI.length: Int)))),[]))))
def IP (φ: aa→Br): List AV→List Ob→Br
 | [.str s],[]=>φ s
 | _,_=> .fail
theorem P5 {φ: aa→Br} (fu: aa→Nat) (hv: ∀ s res_,(φ s).val=some res_→IO (fu s) s=some res_): Sound Kx 188 (IP φ):=ar (C:=[]) (O:=Zf) Tryz.func188 (by kernel_rfl) fun args objs=>by
 unfold IP;split
 · rename_i s;exact .inr fun _ hyp_=>aS (Λ:=Zg (fu s)) (by kernel_rfl) (am (l':=[P2]) (by kernel_rfl) ⟨Wn _,trivial⟩) (by kernel_rfl) (hv s _ hyp_)
 · exact .inl rfl
theorem fZ {s: aa} (h: isM s=true): s.length≤4611686018427387904:=of_decide_eq_true h
theorem P6 (l: aa) (b: Int) (hl: l.length≤4611686018427387904) (k0 k1: OR'): ∀ (r: aa) (i: Int) (n: Nat),At l i r→r.length < n→ov n l b i k0 k1=bif r.any (fun c=>decide (by8 c=b)) then k0 else k1:=by
 intro r;induction r with
 | nil=>intro i n h hn;obtain ⟨n,rfl⟩:=bF hn;unfold ov yB;simp only [h.dge,cond_false,List.any_nil]
 | cons a r ih=>
   intro i n h hn;obtain ⟨n,rfl⟩:=bF hn
   have hs:=ih (i + 1) n h.step (by simp at hn;omega)
   unfold ov yB;simp only [h.dlt,h.dnn,h.str,cond_true,h.next hl,hs,List.any_cons]
   cases decide (by8 a=b) <;> rfl
def adQ (p: aa→Int→Bool): List AV→List Ob→Br
 | [.str s, .int .u8 b],[]=> .ite (isM s) (.ret (.bool (p s b)) []) .fail
 | _,_=> .fail
def cW (s: aa) (b: Int): Bool:=s.any fun c=>decide (by8 c=b)
theorem IQ: Sound Kx 282 (adQ cW):=by
 refine (PL (φ:=fun s b=> .ite (isM s) (.ret (.bool (cW s b)) []) .fail) (fun s b=>s.length + 1) fun s b r h=>?_).of fun args objs r h=>?_
 · obtain ⟨h1,h2⟩:=al h
   unfold Ip
   rw [P6 s b (fZ h1) _ _ s 0 _ (At.start s) (by omega),← h2]
   unfold cW
   cases s.any fun c=>decide (by8 c=b) <;> rfl
 · unfold adQ at h;split at h
   · exact h
   · cases h
theorem Wo (s: aa) (b: Int) (h0: 0≤b) (h1: b < 256): (0≤vo s b)↔cW s b=true:=by
 unfold vo cW
 induction s with
 | nil=>simp [Go.Lib.indexByte]
 | cons a r ih=>
   have hc: (a=b.toNat.toUInt8)↔by8 a=b:=by
    unfold by8
    constructor
    · intro h;rw [h];simp;omega
    · intro h;rw [← h];simp
   show (0≤if (a==b.toNat.toUInt8)=true then 0 else if (Go.Lib.indexByte r b.toNat.toUInt8== -1)=true then -1 else Go.Lib.indexByte r b.toNat.toUInt8 + 1)↔_
   rw [List.any_cons]
   by_cases h: a=b.toNat.toUInt8
   · rw [if_pos (beq_iff_eq.2 h),dT' (hc.1 h)];simp
   · rw [if_neg (fun e=>h (beq_iff_eq.1 e)),dF' (fun e=>h (hc.2 e)),Bool.false_or,← ih]
     have:=Go.Lib.indexByte_ge r b.toNat.toUInt8
     split
     · rename_i g;have:=beq_iff_eq.1 g;omega
     · rename_i g;have: ¬ Go.Lib.indexByte r b.toNat.toUInt8= -1:=fun e=>g (beq_iff_eq.2 e);omega
theorem yD (s: aa) (b: Int) (h0: 0≤b) (h1: b < 256): decide (0≤vo s b)=cW s b:=by
 rw [Bool.eq_iff_iff,decide_eq_true_eq];exact Wo s b h0 h1
def Wp: List AV→List Ob→Br
 | [.int .u8 b],[]=> .ite (decide (0≤b)&&decide (b < 256)) (.ret (.bool (nk b)) []) .fail
 | _,_=> .fail
theorem Mh: Sound Kx 259 Wp:=isTokB_ok.of fun args objs r h=>by
 unfold Wp at h;split at h
 · rename_i b
   obtain ⟨h1,h2⟩:=al h
   simp only [Bool.and_eq_true,decide_eq_true_eq] at h1
   rw [← h2]
   show (tb b).val=_
   unfold tb nk
   rw [yD _ _ h1.1 h1.2]
   unfold cW tokSet
   cases jV b <;> cases Fj b <;> cases aJ b <;> cases decide (b=96) <;> simp only [Br.val,Bool.true_or,Bool.false_or]
 · cases h
theorem Zh {l r: List Int} {i a: Int} (h: At l i (a::r)) (b: Int): At (l.set i.toNat b) i (b::r):=by
 obtain ⟨p,rfl,rfl⟩:=h;exact ⟨p,by simp,rfl⟩
theorem Wq {l r: List Int} {i a: Int} (h: At l i (a::r)): l.set i.toNat a=l:=by
 obtain ⟨p,rfl,rfl⟩:=h;simp
theorem Mi (m: Int) (k: List Int→OR'): ∀ (r l: List Int) (i: Int) (n: Nat),At l i r→r.length < n→m=(l.length: Int)→l.length≤4611686018427387904→(∀ b ∈ r,0≤b∧b < 256)→
 jo n m i l k=k (l.take i.toNat++r.map iC):=by
 intro r;induction r with
 | nil=>
   intro l i n h hn hm hl hb;obtain ⟨n,rfl⟩:=bF hn
   subst hm
   unfold jo rv;simp only [h.dge,cond_false,List.map_nil]
   congr 1;exact h.take.symm
 | cons a r ih=>
   intro l i n h hn hm hl hb;obtain ⟨n,rfl⟩:=bF hn
   subst hm
   have ha:=hb a (List.mem_cons_self ..)
   unfold jo rv;simp only [h.dlt,h.dnn,h.get,cond_true,h.next hl,List.map_cons]
   have key: ∀ b,jo n (l.length: Int) (i + 1) (l.set i.toNat b) k=k (l.take i.toNat++b::r.map iC):=by
    intro b
    have h':=Zh h b
    rw [ih _ (i + 1) n h'.step (by simp at hn;omega) (by simp) (by simpa using hl) (fun c hc=>hb c (List.mem_cons_of_mem _ hc))]
    congr 1
    obtain ⟨p,rfl,rfl⟩:=h
    have e: ((p.length: Int) + 1).toNat=p.length + 1:=by omega
    simp only [Int.toNat_natCast,Pd,e]
    rw [List.take_append,List.take_append]
    simp [List.take_of_length_le]
   unfold iC
   cases hu: Fj a
   · simp only [cond_false]
     have:=key a
     rw [Wq h] at this
     rw [this];rfl
   · simp only [cond_true]
     unfold Fj at hu
     simp only [Bool.and_eq_true,decide_eq_true_eq] at hu
     rw [w8 (by omega) (by omega),key];rfl
theorem jq (s: aa): (bytesOf s).length=s.length:=by simp [bytesOf]
theorem wl (s: aa): ∀ b ∈ bytesOf s,0≤b∧b < 256:=by
 intro b hb
 simp only [bytesOf,List.mem_map] at hb
 obtain ⟨c,_,rfl⟩:=hb
 exact ⟨by omega,by have:=c.toNat_lt;omega⟩
theorem tg (s: aa): (ay s).length=s.length:=by simp [ay,bQ,bytesOf]
def oy (p: aa→AV): List AV→List Ob→Br
 | [.str s],[]=> .ite (isM s) (.ret (p s) []) .fail
 | _,_=> .fail
theorem agF {n: Nat} {s: List AV→List Ob→Br} (hs: Sound Kx n s) {p: aa→AV} (h: ∀ x,isM x=true→(s [.str x] []).val=some (p x,[])): Sound Kx n (oy p):=hs.of fun args objs r hv=>by
 unfold oy at hv
 split at hv
 · obtain ⟨h1,h2⟩:=al hv
   rw [h _ h1];exact h2
 · cases hv
theorem Mj {n: Nat} {p: aa→AV} {sOf: (aa→Br)→List AV→List Ob→Br} (hs: Sound Kx n (sOf fun s=> .ite (isM s) (.ret (p s) []) .fail)) (he: ∀ f x,sOf f [.str x] []=f x): Sound Kx n (oy p):=
 agF hs fun x hx=>by rw [he];simp only [Br.val,hx]
theorem iF: Sound Kx 118 (oy fun s=> .str (ay s)):=by
 refine Mj (Ma (fun s=>s.length + 1) fun s r h=>?_) fun _ _=>rfl
 obtain ⟨h1,h2⟩:=al h
 unfold BP
 rw [Mi _ _ _ _ 0 _ (At.start _) (by rw [jq];omega) rfl (by rw [jq];exact fZ h1) (wl s),← h2]
 rfl
theorem Mk (k: List Int→OR'): ∀ (r l: List Int) (i: Int) (n: Nat),At l i r→r.length < n→l.length≤4611686018427387904→(∀ b ∈ r,0≤b∧b < 256)→
 kM n i l k=k (l.take i.toNat++r.map iC):=by
 intro r;induction r with
 | nil=>
   intro l i n h hn hl hb;obtain ⟨n,rfl⟩:=bF hn
   unfold kM rx;simp only [h.dge,cond_false,List.map_nil]
   congr 1;exact h.take.symm
 | cons a r ih=>
   intro l i n h hn hl hb;obtain ⟨n,rfl⟩:=bF hn
   have ha:=hb a (List.mem_cons_self ..)
   have e0: (decide (0≤a)&&decide (a < 256))=true:=by simp only [Bool.and_eq_true,decide_eq_true_eq];exact ha
   unfold kM rx;simp only [h.dlt,h.dnn,h.get,cond_true,h.next hl,List.map_cons,e0]
   have h':=Zh h (iC a)
   rw [ih _ (i + 1) n h'.step (by simp at hn;omega) (by simpa using hl) (fun c hc=>hb c (List.mem_cons_of_mem _ hc))]
   congr 1
   obtain ⟨p,rfl,rfl⟩:=h
   have e: ((p.length: Int) + 1).toNat=p.length + 1:=by omega
   simp only [Int.toNat_natCast,Pd,e]
   rw [List.take_append,List.take_append]
   simp [List.take_of_length_le]
theorem iG: Sound Kx 91 (oy fun s=> .str (ay s)):=by
 refine Mj (Mb (fun s=>s.length + 1) fun s r h=>?_) fun _ _=>rfl
 obtain ⟨h1,h2⟩:=al h
 unfold BR
 rw [Mk _ _ _ 0 _ (At.start _) (by rw [jq];omega) (by rw [jq];exact fZ h1) (wl s),← h2]
 rfl
theorem ahY (a: UInt8) (r: aa): cut (a::r) 1 (((a::r).length: Nat): Int)=r:=by simp [cut]
theorem Fv (k: aa→OR'): ∀ (s: aa) (n: Nat),s.length < n→kN n s k=k (l6 s):=by
 intro s;induction s with
 | nil=>intro n hn;obtain ⟨n,rfl⟩:=bF hn;unfold kN ry;rfl
 | cons a r ih=>
   intro n hn;obtain ⟨n,rfl⟩:=bF hn
   have e1: decide (a::r=([]: aa))=false:=rfl
   have e2: decide ((0 : Int) < (((a::r).length: Nat): Int))=true:=dT' (by simp only [List.length_cons];omega)
   have e3: decide ((1 : Int)≤(((a::r).length: Nat): Int))=true:=dT' (by simp only [List.length_cons];omega)
   have e4: aC (a::r) 0=by8 a:=rfl
   unfold kN ry
   simp only [e1,e2,e3,e4,Bool.not_false,cond_true,ahY]
   rw [ih n (by simp at hn;omega)]
   unfold l6
   rw [List.dropWhile_cons]
   show (bif sp8 a then _ else _)=_
   cases sp8 a <;> rfl
theorem Fw (k: aa→OR'): ∀ (q: aa) (n: Nat),q.length < n→q.length≤4611686018427387904→kO n q.reverse k=k (ou q.reverse):=by
 intro q;induction q with
 | nil=>intro n hn _;obtain ⟨n,rfl⟩:=bF hn;unfold kO rz;rfl
 | cons a q ih=>
   intro n hn hl;obtain ⟨n,rfl⟩:=bF hn
   have e1: decide ((a::q).reverse=([]: aa))=false:=dF' (by simp)
   have e0: ai ((((a::q).reverse.length: Nat): Int) - 1)=(q.length: Int):=by rw [w64 (by simp only [List.length_reverse,List.length_cons];omega) (by simp only [List.length_reverse,List.length_cons] at hl ⊢;omega)];simp
   have e2: decide ((0 : Int)≤(q.length: Int))=true:=by simp
   have e3: decide ((q.length: Int) < (((a::q).reverse.length: Nat): Int))=true:=dT' (by simp only [List.length_reverse,List.length_cons];omega)
   have e5: decide ((q.length: Int)≤(((a::q).reverse.length: Nat): Int))=true:=dT' (by simp only [List.length_reverse,List.length_cons];omega)
   have e4: aC (a::q).reverse (q.length: Int)=by8 a:=by simp [aC,by8,List.getD_eq_getElem?_getD]
   have e6: cut (a::q).reverse 0 (q.length: Int)=q.reverse:=by simp [cut]
   unfold kO rz
   simp only [e0,e1,e2,e3,e4,e5,e6,Bool.not_false,cond_true]
   rw [ih n (by simp at hn;omega) (by simp at hl;omega)]
   unfold ou
   rw [List.reverse_reverse,List.reverse_reverse,List.dropWhile_cons]
   show (bif sp8 a then _ else _)=_
   cases sp8 a <;> simp
theorem B4 (s: aa): (l6 s).length≤s.length:=List.Sublist.length_le (List.dropWhile_sublist _)
theorem P7 (s: aa): (ou s).length≤s.length:=by
 unfold ou;rw [List.length_reverse];exact Nat.le_trans (List.Sublist.length_le (List.dropWhile_sublist _)) (by simp)
theorem th: Sound Kx 180 (oy fun s=> .str (cw s)):=by
 refine Mj (Mc (fun s=>s.length + 1) fun s r h=>?_) fun _ _=>rfl
 obtain ⟨h1,h2⟩:=al h
 unfold BT
 have hl:=B4 s
 have:=fZ h1
 rw [Fv _ s _ (by omega)]
 have:=Fw (fun ab=>some (AV.str ab,([]: List Ob))) (l6 s).reverse (s.length + 1) (by simp;omega) (by simp;omega)
 rw [List.reverse_reverse] at this
 rw [this,← h2]
 rfl
theorem Fx (l: aa) (hl: l.length≤4611686018427387904) (k: aa→Int→OR'): ∀ (r: aa) (i: Int) (n: Nat),At l i r→r.length < n→∃ j,At l j (l6 r)∧kP n l i k=k l j:=by
 intro r;induction r with
 | nil=>intro i n h hn;obtain ⟨n,rfl⟩:=bF hn;refine ⟨i,h,?_⟩;unfold kP rA;simp only [h.dge,cond_false]
 | cons a r ih=>
   intro i n h hn;obtain ⟨n,rfl⟩:=bF hn
   obtain ⟨j,hj,hs⟩:=ih (i + 1) n h.step (by simp at hn;omega)
   unfold l6
   rw [List.dropWhile_cons]
   unfold kP rA
   simp only [h.dlt,h.dnn,h.str,cond_true,h.next hl,hs]
   have e: Zb (by8 a)=sp8 a:=rfl
   rw [e]
   cases sp8 a
   · exact ⟨i,h,rfl⟩
   · exact ⟨j,hj,rfl⟩
theorem Fy (l p: aa) (hl: l.length≤4611686018427387904) (k: aa→Int→Int→OR'): ∀ (q t: aa) (n: Nat),l=p++q.reverse++t→q.length < n→jp n l (p.length: Int) ((p.length: Int) + q.length) k=k l (p.length: Int) ((p.length: Int) + (ou q.reverse).length):=by
 intro q;induction q with
 | nil=>
   intro t n h hn;obtain ⟨n,rfl⟩:=bF hn
   have e: decide ((p.length: Int) < (p.length: Int) + (([]: aa).length: Int))=false:=by simp
   unfold jp rB;simp only [e,cond_false];rfl
 | cons a q ih=>
   intro t n h hn;obtain ⟨n,rfl⟩:=bF hn
   have hlen: l.length=p.length + q.length + 1 + t.length:=by rw [h];simp;omega
   have e1: decide ((p.length: Int) < (p.length: Int) + (((a::q).length: Nat): Int))=true:=by simp;omega
   have e0: ai ((p.length: Int) + (((a::q).length: Nat): Int) - 1)=(p.length: Int) + q.length:=by rw [w64 (by simp;omega) (by simp;omega)];simp;omega
   have e2: decide ((0 : Int)≤(p.length: Int) + q.length)=true:=by simp;omega
   have e3: decide ((p.length: Int) + q.length < (l.length: Int))=true:=by rw [hlen];simp;omega
   have e4: aC l ((p.length: Int) + q.length)=by8 a:=by
    have e5: ((p.length: Int) + (q.length: Int)).toNat=(p++q.reverse).length:=by simp;omega
    unfold aC by8
    rw [e5,h]
    have: p++(a::q).reverse++t=(p++q.reverse)++a::t:=by simp
    rw [this,H4]
   unfold jp rB
   simp only [e0,e1,e2,e3,e4,cond_true]
   rw [ih (a::t) n (by rw [h];simp) (by simp at hn;omega)]
   unfold ou
   rw [List.reverse_reverse,List.reverse_reverse,List.dropWhile_cons]
   show (bif sp8 a then _ else _)=_
   cases sp8 a <;> simp
theorem tj (p m t: aa): cut (p++m++t) (p.length: Int) ((p.length: Int) + m.length)=m:=by
 unfold cut
 have e1: ((p.length: Int) + (m.length: Int)).toNat=p.length + m.length:=by omega
 rw [e1,Int.toNat_natCast,List.append_assoc,List.take_append,List.drop_append]
 simp
theorem P8 (s: aa): ∃ t,s=ou s++t:=by
 refine ⟨(s.reverse.takeWhile sp8).reverse,?_⟩
 unfold ou
 rw [← List.reverse_append,List.takeWhile_append_dropWhile,List.reverse_reverse]
theorem B5: Sound Kx 224 (oy fun s=> .str (cw s)):=by
 refine Mj (Md (fun s=>s.length + 1) fun s r h=>?_) fun _ _=>rfl
 obtain ⟨h1,h2⟩:=al h
 have hl:=fZ h1
 unfold BV
 obtain ⟨j,⟨p,hp,rfl⟩,hs⟩:=Fx s hl (fun bS fO=>jp (s.length + 1) bS fO ((List.length bS): Int) (fun ap a_ cg=>bif decide ((0 : Int)≤a_) then (bif decide (a_≤cg) then (bif decide (cg≤((List.length ap): Int)) then some (AV.str (cut ap a_ cg),([]: List Ob)) else none) else none) else none)) s 0 (s.length + 1) (At.start s) (by omega)
 rw [hs]
 have hlen: (s.length: Int)=(p.length: Int) + ((l6 s).reverse.length: Int):=by
  have:=congrArg List.length hp
  simp only [List.length_append] at this
  rw [List.length_reverse];omega
 have hle:=B4 s
 rw [hlen,Fy s p hl _ (l6 s).reverse [] _ (by simpa using hp) (by simp;omega),List.reverse_reverse]
 obtain ⟨t,ht⟩:=P8 (l6 s)
 have hc:=tj p (ou (l6 s)) t
 rw [List.append_assoc,← ht,← hp] at hc
 have hr:=P7 (l6 s)
 have e1: decide ((0 : Int)≤(p.length: Int))=true:=by simp
 have e2: decide ((p.length: Int)≤(p.length: Int) + ((ou (l6 s)).length: Int))=true:=dT' (by omega)
 have e3: decide ((p.length: Int) + ((ou (l6 s)).length: Int)≤(s.length: Int))=true:=by rw [hlen];simp;omega
 simp only [e1,e2,e3,cond_true,hc]
 rw [← h2];rfl
theorem Fz (l: aa) (hl: l.length≤4611686018427387904) (k0 k1: OR'): ∀ (r: aa) (i: Int) (n: Nat),At l i r→r.length < n→iE n l i k0 k1=bif aU dD r then k1 else k0:=by
 intro r;induction r with
 | nil=>intro i n h hn;obtain ⟨n,rfl⟩:=bF hn;unfold iE nl;simp only [h.dge,cond_false,aU,List.all_nil,cond_true]
 | cons a r ih=>
   intro i n h hn;obtain ⟨n,rfl⟩:=bF hn
   have hs:=ih (i + 1) n h.step (by simp at hn;omega)
   unfold iE nl;simp only [h.dlt,h.dnn,h.str,cond_true,h.next hl,hs,aU,List.all_cons]
   cases dD (by8 a) <;> rfl
def Wr:=ow fun s=> .ite (isM s) (.ret (.bool (aU dD s)) []) .fail
theorem kT: Sound Kx 74 Wr:=by
 refine Ft (fun s=>s.length + 1) fun s r h=>?_
 obtain ⟨h1,h2⟩:=al h
 unfold wg
 rw [Fz s (fZ h1) _ _ s 0 _ (At.start s) (by omega),← h2]
 cases aU dD s <;> rfl
theorem Ml (l: aa) (hl: l.length≤4611686018427387904) (k0 k1: OR'): ∀ (r: aa) (i: Int) (n: Nat),At l i r→r.length < n→kQ n l i k0 k1=bif aU s_ r then k1 else k0:=by
 intro r;induction r with
 | nil=>intro i n h hn;obtain ⟨n,rfl⟩:=bF hn;unfold kQ rC;simp only [h.dge,cond_false,aU,List.all_nil,cond_true]
 | cons a r ih=>
   intro i n h hn;obtain ⟨n,rfl⟩:=bF hn
   have hs:=ih (i + 1) n h.step (by simp at hn;omega)
   unfold kQ rC;simp only [h.dlt,h.dnn,h.str,cond_true,h.next hl,hs,aU,List.all_cons]
   cases s_ (by8 a) <;> rfl
def abf:=tc fun s=> .ite (isM s) (.ret (.bool (aU s_ s)) []) .fail
theorem B6: Sound Kx 74 abf:=by
 refine Mf (fun s=>s.length + 1) fun s r h=>?_
 obtain ⟨h1,h2⟩:=al h
 unfold B0
 rw [Ml s (fZ h1) _ _ s 0 _ (At.start s) (by omega),← h2]
 cases aU s_ s <;> rfl
theorem B7 (l: aa) (hl: l.length≤4611686018427387904) (k0 k1: OR'): ∀ (r: aa) (i: Int) (n: Nat),At l i r→r.length < n→gi n l i k0 k1=bif aU s_ r then k1 else k0:=by
 intro r;induction r with
 | nil=>intro i n h hn;obtain ⟨n,rfl⟩:=bF hn;unfold gi kS;simp only [h.dge,cond_false,aU,List.all_nil,cond_true]
 | cons a r ih=>
   intro i n h hn;obtain ⟨n,rfl⟩:=bF hn
   have hs:=ih (i + 1) n h.step (by simp at hn;omega)
   unfold gi kS;simp only [h.dlt,h.dnn,h.str,cond_true,h.next hl,hs,aU,List.all_cons]
   cases s_ (by8 a) <;> rfl
theorem tl: Sound Kx 189 (oy fun s=> .bool (aU s_ s)):=by
 refine Mj (B3 (fun s=>s.length + 1) fun s r h=>?_) fun _ _=>rfl
 obtain ⟨h1,h2⟩:=al h
 unfold td
 rw [B7 s (fZ h1) _ _ s 0 _ (At.start s) (by omega),← h2]
 cases aU s_ s <;> rfl
theorem P9 (l: aa) (hl: l.length≤4611686018427387904) (k0 k1: aa→OR'): ∀ (r: aa) (i: Int) (n: Nat),At l i r→r.length < n→ox n l i k0 k1=bif aU dD r then k1 l else k0 l:=by
 intro r;induction r with
 | nil=>intro i n h hn;obtain ⟨n,rfl⟩:=bF hn;unfold ox yC;simp only [h.dge,cond_false,aU,List.all_nil,cond_true]
 | cons a r ih=>
   intro i n h hn;obtain ⟨n,rfl⟩:=bF hn
   have hs:=ih (i + 1) n h.step (by simp at hn;omega)
   unfold ox yC;simp only [h.dlt,h.dnn,h.str,cond_true,h.next hl,hs,aU,List.all_cons,dD]
   by_cases g1: by8 a < 33 <;> by_cases g2: 126 < by8 a
   · have e1: ¬ 33≤by8 a:=by omega
     simp only [g1,e1,decide_true,decide_false,cond_true,Bool.false_and,cond_false]
   · have e1: ¬ 33≤by8 a:=by omega
     simp only [g1,e1,decide_true,decide_false,cond_true,Bool.false_and,cond_false]
   · have e1: 33≤by8 a:=by omega
     have e2: ¬ by8 a≤126:=by omega
     simp only [g1,g2,e1,e2,decide_true,decide_false,cond_true,Bool.false_and,Bool.and_false,cond_false]
   · have e1: 33≤by8 a:=by omega
     have e2: by8 a≤126:=by omega
     simp only [g1,g2,e1,e2,decide_true,decide_false,cond_true,Bool.true_and,cond_false]
theorem rD: Sound Kx 188 (oy fun s=> .bool (aU dD s&&decide ((0 : Int) < (s.length: Int)))):=by
 refine Mj (P5 (fun s=>s.length + 1) fun s r h=>?_) fun _ _=>rfl
 obtain ⟨h1,h2⟩:=al h
 unfold IO
 rw [P9 s (fZ h1) _ _ s 0 _ (At.start s) (by omega),← h2]
 cases aU dD s <;> rfl
def Ws: SC:=[⟨164,_,kL⟩,⟨213,_,iD⟩,⟨282,_,IQ⟩]
def tm (b: Int): Br:=(.ite ((decide (0≤b))&&(decide (b < 256))) (.ite (decide (97≤(iC b))) (.ite (decide ((iC b)≤122)) (.ret (AV.bool true) []) (.ite (aJ b) (.ret (AV.bool true) []) (.ite (decide (b=96)) (.ret (AV.bool true) []) (.ret (AV.bool (cW ([33,35,36,37,38,39,42,43,45,46,94,95,124,126]: aa) b)) [])))) (.ite (aJ b) (.ret (AV.bool true) []) (.ite (decide (b=96)) (.ret (AV.bool true) []) (.ret (AV.bool (cW ([33,35,36,37,38,39,42,43,45,46,94,95,124,126]: aa) b)) [])))) .fail)
def IR: List AV→List Ob→Br
 | [.int .u8 b],[]=>tm b
 | _,_=> .fail
theorem stchar_ok: Sound Kx 240 IR:=ah (C:=Ws) (O:=O0) Tryz.func240 (by kernel_rfl) fun args objs=>by
 unfold IR;split
 · exact .inr (by kernel_rfl)
 · exact .inl rfl
def IS: Opt:={ live:=[(2,[0,1,5])],outs:=[(2,[4])] }
def allTok_C: SC:=[⟨259,_,Mh⟩]
def np (aK: aa) (aM: Int) (kR2: aa→Int→OR') (cu dn: OR'): OR':=
 (bif (decide (aM < (aK.length: Int))) then (bif (decide (0≤aM)) then (bif (decide (aM < (aK.length: Int))) then (bif ((decide (0≤(aC aK aM)))&&(decide ((aC aK aM) < 256))) then (bif (!(nk (aC aK aM))) then cu else (kR2 aK (ai (aM + 1)))) else none) else none) else none) else dn)
def iH: Nat→aa→Int→(OR')→(OR')→OR'
 | 0,_,_,_,_=>none
 | n + 1,aK,aM,cu,dn=>np aK aM (fun aK aM=>iH n aK aM cu dn) cu dn
abbrev allTok_p2: SP:=⟨18,[0,1,5],[(.v .s),(.v (.fn 259 [])),(.v (.i .i64))],[]⟩
noncomputable def B8: Code:=aD (aG Tryz.f74) [1,0,1,0,0]
def B9 (f: (OR')→(OR')→OR') (k: KT): OR':=f (k Ex.ret ((St.mk (aH 0 18 [(4,(AV.bool false))]) ([]: (List (Nat×(Ob))))))) (k (Ex.exit 0) ((St.mk (aH 0 18 []) ([]: (List (Nat×(Ob)))))))
def B_ (n: Nat) (d: allTok_p2.D): KT→OR':=B9 (iH n d.1.1 d.1.2.2.1)
def IT (N: Nat): Lam:=bw [⟨2,allTok_p2,B_ N⟩]
theorem Mm (N: Nat): OkL Kx allTok_C.s IS 0 N (IT N) B8:=okL allTok_p2 (B_) (fun d kR=>B9 (np d.1.1 d.1.2.2.1 (fun aK aM=>kR ((aK,(),aM,()),())))) (fun _ _=>by kernel_rfl) (fun _ _ _=>by kernel_rfl) (fun _ _=>by kernel_rfl) (fun _ _ _ _=>by kernel_rfl) (am (l':=[]) (by kernel_rfl) trivial)
def wm (N: Nat) (s: aa): OR':=(iH N s 0 (some ((AV.bool false),[])) (some ((AV.bool true),[])))
def oz (φ: aa→Br): List AV→List Ob→Br
 | [.str s, .fn 259 []],[]=>φ s
 | _,_=> .fail
theorem FA {φ: aa→Br} (fu: aa→Nat) (hv: ∀ s res_,(φ s).val=some res_→wm (fu s) s=some res_): Sound Kx 74 (oz φ):=ar (C:=allTok_C) (O:=IS) Tryz.func74 (by kernel_rfl) fun args objs=>by
 unfold oz;split
 · rename_i s;exact .inr fun _ hyp_=>aS (Λ:=IT (fu s)) (by kernel_rfl) (am (l':=[B8]) (by kernel_rfl) ⟨Mm _,trivial⟩) (by kernel_rfl) (hv s _ hyp_)
 · exact .inl rfl
def abg: SC:=[⟨118,_,iF⟩]
def yE (s t: aa): Br:=(.ite (isM s) (.ite (isM t) (.ret (AV.bool (decide ((ay s)=(ay t)))) []) .fail) .fail)
def P_: List AV→List Ob→Br
 | [.str s, .str t],[]=>yE s t
 | _,_=> .fail
theorem isame_ok: Sound Kx 124 P_:=ah (C:=abg) (O:=O0) Tryz.func124 (by kernel_rfl) fun args objs=>by
 unfold P_;split
 · exact .inr (by kernel_rfl)
 · exact .inl rfl
def abh: SC:=[⟨91,_,iG⟩]
def yF (s t: aa): Br:=(.ite (isM s) (.ite (isM t) (.ret (AV.bool (decide ((ay s)=(ay t)))) []) .fail) .fail)
def Qa: List AV→List Ob→Br
 | [.str s, .str t],[]=>yF s t
 | _,_=> .fail
theorem ssame_ok: Sound Kx 128 Qa:=ah (C:=abh) (O:=O0) Tryz.func128 (by kernel_rfl) fun args objs=>by
 unfold Qa;split
 · exact .inr (by kernel_rfl)
 · exact .inl rfl
def Mn: SC:=[⟨74,_,B6⟩]
def l7 (s: aa): Br:=(.ite (decide ((s.length: Int)≤40)) (.ite (isM s) (.ret (AV.bool (aU s_ s)) []) .fail) (.ret (AV.bool false) []))
def wn: List AV→List Ob→Br
 | [.str s],[]=>l7 s
 | _,_=> .fail
theorem FB: Sound Kx 175 wn:=ah (C:=Mn) (O:=O0) Tryz.func175 (by kernel_rfl) fun args objs=>by
 unfold wn;split
 · exact .inr (by kernel_rfl)
 · exact .inl rfl
def Mo: SC:=[⟨201,_,dX⟩,⟨74,_,kT⟩]
def l9 (s: aa): Br:=(.ite (decide (1≤(s.length: Int))) (.ite (decide ((s.length: Int)≤200)) (.ite (isM s) (.ret (AV.bool (aU dD s)) []) .fail) (.ret (AV.bool false) [])) (.ret (AV.bool false) []))
def wo: List AV→List Ob→Br
 | [.str s],[]=>l9 s
 | _,_=> .fail
theorem FC: Sound Kx 173 wo:=ah (C:=Mo) (O:=O0) Tryz.func173 (by kernel_rfl) fun args objs=>by
 unfold wo;split
 · exact .inr (by kernel_rfl)
 · exact .inl rfl
theorem Mp: Sound Kx 240 Wp:=stchar_ok.of fun args objs r h=>by
 unfold Wp at h;split at h
 · rename_i b
   obtain ⟨h1,h2⟩:=al h
   have h3:=h1
   simp only [Bool.and_eq_true,decide_eq_true_eq] at h3
   rw [← h2]
   show (tm b).val=_
   unfold tm nk jV
   have hm: isM ((33 : UInt8)::35::36::37::38::39::42::43::45::46::94::95::124::126::[])=true:=by decide
   have hh: cW ((33 : UInt8)::35::36::37::38::39::42::43::45::46::94::95::124::126::[]) b=tokSet.any fun c=>decide (by8 c=b):=rfl
   simp only [Br.val,h1,hm,hh]
   unfold iC Fj
   by_cases g1: 65≤b <;> by_cases g2: b≤90 <;> by_cases g3: 97≤b <;> by_cases g4: b≤122 <;> first | (exfalso;omega) | skip
   all_goals simp only [g1,g2,g3,g4,decide_true,decide_false,Bool.and_true,Bool.and_false,Bool.false_and,Bool.true_and,cond_true,cond_false,Bool.true_or,Bool.false_or]
   all_goals first
    | rfl
    | (have e1: (97 : Int)≤b + 32:=by omega
       have e2: b + 32≤122:=by omega
       simp only [e1,e2,decide_true])
    | (cases aJ b <;> cases decide (b=96) <;> rfl)
 · cases h
theorem FD (l: aa) (hl: l.length≤4611686018427387904) (k0 k1: OR'): ∀ (r: aa) (i: Int) (n: Nat),At l i r→r.length < n→iH n l i k0 k1=bif aU nk r then k1 else k0:=by
 intro r;induction r with
 | nil=>intro i n h hn;obtain ⟨n,rfl⟩:=bF hn;unfold iH np;simp only [h.dge,cond_false,aU,List.all_nil,cond_true]
 | cons a r ih=>
   intro i n h hn;obtain ⟨n,rfl⟩:=bF hn
   have hs:=ih (i + 1) n h.step (by simp at hn;omega)
   have e0: (decide (0≤by8 a)&&decide (by8 a < 256))=true:=by simp only [Bool.and_eq_true,decide_eq_true_eq];exact ⟨H1 a,H3 a⟩
   unfold iH np;simp only [h.dlt,h.dnn,h.str,cond_true,h.next hl,hs,aU,List.all_cons,e0]
   cases nk (by8 a) <;> rfl
def Wt:=oz fun s=> .ite (isM s) (.ret (.bool (aU nk s)) []) .fail
theorem Mq: Sound Kx 74 Wt:=by
 refine FA (fun s=>s.length + 1) fun s r h=>?_
 obtain ⟨h1,h2⟩:=al h
 unfold wm
 rw [FD s (fZ h1) _ _ s 0 _ (At.start s) (by omega),← h2]
 cases aU nk s <;> rfl
def ga (s t: aa): Bool:=decide (ay s=ay t)
def IU: List AV→List Ob→Br
 | [.str s, .str t],[]=> .ite (isM s&&isM t) (.ret (.bool (ga s t)) []) .fail
 | _,_=> .fail
theorem Ca: Sound Kx 124 IU:=isame_ok.of fun args objs r h=>by
 unfold IU at h;split at h
 · rename_i s t
   obtain ⟨h1,h2⟩:=al h
   rw [Bool.and_eq_true] at h1
   rw [← h2]
   show (yE s t).val=_
   unfold yE ga
   simp only [Br.val,h1.1,h1.2]
 · cases h
theorem Cb: Sound Kx 128 IU:=ssame_ok.of fun args objs r h=>by
 unfold IU at h;split at h
 · rename_i s t
   obtain ⟨h1,h2⟩:=al h
   rw [Bool.and_eq_true] at h1
   rw [← h2]
   show (yF s t).val=_
   unfold yF ga
   simp only [Br.val,h1.1,h1.2]
 · cases h
def abi (p: aa→AV): List AV→List Ob→Br
 | [.str s],[]=> .ret (p s) []
 | _,_=> .fail
theorem Qb {n: Nat} {s: List AV→List Ob→Br} (hs: Sound Kx n s) {p: aa→AV} (h: ∀ x,(s [.str x] []).val=some (p x,[])): Sound Kx n (abi p):=hs.of fun args objs r hv=>by
 unfold abi at hv
 split at hv
 · rw [h];exact hv
 · cases hv
theorem bW {s: aa} {n: Nat} (h: s.length≤n) (hn: n≤4611686018427387904:=by decide): isM s=true:=dT' (Nat.le_trans h hn)
def l_ (s: aa): Bool:=decide (s.length≤40)&&aU s_ s
def ma (s: aa): Bool:=decide (1≤s.length)&&decide (s.length≤200)&&aU dD s
theorem FE (s: aa) (n: Nat): decide ((s.length: Int)≤(n: Int))=decide (s.length≤n):=by congr 1;apply propext;omega
theorem Cc: Sound Kx 175 (abi fun s=> .bool (l_ s)):=Qb FB fun s=>by
 show (l7 s).val=_
 unfold l7 l_
 by_cases h: s.length≤40
 · have h': (s.length: Int)≤40:=by omega
   simp only [Br.val,h,h',decide_true,bW h,Bool.true_and]
 · have h': ¬ (s.length: Int)≤40:=by omega
   simp only [Br.val,h,h',decide_false,Bool.false_and]
theorem Cd: Sound Kx 173 (abi fun s=> .bool (ma s)):=Qb FC fun s=>by
 show (l9 s).val=_
 unfold l9 ma
 by_cases h: 1≤s.length
 · have h': (1 : Int)≤(s.length: Int):=by omega
   by_cases g: s.length≤200
   · have g': (s.length: Int)≤200:=by omega
     simp only [Br.val,h,h',g,g',decide_true,bW g,Bool.true_and]
   · have g': ¬ (s.length: Int)≤200:=by omega
     simp only [Br.val,h,h',g,g',decide_true,decide_false,Bool.true_and,Bool.false_and]
 · have h': ¬ (1 : Int)≤(s.length: Int):=by omega
   simp only [Br.val,h,h',decide_false,Bool.false_and]
def Wu: SC:=[⟨201,_,dX⟩,⟨74,_,Mq⟩]
def tn (s: aa): Br:=(.ite (decide (1≤(s.length: Int))) (.ite (decide ((s.length: Int)≤4000)) (.ite (isM s) (.ret (AV.bool (aU nk s)) []) .fail) (.ret (AV.bool false) [])) (.ret (AV.bool false) []))
def IV: List AV→List Ob→Br
 | [.str s],[]=>tn s
 | _,_=> .fail
theorem Qc: Sound Kx 220 IV:=ah (C:=Wu) (O:=O0) Tryz.func220 (by kernel_rfl) fun args objs=>by
 unfold IV;split
 · exact .inr (by kernel_rfl)
 · exact .inl rfl
def IW: Opt:={ live:=[(4,[0,3])],outs:=[(4,[2])] }
def sToken_C: SC:=[⟨240,_,Mp⟩]
def nq (bI: aa) (bK: Int) (kR4: aa→Int→OR') (fU jI: OR'): OR':=
 (bif (decide (bK < (bI.length: Int))) then (bif (decide (0≤bK)) then (bif (decide (bK < (bI.length: Int))) then (bif ((decide (0≤(aC bI bK)))&&(decide ((aC bI bK) < 256))) then (bif (!(nk (aC bI bK))) then fU else (kR4 bI (ai (bK + 1)))) else none) else none) else none) else jI)
def iI: Nat→aa→Int→(OR')→(OR')→OR'
 | 0,_,_,_,_=>none
 | n + 1,bI,bK,fU,jI=>nq bI bK (fun bI bK=>iI n bI bK fU jI) fU jI
abbrev sToken_p4: SP:=⟨23,[0,3],[(.v .s),(.v (.i .i64))],[]⟩
noncomputable def Ce: Code:=aD (aG Tryz.f187) [1,1,0,1,0,0]
def Cf (f: (OR')→(OR')→OR') (k: KT): OR':=f (k Ex.ret ((St.mk (aH 0 23 [(2,(AV.bool false))]) ([]: (List (Nat×(Ob))))))) (k (Ex.exit 0) ((St.mk (aH 0 23 []) ([]: (List (Nat×(Ob)))))))
def Cg (n: Nat) (d: sToken_p4.D): KT→OR':=Cf (iI n d.1.1 d.1.2.1)
def IX (N: Nat): Lam:=bw [⟨4,sToken_p4,Cg N⟩]
theorem Mr (N: Nat): OkL Kx sToken_C.s IW 0 N (IX N) Ce:=okL sToken_p4 (Cg) (fun d kR=>Cf (nq d.1.1 d.1.2.1 (fun bI bK=>kR ((bI,bK,()),())))) (fun _ _=>by kernel_rfl) (fun _ _ _=>by kernel_rfl) (fun _ _=>by kernel_rfl) (fun _ _ _ _=>by kernel_rfl) (am (l':=[]) (by kernel_rfl) trivial)
def wq (N: Nat) (s: aa): OR':=(bif (decide ((s.length: Int)=0)) then (some ((AV.bool false),[])) else (bif (decide (4000 < (s.length: Int))) then (some ((AV.bool false),[])) else (iI N s 0 (some ((AV.bool false),[])) (some ((AV.bool true),[])))))
def wt (φ: aa→Br): List AV→List Ob→Br
 | [.str s],[]=>φ s
 | _,_=> .fail
theorem FF {φ: aa→Br} (fu: aa→Nat) (hv: ∀ s res_,(φ s).val=some res_→wq (fu s) s=some res_): Sound Kx 187 (wt φ):=ar (C:=sToken_C) (O:=IW) Tryz.func187 (by kernel_rfl) fun args objs=>by
 unfold wt;split
 · rename_i s;exact .inr fun _ hyp_=>aS (Λ:=IX (fu s)) (by kernel_rfl) (am (l':=[Ce]) (by kernel_rfl) ⟨Mr _,trivial⟩) (by kernel_rfl) (hv s _ hyp_)
 · exact .inl rfl
theorem oA: Sound Kx 220 (abi fun s=> .bool (oa s)):=Qb Qc fun s=>by
 show (tn s).val=_
 unfold tn oa
 by_cases h: 1≤s.length
 · have h': (1 : Int)≤(s.length: Int):=by omega
   by_cases g: s.length≤4000
   · have g': (s.length: Int)≤4000:=by omega
     simp only [Br.val,h,h',g,g',decide_true,bW g,Bool.true_and]
   · have g': ¬ (s.length: Int)≤4000:=by omega
     simp only [Br.val,h,h',g,g',decide_true,decide_false,Bool.true_and,Bool.false_and]
 · have h': ¬ (1 : Int)≤(s.length: Int):=by omega
   simp only [Br.val,h,h',decide_false,Bool.false_and]
theorem FG (l: aa) (hl: l.length≤4611686018427387904) (k0 k1: OR'): ∀ (r: aa) (i: Int) (n: Nat),At l i r→r.length < n→iI n l i k0 k1=bif aU nk r then k1 else k0:=by
 intro r;induction r with
 | nil=>intro i n h hn;obtain ⟨n,rfl⟩:=bF hn;unfold iI nq;simp only [h.dge,cond_false,aU,List.all_nil,cond_true]
 | cons a r ih=>
   intro i n h hn;obtain ⟨n,rfl⟩:=bF hn
   have hs:=ih (i + 1) n h.step (by simp at hn;omega)
   have e0: (decide (0≤by8 a)&&decide (by8 a < 256))=true:=by simp only [Bool.and_eq_true,decide_eq_true_eq];exact ⟨H1 a,H3 a⟩
   unfold iI nq;simp only [h.dlt,h.dnn,h.str,cond_true,h.next hl,hs,aU,List.all_cons,e0]
   cases nk (by8 a) <;> rfl
theorem oB: Sound Kx 187 (abi fun s=> .bool (oa s)):=by
 refine Qb (FF (φ:=fun s=> .ret (.bool (oa s)) []) (fun s=>s.length + 1) fun s r h=>?_) fun _=>rfl
 cases h
 unfold wq oa
 by_cases h: s.length=0
 · have: s=[]:=List.length_eq_zero_iff.1 h
   subst this;rfl
 · by_cases g: s.length≤4000
   · have h': ¬ (s.length: Int)=0:=by omega
     have h1: 1≤s.length:=by omega
     have g': ¬ (4000 : Int) < (s.length: Int):=by omega
     simp only [h',g',g,h1,decide_true,decide_false,cond_false,Bool.true_and]
     rw [FG s (by omega) _ _ s 0 _ (At.start s) (by omega)]
     cases aU nk s <;> rfl
   · have h': ¬ (s.length: Int)=0:=by omega
     have g': (4000 : Int) < (s.length: Int):=by omega
     simp only [h',g',g,decide_true,decide_false,cond_false,cond_true,Bool.and_false,Bool.false_and]
def Ms: SC:=[⟨220,_,oA⟩]
def mc (s: aa): Br:=(.ite (oa s) (.ret (AV.bool (decide ((s.length: Int)≤20))) []) (.ret (AV.bool false) []))
def wu: List AV→List Ob→Br
 | [.str s],[]=>mc s
 | _,_=> .fail
theorem FH: Sound Kx 172 wu:=ah (C:=Ms) (O:=O0) Tryz.func172 (by kernel_rfl) fun args objs=>by
 unfold wu;split
 · exact .inr (by kernel_rfl)
 · exact .inl rfl
def Mt: Opt:={ split:=true }
def Mu: SC:=[⟨220,_,oA⟩,⟨74,_,B6⟩,⟨180,_,th⟩]
def md (a b: aa): Br:=(.ite (oa a) (.ite (decide ((a.length: Int)≤40)) (.ite (decide ((b.length: Int)≤190)) (.ite (isM b) (.ite (aU s_ b) (.ite (isM b) (.ite (decide ((cw b)=b)) (.ret (AV.bool true) []) (.ret (AV.bool false) [])) .fail) (.ret (AV.bool false) [])) .fail) (.ret (AV.bool false) [])) (.ret (AV.bool false) [])) (.ret (AV.bool false) []))
def wv: List AV→List Ob→Br
 | [.agg [.str a, .str b]],[]=>md a b
 | _,_=> .fail
theorem FI: Sound Kx 158 wv:=ah (C:=Mu) (O:=Mt) Tryz.func158 (by kernel_rfl) fun args objs=>by
 unfold wv;split
 · exact .inr (by kernel_rfl)
 · exact .inl rfl
def Mv: Opt:={ split:=true }
def Mw: SC:=[⟨187,_,oB⟩,⟨189,_,tl⟩,⟨224,_,B5⟩]
def mf (a b: aa): Br:=(.ite (decide ((a.length: Int)≤40)) (.ite (oa a) (.ite (decide ((b.length: Int)≤190)) (.ite (isM b) (.ite (aU s_ b) (.ite (isM b) (.ite (decide ((cw b)=b)) (.ret (AV.bool true) []) (.ret (AV.bool false) [])) .fail) (.ret (AV.bool false) [])) .fail) (.ret (AV.bool false) [])) (.ret (AV.bool false) [])) (.ret (AV.bool false) []))
def ww: List AV→List Ob→Br
 | [.agg [.str a, .str b]],[]=>mf a b
 | _,_=> .fail
theorem FJ: Sound Kx 168 ww:=ah (C:=Mw) (O:=Mv) Tryz.func168 (by kernel_rfl) fun args objs=>by
 unfold ww;split
 · exact .inr (by kernel_rfl)
 · exact .inl rfl
def Mx: SC:=[⟨187,_,oB⟩,⟨188,_,rD⟩]
def mh (me ta: aa) (st: Int) (re: aa) (ba: Bool) (fs: List (aa×aa)) (bo: aa): Br:=(.ite (decide ((me.length: Int)≤20)) (.ite (oa me) (.ite (decide ((ta.length: Int)≤200)) (.ite (isM ta) (.ite ((aU dD ta)&&(decide (0 < (ta.length: Int)))) (.ite (decide (st=0)) (.ite (decide (re=([]: aa))) (.ret (AV.bool (!ba)) []) (.ret (AV.bool false) [])) (.ret (AV.bool false) [])) (.ret (AV.bool false) [])) .fail) (.ret (AV.bool false) [])) (.ret (AV.bool false) [])) (.ret (AV.bool false) []))
def wy: List AV→List Ob→Br
 | [.agg [.str me, .str ta, .int .i64 st, .str re, .bool ba, .sh (.pair .str .str) fs, .str bo]],[]=>mh me ta st re ba fs bo
 | _,_=> .fail
theorem FK: Sound Kx 111 wy:=ah (C:=Mx) (O:=O0) Tryz.func111 (by kernel_rfl) fun args objs=>by
 unfold wy;split
 · exact .inr (by kernel_rfl)
 · exact .inl rfl
def My: SC:=[⟨189,_,tl⟩,⟨190,_,BO⟩]
def mj (me ta: aa) (st: Int) (re: aa) (ba: Bool) (fs: List (aa×aa)) (bo: aa): Br:=(.ite (!(decide (ta=([]: aa)))) (.ret (AV.bool false) []) (.ite (decide (st < 200)) (.ret (AV.bool false) []) (.ite (decide (599 < st)) (.ret (AV.bool false) []) (.ite (decide (40 < (re.length: Int))) (.ret (AV.bool false) []) (.ite (isM re) (.ite (!(aU s_ re)) (.ret (AV.bool false) []) (.ite ba (.ite (!(decide (bo=([]: aa)))) (.ret (AV.bool false) []) (.ite ba (.ret (AV.bool true) []) (.ret (AV.bool (!(yA st))) []))) (.ite ba (.ret (AV.bool true) []) (.ret (AV.bool (!(yA st))) [])))) .fail)))))
def wz: List AV→List Ob→Br
 | [.agg [.str me, .str ta, .int .i64 st, .str re, .bool ba, .sh (.pair .str .str) fs, .str bo]],[]=>mj me ta st re ba fs bo
 | _,_=> .fail
theorem FL: Sound Kx 112 wz:=ah (C:=My) (O:=O0) Tryz.func112 (by kernel_rfl) fun args objs=>by
 unfold wz;split
 · exact .inr (by kernel_rfl)
 · exact .inl rfl
abbrev Fd:=aa×aa
def jW (f: Fd): Bool:=oa f.1&&decide (f.1.length≤40)&&decide (f.2.length≤190)&&aU s_ f.2&&decide (cw f.2=f.2)
def adR (p: Fd→AV): List AV→List Ob→Br
 | [.agg [.str a, .str b]],[]=> .ret (p (a,b)) []
 | _,_=> .fail
theorem abj {n: Nat} {s: List AV→List Ob→Br} (hs: Sound Kx n s) {p: Fd→AV} (h: ∀ a b,(s [.agg [.str a, .str b]] []).val=some (p (a,b),[])): Sound Kx n (adR p):=hs.of fun args objs r hv=>by
 unfold adR at hv
 split at hv
 · rw [h];exact hv
 · cases hv
theorem Ch: Sound Kx 158 (adR fun f=> .bool (jW f)):=abj FI fun a b=>by
 show (md a b).val=_
 unfold md jW
 have e1: decide ((a.length: Int)≤40)=decide (a.length≤40):=FE a 40
 have e2: decide ((b.length: Int)≤190)=decide (b.length≤190):=FE b 190
 simp only [e1,e2]
 by_cases h: b.length≤190
 · simp only [h,bW h,decide_true,Bool.and_true]
   cases oa a <;> cases decide (a.length≤40) <;> cases aU s_ b <;> cases decide (cw b=b) <;> rfl
 · simp only [h,decide_false]
   cases oa a <;> cases decide (a.length≤40) <;> rfl
theorem qi: Sound Kx 168 (adR fun f=> .bool (jW f)):=abj FJ fun a b=>by
 show (mf a b).val=_
 unfold mf jW
 have e1: decide ((a.length: Int)≤40)=decide (a.length≤40):=FE a 40
 have e2: decide ((b.length: Int)≤190)=decide (b.length≤190):=FE b 190
 simp only [e1,e2]
 by_cases h: b.length≤190
 · simp only [h,bW h,decide_true,Bool.and_true]
   cases oa a <;> cases decide (a.length≤40) <;> cases aU s_ b <;> cases decide (cw b=b) <;> rfl
 · simp only [h,decide_false]
   cases oa a <;> cases decide (a.length≤40) <;> rfl
def mm (s: aa): Bool:=oa s&&decide (s.length≤20)
theorem Ci: Sound Kx 172 (abi fun s=> .bool (mm s)):=Qb FH fun s=>by
 show (mc s).val=_
 unfold mc mm
 have e1: decide ((s.length: Int)≤20)=decide (s.length≤20):=FE s 20
 simp only [e1]
 exact yy _ _
abbrev Mg:=aa×aa×Int×aa×Bool×List Fd×aa
def Zi (me ta: aa) (st: Int) (re: aa) (ba: Bool): Bool:=mm me&&ma ta&&decide (st=0)&&decide (re=[])&& !ba
def Wv (ta: aa) (st: Int) (re: aa) (ba: Bool) (bo: aa): Bool:=decide (ta=[])&&L_ st&&l_ re&& !(ba&& !decide (bo=[]))&& !(yA st&& !ba)
def abk (p: Mg→AV): List AV→List Ob→Br
 | [.agg [.str me, .str ta, .int .i64 st, .str re, .bool ba, .sh (.pair .str .str) fs, .str bo]],[]=> .ret (p (me,ta,st,re,ba,fs,bo)) []
 | _,_=> .fail
theorem adS {n: Nat} {s: List AV→List Ob→Br} (hs: Sound Kx n s) {p: Mg→AV} (h: ∀ me ta st re ba fs bo,(s [.agg [.str me, .str ta, .int .i64 st, .str re, .bool ba, .sh (.pair .str .str) fs, .str bo]] []).val=some (p (me,ta,st,re,ba,fs,bo),[])): Sound Kx n (abk p):=hs.of fun args objs r hv=>by
 unfold abk at hv
 split at hv
 · rw [h];exact hv
 · cases hv
theorem Cj: Sound Kx 111 (abk fun m=> .bool (Zi m.1 m.2.1 m.2.2.1 m.2.2.2.1 m.2.2.2.2.1)):=adS FK fun me ta st re ba fs bo=>by
 show (mh me ta st re ba fs bo).val=some (.bool (Zi me ta st re ba),[])
 unfold mh Zi mm ma
 have e1: decide ((me.length: Int)≤20)=decide (me.length≤20):=FE me 20
 have e2: decide ((ta.length: Int)≤200)=decide (ta.length≤200):=FE ta 200
 have e3: decide ((0 : Int) < (ta.length: Int))=decide (1≤ta.length):=by congr 1;apply propext;omega
 simp only [e1,e2,e3]
 by_cases h: ta.length≤200
 · simp only [h,bW h,decide_true,Bool.and_true]
   cases decide (me.length≤20) <;> cases oa me <;> cases aU dD ta <;> cases decide (1≤ta.length) <;> cases decide (st=0) <;> cases decide (re=[]) <;> rfl
 · simp only [h,decide_false,Bool.and_false,Bool.false_and]
   cases decide (me.length≤20) <;> cases oa me <;> rfl
theorem FM: Sound Kx 112 (abk fun m=> .bool (Wv m.2.1 m.2.2.1 m.2.2.2.1 m.2.2.2.2.1 m.2.2.2.2.2.2)):=adS FL fun me ta st re ba fs bo=>by
 show (mj me ta st re ba fs bo).val=some (.bool (Wv ta st re ba bo),[])
 unfold mj Wv l_ L_
 have e1: decide ((40 : Int) < (re.length: Int))= !decide (re.length≤40):=by by_cases h: re.length≤40 <;> simp [h] <;> omega
 have e2: decide (st < 200)= !decide (200≤st):=by by_cases h: 200≤st <;> simp [h] <;> omega
 have e3: decide (599 < st)= !decide (st≤599):=by by_cases h: st≤599 <;> simp [h] <;> omega
 simp only [e1,e2,e3]
 by_cases h: re.length≤40
 · simp only [h,bW h,decide_true,Bool.not_true,Bool.true_and]
   cases decide (ta=[]) <;> cases decide (200≤st) <;> cases decide (st≤599) <;> cases aU s_ re <;> cases ba <;> cases decide (bo=[]) <;> cases yA st <;> rfl
 · simp only [h,decide_false,Bool.not_false,Bool.false_and,Bool.and_false]
   cases decide (ta=[]) <;> cases decide (200≤st) <;> cases decide (st≤599) <;> rfl
def tq: Opt:={ live:=[(4,[8,9,10])],outs:=[(4,[2])] }
def iFieldsOk_C: SC:=[⟨158,_,Ch⟩]
def gZ (bI: (List Fd)) (bK cz: Int) (kR4: (List Fd)→Int→Int→OR') (fU jI: OR'): OR':=
 (bif (decide (cz < bK)) then (bif (decide (0≤cz)) then (bif (decide (cz < (bI.length: Int))) then (bif (!(jW ((List.getD bI (Int.toNat cz) (([]: aa),([]: aa))).1,(List.getD bI (Int.toNat cz) (([]: aa),([]: aa))).2))) then fU else (kR4 bI bK (ai (cz + 1)))) else none) else none) else jI)
def eC: Nat→(List Fd)→Int→Int→(OR')→(OR')→OR'
 | 0,_,_,_,_,_=>none
 | n + 1,bI,bK,cz,fU,jI=>gZ bI bK cz (fun bI bK cz=>eC n bI bK cz fU jI) fU jI
abbrev iFieldsOk_p4: SP:=⟨18,[8,9,10],[(.v (.sh (Ty.pair Ty.str Ty.str))),(.v (.i .i64)),(.v (.i .i64))],[]⟩
noncomputable def qj: Code:=aD (aG Tryz.f84) [1,1,0,1,0,0]
def qk (f: (OR')→(OR')→OR') (k: KT): OR':=f (k Ex.ret ((St.mk (aH 0 18 [(2,(AV.bool false))]) ([]: (List (Nat×(Ob))))))) (k (Ex.exit 0) ((St.mk (aH 0 18 []) ([]: (List (Nat×(Ob)))))))
def ql (n: Nat) (d: iFieldsOk_p4.D): KT→OR':=qk (eC n d.1.1 d.1.2.1 d.1.2.2.1)
def tt (N: Nat): Lam:=bw [⟨4,iFieldsOk_p4,ql N⟩]
theorem yG (N: Nat): OkL Kx iFieldsOk_C.s tq 0 N (tt N) qj:=okL iFieldsOk_p4 (ql) (fun d kR=>qk (gZ d.1.1 d.1.2.1 d.1.2.2.1 (fun bI bK cz=>kR ((bI,bK,cz,()),())))) (fun _ _=>by kernel_rfl) (fun _ _ _=>by kernel_rfl) (fun _ _=>by kernel_rfl) (fun _ _ _ _=>by kernel_rfl) (am (l':=[]) (by kernel_rfl) trivial)
def nr (N: Nat) (l: List Fd): OR':=(bif (decide (20 < (l.length: Int))) then (some ((AV.bool false),[])) else (eC N l (l.length: Int) 0 (some ((AV.bool false),[])) (some ((AV.bool true),[]))))
def nt (φ: (List Fd)→Br): List AV→List Ob→Br
 | [.sh (.pair .str .str) l],[]=>φ l
 | _,_=> .fail
theorem vu {φ: (List Fd)→Br} (fu: (List Fd)→Nat) (hv: ∀ l res_,(φ l).val=some res_→nr (fu l) l=some res_): Sound Kx 84 (nt φ):=ar (C:=iFieldsOk_C) (O:=tq) Tryz.func84 (by kernel_rfl) fun args objs=>by
 unfold nt;split
 · rename_i l;exact .inr fun _ hyp_=>aS (Λ:=tt (fu l)) (by kernel_rfl) (am (l':=[qj]) (by kernel_rfl) ⟨yG _,trivial⟩) (by kernel_rfl) (hv l _ hyp_)
 · exact .inl rfl
def tu: Opt:={ live:=[(4,[0,3])],outs:=[(4,[2])] }
def sFieldsOk_C: SC:=[⟨168,_,qi⟩]
def g_ (bI: (List Fd)) (bK: Int) (kR4: (List Fd)→Int→OR') (fU jI: OR'): OR':=
 (bif (decide (bK < (bI.length: Int))) then (bif (decide (0≤bK)) then (bif (decide (bK < (bI.length: Int))) then (bif (!(jW ((List.getD bI (Int.toNat bK) (([]: aa),([]: aa))).1,(List.getD bI (Int.toNat bK) (([]: aa),([]: aa))).2))) then fU else (kR4 bI (ai (bK + 1)))) else none) else none) else jI)
def eD: Nat→(List Fd)→Int→(OR')→(OR')→OR'
 | 0,_,_,_,_=>none
 | n + 1,bI,bK,fU,jI=>g_ bI bK (fun bI bK=>eD n bI bK fU jI) fU jI
abbrev sFieldsOk_p4: SP:=⟨19,[0,3],[(.v (.sh (Ty.pair Ty.str Ty.str))),(.v (.i .i64))],[]⟩
noncomputable def qm: Code:=aD (aG Tryz.f96) [1,1,0,1,0,0]
def qn (f: (OR')→(OR')→OR') (k: KT): OR':=f (k Ex.ret ((St.mk (aH 0 19 [(2,(AV.bool false))]) ([]: (List (Nat×(Ob))))))) (k (Ex.exit 0) ((St.mk (aH 0 19 []) ([]: (List (Nat×(Ob)))))))
def qo (n: Nat) (d: sFieldsOk_p4.D): KT→OR':=qn (eD n d.1.1 d.1.2.1)
def tw (N: Nat): Lam:=bw [⟨4,sFieldsOk_p4,qo N⟩]
theorem yH (N: Nat): OkL Kx sFieldsOk_C.s tu 0 N (tw N) qm:=okL sFieldsOk_p4 (qo) (fun d kR=>qn (g_ d.1.1 d.1.2.1 (fun bI bK=>kR ((bI,bK,()),())))) (fun _ _=>by kernel_rfl) (fun _ _ _=>by kernel_rfl) (fun _ _=>by kernel_rfl) (fun _ _ _ _=>by kernel_rfl) (am (l':=[]) (by kernel_rfl) trivial)
def nu (N: Nat) (l: List Fd): OR':=(bif (decide (20 < (l.length: Int))) then (some ((AV.bool false),[])) else (eD N l 0 (some ((AV.bool false),[])) (some ((AV.bool true),[]))))
def nv (φ: (List Fd)→Br): List AV→List Ob→Br
 | [.sh (.pair .str .str) l],[]=>φ l
 | _,_=> .fail
theorem vv {φ: (List Fd)→Br} (fu: (List Fd)→Nat) (hv: ∀ l res_,(φ l).val=some res_→nu (fu l) l=some res_): Sound Kx 96 (nv φ):=ar (C:=sFieldsOk_C) (O:=tu) Tryz.func96 (by kernel_rfl) fun args objs=>by
 unfold nv;split
 · rename_i l;exact .inr fun _ hyp_=>aS (Λ:=tw (fu l)) (by kernel_rfl) (am (l':=[qm]) (by kernel_rfl) ⟨yH _,trivial⟩) (by kernel_rfl) (hv l _ hyp_)
 · exact .inl rfl
def Ck: SC:=[⟨168,_,qi⟩]
def jr (a b: aa): Br:=(.ite (!(jW (a,b))) (.ret (AV.str ([]: aa)) []) (.ite (decide ((a.length + 2)≤9223372036854775807)) (.ite (decide (((List.length (a++([58,32]: aa))) + b.length)≤9223372036854775807)) (.ret (AV.str ((a++([58,32]: aa))++b)) []) .fail) .fail))
def qp: List AV→List Ob→Br
 | [.agg [.str a, .str b]],[]=>jr a b
 | _,_=> .fail
theorem yI: Sound Kx 192 qp:=ah (C:=Ck) (O:=O0) Tryz.func192 (by kernel_rfl) fun args objs=>by
 unfold qp;split
 · exact .inr (by kernel_rfl)
 · exact .inl rfl
def bd (l: List Fd): Bool:=decide (l.length≤20)&&l.all jW
def af9 (p: List Fd→AV): List AV→List Ob→Br
 | [.sh (.pair .str .str) l],[]=> .ret (p l) []
 | _,_=> .fail
theorem adT {n: Nat} {s: List AV→List Ob→Br} (hs: Sound Kx n s) {p: List Fd→AV} (h: ∀ l,(s [.sh (.pair .str .str) l] []).val=some (p l,[])): Sound Kx n (af9 p):=hs.of fun args objs r hv=>by
 unfold af9 at hv
 split at hv
 · rw [h];exact hv
 · cases hv
theorem Zj {α: Type} (l: List α) (n: Nat): decide ((n: Int) < (l.length: Int))= !decide (l.length≤n):=by by_cases h: l.length≤n <;> simp [h] <;> omega
theorem vw (l: List Fd) (hl: l.length≤4611686018427387904) (k0 k1: OR'): ∀ (r: List Fd) (i: Int) (n: Nat),At l i r→r.length < n→eC n l (l.length: Int) i k0 k1=bif r.all jW then k1 else k0:=by
 intro r;induction r with
 | nil=>intro i n h hn;obtain ⟨n,rfl⟩:=bF hn;unfold eC gZ;simp only [h.dge,cond_false,List.all_nil,cond_true]
 | cons a r ih=>
   intro i n h hn;obtain ⟨n,rfl⟩:=bF hn
   have hs:=ih (i + 1) n h.step (by simp at hn;omega)
   unfold eC gZ;simp only [h.dlt,h.dnn,h.get,cond_true,h.next hl,hs,List.all_cons]
   cases jW a <;> rfl
theorem cK: Sound Kx 84 (af9 fun l=> .bool (bd l)):=by
 refine adT (vu (φ:=fun l=> .ret (.bool (bd l)) []) (fun l=>l.length + 1) fun l r h=>?_) fun _=>rfl
 cases h
 unfold nr bd
 have e:=Zj l 20
 simp only [show ((20 : Nat): Int)=20 from rfl] at e
 rw [e]
 by_cases h: l.length≤20
 · simp only [h,decide_true,Bool.not_true,cond_false,Bool.true_and]
   rw [vw l (by omega) _ _ l 0 _ (At.start l) (by omega)]
   cases l.all jW <;> rfl
 · simp only [h,decide_false,Bool.not_false,cond_true,Bool.false_and]
theorem vx (l: List Fd) (hl: l.length≤4611686018427387904) (k0 k1: OR'): ∀ (r: List Fd) (i: Int) (n: Nat),At l i r→r.length < n→eD n l i k0 k1=bif r.all jW then k1 else k0:=by
 intro r;induction r with
 | nil=>intro i n h hn;obtain ⟨n,rfl⟩:=bF hn;unfold eD g_;simp only [h.dge,cond_false,List.all_nil,cond_true]
 | cons a r ih=>
   intro i n h hn;obtain ⟨n,rfl⟩:=bF hn
   have hs:=ih (i + 1) n h.step (by simp at hn;omega)
   unfold eD g_;simp only [h.dlt,h.dnn,h.get,cond_true,h.next hl,hs,List.all_cons]
   cases jW a <;> rfl
theorem eQ: Sound Kx 96 (af9 fun l=> .bool (bd l)):=by
 refine adT (vv (φ:=fun l=> .ret (.bool (bd l)) []) (fun l=>l.length + 1) fun l r h=>?_) fun _=>rfl
 cases h
 unfold nu bd
 have e:=Zj l 20
 simp only [show ((20 : Nat): Int)=20 from rfl] at e
 rw [e]
 by_cases h: l.length≤20
 · simp only [h,decide_true,Bool.not_true,cond_false,Bool.true_and]
   rw [vx l (by omega) _ _ l 0 _ (At.start l) (by omega)]
   cases l.all jW <;> rfl
 · simp only [h,decide_false,Bool.not_false,cond_true,Bool.false_and]
def kw (f: Fd): aa:=f.1++58::32::f.2
theorem js {f: Fd} (h: jW f=true): f.1.length≤40∧f.2.length≤190:=by
 unfold jW at h;simp only [Bool.and_eq_true,decide_eq_true_eq] at h;exact ⟨h.1.1.1.2,h.1.1.2⟩
theorem vy: Sound Kx 192 (adR fun f=> .str (bif jW f then kw f else [])):=abj yI fun a b=>by
 show (jr a b).val=_
 unfold jr
 by_cases h: jW (a,b)=true
 · have hl:=js h
   simp only at hl
   have e1: decide (a.length + 2≤9223372036854775807)=true:=dT' (by omega)
   have e2: decide ((a++[58,32]).length + b.length≤9223372036854775807)=true:=dT' (by simp;omega)
   simp only [h,Br.val,Bool.not_true,e1,e2,cond_true]
   simp [kw]
 · simp only [Bool.not_eq_true] at h
   simp only [h,Br.val,Bool.not_false,cond_false]
def Cl: Opt:={ live:=[(5,[1,5,11,12,13])],outs:=[(5,[4,5])] }
def iValues_C: SC:=[⟨84,_,cK⟩,⟨124,_,Ca⟩]
def kU (aI: aa) (aR: (List Fd)) (aF a7: Int) (ck: (List aa)) (kR5: aa→(List Fd)→Int→Int→(List aa)→OR') (cR: (List aa)→OR'): OR':=
 (bif (decide (a7 < aF)) then (bif (decide (0≤a7)) then (bif (decide (a7 < (aR.length: Int))) then (bif ((isM (List.getD aR (Int.toNat a7) (([]: aa),([]: aa))).1)&&(isM aI)) then (bif (ga (List.getD aR (Int.toNat a7) (([]: aa),([]: aa))).1 aI) then (bif (decide (((ck.length + (List.length (List.set (List.replicate 1 ([]: aa)) 0 (List.getD aR (Int.toNat a7) (([]: aa),([]: aa))).2))) * 16)≤140737488355328)) then (kR5 aI aR aF (ai (a7 + 1)) (ck++(List.set (List.replicate 1 ([]: aa)) 0 (List.getD aR (Int.toNat a7) (([]: aa),([]: aa))).2))) else none) else (kR5 aI aR aF (ai (a7 + 1)) ck)) else none) else none) else none) else (cR ck))
def gj: Nat→aa→(List Fd)→Int→Int→(List aa)→((List aa)→OR')→OR'
 | 0,_,_,_,_,_,_=>none
 | n + 1,aI,aR,aF,a7,ck,cR=>kU aI aR aF a7 ck (fun aI aR aF a7 ck=>gj n aI aR aF a7 ck cR) cR
abbrev iValues_p5: SP:=⟨28,[1,5,11,12,13],[(.v .s),(.v (.ref 384 0)),(.v (.sh (Ty.pair Ty.str Ty.str))),(.v (.i .i64)),(.v (.i .i64))],[(384, .arr Ty.str 0 false)]⟩
noncomputable def wA: Code:=aD (aG Tryz.f47) [1,1,1,0,1,0,0]
def wB (f: ((List aa)→OR')→OR') (k: KT): OR':=f (fun ap=>k (Ex.exit 0) ((St.mk (aH 0 28 [(5,(AV.ref 384 0))]) ((384,(Ob.arr Ty.str 0 false ap))::([]: (List (Nat×(Ob))))))))
def wC (n: Nat) (d: iValues_p5.D): KT→OR':=wB (gj n d.1.1 d.1.2.2.1 d.1.2.2.2.1 d.1.2.2.2.2.1 d.2.1)
def Cm (N: Nat): Lam:=bw [⟨5,iValues_p5,wC N⟩]
theorem FN (N: Nat): OkL Kx iValues_C.s Cl 0 N (Cm N) wA:=okL iValues_p5 (wC) (fun d kR=>wB (kU d.1.1 d.1.2.2.1 d.1.2.2.2.1 d.1.2.2.2.2.1 d.2.1 (fun aI aR aF a7 ck=>kR ((aI,(),aR,aF,a7,()),(ck,()))))) (fun _ _=>by kernel_rfl) (fun _ _ _=>by kernel_rfl) (fun _ _=>by kernel_rfl) (fun _ _ _ _=>by kernel_rfl) (am (l':=[]) (by kernel_rfl) trivial)
def tz (N: Nat) (l: List Fd) (name: aa): OR':=(bif (!(bd l)) then (some ((AV.ref 0 0),[.arr Ty.str 0 false ([]: (List aa))])) else (gj N name l (l.length: Int) 0 ([]: (List aa)) (fun ap=>(some ((AV.ref 0 0),[.arr Ty.str 0 false ap])))))
def tA (φ: (List Fd)→aa→Br): List AV→List Ob→Br
 | [.sh (.pair .str .str) l, .str name],[]=>φ l name
 | _,_=> .fail
theorem Cn {φ: (List Fd)→aa→Br} (fu: (List Fd)→aa→Nat) (hv: ∀ l name res_,(φ l name).val=some res_→tz (fu l name) l name=some res_): Sound Kx 47 (tA φ):=ar (C:=iValues_C) (O:=Cl) Tryz.func47 (by kernel_rfl) fun args objs=>by
 unfold tA;split
 · rename_i l name;exact .inr fun _ hyp_=>aS (Λ:=Cm (fu l name)) (by kernel_rfl) (am (l':=[wA]) (by kernel_rfl) ⟨FN _,trivial⟩) (by kernel_rfl) (hv l name _ hyp_)
 · exact .inl rfl
def Co: Opt:={ live:=[(5,[0,1,5,6])],outs:=[(5,[4,5])] }
def sValues_C: SC:=[⟨96,_,eQ⟩,⟨128,_,Cb⟩]
def kV (aI: (List Fd)) (aR: aa) (aF: Int) (a7: (List aa)) (kR5: (List Fd)→aa→Int→(List aa)→OR') (cR: (List aa)→OR'): OR':=
 (bif (decide (aF < (aI.length: Int))) then (bif (decide (0≤aF)) then (bif (decide (aF < (aI.length: Int))) then (bif ((isM (List.getD aI (Int.toNat aF) (([]: aa),([]: aa))).1)&&(isM aR)) then (bif (ga (List.getD aI (Int.toNat aF) (([]: aa),([]: aa))).1 aR) then (bif (decide (0≤aF)) then (bif (decide (aF < (aI.length: Int))) then (bif (decide (((a7.length + (List.length (List.set (List.replicate 1 ([]: aa)) 0 (List.getD aI (Int.toNat aF) (([]: aa),([]: aa))).2))) * 16)≤140737488355328)) then (kR5 aI aR (ai (aF + 1)) (a7++(List.set (List.replicate 1 ([]: aa)) 0 (List.getD aI (Int.toNat aF) (([]: aa),([]: aa))).2))) else none) else none) else none) else (kR5 aI aR (ai (aF + 1)) a7)) else none) else none) else none) else (cR a7))
def gk: Nat→(List Fd)→aa→Int→(List aa)→((List aa)→OR')→OR'
 | 0,_,_,_,_,_=>none
 | n + 1,aI,aR,aF,a7,cR=>kV aI aR aF a7 (fun aI aR aF a7=>gk n aI aR aF a7 cR) cR
abbrev sValues_p5: SP:=⟨32,[0,1,5,6],[(.v (.sh (Ty.pair Ty.str Ty.str))),(.v .s),(.v (.ref 384 0)),(.v (.i .i64))],[(384, .arr Ty.str 0 false)]⟩
noncomputable def wD: Code:=aD (aG Tryz.f48) [1,1,1,0,1,0,0]
def wE (f: ((List aa)→OR')→OR') (k: KT): OR':=f (fun ap=>k (Ex.exit 0) ((St.mk (aH 0 32 [(5,(AV.ref 384 0))]) ((384,(Ob.arr Ty.str 0 false ap))::([]: (List (Nat×(Ob))))))))
def wF (n: Nat) (d: sValues_p5.D): KT→OR':=wE (gk n d.1.1 d.1.2.1 d.1.2.2.2.1 d.2.1)
def Cp (N: Nat): Lam:=bw [⟨5,sValues_p5,wF N⟩]
theorem FO (N: Nat): OkL Kx sValues_C.s Co 0 N (Cp N) wD:=okL sValues_p5 (wF) (fun d kR=>wE (kV d.1.1 d.1.2.1 d.1.2.2.2.1 d.2.1 (fun aI aR aF a7=>kR ((aI,aR,(),aF,()),(a7,()))))) (fun _ _=>by kernel_rfl) (fun _ _ _=>by kernel_rfl) (fun _ _=>by kernel_rfl) (fun _ _ _ _=>by kernel_rfl) (am (l':=[]) (by kernel_rfl) trivial)
def tB (N: Nat) (l: List Fd) (name: aa): OR':=(bif (!(bd l)) then (some ((AV.ref 0 0),[.arr Ty.str 0 false ([]: (List aa))])) else (gk N l name 0 ([]: (List aa)) (fun ap=>(some ((AV.ref 0 0),[.arr Ty.str 0 false ap])))))
def tC (φ: (List Fd)→aa→Br): List AV→List Ob→Br
 | [.sh (.pair .str .str) l, .str name],[]=>φ l name
 | _,_=> .fail
theorem Cq {φ: (List Fd)→aa→Br} (fu: (List Fd)→aa→Nat) (hv: ∀ l name res_,(φ l name).val=some res_→tB (fu l name) l name=some res_): Sound Kx 48 (tC φ):=ar (C:=sValues_C) (O:=Co) Tryz.func48 (by kernel_rfl) fun args objs=>by
 unfold tC;split
 · rename_i l name;exact .inr fun _ hyp_=>aS (Λ:=Cp (fu l name)) (by kernel_rfl) (am (l':=[wD]) (by kernel_rfl) ⟨FO _,trivial⟩) (by kernel_rfl) (hv l name _ hyp_)
 · exact .inl rfl
def Cr: Opt:={ live:=[(2,[0,3])],outs:=[(2,[2])] }
def sframed_C: SC:=[⟨91,_,iG⟩]
def kW (aK: (List Fd)) (aM: Int) (kR2: (List Fd)→Int→OR') (cu dn: OR'): OR':=
 (bif (decide (aM < (aK.length: Int))) then (bif (decide (0≤aM)) then (bif (decide (aM < (aK.length: Int))) then (bif (isM (List.getD aK (Int.toNat aM) (([]: aa),([]: aa))).1) then (bif (decide ((ay (List.getD aK (Int.toNat aM) (([]: aa),([]: aa))).1)=([99,111,110,116,101,110,116,45,108,101,110,103,116,104]: aa))) then cu else (bif (decide ((ay (List.getD aK (Int.toNat aM) (([]: aa),([]: aa))).1)=([116,114,97,110,115,102,101,114,45,101,110,99,111,100,105,110,103]: aa))) then cu else (bif (decide ((ay (List.getD aK (Int.toNat aM) (([]: aa),([]: aa))).1)=([116,114,97,105,108,101,114]: aa))) then cu else (kR2 aK (ai (aM + 1)))))) else none) else none) else none) else dn)
def gl: Nat→(List Fd)→Int→(OR')→(OR')→OR'
 | 0,_,_,_,_=>none
 | n + 1,aK,aM,cu,dn=>kW aK aM (fun aK aM=>gl n aK aM cu dn) cu dn
abbrev sframed_p2: SP:=⟨27,[0,3],[(.v (.sh (Ty.pair Ty.str Ty.str))),(.v (.i .i64))],[]⟩
noncomputable def wG: Code:=aD (aG Tryz.f110) [1,0,1,0,0]
def wH (f: (OR')→(OR')→OR') (k: KT): OR':=f (k Ex.ret ((St.mk (aH 0 27 [(2,(AV.bool true))]) ([]: (List (Nat×(Ob))))))) (k (Ex.exit 0) ((St.mk (aH 0 27 []) ([]: (List (Nat×(Ob)))))))
def wI (n: Nat) (d: sframed_p2.D): KT→OR':=wH (gl n d.1.1 d.1.2.1)
def Cs (N: Nat): Lam:=bw [⟨2,sframed_p2,wI N⟩]
theorem FP (N: Nat): OkL Kx sframed_C.s Cr 0 N (Cs N) wG:=okL sframed_p2 (wI) (fun d kR=>wH (kW d.1.1 d.1.2.1 (fun aK aM=>kR ((aK,aM,()),())))) (fun _ _=>by kernel_rfl) (fun _ _ _=>by kernel_rfl) (fun _ _=>by kernel_rfl) (fun _ _ _ _=>by kernel_rfl) (am (l':=[]) (by kernel_rfl) trivial)
def tD (N: Nat) (l: List Fd): OR':=(gl N l 0 (some ((AV.bool true),[])) (some ((AV.bool false),[])))
def tE (φ: (List Fd)→Br): List AV→List Ob→Br
 | [.sh (.pair .str .str) l],[]=>φ l
 | _,_=> .fail
theorem Ct {φ: (List Fd)→Br} (fu: (List Fd)→Nat) (hv: ∀ l res_,(φ l).val=some res_→tD (fu l) l=some res_): Sound Kx 110 (tE φ):=ar (C:=sframed_C) (O:=Cr) Tryz.func110 (by kernel_rfl) fun args objs=>by
 unfold tE;split
 · rename_i l;exact .inr fun _ hyp_=>aS (Λ:=Cs (fu l)) (by kernel_rfl) (am (l':=[wG]) (by kernel_rfl) ⟨FP _,trivial⟩) (by kernel_rfl) (hv l _ hyp_)
 · exact .inl rfl
theorem cm {α: Type} (d x: α): List.set (List.replicate 1 d) 0 x=[x]:=rfl
theorem ahZ {α β: Type} (x: α×β): (x.1,x.2)=x:=rfl
def ip (l: List Fd) (name: aa): List aa:=(l.filter fun f=>ga f.1 name).map (·.2)
def e_ (l: List Fd) (name: aa): List aa:=bif bd l then ip l name else []
theorem b_ {l: List Fd} (h: bd l=true): l.length≤20∧∀ f ∈ l,jW f=true:=by
 unfold bd at h;rw [Bool.and_eq_true,decide_eq_true_eq,List.all_eq_true] at h;exact h
theorem fG {f: Fd} (h: jW f=true): isM f.1=true∧isM f.2=true:=⟨bW (js h).1,bW (js h).2⟩
theorem Cu (name: aa) (hm: isM name=true) (l: List Fd) (hl: l.length≤20) (k: List aa→OR'): ∀ (r: List Fd) (i: Int) (n: Nat) (out: List aa),At l i r→r.length < n→(∀ f ∈ r,jW f=true)→out.length + r.length≤20→
 gj n name l (l.length: Int) i out k=k (out++ip r name):=by
 intro r;induction r with
 | nil=>intro i n out h hn hf ho;obtain ⟨n,rfl⟩:=bF hn;unfold gj kU;simp only [h.dge,cond_false];simp [ip]
 | cons a r ih=>
   intro i n out h hn hf ho;obtain ⟨n,rfl⟩:=bF hn
   have ha:=fG (hf a (List.mem_cons_self ..))
   have hr:=fun f h=>hf f (List.mem_cons_of_mem _ h)
   simp only [List.length_cons] at ho hn
   have e0: decide ((out.length + [a.2].length) * 16≤140737488355328)=true:=dT' (by simp only [List.length_singleton];omega)
   unfold gj kU;simp only [h.dlt,h.dnn,h.get,cond_true,h.next (by omega),ha.1,hm,Bool.and_self,cm,e0]
   cases hs: ga a.1 name
   · rw [cond_false,ih (i + 1) n out h.step (by omega) hr (by omega)];simp [ip,hs]
   · rw [cond_true,ih (i + 1) n (out++[a.2]) h.step (by omega) hr (by simp;omega)];simp [ip,hs]
def Ww: List AV→List Ob→Br
 | [.sh (.pair .str .str) l, .str name],[]=> .ite (isM name) (.ret (.ref 0 0) [.arr .str 0 false (e_ l name)]) .fail
 | _,_=> .fail
theorem jt: Sound Kx 47 Ww:=by
 refine (Cn (φ:=fun l name=> .ite (isM name) (.ret (.ref 0 0) [.arr .str 0 false (e_ l name)]) .fail) (fun l _=>l.length + 1) fun l name r h=>?_).of fun args objs r h=>?_
 · obtain ⟨h1,h2⟩:=al h
   cases h2
   unfold tz e_
   cases hf: bd l
   · rfl
   · obtain ⟨g1,g2⟩:=b_ hf
     simp only [Bool.not_true,cond_false,cond_true]
     rw [Cu name h1 l g1 _ l 0 _ [] (At.start l) (by omega) g2 (by simpa using g1)]
     rfl
 · unfold Ww at h;split at h
   · exact h
   · cases h
theorem Cw (name: aa) (hm: isM name=true) (l: List Fd) (hl: l.length≤20) (k: List aa→OR'): ∀ (r: List Fd) (i: Int) (n: Nat) (out: List aa),At l i r→r.length < n→(∀ f ∈ r,jW f=true)→out.length + r.length≤20→
 gk n l name i out k=k (out++ip r name):=by
 intro r;induction r with
 | nil=>intro i n out h hn hf ho;obtain ⟨n,rfl⟩:=bF hn;unfold gk kV;simp only [h.dge,cond_false];simp [ip]
 | cons a r ih=>
   intro i n out h hn hf ho;obtain ⟨n,rfl⟩:=bF hn
   have ha:=fG (hf a (List.mem_cons_self ..))
   have hr:=fun f h=>hf f (List.mem_cons_of_mem _ h)
   simp only [List.length_cons] at ho hn
   have e0: decide ((out.length + [a.2].length) * 16≤140737488355328)=true:=dT' (by simp only [List.length_singleton];omega)
   unfold gk kV;simp only [h.dlt,h.dnn,h.get,cond_true,h.next (by omega),ha.1,hm,Bool.and_self,cm,e0]
   cases hs: ga a.1 name
   · rw [cond_false,ih (i + 1) n out h.step (by omega) hr (by omega)];simp [ip,hs]
   · rw [cond_true,ih (i + 1) n (out++[a.2]) h.step (by omega) hr (by simp;omega)];simp [ip,hs]
theorem tF: Sound Kx 48 Ww:=by
 refine (Cq (φ:=fun l name=> .ite (isM name) (.ret (.ref 0 0) [.arr .str 0 false (e_ l name)]) .fail) (fun l _=>l.length + 1) fun l name r h=>?_).of fun args objs r h=>?_
 · obtain ⟨h1,h2⟩:=al h
   cases h2
   unfold tB e_
   cases hf: bd l
   · rfl
   · obtain ⟨g1,g2⟩:=b_ hf
     simp only [Bool.not_true,cond_false,cond_true]
     rw [Cw name h1 l g1 _ l 0 _ [] (At.start l) (by omega) g2 (by simpa using g1)]
     rfl
 · unfold Ww at h;split at h
   · exact h
   · cases h
def frC: aa:=[99,111,110,116,101,110,116,45,108,101,110,103,116,104]
def frT: aa:=[116,114,97,110,115,102,101,114,45,101,110,99,111,100,105,110,103]
def frR: aa:=[116,114,97,105,108,101,114]
def Wx (f: Fd): Bool:=decide (ay f.1=frC)||decide (ay f.1=frT)||decide (ay f.1=frR)
theorem Cx (l: List Fd) (hl: l.length≤20) (k0 k1: OR'): ∀ (r: List Fd) (i: Int) (n: Nat),At l i r→r.length < n→(∀ f ∈ r,jW f=true)→gl n l i k0 k1=bif r.any Wx then k0 else k1:=by
 intro r;induction r with
 | nil=>intro i n h hn hf;obtain ⟨n,rfl⟩:=bF hn;unfold gl kW;simp only [h.dge,cond_false,List.any_nil]
 | cons a r ih=>
   intro i n h hn hf;obtain ⟨n,rfl⟩:=bF hn
   have ha:=fG (hf a (List.mem_cons_self ..))
   have hs:=ih (i + 1) n h.step (by simp at hn;omega) fun f h=>hf f (List.mem_cons_of_mem _ h)
   unfold gl kW;simp only [h.dlt,h.dnn,h.get,cond_true,h.next (by omega),hs,ha.1,List.any_cons]
   show (bif decide (ay a.1=frC) then k0 else bif decide (ay a.1=frT) then k0 else bif decide (ay a.1=frR) then k0 else _)=bif Wx a||_ then _ else _
   unfold Wx
   cases decide (ay a.1=frC) <;> cases decide (ay a.1=frT) <;> cases decide (ay a.1=frR) <;> rfl
def adU: List AV→List Ob→Br
 | [.sh (.pair .str .str) l],[]=> .ite (bd l) (.ret (.bool (l.any Wx)) []) .fail
 | _,_=> .fail
theorem FQ: Sound Kx 110 adU:=by
 refine (Ct (φ:=fun l=> .ite (bd l) (.ret (.bool (l.any Wx)) []) .fail) (fun l=>l.length + 1) fun l r h=>?_).of fun args objs r h=>?_
 · obtain ⟨h1,h2⟩:=al h
   cases h2
   obtain ⟨g1,g2⟩:=b_ h1
   unfold tD
   rw [Cx l g1 _ _ l 0 _ (At.start l) (by omega) g2]
   cases l.any Wx <;> rfl
 · unfold adU at h;split at h
   · exact h
   · cases h
def agG (f: Fd): Bool:=isM f.1&&isM f.2
def smF (l: List Fd): Bool:=decide (l.length≤4611686018427387904)&&l.all agG
def adV: SC:=[⟨180,_,th⟩]
def FR (el: aa) (out: List aa): Br:=(.ite (isM el) (.ite (!(decide ((cw el)=([]: aa)))) (.ite (decide (((out.length + (List.length (List.set (List.replicate 1 ([]: aa)) 0 (cw el)))) * 16)≤140737488355328)) (.ret (AV.tup []) [.var [.ref 1 1],.arr Ty.str 1 false (out++(List.set (List.replicate 1 ([]: aa)) 0 (cw el)))]) .fail) (.ret (AV.tup []) [.var [.ref 1 0],.arr Ty.str 0 false out])) .fail)
def Zk: List AV→List Ob→Br
 | [.str el, .ptr 0 0],[.var [.ref 1 0], .arr .str 0 false out]=>FR el out
 | _,_=> .fail
theorem abl: Sound Kx 222 Zk:=ah (C:=adV) (O:=O0) Tryz.func222 (by kernel_rfl) fun args objs=>by
 unfold Zk;split
 · exact .inr (by kernel_rfl)
 · exact .inl rfl
def abm: SC:=[⟨180,_,th⟩]
def yJ (el: aa): Br:=(.ite (isM el) (.ite (!(decide ((cw el)=([]: aa)))) (.ite (decide (((List.length (List.set (List.replicate 1 ([]: aa)) 0 (cw el))) * 16)≤140737488355328)) (.ret (AV.tup []) [.var [.ref 1 0],.arr Ty.str 0 false (List.set (List.replicate 1 ([]: aa)) 0 (cw el))]) .fail) (.ret (AV.tup []) [.var [.nil Ty.str]])) .fail)
def Qd: List AV→List Ob→Br
 | [.str el, .ptr 0 0],[.var [.nil .str]]=>yJ el
 | _,_=> .fail
theorem Wy: Sound Kx 222 Qd:=ah (C:=abm) (O:=O0) Tryz.func222 (by kernel_rfl) fun args objs=>by
 unfold Qd;split
 · exact .inr (by kernel_rfl)
 · exact .inl rfl
def tG: Opt:={ live:=[(7,[0,3,4,5,6])],outs:=[(7,[2,3])] }
def sElements_C: SC:=[⟨224,_,B5⟩]
def hO (ca: aa) (dI: Int) (cU: Bool) (bN: Int) (eq: (List aa)) (kR7: aa→Int→Bool→Int→(List aa)→OR') (vK: (List aa)→OR'): OR':=
 (bif (decide (bN≤(ca.length: Int))) then (bif (decide (bN=(ca.length: Int))) then (bif (decide (0≤dI)) then (bif (decide (dI≤bN)) then (bif (decide (bN≤(ca.length: Int))) then (bif (isM (cut ca dI bN)) then (bif (decide (0 < ((List.length (cw (cut ca dI bN))): Int))) then (bif (decide (((eq.length + (List.length (List.set (List.replicate 1 ([]: aa)) 0 (cw (cut ca dI bN))))) * 16)≤140737488355328)) then (kR7 ca (ai (bN + 1)) cU (ai (bN + 1)) (eq++(List.set (List.replicate 1 ([]: aa)) 0 (cw (cut ca dI bN))))) else none) else (kR7 ca (ai (bN + 1)) cU (ai (bN + 1)) eq)) else none) else none) else none) else none) else (bif (!cU) then (bif (decide (0≤bN)) then (bif (decide (bN < (ca.length: Int))) then (bif (decide ((aC ca bN)=44)) then (bif (decide (0≤dI)) then (bif (decide (dI≤bN)) then (bif (decide (bN≤(ca.length: Int))) then (bif (isM (cut ca dI bN)) then (bif (decide (0 < ((List.length (cw (cut ca dI bN))): Int))) then (bif (decide (((eq.length + (List.length (List.set (List.replicate 1 ([]: aa)) 0 (cw (cut ca dI bN))))) * 16)≤140737488355328)) then (kR7 ca (ai (bN + 1)) cU (ai (bN + 1)) (eq++(List.set (List.replicate 1 ([]: aa)) 0 (cw (cut ca dI bN))))) else none) else (kR7 ca (ai (bN + 1)) cU (ai (bN + 1)) eq)) else none) else none) else none) else none) else (bif (decide (0≤bN)) then (bif (decide (bN < (ca.length: Int))) then (bif (decide ((aC ca bN)=34)) then (kR7 ca dI (!cU) (ai (bN + 1)) eq) else (bif cU then (bif (decide (0≤bN)) then (bif (decide (bN < (ca.length: Int))) then (bif (decide ((aC ca bN)=92)) then (bif (decide ((ai (bN + 1)) < (ca.length: Int))) then (kR7 ca dI cU (ai ((ai (bN + 1)) + 1)) eq) else (kR7 ca dI cU (ai (bN + 1)) eq)) else (kR7 ca dI cU (ai (bN + 1)) eq)) else none) else none) else (kR7 ca dI cU (ai (bN + 1)) eq))) else none) else none)) else none) else none) else (bif (decide (0≤bN)) then (bif (decide (bN < (ca.length: Int))) then (bif (decide ((aC ca bN)=34)) then (kR7 ca dI (!cU) (ai (bN + 1)) eq) else (bif cU then (bif (decide (0≤bN)) then (bif (decide (bN < (ca.length: Int))) then (bif (decide ((aC ca bN)=92)) then (bif (decide ((ai (bN + 1)) < (ca.length: Int))) then (kR7 ca dI cU (ai ((ai (bN + 1)) + 1)) eq) else (kR7 ca dI cU (ai (bN + 1)) eq)) else (kR7 ca dI cU (ai (bN + 1)) eq)) else none) else none) else (kR7 ca dI cU (ai (bN + 1)) eq))) else none) else none))) else (vK eq))
def cL: Nat→aa→Int→Bool→Int→(List aa)→((List aa)→OR')→OR'
 | 0,_,_,_,_,_,_=>none
 | n + 1,ca,dI,cU,bN,eq,vK=>hO ca dI cU bN eq (fun ca dI cU bN eq=>cL n ca dI cU bN eq vK) vK
abbrev sElements_p7: SP:=⟨70,[0,3,4,5,6],[(.v .s),(.v (.ref 256 0)),(.v (.i .i64)),(.v .b),(.v (.i .i64))],[(256, .arr Ty.str 0 false)]⟩
noncomputable def qq: Code:=aD (aG Tryz.f162) [1,1,1,1,1,0,1,0,0]
def qr (f: ((List aa)→OR')→OR') (k: KT): OR':=f (fun dR=>k (Ex.exit 0) ((St.mk (aH 0 70 [(3,(AV.ref 256 0))]) ((256,(Ob.arr Ty.str 0 false dR))::([]: (List (Nat×(Ob))))))))
def qt (n: Nat) (d: sElements_p7.D): KT→OR':=qr (cL n d.1.1 d.1.2.2.1 d.1.2.2.2.1 d.1.2.2.2.2.1 d.2.1)
def tH (N: Nat): Lam:=bw [⟨7,sElements_p7,qt N⟩]
theorem yK (N: Nat): OkL Kx sElements_C.s tG 0 N (tH N) qq:=okL sElements_p7 (qt) (fun d kR=>qr (hO d.1.1 d.1.2.2.1 d.1.2.2.2.1 d.1.2.2.2.2.1 d.2.1 (fun ca dI cU bN eq=>kR ((ca,(),dI,cU,bN,()),(eq,()))))) (fun _ _=>by kernel_rfl) (fun _ _ _=>by kernel_rfl) (fun _ _=>by kernel_rfl) (fun _ _ _ _=>by kernel_rfl) (am (l':=[]) (by kernel_rfl) trivial)
def nw (N: Nat) (s: aa): OR':=(bif (decide (4000 < (s.length: Int))) then (some ((AV.ref 0 0),[.arr Ty.str 0 false ([]: (List aa))])) else (cL N s 0 false 0 ([]: (List aa)) (fun dR=>(some ((AV.ref 0 0),[.arr Ty.str 0 false dR])))))
def nx (φ: aa→Br): List AV→List Ob→Br
 | [.str s],[]=>φ s
 | _,_=> .fail
theorem vz {φ: aa→Br} (fu: aa→Nat) (hv: ∀ s res_,(φ s).val=some res_→nw (fu s) s=some res_): Sound Kx 162 (nx φ):=ar (C:=sElements_C) (O:=tG) Tryz.func162 (by kernel_rfl) fun args objs=>by
 unfold nx;split
 · rename_i s;exact .inr fun _ hyp_=>aS (Λ:=tH (fu s)) (by kernel_rfl) (am (l':=[qq]) (by kernel_rfl) ⟨yK _,trivial⟩) (by kernel_rfl) (hv s _ hyp_)
 · exact .inl rfl
def Cy: Opt:={ live:=[(4,[5,6,7])],outs:=[(4,[4,6])] }
def sJoined_C: SC:=[⟨48,_,tF⟩]
def iJ (bI: aa) (bK: Int) (cz: (List aa)) (kR4: aa→Int→(List aa)→OR') (fU: aa→OR'): OR':=
 (bif (decide (bK < (cz.length: Int))) then (bif (decide (0 < bK)) then (bif (decide ((bI.length + 2)≤9223372036854775807)) then (bif (decide (0≤bK)) then (bif (decide (bK < (cz.length: Int))) then (bif (decide (((List.length (bI++([44,32]: aa))) + (List.length (List.getD cz (Int.toNat bK) ([]: aa))))≤9223372036854775807)) then (kR4 ((bI++([44,32]: aa))++(List.getD cz (Int.toNat bK) ([]: aa))) (ai (bK + 1)) cz) else none) else none) else none) else none) else (bif (decide (0≤bK)) then (bif (decide (bK < (cz.length: Int))) then (bif (decide ((bI.length + (List.length (List.getD cz (Int.toNat bK) ([]: aa))))≤9223372036854775807)) then (kR4 (bI++(List.getD cz (Int.toNat bK) ([]: aa))) (ai (bK + 1)) cz) else none) else none) else none)) else (fU bI))
def fi: Nat→aa→Int→(List aa)→(aa→OR')→OR'
 | 0,_,_,_,_=>none
 | n + 1,bI,bK,cz,fU=>iJ bI bK cz (fun bI bK cz=>fi n bI bK cz fU) fU
abbrev sJoined_p4: SP:=⟨28,[5,6,7],[(.v (.ref 384 0)),(.v .s),(.v (.i .i64))],[(384, .arr Ty.str 0 false)]⟩
noncomputable def wJ: Code:=aD (aG Tryz.f163) [1,1,1,0,1,0,0]
def wK (f: (aa→OR')→OR') (k: KT): OR':=f (fun ja=>k (Ex.exit 0) ((St.mk (aH 0 28 [(6,(AV.str ja))]) ([]: (List (Nat×(Ob)))))))
def wL (n: Nat) (d: sJoined_p4.D): KT→OR':=wK (fi n d.1.2.1 d.1.2.2.1 d.2.1)
def Cz (N: Nat): Lam:=bw [⟨4,sJoined_p4,wL N⟩]
theorem FS (N: Nat): OkL Kx sJoined_C.s Cy 0 N (Cz N) wJ:=okL sJoined_p4 (wL) (fun d kR=>wK (iJ d.1.2.1 d.1.2.2.1 d.2.1 (fun bI bK cz=>kR (((),bI,bK,()),(cz,()))))) (fun _ _=>by kernel_rfl) (fun _ _ _=>by kernel_rfl) (fun _ _=>by kernel_rfl) (fun _ _ _ _=>by kernel_rfl) (am (l':=[]) (by kernel_rfl) trivial)
def tI (N: Nat) (l: List Fd) (name: aa): OR':=(bif (isM name) then (fi N ([]: aa) 0 (e_ l name) (fun ja=>(some ((AV.str ja),[])))) else none)
def tJ (φ: (List Fd)→aa→Br): List AV→List Ob→Br
 | [.sh (.pair .str .str) l, .str name],[]=>φ l name
 | _,_=> .fail
theorem CA {φ: (List Fd)→aa→Br} (fu: (List Fd)→aa→Nat) (hv: ∀ l name res_,(φ l name).val=some res_→tI (fu l name) l name=some res_): Sound Kx 163 (tJ φ):=ar (C:=sJoined_C) (O:=Cy) Tryz.func163 (by kernel_rfl) fun args objs=>by
 unfold tJ;split
 · rename_i l name;exact .inr fun _ hyp_=>aS (Λ:=Cz (fu l name)) (by kernel_rfl) (am (l':=[wJ]) (by kernel_rfl) ⟨FS _,trivial⟩) (by kernel_rfl) (hv l name _ hyp_)
 · exact .inl rfl
def Qe: Opt:={ live:=[(2,[0,1,5])],outs:=[(2,[4])] }
def rE (aK: (List aa)) (aM: aa) (cr: Int) (kR2: (List aa)→aa→Int→OR') (cu dn: OR'): OR':=
 (bif (decide (cr < (aK.length: Int))) then (bif (decide (0≤cr)) then (bif (decide (cr < (aK.length: Int))) then (bif (decide ((List.getD aK (Int.toNat cr) ([]: aa))=aM)) then cu else (kR2 aK aM (ai (cr + 1)))) else none) else none) else dn)
def kX: Nat→(List aa)→aa→Int→(OR')→(OR')→OR'
 | 0,_,_,_,_,_=>none
 | n + 1,aK,aM,cr,cu,dn=>rE aK aM cr (fun aK aM cr=>kX n aK aM cr cu dn) cu dn
abbrev sl5in_p2: SP:=⟨18,[0,1,5],[(.v (.sh Ty.str)),(.v .s),(.v (.i .i64))],[]⟩
noncomputable def IY: Code:=aD (aG Tryz.f105) [1,0,1,0,0]
def IZ (f: (OR')→(OR')→OR') (k: KT): OR':=f (k Ex.ret ((St.mk (aH 0 18 [(4,(AV.bool true))]) ([]: (List (Nat×(Ob))))))) (k (Ex.exit 0) ((St.mk (aH 0 18 []) ([]: (List (Nat×(Ob)))))))
def I0 (n: Nat) (d: sl5in_p2.D): KT→OR':=IZ (kX n d.1.1 d.1.2.1 d.1.2.2.1)
def Qf (N: Nat): Lam:=bw [⟨2,sl5in_p2,I0 N⟩]
theorem Qg (N: Nat): OkL Kx noS Qe 0 N (Qf N) IY:=okL sl5in_p2 (I0) (fun d kR=>IZ (rE d.1.1 d.1.2.1 d.1.2.2.1 (fun aK aM cr=>kR ((aK,aM,cr,()),())))) (fun _ _=>by kernel_rfl) (fun _ _ _=>by kernel_rfl) (fun _ _=>by kernel_rfl) (fun _ _ _ _=>by kernel_rfl) (am (l':=[]) (by kernel_rfl) trivial)
def CB (N: Nat) (l: List aa) (s: aa): OR':=(kX N l s 0 (some ((AV.bool true),[])) (some ((AV.bool false),[])))
def CC (φ: (List aa)→aa→Br): List AV→List Ob→Br
 | [.sh .str l, .str s],[]=>φ l s
 | _,_=> .fail
theorem Mz {φ: (List aa)→aa→Br} (fu: (List aa)→aa→Nat) (hv: ∀ l s res_,(φ l s).val=some res_→CB (fu l s) l s=some res_): Sound Kx 105 (CC φ):=ar (C:=[]) (O:=Qe) Tryz.func105 (by kernel_rfl) fun args objs=>by
 unfold CC;split
 · rename_i l s;exact .inr fun _ hyp_=>aS (Λ:=Qf (fu l s)) (by kernel_rfl) (am (l':=[IY]) (by kernel_rfl) ⟨Qg _,trivial⟩) (by kernel_rfl) (hv l s _ hyp_)
 · exact .inl rfl
def adW: List AV→List Ob→Br
 | [.str el, .ptr 0 0],[.var [.ref 1 0], .arr .str 0 false out]=> .ite (isM el&&decide (out.length≤100000)) (.ite (decide (cw el=[])) (.ret (.tup []) [.var [.ref 1 0], .arr .str 0 false out]) (.ret (.tup []) [.var [.ref 1 1], .arr .str 1 false (out++[cw el])])) .fail
 | [.str el, .ptr 0 0],[.var [.nil .str]]=> .ite (isM el) (.ite (decide (cw el=[])) (.ret (.tup []) [.var [.nil .str]]) (.ret (.tup []) [.var [.ref 1 0], .arr .str 0 false [cw el]])) .fail
 | _,_=> .fail
theorem abn: Sound Kx 222 adW:=by
 intro args objs res objs' hv
 unfold adW at hv
 split at hv
 · rename_i el out
   refine abl _ _ _ _ ?_
   show (FR el out).val=_
   obtain ⟨h1,h2⟩:=al hv
   rw [Bool.and_eq_true,decide_eq_true_eq] at h1
   unfold FR
   refine (bX h1.1).trans (Eq.trans ?_ h2)
   rw [cm]
   cases c: decide (cw el=[])
   · exact bX (dT' (by simp only [List.length_singleton];omega))
   · rfl
 · rename_i el
   refine Wy _ _ _ _ ?_
   show (yJ el).val=_
   obtain ⟨h1,h2⟩:=al hv
   unfold yJ
   refine (bX h1).trans (Eq.trans ?_ h2)
   rw [cm]
   cases c: decide (cw el=[])
   · rfl
   · rfl
 · cases hv
def tK: Opt:={ live:=[(7,[0,3,4,5,6,7])],outs:=[(7,[0,2,3,4,5])] }
def iElements_C: SC:=[⟨222,_,abn⟩]
def hY (ca: aa) (dI: Int) (cU: Bool) (bN: Int) (eq: (List aa)) (kR7: aa→Int→Bool→Int→(List aa)→OR') (vK: aa→Int→(List aa)→OR'): OR':=
 (bif (decide (bN < (ca.length: Int))) then (bif (decide (0≤bN)) then (bif (decide (bN < (ca.length: Int))) then (bif (decide ((aC ca bN)=34)) then (kR7 ca dI (!cU) (ai (bN + 1)) eq) else (bif cU then (bif (decide (0≤bN)) then (bif (decide (bN < (ca.length: Int))) then (bif (decide ((aC ca bN)=92)) then (kR7 ca dI cU (ai ((ai (bN + 1)) + 1)) eq) else (bif (!cU) then (bif (decide (0≤bN)) then (bif (decide (bN < (ca.length: Int))) then (bif (decide ((aC ca bN)=44)) then (bif (decide (0≤dI)) then (bif (decide (dI≤bN)) then (bif (decide (bN≤(ca.length: Int))) then (bif ((isM (cut ca dI bN))&&(decide (eq.length≤100000))) then (bif (decide ((cw (cut ca dI bN))=([]: aa))) then (kR7 ca (ai (bN + 1)) cU (ai (bN + 1)) eq) else (kR7 ca (ai (bN + 1)) cU (ai (bN + 1)) (eq++((cw (cut ca dI bN))::([]: (List aa)))))) else none) else none) else none) else none) else (kR7 ca dI cU (ai (bN + 1)) eq)) else none) else none) else (kR7 ca dI cU (ai (bN + 1)) eq))) else none) else none) else (bif (!cU) then (bif (decide (0≤bN)) then (bif (decide (bN < (ca.length: Int))) then (bif (decide ((aC ca bN)=44)) then (bif (decide (0≤dI)) then (bif (decide (dI≤bN)) then (bif (decide (bN≤(ca.length: Int))) then (bif ((isM (cut ca dI bN))&&(decide (eq.length≤100000))) then (bif (decide ((cw (cut ca dI bN))=([]: aa))) then (kR7 ca (ai (bN + 1)) cU (ai (bN + 1)) eq) else (kR7 ca (ai (bN + 1)) cU (ai (bN + 1)) (eq++((cw (cut ca dI bN))::([]: (List aa)))))) else none) else none) else none) else none) else (kR7 ca dI cU (ai (bN + 1)) eq)) else none) else none) else (kR7 ca dI cU (ai (bN + 1)) eq)))) else none) else none) else (vK ca dI eq))
def dc: Nat→aa→Int→Bool→Int→(List aa)→(aa→Int→(List aa)→OR')→OR'
 | 0,_,_,_,_,_,_=>none
 | n + 1,ca,dI,cU,bN,eq,vK=>hY ca dI cU bN eq (fun ca dI cU bN eq=>dc n ca dI cU bN eq vK) vK
abbrev iElements_p7: SP:=⟨58,[0,3,4,5,6,7],[(.v .s),(.v (.ptr 256 0)),(.v (.fn 222 [(256,0)])),(.v (.i .i64)),(.v .b),(.v (.i .i64))],[(256, .var [(.ref 257 0)]),(257, .arr Ty.str 0 false)]⟩
noncomputable def qu: Code:=aD (aG Tryz.f160) [1,1,1,1,1,0,1,0,0]
def qv (f: (aa→Int→(List aa)→OR')→OR') (k: KT): OR':=f (fun dR fP f5=>k (Ex.exit 0) ((St.mk (aH 0 58 [(0,(AV.str dR)),(3,(AV.ptr 256 0)),(4,(AV.fn 222 [.ptr 256 0])),(5,(AV.int .i64 fP))]) ((256,(Ob.var [.ref 257 0]))::((257,(Ob.arr Ty.str 0 false f5))::([]: (List (Nat×(Ob)))))))))
def qw (n: Nat) (d: iElements_p7.D): KT→OR':=qv (dc n d.1.1 d.1.2.2.2.1 d.1.2.2.2.2.1 d.1.2.2.2.2.2.1 d.2.2.1)
def tL (N: Nat): Lam:=bw [⟨7,iElements_p7,qw N⟩]
theorem yL (N: Nat): OkL Kx iElements_C.s tK 0 N (tL N) qu:=okL iElements_p7 (qw) (fun d kR=>qv (hY d.1.1 d.1.2.2.2.1 d.1.2.2.2.2.1 d.1.2.2.2.2.2.1 d.2.2.1 (fun ca dI cU bN eq=>kR ((ca,(),(),dI,cU,bN,()),(((),()),eq,()))))) (fun _ _=>by kernel_rfl) (fun _ _ _=>by kernel_rfl) (fun _ _=>by kernel_rfl) (fun _ _ _ _=>by kernel_rfl) (am (l':=[]) (by kernel_rfl) trivial)
def ny (N: Nat) (s: aa): OR':=(bif (decide (4000 < (s.length: Int))) then (some ((AV.ref 0 0),[.arr Ty.str 0 false ([]: (List aa))])) else (dc N s 0 false 0 ([]: (List aa)) (fun dR fP f5=>(bif (decide (0≤fP)) then (bif (decide (fP≤(dR.length: Int))) then (bif ((isM (cut dR fP (dR.length: Int)))&&(decide (f5.length≤100000))) then (bif (decide ((cw (cut dR fP (dR.length: Int)))=([]: aa))) then (some ((AV.ref 0 0),[.arr Ty.str 0 false f5])) else (some ((AV.ref 0 0),[.arr Ty.str 0 false (f5++((cw (cut dR fP (dR.length: Int)))::([]: (List aa))))]))) else none) else none) else none))))
def nz (φ: aa→Br): List AV→List Ob→Br
 | [.str s],[]=>φ s
 | _,_=> .fail
theorem vA {φ: aa→Br} (fu: aa→Nat) (hv: ∀ s res_,(φ s).val=some res_→ny (fu s) s=some res_): Sound Kx 160 (nz φ):=ar (C:=iElements_C) (O:=tK) Tryz.func160 (by kernel_rfl) fun args objs=>by
 unfold nz;split
 · rename_i s;exact .inr fun _ hyp_=>aS (Λ:=tL (fu s)) (by kernel_rfl) (am (l':=[qu]) (by kernel_rfl) ⟨yL _,trivial⟩) (by kernel_rfl) (hv s _ hyp_)
 · exact .inl rfl
def gX: aa→Bool→aa→List aa
 | cur,_,[]=>[cur]
 | cur,q,c::r=>
   bif decide (by8 c=34) then gX (cur++[c]) (!q) r
   else bif q&&decide (by8 c=92) then (match r with | []=>[cur++[c]] | d::r'=>gX (cur++[c,d]) q r')
   else bif !q&&decide (by8 c=44) then cur::gX [] q r
   else gX (cur++[c]) q r
theorem oC (cur: aa) (q: Bool) (c: UInt8) (r: aa): gX cur q (c::r)=bif decide (by8 c=34) then gX (cur++[c]) (!q) r
 else bif q&&decide (by8 c=92) then (match r with | []=>[cur++[c]] | d::r'=>gX (cur++[c,d]) q r')
 else bif !q&&decide (by8 c=44) then cur::gX [] q r
 else gX (cur++[c]) q r:=by cases r <;> rfl
theorem kx (cur: aa) (q: Bool): gX cur q []=[cur]:=rfl
def jX: List aa→List aa
 | []=>[]
 | x::r=>bif decide (cw x=[]) then jX r else cw x::jX r
def q7 (s: aa): List aa:=bif decide (4000 < (s.length: Int)) then [] else jX (gX [] false s)
theorem adX (l: aa): decide ((0 : Int) < (l.length: Int))= !decide (l=[]):=by cases l <;> simp
theorem ky (x: aa) (r: List aa): jX (x::r)=bif decide (cw x=[]) then jX r else cw x::jX r:=rfl
theorem vB (s: aa) (hl: s.length≤4000) (k: List aa→OR'): ∀ (n: Nat) (p cur r: aa) (q: Bool) (out: List aa) (i fr: Int),s=p++cur++r→i=((p.length + cur.length: Nat): Int)→fr=(p.length: Int)→r.length + 1 < n→out.length≤p.length→
 cL n s fr q i out k=k (out++jX (gX cur q r)):=by
 intro n;induction n with
 | zero=>intro p cur r q out i fr hs hi hf hn;omega
 | succ n ih=>
   intro p cur r q out i fr hs hi hf hn ho
   have hat: At s i r:=⟨p++cur,hs,by rw [hi];simp⟩
   have hlen: s.length=p.length + cur.length + r.length:=by rw [hs];simp;omega
   have hcut: cut s fr i=cur:=by rw [hs,hi,hf,Int.natCast_add];exact tj p cur r
   have hnf: decide (0≤fr)=true:=dT' (by omega)
   have hfi: decide (fr≤i)=true:=dT' (by omega)
   have hil: decide (i≤(s.length: Int))=true:=dT' (by omega)
   have hM: isM cur=true:=bW (n:=4000) (by omega)
   have hw: ai (i + 1)=i + 1:=w64 (by omega) (by omega)
   have hap: decide ((out.length + [cw cur].length) * 16≤140737488355328)=true:=dT' (by simp only [List.length_singleton];omega)
   unfold cL hO
   simp only [hcut,hnf,hfi,hil,hM,hw,hap,cm,adX,cond_true,hat.dnn]
   cases r with
   | nil=>
     have he: decide (i=(s.length: Int))=true:=dT' (by simp only [List.length_nil] at hlen;omega)
     simp only [List.length_nil] at hn
     obtain ⟨m,rfl⟩: ∃ m,n=m + 1:=⟨n - 1,by omega⟩
     have hx: decide (i + 1≤(s.length: Int))=false:=dF' (by simp only [List.length_nil] at hlen;omega)
     have hend: ∀ o,cL (m + 1) s (i + 1) q (i + 1) o k=k o:=fun o=>by unfold cL hO;rw [hx,cond_false]
     simp only [he,cond_true,hend,kx,ky,jX]
     cases decide (cw cur=[]) <;> simp
   | cons c r=>
     have he: decide (i=(s.length: Int))=false:=dF' (by simp only [List.length_cons] at hlen;omega)
     simp only [List.length_cons] at hn hlen
     have hstep: ∀ q',cL n s fr q' (i + 1) out k=k (out++jX (gX (cur++[c]) q' r)):=fun q'=>
      ih p (cur++[c]) r q' out (i + 1) fr (by rw [hs];simp) (by rw [hi];simp;omega) hf (by omega) ho
     have hcom: ∀ q' o,o.length≤p.length + 1→cL n s (i + 1) q' (i + 1) o k=k (o++jX (gX [] q' r)):=fun q' o ho'=>
      ih (p++cur++[c]) [] r q' o (i + 1) (i + 1) (by rw [hs];simp) (by rw [hi];simp;omega) (by rw [hi];simp;omega) (by omega) (by simp;omega)
     have h0:=hcom q out (by omega)
     have h1:=hcom q (out++[cw cur]) (by simp;omega)
     simp only [he,hat.dlt,hat.dnn,hat.str,cond_true,cond_false,h0,h1,hstep]
     rw [oC]
     cases c1: decide (by8 c=34)
     · cases q
       · cases c3: decide (by8 c=44)
         · simp
         · simp only [Bool.not_false,Bool.false_and,Bool.true_and,cond_true,cond_false,ky]
           cases decide (cw cur=[]) <;> simp
       · cases c2: decide (by8 c=92)
         · simp
         · simp only [Bool.not_true,Bool.true_and,cond_true,cond_false]
           cases r with
           | nil=>
             have hx: decide (i + 1 < (s.length: Int))=false:=dF' (by simp only [List.length_nil] at hlen;omega)
             simp only [hx,cond_false,kx]
           | cons d r=>
             have hx: decide (i + 1 < (s.length: Int))=true:=dT' (by simp only [List.length_cons] at hlen;omega)
             have hw2: ai (i + 1 + 1)=i + 1 + 1:=w64 (by omega) (by omega)
             simp only [List.length_cons] at hn hlen
             simp only [hx,cond_true,hw2]
             exact ih p (cur++[c,d]) r true out _ fr (by rw [hs];simp) (by rw [hi];simp;omega) hf (by omega) ho
     · have c3: decide (by8 c=44)=false:=dF' (by have:=of_decide_eq_true c1;omega)
       cases q <;> simp [c3]
theorem vC (s: aa) (hl: s.length≤4000) (k: aa→Int→List aa→OR') (K: List aa→OR')
 (hk: ∀ (p cur: aa) (fr: Int) (out: List aa),s=p++cur→fr=(p.length: Int)→out.length≤p.length→k s fr out=K (out++jX [cur])): ∀ (n: Nat) (p cur r: aa) (q: Bool) (out: List aa) (i fr: Int),s=p++cur++r→i=((p.length + cur.length: Nat): Int)→fr=(p.length: Int)→r.length < n→out.length≤p.length→
 dc n s fr q i out k=K (out++jX (gX cur q r)):=by
 intro n;induction n with
 | zero=>intro p cur r q out i fr hs hi hf hn;omega
 | succ n ih=>
   intro p cur r q out i fr hs hi hf hn ho
   have hat: At s i r:=⟨p++cur,hs,by rw [hi];simp⟩
   have hlen: s.length=p.length + cur.length + r.length:=by rw [hs];simp;omega
   have hcut: cut s fr i=cur:=by rw [hs,hi,hf,Int.natCast_add];exact tj p cur r
   have hnf: decide (0≤fr)=true:=dT' (by omega)
   have hfi: decide (fr≤i)=true:=dT' (by omega)
   have hil: decide (i≤(s.length: Int))=true:=dT' (by omega)
   have hM: isM cur=true:=bW (n:=4000) (by omega)
   have hw: ai (i + 1)=i + 1:=w64 (by omega) (by omega)
   have hap: decide (out.length≤100000)=true:=dT' (by omega)
   unfold dc hY
   simp only [hcut,hnf,hfi,hil,hM,hw,hap,cond_true,hat.dnn,Bool.and_self]
   cases r with
   | nil=>
     simp only [hat.dge,cond_false,kx]
     exact hk p cur fr out (by rw [hs];simp) hf ho
   | cons c r=>
     simp only [List.length_cons] at hn hlen
     have hstep: ∀ q',dc n s fr q' (i + 1) out k=K (out++jX (gX (cur++[c]) q' r)):=fun q'=>
      ih p (cur++[c]) r q' out (i + 1) fr (by rw [hs];simp) (by rw [hi];simp;omega) hf (by omega) ho
     have hcom: ∀ q' o,o.length≤p.length + 1→dc n s (i + 1) q' (i + 1) o k=K (o++jX (gX [] q' r)):=fun q' o ho'=>
      ih (p++cur++[c]) [] r q' o (i + 1) (i + 1) (by rw [hs];simp) (by rw [hi];simp;omega) (by rw [hi];simp;omega) (by omega) (by simp;omega)
     have h0:=hcom q out (by omega)
     have h1:=hcom q (out++[cw cur]) (by simp;omega)
     simp only [hat.dlt,hat.dnn,hat.str,cond_true,cond_false,h0,h1,hstep]
     rw [oC]
     cases c1: decide (by8 c=34)
     · cases q
       · cases c3: decide (by8 c=44)
         · simp
         · simp only [Bool.not_false,Bool.false_and,Bool.true_and,cond_true,cond_false,ky]
           cases decide (cw cur=[]) <;> simp
       · cases c2: decide (by8 c=92)
         · simp
         · simp only [Bool.not_true,Bool.true_and,cond_true,cond_false]
           have hw2: ai (i + 1 + 1)=i + 1 + 1:=w64 (by omega) (by omega)
           cases r with
           | nil=>
             simp only [List.length_nil] at hn hlen
             obtain ⟨m,rfl⟩: ∃ m,n=m + 1:=⟨n - 1,by omega⟩
             have hx: decide (i + 1 + 1 < (s.length: Int))=false:=dF' (by omega)
             rw [hw2]
             unfold dc hY
             simp only [hx,cond_false]
             exact hk p (cur++[c]) fr out (by rw [hs];simp) hf ho
           | cons d r=>
             simp only [List.length_cons] at hn hlen
             rw [hw2]
             exact ih p (cur++[c,d]) r true out _ fr (by rw [hs];simp) (by rw [hi];simp;omega) hf (by omega) ho
     · have c3: decide (by8 c=44)=false:=dF' (by have:=of_decide_eq_true c1;omega)
       cases q <;> simp [c3]
def af_ (p: aa→List aa): List AV→List Ob→Br
 | [.str s],[]=> .ret (.ref 0 0) [.arr .str 0 false (p s)]
 | _,_=> .fail
theorem yM: Sound Kx 162 (af_ q7):=by
 refine (vz (φ:=fun s=> .ret (.ref 0 0) [.arr .str 0 false (q7 s)]) (fun s=>s.length + 2) fun s r h=>?_).of fun args objs r h=>?_
 · cases h
   unfold nw q7
   cases c: decide (4000 < (s.length: Int))
   · have:=of_decide_eq_false c
     simp only [cond_false]
     rw [vB s (by omega) _ (s.length + 2) [] [] s false [] 0 0 rfl rfl rfl (by omega) (by simp)]
     rfl
   · rfl
 · unfold af_ at h;split at h
   · exact h
   · cases h
theorem MA (p m: aa): cut (p++m) (p.length: Int) ((p++m).length: Int)=m:=by
 have:=tj p m []
 rw [List.append_nil] at this
 rw [← Int.natCast_add,← List.length_append] at this
 exact this
theorem yN: Sound Kx 160 (af_ q7):=by
 refine (vA (φ:=fun s=> .ret (.ref 0 0) [.arr .str 0 false (q7 s)]) (fun s=>s.length + 2) fun s r h=>?_).of fun args objs r h=>?_
 · cases h
   unfold ny q7
   cases c: decide (4000 < (s.length: Int))
   · have hl:=of_decide_eq_false c
     simp only [cond_false]
     rw [vC s (by omega) _ (fun o=>some (.ref 0 0,[.arr .str 0 false o])) ?_ (s.length + 2) [] [] s false [] 0 0 rfl rfl rfl (by omega) (by simp)]
     · rfl
     · intro p cur fr out hs hf ho
       have hlen: s.length=p.length + cur.length:=by rw [hs];simp
       have h1: cut s fr (s.length: Int)=cur:=by rw [hs,hf];exact MA p cur
       have h2: isM cur=true:=bW (n:=4000) (by omega)
       simp only [h1,h2,dT' (show 0≤fr by omega),dT' (show fr≤(s.length: Int) by omega),dT' (show out.length≤100000 by omega),Bool.and_self,cond_true,ky,jX]
       cases decide (cw cur=[]) <;> simp
   · rfl
 · unfold af_ at h;split at h
   · exact h
   · cases h
def Wz: SC:=[⟨293,_,lZ⟩,⟨197,_,l4⟩,⟨244,_,fh⟩]
def tM (b: Int): Br:=(.ite (jV b) (.ret (AV.bool true) []) (.ite (Fj b) (.ret (AV.bool true) []) (.ite (aJ b) (.ret (AV.bool true) []) (.ite (decide (b=45)) (.ret (AV.bool true) []) (.ite (decide (b=46)) (.ret (AV.bool true) []) (.ite (decide (b=95)) (.ret (AV.bool true) []) (.ret (AV.bool (decide (b=126))) [])))))))
def I1: List AV→List Ob→Br
 | [.int .u8 b],[]=>tM b
 | _,_=> .fail
theorem Qh: Sound Kx 336 I1:=ah (C:=Wz) (O:=O0) Tryz.func336 (by kernel_rfl) fun args objs=>by
 unfold I1;split
 · exact .inr (by kernel_rfl)
 · exact .inl rfl
def abo: SC:=[⟨244,_,fh⟩]
def yO (b: Int): Br:=(.ite (aJ b) (.ret (AV.int .i64 (ai (wk8 (b - 48)))) []) (.ite (decide (97≤b)) (.ite (decide (b≤102)) (.ret (AV.int .i64 (ai ((ai (wk8 (b - 97))) + 10))) []) (.ite (decide (65≤b)) (.ite (decide (b≤70)) (.ret (AV.int .i64 (ai ((ai (wk8 (b - 65))) + 10))) []) (.ret (AV.int .i64 (-1)) [])) (.ret (AV.int .i64 (-1)) []))) (.ite (decide (65≤b)) (.ite (decide (b≤70)) (.ret (AV.int .i64 (ai ((ai (wk8 (b - 65))) + 10))) []) (.ret (AV.int .i64 (-1)) [])) (.ret (AV.int .i64 (-1)) []))))
def Qi: List AV→List Ob→Br
 | [.int .u8 b],[]=>yO b
 | _,_=> .fail
theorem hexOf_ok: Sound Kx 335 Qi:=ah (C:=abo) (O:=O0) Tryz.func335 (by kernel_rfl) fun args objs=>by
 unfold Qi;split
 · exact .inr (by kernel_rfl)
 · exact .inl rfl
def abp: SC:=[⟨164,_,kL⟩,⟨213,_,iD⟩,⟨282,_,IQ⟩]
def yP (b: Int): Br:=(.ite ((decide (0≤b))&&(decide (b < 256))) (.ite (decide (97≤(iC b))) (.ite (decide ((iC b)≤122)) (.ret (AV.bool true) []) (.ite (aJ b) (.ret (AV.bool true) []) (.ret (AV.bool (cW ([45,46,95,126]: aa) b)) []))) (.ite (aJ b) (.ret (AV.bool true) []) (.ret (AV.bool (cW ([45,46,95,126]: aa) b)) []))) .fail)
def Qj: List AV→List Ob→Br
 | [.int .u8 b],[]=>yP b
 | _,_=> .fail
theorem sfree_ok: Sound Kx 324 Qj:=ah (C:=abp) (O:=O0) Tryz.func324 (by kernel_rfl) fun args objs=>by
 unfold Qj;split
 · exact .inr (by kernel_rfl)
 · exact .inl rfl
def tN (b: Int): Br:=(.ite (decide (97≤b)) (.ite (decide (b≤122)) (.ret (AV.int .u8 (wk8 (b - 32))) []) (.ret (AV.int .u8 b) [])) (.ret (AV.int .u8 b) []))
def I3: List AV→List Ob→Br
 | [.int .u8 b],[]=>tN b
 | _,_=> .fail
theorem supper_ok: Sound Kx 325 I3:=ah (C:=[]) (O:=O0) Tryz.func325 (by kernel_rfl) fun args objs=>by
 unfold I3;split
 · exact .inr (by kernel_rfl)
 · exact .inl rfl
def abq: SC:=[⟨293,_,lZ⟩,⟨244,_,fh⟩]
def yQ (b: Int): Br:=(.ite (jV b) (.ret (AV.bool true) []) (.ite (aJ b) (.ret (AV.bool true) []) (.ite (decide (b=45)) (.ret (AV.bool true) []) (.ret (AV.bool (decide (b=46))) []))))
def Qk: List AV→List Ob→Br
 | [.int .u8 b],[]=>yQ b
 | _,_=> .fail
theorem WA: Sound Kx 337 Qk:=ah (C:=abq) (O:=O0) Tryz.func337 (by kernel_rfl) fun args objs=>by
 unfold Qk;split
 · exact .inr (by kernel_rfl)
 · exact .inl rfl
def wM: Opt:={ live:=[(5,[0,4,5])],outs:=[(5,[2,3,4])] }
def sReadHex_C: SC:=[⟨164,_,kL⟩,⟨213,_,iD⟩]
def ju (aI: aa) (aR aF: Int) (kR5: aa→Int→Int→OR') (cR Lq: Int→OR'): OR':=
 (bif (decide (aF < (aI.length: Int))) then (bif (decide (0≤aF)) then (bif (decide (aF < (aI.length: Int))) then (bif ((decide (0≤(aC aI aF)))&&(decide ((aC aI aF) < 256))) then (bif (aJ (iC (aC aI aF))) then (kR5 aI (ai ((ai (aR * 16)) + (ai (wk8 ((iC (aC aI aF)) - 48))))) (ai (aF + 1))) else (bif (decide (97≤(iC (aC aI aF)))) then (bif (decide ((iC (aC aI aF))≤102)) then (kR5 aI (ai ((ai ((ai (aR * 16)) + (ai (wk8 ((iC (aC aI aF)) - 97))))) + 10)) (ai (aF + 1))) else (cR aR)) else (cR aR))) else none) else none) else none) else (Lq aR))
def eu: Nat→aa→Int→Int→(Int→OR')→(Int→OR')→OR'
 | 0,_,_,_,_,_=>none
 | n + 1,aI,aR,aF,cR,Lq=>ju aI aR aF (fun aI aR aF=>eu n aI aR aF cR Lq) cR Lq
abbrev sReadHex_p5: SP:=⟨49,[0,4,5],[(.v .s),(.v (.i .i64)),(.v (.i .i64))],[]⟩
noncomputable def tO: Code:=aD (aG Tryz.f323) [1,1,1,0,1,0,0]
def tP (f: (Int→OR')→(Int→OR')→OR') (k: KT): OR':=f (fun ap=>k Ex.ret ((St.mk (aH 0 49 [(2,(AV.int .i64 0)),(3,(AV.bool false)),(4,(AV.int .i64 ap))]) ([]: (List (Nat×(Ob))))))) (fun va=>k (Ex.exit 0) ((St.mk (aH 0 49 [(4,(AV.int .i64 va))]) ([]: (List (Nat×(Ob)))))))
def tQ (n: Nat) (d: sReadHex_p5.D): KT→OR':=tP (eu n d.1.1 d.1.2.1 d.1.2.2.1)
def wN (N: Nat): Lam:=bw [⟨5,sReadHex_p5,tQ N⟩]
theorem CD (N: Nat): OkL Kx sReadHex_C.s wM 0 N (wN N) tO:=okL sReadHex_p5 (tQ) (fun d kR=>tP (ju d.1.1 d.1.2.1 d.1.2.2.1 (fun aI aR aF=>kR ((aI,aR,aF,()),())))) (fun _ _=>by kernel_rfl) (fun _ _ _=>by kernel_rfl) (fun _ _=>by kernel_rfl) (fun _ _ _ _=>by kernel_rfl) (am (l':=[]) (by kernel_rfl) trivial)
def qx (N: Nat) (s: aa): OR':=(bif (decide ((s.length: Int)=0)) then (some ((AV.tup [.int .i64 0,.bool false]),[])) else (bif (decide (7 < (s.length: Int))) then (some ((AV.tup [.int .i64 0,.bool false]),[])) else (eu N s 0 0 (fun ap=>(some ((AV.tup [.int .i64 0,.bool false]),[]))) (fun va=>(some ((AV.tup [.int .i64 va,.bool true]),[]))))))
def qy (φ: aa→Br): List AV→List Ob→Br
 | [.str s],[]=>φ s
 | _,_=> .fail
theorem yR {φ: aa→Br} (fu: aa→Nat) (hv: ∀ s res_,(φ s).val=some res_→qx (fu s) s=some res_): Sound Kx 323 (qy φ):=ar (C:=sReadHex_C) (O:=wM) Tryz.func323 (by kernel_rfl) fun args objs=>by
 unfold qy;split
 · rename_i s;exact .inr fun _ hyp_=>aS (Λ:=wN (fu s)) (by kernel_rfl) (am (l':=[tO]) (by kernel_rfl) ⟨CD _,trivial⟩) (by kernel_rfl) (hv s _ hyp_)
 · exact .inl rfl
def I4: Opt:={ live:=[(4,[0,1,5,6,7])],outs:=[(4,[4,5])] }
def nA (bI: aa) (bK cz fa: Int) (mY: (List aa)) (kR4: aa→Int→Int→Int→(List aa)→OR') (fU: (List aa)→OR'): OR':=
 (bif (decide (fa≤(bI.length: Int))) then (bif (decide (fa=(bI.length: Int))) then (bif (decide (0≤cz)) then (bif (decide (cz≤fa)) then (bif (decide (fa≤(bI.length: Int))) then (bif (decide (((mY.length + (List.length (List.set (List.replicate 1 ([]: aa)) 0 (cut bI cz fa)))) * 16)≤140737488355328)) then (kR4 bI bK (ai (fa + 1)) (ai (fa + 1)) (mY++(List.set (List.replicate 1 ([]: aa)) 0 (cut bI cz fa)))) else none) else none) else none) else none) else (bif (decide (0≤fa)) then (bif (decide (fa < (bI.length: Int))) then (bif (decide ((aC bI fa)=bK)) then (bif (decide (0≤cz)) then (bif (decide (cz≤fa)) then (bif (decide (fa≤(bI.length: Int))) then (bif (decide (((mY.length + (List.length (List.set (List.replicate 1 ([]: aa)) 0 (cut bI cz fa)))) * 16)≤140737488355328)) then (kR4 bI bK (ai (fa + 1)) (ai (fa + 1)) (mY++(List.set (List.replicate 1 ([]: aa)) 0 (cut bI cz fa)))) else none) else none) else none) else none) else (kR4 bI bK cz (ai (fa + 1)) mY)) else none) else none)) else (fU mY))
def gA: Nat→aa→Int→Int→Int→(List aa)→((List aa)→OR')→OR'
 | 0,_,_,_,_,_,_=>none
 | n + 1,bI,bK,cz,fa,mY,fU=>nA bI bK cz fa mY (fun bI bK cz fa mY=>gA n bI bK cz fa mY fU) fU
abbrev ssplit_p4: SP:=⟨35,[0,1,5,6,7],[(.v .s),(.v (.i .u8)),(.v (.ref 384 0)),(.v (.i .i64)),(.v (.i .i64))],[(384, .arr Ty.str 0 false)]⟩
noncomputable def CE: Code:=aD (aG Tryz.f301) [1,1,1,0,1,0,0]
def CF (f: ((List aa)→OR')→OR') (k: KT): OR':=f (fun ja=>k (Ex.exit 0) ((St.mk (aH 0 35 [(5,(AV.ref 384 0))]) ((384,(Ob.arr Ty.str 0 false ja))::([]: (List (Nat×(Ob))))))))
def CG (n: Nat) (d: ssplit_p4.D): KT→OR':=CF (gA n d.1.1 d.1.2.1 d.1.2.2.2.1 d.1.2.2.2.2.1 d.2.1)
def I5 (N: Nat): Lam:=bw [⟨4,ssplit_p4,CG N⟩]
theorem MB (N: Nat): OkL Kx noS I4 0 N (I5 N) CE:=okL ssplit_p4 (CG) (fun d kR=>CF (nA d.1.1 d.1.2.1 d.1.2.2.2.1 d.1.2.2.2.2.1 d.2.1 (fun bI bK cz fa mY=>kR ((bI,bK,(),cz,fa,()),(mY,()))))) (fun _ _=>by kernel_rfl) (fun _ _ _=>by kernel_rfl) (fun _ _=>by kernel_rfl) (fun _ _ _ _=>by kernel_rfl) (am (l':=[]) (by kernel_rfl) trivial)
def wP (N: Nat) (s: aa) (b: Int): OR':=(gA N s b 0 0 ([]: (List aa)) (fun ja=>(some ((AV.ref 0 0),[.arr Ty.str 0 false ja]))))
def wQ (φ: aa→Int→Br): List AV→List Ob→Br
 | [.str s, .int .u8 b],[]=>φ s b
 | _,_=> .fail
theorem FT {φ: aa→Int→Br} (fu: aa→Int→Nat) (hv: ∀ s b res_,(φ s b).val=some res_→wP (fu s b) s b=some res_): Sound Kx 301 (wQ φ):=ar (C:=[]) (O:=I4) Tryz.func301 (by kernel_rfl) fun args objs=>by
 unfold wQ;split
 · rename_i s b;exact .inr fun _ hyp_=>aS (Λ:=I5 (fu s b)) (by kernel_rfl) (am (l':=[CE]) (by kernel_rfl) ⟨MB _,trivial⟩) (by kernel_rfl) (hv s b _ hyp_)
 · exact .inl rfl
def adY (s p: aa): Br:=(.ite (decide ((p.length: Int)≤(s.length: Int))) (.ite (decide (0≤(p.length: Int))) (.ite (decide ((p.length: Int)≤(s.length: Int))) (.ret (AV.bool (decide ((cut s 0 (p.length: Int))=p))) []) .fail) .fail) (.ret (AV.bool false) []))
def adZ: List AV→List Ob→Br
 | [.str s, .str p],[]=>adY s p
 | _,_=> .fail
theorem ad0: Sound Kx 196 adZ:=ah (C:=[]) (O:=O0) Tryz.func196 (by kernel_rfl) fun args objs=>by
 unfold adZ;split
 · exact .inr (by kernel_rfl)
 · exact .inl rfl
def agH: SC:=[⟨196,_,ad0⟩]
def ad1 (s p: aa): Br:=(.ite (decide ((p.length: Int)≤(s.length: Int))) (.ite (decide (0≤(p.length: Int))) (.ite (decide ((p.length: Int)≤(s.length: Int))) (.ret (AV.bool (decide ((cut s 0 (p.length: Int))=p))) []) .fail) .fail) (.ret (AV.bool false) []))
def ad2: List AV→List Ob→Br
 | [.str s, .str p],[]=>ad1 s p
 | _,_=> .fail
theorem Ql: Sound Kx 117 ad2:=ah (C:=agH) (O:=O0) Tryz.func117 (by kernel_rfl) fun args objs=>by
 unfold ad2;split
 · exact .inr (by kernel_rfl)
 · exact .inl rfl
end
end Go.Proofs.YtgknmoadpgpdeaaGreatDoor.Ev
