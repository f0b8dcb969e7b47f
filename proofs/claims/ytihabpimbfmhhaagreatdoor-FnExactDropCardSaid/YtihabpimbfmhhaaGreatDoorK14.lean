/- The texts Ext1, La, Lb, Lc, Ld, Ua, Le, Lf, Lg, Lh, Li, Lj, Lk, Ll, Lm, Ln, Na, Nb, Nc, Nd, one behind the other. -/
import Derived.Test.YtihabpimbfmhhaaGreatDoorK13
import Derived.Lib.Bytealg
namespace Go.Proofs.YtihabpimbfmhhaaGreatDoor.Ev
open Go Go.RowKit
set_option linter.unusedVariables false
set_option linter.unusedSimpArgs false
def He (s:List UInt8) (c:Int):Int:=Go.Lib.indexByte s c.toNat.toUInt8
def KK (s:List UInt8) (c:Int):Br:=.ret (.int .i64 (He s c)) []
def Ju:List AV→List Ob→Br
 | [.str s,.int .u8 c],[]=>KK s c
 |_,_=>.fail
theorem KL:Sound Kx 388 Ju:=by
 intro args objs res objs' hv w L vs hR ho hr
 unfold Ju at hv
 split at hv
 ·rename_i s c
  cases hv
  simp only [aA,rel]at hr
  obtain⟨v1,cs1,rfl,rfl,v2,cs2,rfl,rfl,rfl⟩:=hr
  refine .inr ⟨.int .i64 (Go.Lib.indexByte s c.toNat.toUInt8),w, ?_,L,hR,ho, ?_,by simp [rel,He]⟩
  ·have:=run_callFunc_extern (P:=Kx.P) (f:=388) (e:=Extern.BytealgIndexByte.indexByte) Tryz.func388 (by kernel_rfl) (by kernel_rfl) (by kernel_rfl) (by kernel_rfl) #[.string ⟨s.toArray⟩,.int .u8 c] w
   refine this.trans ?_
   rw [Go.Lib.run_indexByteString]
   simp [Result.andThen,He]
  ·exact Kept.refl _ _
 ·cases hv
end Go.Proofs.YtihabpimbfmhhaaGreatDoor.Ev
namespace Go.Proofs.YtihabpimbfmhhaaGreatDoor.Ev
open Go Go.RowKit
set_option linter.unusedVariables false
set_option linter.unusedSimpArgs false
noncomputable section
def Ba (b:Int):Br:=(Br.ite (decide (97≤b)) (Br.ret (AV.bool (decide (b≤122))) []) (Br.ret (AV.bool false) []))
def s7:List AV→List Ob→Br
 | [.int .u8 b],[]=>Ba b
 |_,_=>.fail
theorem Bb:Sound Kx 310 s7:=ae (C:=[]) (O:=O0) Tryz.func310 (by kernel_rfl) fun args objs=>by
 unfold s7;split
 ·exact .inr (by kernel_rfl)
 ·exact .inl rfl
def Bc (b:Int):Br:=(Br.ite (decide (65≤b)) (Br.ret (AV.bool (decide (b≤90))) []) (Br.ret (AV.bool false) []))
def s8:List AV→List Ob→Br
 | [.int .u8 b],[]=>Bc b
 |_,_=>.fail
theorem Be:Sound Kx 238 s8:=ae (C:=[]) (O:=O0) Tryz.func238 (by kernel_rfl) fun args objs=>by
 unfold s8;split
 ·exact .inr (by kernel_rfl)
 ·exact .inl rfl
def Bf (b:Int):Br:=(Br.ite (decide (48≤b)) (Br.ret (AV.bool (decide (b≤57))) []) (Br.ret (AV.bool false) []))
def s9:List AV→List Ob→Br
 | [.int .u8 b],[]=>Bf b
 |_,_=>.fail
theorem Bg:Sound Kx 311 s9:=ae (C:=[]) (O:=O0) Tryz.func311 (by kernel_rfl) fun args objs=>by
 unfold s9;split
 ·exact .inr (by kernel_rfl)
 ·exact .inl rfl
def Bh (b:Int):Br:=(Br.ite (decide (b=32)) (Br.ret (AV.bool true) []) (Br.ret (AV.bool (decide (b=9))) []))
def s_:List AV→List Ob→Br
 | [.int .u8 b],[]=>Bh b
 |_,_=>.fail
theorem Bi:Sound Kx 256 s_:=ae (C:=[]) (O:=O0) Tryz.func256 (by kernel_rfl) fun args objs=>by
 unfold s_;split
 ·exact .inr (by kernel_rfl)
 ·exact .inl rfl
def jc (b:Int):Br:=(Br.ite (decide (b=9)) (Br.ret (AV.bool true) []) (Br.ite (decide (32≤b)) (Br.ret (AV.bool (!(decide (b=127)))) []) (Br.ret (AV.bool false) [])))
def tb:List AV→List Ob→Br
 | [.int .u8 b],[]=>jc b
 |_,_=>.fail
theorem Bj:Sound Kx 192 tb:=ae (C:=[]) (O:=O0) Tryz.func192 (by kernel_rfl) fun args objs=>by
 unfold tb;split
 ·exact .inr (by kernel_rfl)
 ·exact .inl rfl
def tc (b:Int):Br:=(Br.ite (decide (33≤b)) (Br.ret (AV.bool (decide (b≤126))) []) (Br.ret (AV.bool false) []))
def ma:List AV→List Ob→Br
 | [.int .u8 b],[]=>tc b
 |_,_=>.fail
theorem td:Sound Kx 194 ma:=ae (C:=[]) (O:=O0) Tryz.func194 (by kernel_rfl) fun args objs=>by
 unfold ma;split
 ·exact .inr (by kernel_rfl)
 ·exact .inl rfl
def Bk:SC:=[⟨124,_,bZ⟩]
def wu (n:Int):Br:=(Br.ite (decide (200≤n)) (Br.ret (AV.bool (decide (n≤599))) []) (Br.ret (AV.bool false) []))
def oP:List AV→List Ob→Br
 | [.int .i64 n],[]=>wu n
 |_,_=>.fail
theorem wv:Sound Kx 138 oP:=ae (C:=Bk) (O:=O0) Tryz.func138 (by kernel_rfl) fun args objs=>by
 unfold oP;split
 ·exact .inr (by kernel_rfl)
 ·exact .inl rfl
def mb (n:Int):Br:=(Br.ite (decide (n=204)) (Br.ret (AV.bool true) []) (Br.ret (AV.bool (decide (n=304))) []))
def gg:List AV→List Ob→Br
 | [.int .i64 n],[]=>mb n
 |_,_=>.fail
theorem mc:Sound Kx 140 gg:=ae (C:=[]) (O:=O0) Tryz.func140 (by kernel_rfl) fun args objs=>by
 unfold gg;split
 ·exact .inr (by kernel_rfl)
 ·exact .inl rfl
def md (b:Int):Br:=(Br.ite (decide (65≤b)) (Br.ite (decide (b≤90)) (Br.ret (AV.int .u8 (wk8 (b+32))) []) (Br.ret (AV.int .u8 b) [])) (Br.ret (AV.int .u8 b) []))
def yy:List AV→List Ob→Br
 | [.int .u8 b],[]=>md b
 |_,_=>.fail
theorem slower_ok:Sound Kx 212 yy:=ae (C:=[]) (O:=O0) Tryz.func212 (by kernel_rfl) fun args objs=>by
 unfold yy;split
 ·exact .inr (by kernel_rfl)
 ·exact .inl rfl
def DU (b:Int):Br:=(Br.ite (decide (b=32)) (Br.ret (AV.bool true) []) (Br.ret (AV.bool (decide (b=9))) []))
def yz:List AV→List Ob→Br
 | [.int .u8 b],[]=>DU b
 |_,_=>.fail
theorem DV:Sound Kx 254 yz:=ae (C:=[]) (O:=O0) Tryz.func254 (by kernel_rfl) fun args objs=>by
 unfold yz;split
 ·exact .inr (by kernel_rfl)
 ·exact .inl rfl
def DW (b:Int):Br:=(Br.ite (decide (48≤b)) (Br.ret (AV.bool (decide (b≤57))) []) (Br.ret (AV.bool false) []))
def yA:List AV→List Ob→Br
 | [.int .u8 b],[]=>DW b
 |_,_=>.fail
theorem DX:Sound Kx 263 yA:=ae (C:=[]) (O:=O0) Tryz.func263 (by kernel_rfl) fun args objs=>by
 unfold yA;split
 ·exact .inr (by kernel_rfl)
 ·exact .inl rfl
def mf (b:Int):Br:=(Br.ite (decide (b=9)) (Br.ret (AV.bool true) []) (Br.ite (decide (32≤b)) (Br.ret (AV.bool (!(decide (b=127)))) []) (Br.ret (AV.bool false) [])))
def yB:List AV→List Ob→Br
 | [.int .u8 b],[]=>mf b
 |_,_=>.fail
theorem DY:Sound Kx 253 yB:=ae (C:=[]) (O:=O0) Tryz.func253 (by kernel_rfl) fun args objs=>by
 unfold yB;split
 ·exact .inr (by kernel_rfl)
 ·exact .inl rfl
def HR (n:Int):Br:=(Br.ite (decide (n=204)) (Br.ret (AV.bool true) []) (Br.ret (AV.bool (decide (n=304))) []))
def DZ:List AV→List Ob→Br
 | [.int .i64 n],[]=>HR n
 |_,_=>.fail
theorem HS:Sound Kx 184 DZ:=ae (C:=[]) (O:=O0) Tryz.func184 (by kernel_rfl) fun args objs=>by
 unfold DZ;split
 ·exact .inr (by kernel_rfl)
 ·exact .inl rfl
def Bl (a b:aa) (left:Int):Br:=(Br.ite (decide ((ac (left-(a.length:Int)))<0)) (Br.ret (AV.int .i64 (-1)) []) (Br.ite (decide ((ac ((ac (left-(a.length:Int)))-(b.length:Int)))<0)) (Br.ret (AV.int .i64 (-1)) []) (Br.ret (AV.int .i64 (ac ((ac (left-(a.length:Int)))-(b.length:Int)))) [])))
def tf:List AV→List Ob→Br
 | [.agg [.str a,.str b],.int .i64 left],[]=>Bl a b left
 |_,_=>.fail
theorem Bm:Sound Kx 79 tf:=ae (C:=[]) (O:=O0) Tryz.func79 (by kernel_rfl) fun args objs=>by
 unfold tf;split
 ·exact .inr (by kernel_rfl)
 ·exact .inl rfl
def Bn (a b:aa):Br:=(Br.ret (AV.agg ((AV.str a)::((AV.str b)::[]))) [])
def tg:List AV→List Ob→Br
 | [.agg [.str a,.str b]],[]=>Bn a b
 |_,_=>.fail
theorem Bo:Sound Kx 86 tg:=ae (C:=[]) (O:=O0) Tryz.func86 (by kernel_rfl) fun args objs=>by
 unfold tg;split
 ·exact .inr (by kernel_rfl)
 ·exact .inl rfl
def Bp (a b c d:aa):Br:=(Br.ite (!(decide (a=c))) (Br.ret (AV.bool false) []) (Br.ite (!(decide (b=d))) (Br.ret (AV.bool false) []) (Br.ret (AV.bool true) [])))
def th:List AV→List Ob→Br
 | [.agg [.str a,.str b],.agg [.str c,.str d]],[]=>Bp a b c d
 |_,_=>.fail
theorem Bq:Sound Kx 95 th:=ae (C:=[]) (O:=O0) Tryz.func95 (by kernel_rfl) fun args objs=>by
 unfold th;split
 ·exact .inr (by kernel_rfl)
 ·exact .inl rfl
def eX (n:Int):Bool:=decide (97≤n)&&decide (n≤122)
def ww (n:Int):Bool:=decide (65≤n)&&decide (n≤90)
def bb (n:Int):Bool:=decide (48≤n)&&decide (n≤57)
def Jv (n:Int):Bool:=decide (n=32)||decide (n=9)
def mg (n:Int):Bool:=decide (n=9)||(decide (32≤n)&& !decide (n=127))
def bO (n:Int):Bool:=decide (33≤n)&&decide (n≤126)
def dS (n:Int):Int:=bif ww n then n+32 else n
def tokSet:aa:=[33,35,36,37,38,39,42,43,45,46,94,95,124,126]
def il (n:Int):Bool:=eX n||ww n||bb n||decide (n=96)||tokSet.any fun c=>decide (by8 c=n)
def Bs (p:Int→Bool):List AV→List Ob→Br
 | [.int .u8 b],[]=>.ret (.bool (p b)) []
 |_,_=>.fail
theorem mh {n:Nat} {s:List AV→List Ob→Br} (hs:Sound Kx n s) {p:Int→Bool} (h: ∀b,(s [.int .u8 b] []).val=some (.bool (p b),[])):Sound Kx n (Bs p):=hs.of fun args objs r hv=>by
 unfold Bs at hv
 split at hv
 ·rw [h];exact hv
 ·cases hv
def KM (p:Int→Bool):List AV→List Ob→Br
 | [.int .i64 b],[]=>.ret (.bool (p b)) []
 |_,_=>.fail
theorem D0 {n:Nat} {s:List AV→List Ob→Br} (hs:Sound Kx n s) {p:Int→Bool} (h: ∀b,(s [.int .i64 b] []).val=some (.bool (p b),[])):Sound Kx n (KM p):=hs.of fun args objs r hv=>by
 unfold KM at hv
 split at hv
 ·rw [h];exact hv
 ·cases hv
theorem q7 (c x:Bool):(Br.ite c (.ret (.bool x) []) (.ret (.bool false) [])).val=some (.bool (c&&x),[]):=by cases c<;>rfl
theorem NV (c x:Bool):(Br.ite c (.ret (.bool true) []) (.ret (.bool x) [])).val=some (.bool (c||x),[]):=by cases c<;>rfl
theorem gA:Sound Kx 310 (Bs eX):=mh Bb fun b=>q7 _ _
theorem gB:Sound Kx 238 (Bs ww):=mh Be fun b=>q7 _ _
theorem ew:Sound Kx 311 (Bs bb):=mh Bg fun b=>q7 _ _
theorem q8:Sound Kx 194 (Bs bO):=mh td fun b=>q7 _ _
theorem wy:Sound Kx 256 (Bs Jv):=mh Bi fun b=>NV _ _
theorem wz:Sound Kx 192 (Bs mg):=mh Bj fun b=>by
 show(jc b).val=_
 unfold jc mg
 simp only [Br.val]
 cases decide (b=9)<;>cases decide (32≤b)<;>rfl
theorem Bt:Sound Kx 254 (Bs Jv):=mh DV fun b=>NV _ _
theorem dT:Sound Kx 263 (Bs bb):=mh DX fun b=>q7 _ _
theorem Bu:Sound Kx 253 (Bs mg):=mh DY fun b=>by
 show(mf b).val=_
 unfold mf mg
 simp only [Br.val]
 cases decide (b=9)<;>cases decide (32≤b)<;>rfl
def Mn:List AV→List Ob→Br
 | [.int .u8 b],[]=>.ite (decide (0≤b)&&decide (b<256)) (.ret (.int .u8 (dS b)) []) .fail
 |_,_=>.fail
theorem fE:Sound Kx 212 Mn:=slower_ok.of fun args objs r h=>by
 unfold Mn at h
 split at h
 ·rename_i b
  obtain⟨h1,h2⟩:=af h
  simp only [Bool.and_eq_true,decide_eq_true_eq]at h1
  rw [←h2]
  show(md b).val=_
  unfold md dS ww
  by_cases g1:65≤b<;>by_cases g2:b≤90<;>simp only [Br.val,g1,g2,decide_true,decide_false,Bool.and_true,Bool.and_false,Bool.false_and,cond_true,cond_false]
  rw [w8 (by omega) (by omega)]
 ·cases h
def Bv (n:Int):Bool:=decide (200≤n)&&decide (n≤599)
def q9 (n:Int):Bool:=decide (n=204)||decide (n=304)
theorem tj:Sound Kx 138 (KM Bv):=D0 wv fun b=>q7 _ _
theorem kx:Sound Kx 140 (KM q9):=D0 mc fun b=>NV _ _
theorem D1:Sound Kx 184 (KM q9):=D0 HS fun b=>NV _ _
def a7 (p:Int→Bool) (s:aa):Bool:=s.all fun c=>p (by8 c)
def aH (s:aa):aa:=br ((bytesOf s).map dS)
def sp8 (c:UInt8):Bool:=Jv (by8 c)
def im (s:aa):aa:=s.dropWhile sp8
def ky (s:aa):aa:=(s.reverse.dropWhile sp8).reverse
def wA (s:aa):aa:=ky (im s)
def tl (s:aa):Bool:=decide (1≤s.length)&&decide (s.length≤4000)&&a7 il s
def isM (s:aa):Bool:=decide (s.length≤4611686018427387904)
def Of:SC:=[⟨388,_,KL⟩]
def Mo (s:aa) (c:Int):Br:=(Br.ret (AV.int .i64 (He s c)) [])
def Mp:List AV→List Ob→Br
 | [.str s,.int .u8 c],[]=>Mo s c
 |_,_=>.fail
theorem Mq:Sound Kx 356 Mp:=ae (C:=Of) (O:=O0) Tryz.func356 (by kernel_rfl) fun args objs=>by
 unfold Mp;split
 ·exact .inr (by kernel_rfl)
 ·exact .inl rfl
def Og:SC:=[⟨356,_,Mq⟩]
def Mr (s:aa) (c:Int):Br:=(Br.ret (AV.int .i64 (He s c)) [])
def Ms:List AV→List Ob→Br
 | [.str s,.int .u8 c],[]=>Mr s c
 |_,_=>.fail
theorem Mt:Sound Kx 312 Ms:=ae (C:=Og) (O:=O0) Tryz.func312 (by kernel_rfl) fun args objs=>by
 unfold Ms;split
 ·exact .inr (by kernel_rfl)
 ·exact .inl rfl
def HT:SC:=[⟨310,_,gA⟩,⟨238,_,gB⟩,⟨311,_,ew⟩,⟨312,_,Mt⟩]
def mi (b:Int):Br:=(Br.ite (eX b) (Br.ret (AV.bool true) []) (Br.ite (ww b) (Br.ret (AV.bool true) []) (Br.ite (bb b) (Br.ret (AV.bool true) []) (Br.ite (decide (b=96)) (Br.ret (AV.bool true) []) (Br.ret (AV.bool (decide (0≤(He ([33,35,36,37,38,39,42,43,45,46,94,95,124,126]:aa) b)))) [])))))
def yC:List AV→List Ob→Br
 | [.int .u8 b],[]=>mi b
 |_,_=>.fail
theorem isTokB_ok:Sound Kx 255 yC:=ae (C:=HT) (O:=O0) Tryz.func255 (by kernel_rfl) fun args objs=>by
 unfold yC;split
 ·exact .inr (by kernel_rfl)
 ·exact .inl rfl
def Jw:Opt:={live:=[(2,[0,1,5])],outs:=[(2,[4])]}
def q_ (al:aa) (ap aN:Int) (O_:aa→Int→Int→OR') (bG cz:OR'):OR':=
 (bif(decide (aN< (al.length:Int)))then(bif(decide (0≤aN))then(bif(decide (aN< (al.length:Int)))then(bif(decide ((av al aN)=ap))then bG else(O_ al ap (ac (aN+1))))else(none))else(none))else cz)
def jd:Nat→aa→Int→Int→(OR')→(OR')→OR'
 |0,_,_,_,_,_=>none
 |n+1,al,ap,aN,bG,cz=>q_ al ap aN (fun al ap aN=>jd n al ap aN bG cz) bG cz
abbrev shas_p2:SP:=⟨17,[0,1,5],[(.v .s),(.v (.i .u8)),(.v (.i .i64))],[]⟩
noncomputable def D2:Code:=aG (aI Tryz.f309) [1,0,1,0,0]
def D3 (f:(OR')→(OR')→OR') (k:KT):OR':=f (k Ex.ret ((St.mk (aE 0 17 [(4,(AV.bool true))]) ([]:(List (Nat×(Ob))))))) (k (Ex.exit 0) ((St.mk (aE 0 17 []) ([]:(List (Nat×(Ob)))))))
def D4 (n:Nat) (d:shas_p2.D):KT→OR':=D3 (jd n d.1.1 d.1.2.1 d.1.2.2.1)
def Jx (N:Nat):Lam:=bD [⟨2,shas_p2,D4 N⟩]
theorem HU (N:Nat):OkL Kx noS Jw 0 N (Jx N) D2:=okL shas_p2 (D4) (fun d kR=>D3 (q_ d.1.1 d.1.2.1 d.1.2.2.1 (fun al ap aN=>kR ((al,ap,aN,()),())))) (fun _ _=>by kernel_rfl) (fun _ _ _=>by kernel_rfl) (fun _ _=>by kernel_rfl) (fun _ _ _ _=>by kernel_rfl) (ah (l':=[]) (by kernel_rfl) trivial)
def yD (N:Nat) (s:aa) (b:Int):OR':=(jd N s b 0 (some ((AV.bool true),[])) (some ((AV.bool false),[])))
def yE (φ:aa→Int→Br):List AV→List Ob→Br
 | [.str s,.int .u8 b],[]=>φ s b
 |_,_=>.fail
theorem D5 {φ:aa→Int→Br} (fu:aa→Int→Nat) (hv: ∀s b res_,(φ s b).val=some res_→yD (fu s b) s b=some res_):Sound Kx 309 (yE φ):=an (C:=[]) (O:=Jw) Tryz.func309 (by kernel_rfl) fun args objs=>by
 unfold yE;split
 ·rename_i s b;exact .inr fun _ hyp_=>aV (Λ:=Jx (fu s b)) (by kernel_rfl) (ah (l':=[D2]) (by kernel_rfl) ⟨HU _,trivial⟩) (by kernel_rfl) (hv s b _ hyp_)
 ·exact .inl rfl
def D6:Opt:={live:=[(3,[3,8,9,10])],outs:=[(3,[2,3])]}
def ifold_C:SC:=[⟨238,_,gB⟩]
def kM (aj ai:Int) (aM:(List Int)) (Pa:Int→Int→(List Int)→OR') (cP:(List Int)→OR'):OR':=
 (bif(decide (ai<aj))then(bif(decide (0≤ai))then(bif(decide (ai< (aM.length:Int)))then(bif(ww (List.getD aM (Int.toNat ai) 0))then(bif(decide (0≤ai))then(bif(decide (ai< (aM.length:Int)))then(Pa aj (ac (ai+1)) (List.set aM (Int.toNat ai) (wk8 ((List.getD aM (Int.toNat ai) 0)+32))))else(none))else(none))else(Pa aj (ac (ai+1)) aM))else(none))else(none))else(cP aM))
def ey:Nat→Int→Int→(List Int)→((List Int)→OR')→OR'
 |0,_,_,_,_=>none
 |n+1,aj,ai,aM,cP=>kM aj ai aM (fun aj ai aM=>ey n aj ai aM cP) cP
abbrev ifold_p3:SP:=⟨25,[3,8,9,10],[(.v (.ref 256 0)),(.v (.ref 256 0)),(.v (.i .i64)),(.v (.i .i64))],[(256,.arr (Ty.int .u8) 0 false)]⟩
noncomputable def yF:Code:=aG (aI Tryz.f171) [1,1,0,1,0,0]
def yG (f:((List Int)→OR')→OR') (k:KT):OR':=f (fun aW=>k (Ex.exit 0) ((St.mk (aE 0 25 [(3,(AV.ref 256 0))]) ((256,(Ob.arr (Ty.int .u8) 0 false aW))::([]:(List (Nat×(Ob))))))))
def yH (n:Nat) (d:ifold_p3.D):KT→OR':=yG (ey n d.1.2.2.1 d.1.2.2.2.1 d.2.1)
def D7 (N:Nat):Lam:=bD [⟨3,ifold_p3,yH N⟩]
theorem D8 (N:Nat):OkL Kx ifold_C.s D6 0 N (D7 N) yF:=okL ifold_p3 (yH) (fun d kR=>yG (kM d.1.2.2.1 d.1.2.2.2.1 d.2.1 (fun aj ai aM=>kR (((),(),aj,ai,()),(aM,()))))) (fun _ _=>by kernel_rfl) (fun _ _ _=>by kernel_rfl) (fun _ _=>by kernel_rfl) (fun _ _ _ _=>by kernel_rfl) (ah (l':=[]) (by kernel_rfl) trivial)
def tm (N:Nat) (s:aa):OR':=(ey N ((List.length (bytesOf s)):Int) 0 (bytesOf s) (fun aW=>(some ((AV.str (br aW)),[]))))
def tn (φ:aa→Br):List AV→List Ob→Br
 | [.str s],[]=>φ s
 |_,_=>.fail
theorem Bw {φ:aa→Br} (fu:aa→Nat) (hv: ∀s res_,(φ s).val=some res_→tm (fu s) s=some res_):Sound Kx 171 (tn φ):=an (C:=ifold_C) (O:=D6) Tryz.func171 (by kernel_rfl) fun args objs=>by
 unfold tn;split
 ·rename_i s;exact .inr fun _ hyp_=>aV (Λ:=D7 (fu s)) (by kernel_rfl) (ah (l':=[yF]) (by kernel_rfl) ⟨D8 _,trivial⟩) (by kernel_rfl) (hv s _ hyp_)
 ·exact .inl rfl
def D9:Opt:={live:=[(3,[3,4])],outs:=[(3,[2,3])]}
def sfold_C:SC:=[⟨212,_,fE⟩]
def kN (aj:Int) (ai:(List Int)) (Pa:Int→(List Int)→OR') (cP:(List Int)→OR'):OR':=
 (bif(decide (aj< (ai.length:Int)))then(bif(decide (0≤aj))then(bif(decide (aj< (ai.length:Int)))then(bif((decide (0≤(List.getD ai (Int.toNat aj) 0)))&&(decide ((List.getD ai (Int.toNat aj) 0)<256)))then(bif(decide (0≤aj))then(bif(decide (aj< (ai.length:Int)))then(Pa (ac (aj+1)) (List.set ai (Int.toNat aj) (dS (List.getD ai (Int.toNat aj) 0))))else(none))else(none))else(none))else(none))else(none))else(cP ai))
def fF:Nat→Int→(List Int)→((List Int)→OR')→OR'
 |0,_,_,_=>none
 |n+1,aj,ai,cP=>kN aj ai (fun aj ai=>fF n aj ai cP) cP
abbrev sfold_p3:SP:=⟨23,[3,4],[(.v (.ref 256 0)),(.v (.i .i64))],[(256,.arr (Ty.int .u8) 0 false)]⟩
noncomputable def yI:Code:=aG (aI Tryz.f157) [1,1,0,1,0,0]
def yJ (f:((List Int)→OR')→OR') (k:KT):OR':=f (fun aW=>k (Ex.exit 0) ((St.mk (aE 0 23 [(3,(AV.ref 256 0))]) ((256,(Ob.arr (Ty.int .u8) 0 false aW))::([]:(List (Nat×(Ob))))))))
def yK (n:Nat) (d:sfold_p3.D):KT→OR':=yJ (fF n d.1.2.1 d.2.1)
def D_ (N:Nat):Lam:=bD [⟨3,sfold_p3,yK N⟩]
theorem Ea (N:Nat):OkL Kx sfold_C.s D9 0 N (D_ N) yI:=okL sfold_p3 (yK) (fun d kR=>yJ (kN d.1.2.1 d.2.1 (fun aj ai=>kR (((),aj,()),(ai,()))))) (fun _ _=>by kernel_rfl) (fun _ _ _=>by kernel_rfl) (fun _ _=>by kernel_rfl) (fun _ _ _ _=>by kernel_rfl) (ah (l':=[]) (by kernel_rfl) trivial)
def tq (N:Nat) (s:aa):OR':=(fF N 0 (bytesOf s) (fun aW=>(some ((AV.str (br aW)),[]))))
def tt (φ:aa→Br):List AV→List Ob→Br
 | [.str s],[]=>φ s
 |_,_=>.fail
theorem Bx {φ:aa→Br} (fu:aa→Nat) (hv: ∀s res_,(φ s).val=some res_→tq (fu s) s=some res_):Sound Kx 157 (tt φ):=an (C:=sfold_C) (O:=D9) Tryz.func157 (by kernel_rfl) fun args objs=>by
 unfold tt;split
 ·rename_i s;exact .inr fun _ hyp_=>aV (Λ:=D_ (fu s)) (by kernel_rfl) (ah (l':=[yI]) (by kernel_rfl) ⟨Ea _,trivial⟩) (by kernel_rfl) (hv s _ hyp_)
 ·exact .inl rfl
def wB:Opt:={live:=[(3,[0]),(1,[0])],outs:=[(3,[0,2]),(1,[0,2])]}
def itrim_C:SC:=[⟨256,_,wy⟩]
def kO (AM:aa) (Pb NR:aa→OR'):OR':=
 (bif(!(decide (AM=([]:aa))))then(bif(decide (0< (AM.length:Int)))then(bif(Jv (av AM 0))then(bif(decide (1≤(AM.length:Int)))then(Pb (cut AM 1 (AM.length:Int)))else(none))else(NR AM))else(none))else(NR AM))
def fG:Nat→aa→(aa→OR')→OR'
 |0,_,_=>none
 |n+1,AM,NR=>kO AM (fun AM=>fG n AM NR) NR
abbrev itrim_p1:SP:=⟨28,[0],[(.v .s)],[]⟩
noncomputable def yL:Code:=aG (aI Tryz.f193) [1,0,0,0]
def yM (f:(aa→OR')→OR') (k:KT):OR':=f (fun G5=>k (Ex.exit 0) ((St.mk (aE 0 28 [(0,(AV.str G5))]) ([]:(List (Nat×(Ob)))))))
def yN (n:Nat) (d:itrim_p1.D):KT→OR':=yM (fG n d.1.1)
def kP (aj:aa) (Pa cP:aa→OR'):OR':=
 (bif(!(decide (aj=([]:aa))))then(bif(decide (0≤(ac ((aj.length:Int)-1))))then(bif(decide ((ac ((aj.length:Int)-1))< (aj.length:Int)))then(bif(Jv (av aj (ac ((aj.length:Int)-1))))then(bif(decide (0≤(ac ((aj.length:Int)-1))))then(bif(decide ((ac ((aj.length:Int)-1))≤(aj.length:Int)))then(Pa (cut aj 0 (ac ((aj.length:Int)-1))))else(none))else(none))else(cP aj))else(none))else(none))else(cP aj))
def fH:Nat→aa→(aa→OR')→OR'
 |0,_,_=>none
 |n+1,aj,cP=>kP aj (fun aj=>fH n aj cP) cP
abbrev itrim_p3:SP:=⟨28,[0],[(.v .s)],[]⟩
noncomputable def yO:Code:=aG (aI Tryz.f193) [1,1,0,0,0]
def yP (f:(aa→OR')→OR') (k:KT):OR':=f (fun aW=>k (Ex.exit 2) ((St.mk (aE 0 28 [(0,(AV.str aW))]) ([]:(List (Nat×(Ob)))))))
def yQ (n:Nat) (d:itrim_p3.D):KT→OR':=yP (fH n d.1.1)
def wC (N:Nat):Lam:=bD [⟨1,itrim_p1,yN N⟩,⟨3,itrim_p3,yQ N⟩]
theorem Eb (N:Nat):OkL Kx itrim_C.s wB 0 N (wC N) yL:=okL itrim_p1 (yN) (fun d kR=>yM (kO d.1.1 (fun AM=>kR ((AM,()),())))) (fun _ _=>by kernel_rfl) (fun _ _ _=>by kernel_rfl) (fun _ _=>by kernel_rfl) (fun _ _ _ _=>by kernel_rfl) (ah (l':=[]) (by kernel_rfl) trivial)
theorem Ec (N:Nat):OkL Kx itrim_C.s wB 0 N (wC N) yO:=okL itrim_p3 (yQ) (fun d kR=>yP (kP d.1.1 (fun aj=>kR ((aj,()),())))) (fun _ _=>by kernel_rfl) (fun _ _ _=>by kernel_rfl) (fun _ _=>by kernel_rfl) (fun _ _ _ _=>by kernel_rfl) (ah (l':=[]) (by kernel_rfl) trivial)
def tu (N:Nat) (s:aa):OR':=(fG N s (fun G5=>(fH N G5 (fun aW=>(some ((AV.str aW),[]))))))
def tw (φ:aa→Br):List AV→List Ob→Br
 | [.str s],[]=>φ s
 |_,_=>.fail
theorem By {φ:aa→Br} (fu:aa→Nat) (hv: ∀s res_,(φ s).val=some res_→tu (fu s) s=some res_):Sound Kx 193 (tw φ):=an (C:=itrim_C) (O:=wB) Tryz.func193 (by kernel_rfl) fun args objs=>by
 unfold tw;split
 ·rename_i s;exact .inr fun _ hyp_=>aV (Λ:=wC (fu s)) (by kernel_rfl) (ah (l':=[yL,yO]) (by kernel_rfl) ⟨Eb _,Ec _,trivial⟩) (by kernel_rfl) (hv s _ hyp_)
 ·exact .inl rfl
def wD:Opt:={live:=[(5,[0,3,4]),(2,[0,3])],outs:=[(5,[0,2,3,4]),(2,[0,2,3])]}
def strim_C:SC:=[⟨254,_,Bt⟩]
def kQ (al:aa) (ap:Int) (O_ bG:aa→Int→OR'):OR':=
 (bif(decide (ap< (al.length:Int)))then(bif(decide (0≤ap))then(bif(decide (ap< (al.length:Int)))then(bif(Jv (av al ap))then(O_ al (ac (ap+1)))else(bG al ap))else(none))else(none))else(bG al ap))
def fI:Nat→aa→Int→(aa→Int→OR')→OR'
 |0,_,_,_=>none
 |n+1,al,ap,bG=>kQ al ap (fun al ap=>fI n al ap bG) bG
abbrev strim_p2:SP:=⟨35,[0,3],[(.v .s),(.v (.i .i64))],[]⟩
noncomputable def yR:Code:=aG (aI Tryz.f182) [1,1,0,0,0]
def yS (f:(aa→Int→OR')→OR') (k:KT):OR':=f (fun bH ee=>k (Ex.exit 0) ((St.mk (aE 0 35 [(0,(AV.str bH)),(3,(AV.int .i64 ee))]) ([]:(List (Nat×(Ob)))))))
def yT (n:Nat) (d:strim_p2.D):KT→OR':=yS (fI n d.1.1 d.1.2.1)
def kS (aL:aa) (bm aS:Int) (Pc dI:aa→Int→Int→OR'):OR':=
 (bif(decide (bm<aS))then(bif(decide (0≤(ac (aS-1))))then(bif(decide ((ac (aS-1))< (aL.length:Int)))then(bif(Jv (av aL (ac (aS-1))))then(Pc aL bm (ac (aS-1)))else(dI aL bm aS))else(none))else(none))else(dI aL bm aS))
def ez:Nat→aa→Int→Int→(aa→Int→Int→OR')→OR'
 |0,_,_,_,_=>none
 |n+1,aL,bm,aS,dI=>kS aL bm aS (fun aL bm aS=>ez n aL bm aS dI) dI
abbrev strim_p5:SP:=⟨35,[0,3,4],[(.v .s),(.v (.i .i64)),(.v (.i .i64))],[]⟩
noncomputable def yU:Code:=aG (aI Tryz.f182) [1,1,1,1,0,0,0]
def yV (f:(aa→Int→Int→OR')→OR') (k:KT):OR':=f (fun am ce ef=>k (Ex.exit 2) ((St.mk (aE 0 35 [(0,(AV.str am)),(3,(AV.int .i64 ce)),(4,(AV.int .i64 ef))]) ([]:(List (Nat×(Ob)))))))
def yW (n:Nat) (d:strim_p5.D):KT→OR':=yV (ez n d.1.1 d.1.2.1 d.1.2.2.1)
def wE (N:Nat):Lam:=bD [⟨2,strim_p2,yT N⟩,⟨5,strim_p5,yW N⟩]
theorem Ed (N:Nat):OkL Kx strim_C.s wD 0 N (wE N) yR:=okL strim_p2 (yT) (fun d kR=>yS (kQ d.1.1 d.1.2.1 (fun al ap=>kR ((al,ap,()),())))) (fun _ _=>by kernel_rfl) (fun _ _ _=>by kernel_rfl) (fun _ _=>by kernel_rfl) (fun _ _ _ _=>by kernel_rfl) (ah (l':=[]) (by kernel_rfl) trivial)
theorem Ee (N:Nat):OkL Kx strim_C.s wD 0 N (wE N) yU:=okL strim_p5 (yW) (fun d kR=>yV (kS d.1.1 d.1.2.1 d.1.2.2.1 (fun aL bm aS=>kR ((aL,bm,aS,()),())))) (fun _ _=>by kernel_rfl) (fun _ _ _=>by kernel_rfl) (fun _ _=>by kernel_rfl) (fun _ _ _ _=>by kernel_rfl) (ah (l':=[]) (by kernel_rfl) trivial)
def tz (N:Nat) (s:aa):OR':=(fI N s 0 (fun bH=>(fun ee=>(ez N bH ee (bH.length:Int) (fun am=>(fun ce=>(fun ef=>(bif(decide (0≤ce))then(bif(decide (ce≤ef))then(bif(decide (ef≤(am.length:Int)))then(some ((AV.str (cut am ce ef)),[]))else(none))else(none))else(none)))))))))
def tA (φ:aa→Br):List AV→List Ob→Br
 | [.str s],[]=>φ s
 |_,_=>.fail
theorem Bz {φ:aa→Br} (fu:aa→Nat) (hv: ∀s res_,(φ s).val=some res_→tz (fu s) s=some res_):Sound Kx 182 (tA φ):=an (C:=strim_C) (O:=wD) Tryz.func182 (by kernel_rfl) fun args objs=>by
 unfold tA;split
 ·rename_i s;exact .inr fun _ hyp_=>aV (Λ:=wE (fu s)) (by kernel_rfl) (ah (l':=[yR,yU]) (by kernel_rfl) ⟨Ed _,Ee _,trivial⟩) (by kernel_rfl) (hv s _ hyp_)
 ·exact .inl rfl
def yX:Opt:={live:=[(2,[0,1,5])],outs:=[(2,[4])]}
def allVis_C:SC:=[⟨194,_,q8⟩]
def io (al:aa) (ap:Int) (O_:aa→Int→OR') (bG cz:OR'):OR':=
 (bif(decide (ap< (al.length:Int)))then(bif(decide (0≤ap))then(bif(decide (ap< (al.length:Int)))then(bif(!(bO (av al ap)))then bG else(O_ al (ac (ap+1))))else(none))else(none))else cz)
def dU:Nat→aa→Int→(OR')→(OR')→OR'
 |0,_,_,_,_=>none
 |n+1,al,ap,bG,cz=>io al ap (fun al ap=>dU n al ap bG cz) bG cz
abbrev allVis_p2:SP:=⟨18,[0,1,5],[(.v .s),(.v (.fn 194 [])),(.v (.i .i64))],[]⟩
noncomputable def tB:Code:=aG (aI Tryz.f191) [1,0,1,0,0]
def tC (f:(OR')→(OR')→OR') (k:KT):OR':=f (k Ex.ret ((St.mk (aE 0 18 [(4,(AV.bool false))]) ([]:(List (Nat×(Ob))))))) (k (Ex.exit 0) ((St.mk (aE 0 18 []) ([]:(List (Nat×(Ob)))))))
def tD (n:Nat) (d:allVis_p2.D):KT→OR':=tC (dU n d.1.1 d.1.2.2.1)
def yY (N:Nat):Lam:=bD [⟨2,allVis_p2,tD N⟩]
theorem BA (N:Nat):OkL Kx allVis_C.s yX 0 N (yY N) tB:=okL allVis_p2 (tD) (fun d kR=>tC (io d.1.1 d.1.2.2.1 (fun al ap=>kR ((al,(),ap,()),())))) (fun _ _=>by kernel_rfl) (fun _ _ _=>by kernel_rfl) (fun _ _=>by kernel_rfl) (fun _ _ _ _=>by kernel_rfl) (ah (l':=[]) (by kernel_rfl) trivial)
def oQ (N:Nat) (s:aa):OR':=(dU N s 0 (some ((AV.bool false),[])) (some ((AV.bool true),[])))
def je (φ:aa→Br):List AV→List Ob→Br
 | [.str s,.fn 194 []],[]=>φ s
 |_,_=>.fail
theorem wF {φ:aa→Br} (fu:aa→Nat) (hv: ∀s res_,(φ s).val=some res_→oQ (fu s) s=some res_):Sound Kx 191 (je φ):=an (C:=allVis_C) (O:=yX) Tryz.func191 (by kernel_rfl) fun args objs=>by
 unfold je;split
 ·rename_i s;exact .inr fun _ hyp_=>aV (Λ:=yY (fu s)) (by kernel_rfl) (ah (l':=[tB]) (by kernel_rfl) ⟨BA _,trivial⟩) (by kernel_rfl) (hv s _ hyp_)
 ·exact .inl rfl
def Ef:Opt:={live:=[(2,[0,1,5])],outs:=[(2,[4])]}
def allPl_C:SC:=[⟨192,_,wz⟩]
def kT (al:aa) (ap:Int) (O_:aa→Int→OR') (bG cz:OR'):OR':=
 (bif(decide (ap< (al.length:Int)))then(bif(decide (0≤ap))then(bif(decide (ap< (al.length:Int)))then(bif(!(mg (av al ap)))then bG else(O_ al (ac (ap+1))))else(none))else(none))else cz)
def fJ:Nat→aa→Int→(OR')→(OR')→OR'
 |0,_,_,_,_=>none
 |n+1,al,ap,bG,cz=>kT al ap (fun al ap=>fJ n al ap bG cz) bG cz
abbrev allPl_p2:SP:=⟨18,[0,1,5],[(.v .s),(.v (.fn 192 [])),(.v (.i .i64))],[]⟩
noncomputable def yZ:Code:=aG (aI Tryz.f191) [1,0,1,0,0]
def y5 (f:(OR')→(OR')→OR') (k:KT):OR':=f (k Ex.ret ((St.mk (aE 0 18 [(4,(AV.bool false))]) ([]:(List (Nat×(Ob))))))) (k (Ex.exit 0) ((St.mk (aE 0 18 []) ([]:(List (Nat×(Ob)))))))
def y6 (n:Nat) (d:allPl_p2.D):KT→OR':=y5 (fJ n d.1.1 d.1.2.2.1)
def Eg (N:Nat):Lam:=bD [⟨2,allPl_p2,y6 N⟩]
theorem Eh (N:Nat):OkL Kx allPl_C.s Ef 0 N (Eg N) yZ:=okL allPl_p2 (y6) (fun d kR=>y5 (kT d.1.1 d.1.2.2.1 (fun al ap=>kR ((al,(),ap,()),())))) (fun _ _=>by kernel_rfl) (fun _ _ _=>by kernel_rfl) (fun _ _=>by kernel_rfl) (fun _ _ _ _=>by kernel_rfl) (ah (l':=[]) (by kernel_rfl) trivial)
def tE (N:Nat) (s:aa):OR':=(fJ N s 0 (some ((AV.bool false),[])) (some ((AV.bool true),[])))
def mj (φ:aa→Br):List AV→List Ob→Br
 | [.str s,.fn 192 []],[]=>φ s
 |_,_=>.fail
theorem BB {φ:aa→Br} (fu:aa→Nat) (hv: ∀s res_,(φ s).val=some res_→tE (fu s) s=some res_):Sound Kx 191 (mj φ):=an (C:=allPl_C) (O:=Ef) Tryz.func191 (by kernel_rfl) fun args objs=>by
 unfold mj;split
 ·rename_i s;exact .inr fun _ hyp_=>aV (Λ:=Eg (fu s)) (by kernel_rfl) (ah (l':=[yZ]) (by kernel_rfl) ⟨Eh _,trivial⟩) (by kernel_rfl) (hv s _ hyp_)
 ·exact .inl rfl
def tF:Opt:={live:=[(2,[0,3])],outs:=[(2,[2])]}
def splains_C:SC:=[⟨253,_,Bu⟩]
def fK (al:aa) (ap:Int) (O_:aa→Int→OR') (bG cz:OR'):OR':=
 (bif(decide (ap< (al.length:Int)))then(bif(decide (0≤ap))then(bif(decide (ap< (al.length:Int)))then(bif(!(mg (av al ap)))then bG else(O_ al (ac (ap+1))))else(none))else(none))else cz)
def di:Nat→aa→Int→(OR')→(OR')→OR'
 |0,_,_,_,_=>none
 |n+1,al,ap,bG,cz=>fK al ap (fun al ap=>di n al ap bG cz) bG cz
abbrev splains_p2:SP:=⟨15,[0,3],[(.v .s),(.v (.i .i64))],[]⟩
noncomputable def oR:Code:=aG (aI Tryz.f181) [1,0,1,0,0]
def oS (f:(OR')→(OR')→OR') (k:KT):OR':=f (k Ex.ret ((St.mk (aE 0 15 [(2,(AV.bool false))]) ([]:(List (Nat×(Ob))))))) (k (Ex.exit 0) ((St.mk (aE 0 15 []) ([]:(List (Nat×(Ob)))))))
def oT (n:Nat) (d:splains_p2.D):KT→OR':=oS (di n d.1.1 d.1.2.1)
def tG (N:Nat):Lam:=bD [⟨2,splains_p2,oT N⟩]
theorem wG (N:Nat):OkL Kx splains_C.s tF 0 N (tG N) oR:=okL splains_p2 (oT) (fun d kR=>oS (fK d.1.1 d.1.2.1 (fun al ap=>kR ((al,ap,()),())))) (fun _ _=>by kernel_rfl) (fun _ _ _=>by kernel_rfl) (fun _ _=>by kernel_rfl) (fun _ _ _ _=>by kernel_rfl) (ah (l':=[]) (by kernel_rfl) trivial)
def ml (N:Nat) (s:aa):OR':=(di N s 0 (some ((AV.bool false),[])) (some ((AV.bool true),[])))
def mm (φ:aa→Br):List AV→List Ob→Br
 | [.str s],[]=>φ s
 |_,_=>.fail
theorem tH {φ:aa→Br} (fu:aa→Nat) (hv: ∀s res_,(φ s).val=some res_→ml (fu s) s=some res_):Sound Kx 181 (mm φ):=an (C:=splains_C) (O:=tF) Tryz.func181 (by kernel_rfl) fun args objs=>by
 unfold mm;split
 ·rename_i s;exact .inr fun _ hyp_=>aV (Λ:=tG (fu s)) (by kernel_rfl) (ah (l':=[oR]) (by kernel_rfl) ⟨wG _,trivial⟩) (by kernel_rfl) (hv s _ hyp_)
 ·exact .inl rfl
def Jy:Opt:={live:=[(2,[0,3])],outs:=[(2,[0,2])]}
def ra (al:aa) (ap:Int) (O_:aa→Int→OR') (bG cz:aa→OR'):OR':=
 (bif(decide (ap< (al.length:Int)))then(bif(decide (0≤ap))then(bif(decide (ap< (al.length:Int)))then(bif(decide ((av al ap)<33))then(bG al)else(bif(decide (0≤ap))then(bif(decide (ap< (al.length:Int)))then(bif(decide (126< (av al ap)))then(bG al)else(O_ al (ac (ap+1))))else(none))else(none)))else(none))else(none))else(cz al))
def jf:Nat→aa→Int→(aa→OR')→(aa→OR')→OR'
 |0,_,_,_,_=>none
 |n+1,al,ap,bG,cz=>ra al ap (fun al ap=>jf n al ap bG cz) bG cz
abbrev svis_p2:SP:=⟨23,[0,3],[(.v .s),(.v (.i .i64))],[]⟩
noncomputable def Ei:Code:=aG (aI Tryz.f183) [1,0,1,0,0]
def Ej (f:(aa→OR')→(aa→OR')→OR') (k:KT):OR':=f (fun bH=>k Ex.ret ((St.mk (aE 0 23 [(0,(AV.str bH)),(2,(AV.bool false))]) ([]:(List (Nat×(Ob))))))) (fun dB=>k (Ex.exit 0) ((St.mk (aE 0 23 [(0,(AV.str dB))]) ([]:(List (Nat×(Ob)))))))
def Ek (n:Nat) (d:svis_p2.D):KT→OR':=Ej (jf n d.1.1 d.1.2.1)
def Jz (N:Nat):Lam:=bD [⟨2,svis_p2,Ek N⟩]
theorem HV (N:Nat):OkL Kx noS Jy 0 N (Jz N) Ei:=okL svis_p2 (Ek) (fun d kR=>Ej (ra d.1.1 d.1.2.1 (fun al ap=>kR ((al,ap,()),())))) (fun _ _=>by kernel_rfl) (fun _ _ _=>by kernel_rfl) (fun _ _=>by kernel_rfl) (fun _ _ _ _=>by kernel_rfl) (ah (l':=[]) (by kernel_rfl) trivial)
def y7 (N:Nat) (s:aa):OR':=(jf N s 0 (fun bH=>(some ((AV.bool false),[]))) (fun dB=>(some ((AV.bool (decide (0< (dB.length:Int)))),[]))))
def y8 (φ:aa→Br):List AV→List Ob→Br
 | [.str s],[]=>φ s
 |_,_=>.fail
theorem El {φ:aa→Br} (fu:aa→Nat) (hv: ∀s res_,(φ s).val=some res_→y7 (fu s) s=some res_):Sound Kx 183 (y8 φ):=an (C:=[]) (O:=Jy) Tryz.func183 (by kernel_rfl) fun args objs=>by
 unfold y8;split
 ·rename_i s;exact .inr fun _ hyp_=>aV (Λ:=Jz (fu s)) (by kernel_rfl) (ah (l':=[Ei]) (by kernel_rfl) ⟨HV _,trivial⟩) (by kernel_rfl) (hv s _ hyp_)
 ·exact .inl rfl
theorem b8 {s:aa} (h:isM s=true):s.length≤4611686018427387904:=of_decide_eq_true h
theorem Em (l:aa) (b:Int) (hl:l.length≤4611686018427387904) (k0 k1:OR'): ∀(r:aa) (i:Int) (n:Nat),At l i r→r.length<n→jd n l b i k0 k1=bif r.any (fun c=>decide (by8 c=b))then k0 else k1:=by
 intro r;induction r with
 |nil=>intro i n h hn;obtain⟨n,rfl⟩:=bC hn;unfold jd q_;simp only [h.dge,cond_false,List.any_nil]
 |cons a r ih=>
  intro i n h hn;obtain⟨n,rfl⟩:=bC hn
  have hs:=ih (i+1) n h.step (by simp at hn;omega)
  unfold jd q_;simp only [h.dlt,h.dnn,h.str,cond_true,h.next hl,hs,List.any_cons]
  cases decide (by8 a=b)<;>rfl
def Mu (p:aa→Int→Bool):List AV→List Ob→Br
 | [.str s,.int .u8 b],[]=>.ite (isM s) (.ret (.bool (p s b)) []) .fail
 |_,_=>.fail
def cB (s:aa) (b:Int):Bool:=s.any fun c=>decide (by8 c=b)
theorem y9:Sound Kx 309 (Mu cB):=by
 refine(D5 (φ:=fun s b=>.ite (isM s) (.ret (.bool (cB s b)) []) .fail) (fun s b=>s.length+1) fun s b r h=> ?_).of fun args objs r h=> ?_
 ·obtain⟨h1,h2⟩:=af h
  unfold yD
  rw [Em s b (b8 h1) _ _ s 0 _ (At.start s) (by omega),←h2]
  unfold cB
  cases s.any fun c=>decide (by8 c=b)<;>rfl
 ·unfold Mu at h;split at h
  ·exact h
  ·cases h
theorem HW (s:aa) (b:Int) (h0:0≤b) (h1:b<256):(0≤He s b)↔cB s b=true:=by
 unfold He cB
 induction s with
 |nil=>simp [Go.Lib.indexByte]
 |cons a r ih=>
  have hc:(a=b.toNat.toUInt8)↔by8 a=b:=by
   unfold by8
   constructor
   ·intro h;rw [h];simp;omega
   ·intro h;rw [←h];simp
  show(0≤if(a==b.toNat.toUInt8)=true then 0 else if(Go.Lib.indexByte r b.toNat.toUInt8== -1)=true then-1 else Go.Lib.indexByte r b.toNat.toUInt8+1)↔_
  rw [List.any_cons]
  by_cases h:a=b.toNat.toUInt8
  ·rw [if_pos (beq_iff_eq.2 h),dT' (hc.1 h)];simp
  ·rw [if_neg (fun e=>h (beq_iff_eq.1 e)),dF' (fun e=>h (hc.2 e)),Bool.false_or,←ih]
   have:=Go.Lib.indexByte_ge r b.toNat.toUInt8
   split
   ·rename_i g;have:=beq_iff_eq.1 g;omega
   ·rename_i g;have: ¬Go.Lib.indexByte r b.toNat.toUInt8= -1:=fun e=>g (beq_iff_eq.2 e);omega
theorem Eo (s:aa) (b:Int) (h0:0≤b) (h1:b<256):decide (0≤He s b)=cB s b:=by
 rw [Bool.eq_iff_iff,decide_eq_true_eq];exact HW s b h0 h1
def HX:List AV→List Ob→Br
 | [.int .u8 b],[]=>.ite (decide (0≤b)&&decide (b<256)) (.ret (.bool (il b)) []) .fail
 |_,_=>.fail
theorem BC:Sound Kx 255 HX:=isTokB_ok.of fun args objs r h=>by
 unfold HX at h;split at h
 ·rename_i b
  obtain⟨h1,h2⟩:=af h
  simp only [Bool.and_eq_true,decide_eq_true_eq]at h1
  rw [←h2]
  show(mi b).val=_
  unfold mi il
  rw [Eo _ _ h1.1 h1.2]
  unfold cB tokSet
  cases eX b<;>cases ww b<;>cases bb b<;>cases decide (b=96)<;>simp only [Br.val,Bool.true_or,Bool.false_or]
 ·cases h
theorem JA {l r:List Int} {i a:Int} (h:At l i (a::r)) (b:Int):At (l.set i.toNat b) i (b::r):=by
 obtain⟨p,rfl,rfl⟩:=h;exact⟨p,by simp,rfl⟩
theorem HY {l r:List Int} {i a:Int} (h:At l i (a::r)):l.set i.toNat a=l:=by
 obtain⟨p,rfl,rfl⟩:=h;simp
theorem BD (m:Int) (k:List Int→OR'): ∀(r l:List Int) (i:Int) (n:Nat),At l i r→r.length<n→m=(l.length:Int)→l.length≤4611686018427387904→(∀b∈r,0≤b∧b<256)→
 ey n m i l k=k (l.take i.toNat++r.map dS):=by
 intro r;induction r with
 |nil=>
  intro l i n h hn hm hl hb;obtain⟨n,rfl⟩:=bC hn
  subst hm
  unfold ey kM;simp only [h.dge,cond_false,List.map_nil]
  congr 1;exact h.take.symm
 |cons a r ih=>
  intro l i n h hn hm hl hb;obtain⟨n,rfl⟩:=bC hn
  subst hm
  have ha:=hb a (List.mem_cons_self ..)
  unfold ey kM;simp only [h.dlt,h.dnn,h.get,cond_true,h.next hl,List.map_cons]
  have key: ∀b,ey n (l.length:Int) (i+1) (l.set i.toNat b) k=k (l.take i.toNat++b::r.map dS):=by
   intro b
   have h':=JA h b
   rw [ih _ (i+1) n h'.step (by simp at hn;omega) (by simp) (by simpa using hl) (fun c hc=>hb c (List.mem_cons_of_mem _ hc))]
   congr 1
   obtain⟨p,rfl,rfl⟩:=h
   have e:((p.length:Int)+1).toNat=p.length+1:=by omega
   simp only [Int.toNat_natCast,gz,e]
   rw [List.take_append,List.take_append]
   simp [List.take_of_length_le]
  unfold dS
  cases hu:ww a
  ·simp only [cond_false]
   have:=key a
   rw [HY h]at this
   rw [this];rfl
  ·simp only [cond_true]
   unfold ww at hu
   simp only [Bool.and_eq_true,decide_eq_true_eq]at hu
   rw [w8 (by omega) (by omega),key];rfl
theorem eA (s:aa):(bytesOf s).length=s.length:=by simp [bytesOf]
theorem oU (s:aa): ∀b∈bytesOf s,0≤b∧b<256:=by
 intro b hb
 simp only [bytesOf,List.mem_map]at hb
 obtain⟨c,_,rfl⟩:=hb
 exact⟨by omega,by have:=c.toNat_lt;omega⟩
theorem tI (s:aa):(aH s).length=s.length:=by simp [aH,br,bytesOf]
def kz (p:aa→AV):List AV→List Ob→Br
 | [.str s],[]=>.ite (isM s) (.ret (p s) []) .fail
 |_,_=>.fail
theorem Oh {n:Nat} {s:List AV→List Ob→Br} (hs:Sound Kx n s) {p:aa→AV} (h: ∀x,isM x=true→(s [.str x] []).val=some (p x,[])):Sound Kx n (kz p):=hs.of fun args objs r hv=>by
 unfold kz at hv
 split at hv
 ·obtain⟨h1,h2⟩:=af hv
  rw [h _ h1];exact h2
 ·cases hv
theorem BE {n:Nat} {p:aa→AV} {sOf:(aa→Br)→List AV→List Ob→Br} (hs:Sound Kx n (sOf fun s=>.ite (isM s) (.ret (p s) []) .fail)) (he: ∀f x,sOf f [.str x] []=f x):Sound Kx n (kz p):=
 Oh hs fun x hx=>by rw [he];simp only [Br.val,hx]
theorem tJ:Sound Kx 171 (kz fun s=>.str (aH s)):=by
 refine BE (Bw (fun s=>s.length+1) fun s r h=> ?_) fun _ _=>rfl
 obtain⟨h1,h2⟩:=af h
 unfold tm
 rw [BD _ _ _ _ 0 _ (At.start _) (by rw [eA];omega) rfl (by rw [eA];exact b8 h1) (oU s),←h2]
 rfl
theorem BF (k:List Int→OR'): ∀(r l:List Int) (i:Int) (n:Nat),At l i r→r.length<n→l.length≤4611686018427387904→(∀b∈r,0≤b∧b<256)→
 fF n i l k=k (l.take i.toNat++r.map dS):=by
 intro r;induction r with
 |nil=>
  intro l i n h hn hl hb;obtain⟨n,rfl⟩:=bC hn
  unfold fF kN;simp only [h.dge,cond_false,List.map_nil]
  congr 1;exact h.take.symm
 |cons a r ih=>
  intro l i n h hn hl hb;obtain⟨n,rfl⟩:=bC hn
  have ha:=hb a (List.mem_cons_self ..)
  have e0:(decide (0≤a)&&decide (a<256))=true:=by simp only [Bool.and_eq_true,decide_eq_true_eq];exact ha
  unfold fF kN;simp only [h.dlt,h.dnn,h.get,cond_true,h.next hl,List.map_cons,e0]
  have h':=JA h (dS a)
  rw [ih _ (i+1) n h'.step (by simp at hn;omega) (by simpa using hl) (fun c hc=>hb c (List.mem_cons_of_mem _ hc))]
  congr 1
  obtain⟨p,rfl,rfl⟩:=h
  have e:((p.length:Int)+1).toNat=p.length+1:=by omega
  simp only [Int.toNat_natCast,gz,e]
  rw [List.take_append,List.take_append]
  simp [List.take_of_length_le]
theorem tK:Sound Kx 157 (kz fun s=>.str (aH s)):=by
 refine BE (Bx (fun s=>s.length+1) fun s r h=> ?_) fun _ _=>rfl
 obtain⟨h1,h2⟩:=af h
 unfold tq
 rw [BF _ _ _ 0 _ (At.start _) (by rw [eA];omega) (by rw [eA];exact b8 h1) (oU s),←h2]
 rfl
theorem O3 (a:UInt8) (r:aa):cut (a::r) 1 (((a::r).length:Nat):Int)=r:=by simp [cut]
theorem wH (k:aa→OR'): ∀(s:aa) (n:Nat),s.length<n→fG n s k=k (im s):=by
 intro s;induction s with
 |nil=>intro n hn;obtain⟨n,rfl⟩:=bC hn;unfold fG kO;rfl
 |cons a r ih=>
  intro n hn;obtain⟨n,rfl⟩:=bC hn
  have e1:decide (a::r=([]:aa))=false:=rfl
  have e2:decide ((0:Int)< (((a::r).length:Nat):Int))=true:=dT' (by simp only [List.length_cons];omega)
  have e3:decide ((1:Int)≤(((a::r).length:Nat):Int))=true:=dT' (by simp only [List.length_cons];omega)
  have e4:av (a::r) 0=by8 a:=rfl
  unfold fG kO
  simp only [e1,e2,e3,e4,Bool.not_false,cond_true,O3]
  rw [ih n (by simp at hn;omega)]
  unfold im
  rw [List.dropWhile_cons]
  show(bif sp8 a then _ else _)=_
  cases sp8 a<;>rfl
theorem wI (k:aa→OR'): ∀(q:aa) (n:Nat),q.length<n→q.length≤4611686018427387904→fH n q.reverse k=k (ky q.reverse):=by
 intro q;induction q with
 |nil=>intro n hn _;obtain⟨n,rfl⟩:=bC hn;unfold fH kP;rfl
 |cons a q ih=>
  intro n hn hl;obtain⟨n,rfl⟩:=bC hn
  have e1:decide ((a::q).reverse=([]:aa))=false:=dF' (by simp)
  have e0:ac ((((a::q).reverse.length:Nat):Int)-1)=(q.length:Int):=by rw [w64 (by simp only [List.length_reverse,List.length_cons];omega) (by simp only [List.length_reverse,List.length_cons]at hl⊢;omega)];simp
  have e2:decide ((0:Int)≤(q.length:Int))=true:=by simp
  have e3:decide ((q.length:Int)< (((a::q).reverse.length:Nat):Int))=true:=dT' (by simp only [List.length_reverse,List.length_cons];omega)
  have e5:decide ((q.length:Int)≤(((a::q).reverse.length:Nat):Int))=true:=dT' (by simp only [List.length_reverse,List.length_cons];omega)
  have e4:av (a::q).reverse (q.length:Int)=by8 a:=by simp [av,by8,List.getD_eq_getElem?_getD]
  have e6:cut (a::q).reverse 0 (q.length:Int)=q.reverse:=by simp [cut]
  unfold fH kP
  simp only [e0,e1,e2,e3,e4,e5,e6,Bool.not_false,cond_true]
  rw [ih n (by simp at hn;omega) (by simp at hl;omega)]
  unfold ky
  rw [List.reverse_reverse,List.reverse_reverse,List.dropWhile_cons]
  show(bif sp8 a then _ else _)=_
  cases sp8 a<;>simp
theorem tL (s:aa):(im s).length≤s.length:=List.Sublist.length_le (List.dropWhile_sublist _)
theorem Ep (s:aa):(ky s).length≤s.length:=by
 unfold ky;rw [List.length_reverse];exact Nat.le_trans (List.Sublist.length_le (List.dropWhile_sublist _)) (by simp)
theorem Er:Sound Kx 193 (kz fun s=>.str (wA s)):=by
 refine BE (By (fun s=>s.length+1) fun s r h=> ?_) fun _ _=>rfl
 obtain⟨h1,h2⟩:=af h
 unfold tu
 have hl:=tL s
 have:=b8 h1
 rw [wH _ s _ (by omega)]
 have:=wI (fun aW=>some (AV.str aW,([]:List Ob))) (im s).reverse (s.length+1) (by simp;omega) (by simp;omega)
 rw [List.reverse_reverse]at this
 rw [this,←h2]
 rfl
theorem wJ (l:aa) (hl:l.length≤4611686018427387904) (k:aa→Int→OR'): ∀(r:aa) (i:Int) (n:Nat),At l i r→r.length<n→ ∃j,At l j (im r)∧fI n l i k=k l j:=by
 intro r;induction r with
 |nil=>intro i n h hn;obtain⟨n,rfl⟩:=bC hn;refine⟨i,h, ?_⟩;unfold fI kQ;simp only [h.dge,cond_false]
 |cons a r ih=>
  intro i n h hn;obtain⟨n,rfl⟩:=bC hn
  obtain⟨j,hj,hs⟩:=ih (i+1) n h.step (by simp at hn;omega)
  unfold im
  rw [List.dropWhile_cons]
  unfold fI kQ
  simp only [h.dlt,h.dnn,h.str,cond_true,h.next hl,hs]
  have e:Jv (by8 a)=sp8 a:=rfl
  rw [e]
  cases sp8 a
  ·exact⟨i,h,rfl⟩
  ·exact⟨j,hj,rfl⟩
theorem wK (l p:aa) (hl:l.length≤4611686018427387904) (k:aa→Int→Int→OR'): ∀(q t:aa) (n:Nat),l=p++q.reverse++t→q.length<n→ez n l (p.length:Int) ((p.length:Int)+q.length) k=k l (p.length:Int) ((p.length:Int)+(ky q.reverse).length):=by
 intro q;induction q with
 |nil=>
  intro t n h hn;obtain⟨n,rfl⟩:=bC hn
  have e:decide ((p.length:Int)< (p.length:Int)+(([]:aa).length:Int))=false:=by simp
  unfold ez kS;simp only [e,cond_false];rfl
 |cons a q ih=>
  intro t n h hn;obtain⟨n,rfl⟩:=bC hn
  have hlen:l.length=p.length+q.length+1+t.length:=by rw [h];simp;omega
  have e1:decide ((p.length:Int)< (p.length:Int)+(((a::q).length:Nat):Int))=true:=by simp;omega
  have e0:ac ((p.length:Int)+(((a::q).length:Nat):Int)-1)=(p.length:Int)+q.length:=by rw [w64 (by simp;omega) (by simp;omega)];simp;omega
  have e2:decide ((0:Int)≤(p.length:Int)+q.length)=true:=by simp;omega
  have e3:decide ((p.length:Int)+q.length< (l.length:Int))=true:=by rw [hlen];simp;omega
  have e4:av l ((p.length:Int)+q.length)=by8 a:=by
   have e5:((p.length:Int)+(q.length:Int)).toNat=(p++q.reverse).length:=by simp;omega
   unfold av by8
   rw [e5,h]
   have:p++(a::q).reverse++t=(p++q.reverse)++a::t:=by simp
   rw [this,yw]
  unfold ez kS
  simp only [e0,e1,e2,e3,e4,cond_true]
  rw [ih (a::t) n (by rw [h];simp) (by simp at hn;omega)]
  unfold ky
  rw [List.reverse_reverse,List.reverse_reverse,List.dropWhile_cons]
  show(bif sp8 a then _ else _)=_
  cases sp8 a<;>simp
theorem Es (p m t:aa):cut (p++m++t) (p.length:Int) ((p.length:Int)+m.length)=m:=by
 unfold cut
 have e1:((p.length:Int)+(m.length:Int)).toNat=p.length+m.length:=by omega
 rw [e1,Int.toNat_natCast,List.append_assoc,List.take_append,List.drop_append]
 simp
theorem Et (s:aa): ∃t,s=ky s++t:=by
 refine⟨(s.reverse.takeWhile sp8).reverse, ?_⟩
 unfold ky
 rw [←List.reverse_append,List.takeWhile_append_dropWhile,List.reverse_reverse]
theorem Eu:Sound Kx 182 (kz fun s=>.str (wA s)):=by
 refine BE (Bz (fun s=>s.length+1) fun s r h=> ?_) fun _ _=>rfl
 obtain⟨h1,h2⟩:=af h
 have hl:=b8 h1
 unfold tz
 obtain⟨j,⟨p,hp,rfl⟩,hs⟩:=wJ s hl (fun bH ee=>ez (s.length+1) bH ee ((List.length bH):Int) (fun am ce ef=>bif decide ((0:Int)≤ce)then(bif decide (ce≤ef)then(bif decide (ef≤((List.length am):Int))then some (AV.str (cut am ce ef),([]:List Ob))else none)else none)else none)) s 0 (s.length+1) (At.start s) (by omega)
 rw [hs]
 have hlen:(s.length:Int)=(p.length:Int)+((im s).reverse.length:Int):=by
  have:=congrArg List.length hp
  simp only [List.length_append]at this
  rw [List.length_reverse];omega
 have hle:=tL s
 rw [hlen,wK s p hl _ (im s).reverse [] _ (by simpa using hp) (by simp;omega),List.reverse_reverse]
 obtain⟨t,ht⟩:=Et (im s)
 have hc:=Es p (ky (im s)) t
 rw [List.append_assoc,←ht,←hp]at hc
 have hr:=Ep (im s)
 have e1:decide ((0:Int)≤(p.length:Int))=true:=by simp
 have e2:decide ((p.length:Int)≤(p.length:Int)+((ky (im s)).length:Int))=true:=dT' (by omega)
 have e3:decide ((p.length:Int)+((ky (im s)).length:Int)≤(s.length:Int))=true:=by rw [hlen];simp;omega
 simp only [e1,e2,e3,cond_true,hc]
 rw [←h2];rfl
theorem wL (l:aa) (hl:l.length≤4611686018427387904) (k0 k1:OR'): ∀(r:aa) (i:Int) (n:Nat),At l i r→r.length<n→dU n l i k0 k1=bif a7 bO r then k1 else k0:=by
 intro r;induction r with
 |nil=>intro i n h hn;obtain⟨n,rfl⟩:=bC hn;unfold dU io;simp only [h.dge,cond_false,a7,List.all_nil,cond_true]
 |cons a r ih=>
  intro i n h hn;obtain⟨n,rfl⟩:=bC hn
  have hs:=ih (i+1) n h.step (by simp at hn;omega)
  unfold dU io;simp only [h.dlt,h.dnn,h.str,cond_true,h.next hl,hs,a7,List.all_cons]
  cases bO (by8 a)<;>rfl
def HZ:=je fun s=>.ite (isM s) (.ret (.bool (a7 bO s)) []) .fail
theorem fL:Sound Kx 191 HZ:=by
 refine wF (fun s=>s.length+1) fun s r h=> ?_
 obtain⟨h1,h2⟩:=af h
 unfold oQ
 rw [wL s (b8 h1) _ _ s 0 _ (At.start s) (by omega),←h2]
 cases a7 bO s<;>rfl
theorem BG (l:aa) (hl:l.length≤4611686018427387904) (k0 k1:OR'): ∀(r:aa) (i:Int) (n:Nat),At l i r→r.length<n→fJ n l i k0 k1=bif a7 mg r then k1 else k0:=by
 intro r;induction r with
 |nil=>intro i n h hn;obtain⟨n,rfl⟩:=bC hn;unfold fJ kT;simp only [h.dge,cond_false,a7,List.all_nil,cond_true]
 |cons a r ih=>
  intro i n h hn;obtain⟨n,rfl⟩:=bC hn
  have hs:=ih (i+1) n h.step (by simp at hn;omega)
  unfold fJ kT;simp only [h.dlt,h.dnn,h.str,cond_true,h.next hl,hs,a7,List.all_cons]
  cases mg (by8 a)<;>rfl
def KN:=mj fun s=>.ite (isM s) (.ret (.bool (a7 mg s)) []) .fail
theorem tM:Sound Kx 191 KN:=by
 refine BB (fun s=>s.length+1) fun s r h=> ?_
 obtain⟨h1,h2⟩:=af h
 unfold tE
 rw [BG s (b8 h1) _ _ s 0 _ (At.start s) (by omega),←h2]
 cases a7 mg s<;>rfl
theorem tN (l:aa) (hl:l.length≤4611686018427387904) (k0 k1:OR'): ∀(r:aa) (i:Int) (n:Nat),At l i r→r.length<n→di n l i k0 k1=bif a7 mg r then k1 else k0:=by
 intro r;induction r with
 |nil=>intro i n h hn;obtain⟨n,rfl⟩:=bC hn;unfold di fK;simp only [h.dge,cond_false,a7,List.all_nil,cond_true]
 |cons a r ih=>
  intro i n h hn;obtain⟨n,rfl⟩:=bC hn
  have hs:=ih (i+1) n h.step (by simp at hn;omega)
  unfold di fK;simp only [h.dlt,h.dnn,h.str,cond_true,h.next hl,hs,a7,List.all_cons]
  cases mg (by8 a)<;>rfl
theorem mn:Sound Kx 181 (kz fun s=>.bool (a7 mg s)):=by
 refine BE (tH (fun s=>s.length+1) fun s r h=> ?_) fun _ _=>rfl
 obtain⟨h1,h2⟩:=af h
 unfold ml
 rw [tN s (b8 h1) _ _ s 0 _ (At.start s) (by omega),←h2]
 cases a7 mg s<;>rfl
theorem Ew (l:aa) (hl:l.length≤4611686018427387904) (k0 k1:aa→OR'): ∀(r:aa) (i:Int) (n:Nat),At l i r→r.length<n→jf n l i k0 k1=bif a7 bO r then k1 l else k0 l:=by
 intro r;induction r with
 |nil=>intro i n h hn;obtain⟨n,rfl⟩:=bC hn;unfold jf ra;simp only [h.dge,cond_false,a7,List.all_nil,cond_true]
 |cons a r ih=>
  intro i n h hn;obtain⟨n,rfl⟩:=bC hn
  have hs:=ih (i+1) n h.step (by simp at hn;omega)
  unfold jf ra;simp only [h.dlt,h.dnn,h.str,cond_true,h.next hl,hs,a7,List.all_cons,bO]
  by_cases g1:by8 a<33<;>by_cases g2:126<by8 a
  ·have e1: ¬33≤by8 a:=by omega
   simp only [g1,e1,decide_true,decide_false,cond_true,Bool.false_and,cond_false]
  ·have e1: ¬33≤by8 a:=by omega
   simp only [g1,e1,decide_true,decide_false,cond_true,Bool.false_and,cond_false]
  ·have e1:33≤by8 a:=by omega
   have e2: ¬by8 a≤126:=by omega
   simp only [g1,g2,e1,e2,decide_true,decide_false,cond_true,Bool.false_and,Bool.and_false,cond_false]
  ·have e1:33≤by8 a:=by omega
   have e2:by8 a≤126:=by omega
   simp only [g1,g2,e1,e2,decide_true,decide_false,cond_true,Bool.true_and,cond_false]
theorem kU:Sound Kx 183 (kz fun s=>.bool (a7 bO s&&decide ((0:Int)< (s.length:Int)))):=by
 refine BE (El (fun s=>s.length+1) fun s r h=> ?_) fun _ _=>rfl
 obtain⟨h1,h2⟩:=af h
 unfold y7
 rw [Ew s (b8 h1) _ _ s 0 _ (At.start s) (by omega),←h2]
 cases a7 bO s<;>rfl
def H0:SC:=[⟨310,_,gA⟩,⟨238,_,gB⟩,⟨311,_,ew⟩]
def mo (b:Int):Br:=(Br.ite (eX b) (Br.ret (AV.bool true) []) (Br.ite (ww b) (Br.ret (AV.bool true) []) (Br.ite (bb b) (Br.ret (AV.bool true) []) (Br.ite (decide (b=45)) (Br.ret (AV.bool true) []) (Br.ite (decide (b=46)) (Br.ret (AV.bool true) []) (Br.ite (decide (b=95)) (Br.ret (AV.bool true) []) (Br.ret (AV.bool (decide (b=126))) [])))))))
def y_:List AV→List Ob→Br
 | [.int .u8 b],[]=>mo b
 |_,_=>.fail
theorem Ey:Sound Kx 341 y_:=ae (C:=H0) (O:=O0) Tryz.func341 (by kernel_rfl) fun args objs=>by
 unfold y_;split
 ·exact .inr (by kernel_rfl)
 ·exact .inl rfl
def KO:SC:=[⟨311,_,ew⟩]
def rb (b:Int):Br:=(Br.ite (bb b) (Br.ret (AV.int .i64 (ac (wk8 (b-48)))) []) (Br.ite (decide (97≤b)) (Br.ite (decide (b≤102)) (Br.ret (AV.int .i64 (ac ((ac (wk8 (b-97)))+10))) []) (Br.ite (decide (65≤b)) (Br.ite (decide (b≤70)) (Br.ret (AV.int .i64 (ac ((ac (wk8 (b-65)))+10))) []) (Br.ret (AV.int .i64 (-1)) [])) (Br.ret (AV.int .i64 (-1)) []))) (Br.ite (decide (65≤b)) (Br.ite (decide (b≤70)) (Br.ret (AV.int .i64 (ac ((ac (wk8 (b-65)))+10))) []) (Br.ret (AV.int .i64 (-1)) [])) (Br.ret (AV.int .i64 (-1)) []))))
def Ez:List AV→List Ob→Br
 | [.int .u8 b],[]=>rb b
 |_,_=>.fail
theorem hexOf_ok:Sound Kx 333 Ez:=ae (C:=KO) (O:=O0) Tryz.func333 (by kernel_rfl) fun args objs=>by
 unfold Ez;split
 ·exact .inr (by kernel_rfl)
 ·exact .inl rfl
def KP:SC:=[⟨212,_,fE⟩,⟨263,_,dT⟩,⟨309,_,y9⟩]
def rc (b:Int):Br:=(Br.ite ((decide (0≤b))&&(decide (b<256))) (Br.ite (decide (97≤(dS b))) (Br.ite (decide ((dS b)≤122)) (Br.ret (AV.bool true) []) (Br.ite (bb b) (Br.ret (AV.bool true) []) (Br.ret (AV.bool (cB ([45,46,95,126]:aa) b)) []))) (Br.ite (bb b) (Br.ret (AV.bool true) []) (Br.ret (AV.bool (cB ([45,46,95,126]:aa) b)) []))) Br.fail)
def EA:List AV→List Ob→Br
 | [.int .u8 b],[]=>rc b
 |_,_=>.fail
theorem sfree_ok:Sound Kx 328 EA:=ae (C:=KP) (O:=O0) Tryz.func328 (by kernel_rfl) fun args objs=>by
 unfold EA;split
 ·exact .inr (by kernel_rfl)
 ·exact .inl rfl
def mq (b:Int):Br:=(Br.ite (decide (97≤b)) (Br.ite (decide (b≤122)) (Br.ret (AV.int .u8 (wk8 (b-32))) []) (Br.ret (AV.int .u8 b) [])) (Br.ret (AV.int .u8 b) []))
def zc:List AV→List Ob→Br
 | [.int .u8 b],[]=>mq b
 |_,_=>.fail
theorem supper_ok:Sound Kx 329 zc:=ae (C:=[]) (O:=O0) Tryz.func329 (by kernel_rfl) fun args objs=>by
 unfold zc;split
 ·exact .inr (by kernel_rfl)
 ·exact .inl rfl
def KQ:SC:=[⟨310,_,gA⟩,⟨311,_,ew⟩]
def rf (b:Int):Br:=(Br.ite (eX b) (Br.ret (AV.bool true) []) (Br.ite (bb b) (Br.ret (AV.bool true) []) (Br.ite (decide (b=45)) (Br.ret (AV.bool true) []) (Br.ret (AV.bool (decide (b=46))) []))))
def EB:List AV→List Ob→Br
 | [.int .u8 b],[]=>rf b
 |_,_=>.fail
theorem H1:Sound Kx 342 EB:=ae (C:=KQ) (O:=O0) Tryz.func342 (by kernel_rfl) fun args objs=>by
 unfold EB;split
 ·exact .inr (by kernel_rfl)
 ·exact .inl rfl
def oV:Opt:={live:=[(5,[0,4,5])],outs:=[(5,[2,3,4])]}
def sReadHex_C:SC:=[⟨212,_,fE⟩,⟨263,_,dT⟩]
def eC (aL:aa) (bm aS:Int) (Pc:aa→Int→Int→OR') (dI ll:Int→OR'):OR':=
 (bif(decide (aS< (aL.length:Int)))then(bif(decide (0≤aS))then(bif(decide (aS< (aL.length:Int)))then(bif((decide (0≤(av aL aS)))&&(decide ((av aL aS)<256)))then(bif(bb (dS (av aL aS)))then(Pc aL (ac ((ac (bm*16))+(ac (wk8 ((dS (av aL aS))-48))))) (ac (aS+1)))else(bif(decide (97≤(dS (av aL aS))))then(bif(decide ((dS (av aL aS))≤102))then(Pc aL (ac ((ac ((ac (bm*16))+(ac (wk8 ((dS (av aL aS))-97)))))+10)) (ac (aS+1)))else(dI bm))else(dI bm)))else(none))else(none))else(none))else(ll bm))
def ci:Nat→aa→Int→Int→(Int→OR')→(Int→OR')→OR'
 |0,_,_,_,_,_=>none
 |n+1,aL,bm,aS,dI,ll=>eC aL bm aS (fun aL bm aS=>ci n aL bm aS dI ll) dI ll
abbrev sReadHex_p5:SP:=⟨49,[0,4,5],[(.v .s),(.v (.i .i64)),(.v (.i .i64))],[]⟩
noncomputable def mt:Code:=aG (aI Tryz.f327) [1,1,1,0,1,0,0]
def mu (f:(Int→OR')→(Int→OR')→OR') (k:KT):OR':=f (fun am=>k Ex.ret ((St.mk (aE 0 49 [(2,(AV.int .i64 0)),(3,(AV.bool false)),(4,(AV.int .i64 am))]) ([]:(List (Nat×(Ob))))))) (fun dC=>k (Ex.exit 0) ((St.mk (aE 0 49 [(4,(AV.int .i64 dC))]) ([]:(List (Nat×(Ob)))))))
def mv (n:Nat) (d:sReadHex_p5.D):KT→OR':=mu (ci n d.1.1 d.1.2.1 d.1.2.2.1)
def oW (N:Nat):Lam:=bD [⟨5,sReadHex_p5,mv N⟩]
theorem tO (N:Nat):OkL Kx sReadHex_C.s oV 0 N (oW N) mt:=okL sReadHex_p5 (mv) (fun d kR=>mu (eC d.1.1 d.1.2.1 d.1.2.2.1 (fun aL bm aS=>kR ((aL,bm,aS,()),())))) (fun _ _=>by kernel_rfl) (fun _ _ _=>by kernel_rfl) (fun _ _=>by kernel_rfl) (fun _ _ _ _=>by kernel_rfl) (ah (l':=[]) (by kernel_rfl) trivial)
def jB (N:Nat) (s:aa):OR':=(bif(decide ((s.length:Int)=0))then(some ((AV.tup ((AV.int .i64 0)::((AV.bool false)::[]))),[]))else(bif(decide (7< (s.length:Int)))then(some ((AV.tup ((AV.int .i64 0)::((AV.bool false)::[]))),[]))else(ci N s 0 0 (fun am=>(some ((AV.tup ((AV.int .i64 0)::((AV.bool false)::[]))),[]))) (fun dC=>(some ((AV.tup ((AV.int .i64 dC)::((AV.bool true)::[]))),[]))))))
def jC (φ:aa→Br):List AV→List Ob→Br
 | [.str s],[]=>φ s
 |_,_=>.fail
theorem rg {φ:aa→Br} (fu:aa→Nat) (hv: ∀s res_,(φ s).val=some res_→jB (fu s) s=some res_):Sound Kx 327 (jC φ):=an (C:=sReadHex_C) (O:=oV) Tryz.func327 (by kernel_rfl) fun args objs=>by
 unfold jC;split
 ·rename_i s;exact .inr fun _ hyp_=>aV (Λ:=oW (fu s)) (by kernel_rfl) (ah (l':=[mt]) (by kernel_rfl) ⟨tO _,trivial⟩) (by kernel_rfl) (hv s _ hyp_)
 ·exact .inl rfl
def zd:Opt:={live:=[(4,[0,1,5,6,7])],outs:=[(4,[4,5])]}
def ip (aF:aa) (aX aT dJ:Int) (go:(List aa)) (Pd:aa→Int→Int→Int→(List aa)→OR') (cF:(List aa)→OR'):OR':=
 (bif(decide (dJ≤(aF.length:Int)))then(bif(decide (dJ=(aF.length:Int)))then(bif(decide (0≤aT))then(bif(decide (aT≤dJ))then(bif(decide (dJ≤(aF.length:Int)))then(bif(decide (((go.length+(List.length (List.set (List.replicate 1 ([]:aa)) 0 (cut aF aT dJ))))*16)≤140737488355328))then(Pd aF aX (ac (dJ+1)) (ac (dJ+1)) (go++(List.set (List.replicate 1 ([]:aa)) 0 (cut aF aT dJ))))else(none))else(none))else(none))else(none))else(bif(decide (0≤dJ))then(bif(decide (dJ< (aF.length:Int)))then(bif(decide ((av aF dJ)=aX))then(bif(decide (0≤aT))then(bif(decide (aT≤dJ))then(bif(decide (dJ≤(aF.length:Int)))then(bif(decide (((go.length+(List.length (List.set (List.replicate 1 ([]:aa)) 0 (cut aF aT dJ))))*16)≤140737488355328))then(Pd aF aX (ac (dJ+1)) (ac (dJ+1)) (go++(List.set (List.replicate 1 ([]:aa)) 0 (cut aF aT dJ))))else(none))else(none))else(none))else(none))else(Pd aF aX aT (ac (dJ+1)) go))else(none))else(none)))else(cF go))
def dv:Nat→aa→Int→Int→Int→(List aa)→((List aa)→OR')→OR'
 |0,_,_,_,_,_,_=>none
 |n+1,aF,aX,aT,dJ,go,cF=>ip aF aX aT dJ go (fun aF aX aT dJ go=>dv n aF aX aT dJ go cF) cF
abbrev ssplit_p4:SP:=⟨35,[0,1,5,6,7],[(.v .s),(.v (.i .u8)),(.v (.ref 384 0)),(.v (.i .i64)),(.v (.i .i64))],[(384,.arr Ty.str 0 false)]⟩
noncomputable def tP:Code:=aG (aI Tryz.f264) [1,1,1,0,1,0,0]
def tQ (f:((List aa)→OR')→OR') (k:KT):OR':=f (fun cq=>k (Ex.exit 0) ((St.mk (aE 0 35 [(5,(AV.ref 384 0))]) ((384,(Ob.arr Ty.str 0 false cq))::([]:(List (Nat×(Ob))))))))
def tR (n:Nat) (d:ssplit_p4.D):KT→OR':=tQ (dv n d.1.1 d.1.2.1 d.1.2.2.2.1 d.1.2.2.2.2.1 d.2.1)
def ze (N:Nat):Lam:=bD [⟨4,ssplit_p4,tR N⟩]
theorem BH (N:Nat):OkL Kx noS zd 0 N (ze N) tP:=okL ssplit_p4 (tR) (fun d kR=>tQ (ip d.1.1 d.1.2.1 d.1.2.2.2.1 d.1.2.2.2.2.1 d.2.1 (fun aF aX aT dJ go=>kR ((aF,aX,(),aT,dJ,()),(go,()))))) (fun _ _=>by kernel_rfl) (fun _ _ _=>by kernel_rfl) (fun _ _=>by kernel_rfl) (fun _ _ _ _=>by kernel_rfl) (ah (l':=[]) (by kernel_rfl) trivial)
def oX (N:Nat) (s:aa) (b:Int):OR':=(dv N s b 0 0 ([]:(List aa)) (fun cq=>(some ((AV.ref 0 0),((Ob.arr Ty.str 0 false cq)::[])))))
def oY (φ:aa→Int→Br):List AV→List Ob→Br
 | [.str s,.int .u8 b],[]=>φ s b
 |_,_=>.fail
theorem wM {φ:aa→Int→Br} (fu:aa→Int→Nat) (hv: ∀s b res_,(φ s b).val=some res_→oX (fu s b) s b=some res_):Sound Kx 264 (oY φ):=an (C:=[]) (O:=zd) Tryz.func264 (by kernel_rfl) fun args objs=>by
 unfold oY;split
 ·rename_i s b;exact .inr fun _ hyp_=>aV (Λ:=ze (fu s b)) (by kernel_rfl) (ah (l':=[tP]) (by kernel_rfl) ⟨BH _,trivial⟩) (by kernel_rfl) (hv s b _ hyp_)
 ·exact .inl rfl
def Mv (s p:aa):Br:=(Br.ite (decide ((p.length:Int)≤(s.length:Int))) (Br.ite (decide (0≤(p.length:Int))) (Br.ite (decide ((p.length:Int)≤(s.length:Int))) (Br.ret (AV.bool (decide ((cut s 0 (p.length:Int))=p))) []) Br.fail) Br.fail) (Br.ret (AV.bool false) []))
def Mw:List AV→List Ob→Br
 | [.str s,.str p],[]=>Mv s p
 |_,_=>.fail
theorem Mx:Sound Kx 293 Mw:=ae (C:=[]) (O:=O0) Tryz.func293 (by kernel_rfl) fun args objs=>by
 unfold Mw;split
 ·exact .inr (by kernel_rfl)
 ·exact .inl rfl
def Oi:SC:=[⟨293,_,Mx⟩]
def My (s p:aa):Br:=(Br.ite (decide ((p.length:Int)≤(s.length:Int))) (Br.ite (decide (0≤(p.length:Int))) (Br.ite (decide ((p.length:Int)≤(s.length:Int))) (Br.ret (AV.bool (decide ((cut s 0 (p.length:Int))=p))) []) Br.fail) Br.fail) (Br.ret (AV.bool false) []))
def MA:List AV→List Ob→Br
 | [.str s,.str p],[]=>My s p
 |_,_=>.fail
theorem MB:Sound Kx 230 MA:=ae (C:=Oi) (O:=O0) Tryz.func230 (by kernel_rfl) fun args objs=>by
 unfold MA;split
 ·exact .inr (by kernel_rfl)
 ·exact .inl rfl
def H2:SC:=[⟨212,_,fE⟩,⟨263,_,dT⟩,⟨309,_,y9⟩]
def mw (b:Int):Br:=(Br.ite ((decide (0≤b))&&(decide (b<256))) (Br.ite (decide (97≤(dS b))) (Br.ite (decide ((dS b)≤122)) (Br.ret (AV.bool true) []) (Br.ite (bb b) (Br.ret (AV.bool true) []) (Br.ite (decide (b=96)) (Br.ret (AV.bool true) []) (Br.ret (AV.bool (cB ([33,35,36,37,38,39,42,43,45,46,94,95,124,126]:aa) b)) [])))) (Br.ite (bb b) (Br.ret (AV.bool true) []) (Br.ite (decide (b=96)) (Br.ret (AV.bool true) []) (Br.ret (AV.bool (cB ([33,35,36,37,38,39,42,43,45,46,94,95,124,126]:aa) b)) [])))) Br.fail)
def zf:List AV→List Ob→Br
 | [.int .u8 b],[]=>mw b
 |_,_=>.fail
theorem stchar_ok:Sound Kx 252 zf:=ae (C:=H2) (O:=O0) Tryz.func252 (by kernel_rfl) fun args objs=>by
 unfold zf;split
 ·exact .inr (by kernel_rfl)
 ·exact .inl rfl
def zg:Opt:={live:=[(2,[0,1,5])],outs:=[(2,[4])]}
def allTok_C:SC:=[⟨255,_,BC⟩]
def iq (al:aa) (ap:Int) (O_:aa→Int→OR') (bG cz:OR'):OR':=
 (bif(decide (ap< (al.length:Int)))then(bif(decide (0≤ap))then(bif(decide (ap< (al.length:Int)))then(bif((decide (0≤(av al ap)))&&(decide ((av al ap)<256)))then(bif(!(il (av al ap)))then bG else(O_ al (ac (ap+1))))else(none))else(none))else(none))else cz)
def dV:Nat→aa→Int→(OR')→(OR')→OR'
 |0,_,_,_,_=>none
 |n+1,al,ap,bG,cz=>iq al ap (fun al ap=>dV n al ap bG cz) bG cz
abbrev allTok_p2:SP:=⟨18,[0,1,5],[(.v .s),(.v (.fn 255 [])),(.v (.i .i64))],[]⟩
noncomputable def tS:Code:=aG (aI Tryz.f191) [1,0,1,0,0]
def tT (f:(OR')→(OR')→OR') (k:KT):OR':=f (k Ex.ret ((St.mk (aE 0 18 [(4,(AV.bool false))]) ([]:(List (Nat×(Ob))))))) (k (Ex.exit 0) ((St.mk (aE 0 18 []) ([]:(List (Nat×(Ob)))))))
def tU (n:Nat) (d:allTok_p2.D):KT→OR':=tT (dV n d.1.1 d.1.2.2.1)
def zh (N:Nat):Lam:=bD [⟨2,allTok_p2,tU N⟩]
theorem BI (N:Nat):OkL Kx allTok_C.s zg 0 N (zh N) tS:=okL allTok_p2 (tU) (fun d kR=>tT (iq d.1.1 d.1.2.2.1 (fun al ap=>kR ((al,(),ap,()),())))) (fun _ _=>by kernel_rfl) (fun _ _ _=>by kernel_rfl) (fun _ _=>by kernel_rfl) (fun _ _ _ _=>by kernel_rfl) (ah (l':=[]) (by kernel_rfl) trivial)
def oZ (N:Nat) (s:aa):OR':=(dV N s 0 (some ((AV.bool false),[])) (some ((AV.bool true),[])))
def jg (φ:aa→Br):List AV→List Ob→Br
 | [.str s,.fn 255 []],[]=>φ s
 |_,_=>.fail
theorem wN {φ:aa→Br} (fu:aa→Nat) (hv: ∀s res_,(φ s).val=some res_→oZ (fu s) s=some res_):Sound Kx 191 (jg φ):=an (C:=allTok_C) (O:=zg) Tryz.func191 (by kernel_rfl) fun args objs=>by
 unfold jg;split
 ·rename_i s;exact .inr fun _ hyp_=>aV (Λ:=zh (fu s)) (by kernel_rfl) (ah (l':=[tS]) (by kernel_rfl) ⟨BI _,trivial⟩) (by kernel_rfl) (hv s _ hyp_)
 ·exact .inl rfl
def KR:SC:=[⟨171,_,tJ⟩]
def rh (s t:aa):Br:=(Br.ite (isM s) (Br.ite (isM t) (Br.ret (AV.bool (decide ((aH s)=(aH t)))) []) Br.fail) Br.fail)
def EC:List AV→List Ob→Br
 | [.str s,.str t],[]=>rh s t
 |_,_=>.fail
theorem isame_ok:Sound Kx 229 EC:=ae (C:=KR) (O:=O0) Tryz.func229 (by kernel_rfl) fun args objs=>by
 unfold EC;split
 ·exact .inr (by kernel_rfl)
 ·exact .inl rfl
def BJ:SC:=[⟨191,_,tM⟩]
def gC (s:aa):Br:=(Br.ite (decide ((s.length:Int)≤40)) (Br.ite (isM s) (Br.ret (AV.bool (a7 mg s)) []) Br.fail) (Br.ret (AV.bool false) []))
def o3:List AV→List Ob→Br
 | [.str s],[]=>gC s
 |_,_=>.fail
theorem wP:Sound Kx 139 o3:=ae (C:=BJ) (O:=O0) Tryz.func139 (by kernel_rfl) fun args objs=>by
 unfold o3;split
 ·exact .inr (by kernel_rfl)
 ·exact .inl rfl
def BK:SC:=[⟨124,_,bZ⟩,⟨191,_,fL⟩]
def gD (s:aa):Br:=(Br.ite (decide (1≤(s.length:Int))) (Br.ite (decide ((s.length:Int)≤200)) (Br.ite (isM s) (Br.ret (AV.bool (a7 bO s)) []) Br.fail) (Br.ret (AV.bool false) [])) (Br.ret (AV.bool false) []))
def o5:List AV→List Ob→Br
 | [.str s],[]=>gD s
 |_,_=>.fail
theorem wQ:Sound Kx 137 o5:=ae (C:=BK) (O:=O0) Tryz.func137 (by kernel_rfl) fun args objs=>by
 unfold o5;split
 ·exact .inr (by kernel_rfl)
 ·exact .inl rfl
theorem BL:Sound Kx 252 HX:=stchar_ok.of fun args objs r h=>by
 unfold HX at h;split at h
 ·rename_i b
  obtain⟨h1,h2⟩:=af h
  have h3:=h1
  simp only [Bool.and_eq_true,decide_eq_true_eq]at h3
  rw [←h2]
  show(mw b).val=_
  unfold mw il eX
  have hm:isM ((33:UInt8)::35::36::37::38::39::42::43::45::46::94::95::124::126::[])=true:=by decide
  have hh:cB ((33:UInt8)::35::36::37::38::39::42::43::45::46::94::95::124::126::[]) b=tokSet.any fun c=>decide (by8 c=b):=rfl
  simp only [Br.val,h1,hm,hh]
  unfold dS ww
  by_cases g1:65≤b<;>by_cases g2:b≤90<;>by_cases g3:97≤b<;>by_cases g4:b≤122<;>first|(exfalso;omega)|skip
  all_goals simp only [g1,g2,g3,g4,decide_true,decide_false,Bool.and_true,Bool.and_false,Bool.false_and,Bool.true_and,cond_true,cond_false,Bool.true_or,Bool.false_or]
  all_goals first
   |rfl
   |(have e1:(97:Int)≤b+32:=by omega
     have e2:b+32≤122:=by omega
     simp only [e1,e2,decide_true])
   |(cases bb b<;>cases decide (b=96)<;>rfl)
 ·cases h
theorem wR (l:aa) (hl:l.length≤4611686018427387904) (k0 k1:OR'): ∀(r:aa) (i:Int) (n:Nat),At l i r→r.length<n→dV n l i k0 k1=bif a7 il r then k1 else k0:=by
 intro r;induction r with
 |nil=>intro i n h hn;obtain⟨n,rfl⟩:=bC hn;unfold dV iq;simp only [h.dge,cond_false,a7,List.all_nil,cond_true]
 |cons a r ih=>
  intro i n h hn;obtain⟨n,rfl⟩:=bC hn
  have hs:=ih (i+1) n h.step (by simp at hn;omega)
  have e0:(decide (0≤by8 a)&&decide (by8 a<256))=true:=by simp only [Bool.and_eq_true,decide_eq_true_eq];exact⟨yr a,yu a⟩
  unfold dV iq;simp only [h.dlt,h.dnn,h.str,cond_true,h.next hl,hs,a7,List.all_cons,e0]
  cases il (by8 a)<;>rfl
def H3:=jg fun s=>.ite (isM s) (.ret (.bool (a7 il s)) []) .fail
theorem BM:Sound Kx 191 H3:=by
 refine wN (fun s=>s.length+1) fun s r h=> ?_
 obtain⟨h1,h2⟩:=af h
 unfold oZ
 rw [wR s (b8 h1) _ _ s 0 _ (At.start s) (by omega),←h2]
 cases a7 il s<;>rfl
def wT (s t:aa):Bool:=decide (aH s=aH t)
def JB:List AV→List Ob→Br
 | [.str s,.str t],[]=>.ite (isM s&&isM t) (.ret (.bool (wT s t)) []) .fail
 |_,_=>.fail
theorem ED:Sound Kx 229 JB:=isame_ok.of fun args objs r h=>by
 unfold JB at h;split at h
 ·rename_i s t
  obtain⟨h1,h2⟩:=af h
  rw [Bool.and_eq_true]at h1
  rw [←h2]
  show(rh s t).val=_
  unfold rh wT
  simp only [Br.val,h1.1,h1.2]
 ·cases h
def KS (p:aa→AV):List AV→List Ob→Br
 | [.str s],[]=>.ret (p s) []
 |_,_=>.fail
theorem EE {n:Nat} {s:List AV→List Ob→Br} (hs:Sound Kx n s) {p:aa→AV} (h: ∀x,(s [.str x] []).val=some (p x,[])):Sound Kx n (KS p):=hs.of fun args objs r hv=>by
 unfold KS at hv
 split at hv
 ·rw [h];exact hv
 ·cases hv
theorem bi {s:aa} {n:Nat} (h:s.length≤n) (hn:n≤4611686018427387904:=by decide):isM s=true:=dT' (Nat.le_trans h hn)
def gE (s:aa):Bool:=decide (s.length≤40)&&a7 mg s
def gF (s:aa):Bool:=decide (1≤s.length)&&decide (s.length≤200)&&a7 bO s
theorem wU (s:aa) (n:Nat):decide ((s.length:Int)≤(n:Int))=decide (s.length≤n):=by congr 1;apply propext;omega
theorem tV:Sound Kx 139 (KS fun s=>.bool (gE s)):=EE wP fun s=>by
 show(gC s).val=_
 unfold gC gE
 by_cases h:s.length≤40
 ·have h':(s.length:Int)≤40:=by omega
  simp only [Br.val,h,h',decide_true,bi h,Bool.true_and]
 ·have h': ¬(s.length:Int)≤40:=by omega
  simp only [Br.val,h,h',decide_false,Bool.false_and]
theorem tW:Sound Kx 137 (KS fun s=>.bool (gF s)):=EE wQ fun s=>by
 show(gD s).val=_
 unfold gD gF
 by_cases h:1≤s.length
 ·have h':(1:Int)≤(s.length:Int):=by omega
  by_cases g:s.length≤200
  ·have g':(s.length:Int)≤200:=by omega
   simp only [Br.val,h,h',g,g',decide_true,bi g,Bool.true_and]
  ·have g': ¬(s.length:Int)≤200:=by omega
   simp only [Br.val,h,h',g,g',decide_true,decide_false,Bool.true_and,Bool.false_and]
 ·have h': ¬(1:Int)≤(s.length:Int):=by omega
  simp only [Br.val,h,h',decide_false,Bool.false_and]
def H4:SC:=[⟨124,_,bZ⟩,⟨191,_,BM⟩]
def my (s:aa):Br:=(Br.ite (decide (1≤(s.length:Int))) (Br.ite (decide ((s.length:Int)≤4000)) (Br.ite (isM s) (Br.ret (AV.bool (a7 il s)) []) Br.fail) (Br.ret (AV.bool false) [])) (Br.ret (AV.bool false) []))
def zi:List AV→List Ob→Br
 | [.str s],[]=>my s
 |_,_=>.fail
theorem EF:Sound Kx 190 zi:=ae (C:=H4) (O:=O0) Tryz.func190 (by kernel_rfl) fun args objs=>by
 unfold zi;split
 ·exact .inr (by kernel_rfl)
 ·exact .inl rfl
def zj:Opt:={live:=[(4,[0,3])],outs:=[(4,[2])]}
def sToken_C:SC:=[⟨252,_,BL⟩]
def ir (aF:aa) (aX:Int) (Pd:aa→Int→OR') (cF eS:OR'):OR':=
 (bif(decide (aX< (aF.length:Int)))then(bif(decide (0≤aX))then(bif(decide (aX< (aF.length:Int)))then(bif((decide (0≤(av aF aX)))&&(decide ((av aF aX)<256)))then(bif(!(il (av aF aX)))then cF else(Pd aF (ac (aX+1))))else(none))else(none))else(none))else eS)
def dW:Nat→aa→Int→(OR')→(OR')→OR'
 |0,_,_,_,_=>none
 |n+1,aF,aX,cF,eS=>ir aF aX (fun aF aX=>dW n aF aX cF eS) cF eS
abbrev sToken_p4:SP:=⟨23,[0,3],[(.v .s),(.v (.i .i64))],[]⟩
noncomputable def tX:Code:=aG (aI Tryz.f180) [1,1,0,1,0,0]
def tY (f:(OR')→(OR')→OR') (k:KT):OR':=f (k Ex.ret ((St.mk (aE 0 23 [(2,(AV.bool false))]) ([]:(List (Nat×(Ob))))))) (k (Ex.exit 0) ((St.mk (aE 0 23 []) ([]:(List (Nat×(Ob)))))))
def tZ (n:Nat) (d:sToken_p4.D):KT→OR':=tY (dW n d.1.1 d.1.2.1)
def zk (N:Nat):Lam:=bD [⟨4,sToken_p4,tZ N⟩]
theorem BN (N:Nat):OkL Kx sToken_C.s zj 0 N (zk N) tX:=okL sToken_p4 (tZ) (fun d kR=>tY (ir d.1.1 d.1.2.1 (fun aF aX=>kR ((aF,aX,()),())))) (fun _ _=>by kernel_rfl) (fun _ _ _=>by kernel_rfl) (fun _ _=>by kernel_rfl) (fun _ _ _ _=>by kernel_rfl) (ah (l':=[]) (by kernel_rfl) trivial)
def o6 (N:Nat) (s:aa):OR':=(bif(decide ((s.length:Int)=0))then(some ((AV.bool false),[]))else(bif(decide (4000< (s.length:Int)))then(some ((AV.bool false),[]))else(dW N s 0 (some ((AV.bool false),[])) (some ((AV.bool true),[])))))
def o7 (φ:aa→Br):List AV→List Ob→Br
 | [.str s],[]=>φ s
 |_,_=>.fail
theorem wV {φ:aa→Br} (fu:aa→Nat) (hv: ∀s res_,(φ s).val=some res_→o6 (fu s) s=some res_):Sound Kx 180 (o7 φ):=an (C:=sToken_C) (O:=zj) Tryz.func180 (by kernel_rfl) fun args objs=>by
 unfold o7;split
 ·rename_i s;exact .inr fun _ hyp_=>aV (Λ:=zk (fu s)) (by kernel_rfl) (ah (l':=[tX]) (by kernel_rfl) ⟨BN _,trivial⟩) (by kernel_rfl) (hv s _ hyp_)
 ·exact .inl rfl
theorem o8:Sound Kx 190 (KS fun s=>.bool (tl s)):=EE EF fun s=>by
 show(my s).val=_
 unfold my tl
 by_cases h:1≤s.length
 ·have h':(1:Int)≤(s.length:Int):=by omega
  by_cases g:s.length≤4000
  ·have g':(s.length:Int)≤4000:=by omega
   simp only [Br.val,h,h',g,g',decide_true,bi g,Bool.true_and]
  ·have g': ¬(s.length:Int)≤4000:=by omega
   simp only [Br.val,h,h',g,g',decide_true,decide_false,Bool.true_and,Bool.false_and]
 ·have h': ¬(1:Int)≤(s.length:Int):=by omega
  simp only [Br.val,h,h',decide_false,Bool.false_and]
theorem wW (l:aa) (hl:l.length≤4611686018427387904) (k0 k1:OR'): ∀(r:aa) (i:Int) (n:Nat),At l i r→r.length<n→dW n l i k0 k1=bif a7 il r then k1 else k0:=by
 intro r;induction r with
 |nil=>intro i n h hn;obtain⟨n,rfl⟩:=bC hn;unfold dW ir;simp only [h.dge,cond_false,a7,List.all_nil,cond_true]
 |cons a r ih=>
  intro i n h hn;obtain⟨n,rfl⟩:=bC hn
  have hs:=ih (i+1) n h.step (by simp at hn;omega)
  have e0:(decide (0≤by8 a)&&decide (by8 a<256))=true:=by simp only [Bool.and_eq_true,decide_eq_true_eq];exact⟨yr a,yu a⟩
  unfold dW ir;simp only [h.dlt,h.dnn,h.str,cond_true,h.next hl,hs,a7,List.all_cons,e0]
  cases il (by8 a)<;>rfl
theorem o9:Sound Kx 180 (KS fun s=>.bool (tl s)):=by
 refine EE (wV (φ:=fun s=>.ret (.bool (tl s)) []) (fun s=>s.length+1) fun s r h=> ?_) fun _=>rfl
 cases h
 unfold o6 tl
 by_cases h:s.length=0
 ·have:s=[]:=List.length_eq_zero_iff.1 h
  subst this;rfl
 ·by_cases g:s.length≤4000
  ·have h': ¬(s.length:Int)=0:=by omega
   have h1:1≤s.length:=by omega
   have g': ¬(4000:Int)< (s.length:Int):=by omega
   simp only [h',g',g,h1,decide_true,decide_false,cond_false,Bool.true_and]
   rw [wW s (by omega) _ _ s 0 _ (At.start s) (by omega)]
   cases a7 il s<;>rfl
  ·have h': ¬(s.length:Int)=0:=by omega
   have g':(4000:Int)< (s.length:Int):=by omega
   simp only [h',g',g,decide_true,decide_false,cond_false,cond_true,Bool.and_false,Bool.false_and]
def BO:SC:=[⟨190,_,o8⟩]
def gG (s:aa):Br:=(Br.ite (tl s) (Br.ret (AV.bool (decide ((s.length:Int)≤20))) []) (Br.ret (AV.bool false) []))
def o_:List AV→List Ob→Br
 | [.str s],[]=>gG s
 |_,_=>.fail
theorem wX:Sound Kx 136 o_:=ae (C:=BO) (O:=O0) Tryz.func136 (by kernel_rfl) fun args objs=>by
 unfold o_;split
 ·exact .inr (by kernel_rfl)
 ·exact .inl rfl
def BP:Opt:={split:=true}
def BQ:SC:=[⟨190,_,o8⟩,⟨191,_,tM⟩,⟨193,_,Er⟩]
def gH (a b:aa):Br:=(Br.ite (tl a) (Br.ite (decide ((a.length:Int)≤40)) (Br.ite (decide ((b.length:Int)≤190)) (Br.ite (isM b) (Br.ite (a7 mg b) (Br.ite (isM b) (Br.ite (decide ((wA b)=b)) (Br.ret (AV.bool true) []) (Br.ret (AV.bool false) [])) Br.fail) (Br.ret (AV.bool false) [])) Br.fail) (Br.ret (AV.bool false) [])) (Br.ret (AV.bool false) [])) (Br.ret (AV.bool false) []))
def pc:List AV→List Ob→Br
 | [.agg [.str a,.str b]],[]=>gH a b
 |_,_=>.fail
theorem wY:Sound Kx 133 pc:=ae (C:=BQ) (O:=BP) Tryz.func133 (by kernel_rfl) fun args objs=>by
 unfold pc;split
 ·exact .inr (by kernel_rfl)
 ·exact .inl rfl
def BR:Opt:={split:=true}
def BS:SC:=[⟨180,_,o9⟩,⟨181,_,mn⟩,⟨182,_,Eu⟩]
def gI (a b:aa):Br:=(Br.ite (decide ((a.length:Int)≤40)) (Br.ite (tl a) (Br.ite (decide ((b.length:Int)≤190)) (Br.ite (isM b) (Br.ite (a7 mg b) (Br.ite (isM b) (Br.ite (decide ((wA b)=b)) (Br.ret (AV.bool true) []) (Br.ret (AV.bool false) [])) Br.fail) (Br.ret (AV.bool false) [])) Br.fail) (Br.ret (AV.bool false) [])) (Br.ret (AV.bool false) [])) (Br.ret (AV.bool false) []))
def pd:List AV→List Ob→Br
 | [.agg [.str a,.str b]],[]=>gI a b
 |_,_=>.fail
theorem wZ:Sound Kx 125 pd:=ae (C:=BS) (O:=BR) Tryz.func125 (by kernel_rfl) fun args objs=>by
 unfold pd;split
 ·exact .inr (by kernel_rfl)
 ·exact .inl rfl
def BT:SC:=[⟨180,_,o9⟩,⟨183,_,kU⟩]
def gJ (me ta:aa) (st:Int) (re:aa) (ba:Bool) (fs:List (aa×aa)) (bo:aa):Br:=(Br.ite (decide ((me.length:Int)≤20)) (Br.ite (tl me) (Br.ite (decide ((ta.length:Int)≤200)) (Br.ite (isM ta) (Br.ite ((a7 bO ta)&&(decide (0< (ta.length:Int)))) (Br.ite (decide (st=0)) (Br.ite (decide (re=([]:aa))) (Br.ret (AV.bool (!ba)) []) (Br.ret (AV.bool false) [])) (Br.ret (AV.bool false) [])) (Br.ret (AV.bool false) [])) Br.fail) (Br.ret (AV.bool false) [])) (Br.ret (AV.bool false) [])) (Br.ret (AV.bool false) []))
def pf:List AV→List Ob→Br
 | [.agg [.str me,.str ta,.int .i64 st,.str re,.bool ba,.sh (.pair .str .str) fs,.str bo]],[]=>gJ me ta st re ba fs bo
 |_,_=>.fail
theorem w5:Sound Kx 127 pf:=ae (C:=BT) (O:=O0) Tryz.func127 (by kernel_rfl) fun args objs=>by
 unfold pf;split
 ·exact .inr (by kernel_rfl)
 ·exact .inl rfl
def BU:SC:=[⟨181,_,mn⟩,⟨184,_,D1⟩]
def gK (me ta:aa) (st:Int) (re:aa) (ba:Bool) (fs:List (aa×aa)) (bo:aa):Br:=(Br.ite (!(decide (ta=([]:aa)))) (Br.ret (AV.bool false) []) (Br.ite (decide (st<200)) (Br.ret (AV.bool false) []) (Br.ite (decide (599<st)) (Br.ret (AV.bool false) []) (Br.ite (decide (40< (re.length:Int))) (Br.ret (AV.bool false) []) (Br.ite (isM re) (Br.ite (!(a7 mg re)) (Br.ret (AV.bool false) []) (Br.ite ba (Br.ite (!(decide (bo=([]:aa)))) (Br.ret (AV.bool false) []) (Br.ite ba (Br.ret (AV.bool true) []) (Br.ret (AV.bool (!(q9 st))) []))) (Br.ite ba (Br.ret (AV.bool true) []) (Br.ret (AV.bool (!(q9 st))) [])))) Br.fail)))))
def pg:List AV→List Ob→Br
 | [.agg [.str me,.str ta,.int .i64 st,.str re,.bool ba,.sh (.pair .str .str) fs,.str bo]],[]=>gK me ta st re ba fs bo
 |_,_=>.fail
theorem w6:Sound Kx 128 pg:=ae (C:=BU) (O:=O0) Tryz.func128 (by kernel_rfl) fun args objs=>by
 unfold pg;split
 ·exact .inr (by kernel_rfl)
 ·exact .inl rfl
abbrev Fd:=aa×aa
def iT (f:Fd):Bool:=tl f.1&&decide (f.1.length≤40)&&decide (f.2.length≤190)&&a7 mg f.2&&decide (wA f.2=f.2)
def MC (p:Fd→AV):List AV→List Ob→Br
 | [.agg [.str a,.str b]],[]=>.ret (p (a,b)) []
 |_,_=>.fail
theorem KU {n:Nat} {s:List AV→List Ob→Br} (hs:Sound Kx n s) {p:Fd→AV} (h: ∀a b,(s [.agg [.str a,.str b]] []).val=some (p (a,b),[])):Sound Kx n (MC p):=hs.of fun args objs r hv=>by
 unfold MC at hv
 split at hv
 ·rw [h];exact hv
 ·cases hv
theorem t_:Sound Kx 133 (MC fun f=>.bool (iT f)):=KU wY fun a b=>by
 show(gH a b).val=_
 unfold gH iT
 have e1:decide ((a.length:Int)≤40)=decide (a.length≤40):=wU a 40
 have e2:decide ((b.length:Int)≤190)=decide (b.length≤190):=wU b 190
 simp only [e1,e2]
 by_cases h:b.length≤190
 ·simp only [h,bi h,decide_true,Bool.and_true]
  cases tl a<;>cases decide (a.length≤40)<;>cases a7 mg b<;>cases decide (wA b=b)<;>rfl
 ·simp only [h,decide_false]
  cases tl a<;>cases decide (a.length≤40)<;>rfl
theorem jD:Sound Kx 125 (MC fun f=>.bool (iT f)):=KU wZ fun a b=>by
 show(gI a b).val=_
 unfold gI iT
 have e1:decide ((a.length:Int)≤40)=decide (a.length≤40):=wU a 40
 have e2:decide ((b.length:Int)≤190)=decide (b.length≤190):=wU b 190
 simp only [e1,e2]
 by_cases h:b.length≤190
 ·simp only [h,bi h,decide_true,Bool.and_true]
  cases tl a<;>cases decide (a.length≤40)<;>cases a7 mg b<;>cases decide (wA b=b)<;>rfl
 ·simp only [h,decide_false]
  cases tl a<;>cases decide (a.length≤40)<;>rfl
def gL (s:aa):Bool:=tl s&&decide (s.length≤20)
theorem ua:Sound Kx 136 (KS fun s=>.bool (gL s)):=EE wX fun s=>by
 show(gG s).val=_
 unfold gG gL
 have e1:decide ((s.length:Int)≤20)=decide (s.length≤20):=wU s 20
 simp only [e1]
 exact q7 _ _
abbrev Mg:=aa×aa×Int×aa×Bool×List Fd×aa
def JC (me ta:aa) (st:Int) (re:aa) (ba:Bool):Bool:=gL me&&gF ta&&decide (st=0)&&decide (re=[])&& !ba
def H5 (ta:aa) (st:Int) (re:aa) (ba:Bool) (bo:aa):Bool:=decide (ta=[])&&Bv st&&gE re&& !(ba&& !decide (bo=[]))&& !(q9 st&& !ba)
def JD (p:Mg→AV):List AV→List Ob→Br
 | [.agg [.str me,.str ta,.int .i64 st,.str re,.bool ba,.sh (.pair .str .str) fs,.str bo]],[]=>.ret (p (me,ta,st,re,ba,fs,bo)) []
 |_,_=>.fail
theorem H6 {n:Nat} {s:List AV→List Ob→Br} (hs:Sound Kx n s) {p:Mg→AV} (h: ∀me ta st re ba fs bo,(s [.agg [.str me,.str ta,.int .i64 st,.str re,.bool ba,.sh (.pair .str .str) fs,.str bo]] []).val=some (p (me,ta,st,re,ba,fs,bo),[])):Sound Kx n (JD p):=hs.of fun args objs r hv=>by
 unfold JD at hv
 split at hv
 ·rw [h];exact hv
 ·cases hv
theorem ub:Sound Kx 127 (JD fun m=>.bool (JC m.1 m.2.1 m.2.2.1 m.2.2.2.1 m.2.2.2.2.1)):=H6 w5 fun me ta st re ba fs bo=>by
 show(gJ me ta st re ba fs bo).val=some (.bool (JC me ta st re ba),[])
 unfold gJ JC gL gF
 have e1:decide ((me.length:Int)≤20)=decide (me.length≤20):=wU me 20
 have e2:decide ((ta.length:Int)≤200)=decide (ta.length≤200):=wU ta 200
 have e3:decide ((0:Int)< (ta.length:Int))=decide (1≤ta.length):=by congr 1;apply propext;omega
 simp only [e1,e2,e3]
 by_cases h:ta.length≤200
 ·simp only [h,bi h,decide_true,Bool.and_true]
  cases decide (me.length≤20)<;>cases tl me<;>cases a7 bO ta<;>cases decide (1≤ta.length)<;>cases decide (st=0)<;>cases decide (re=[])<;>rfl
 ·simp only [h,decide_false,Bool.and_false,Bool.false_and]
  cases decide (me.length≤20)<;>cases tl me<;>rfl
theorem w7:Sound Kx 128 (JD fun m=>.bool (H5 m.2.1 m.2.2.1 m.2.2.2.1 m.2.2.2.2.1 m.2.2.2.2.2.2)):=H6 w6 fun me ta st re ba fs bo=>by
 show(gK me ta st re ba fs bo).val=some (.bool (H5 ta st re ba bo),[])
 unfold gK H5 gE Bv
 have e1:decide ((40:Int)< (re.length:Int))= !decide (re.length≤40):=by by_cases h:re.length≤40<;>simp [h]<;>omega
 have e2:decide (st<200)= !decide (200≤st):=by by_cases h:200≤st<;>simp [h]<;>omega
 have e3:decide (599<st)= !decide (st≤599):=by by_cases h:st≤599<;>simp [h]<;>omega
 simp only [e1,e2,e3]
 by_cases h:re.length≤40
 ·simp only [h,bi h,decide_true,Bool.not_true,Bool.true_and]
  cases decide (ta=[])<;>cases decide (200≤st)<;>cases decide (st≤599)<;>cases a7 mg re<;>cases ba<;>cases decide (bo=[])<;>cases q9 st<;>rfl
 ·simp only [h,decide_false,Bool.not_false,Bool.false_and,Bool.and_false]
  cases decide (ta=[])<;>cases decide (200≤st)<;>cases decide (st≤599)<;>rfl
def mz:Opt:={live:=[(4,[8,9,10])],outs:=[(4,[2])]}
def iFieldsOk_C:SC:=[⟨133,_,t_⟩]
def dE (aF:(List Fd)) (aX aT:Int) (Pd:(List Fd)→Int→Int→OR') (cF eS:OR'):OR':=
 (bif(decide (aT<aX))then(bif(decide (0≤aT))then(bif(decide (aT< (aF.length:Int)))then(bif(!(iT ((List.getD aF (Int.toNat aT) (([]:aa),([]:aa))).1,(List.getD aF (Int.toNat aT) (([]:aa),([]:aa))).2)))then cF else(Pd aF aX (ac (aT+1))))else(none))else(none))else eS)
def cl:Nat→(List Fd)→Int→Int→(OR')→(OR')→OR'
 |0,_,_,_,_,_=>none
 |n+1,aF,aX,aT,cF,eS=>dE aF aX aT (fun aF aX aT=>cl n aF aX aT cF eS) cF eS
abbrev iFieldsOk_p4:SP:=⟨18,[8,9,10],[(.v (.sh (Ty.pair Ty.str Ty.str))),(.v (.i .i64)),(.v (.i .i64))],[]⟩
noncomputable def jE:Code:=aG (aI Tryz.f89) [1,1,0,1,0,0]
def jF (f:(OR')→(OR')→OR') (k:KT):OR':=f (k Ex.ret ((St.mk (aE 0 18 [(2,(AV.bool false))]) ([]:(List (Nat×(Ob))))))) (k (Ex.exit 0) ((St.mk (aE 0 18 []) ([]:(List (Nat×(Ob)))))))
def jG (n:Nat) (d:iFieldsOk_p4.D):KT→OR':=jF (cl n d.1.1 d.1.2.1 d.1.2.2.1)
def mA (N:Nat):Lam:=bD [⟨4,iFieldsOk_p4,jG N⟩]
theorem ri (N:Nat):OkL Kx iFieldsOk_C.s mz 0 N (mA N) jE:=okL iFieldsOk_p4 (jG) (fun d kR=>jF (dE d.1.1 d.1.2.1 d.1.2.2.1 (fun aF aX aT=>kR ((aF,aX,aT,()),())))) (fun _ _=>by kernel_rfl) (fun _ _ _=>by kernel_rfl) (fun _ _=>by kernel_rfl) (fun _ _ _ _=>by kernel_rfl) (ah (l':=[]) (by kernel_rfl) trivial)
def it (N:Nat) (l:List Fd):OR':=(bif(decide (20< (l.length:Int)))then(some ((AV.bool false),[]))else(cl N l (l.length:Int) 0 (some ((AV.bool false),[])) (some ((AV.bool true),[]))))
def iu (φ:(List Fd)→Br):List AV→List Ob→Br
 | [.sh (.pair .str .str) l],[]=>φ l
 |_,_=>.fail
theorem oa {φ:(List Fd)→Br} (fu:(List Fd)→Nat) (hv: ∀l res_,(φ l).val=some res_→it (fu l) l=some res_):Sound Kx 89 (iu φ):=an (C:=iFieldsOk_C) (O:=mz) Tryz.func89 (by kernel_rfl) fun args objs=>by
 unfold iu;split
 ·rename_i l;exact .inr fun _ hyp_=>aV (Λ:=mA (fu l)) (by kernel_rfl) (ah (l':=[jE]) (by kernel_rfl) ⟨ri _,trivial⟩) (by kernel_rfl) (hv l _ hyp_)
 ·exact .inl rfl
def mB:Opt:={live:=[(4,[0,3])],outs:=[(4,[2])]}
def sFieldsOk_C:SC:=[⟨125,_,jD⟩]
def dF (aF:(List Fd)) (aX:Int) (Pd:(List Fd)→Int→OR') (cF eS:OR'):OR':=
 (bif(decide (aX< (aF.length:Int)))then(bif(decide (0≤aX))then(bif(decide (aX< (aF.length:Int)))then(bif(!(iT ((List.getD aF (Int.toNat aX) (([]:aa),([]:aa))).1,(List.getD aF (Int.toNat aX) (([]:aa),([]:aa))).2)))then cF else(Pd aF (ac (aX+1))))else(none))else(none))else eS)
def cm:Nat→(List Fd)→Int→(OR')→(OR')→OR'
 |0,_,_,_,_=>none
 |n+1,aF,aX,cF,eS=>dF aF aX (fun aF aX=>cm n aF aX cF eS) cF eS
abbrev sFieldsOk_p4:SP:=⟨19,[0,3],[(.v (.sh (Ty.pair Ty.str Ty.str))),(.v (.i .i64))],[]⟩
noncomputable def jH:Code:=aG (aI Tryz.f82) [1,1,0,1,0,0]
def jI (f:(OR')→(OR')→OR') (k:KT):OR':=f (k Ex.ret ((St.mk (aE 0 19 [(2,(AV.bool false))]) ([]:(List (Nat×(Ob))))))) (k (Ex.exit 0) ((St.mk (aE 0 19 []) ([]:(List (Nat×(Ob)))))))
def jJ (n:Nat) (d:sFieldsOk_p4.D):KT→OR':=jI (cm n d.1.1 d.1.2.1)
def mC (N:Nat):Lam:=bD [⟨4,sFieldsOk_p4,jJ N⟩]
theorem rj (N:Nat):OkL Kx sFieldsOk_C.s mB 0 N (mC N) jH:=okL sFieldsOk_p4 (jJ) (fun d kR=>jI (dF d.1.1 d.1.2.1 (fun aF aX=>kR ((aF,aX,()),())))) (fun _ _=>by kernel_rfl) (fun _ _ _=>by kernel_rfl) (fun _ _=>by kernel_rfl) (fun _ _ _ _=>by kernel_rfl) (ah (l':=[]) (by kernel_rfl) trivial)
def iw (N:Nat) (l:List Fd):OR':=(bif(decide (20< (l.length:Int)))then(some ((AV.bool false),[]))else(cm N l 0 (some ((AV.bool false),[])) (some ((AV.bool true),[]))))
def ix (φ:(List Fd)→Br):List AV→List Ob→Br
 | [.sh (.pair .str .str) l],[]=>φ l
 |_,_=>.fail
theorem oc {φ:(List Fd)→Br} (fu:(List Fd)→Nat) (hv: ∀l res_,(φ l).val=some res_→iw (fu l) l=some res_):Sound Kx 82 (ix φ):=an (C:=sFieldsOk_C) (O:=mB) Tryz.func82 (by kernel_rfl) fun args objs=>by
 unfold ix;split
 ·rename_i l;exact .inr fun _ hyp_=>aV (Λ:=mC (fu l)) (by kernel_rfl) (ah (l':=[jH]) (by kernel_rfl) ⟨rj _,trivial⟩) (by kernel_rfl) (hv l _ hyp_)
 ·exact .inl rfl
def uc:SC:=[⟨125,_,jD⟩]
def eD (a b:aa):Br:=(Br.ite (!(iT (a,b))) (Br.ret (AV.str ([]:aa)) []) (Br.ite (decide ((a.length+2)≤9223372036854775807)) (Br.ite (decide (((List.length (a++([58,32]:aa)))+b.length)≤9223372036854775807)) (Br.ret (AV.str ((a++([58,32]:aa))++b)) []) Br.fail) Br.fail))
def jK:List AV→List Ob→Br
 | [.agg [.str a,.str b]],[]=>eD a b
 |_,_=>.fail
theorem rk:Sound Kx 186 jK:=ae (C:=uc) (O:=O0) Tryz.func186 (by kernel_rfl) fun args objs=>by
 unfold jK;split
 ·exact .inr (by kernel_rfl)
 ·exact .inl rfl
def cx (l:List Fd):Bool:=decide (l.length≤20)&&l.all iT
def NW (p:List Fd→AV):List AV→List Ob→Br
 | [.sh (.pair .str .str) l],[]=>.ret (p l) []
 |_,_=>.fail
theorem MD {n:Nat} {s:List AV→List Ob→Br} (hs:Sound Kx n s) {p:List Fd→AV} (h: ∀l,(s [.sh (.pair .str .str) l] []).val=some (p l,[])):Sound Kx n (NW p):=hs.of fun args objs r hv=>by
 unfold NW at hv
 split at hv
 ·rw [h];exact hv
 ·cases hv
theorem JE {α:Type} (l:List α) (n:Nat):decide ((n:Int)< (l.length:Int))= !decide (l.length≤n):=by by_cases h:l.length≤n<;>simp [h]<;>omega
theorem od (l:List Fd) (hl:l.length≤4611686018427387904) (k0 k1:OR'): ∀(r:List Fd) (i:Int) (n:Nat),At l i r→r.length<n→cl n l (l.length:Int) i k0 k1=bif r.all iT then k1 else k0:=by
 intro r;induction r with
 |nil=>intro i n h hn;obtain⟨n,rfl⟩:=bC hn;unfold cl dE;simp only [h.dge,cond_false,List.all_nil,cond_true]
 |cons a r ih=>
  intro i n h hn;obtain⟨n,rfl⟩:=bC hn
  have hs:=ih (i+1) n h.step (by simp at hn;omega)
  unfold cl dE;simp only [h.dlt,h.dnn,h.get,cond_true,h.next hl,hs,List.all_cons]
  cases iT a<;>rfl
theorem eE:Sound Kx 89 (NW fun l=>.bool (cx l)):=by
 refine MD (oa (φ:=fun l=>.ret (.bool (cx l)) []) (fun l=>l.length+1) fun l r h=> ?_) fun _=>rfl
 cases h
 unfold it cx
 have e:=JE l 20
 simp only [show((20:Nat):Int)=20 from rfl]at e
 rw [e]
 by_cases h:l.length≤20
 ·simp only [h,decide_true,Bool.not_true,cond_false,Bool.true_and]
  rw [od l (by omega) _ _ l 0 _ (At.start l) (by omega)]
  cases l.all iT<;>rfl
 ·simp only [h,decide_false,Bool.not_false,cond_true,Bool.false_and]
theorem oe (l:List Fd) (hl:l.length≤4611686018427387904) (k0 k1:OR'): ∀(r:List Fd) (i:Int) (n:Nat),At l i r→r.length<n→cm n l i k0 k1=bif r.all iT then k1 else k0:=by
 intro r;induction r with
 |nil=>intro i n h hn;obtain⟨n,rfl⟩:=bC hn;unfold cm dF;simp only [h.dge,cond_false,List.all_nil,cond_true]
 |cons a r ih=>
  intro i n h hn;obtain⟨n,rfl⟩:=bC hn
  have hs:=ih (i+1) n h.step (by simp at hn;omega)
  unfold cm dF;simp only [h.dlt,h.dnn,h.get,cond_true,h.next hl,hs,List.all_cons]
  cases iT a<;>rfl
theorem iy:Sound Kx 82 (NW fun l=>.bool (cx l)):=by
 refine MD (oc (φ:=fun l=>.ret (.bool (cx l)) []) (fun l=>l.length+1) fun l r h=> ?_) fun _=>rfl
 cases h
 unfold iw cx
 have e:=JE l 20
 simp only [show((20:Nat):Int)=20 from rfl]at e
 rw [e]
 by_cases h:l.length≤20
 ·simp only [h,decide_true,Bool.not_true,cond_false,Bool.true_and]
  rw [oe l (by omega) _ _ l 0 _ (At.start l) (by omega)]
  cases l.all iT<;>rfl
 ·simp only [h,decide_false,Bool.not_false,cond_true,Bool.false_and]
def fp (f:Fd):aa:=f.1++58::32::f.2
theorem fM {f:Fd} (h:iT f=true):f.1.length≤40∧f.2.length≤190:=by
 unfold iT at h;simp only [Bool.and_eq_true,decide_eq_true_eq]at h;exact⟨h.1.1.1.2,h.1.1.2⟩
theorem og:Sound Kx 186 (MC fun f=>.str (bif iT f then fp f else [])):=KU rk fun a b=>by
 show(eD a b).val=_
 unfold eD
 by_cases h:iT (a,b)=true
 ·have hl:=fM h
  simp only at hl
  have e1:decide (a.length+2≤9223372036854775807)=true:=dT' (by omega)
  have e2:decide ((a++[58,32]).length+b.length≤9223372036854775807)=true:=dT' (by simp;omega)
  simp only [h,Br.val,Bool.not_true,e1,e2,cond_true]
  simp [fp]
 ·simp only [Bool.not_eq_true]at h
  simp only [h,Br.val,Bool.not_false,cond_false]
def ue:Opt:={live:=[(5,[1,5,11,12,13])],outs:=[(5,[4,5])]}
def iValues_C:SC:=[⟨89,_,eE⟩,⟨229,_,ED⟩]
def fN (aL:aa) (bm:(List Fd)) (aS lm:Int) (sb:(List aa)) (Pc:aa→(List Fd)→Int→Int→(List aa)→OR') (dI:(List aa)→OR'):OR':=
 (bif(decide (lm<aS))then(bif(decide (0≤lm))then(bif(decide (lm< (bm.length:Int)))then(bif((isM (List.getD bm (Int.toNat lm) (([]:aa),([]:aa))).1)&&(isM aL))then(bif(wT (List.getD bm (Int.toNat lm) (([]:aa),([]:aa))).1 aL)then(bif(decide (((sb.length+(List.length (List.set (List.replicate 1 ([]:aa)) 0 (List.getD bm (Int.toNat lm) (([]:aa),([]:aa))).2)))*16)≤140737488355328))then(Pc aL bm aS (ac (lm+1)) (sb++(List.set (List.replicate 1 ([]:aa)) 0 (List.getD bm (Int.toNat lm) (([]:aa),([]:aa))).2)))else(none))else(Pc aL bm aS (ac (lm+1)) sb))else(none))else(none))else(none))else(dI sb))
def dl:Nat→aa→(List Fd)→Int→Int→(List aa)→((List aa)→OR')→OR'
 |0,_,_,_,_,_,_=>none
 |n+1,aL,bm,aS,lm,sb,dI=>fN aL bm aS lm sb (fun aL bm aS lm sb=>dl n aL bm aS lm sb dI) dI
abbrev iValues_p5:SP:=⟨28,[1,5,11,12,13],[(.v .s),(.v (.ref 384 0)),(.v (.sh (Ty.pair Ty.str Ty.str))),(.v (.i .i64)),(.v (.i .i64))],[(384,.arr Ty.str 0 false)]⟩
noncomputable def ph:Code:=aG (aI Tryz.f164) [1,1,1,0,1,0,0]
def pi (f:((List aa)→OR')→OR') (k:KT):OR':=f (fun am=>k (Ex.exit 0) ((St.mk (aE 0 28 [(5,(AV.ref 384 0))]) ((384,(Ob.arr Ty.str 0 false am))::([]:(List (Nat×(Ob))))))))
def pj (n:Nat) (d:iValues_p5.D):KT→OR':=pi (dl n d.1.1 d.1.2.2.1 d.1.2.2.2.1 d.1.2.2.2.2.1 d.2.1)
def uf (N:Nat):Lam:=bD [⟨5,iValues_p5,pj N⟩]
theorem w9 (N:Nat):OkL Kx iValues_C.s ue 0 N (uf N) ph:=okL iValues_p5 (pj) (fun d kR=>pi (fN d.1.1 d.1.2.2.1 d.1.2.2.2.1 d.1.2.2.2.2.1 d.2.1 (fun aL bm aS lm sb=>kR ((aL,(),bm,aS,lm,()),(sb,()))))) (fun _ _=>by kernel_rfl) (fun _ _ _=>by kernel_rfl) (fun _ _=>by kernel_rfl) (fun _ _ _ _=>by kernel_rfl) (ah (l':=[]) (by kernel_rfl) trivial)
def mD (N:Nat) (l:List Fd) (name:aa):OR':=(bif(!(cx l))then(some ((AV.ref 0 0),((Ob.arr Ty.str 0 false ([]:(List aa)))::[])))else(dl N name l (l.length:Int) 0 ([]:(List aa)) (fun am=>(some ((AV.ref 0 0),((Ob.arr Ty.str 0 false am)::[]))))))
def mE (φ:(List Fd)→aa→Br):List AV→List Ob→Br
 | [.sh (.pair .str .str) l,.str name],[]=>φ l name
 |_,_=>.fail
theorem ug {φ:(List Fd)→aa→Br} (fu:(List Fd)→aa→Nat) (hv: ∀l name res_,(φ l name).val=some res_→mD (fu l name) l name=some res_):Sound Kx 164 (mE φ):=an (C:=iValues_C) (O:=ue) Tryz.func164 (by kernel_rfl) fun args objs=>by
 unfold mE;split
 ·rename_i l name;exact .inr fun _ hyp_=>aV (Λ:=uf (fu l name)) (by kernel_rfl) (ah (l':=[ph]) (by kernel_rfl) ⟨w9 _,trivial⟩) (by kernel_rfl) (hv l name _ hyp_)
 ·exact .inl rfl
def uh:Opt:={live:=[(2,[0,3])],outs:=[(2,[2])]}
def sframed_C:SC:=[⟨157,_,tK⟩]
def fO (al:(List Fd)) (ap:Int) (O_:(List Fd)→Int→OR') (bG cz:OR'):OR':=
 (bif(decide (ap< (al.length:Int)))then(bif(decide (0≤ap))then(bif(decide (ap< (al.length:Int)))then(bif(isM (List.getD al (Int.toNat ap) (([]:aa),([]:aa))).1)then(bif(decide ((aH (List.getD al (Int.toNat ap) (([]:aa),([]:aa))).1)=([99,111,110,116,101,110,116,45,108,101,110,103,116,104]:aa)))then bG else(bif(decide ((aH (List.getD al (Int.toNat ap) (([]:aa),([]:aa))).1)=([116,114,97,110,115,102,101,114,45,101,110,99,111,100,105,110,103]:aa)))then bG else(bif(decide ((aH (List.getD al (Int.toNat ap) (([]:aa),([]:aa))).1)=([116,114,97,105,108,101,114]:aa)))then bG else(O_ al (ac (ap+1))))))else(none))else(none))else(none))else cz)
def dm:Nat→(List Fd)→Int→(OR')→(OR')→OR'
 |0,_,_,_,_=>none
 |n+1,al,ap,bG,cz=>fO al ap (fun al ap=>dm n al ap bG cz) bG cz
abbrev sframed_p2:SP:=⟨27,[0,3],[(.v (.sh (Ty.pair Ty.str Ty.str))),(.v (.i .i64))],[]⟩
noncomputable def pl:Code:=aG (aI Tryz.f126) [1,0,1,0,0]
def pm (f:(OR')→(OR')→OR') (k:KT):OR':=f (k Ex.ret ((St.mk (aE 0 27 [(2,(AV.bool true))]) ([]:(List (Nat×(Ob))))))) (k (Ex.exit 0) ((St.mk (aE 0 27 []) ([]:(List (Nat×(Ob)))))))
def pn (n:Nat) (d:sframed_p2.D):KT→OR':=pm (dm n d.1.1 d.1.2.1)
def ui (N:Nat):Lam:=bD [⟨2,sframed_p2,pn N⟩]
theorem w_ (N:Nat):OkL Kx sframed_C.s uh 0 N (ui N) pl:=okL sframed_p2 (pn) (fun d kR=>pm (fO d.1.1 d.1.2.1 (fun al ap=>kR ((al,ap,()),())))) (fun _ _=>by kernel_rfl) (fun _ _ _=>by kernel_rfl) (fun _ _=>by kernel_rfl) (fun _ _ _ _=>by kernel_rfl) (ah (l':=[]) (by kernel_rfl) trivial)
def mF (N:Nat) (l:List Fd):OR':=(dm N l 0 (some ((AV.bool true),[])) (some ((AV.bool false),[])))
def mG (φ:(List Fd)→Br):List AV→List Ob→Br
 | [.sh (.pair .str .str) l],[]=>φ l
 |_,_=>.fail
theorem uj {φ:(List Fd)→Br} (fu:(List Fd)→Nat) (hv: ∀l res_,(φ l).val=some res_→mF (fu l) l=some res_):Sound Kx 126 (mG φ):=an (C:=sframed_C) (O:=uh) Tryz.func126 (by kernel_rfl) fun args objs=>by
 unfold mG;split
 ·rename_i l;exact .inr fun _ hyp_=>aV (Λ:=ui (fu l)) (by kernel_rfl) (ah (l':=[pl]) (by kernel_rfl) ⟨w_ _,trivial⟩) (by kernel_rfl) (hv l _ hyp_)
 ·exact .inl rfl
def pp:Opt:={live:=[(5,[0,1,5])],outs:=[(5,[1,4])]}
def szFieldS_C:SC:=[⟨79,_,Bm⟩]
def eG (aL:(List Fd)) (bm aS:Int) (Pc:(List Fd)→Int→Int→OR') (dI ll:Int→OR'):OR':=
 (bif(decide (aS< (aL.length:Int)))then(bif(decide (0≤aS))then(bif(decide (aS< (aL.length:Int)))then(bif(decide ((ac (bm-((List.length (List.getD aL (Int.toNat aS) (([]:aa),([]:aa))).1):Int)))<0))then(dI (-1))else(bif(decide ((ac ((ac (bm-((List.length (List.getD aL (Int.toNat aS) (([]:aa),([]:aa))).1):Int)))-((List.length (List.getD aL (Int.toNat aS) (([]:aa),([]:aa))).2):Int)))<0))then(dI (-1))else(bif(decide ((ac ((ac (bm-((List.length (List.getD aL (Int.toNat aS) (([]:aa),([]:aa))).1):Int)))-((List.length (List.getD aL (Int.toNat aS) (([]:aa),([]:aa))).2):Int)))<0))then(dI (ac ((ac (bm-((List.length (List.getD aL (Int.toNat aS) (([]:aa),([]:aa))).1):Int)))-((List.length (List.getD aL (Int.toNat aS) (([]:aa),([]:aa))).2):Int))))else(Pc aL (ac ((ac (bm-((List.length (List.getD aL (Int.toNat aS) (([]:aa),([]:aa))).1):Int)))-((List.length (List.getD aL (Int.toNat aS) (([]:aa),([]:aa))).2):Int))) (ac (aS+1))))))else(none))else(none))else(ll bm))
def cH:Nat→(List Fd)→Int→Int→(Int→OR')→(Int→OR')→OR'
 |0,_,_,_,_,_=>none
 |n+1,aL,bm,aS,dI,ll=>eG aL bm aS (fun aL bm aS=>cH n aL bm aS dI ll) dI ll
abbrev szFieldS_p5:SP:=⟨27,[0,1,5],[(.v (.sh (Ty.pair Ty.str Ty.str))),(.v (.i .i64)),(.v (.i .i64))],[]⟩
noncomputable def mH:Code:=aG (aI Tryz.f44) [1,1,1,0,1,0,0]
def mI (f:(Int→OR')→(Int→OR')→OR') (k:KT):OR':=f (fun am=>k Ex.ret ((St.mk (aE 0 27 [(1,(AV.int .i64 am)),(4,(AV.int .i64 (-1)))]) ([]:(List (Nat×(Ob))))))) (fun dC=>k (Ex.exit 0) ((St.mk (aE 0 27 [(1,(AV.int .i64 dC))]) ([]:(List (Nat×(Ob)))))))
def mJ (n:Nat) (d:szFieldS_p5.D):KT→OR':=mI (cH n d.1.1 d.1.2.1 d.1.2.2.1)
def pq (N:Nat):Lam:=bD [⟨5,szFieldS_p5,mJ N⟩]
theorem uk (N:Nat):OkL Kx szFieldS_C.s pp 0 N (pq N) mH:=okL szFieldS_p5 (mJ) (fun d kR=>mI (eG d.1.1 d.1.2.1 d.1.2.2.1 (fun aL bm aS=>kR ((aL,bm,aS,()),())))) (fun _ _=>by kernel_rfl) (fun _ _ _=>by kernel_rfl) (fun _ _=>by kernel_rfl) (fun _ _ _ _=>by kernel_rfl) (ah (l':=[]) (by kernel_rfl) trivial)
def jL (N:Nat) (l:List Fd) (left:Int):OR':=(bif(decide ((ac (left-(l.length:Int)))<0))then(some ((AV.int .i64 (-1)),[]))else(cH N l (ac (left-(l.length:Int))) 0 (fun am=>(some ((AV.int .i64 (-1)),[]))) (fun dC=>(some ((AV.int .i64 dC),[])))))
def fq (φ:(List Fd)→Int→Br):List AV→List Ob→Br
 | [.sh (.pair .str .str) l,.int .i64 left],[]=>φ l left
 |_,_=>.fail
theorem rl {φ:(List Fd)→Int→Br} (fu:(List Fd)→Int→Nat) (hv: ∀l left res_,(φ l left).val=some res_→jL (fu l left) l left=some res_):Sound Kx 44 (fq φ):=an (C:=szFieldS_C) (O:=pp) Tryz.func44 (by kernel_rfl) fun args objs=>by
 unfold fq;split
 ·rename_i l left;exact .inr fun _ hyp_=>aV (Λ:=pq (fu l left)) (by kernel_rfl) (ah (l':=[mH]) (by kernel_rfl) ⟨uk _,trivial⟩) (by kernel_rfl) (hv l left _ hyp_)
 ·exact .inl rfl
def pr:Opt:={live:=[(3,[0,3,4])],outs:=[(3,[2,3])]}
def toFieldS_C:SC:=[⟨86,_,Bo⟩]
def eH (aj:(List Fd)) (ai:Int) (aM:(List Fd)) (Pa:(List Fd)→Int→(List Fd)→OR') (cP:(List Fd)→OR'):OR':=
 (bif(decide (ai< (aj.length:Int)))then(bif(decide (0≤ai))then(bif(decide (ai< (aj.length:Int)))then(bif(decide (0≤ai))then(bif(decide (ai< (aM.length:Int)))then(Pa aj (ac (ai+1)) (List.set aM (Int.toNat ai) ((List.getD aj (Int.toNat ai) (([]:aa),([]:aa))).1,(List.getD aj (Int.toNat ai) (([]:aa),([]:aa))).2)))else(none))else(none))else(none))else(none))else(cP aM))
def cI:Nat→(List Fd)→Int→(List Fd)→((List Fd)→OR')→OR'
 |0,_,_,_,_=>none
 |n+1,aj,ai,aM,cP=>eH aj ai aM (fun aj ai aM=>cI n aj ai aM cP) cP
abbrev toFieldS_p3:SP:=⟨23,[0,3,4],[(.v (.sh (Ty.pair Ty.str Ty.str))),(.v (.ref 256 0)),(.v (.i .i64))],[(256,.arr (Ty.pair Ty.str Ty.str) 0 false)]⟩
noncomputable def mK:Code:=aG (aI Tryz.f48) [1,1,0,1,0,0]
def mL (f:((List Fd)→OR')→OR') (k:KT):OR':=f (fun aW=>k (Ex.exit 0) ((St.mk (aE 0 23 [(3,(AV.ref 256 0))]) ((256,(Ob.arr (Ty.pair Ty.str Ty.str) 0 false aW))::([]:(List (Nat×(Ob))))))))
def mM (n:Nat) (d:toFieldS_p3.D):KT→OR':=mL (cI n d.1.1 d.1.2.2.1 d.2.1)
def pt (N:Nat):Lam:=bD [⟨3,toFieldS_p3,mM N⟩]
theorem ul (N:Nat):OkL Kx toFieldS_C.s pr 0 N (pt N) mK:=okL toFieldS_p3 (mM) (fun d kR=>mL (eH d.1.1 d.1.2.2.1 d.2.1 (fun aj ai aM=>kR ((aj,(),ai,()),(aM,()))))) (fun _ _=>by kernel_rfl) (fun _ _ _=>by kernel_rfl) (fun _ _=>by kernel_rfl) (fun _ _ _ _=>by kernel_rfl) (ah (l':=[]) (by kernel_rfl) trivial)
def jM (N:Nat) (l:List Fd):OR':=(bif(decide (0≤(l.length:Int)))then(bif(decide ((l.length:Int)=(l.length:Int)))then(bif(decide (((l.length:Int)*32)≤140737488355328))then(cI N l 0 (List.replicate (Int.toNat (l.length:Int)) (([]:aa),([]:aa))) (fun aW=>(some ((AV.ref 0 0),((Ob.arr (Ty.pair Ty.str Ty.str) 0 false aW)::[])))))else(none))else(none))else(none))
def fv (φ:(List Fd)→Br):List AV→List Ob→Br
 | [.sh (.pair .str .str) l],[]=>φ l
 |_,_=>.fail
theorem rm {φ:(List Fd)→Br} (fu:(List Fd)→Nat) (hv: ∀l res_,(φ l).val=some res_→jM (fu l) l=some res_):Sound Kx 48 (fv φ):=an (C:=toFieldS_C) (O:=pr) Tryz.func48 (by kernel_rfl) fun args objs=>by
 unfold fv;split
 ·rename_i l;exact .inr fun _ hyp_=>aV (Λ:=pt (fu l)) (by kernel_rfl) (ah (l':=[mK]) (by kernel_rfl) ⟨ul _,trivial⟩) (by kernel_rfl) (hv l _ hyp_)
 ·exact .inl rfl
def pu:Opt:={live:=[(4,[0,1,5])],outs:=[(4,[4])]}
def eqFieldS_C:SC:=[⟨95,_,Bq⟩]
def eI (aF aX:(List Fd)) (aT:Int) (Pd:(List Fd)→(List Fd)→Int→OR') (cF eS:OR'):OR':=
 (bif(decide (aT< (aF.length:Int)))then(bif(decide (0≤aT))then(bif(decide (aT< (aF.length:Int)))then(bif(decide (0≤aT))then(bif(decide (aT< (aX.length:Int)))then(bif(!(decide ((List.getD aF (Int.toNat aT) (([]:aa),([]:aa))).1=(List.getD aX (Int.toNat aT) (([]:aa),([]:aa))).1)))then cF else(bif(!(decide ((List.getD aF (Int.toNat aT) (([]:aa),([]:aa))).2=(List.getD aX (Int.toNat aT) (([]:aa),([]:aa))).2)))then cF else(Pd aF aX (ac (aT+1)))))else(none))else(none))else(none))else(none))else eS)
def cJ:Nat→(List Fd)→(List Fd)→Int→(OR')→(OR')→OR'
 |0,_,_,_,_,_=>none
 |n+1,aF,aX,aT,cF,eS=>eI aF aX aT (fun aF aX aT=>cJ n aF aX aT cF eS) cF eS
abbrev eqFieldS_p4:SP:=⟨27,[0,1,5],[(.v (.sh (Ty.pair Ty.str Ty.str))),(.v (.sh (Ty.pair Ty.str Ty.str))),(.v (.i .i64))],[]⟩
noncomputable def mN:Code:=aG (aI Tryz.f52) [1,1,0,1,0,0]
def mO (f:(OR')→(OR')→OR') (k:KT):OR':=f (k Ex.ret ((St.mk (aE 0 27 [(4,(AV.bool false))]) ([]:(List (Nat×(Ob))))))) (k (Ex.exit 0) ((St.mk (aE 0 27 []) ([]:(List (Nat×(Ob)))))))
def mP (n:Nat) (d:eqFieldS_p4.D):KT→OR':=mO (cJ n d.1.1 d.1.2.1 d.1.2.2.1)
def px (N:Nat):Lam:=bD [⟨4,eqFieldS_p4,mP N⟩]
theorem um (N:Nat):OkL Kx eqFieldS_C.s pu 0 N (px N) mN:=okL eqFieldS_p4 (mP) (fun d kR=>mO (eI d.1.1 d.1.2.1 d.1.2.2.1 (fun aF aX aT=>kR ((aF,aX,aT,()),())))) (fun _ _=>by kernel_rfl) (fun _ _ _=>by kernel_rfl) (fun _ _=>by kernel_rfl) (fun _ _ _ _=>by kernel_rfl) (ah (l':=[]) (by kernel_rfl) trivial)
def jN (N:Nat) (l l':List Fd):OR':=(bif(!(decide ((l.length:Int)=((List.length l'):Int))))then(some ((AV.bool false),[]))else(cJ N l l' 0 (some ((AV.bool false),[])) (some ((AV.bool true),[]))))
def fw (φ:(List Fd)→(List Fd)→Br):List AV→List Ob→Br
 | [.sh (.pair .str .str) l,.sh (.pair .str .str) l'],[]=>φ l l'
 |_,_=>.fail
theorem rn {φ:(List Fd)→(List Fd)→Br} (fu:(List Fd)→(List Fd)→Nat) (hv: ∀l l' res_,(φ l l').val=some res_→jN (fu l l') l l'=some res_):Sound Kx 52 (fw φ):=an (C:=eqFieldS_C) (O:=pu) Tryz.func52 (by kernel_rfl) fun args objs=>by
 unfold fw;split
 ·rename_i l l';exact .inr fun _ hyp_=>aV (Λ:=px (fu l l')) (by kernel_rfl) (ah (l':=[mN]) (by kernel_rfl) ⟨um _,trivial⟩) (by kernel_rfl) (hv l l' _ hyp_)
 ·exact .inl rfl
theorem cy {α:Type} (d x:α):List.set (List.replicate 1 d) 0 x=[x]:=rfl
theorem O4 {α β:Type} (x:α×β):(x.1,x.2)=x:=rfl
def BV (l:List Fd) (name:aa):List aa:=(l.filter fun f=>wT f.1 name).map (·.2)
def LG (l:List Fd) (name:aa):List aa:=bif cx l then BV l name else []
theorem dw {l:List Fd} (h:cx l=true):l.length≤20∧ ∀f∈l,iT f=true:=by
 unfold cx at h;rw [Bool.and_eq_true,decide_eq_true_eq,List.all_eq_true]at h;exact h
theorem zm {f:Fd} (h:iT f=true):isM f.1=true∧isM f.2=true:=⟨bi (fM h).1,bi (fM h).2⟩
theorem uo (name:aa) (hm:isM name=true) (l:List Fd) (hl:l.length≤20) (k:List aa→OR'): ∀(r:List Fd) (i:Int) (n:Nat) (out:List aa),At l i r→r.length<n→(∀f∈r,iT f=true)→out.length+r.length≤20→
 dl n name l (l.length:Int) i out k=k (out++BV r name):=by
 intro r;induction r with
 |nil=>intro i n out h hn hf ho;obtain⟨n,rfl⟩:=bC hn;unfold dl fN;simp only [h.dge,cond_false];simp [BV]
 |cons a r ih=>
  intro i n out h hn hf ho;obtain⟨n,rfl⟩:=bC hn
  have ha:=zm (hf a (List.mem_cons_self ..))
  have hr:=fun f h=>hf f (List.mem_cons_of_mem _ h)
  simp only [List.length_cons]at ho hn
  have e0:decide ((out.length+ [a.2].length)*16≤140737488355328)=true:=dT' (by simp only [List.length_singleton];omega)
  unfold dl fN;simp only [h.dlt,h.dnn,h.get,cond_true,h.next (by omega),ha.1,hm,Bool.and_self,cy,e0]
  cases hs:wT a.1 name
  ·rw [cond_false,ih (i+1) n out h.step (by omega) hr (by omega)];simp [BV,hs]
  ·rw [cond_true,ih (i+1) n (out++[a.2]) h.step (by omega) hr (by simp;omega)];simp [BV,hs]
def ME:List AV→List Ob→Br
 | [.sh (.pair .str .str) l,.str name],[]=>.ite (isM name) (.ret (.ref 0 0) [.arr .str 0 false (LG l name)]) .fail
 |_,_=>.fail
theorem xc:Sound Kx 164 ME:=by
 refine(ug (φ:=fun l name=>.ite (isM name) (.ret (.ref 0 0) [.arr .str 0 false (LG l name)]) .fail) (fun l _=>l.length+1) fun l name r h=> ?_).of fun args objs r h=> ?_
 ·obtain⟨h1,h2⟩:=af h
  cases h2
  unfold mD LG
  cases hf:cx l
  ·rfl
  ·obtain⟨g1,g2⟩:=dw hf
   simp only [Bool.not_true,cond_false,cond_true]
   rw [uo name h1 l g1 _ l 0 _ [] (At.start l) (by omega) g2 (by simpa using g1)]
   rfl
 ·unfold ME at h;split at h
  ·exact h
  ·cases h
def frC:aa:=[99,111,110,116,101,110,116,45,108,101,110,103,116,104]
def frT:aa:=[116,114,97,110,115,102,101,114,45,101,110,99,111,100,105,110,103]
def frR:aa:=[116,114,97,105,108,101,114]
def H7 (f:Fd):Bool:=decide (aH f.1=frC)||decide (aH f.1=frT)||decide (aH f.1=frR)
theorem uq (l:List Fd) (hl:l.length≤20) (k0 k1:OR'): ∀(r:List Fd) (i:Int) (n:Nat),At l i r→r.length<n→(∀f∈r,iT f=true)→dm n l i k0 k1=bif r.any H7 then k0 else k1:=by
 intro r;induction r with
 |nil=>intro i n h hn hf;obtain⟨n,rfl⟩:=bC hn;unfold dm fO;simp only [h.dge,cond_false,List.any_nil]
 |cons a r ih=>
  intro i n h hn hf;obtain⟨n,rfl⟩:=bC hn
  have ha:=zm (hf a (List.mem_cons_self ..))
  have hs:=ih (i+1) n h.step (by simp at hn;omega) fun f h=>hf f (List.mem_cons_of_mem _ h)
  unfold dm fO;simp only [h.dlt,h.dnn,h.get,cond_true,h.next (by omega),hs,ha.1,List.any_cons]
  show(bif decide (aH a.1=frC)then k0 else bif decide (aH a.1=frT)then k0 else bif decide (aH a.1=frR)then k0 else _)=bif H7 a||_ then _ else _
  unfold H7
  cases decide (aH a.1=frC)<;>cases decide (aH a.1=frT)<;>cases decide (aH a.1=frR)<;>rfl
def MF:List AV→List Ob→Br
 | [.sh (.pair .str .str) l],[]=>.ite (cx l) (.ret (.bool (l.any H7)) []) .fail
 |_,_=>.fail
theorem xd:Sound Kx 126 MF:=by
 refine(uj (φ:=fun l=>.ite (cx l) (.ret (.bool (l.any H7)) []) .fail) (fun l=>l.length+1) fun l r h=> ?_).of fun args objs r h=> ?_
 ·obtain⟨h1,h2⟩:=af h
  cases h2
  obtain⟨g1,g2⟩:=dw h1
  unfold mF
  rw [uq l g1 _ _ l 0 _ (At.start l) (by omega) g2]
  cases l.any H7<;>rfl
 ·unfold MF at h;split at h
  ·exact h
  ·cases h
def e_:List Fd→Int
 | []=>0
 |a::r=>(a.1.length:Int)+(a.2.length:Int)+e_ r
def NX (f:Fd):Bool:=isM f.1&&isM f.2
def smF (l:List Fd):Bool:=decide (l.length≤4611686018427387904)&&l.all NX
theorem eJ: ∀l,0≤e_ l
 | []=>Int.le_refl 0
 |a::r=>by have:=eJ r;simp only [e_];omega
def EG (l:List Fd) (left:Int):Int:=bif decide ((l.length:Int)+e_ l≤left)then left-((l.length:Int)+e_ l)else-1
def b9 (left:Int):Bool:=decide (0≤left)&&decide (left≤1048576)
theorem rp (l:List Fd) (hl:l.length≤4611686018427387904) (ka kb:Int→OR'): ∀(r:List Fd) (i left:Int) (n:Nat),At l i r→r.length<n→(∀f∈r,NX f=true)→0≤left→left≤1048576→
 cH n l left i ka kb=bif decide (e_ r≤left)then kb (left-e_ r)else ka (-1):=by
 intro r;induction r with
 |nil=>
  intro i left n h hn hf h0 h1;obtain⟨n,rfl⟩:=bC hn;unfold cH eG
  have e:decide (e_ []≤left)=true:=dT' h0
  simp only [h.dge,cond_false,e,cond_true];simp only [e_,Int.sub_zero]
 |cons a r ih=>
  intro i left n h hn hf h0 h1;obtain⟨n,rfl⟩:=bC hn
  have ha:=hf a (List.mem_cons_self ..)
  unfold NX at ha;rw [Bool.and_eq_true]at ha
  have g1:=b8 ha.1
  have g2:=b8 ha.2
  have ht:=eJ r
  have hs:=fun left=>ih (i+1) left n h.step (by simp at hn;omega) (fun f h=>hf f (List.mem_cons_of_mem _ h))
  unfold cH eG;simp only [h.dlt,h.dnn,h.get,cond_true,h.next hl]
  rw [w64 (n:=left-(a.1.length:Int)) (by omega) (by omega)]
  by_cases c1:left-(a.1.length:Int)<0
  ·have: ¬e_ (a::r)≤left:=by simp only [e_];omega
   simp only [c1,this,decide_true,decide_false,cond_true,cond_false]
  ·rw [w64 (n:=left-(a.1.length:Int)-(a.2.length:Int)) (by omega) (by omega)]
   by_cases c2:left-(a.1.length:Int)-(a.2.length:Int)<0
   ·have: ¬e_ (a::r)≤left:=by simp only [e_];omega
    simp only [c1,c2,this,decide_true,decide_false,cond_true,cond_false]
   ·simp only [c1,c2,decide_false,cond_false]
    rw [hs _ (by omega) (by omega)]
    by_cases c3:e_ (a::r)≤left
    ·have c3':=c3
     simp only [e_]at c3'
     have e:e_ r≤left-(a.1.length:Int)-(a.2.length:Int):=by omega
     simp only [e,c3,decide_true,cond_true]
     congr 1;simp only [e_];omega
    ·have c3':=c3
     simp only [e_]at c3'
     have e: ¬e_ r≤left-(a.1.length:Int)-(a.2.length:Int):=by omega
     simp only [e,c3,decide_false,cond_false]
theorem jO:Sound Kx 44 (fq fun l left=>.ite (smF l&&b9 left) (.ret (.int .i64 (EG l left)) []) .fail):=by
 refine rl (fun l _=>l.length+1) fun l left r h=> ?_
 obtain⟨h1,h2⟩:=af h
 cases h2
 simp only [smF,b9,Bool.and_eq_true,decide_eq_true_eq,List.all_eq_true]at h1
 unfold jL EG
 have ht:=eJ l
 rw [w64 (by omega) (by omega)]
 by_cases c:left-(l.length:Int)<0
 ·have: ¬(l.length:Int)+e_ l≤left:=by omega
  simp only [c,this,decide_true,decide_false,cond_true,cond_false]
 ·simp only [c,decide_false,cond_false]
  rw [rp l h1.1.1 _ _ l 0 _ _ (At.start l) (by omega) h1.1.2 (by omega) (by omega)]
  by_cases c2:(l.length:Int)+e_ l≤left
  ·have e:e_ l≤left-(l.length:Int):=by omega
   simp only [c2,e,decide_true,cond_true]
   rw [show left-(l.length:Int)-e_ l=left-((l.length:Int)+e_ l) by omega]
  ·have e: ¬e_ l≤left-(l.length:Int):=by omega
   simp only [c2,e,decide_false,cond_false]
theorem rq (l:List Fd) (hl:l.length≤4611686018427387904) (k:List Fd→OR'): ∀(r pre:List Fd) (i:Int) (n:Nat),l=pre++r→i=pre.length→r.length<n→
 cI n l i (pre++List.replicate r.length ([],[])) k=k l:=by
 intro r;induction r with
 |nil=>
  intro pre i n h hi hn;obtain⟨n,rfl⟩:=bC hn;subst h;subst hi
  have e:decide ((pre.length:Int)< ((pre++([]:List Fd)).length:Int))=false:=by simp
  unfold cI eH;simp only [e,cond_false];rfl
 |cons a r ih=>
  intro pre i n h hi hn;obtain⟨n,rfl⟩:=bC hn
  have ha:At l i (a::r):=⟨pre,h,hi⟩
  have e1:decide (i< ((pre++List.replicate (a::r).length (([],[]):Fd)).length:Int))=true:=dT' (by rw [hi];simp;omega)
  unfold cI eH;simp only [ha.dlt,ha.dnn,ha.get,cond_true,ha.next hl,e1]
  have:=ih (pre++[a]) (i+1) n (by rw [h];simp) (by rw [hi];simp) (by simp at hn;omega)
  rw [←this]
  congr 1
  rw [hi]
  simp only [List.length_cons,List.replicate_succ,Int.toNat_natCast,gz]
  simp
theorem jP:Sound Kx 48 (fv fun l=>.ite (decide (l.length≤1048576)) (.ret (.ref 0 0) [.arr (.pair .str .str) 0 false l]) .fail):=by
 refine rm (fun l=>l.length+1) fun l r h=> ?_
 obtain⟨h1,h2⟩:=af h
 cases h2
 rw [decide_eq_true_eq]at h1
 unfold jM
 have e1:decide ((0:Int)≤(l.length:Int))=true:=by simp
 have e2:decide ((l.length:Int)*32≤140737488355328)=true:=dT' (by omega)
 simp only [e1,e2,decide_true,cond_true,Int.toNat_natCast]
 exact rq l (by omega) _ l [] 0 _ rfl rfl (by omega)
theorem rr (l l':List Fd) (hl:l.length≤4611686018427387904) (k0 k1:OR'): ∀(r r':List Fd) (i:Int) (n:Nat),At l i r→At l' i r'→r.length=r'.length→r.length<n→
 cJ n l l' i k0 k1=bif decide (r=r')then k1 else k0:=by
 intro r;induction r with
 |nil=>
  intro r' i n h h' he hn;obtain⟨n,rfl⟩:=bC hn
  have:r'=[]:=List.length_eq_zero_iff.1 he.symm
  subst this
  unfold cJ eI;simp only [h.dge,cond_false,decide_true,cond_true]
 |cons a r ih=>
  intro r' i n h h' he hn;obtain⟨n,rfl⟩:=bC hn
  cases r' with
  |nil=>cases he
  |cons b r'=>
   have hs:=ih r' (i+1) n h.step h'.step (by simpa using he) (by simp at hn;omega)
   unfold cJ eI;simp only [h.dlt,h'.dlt,h.dnn,h.get,h'.get,cond_true,h.next hl,hs]
   obtain⟨a1,a2⟩:=a
   obtain⟨b1,b2⟩:=b
   by_cases c1:a1=b1<;>by_cases c2:a2=b2<;>by_cases c3:r=r'<;>simp [c1,c2,c3]
theorem jQ:Sound Kx 52 (fw fun l l'=>.ite (decide (l.length≤4611686018427387904)) (.ret (.bool (decide (l=l'))) []) .fail):=by
 refine rn (fun l _=>l.length+1) fun l l' r h=> ?_
 obtain⟨h1,h2⟩:=af h
 cases h2
 rw [decide_eq_true_eq]at h1
 unfold jN
 by_cases c:l.length=l'.length
 ·have c':(l.length:Int)=(l'.length:Int):=by omega
  simp only [c',decide_true,Bool.not_true,cond_false]
  rw [rr l l' h1 _ _ l l' 0 _ (At.start l) (At.start l') c (by omega)]
  cases decide (l=l')<;>rfl
 ·have c': ¬(l.length:Int)=(l'.length:Int):=by omega
  have c2: ¬l=l':=fun e=>c (by rw [e])
  simp only [c',c2,decide_false,Bool.not_false,cond_true]
def py:Opt:={live:=[(4,[0,3])],outs:=[(4,[2,3])]}
def eK (aF:Int) (aX:aa) (Pd:Int→aa→OR') (cF:aa→OR'):OR':=
 (bif(decide (0<aF))then(bif(decide (((List.length (br (List.set (List.replicate 1 (0:Int)) 0 (wk8 (ac (48+(Int.tmod aF 10)))))))+aX.length)≤9223372036854775807))then(Pd (ac (Int.tdiv aF 10)) ((br (List.set (List.replicate 1 (0:Int)) 0 (wk8 (ac (48+(Int.tmod aF 10))))))++aX))else(none))else(cF aX))
def cK:Nat→Int→aa→(aa→OR')→OR'
 |0,_,_,_=>none
 |n+1,aF,aX,cF=>eK aF aX (fun aF aX=>cK n aF aX cF) cF
abbrev markText_p4:SP:=⟨20,[0,3],[(.v (.i .i64)),(.v .s)],[]⟩
noncomputable def mQ:Code:=aG (aI Tryz.f64) [1,1,1,0,0,0]
def mR (f:(aa→OR')→OR') (k:KT):OR':=f (fun cq=>k (Ex.exit 0) ((St.mk (aE 0 20 [(3,(AV.str cq))]) ([]:(List (Nat×(Ob)))))))
def mS (n:Nat) (d:markText_p4.D):KT→OR':=mR (cK n d.1.1 d.1.2.1)
def pz (N:Nat):Lam:=bD [⟨4,markText_p4,mS N⟩]
theorem ut (N:Nat):OkL Kx noS py 0 N (pz N) mQ:=okL markText_p4 (mS) (fun d kR=>mR (eK d.1.1 d.1.2.1 (fun aF aX=>kR ((aF,aX,()),())))) (fun _ _=>by kernel_rfl) (fun _ _ _=>by kernel_rfl) (fun _ _=>by kernel_rfl) (fun _ _ _ _=>by kernel_rfl) (ah (l':=[]) (by kernel_rfl) trivial)
def jR (N:Nat) (k:Int):OR':=(bif(decide (k≤0))then(some ((AV.str ([109,48]:aa)),[]))else(cK N k ([]:aa) (fun cq=>(bif(decide ((1+cq.length)≤9223372036854775807))then(some ((AV.str (([109]:aa)++cq)),[]))else(none)))))
def jS (φ:Int→Br):List AV→List Ob→Br
 | [.int .i64 k],[]=>φ k
 |_,_=>.fail
theorem rt {φ:Int→Br} (fu:Int→Nat) (hv: ∀k res_,(φ k).val=some res_→jR (fu k) k=some res_):Sound Kx 64 (jS φ):=an (C:=[]) (O:=py) Tryz.func64 (by kernel_rfl) fun args objs=>by
 unfold jS;split
 ·rename_i k;exact .inr fun _ hyp_=>aV (Λ:=pz (fu k)) (by kernel_rfl) (ah (l':=[mQ]) (by kernel_rfl) ⟨ut _,trivial⟩) (by kernel_rfl) (hv k _ hyp_)
 ·exact .inl rfl
end
end Go.Proofs.YtihabpimbfmhhaaGreatDoor.Ev
