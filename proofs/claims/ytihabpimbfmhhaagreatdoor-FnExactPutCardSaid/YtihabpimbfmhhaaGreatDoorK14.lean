/- The texts Ext1, La, Lb, Lc, Ld, Ua, Le, Lf, Lg, Lh, Li, Lj, Lk, Ll, Lm, Ln, Na, Nb, Nc, Nd, one behind the other. -/
import Derived.Test.YtihabpimbfmhhaaGreatDoorK13
import Derived.Lib.Bytealg
namespace Go.Proofs.YtihabpimbfmhhaaGreatDoor.Ev
open Go Go.RowKit
set_option linter.unusedVariables false
set_option linter.unusedSimpArgs false
def Mo (s:List UInt8) (c:Int):Int:=Go.Lib.indexByte s c.toNat.toUInt8
def Qp (s:List UInt8) (c:Int):Br:=.ret (.int .i64 (Mo s c)) []
def OZ:List AV→List Ob→Br
 | [.str s,.int .u8 c],[]=>Qp s c
 |_,_=>.fail
theorem Qq:Sound Kx 388 OZ:=by
 intro args objs res objs' hv w L vs hR ho hr
 unfold OZ at hv
 split at hv
 ·rename_i s c
  cases hv
  simp only [aK,rel]at hr
  obtain⟨v1,cs1,rfl,rfl,v2,cs2,rfl,rfl,rfl⟩:=hr
  refine .inr ⟨.int .i64 (Go.Lib.indexByte s c.toNat.toUInt8),w, ?_,L,hR,ho, ?_,by simp [rel,Mo]⟩
  ·have:=run_callFunc_extern (P:=Kx.P) (f:=388) (e:=Extern.BytealgIndexByte.indexByte) Tryz.func388 (by kernel_rfl) (by kernel_rfl) (by kernel_rfl) (by kernel_rfl) #[.string ⟨s.toArray⟩,.int .u8 c] w
   refine this.trans ?_
   rw [Go.Lib.run_indexByteString]
   simp [Result.andThen,Mo]
  ·exact Kept.refl _ _
 ·cases hv
end Go.Proofs.YtihabpimbfmhhaaGreatDoor.Ev
namespace Go.Proofs.YtihabpimbfmhhaaGreatDoor.Ev
open Go Go.RowKit
set_option linter.unusedVariables false
set_option linter.unusedSimpArgs false
noncomputable section
def Fw (b:Int):Br:=(Br.ite (decide (97≤b)) (Br.ret (AV.bool (decide (b≤122))) []) (Br.ret (AV.bool false) []))
def wt:List AV→List Ob→Br
 | [.int .u8 b],[]=>Fw b
 |_,_=>.fail
theorem Fx:Sound Kx 310 wt:=ae (C:=[]) (O:=O0) Tryz.func310 (by kernel_rfl) fun args objs=>by
 unfold wt;split
 ·exact .inr (by kernel_rfl)
 ·exact .inl rfl
def Fy (b:Int):Br:=(Br.ite (decide (65≤b)) (Br.ret (AV.bool (decide (b≤90))) []) (Br.ret (AV.bool false) []))
def wu:List AV→List Ob→Br
 | [.int .u8 b],[]=>Fy b
 |_,_=>.fail
theorem Fz:Sound Kx 238 wu:=ae (C:=[]) (O:=O0) Tryz.func238 (by kernel_rfl) fun args objs=>by
 unfold wu;split
 ·exact .inr (by kernel_rfl)
 ·exact .inl rfl
def FA (b:Int):Br:=(Br.ite (decide (48≤b)) (Br.ret (AV.bool (decide (b≤57))) []) (Br.ret (AV.bool false) []))
def wv:List AV→List Ob→Br
 | [.int .u8 b],[]=>FA b
 |_,_=>.fail
theorem FB:Sound Kx 311 wv:=ae (C:=[]) (O:=O0) Tryz.func311 (by kernel_rfl) fun args objs=>by
 unfold wv;split
 ·exact .inr (by kernel_rfl)
 ·exact .inl rfl
def FC (b:Int):Br:=(Br.ite (decide (b=32)) (Br.ret (AV.bool true) []) (Br.ret (AV.bool (decide (b=9))) []))
def ww:List AV→List Ob→Br
 | [.int .u8 b],[]=>FC b
 |_,_=>.fail
theorem FD:Sound Kx 256 ww:=ae (C:=[]) (O:=O0) Tryz.func256 (by kernel_rfl) fun args objs=>by
 unfold ww;split
 ·exact .inr (by kernel_rfl)
 ·exact .inl rfl
def kP (b:Int):Br:=(Br.ite (decide (b=9)) (Br.ret (AV.bool true) []) (Br.ite (decide (32≤b)) (Br.ret (AV.bool (!(decide (b=127)))) []) (Br.ret (AV.bool false) [])))
def wy:List AV→List Ob→Br
 | [.int .u8 b],[]=>kP b
 |_,_=>.fail
theorem FE:Sound Kx 192 wy:=ae (C:=[]) (O:=O0) Tryz.func192 (by kernel_rfl) fun args objs=>by
 unfold wy;split
 ·exact .inr (by kernel_rfl)
 ·exact .inl rfl
def wz (b:Int):Br:=(Br.ite (decide (33≤b)) (Br.ret (AV.bool (decide (b≤126))) []) (Br.ret (AV.bool false) []))
def n9:List AV→List Ob→Br
 | [.int .u8 b],[]=>wz b
 |_,_=>.fail
theorem wA:Sound Kx 194 n9:=ae (C:=[]) (O:=O0) Tryz.func194 (by kernel_rfl) fun args objs=>by
 unfold n9;split
 ·exact .inr (by kernel_rfl)
 ·exact .inl rfl
def FF:SC:=[⟨124,_,cm⟩]
def Ap (n:Int):Br:=(Br.ite (decide (200≤n)) (Br.ret (AV.bool (decide (n≤599))) []) (Br.ret (AV.bool false) []))
def rn:List AV→List Ob→Br
 | [.int .i64 n],[]=>Ap n
 |_,_=>.fail
theorem Aq:Sound Kx 138 rn:=ae (C:=FF) (O:=O0) Tryz.func138 (by kernel_rfl) fun args objs=>by
 unfold rn;split
 ·exact .inr (by kernel_rfl)
 ·exact .inl rfl
def n_ (n:Int):Br:=(Br.ite (decide (n=204)) (Br.ret (AV.bool true) []) (Br.ret (AV.bool (decide (n=304))) []))
def iq:List AV→List Ob→Br
 | [.int .i64 n],[]=>n_ n
 |_,_=>.fail
theorem oa:Sound Kx 140 iq:=ae (C:=[]) (O:=O0) Tryz.func140 (by kernel_rfl) fun args objs=>by
 unfold iq;split
 ·exact .inr (by kernel_rfl)
 ·exact .inl rfl
def oc (b:Int):Br:=(Br.ite (decide (65≤b)) (Br.ite (decide (b≤90)) (Br.ret (AV.int .u8 (wk8 (b+32))) []) (Br.ret (AV.int .u8 b) [])) (Br.ret (AV.int .u8 b) []))
def CA:List AV→List Ob→Br
 | [.int .u8 b],[]=>oc b
 |_,_=>.fail
theorem slower_ok:Sound Kx 212 CA:=ae (C:=[]) (O:=O0) Tryz.func212 (by kernel_rfl) fun args objs=>by
 unfold CA;split
 ·exact .inr (by kernel_rfl)
 ·exact .inl rfl
def Is (b:Int):Br:=(Br.ite (decide (b=32)) (Br.ret (AV.bool true) []) (Br.ret (AV.bool (decide (b=9))) []))
def CB:List AV→List Ob→Br
 | [.int .u8 b],[]=>Is b
 |_,_=>.fail
theorem It:Sound Kx 254 CB:=ae (C:=[]) (O:=O0) Tryz.func254 (by kernel_rfl) fun args objs=>by
 unfold CB;split
 ·exact .inr (by kernel_rfl)
 ·exact .inl rfl
def Iu (b:Int):Br:=(Br.ite (decide (48≤b)) (Br.ret (AV.bool (decide (b≤57))) []) (Br.ret (AV.bool false) []))
def CC:List AV→List Ob→Br
 | [.int .u8 b],[]=>Iu b
 |_,_=>.fail
theorem Iv:Sound Kx 263 CC:=ae (C:=[]) (O:=O0) Tryz.func263 (by kernel_rfl) fun args objs=>by
 unfold CC;split
 ·exact .inr (by kernel_rfl)
 ·exact .inl rfl
def od (b:Int):Br:=(Br.ite (decide (b=9)) (Br.ret (AV.bool true) []) (Br.ite (decide (32≤b)) (Br.ret (AV.bool (!(decide (b=127)))) []) (Br.ret (AV.bool false) [])))
def CD:List AV→List Ob→Br
 | [.int .u8 b],[]=>od b
 |_,_=>.fail
theorem Iw:Sound Kx 253 CD:=ae (C:=[]) (O:=O0) Tryz.func253 (by kernel_rfl) fun args objs=>by
 unfold CD;split
 ·exact .inr (by kernel_rfl)
 ·exact .inl rfl
def M6 (n:Int):Br:=(Br.ite (decide (n=204)) (Br.ret (AV.bool true) []) (Br.ret (AV.bool (decide (n=304))) []))
def Ix:List AV→List Ob→Br
 | [.int .i64 n],[]=>M6 n
 |_,_=>.fail
theorem M7:Sound Kx 184 Ix:=ae (C:=[]) (O:=O0) Tryz.func184 (by kernel_rfl) fun args objs=>by
 unfold Ix;split
 ·exact .inr (by kernel_rfl)
 ·exact .inl rfl
def FG (a b:aa) (left:Int):Br:=(Br.ite (decide ((ac (left-(a.length:Int)))<0)) (Br.ret (AV.int .i64 (-1)) []) (Br.ite (decide ((ac ((ac (left-(a.length:Int)))-(b.length:Int)))<0)) (Br.ret (AV.int .i64 (-1)) []) (Br.ret (AV.int .i64 (ac ((ac (left-(a.length:Int)))-(b.length:Int)))) [])))
def wB:List AV→List Ob→Br
 | [.agg [.str a,.str b],.int .i64 left],[]=>FG a b left
 |_,_=>.fail
theorem FH:Sound Kx 79 wB:=ae (C:=[]) (O:=O0) Tryz.func79 (by kernel_rfl) fun args objs=>by
 unfold wB;split
 ·exact .inr (by kernel_rfl)
 ·exact .inl rfl
def FI (a b:aa):Br:=(Br.ret (AV.agg ((AV.str a)::((AV.str b)::[]))) [])
def wC:List AV→List Ob→Br
 | [.agg [.str a,.str b]],[]=>FI a b
 |_,_=>.fail
theorem FJ:Sound Kx 86 wC:=ae (C:=[]) (O:=O0) Tryz.func86 (by kernel_rfl) fun args objs=>by
 unfold wC;split
 ·exact .inr (by kernel_rfl)
 ·exact .inl rfl
def FK (a b c d:aa):Br:=(Br.ite (!(decide (a=c))) (Br.ret (AV.bool false) []) (Br.ite (!(decide (b=d))) (Br.ret (AV.bool false) []) (Br.ret (AV.bool true) [])))
def wD:List AV→List Ob→Br
 | [.agg [.str a,.str b],.agg [.str c,.str d]],[]=>FK a b c d
 |_,_=>.fail
theorem FL:Sound Kx 95 wD:=ae (C:=[]) (O:=O0) Tryz.func95 (by kernel_rfl) fun args objs=>by
 unfold wD;split
 ·exact .inr (by kernel_rfl)
 ·exact .inl rfl
def fY (n:Int):Bool:=decide (97≤n)&&decide (n≤122)
def Ar (n:Int):Bool:=decide (65≤n)&&decide (n≤90)
def bg (n:Int):Bool:=decide (48≤n)&&decide (n≤57)
def O1 (n:Int):Bool:=decide (n=32)||decide (n=9)
def oe (n:Int):Bool:=decide (n=9)||(decide (32≤n)&& !decide (n=127))
def b8 (n:Int):Bool:=decide (33≤n)&&decide (n≤126)
def eC (n:Int):Int:=bif Ar n then n+32 else n
def tokSet:aa:=[33,35,36,37,38,39,42,43,45,46,94,95,124,126]
def jE (n:Int):Bool:=fY n||Ar n||bg n||decide (n=96)||tokSet.any fun c=>decide (by8 c=n)
def FM (p:Int→Bool):List AV→List Ob→Br
 | [.int .u8 b],[]=>.ret (.bool (p b)) []
 |_,_=>.fail
theorem og {n:Nat} {s:List AV→List Ob→Br} (hs:Sound Kx n s) {p:Int→Bool} (h: ∀b,(s [.int .u8 b] []).val=some (.bool (p b),[])):Sound Kx n (FM p):=hs.of fun args objs r hv=>by
 unfold FM at hv
 split at hv
 ·rw [h];exact hv
 ·cases hv
def Qr (p:Int→Bool):List AV→List Ob→Br
 | [.int .i64 b],[]=>.ret (.bool (p b)) []
 |_,_=>.fail
theorem Iy {n:Nat} {s:List AV→List Ob→Br} (hs:Sound Kx n s) {p:Int→Bool} (h: ∀b,(s [.int .i64 b] []).val=some (.bool (p b),[])):Sound Kx n (Qr p):=hs.of fun args objs r hv=>by
 unfold Qr at hv
 split at hv
 ·rw [h];exact hv
 ·cases hv
theorem ui (c x:Bool):(Br.ite c (.ret (.bool x) []) (.ret (.bool false) [])).val=some (.bool (c&&x),[]):=by cases c<;>rfl
theorem TN (c x:Bool):(Br.ite c (.ret (.bool true) []) (.ret (.bool x) [])).val=some (.bool (c||x),[]):=by cases c<;>rfl
theorem iN:Sound Kx 310 (FM fY):=og Fx fun b=>ui _ _
theorem iO:Sound Kx 238 (FM Ar):=og Fz fun b=>ui _ _
theorem fy:Sound Kx 311 (FM bg):=og FB fun b=>ui _ _
theorem uj:Sound Kx 194 (FM b8):=og wA fun b=>ui _ _
theorem As:Sound Kx 256 (FM O1):=og FD fun b=>TN _ _
theorem Au:Sound Kx 192 (FM oe):=og FE fun b=>by
 show(kP b).val=_
 unfold kP oe
 simp only [Br.val]
 cases decide (b=9)<;>cases decide (32≤b)<;>rfl
theorem FN:Sound Kx 254 (FM O1):=og It fun b=>TN _ _
theorem eD:Sound Kx 263 (FM bg):=og Iv fun b=>ui _ _
theorem FO:Sound Kx 253 (FM oe):=og Iw fun b=>by
 show(od b).val=_
 unfold od oe
 simp only [Br.val]
 cases decide (b=9)<;>cases decide (32≤b)<;>rfl
def RZ:List AV→List Ob→Br
 | [.int .u8 b],[]=>.ite (decide (0≤b)&&decide (b<256)) (.ret (.int .u8 (eC b)) []) .fail
 |_,_=>.fail
theorem gC:Sound Kx 212 RZ:=slower_ok.of fun args objs r h=>by
 unfold RZ at h
 split at h
 ·rename_i b
  obtain⟨h1,h2⟩:=af h
  simp only [Bool.and_eq_true,decide_eq_true_eq]at h1
  rw [←h2]
  show(oc b).val=_
  unfold oc eC Ar
  by_cases g1:65≤b<;>by_cases g2:b≤90<;>simp only [Br.val,g1,g2,decide_true,decide_false,Bool.and_true,Bool.and_false,Bool.false_and,cond_true,cond_false]
  rw [w8 (by omega) (by omega)]
 ·cases h
def FP (n:Int):Bool:=decide (200≤n)&&decide (n≤599)
def uk (n:Int):Bool:=decide (n=204)||decide (n=304)
theorem wE:Sound Kx 138 (Qr FP):=Iy Aq fun b=>ui _ _
theorem mB:Sound Kx 140 (Qr uk):=Iy oa fun b=>TN _ _
theorem Iz:Sound Kx 184 (Qr uk):=Iy M7 fun b=>TN _ _
def bb (p:Int→Bool) (s:aa):Bool:=s.all fun c=>p (by8 c)
def aJ (s:aa):aa:=bx ((bytesOf s).map eC)
def sp8 (c:UInt8):Bool:=O1 (by8 c)
def iP (s:aa):aa:=s.dropWhile sp8
def kQ (s:aa):aa:=(s.reverse.dropWhile sp8).reverse
def bH (s:aa):aa:=kQ (iP s)
def wF (s:aa):Bool:=decide (1≤s.length)&&decide (s.length≤4000)&&bb jE s
def isM (s:aa):Bool:=decide (s.length≤4611686018427387904)
def Ub:SC:=[⟨388,_,Qq⟩]
def R5 (s:aa) (c:Int):Br:=(Br.ret (AV.int .i64 (Mo s c)) [])
def R6:List AV→List Ob→Br
 | [.str s,.int .u8 c],[]=>R5 s c
 |_,_=>.fail
theorem R7:Sound Kx 356 R6:=ae (C:=Ub) (O:=O0) Tryz.func356 (by kernel_rfl) fun args objs=>by
 unfold R6;split
 ·exact .inr (by kernel_rfl)
 ·exact .inl rfl
def Uc:SC:=[⟨356,_,R7⟩]
def R8 (s:aa) (c:Int):Br:=(Br.ret (AV.int .i64 (Mo s c)) [])
def R9:List AV→List Ob→Br
 | [.str s,.int .u8 c],[]=>R8 s c
 |_,_=>.fail
theorem R_:Sound Kx 312 R9:=ae (C:=Uc) (O:=O0) Tryz.func312 (by kernel_rfl) fun args objs=>by
 unfold R9;split
 ·exact .inr (by kernel_rfl)
 ·exact .inl rfl
def M8:SC:=[⟨310,_,iN⟩,⟨238,_,iO⟩,⟨311,_,fy⟩,⟨312,_,R_⟩]
def oh (b:Int):Br:=(Br.ite (fY b) (Br.ret (AV.bool true) []) (Br.ite (Ar b) (Br.ret (AV.bool true) []) (Br.ite (bg b) (Br.ret (AV.bool true) []) (Br.ite (decide (b=96)) (Br.ret (AV.bool true) []) (Br.ret (AV.bool (decide (0≤(Mo ([33,35,36,37,38,39,42,43,45,46,94,95,124,126]:aa) b)))) [])))))
def CE:List AV→List Ob→Br
 | [.int .u8 b],[]=>oh b
 |_,_=>.fail
theorem isTokB_ok:Sound Kx 255 CE:=ae (C:=M8) (O:=O0) Tryz.func255 (by kernel_rfl) fun args objs=>by
 unfold CE;split
 ·exact .inr (by kernel_rfl)
 ·exact .inl rfl
def O2:Opt:={live:=[(2,[0,1,5])],outs:=[(2,[4])]}
def ul (an:aa) (aq aP:Int) (U5:aa→Int→Int→OR') (bK cA:OR'):OR':=
 (bif(decide (aP< (an.length:Int)))then(bif(decide (0≤aP))then(bif(decide (aP< (an.length:Int)))then(bif(decide ((au an aP)=aq))then bK else(U5 an aq (ac (aP+1))))else(none))else(none))else cA)
def kS:Nat→aa→Int→Int→(OR')→(OR')→OR'
 |0,_,_,_,_,_=>none
 |n+1,an,aq,aP,bK,cA=>ul an aq aP (fun an aq aP=>kS n an aq aP bK cA) bK cA
abbrev shas_p2:SP:=⟨17,[0,1,5],[(.v .s),(.v (.i .u8)),(.v (.i .i64))],[]⟩
noncomputable def IA:Code:=ax (aD Tryz.f309) [1,0,1,0,0]
def IB (f:(OR')→(OR')→OR') (k:KT):OR':=f (k Ex.ret ((St.mk (aw 0 17 [(4,(AV.bool true))]) ([]:(List (Nat×(Ob))))))) (k (Ex.exit 0) ((St.mk (aw 0 17 []) ([]:(List (Nat×(Ob)))))))
def IC (n:Nat) (d:shas_p2.D):KT→OR':=IB (kS n d.1.1 d.1.2.1 d.1.2.2.1)
def O3 (N:Nat):Lam:=bf [⟨2,shas_p2,IC N⟩]
theorem M9 (N:Nat):OkL Kx noS O2 0 N (O3 N) IA:=okL shas_p2 (IC) (fun d kR=>IB (ul d.1.1 d.1.2.1 d.1.2.2.1 (fun an aq aP=>kR ((an,aq,aP,()),())))) (fun _ _=>by kernel_rfl) (fun _ _ _=>by kernel_rfl) (fun _ _=>by kernel_rfl) (fun _ _ _ _=>by kernel_rfl) (ah (l':=[]) (by kernel_rfl) trivial)
def CF (N:Nat) (s:aa) (b:Int):OR':=(kS N s b 0 (some ((AV.bool true),[])) (some ((AV.bool false),[])))
def CG (φ:aa→Int→Br):List AV→List Ob→Br
 | [.str s,.int .u8 b],[]=>φ s b
 |_,_=>.fail
theorem ID {φ:aa→Int→Br} (fu:aa→Int→Nat) (hv: ∀s b res_,(φ s b).val=some res_→CF (fu s b) s b=some res_):Sound Kx 309 (CG φ):=aj (C:=[]) (O:=O2) Tryz.func309 (by kernel_rfl) fun args objs=>by
 unfold CG;split
 ·rename_i s b;exact .inr fun _ hyp_=>aO (Λ:=O3 (fu s b)) (by kernel_rfl) (ah (l':=[IA]) (by kernel_rfl) ⟨M9 _,trivial⟩) (by kernel_rfl) (hv s b _ hyp_)
 ·exact .inl rfl
def IE:Opt:={live:=[(3,[3,8,9,10])],outs:=[(3,[2,3])]}
def ifold_C:SC:=[⟨238,_,iO⟩]
def mQ (ai al:Int) (ap:(List Int)) (U6:Int→Int→(List Int)→OR') (cI:(List Int)→OR'):OR':=
 (bif(decide (al<ai))then(bif(decide (0≤al))then(bif(decide (al< (ap.length:Int)))then(bif(Ar (List.getD ap (Int.toNat al) 0))then(bif(decide (0≤al))then(bif(decide (al< (ap.length:Int)))then(U6 ai (ac (al+1)) (List.set ap (Int.toNat al) (wk8 ((List.getD ap (Int.toNat al) 0)+32))))else(none))else(none))else(U6 ai (ac (al+1)) ap))else(none))else(none))else(cI ap))
def fA:Nat→Int→Int→(List Int)→((List Int)→OR')→OR'
 |0,_,_,_,_=>none
 |n+1,ai,al,ap,cI=>mQ ai al ap (fun ai al ap=>fA n ai al ap cI) cI
abbrev ifold_p3:SP:=⟨25,[3,8,9,10],[(.v (.ref 256 0)),(.v (.ref 256 0)),(.v (.i .i64)),(.v (.i .i64))],[(256,.arr (Ty.int .u8) 0 false)]⟩
noncomputable def CH:Code:=ax (aD Tryz.f171) [1,1,0,1,0,0]
def CI (f:((List Int)→OR')→OR') (k:KT):OR':=f (fun aQ=>k (Ex.exit 0) ((St.mk (aw 0 25 [(3,(AV.ref 256 0))]) ((256,(Ob.arr (Ty.int .u8) 0 false aQ))::([]:(List (Nat×(Ob))))))))
def CJ (n:Nat) (d:ifold_p3.D):KT→OR':=CI (fA n d.1.2.2.1 d.1.2.2.2.1 d.2.1)
def IF (N:Nat):Lam:=bf [⟨3,ifold_p3,CJ N⟩]
theorem IG (N:Nat):OkL Kx ifold_C.s IE 0 N (IF N) CH:=okL ifold_p3 (CJ) (fun d kR=>CI (mQ d.1.2.2.1 d.1.2.2.2.1 d.2.1 (fun ai al ap=>kR (((),(),ai,al,()),(ap,()))))) (fun _ _=>by kernel_rfl) (fun _ _ _=>by kernel_rfl) (fun _ _=>by kernel_rfl) (fun _ _ _ _=>by kernel_rfl) (ah (l':=[]) (by kernel_rfl) trivial)
def wG (N:Nat) (s:aa):OR':=(fA N ((List.length (bytesOf s)):Int) 0 (bytesOf s) (fun aQ=>(some ((AV.str (bx aQ)),[]))))
def wH (φ:aa→Br):List AV→List Ob→Br
 | [.str s],[]=>φ s
 |_,_=>.fail
theorem FQ {φ:aa→Br} (fu:aa→Nat) (hv: ∀s res_,(φ s).val=some res_→wG (fu s) s=some res_):Sound Kx 171 (wH φ):=aj (C:=ifold_C) (O:=IE) Tryz.func171 (by kernel_rfl) fun args objs=>by
 unfold wH;split
 ·rename_i s;exact .inr fun _ hyp_=>aO (Λ:=IF (fu s)) (by kernel_rfl) (ah (l':=[CH]) (by kernel_rfl) ⟨IG _,trivial⟩) (by kernel_rfl) (hv s _ hyp_)
 ·exact .inl rfl
def IH:Opt:={live:=[(3,[3,4])],outs:=[(3,[2,3])]}
def sfold_C:SC:=[⟨212,_,gC⟩]
def mR (ai:Int) (al:(List Int)) (U6:Int→(List Int)→OR') (cI:(List Int)→OR'):OR':=
 (bif(decide (ai< (al.length:Int)))then(bif(decide (0≤ai))then(bif(decide (ai< (al.length:Int)))then(bif((decide (0≤(List.getD al (Int.toNat ai) 0)))&&(decide ((List.getD al (Int.toNat ai) 0)<256)))then(bif(decide (0≤ai))then(bif(decide (ai< (al.length:Int)))then(U6 (ac (ai+1)) (List.set al (Int.toNat ai) (eC (List.getD al (Int.toNat ai) 0))))else(none))else(none))else(none))else(none))else(none))else(cI al))
def gD:Nat→Int→(List Int)→((List Int)→OR')→OR'
 |0,_,_,_=>none
 |n+1,ai,al,cI=>mR ai al (fun ai al=>gD n ai al cI) cI
abbrev sfold_p3:SP:=⟨23,[3,4],[(.v (.ref 256 0)),(.v (.i .i64))],[(256,.arr (Ty.int .u8) 0 false)]⟩
noncomputable def CK:Code:=ax (aD Tryz.f157) [1,1,0,1,0,0]
def CL (f:((List Int)→OR')→OR') (k:KT):OR':=f (fun aQ=>k (Ex.exit 0) ((St.mk (aw 0 23 [(3,(AV.ref 256 0))]) ((256,(Ob.arr (Ty.int .u8) 0 false aQ))::([]:(List (Nat×(Ob))))))))
def CM (n:Nat) (d:sfold_p3.D):KT→OR':=CL (gD n d.1.2.1 d.2.1)
def II (N:Nat):Lam:=bf [⟨3,sfold_p3,CM N⟩]
theorem IJ (N:Nat):OkL Kx sfold_C.s IH 0 N (II N) CK:=okL sfold_p3 (CM) (fun d kR=>CL (mR d.1.2.1 d.2.1 (fun ai al=>kR (((),ai,()),(al,()))))) (fun _ _=>by kernel_rfl) (fun _ _ _=>by kernel_rfl) (fun _ _=>by kernel_rfl) (fun _ _ _ _=>by kernel_rfl) (ah (l':=[]) (by kernel_rfl) trivial)
def wI (N:Nat) (s:aa):OR':=(gD N 0 (bytesOf s) (fun aQ=>(some ((AV.str (bx aQ)),[]))))
def wJ (φ:aa→Br):List AV→List Ob→Br
 | [.str s],[]=>φ s
 |_,_=>.fail
theorem FR {φ:aa→Br} (fu:aa→Nat) (hv: ∀s res_,(φ s).val=some res_→wI (fu s) s=some res_):Sound Kx 157 (wJ φ):=aj (C:=sfold_C) (O:=IH) Tryz.func157 (by kernel_rfl) fun args objs=>by
 unfold wJ;split
 ·rename_i s;exact .inr fun _ hyp_=>aO (Λ:=II (fu s)) (by kernel_rfl) (ah (l':=[CK]) (by kernel_rfl) ⟨IJ _,trivial⟩) (by kernel_rfl) (hv s _ hyp_)
 ·exact .inl rfl
def Av:Opt:={live:=[(3,[0]),(1,[0])],outs:=[(3,[0,2]),(1,[0,2])]}
def itrim_C:SC:=[⟨256,_,As⟩]
def mS (E5:aa) (U7 TK:aa→OR'):OR':=
 (bif(!(decide (E5=([]:aa))))then(bif(decide (0< (E5.length:Int)))then(bif(O1 (au E5 0))then(bif(decide (1≤(E5.length:Int)))then(U7 (cut E5 1 (E5.length:Int)))else(none))else(TK E5))else(none))else(TK E5))
def gE:Nat→aa→(aa→OR')→OR'
 |0,_,_=>none
 |n+1,E5,TK=>mS E5 (fun E5=>gE n E5 TK) TK
abbrev itrim_p1:SP:=⟨28,[0],[(.v .s)],[]⟩
noncomputable def CN:Code:=ax (aD Tryz.f193) [1,0,0,0]
def CO (f:(aa→OR')→OR') (k:KT):OR':=f (fun Mi=>k (Ex.exit 0) ((St.mk (aw 0 28 [(0,(AV.str Mi))]) ([]:(List (Nat×(Ob)))))))
def CP (n:Nat) (d:itrim_p1.D):KT→OR':=CO (gE n d.1.1)
def mT (ai:aa) (U6 cI:aa→OR'):OR':=
 (bif(!(decide (ai=([]:aa))))then(bif(decide (0≤(ac ((ai.length:Int)-1))))then(bif(decide ((ac ((ai.length:Int)-1))< (ai.length:Int)))then(bif(O1 (au ai (ac ((ai.length:Int)-1))))then(bif(decide (0≤(ac ((ai.length:Int)-1))))then(bif(decide ((ac ((ai.length:Int)-1))≤(ai.length:Int)))then(U6 (cut ai 0 (ac ((ai.length:Int)-1))))else(none))else(none))else(cI ai))else(none))else(none))else(cI ai))
def gF:Nat→aa→(aa→OR')→OR'
 |0,_,_=>none
 |n+1,ai,cI=>mT ai (fun ai=>gF n ai cI) cI
abbrev itrim_p3:SP:=⟨28,[0],[(.v .s)],[]⟩
noncomputable def CQ:Code:=ax (aD Tryz.f193) [1,1,0,0,0]
def CR (f:(aa→OR')→OR') (k:KT):OR':=f (fun aQ=>k (Ex.exit 2) ((St.mk (aw 0 28 [(0,(AV.str aQ))]) ([]:(List (Nat×(Ob)))))))
def CS (n:Nat) (d:itrim_p3.D):KT→OR':=CR (gF n d.1.1)
def Aw (N:Nat):Lam:=bf [⟨1,itrim_p1,CP N⟩,⟨3,itrim_p3,CS N⟩]
theorem IK (N:Nat):OkL Kx itrim_C.s Av 0 N (Aw N) CN:=okL itrim_p1 (CP) (fun d kR=>CO (mS d.1.1 (fun E5=>kR ((E5,()),())))) (fun _ _=>by kernel_rfl) (fun _ _ _=>by kernel_rfl) (fun _ _=>by kernel_rfl) (fun _ _ _ _=>by kernel_rfl) (ah (l':=[]) (by kernel_rfl) trivial)
theorem IL (N:Nat):OkL Kx itrim_C.s Av 0 N (Aw N) CQ:=okL itrim_p3 (CS) (fun d kR=>CR (mT d.1.1 (fun ai=>kR ((ai,()),())))) (fun _ _=>by kernel_rfl) (fun _ _ _=>by kernel_rfl) (fun _ _=>by kernel_rfl) (fun _ _ _ _=>by kernel_rfl) (ah (l':=[]) (by kernel_rfl) trivial)
def wK (N:Nat) (s:aa):OR':=(gE N s (fun Mi=>(gF N Mi (fun aQ=>(some ((AV.str aQ),[]))))))
def wL (φ:aa→Br):List AV→List Ob→Br
 | [.str s],[]=>φ s
 |_,_=>.fail
theorem FS {φ:aa→Br} (fu:aa→Nat) (hv: ∀s res_,(φ s).val=some res_→wK (fu s) s=some res_):Sound Kx 193 (wL φ):=aj (C:=itrim_C) (O:=Av) Tryz.func193 (by kernel_rfl) fun args objs=>by
 unfold wL;split
 ·rename_i s;exact .inr fun _ hyp_=>aO (Λ:=Aw (fu s)) (by kernel_rfl) (ah (l':=[CN,CQ]) (by kernel_rfl) ⟨IK _,IL _,trivial⟩) (by kernel_rfl) (hv s _ hyp_)
 ·exact .inl rfl
def Ax:Opt:={live:=[(5,[0,3,4]),(2,[0,3])],outs:=[(5,[0,2,3,4]),(2,[0,2,3])]}
def strim_C:SC:=[⟨254,_,FN⟩]
def mU (an:aa) (aq:Int) (U5 bK:aa→Int→OR'):OR':=
 (bif(decide (aq< (an.length:Int)))then(bif(decide (0≤aq))then(bif(decide (aq< (an.length:Int)))then(bif(O1 (au an aq))then(U5 an (ac (aq+1)))else(bK an aq))else(none))else(none))else(bK an aq))
def gG:Nat→aa→Int→(aa→Int→OR')→OR'
 |0,_,_,_=>none
 |n+1,an,aq,bK=>mU an aq (fun an aq=>gG n an aq bK) bK
abbrev strim_p2:SP:=⟨35,[0,3],[(.v .s),(.v (.i .i64))],[]⟩
noncomputable def CU:Code:=ax (aD Tryz.f182) [1,1,0,0,0]
def CV (f:(aa→Int→OR')→OR') (k:KT):OR':=f (fun bP eU=>k (Ex.exit 0) ((St.mk (aw 0 35 [(0,(AV.str bP)),(3,(AV.int .i64 eU))]) ([]:(List (Nat×(Ob)))))))
def CW (n:Nat) (d:strim_p2.D):KT→OR':=CV (gG n d.1.1 d.1.2.1)
def mV (aI:aa) (aU aH:Int) (U8 cJ:aa→Int→Int→OR'):OR':=
 (bif(decide (aU<aH))then(bif(decide (0≤(ac (aH-1))))then(bif(decide ((ac (aH-1))< (aI.length:Int)))then(bif(O1 (au aI (ac (aH-1))))then(U8 aI aU (ac (aH-1)))else(cJ aI aU aH))else(none))else(none))else(cJ aI aU aH))
def fB:Nat→aa→Int→Int→(aa→Int→Int→OR')→OR'
 |0,_,_,_,_=>none
 |n+1,aI,aU,aH,cJ=>mV aI aU aH (fun aI aU aH=>fB n aI aU aH cJ) cJ
abbrev strim_p5:SP:=⟨35,[0,3,4],[(.v .s),(.v (.i .i64)),(.v (.i .i64))],[]⟩
noncomputable def CX:Code:=ax (aD Tryz.f182) [1,1,1,1,0,0,0]
def CY (f:(aa→Int→Int→OR')→OR') (k:KT):OR':=f (fun am b6 dt=>k (Ex.exit 2) ((St.mk (aw 0 35 [(0,(AV.str am)),(3,(AV.int .i64 b6)),(4,(AV.int .i64 dt))]) ([]:(List (Nat×(Ob)))))))
def CZ (n:Nat) (d:strim_p5.D):KT→OR':=CY (fB n d.1.1 d.1.2.1 d.1.2.2.1)
def Ay (N:Nat):Lam:=bf [⟨2,strim_p2,CW N⟩,⟨5,strim_p5,CZ N⟩]
theorem IM (N:Nat):OkL Kx strim_C.s Ax 0 N (Ay N) CU:=okL strim_p2 (CW) (fun d kR=>CV (mU d.1.1 d.1.2.1 (fun an aq=>kR ((an,aq,()),())))) (fun _ _=>by kernel_rfl) (fun _ _ _=>by kernel_rfl) (fun _ _=>by kernel_rfl) (fun _ _ _ _=>by kernel_rfl) (ah (l':=[]) (by kernel_rfl) trivial)
theorem IN (N:Nat):OkL Kx strim_C.s Ax 0 N (Ay N) CX:=okL strim_p5 (CZ) (fun d kR=>CY (mV d.1.1 d.1.2.1 d.1.2.2.1 (fun aI aU aH=>kR ((aI,aU,aH,()),())))) (fun _ _=>by kernel_rfl) (fun _ _ _=>by kernel_rfl) (fun _ _=>by kernel_rfl) (fun _ _ _ _=>by kernel_rfl) (ah (l':=[]) (by kernel_rfl) trivial)
def wM (N:Nat) (s:aa):OR':=(gG N s 0 (fun bP=>(fun eU=>(fB N bP eU (bP.length:Int) (fun am=>(fun b6=>(fun dt=>(bif(decide (0≤b6))then(bif(decide (b6≤dt))then(bif(decide (dt≤(am.length:Int)))then(some ((AV.str (cut am b6 dt)),[]))else(none))else(none))else(none)))))))))
def wN (φ:aa→Br):List AV→List Ob→Br
 | [.str s],[]=>φ s
 |_,_=>.fail
theorem FT {φ:aa→Br} (fu:aa→Nat) (hv: ∀s res_,(φ s).val=some res_→wM (fu s) s=some res_):Sound Kx 182 (wN φ):=aj (C:=strim_C) (O:=Ax) Tryz.func182 (by kernel_rfl) fun args objs=>by
 unfold wN;split
 ·rename_i s;exact .inr fun _ hyp_=>aO (Λ:=Ay (fu s)) (by kernel_rfl) (ah (l':=[CU,CX]) (by kernel_rfl) ⟨IM _,IN _,trivial⟩) (by kernel_rfl) (hv s _ hyp_)
 ·exact .inl rfl
def C0:Opt:={live:=[(2,[0,1,5])],outs:=[(2,[4])]}
def allVis_C:SC:=[⟨194,_,uj⟩]
def jF (an:aa) (aq:Int) (U5:aa→Int→OR') (bK cA:OR'):OR':=
 (bif(decide (aq< (an.length:Int)))then(bif(decide (0≤aq))then(bif(decide (aq< (an.length:Int)))then(bif(!(b8 (au an aq)))then bK else(U5 an (ac (aq+1))))else(none))else(none))else cA)
def eE:Nat→aa→Int→(OR')→(OR')→OR'
 |0,_,_,_,_=>none
 |n+1,an,aq,bK,cA=>jF an aq (fun an aq=>eE n an aq bK cA) bK cA
abbrev allVis_p2:SP:=⟨18,[0,1,5],[(.v .s),(.v (.fn 194 [])),(.v (.i .i64))],[]⟩
noncomputable def wP:Code:=ax (aD Tryz.f191) [1,0,1,0,0]
def wQ (f:(OR')→(OR')→OR') (k:KT):OR':=f (k Ex.ret ((St.mk (aw 0 18 [(4,(AV.bool false))]) ([]:(List (Nat×(Ob))))))) (k (Ex.exit 0) ((St.mk (aw 0 18 []) ([]:(List (Nat×(Ob)))))))
def wR (n:Nat) (d:allVis_p2.D):KT→OR':=wQ (eE n d.1.1 d.1.2.2.1)
def C1 (N:Nat):Lam:=bf [⟨2,allVis_p2,wR N⟩]
theorem FU (N:Nat):OkL Kx allVis_C.s C0 0 N (C1 N) wP:=okL allVis_p2 (wR) (fun d kR=>wQ (jF d.1.1 d.1.2.2.1 (fun an aq=>kR ((an,(),aq,()),())))) (fun _ _=>by kernel_rfl) (fun _ _ _=>by kernel_rfl) (fun _ _=>by kernel_rfl) (fun _ _ _ _=>by kernel_rfl) (ah (l':=[]) (by kernel_rfl) trivial)
def rp (N:Nat) (s:aa):OR':=(eE N s 0 (some ((AV.bool false),[])) (some ((AV.bool true),[])))
def kT (φ:aa→Br):List AV→List Ob→Br
 | [.str s,.fn 194 []],[]=>φ s
 |_,_=>.fail
theorem Az {φ:aa→Br} (fu:aa→Nat) (hv: ∀s res_,(φ s).val=some res_→rp (fu s) s=some res_):Sound Kx 191 (kT φ):=aj (C:=allVis_C) (O:=C0) Tryz.func191 (by kernel_rfl) fun args objs=>by
 unfold kT;split
 ·rename_i s;exact .inr fun _ hyp_=>aO (Λ:=C1 (fu s)) (by kernel_rfl) (ah (l':=[wP]) (by kernel_rfl) ⟨FU _,trivial⟩) (by kernel_rfl) (hv s _ hyp_)
 ·exact .inl rfl
def IO:Opt:={live:=[(2,[0,1,5])],outs:=[(2,[4])]}
def allPl_C:SC:=[⟨192,_,Au⟩]
def mW (an:aa) (aq:Int) (U5:aa→Int→OR') (bK cA:OR'):OR':=
 (bif(decide (aq< (an.length:Int)))then(bif(decide (0≤aq))then(bif(decide (aq< (an.length:Int)))then(bif(!(oe (au an aq)))then bK else(U5 an (ac (aq+1))))else(none))else(none))else cA)
def gH:Nat→aa→Int→(OR')→(OR')→OR'
 |0,_,_,_,_=>none
 |n+1,an,aq,bK,cA=>mW an aq (fun an aq=>gH n an aq bK cA) bK cA
abbrev allPl_p2:SP:=⟨18,[0,1,5],[(.v .s),(.v (.fn 192 [])),(.v (.i .i64))],[]⟩
noncomputable def C2:Code:=ax (aD Tryz.f191) [1,0,1,0,0]
def C3 (f:(OR')→(OR')→OR') (k:KT):OR':=f (k Ex.ret ((St.mk (aw 0 18 [(4,(AV.bool false))]) ([]:(List (Nat×(Ob))))))) (k (Ex.exit 0) ((St.mk (aw 0 18 []) ([]:(List (Nat×(Ob)))))))
def C4 (n:Nat) (d:allPl_p2.D):KT→OR':=C3 (gH n d.1.1 d.1.2.2.1)
def IP (N:Nat):Lam:=bf [⟨2,allPl_p2,C4 N⟩]
theorem IQ (N:Nat):OkL Kx allPl_C.s IO 0 N (IP N) C2:=okL allPl_p2 (C4) (fun d kR=>C3 (mW d.1.1 d.1.2.2.1 (fun an aq=>kR ((an,(),aq,()),())))) (fun _ _=>by kernel_rfl) (fun _ _ _=>by kernel_rfl) (fun _ _=>by kernel_rfl) (fun _ _ _ _=>by kernel_rfl) (ah (l':=[]) (by kernel_rfl) trivial)
def wT (N:Nat) (s:aa):OR':=(gH N s 0 (some ((AV.bool false),[])) (some ((AV.bool true),[])))
def oi (φ:aa→Br):List AV→List Ob→Br
 | [.str s,.fn 192 []],[]=>φ s
 |_,_=>.fail
theorem FV {φ:aa→Br} (fu:aa→Nat) (hv: ∀s res_,(φ s).val=some res_→wT (fu s) s=some res_):Sound Kx 191 (oi φ):=aj (C:=allPl_C) (O:=IO) Tryz.func191 (by kernel_rfl) fun args objs=>by
 unfold oi;split
 ·rename_i s;exact .inr fun _ hyp_=>aO (Λ:=IP (fu s)) (by kernel_rfl) (ah (l':=[C2]) (by kernel_rfl) ⟨IQ _,trivial⟩) (by kernel_rfl) (hv s _ hyp_)
 ·exact .inl rfl
def wU:Opt:={live:=[(2,[0,3])],outs:=[(2,[2])]}
def splains_C:SC:=[⟨253,_,FO⟩]
def gI (an:aa) (aq:Int) (U5:aa→Int→OR') (bK cA:OR'):OR':=
 (bif(decide (aq< (an.length:Int)))then(bif(decide (0≤aq))then(bif(decide (aq< (an.length:Int)))then(bif(!(oe (au an aq)))then bK else(U5 an (ac (aq+1))))else(none))else(none))else cA)
def dG:Nat→aa→Int→(OR')→(OR')→OR'
 |0,_,_,_,_=>none
 |n+1,an,aq,bK,cA=>gI an aq (fun an aq=>dG n an aq bK cA) bK cA
abbrev splains_p2:SP:=⟨15,[0,3],[(.v .s),(.v (.i .i64))],[]⟩
noncomputable def rq:Code:=ax (aD Tryz.f181) [1,0,1,0,0]
def rr (f:(OR')→(OR')→OR') (k:KT):OR':=f (k Ex.ret ((St.mk (aw 0 15 [(2,(AV.bool false))]) ([]:(List (Nat×(Ob))))))) (k (Ex.exit 0) ((St.mk (aw 0 15 []) ([]:(List (Nat×(Ob)))))))
def rt (n:Nat) (d:splains_p2.D):KT→OR':=rr (dG n d.1.1 d.1.2.1)
def wV (N:Nat):Lam:=bf [⟨2,splains_p2,rt N⟩]
theorem AA (N:Nat):OkL Kx splains_C.s wU 0 N (wV N) rq:=okL splains_p2 (rt) (fun d kR=>rr (gI d.1.1 d.1.2.1 (fun an aq=>kR ((an,aq,()),())))) (fun _ _=>by kernel_rfl) (fun _ _ _=>by kernel_rfl) (fun _ _=>by kernel_rfl) (fun _ _ _ _=>by kernel_rfl) (ah (l':=[]) (by kernel_rfl) trivial)
def oj (N:Nat) (s:aa):OR':=(dG N s 0 (some ((AV.bool false),[])) (some ((AV.bool true),[])))
def ol (φ:aa→Br):List AV→List Ob→Br
 | [.str s],[]=>φ s
 |_,_=>.fail
theorem wW {φ:aa→Br} (fu:aa→Nat) (hv: ∀s res_,(φ s).val=some res_→oj (fu s) s=some res_):Sound Kx 181 (ol φ):=aj (C:=splains_C) (O:=wU) Tryz.func181 (by kernel_rfl) fun args objs=>by
 unfold ol;split
 ·rename_i s;exact .inr fun _ hyp_=>aO (Λ:=wV (fu s)) (by kernel_rfl) (ah (l':=[rq]) (by kernel_rfl) ⟨AA _,trivial⟩) (by kernel_rfl) (hv s _ hyp_)
 ·exact .inl rfl
def O4:Opt:={live:=[(2,[0,3])],outs:=[(2,[0,2])]}
def um (an:aa) (aq:Int) (U5:aa→Int→OR') (bK cA:aa→OR'):OR':=
 (bif(decide (aq< (an.length:Int)))then(bif(decide (0≤aq))then(bif(decide (aq< (an.length:Int)))then(bif(decide ((au an aq)<33))then(bK an)else(bif(decide (0≤aq))then(bif(decide (aq< (an.length:Int)))then(bif(decide (126< (au an aq)))then(bK an)else(U5 an (ac (aq+1))))else(none))else(none)))else(none))else(none))else(cA an))
def kU:Nat→aa→Int→(aa→OR')→(aa→OR')→OR'
 |0,_,_,_,_=>none
 |n+1,an,aq,bK,cA=>um an aq (fun an aq=>kU n an aq bK cA) bK cA
abbrev svis_p2:SP:=⟨23,[0,3],[(.v .s),(.v (.i .i64))],[]⟩
noncomputable def IR:Code:=ax (aD Tryz.f183) [1,0,1,0,0]
def IS (f:(aa→OR')→(aa→OR')→OR') (k:KT):OR':=f (fun bP=>k Ex.ret ((St.mk (aw 0 23 [(0,(AV.str bP)),(2,(AV.bool false))]) ([]:(List (Nat×(Ob))))))) (fun dV=>k (Ex.exit 0) ((St.mk (aw 0 23 [(0,(AV.str dV))]) ([]:(List (Nat×(Ob)))))))
def IT (n:Nat) (d:svis_p2.D):KT→OR':=IS (kU n d.1.1 d.1.2.1)
def O5 (N:Nat):Lam:=bf [⟨2,svis_p2,IT N⟩]
theorem M_ (N:Nat):OkL Kx noS O4 0 N (O5 N) IR:=okL svis_p2 (IT) (fun d kR=>IS (um d.1.1 d.1.2.1 (fun an aq=>kR ((an,aq,()),())))) (fun _ _=>by kernel_rfl) (fun _ _ _=>by kernel_rfl) (fun _ _=>by kernel_rfl) (fun _ _ _ _=>by kernel_rfl) (ah (l':=[]) (by kernel_rfl) trivial)
def C5 (N:Nat) (s:aa):OR':=(kU N s 0 (fun bP=>(some ((AV.bool false),[]))) (fun dV=>(some ((AV.bool (decide (0< (dV.length:Int)))),[]))))
def C6 (φ:aa→Br):List AV→List Ob→Br
 | [.str s],[]=>φ s
 |_,_=>.fail
theorem IU {φ:aa→Br} (fu:aa→Nat) (hv: ∀s res_,(φ s).val=some res_→C5 (fu s) s=some res_):Sound Kx 183 (C6 φ):=aj (C:=[]) (O:=O4) Tryz.func183 (by kernel_rfl) fun args objs=>by
 unfold C6;split
 ·rename_i s;exact .inr fun _ hyp_=>aO (Λ:=O5 (fu s)) (by kernel_rfl) (ah (l':=[IR]) (by kernel_rfl) ⟨M_ _,trivial⟩) (by kernel_rfl) (hv s _ hyp_)
 ·exact .inl rfl
theorem cv {s:aa} (h:isM s=true):s.length≤4611686018427387904:=of_decide_eq_true h
theorem IV (l:aa) (b:Int) (hl:l.length≤4611686018427387904) (k0 k1:OR'): ∀(r:aa) (i:Int) (n:Nat),At l i r→r.length<n→kS n l b i k0 k1=bif r.any (fun c=>decide (by8 c=b))then k0 else k1:=by
 intro r;induction r with
 |nil=>intro i n h hn;obtain⟨n,rfl⟩:=bh hn;unfold kS ul;simp only [h.dge,cond_false,List.any_nil]
 |cons a r ih=>
  intro i n h hn;obtain⟨n,rfl⟩:=bh hn
  have hs:=ih (i+1) n h.step (by simp at hn;omega)
  unfold kS ul;simp only [h.dlt,h.dnn,h.str,cond_true,h.next hl,hs,List.any_cons]
  cases decide (by8 a=b)<;>rfl
def Sa (p:aa→Int→Bool):List AV→List Ob→Br
 | [.str s,.int .u8 b],[]=>.ite (isM s) (.ret (.bool (p s b)) []) .fail
 |_,_=>.fail
def cS (s:aa) (b:Int):Bool:=s.any fun c=>decide (by8 c=b)
theorem C7:Sound Kx 309 (Sa cS):=by
 refine(ID (φ:=fun s b=>.ite (isM s) (.ret (.bool (cS s b)) []) .fail) (fun s b=>s.length+1) fun s b r h=> ?_).of fun args objs r h=> ?_
 ·obtain⟨h1,h2⟩:=af h
  unfold CF
  rw [IV s b (cv h1) _ _ s 0 _ (At.start s) (by omega),←h2]
  unfold cS
  cases s.any fun c=>decide (by8 c=b)<;>rfl
 ·unfold Sa at h;split at h
  ·exact h
  ·cases h
theorem Na (s:aa) (b:Int) (h0:0≤b) (h1:b<256):(0≤Mo s b)↔cS s b=true:=by
 unfold Mo cS
 induction s with
 |nil=>simp [Go.Lib.indexByte]
 |cons a r ih=>
  have hc:(a=b.toNat.toUInt8)↔by8 a=b:=by
   unfold by8
   constructor
   ·intro h;rw [h];simp;omega
   ·intro h;rw [←h];simp
  show(0≤if(a==b.toNat.toUInt8)=true then 0 else if(Go.Lib.indexByte r b.toNat.toUInt8== -1)=true then-1 else Go.Lib.indexByte r b.toNat.toUInt8+1)↔_
  rw [List.any_cons]
  by_cases h:a=b.toNat.toUInt8
  ·rw [if_pos (beq_iff_eq.2 h),dT' (hc.1 h)];simp
  ·rw [if_neg (fun e=>h (beq_iff_eq.1 e)),dF' (fun e=>h (hc.2 e)),Bool.false_or,←ih]
   have:=Go.Lib.indexByte_ge r b.toNat.toUInt8
   split
   ·rename_i g;have:=beq_iff_eq.1 g;omega
   ·rename_i g;have: ¬Go.Lib.indexByte r b.toNat.toUInt8= -1:=fun e=>g (beq_iff_eq.2 e);omega
theorem IW (s:aa) (b:Int) (h0:0≤b) (h1:b<256):decide (0≤Mo s b)=cS s b:=by
 rw [Bool.eq_iff_iff,decide_eq_true_eq];exact Na s b h0 h1
def Nb:List AV→List Ob→Br
 | [.int .u8 b],[]=>.ite (decide (0≤b)&&decide (b<256)) (.ret (.bool (jE b)) []) .fail
 |_,_=>.fail
theorem FW:Sound Kx 255 Nb:=isTokB_ok.of fun args objs r h=>by
 unfold Nb at h;split at h
 ·rename_i b
  obtain⟨h1,h2⟩:=af h
  simp only [Bool.and_eq_true,decide_eq_true_eq]at h1
  rw [←h2]
  show(oh b).val=_
  unfold oh jE
  rw [IW _ _ h1.1 h1.2]
  unfold cS tokSet
  cases fY b<;>cases Ar b<;>cases bg b<;>cases decide (b=96)<;>simp only [Br.val,Bool.true_or,Bool.false_or]
 ·cases h
theorem O6 {l r:List Int} {i a:Int} (h:At l i (a::r)) (b:Int):At (l.set i.toNat b) i (b::r):=by
 obtain⟨p,rfl,rfl⟩:=h;exact⟨p,by simp,rfl⟩
theorem Nc {l r:List Int} {i a:Int} (h:At l i (a::r)):l.set i.toNat a=l:=by
 obtain⟨p,rfl,rfl⟩:=h;simp
theorem FX (m:Int) (k:List Int→OR'): ∀(r l:List Int) (i:Int) (n:Nat),At l i r→r.length<n→m=(l.length:Int)→l.length≤4611686018427387904→(∀b∈r,0≤b∧b<256)→
 fA n m i l k=k (l.take i.toNat++r.map eC):=by
 intro r;induction r with
 |nil=>
  intro l i n h hn hm hl hb;obtain⟨n,rfl⟩:=bh hn
  subst hm
  unfold fA mQ;simp only [h.dge,cond_false,List.map_nil]
  congr 1;exact h.take.symm
 |cons a r ih=>
  intro l i n h hn hm hl hb;obtain⟨n,rfl⟩:=bh hn
  subst hm
  have ha:=hb a (List.mem_cons_self ..)
  unfold fA mQ;simp only [h.dlt,h.dnn,h.get,cond_true,h.next hl,List.map_cons]
  have key: ∀b,fA n (l.length:Int) (i+1) (l.set i.toNat b) k=k (l.take i.toNat++b::r.map eC):=by
   intro b
   have h':=O6 h b
   rw [ih _ (i+1) n h'.step (by simp at hn;omega) (by simp) (by simpa using hl) (fun c hc=>hb c (List.mem_cons_of_mem _ hc))]
   congr 1
   obtain⟨p,rfl,rfl⟩:=h
   have e:((p.length:Int)+1).toNat=p.length+1:=by omega
   simp only [Int.toNat_natCast,iM,e]
   rw [List.take_append,List.take_append]
   simp [List.take_of_length_le]
  unfold eC
  cases hu:Ar a
  ·simp only [cond_false]
   have:=key a
   rw [Nc h]at this
   rw [this];rfl
  ·simp only [cond_true]
   unfold Ar at hu
   simp only [Bool.and_eq_true,decide_eq_true_eq]at hu
   rw [w8 (by omega) (by omega),key];rfl
theorem fC (s:aa):(bytesOf s).length=s.length:=by simp [bytesOf]
theorem ru (s:aa): ∀b∈bytesOf s,0≤b∧b<256:=by
 intro b hb
 simp only [bytesOf,List.mem_map]at hb
 obtain⟨c,_,rfl⟩:=hb
 exact⟨by omega,by have:=c.toNat_lt;omega⟩
theorem om (s:aa):(aJ s).length=s.length:=by simp [aJ,bx,bytesOf]
def mC (p:aa→AV):List AV→List Ob→Br
 | [.str s],[]=>.ite (isM s) (.ret (p s) []) .fail
 |_,_=>.fail
theorem Ud {n:Nat} {s:List AV→List Ob→Br} (hs:Sound Kx n s) {p:aa→AV} (h: ∀x,isM x=true→(s [.str x] []).val=some (p x,[])):Sound Kx n (mC p):=hs.of fun args objs r hv=>by
 unfold mC at hv
 split at hv
 ·obtain⟨h1,h2⟩:=af hv
  rw [h _ h1];exact h2
 ·cases hv
theorem FY {n:Nat} {p:aa→AV} {sOf:(aa→Br)→List AV→List Ob→Br} (hs:Sound Kx n (sOf fun s=>.ite (isM s) (.ret (p s) []) .fail)) (he: ∀f x,sOf f [.str x] []=f x):Sound Kx n (mC p):=
 Ud hs fun x hx=>by rw [he];simp only [Br.val,hx]
theorem oo:Sound Kx 171 (mC fun s=>.str (aJ s)):=by
 refine FY (FQ (fun s=>s.length+1) fun s r h=> ?_) fun _ _=>rfl
 obtain⟨h1,h2⟩:=af h
 unfold wG
 rw [FX _ _ _ _ 0 _ (At.start _) (by rw [fC];omega) rfl (by rw [fC];exact cv h1) (ru s),←h2]
 rfl
theorem FZ (k:List Int→OR'): ∀(r l:List Int) (i:Int) (n:Nat),At l i r→r.length<n→l.length≤4611686018427387904→(∀b∈r,0≤b∧b<256)→
 gD n i l k=k (l.take i.toNat++r.map eC):=by
 intro r;induction r with
 |nil=>
  intro l i n h hn hl hb;obtain⟨n,rfl⟩:=bh hn
  unfold gD mR;simp only [h.dge,cond_false,List.map_nil]
  congr 1;exact h.take.symm
 |cons a r ih=>
  intro l i n h hn hl hb;obtain⟨n,rfl⟩:=bh hn
  have ha:=hb a (List.mem_cons_self ..)
  have e0:(decide (0≤a)&&decide (a<256))=true:=by simp only [Bool.and_eq_true,decide_eq_true_eq];exact ha
  unfold gD mR;simp only [h.dlt,h.dnn,h.get,cond_true,h.next hl,List.map_cons,e0]
  have h':=O6 h (eC a)
  rw [ih _ (i+1) n h'.step (by simp at hn;omega) (by simpa using hl) (fun c hc=>hb c (List.mem_cons_of_mem _ hc))]
  congr 1
  obtain⟨p,rfl,rfl⟩:=h
  have e:((p.length:Int)+1).toNat=p.length+1:=by omega
  simp only [Int.toNat_natCast,iM,e]
  rw [List.take_append,List.take_append]
  simp [List.take_of_length_le]
theorem jG:Sound Kx 157 (mC fun s=>.str (aJ s)):=by
 refine FY (FR (fun s=>s.length+1) fun s r h=> ?_) fun _ _=>rfl
 obtain⟨h1,h2⟩:=af h
 unfold wI
 rw [FZ _ _ _ 0 _ (At.start _) (by rw [fC];omega) (by rw [fC];exact cv h1) (ru s),←h2]
 rfl
theorem UY (a:UInt8) (r:aa):cut (a::r) 1 (((a::r).length:Nat):Int)=r:=by simp [cut]
theorem AB (k:aa→OR'): ∀(s:aa) (n:Nat),s.length<n→gE n s k=k (iP s):=by
 intro s;induction s with
 |nil=>intro n hn;obtain⟨n,rfl⟩:=bh hn;unfold gE mS;rfl
 |cons a r ih=>
  intro n hn;obtain⟨n,rfl⟩:=bh hn
  have e1:decide (a::r=([]:aa))=false:=rfl
  have e2:decide ((0:Int)< (((a::r).length:Nat):Int))=true:=dT' (by simp only [List.length_cons];omega)
  have e3:decide ((1:Int)≤(((a::r).length:Nat):Int))=true:=dT' (by simp only [List.length_cons];omega)
  have e4:au (a::r) 0=by8 a:=rfl
  unfold gE mS
  simp only [e1,e2,e3,e4,Bool.not_false,cond_true,UY]
  rw [ih n (by simp at hn;omega)]
  unfold iP
  rw [List.dropWhile_cons]
  show(bif sp8 a then _ else _)=_
  cases sp8 a<;>rfl
theorem AC (k:aa→OR'): ∀(q:aa) (n:Nat),q.length<n→q.length≤4611686018427387904→gF n q.reverse k=k (kQ q.reverse):=by
 intro q;induction q with
 |nil=>intro n hn _;obtain⟨n,rfl⟩:=bh hn;unfold gF mT;rfl
 |cons a q ih=>
  intro n hn hl;obtain⟨n,rfl⟩:=bh hn
  have e1:decide ((a::q).reverse=([]:aa))=false:=dF' (by simp)
  have e0:ac ((((a::q).reverse.length:Nat):Int)-1)=(q.length:Int):=by rw [w64 (by simp only [List.length_reverse,List.length_cons];omega) (by simp only [List.length_reverse,List.length_cons]at hl⊢;omega)];simp
  have e2:decide ((0:Int)≤(q.length:Int))=true:=by simp
  have e3:decide ((q.length:Int)< (((a::q).reverse.length:Nat):Int))=true:=dT' (by simp only [List.length_reverse,List.length_cons];omega)
  have e5:decide ((q.length:Int)≤(((a::q).reverse.length:Nat):Int))=true:=dT' (by simp only [List.length_reverse,List.length_cons];omega)
  have e4:au (a::q).reverse (q.length:Int)=by8 a:=by simp [au,by8,List.getD_eq_getElem?_getD]
  have e6:cut (a::q).reverse 0 (q.length:Int)=q.reverse:=by simp [cut]
  unfold gF mT
  simp only [e0,e1,e2,e3,e4,e5,e6,Bool.not_false,cond_true]
  rw [ih n (by simp at hn;omega) (by simp at hl;omega)]
  unfold kQ
  rw [List.reverse_reverse,List.reverse_reverse,List.dropWhile_cons]
  show(bif sp8 a then _ else _)=_
  cases sp8 a<;>simp
theorem wX (s:aa):(iP s).length≤s.length:=List.Sublist.length_le (List.dropWhile_sublist _)
theorem IX (s:aa):(kQ s).length≤s.length:=by
 unfold kQ;rw [List.length_reverse];exact Nat.le_trans (List.Sublist.length_le (List.dropWhile_sublist _)) (by simp)
theorem oq:Sound Kx 193 (mC fun s=>.str (bH s)):=by
 refine FY (FS (fun s=>s.length+1) fun s r h=> ?_) fun _ _=>rfl
 obtain⟨h1,h2⟩:=af h
 unfold wK
 have hl:=wX s
 have:=cv h1
 rw [AB _ s _ (by omega)]
 have:=AC (fun aQ=>some (AV.str aQ,([]:List Ob))) (iP s).reverse (s.length+1) (by simp;omega) (by simp;omega)
 rw [List.reverse_reverse]at this
 rw [this,←h2]
 rfl
theorem AD (l:aa) (hl:l.length≤4611686018427387904) (k:aa→Int→OR'): ∀(r:aa) (i:Int) (n:Nat),At l i r→r.length<n→ ∃j,At l j (iP r)∧gG n l i k=k l j:=by
 intro r;induction r with
 |nil=>intro i n h hn;obtain⟨n,rfl⟩:=bh hn;refine⟨i,h, ?_⟩;unfold gG mU;simp only [h.dge,cond_false]
 |cons a r ih=>
  intro i n h hn;obtain⟨n,rfl⟩:=bh hn
  obtain⟨j,hj,hs⟩:=ih (i+1) n h.step (by simp at hn;omega)
  unfold iP
  rw [List.dropWhile_cons]
  unfold gG mU
  simp only [h.dlt,h.dnn,h.str,cond_true,h.next hl,hs]
  have e:O1 (by8 a)=sp8 a:=rfl
  rw [e]
  cases sp8 a
  ·exact⟨i,h,rfl⟩
  ·exact⟨j,hj,rfl⟩
theorem AE (l p:aa) (hl:l.length≤4611686018427387904) (k:aa→Int→Int→OR'): ∀(q t:aa) (n:Nat),l=p++q.reverse++t→q.length<n→fB n l (p.length:Int) ((p.length:Int)+q.length) k=k l (p.length:Int) ((p.length:Int)+(kQ q.reverse).length):=by
 intro q;induction q with
 |nil=>
  intro t n h hn;obtain⟨n,rfl⟩:=bh hn
  have e:decide ((p.length:Int)< (p.length:Int)+(([]:aa).length:Int))=false:=by simp
  unfold fB mV;simp only [e,cond_false];rfl
 |cons a q ih=>
  intro t n h hn;obtain⟨n,rfl⟩:=bh hn
  have hlen:l.length=p.length+q.length+1+t.length:=by rw [h];simp;omega
  have e1:decide ((p.length:Int)< (p.length:Int)+(((a::q).length:Nat):Int))=true:=by simp;omega
  have e0:ac ((p.length:Int)+(((a::q).length:Nat):Int)-1)=(p.length:Int)+q.length:=by rw [w64 (by simp;omega) (by simp;omega)];simp;omega
  have e2:decide ((0:Int)≤(p.length:Int)+q.length)=true:=by simp;omega
  have e3:decide ((p.length:Int)+q.length< (l.length:Int))=true:=by rw [hlen];simp;omega
  have e4:au l ((p.length:Int)+q.length)=by8 a:=by
   have e5:((p.length:Int)+(q.length:Int)).toNat=(p++q.reverse).length:=by simp;omega
   unfold au by8
   rw [e5,h]
   have:p++(a::q).reverse++t=(p++q.reverse)++a::t:=by simp
   rw [this,Cy]
  unfold fB mV
  simp only [e0,e1,e2,e3,e4,cond_true]
  rw [ih (a::t) n (by rw [h];simp) (by simp at hn;omega)]
  unfold kQ
  rw [List.reverse_reverse,List.reverse_reverse,List.dropWhile_cons]
  show(bif sp8 a then _ else _)=_
  cases sp8 a<;>simp
theorem ot (p m t:aa):cut (p++m++t) (p.length:Int) ((p.length:Int)+m.length)=m:=by
 unfold cut
 have e1:((p.length:Int)+(m.length:Int)).toNat=p.length+m.length:=by omega
 rw [e1,Int.toNat_natCast,List.append_assoc,List.take_append,List.drop_append]
 simp
theorem IY (s:aa): ∃t,s=kQ s++t:=by
 refine⟨(s.reverse.takeWhile sp8).reverse, ?_⟩
 unfold kQ
 rw [←List.reverse_append,List.takeWhile_append_dropWhile,List.reverse_reverse]
theorem wY:Sound Kx 182 (mC fun s=>.str (bH s)):=by
 refine FY (FT (fun s=>s.length+1) fun s r h=> ?_) fun _ _=>rfl
 obtain⟨h1,h2⟩:=af h
 have hl:=cv h1
 unfold wM
 obtain⟨j,⟨p,hp,rfl⟩,hs⟩:=AD s hl (fun bP eU=>fB (s.length+1) bP eU ((List.length bP):Int) (fun am b6 dt=>bif decide ((0:Int)≤b6)then(bif decide (b6≤dt)then(bif decide (dt≤((List.length am):Int))then some (AV.str (cut am b6 dt),([]:List Ob))else none)else none)else none)) s 0 (s.length+1) (At.start s) (by omega)
 rw [hs]
 have hlen:(s.length:Int)=(p.length:Int)+((iP s).reverse.length:Int):=by
  have:=congrArg List.length hp
  simp only [List.length_append]at this
  rw [List.length_reverse];omega
 have hle:=wX s
 rw [hlen,AE s p hl _ (iP s).reverse [] _ (by simpa using hp) (by simp;omega),List.reverse_reverse]
 obtain⟨t,ht⟩:=IY (iP s)
 have hc:=ot p (kQ (iP s)) t
 rw [List.append_assoc,←ht,←hp]at hc
 have hr:=IX (iP s)
 have e1:decide ((0:Int)≤(p.length:Int))=true:=by simp
 have e2:decide ((p.length:Int)≤(p.length:Int)+((kQ (iP s)).length:Int))=true:=dT' (by omega)
 have e3:decide ((p.length:Int)+((kQ (iP s)).length:Int)≤(s.length:Int))=true:=by rw [hlen];simp;omega
 simp only [e1,e2,e3,cond_true,hc]
 rw [←h2];rfl
theorem AF (l:aa) (hl:l.length≤4611686018427387904) (k0 k1:OR'): ∀(r:aa) (i:Int) (n:Nat),At l i r→r.length<n→eE n l i k0 k1=bif bb b8 r then k1 else k0:=by
 intro r;induction r with
 |nil=>intro i n h hn;obtain⟨n,rfl⟩:=bh hn;unfold eE jF;simp only [h.dge,cond_false,bb,List.all_nil,cond_true]
 |cons a r ih=>
  intro i n h hn;obtain⟨n,rfl⟩:=bh hn
  have hs:=ih (i+1) n h.step (by simp at hn;omega)
  unfold eE jF;simp only [h.dlt,h.dnn,h.str,cond_true,h.next hl,hs,bb,List.all_cons]
  cases b8 (by8 a)<;>rfl
def Nd:=kT fun s=>.ite (isM s) (.ret (.bool (bb b8 s)) []) .fail
theorem gJ:Sound Kx 191 Nd:=by
 refine Az (fun s=>s.length+1) fun s r h=> ?_
 obtain⟨h1,h2⟩:=af h
 unfold rp
 rw [AF s (cv h1) _ _ s 0 _ (At.start s) (by omega),←h2]
 cases bb b8 s<;>rfl
theorem F1 (l:aa) (hl:l.length≤4611686018427387904) (k0 k1:OR'): ∀(r:aa) (i:Int) (n:Nat),At l i r→r.length<n→gH n l i k0 k1=bif bb oe r then k1 else k0:=by
 intro r;induction r with
 |nil=>intro i n h hn;obtain⟨n,rfl⟩:=bh hn;unfold gH mW;simp only [h.dge,cond_false,bb,List.all_nil,cond_true]
 |cons a r ih=>
  intro i n h hn;obtain⟨n,rfl⟩:=bh hn
  have hs:=ih (i+1) n h.step (by simp at hn;omega)
  unfold gH mW;simp only [h.dlt,h.dnn,h.str,cond_true,h.next hl,hs,bb,List.all_cons]
  cases oe (by8 a)<;>rfl
def Qs:=oi fun s=>.ite (isM s) (.ret (.bool (bb oe s)) []) .fail
theorem wZ:Sound Kx 191 Qs:=by
 refine FV (fun s=>s.length+1) fun s r h=> ?_
 obtain⟨h1,h2⟩:=af h
 unfold wT
 rw [F1 s (cv h1) _ _ s 0 _ (At.start s) (by omega),←h2]
 cases bb oe s<;>rfl
theorem w5 (l:aa) (hl:l.length≤4611686018427387904) (k0 k1:OR'): ∀(r:aa) (i:Int) (n:Nat),At l i r→r.length<n→dG n l i k0 k1=bif bb oe r then k1 else k0:=by
 intro r;induction r with
 |nil=>intro i n h hn;obtain⟨n,rfl⟩:=bh hn;unfold dG gI;simp only [h.dge,cond_false,bb,List.all_nil,cond_true]
 |cons a r ih=>
  intro i n h hn;obtain⟨n,rfl⟩:=bh hn
  have hs:=ih (i+1) n h.step (by simp at hn;omega)
  unfold dG gI;simp only [h.dlt,h.dnn,h.str,cond_true,h.next hl,hs,bb,List.all_cons]
  cases oe (by8 a)<;>rfl
theorem ou:Sound Kx 181 (mC fun s=>.bool (bb oe s)):=by
 refine FY (wW (fun s=>s.length+1) fun s r h=> ?_) fun _ _=>rfl
 obtain⟨h1,h2⟩:=af h
 unfold oj
 rw [w5 s (cv h1) _ _ s 0 _ (At.start s) (by omega),←h2]
 cases bb oe s<;>rfl
theorem IZ (l:aa) (hl:l.length≤4611686018427387904) (k0 k1:aa→OR'): ∀(r:aa) (i:Int) (n:Nat),At l i r→r.length<n→kU n l i k0 k1=bif bb b8 r then k1 l else k0 l:=by
 intro r;induction r with
 |nil=>intro i n h hn;obtain⟨n,rfl⟩:=bh hn;unfold kU um;simp only [h.dge,cond_false,bb,List.all_nil,cond_true]
 |cons a r ih=>
  intro i n h hn;obtain⟨n,rfl⟩:=bh hn
  have hs:=ih (i+1) n h.step (by simp at hn;omega)
  unfold kU um;simp only [h.dlt,h.dnn,h.str,cond_true,h.next hl,hs,bb,List.all_cons,b8]
  by_cases g1:by8 a<33<;>by_cases g2:126<by8 a
  ·have e1: ¬33≤by8 a:=by omega
   simp only [g1,e1,decide_true,decide_false,cond_true,Bool.false_and,cond_false]
  ·have e1: ¬33≤by8 a:=by omega
   simp only [g1,e1,decide_true,decide_false,cond_true,Bool.false_and,cond_false]
  ·have e1:33≤by8 a:=by omega
   have e2: ¬by8 a≤126:=by omega
   simp only [g1,g2,e1,e2,decide_true,decide_false,cond_true,Bool.false_and,Bool.and_false,cond_false]
  ·have e1:33≤by8 a:=by omega
   have e2:by8 a≤126:=by omega
   simp only [g1,g2,e1,e2,decide_true,decide_false,cond_true,Bool.true_and,cond_false]
theorem mX:Sound Kx 183 (mC fun s=>.bool (bb b8 s&&decide ((0:Int)< (s.length:Int)))):=by
 refine FY (IU (fun s=>s.length+1) fun s r h=> ?_) fun _ _=>rfl
 obtain⟨h1,h2⟩:=af h
 unfold C5
 rw [IZ s (cv h1) _ _ s 0 _ (At.start s) (by omega),←h2]
 cases bb b8 s<;>rfl
def Nf:SC:=[⟨310,_,iN⟩,⟨238,_,iO⟩,⟨311,_,fy⟩]
def ov (b:Int):Br:=(Br.ite (fY b) (Br.ret (AV.bool true) []) (Br.ite (Ar b) (Br.ret (AV.bool true) []) (Br.ite (bg b) (Br.ret (AV.bool true) []) (Br.ite (decide (b=45)) (Br.ret (AV.bool true) []) (Br.ite (decide (b=46)) (Br.ret (AV.bool true) []) (Br.ite (decide (b=95)) (Br.ret (AV.bool true) []) (Br.ret (AV.bool (decide (b=126))) [])))))))
def C8:List AV→List Ob→Br
 | [.int .u8 b],[]=>ov b
 |_,_=>.fail
theorem I0:Sound Kx 341 C8:=ae (C:=Nf) (O:=O0) Tryz.func341 (by kernel_rfl) fun args objs=>by
 unfold C8;split
 ·exact .inr (by kernel_rfl)
 ·exact .inl rfl
def Qt:SC:=[⟨311,_,fy⟩]
def uo (b:Int):Br:=(Br.ite (bg b) (Br.ret (AV.int .i64 (ac (wk8 (b-48)))) []) (Br.ite (decide (97≤b)) (Br.ite (decide (b≤102)) (Br.ret (AV.int .i64 (ac ((ac (wk8 (b-97)))+10))) []) (Br.ite (decide (65≤b)) (Br.ite (decide (b≤70)) (Br.ret (AV.int .i64 (ac ((ac (wk8 (b-65)))+10))) []) (Br.ret (AV.int .i64 (-1)) [])) (Br.ret (AV.int .i64 (-1)) []))) (Br.ite (decide (65≤b)) (Br.ite (decide (b≤70)) (Br.ret (AV.int .i64 (ac ((ac (wk8 (b-65)))+10))) []) (Br.ret (AV.int .i64 (-1)) [])) (Br.ret (AV.int .i64 (-1)) []))))
def I1:List AV→List Ob→Br
 | [.int .u8 b],[]=>uo b
 |_,_=>.fail
theorem hexOf_ok:Sound Kx 333 I1:=ae (C:=Qt) (O:=O0) Tryz.func333 (by kernel_rfl) fun args objs=>by
 unfold I1;split
 ·exact .inr (by kernel_rfl)
 ·exact .inl rfl
def Qu:SC:=[⟨212,_,gC⟩,⟨263,_,eD⟩,⟨309,_,C7⟩]
def uq (b:Int):Br:=(Br.ite ((decide (0≤b))&&(decide (b<256))) (Br.ite (decide (97≤(eC b))) (Br.ite (decide ((eC b)≤122)) (Br.ret (AV.bool true) []) (Br.ite (bg b) (Br.ret (AV.bool true) []) (Br.ret (AV.bool (cS ([45,46,95,126]:aa) b)) []))) (Br.ite (bg b) (Br.ret (AV.bool true) []) (Br.ret (AV.bool (cS ([45,46,95,126]:aa) b)) []))) Br.fail)
def I2:List AV→List Ob→Br
 | [.int .u8 b],[]=>uq b
 |_,_=>.fail
theorem sfree_ok:Sound Kx 328 I2:=ae (C:=Qu) (O:=O0) Tryz.func328 (by kernel_rfl) fun args objs=>by
 unfold I2;split
 ·exact .inr (by kernel_rfl)
 ·exact .inl rfl
def ow (b:Int):Br:=(Br.ite (decide (97≤b)) (Br.ite (decide (b≤122)) (Br.ret (AV.int .u8 (wk8 (b-32))) []) (Br.ret (AV.int .u8 b) [])) (Br.ret (AV.int .u8 b) []))
def C9:List AV→List Ob→Br
 | [.int .u8 b],[]=>ow b
 |_,_=>.fail
theorem supper_ok:Sound Kx 329 C9:=ae (C:=[]) (O:=O0) Tryz.func329 (by kernel_rfl) fun args objs=>by
 unfold C9;split
 ·exact .inr (by kernel_rfl)
 ·exact .inl rfl
def Qv:SC:=[⟨310,_,iN⟩,⟨311,_,fy⟩]
def ut (b:Int):Br:=(Br.ite (fY b) (Br.ret (AV.bool true) []) (Br.ite (bg b) (Br.ret (AV.bool true) []) (Br.ite (decide (b=45)) (Br.ret (AV.bool true) []) (Br.ret (AV.bool (decide (b=46))) []))))
def I3:List AV→List Ob→Br
 | [.int .u8 b],[]=>ut b
 |_,_=>.fail
theorem Ng:Sound Kx 342 I3:=ae (C:=Qv) (O:=O0) Tryz.func342 (by kernel_rfl) fun args objs=>by
 unfold I3;split
 ·exact .inr (by kernel_rfl)
 ·exact .inl rfl
def rv:Opt:={live:=[(5,[0,4,5])],outs:=[(5,[2,3,4])]}
def sReadHex_C:SC:=[⟨212,_,gC⟩,⟨263,_,eD⟩]
def fD (aI:aa) (aU aH:Int) (U8:aa→Int→Int→OR') (cJ ku:Int→OR'):OR':=
 (bif(decide (aH< (aI.length:Int)))then(bif(decide (0≤aH))then(bif(decide (aH< (aI.length:Int)))then(bif((decide (0≤(au aI aH)))&&(decide ((au aI aH)<256)))then(bif(bg (eC (au aI aH)))then(U8 aI (ac ((ac (aU*16))+(ac (wk8 ((eC (au aI aH))-48))))) (ac (aH+1)))else(bif(decide (97≤(eC (au aI aH))))then(bif(decide ((eC (au aI aH))≤102))then(U8 aI (ac ((ac ((ac (aU*16))+(ac (wk8 ((eC (au aI aH))-97)))))+10)) (ac (aH+1)))else(cJ aU))else(cJ aU)))else(none))else(none))else(none))else(ku aU))
def cB:Nat→aa→Int→Int→(Int→OR')→(Int→OR')→OR'
 |0,_,_,_,_,_=>none
 |n+1,aI,aU,aH,cJ,ku=>fD aI aU aH (fun aI aU aH=>cB n aI aU aH cJ ku) cJ ku
abbrev sReadHex_p5:SP:=⟨49,[0,4,5],[(.v .s),(.v (.i .i64)),(.v (.i .i64))],[]⟩
noncomputable def ox:Code:=ax (aD Tryz.f327) [1,1,1,0,1,0,0]
def oy (f:(Int→OR')→(Int→OR')→OR') (k:KT):OR':=f (fun am=>k Ex.ret ((St.mk (aw 0 49 [(2,(AV.int .i64 0)),(3,(AV.bool false)),(4,(AV.int .i64 am))]) ([]:(List (Nat×(Ob))))))) (fun dW=>k (Ex.exit 0) ((St.mk (aw 0 49 [(4,(AV.int .i64 dW))]) ([]:(List (Nat×(Ob)))))))
def oz (n:Nat) (d:sReadHex_p5.D):KT→OR':=oy (cB n d.1.1 d.1.2.1 d.1.2.2.1)
def rx (N:Nat):Lam:=bf [⟨5,sReadHex_p5,oz N⟩]
theorem w6 (N:Nat):OkL Kx sReadHex_C.s rv 0 N (rx N) ox:=okL sReadHex_p5 (oz) (fun d kR=>oy (fD d.1.1 d.1.2.1 d.1.2.2.1 (fun aI aU aH=>kR ((aI,aU,aH,()),())))) (fun _ _=>by kernel_rfl) (fun _ _ _=>by kernel_rfl) (fun _ _=>by kernel_rfl) (fun _ _ _ _=>by kernel_rfl) (ah (l':=[]) (by kernel_rfl) trivial)
def lB (N:Nat) (s:aa):OR':=(bif(decide ((s.length:Int)=0))then(some ((AV.tup ((AV.int .i64 0)::((AV.bool false)::[]))),[]))else(bif(decide (7< (s.length:Int)))then(some ((AV.tup ((AV.int .i64 0)::((AV.bool false)::[]))),[]))else(cB N s 0 0 (fun am=>(some ((AV.tup ((AV.int .i64 0)::((AV.bool false)::[]))),[]))) (fun dW=>(some ((AV.tup ((AV.int .i64 dW)::((AV.bool true)::[]))),[]))))))
def lC (φ:aa→Br):List AV→List Ob→Br
 | [.str s],[]=>φ s
 |_,_=>.fail
theorem uu {φ:aa→Br} (fu:aa→Nat) (hv: ∀s res_,(φ s).val=some res_→lB (fu s) s=some res_):Sound Kx 327 (lC φ):=aj (C:=sReadHex_C) (O:=rv) Tryz.func327 (by kernel_rfl) fun args objs=>by
 unfold lC;split
 ·rename_i s;exact .inr fun _ hyp_=>aO (Λ:=rx (fu s)) (by kernel_rfl) (ah (l':=[ox]) (by kernel_rfl) ⟨w6 _,trivial⟩) (by kernel_rfl) (hv s _ hyp_)
 ·exact .inl rfl
def C_:Opt:={live:=[(4,[0,1,5,6,7])],outs:=[(4,[4,5])]}
def jH (ar:aa) (aE ay cx:Int) (fe:(List aa)) (U9:aa→Int→Int→Int→(List aa)→OR') (bQ:(List aa)→OR'):OR':=
 (bif(decide (cx≤(ar.length:Int)))then(bif(decide (cx=(ar.length:Int)))then(bif(decide (0≤ay))then(bif(decide (ay≤cx))then(bif(decide (cx≤(ar.length:Int)))then(bif(decide (((fe.length+(List.length (List.set (List.replicate 1 ([]:aa)) 0 (cut ar ay cx))))*16)≤140737488355328))then(U9 ar aE (ac (cx+1)) (ac (cx+1)) (fe++(List.set (List.replicate 1 ([]:aa)) 0 (cut ar ay cx))))else(none))else(none))else(none))else(none))else(bif(decide (0≤cx))then(bif(decide (cx< (ar.length:Int)))then(bif(decide ((au ar cx)=aE))then(bif(decide (0≤ay))then(bif(decide (ay≤cx))then(bif(decide (cx≤(ar.length:Int)))then(bif(decide (((fe.length+(List.length (List.set (List.replicate 1 ([]:aa)) 0 (cut ar ay cx))))*16)≤140737488355328))then(U9 ar aE (ac (cx+1)) (ac (cx+1)) (fe++(List.set (List.replicate 1 ([]:aa)) 0 (cut ar ay cx))))else(none))else(none))else(none))else(none))else(U9 ar aE ay (ac (cx+1)) fe))else(none))else(none)))else(bQ fe))
def dR:Nat→aa→Int→Int→Int→(List aa)→((List aa)→OR')→OR'
 |0,_,_,_,_,_,_=>none
 |n+1,ar,aE,ay,cx,fe,bQ=>jH ar aE ay cx fe (fun ar aE ay cx fe=>dR n ar aE ay cx fe bQ) bQ
abbrev ssplit_p4:SP:=⟨35,[0,1,5,6,7],[(.v .s),(.v (.i .u8)),(.v (.ref 384 0)),(.v (.i .i64)),(.v (.i .i64))],[(384,.arr Ty.str 0 false)]⟩
noncomputable def w7:Code:=ax (aD Tryz.f264) [1,1,1,0,1,0,0]
def w9 (f:((List aa)→OR')→OR') (k:KT):OR':=f (fun bN=>k (Ex.exit 0) ((St.mk (aw 0 35 [(5,(AV.ref 384 0))]) ((384,(Ob.arr Ty.str 0 false bN))::([]:(List (Nat×(Ob))))))))
def w_ (n:Nat) (d:ssplit_p4.D):KT→OR':=w9 (dR n d.1.1 d.1.2.1 d.1.2.2.2.1 d.1.2.2.2.2.1 d.2.1)
def Da (N:Nat):Lam:=bf [⟨4,ssplit_p4,w_ N⟩]
theorem F2 (N:Nat):OkL Kx noS C_ 0 N (Da N) w7:=okL ssplit_p4 (w_) (fun d kR=>w9 (jH d.1.1 d.1.2.1 d.1.2.2.2.1 d.1.2.2.2.2.1 d.2.1 (fun ar aE ay cx fe=>kR ((ar,aE,(),ay,cx,()),(fe,()))))) (fun _ _=>by kernel_rfl) (fun _ _ _=>by kernel_rfl) (fun _ _=>by kernel_rfl) (fun _ _ _ _=>by kernel_rfl) (ah (l':=[]) (by kernel_rfl) trivial)
def ry (N:Nat) (s:aa) (b:Int):OR':=(dR N s b 0 0 ([]:(List aa)) (fun bN=>(some ((AV.ref 0 0),((Ob.arr Ty.str 0 false bN)::[])))))
def rz (φ:aa→Int→Br):List AV→List Ob→Br
 | [.str s,.int .u8 b],[]=>φ s b
 |_,_=>.fail
theorem AG {φ:aa→Int→Br} (fu:aa→Int→Nat) (hv: ∀s b res_,(φ s b).val=some res_→ry (fu s b) s b=some res_):Sound Kx 264 (rz φ):=aj (C:=[]) (O:=C_) Tryz.func264 (by kernel_rfl) fun args objs=>by
 unfold rz;split
 ·rename_i s b;exact .inr fun _ hyp_=>aO (Λ:=Da (fu s b)) (by kernel_rfl) (ah (l':=[w7]) (by kernel_rfl) ⟨F2 _,trivial⟩) (by kernel_rfl) (hv s b _ hyp_)
 ·exact .inl rfl
def Sb (s p:aa):Br:=(Br.ite (decide ((p.length:Int)≤(s.length:Int))) (Br.ite (decide (0≤(p.length:Int))) (Br.ite (decide ((p.length:Int)≤(s.length:Int))) (Br.ret (AV.bool (decide ((cut s 0 (p.length:Int))=p))) []) Br.fail) Br.fail) (Br.ret (AV.bool false) []))
def Sc:List AV→List Ob→Br
 | [.str s,.str p],[]=>Sb s p
 |_,_=>.fail
theorem Sd:Sound Kx 293 Sc:=ae (C:=[]) (O:=O0) Tryz.func293 (by kernel_rfl) fun args objs=>by
 unfold Sc;split
 ·exact .inr (by kernel_rfl)
 ·exact .inl rfl
def Ue:SC:=[⟨293,_,Sd⟩]
def Se (s p:aa):Br:=(Br.ite (decide ((p.length:Int)≤(s.length:Int))) (Br.ite (decide (0≤(p.length:Int))) (Br.ite (decide ((p.length:Int)≤(s.length:Int))) (Br.ret (AV.bool (decide ((cut s 0 (p.length:Int))=p))) []) Br.fail) Br.fail) (Br.ret (AV.bool false) []))
def Sf:List AV→List Ob→Br
 | [.str s,.str p],[]=>Se s p
 |_,_=>.fail
theorem Sg:Sound Kx 230 Sf:=ae (C:=Ue) (O:=O0) Tryz.func230 (by kernel_rfl) fun args objs=>by
 unfold Sf;split
 ·exact .inr (by kernel_rfl)
 ·exact .inl rfl
def Nh:SC:=[⟨212,_,gC⟩,⟨263,_,eD⟩,⟨309,_,C7⟩]
def oA (b:Int):Br:=(Br.ite ((decide (0≤b))&&(decide (b<256))) (Br.ite (decide (97≤(eC b))) (Br.ite (decide ((eC b)≤122)) (Br.ret (AV.bool true) []) (Br.ite (bg b) (Br.ret (AV.bool true) []) (Br.ite (decide (b=96)) (Br.ret (AV.bool true) []) (Br.ret (AV.bool (cS ([33,35,36,37,38,39,42,43,45,46,94,95,124,126]:aa) b)) [])))) (Br.ite (bg b) (Br.ret (AV.bool true) []) (Br.ite (decide (b=96)) (Br.ret (AV.bool true) []) (Br.ret (AV.bool (cS ([33,35,36,37,38,39,42,43,45,46,94,95,124,126]:aa) b)) [])))) Br.fail)
def Db:List AV→List Ob→Br
 | [.int .u8 b],[]=>oA b
 |_,_=>.fail
theorem stchar_ok:Sound Kx 252 Db:=ae (C:=Nh) (O:=O0) Tryz.func252 (by kernel_rfl) fun args objs=>by
 unfold Db;split
 ·exact .inr (by kernel_rfl)
 ·exact .inl rfl
def Dc:Opt:={live:=[(2,[0,1,5])],outs:=[(2,[4])]}
def allTok_C:SC:=[⟨255,_,FW⟩]
def jI (an:aa) (aq:Int) (U5:aa→Int→OR') (bK cA:OR'):OR':=
 (bif(decide (aq< (an.length:Int)))then(bif(decide (0≤aq))then(bif(decide (aq< (an.length:Int)))then(bif((decide (0≤(au an aq)))&&(decide ((au an aq)<256)))then(bif(!(jE (au an aq)))then bK else(U5 an (ac (aq+1))))else(none))else(none))else(none))else cA)
def eG:Nat→aa→Int→(OR')→(OR')→OR'
 |0,_,_,_,_=>none
 |n+1,an,aq,bK,cA=>jI an aq (fun an aq=>eG n an aq bK cA) bK cA
abbrev allTok_p2:SP:=⟨18,[0,1,5],[(.v .s),(.v (.fn 255 [])),(.v (.i .i64))],[]⟩
noncomputable def xc:Code:=ax (aD Tryz.f191) [1,0,1,0,0]
def xd (f:(OR')→(OR')→OR') (k:KT):OR':=f (k Ex.ret ((St.mk (aw 0 18 [(4,(AV.bool false))]) ([]:(List (Nat×(Ob))))))) (k (Ex.exit 0) ((St.mk (aw 0 18 []) ([]:(List (Nat×(Ob)))))))
def xe (n:Nat) (d:allTok_p2.D):KT→OR':=xd (eG n d.1.1 d.1.2.2.1)
def Dd (N:Nat):Lam:=bf [⟨2,allTok_p2,xe N⟩]
theorem F3 (N:Nat):OkL Kx allTok_C.s Dc 0 N (Dd N) xc:=okL allTok_p2 (xe) (fun d kR=>xd (jI d.1.1 d.1.2.2.1 (fun an aq=>kR ((an,(),aq,()),())))) (fun _ _=>by kernel_rfl) (fun _ _ _=>by kernel_rfl) (fun _ _=>by kernel_rfl) (fun _ _ _ _=>by kernel_rfl) (ah (l':=[]) (by kernel_rfl) trivial)
def rA (N:Nat) (s:aa):OR':=(eG N s 0 (some ((AV.bool false),[])) (some ((AV.bool true),[])))
def kV (φ:aa→Br):List AV→List Ob→Br
 | [.str s,.fn 255 []],[]=>φ s
 |_,_=>.fail
theorem AH {φ:aa→Br} (fu:aa→Nat) (hv: ∀s res_,(φ s).val=some res_→rA (fu s) s=some res_):Sound Kx 191 (kV φ):=aj (C:=allTok_C) (O:=Dc) Tryz.func191 (by kernel_rfl) fun args objs=>by
 unfold kV;split
 ·rename_i s;exact .inr fun _ hyp_=>aO (Λ:=Dd (fu s)) (by kernel_rfl) (ah (l':=[xc]) (by kernel_rfl) ⟨F3 _,trivial⟩) (by kernel_rfl) (hv s _ hyp_)
 ·exact .inl rfl
def Qw:SC:=[⟨171,_,oo⟩]
def uv (s t:aa):Br:=(Br.ite (isM s) (Br.ite (isM t) (Br.ret (AV.bool (decide ((aJ s)=(aJ t)))) []) Br.fail) Br.fail)
def I4:List AV→List Ob→Br
 | [.str s,.str t],[]=>uv s t
 |_,_=>.fail
theorem isame_ok:Sound Kx 229 I4:=ae (C:=Qw) (O:=O0) Tryz.func229 (by kernel_rfl) fun args objs=>by
 unfold I4;split
 ·exact .inr (by kernel_rfl)
 ·exact .inl rfl
def Qx:SC:=[⟨157,_,jG⟩]
def uw (s t:aa):Br:=(Br.ite (isM s) (Br.ite (isM t) (Br.ret (AV.bool (decide ((aJ s)=(aJ t)))) []) Br.fail) Br.fail)
def I5:List AV→List Ob→Br
 | [.str s,.str t],[]=>uw s t
 |_,_=>.fail
theorem ssame_ok:Sound Kx 209 I5:=ae (C:=Qx) (O:=O0) Tryz.func209 (by kernel_rfl) fun args objs=>by
 unfold I5;split
 ·exact .inr (by kernel_rfl)
 ·exact .inl rfl
def F4:SC:=[⟨191,_,wZ⟩]
def iQ (s:aa):Br:=(Br.ite (decide ((s.length:Int)≤40)) (Br.ite (isM s) (Br.ret (AV.bool (bb oe s)) []) Br.fail) (Br.ret (AV.bool false) []))
def rB:List AV→List Ob→Br
 | [.str s],[]=>iQ s
 |_,_=>.fail
theorem AI:Sound Kx 139 rB:=ae (C:=F4) (O:=O0) Tryz.func139 (by kernel_rfl) fun args objs=>by
 unfold rB;split
 ·exact .inr (by kernel_rfl)
 ·exact .inl rfl
def F5:SC:=[⟨124,_,cm⟩,⟨191,_,gJ⟩]
def iR (s:aa):Br:=(Br.ite (decide (1≤(s.length:Int))) (Br.ite (decide ((s.length:Int)≤200)) (Br.ite (isM s) (Br.ret (AV.bool (bb b8 s)) []) Br.fail) (Br.ret (AV.bool false) [])) (Br.ret (AV.bool false) []))
def rC:List AV→List Ob→Br
 | [.str s],[]=>iR s
 |_,_=>.fail
theorem AJ:Sound Kx 137 rC:=ae (C:=F5) (O:=O0) Tryz.func137 (by kernel_rfl) fun args objs=>by
 unfold rC;split
 ·exact .inr (by kernel_rfl)
 ·exact .inl rfl
theorem F6:Sound Kx 252 Nb:=stchar_ok.of fun args objs r h=>by
 unfold Nb at h;split at h
 ·rename_i b
  obtain⟨h1,h2⟩:=af h
  have h3:=h1
  simp only [Bool.and_eq_true,decide_eq_true_eq]at h3
  rw [←h2]
  show(oA b).val=_
  unfold oA jE fY
  have hm:isM ((33:UInt8)::35::36::37::38::39::42::43::45::46::94::95::124::126::[])=true:=by decide
  have hh:cS ((33:UInt8)::35::36::37::38::39::42::43::45::46::94::95::124::126::[]) b=tokSet.any fun c=>decide (by8 c=b):=rfl
  simp only [Br.val,h1,hm,hh]
  unfold eC Ar
  by_cases g1:65≤b<;>by_cases g2:b≤90<;>by_cases g3:97≤b<;>by_cases g4:b≤122<;>first|(exfalso;omega)|skip
  all_goals simp only [g1,g2,g3,g4,decide_true,decide_false,Bool.and_true,Bool.and_false,Bool.false_and,Bool.true_and,cond_true,cond_false,Bool.true_or,Bool.false_or]
  all_goals first
   |rfl
   |(have e1:(97:Int)≤b+32:=by omega
     have e2:b+32≤122:=by omega
     simp only [e1,e2,decide_true])
   |(cases bg b<;>cases decide (b=96)<;>rfl)
 ·cases h
theorem AK (l:aa) (hl:l.length≤4611686018427387904) (k0 k1:OR'): ∀(r:aa) (i:Int) (n:Nat),At l i r→r.length<n→eG n l i k0 k1=bif bb jE r then k1 else k0:=by
 intro r;induction r with
 |nil=>intro i n h hn;obtain⟨n,rfl⟩:=bh hn;unfold eG jI;simp only [h.dge,cond_false,bb,List.all_nil,cond_true]
 |cons a r ih=>
  intro i n h hn;obtain⟨n,rfl⟩:=bh hn
  have hs:=ih (i+1) n h.step (by simp at hn;omega)
  have e0:(decide (0≤by8 a)&&decide (by8 a<256))=true:=by simp only [Bool.and_eq_true,decide_eq_true_eq];exact⟨Cw a,Cx a⟩
  unfold eG jI;simp only [h.dlt,h.dnn,h.str,cond_true,h.next hl,hs,bb,List.all_cons,e0]
  cases jE (by8 a)<;>rfl
def Ni:=kV fun s=>.ite (isM s) (.ret (.bool (bb jE s)) []) .fail
theorem F7:Sound Kx 191 Ni:=by
 refine AH (fun s=>s.length+1) fun s r h=> ?_
 obtain⟨h1,h2⟩:=af h
 unfold rA
 rw [AK s (cv h1) _ _ s 0 _ (At.start s) (by omega),←h2]
 cases bb jE s<;>rfl
def qD (s t:aa):Bool:=decide (aJ s=aJ t)
def De:List AV→List Ob→Br
 | [.str s,.str t],[]=>.ite (isM s&&isM t) (.ret (.bool (qD s t)) []) .fail
 |_,_=>.fail
theorem I6:Sound Kx 229 De:=isame_ok.of fun args objs r h=>by
 unfold De at h;split at h
 ·rename_i s t
  obtain⟨h1,h2⟩:=af h
  rw [Bool.and_eq_true]at h1
  rw [←h2]
  show(uv s t).val=_
  unfold uv qD
  simp only [Br.val,h1.1,h1.2]
 ·cases h
theorem I7:Sound Kx 209 De:=ssame_ok.of fun args objs r h=>by
 unfold De at h;split at h
 ·rename_i s t
  obtain⟨h1,h2⟩:=af h
  rw [Bool.and_eq_true]at h1
  rw [←h2]
  show(uw s t).val=_
  unfold uw qD
  simp only [Br.val,h1.1,h1.2]
 ·cases h
def Qy (p:aa→AV):List AV→List Ob→Br
 | [.str s],[]=>.ret (p s) []
 |_,_=>.fail
theorem I8 {n:Nat} {s:List AV→List Ob→Br} (hs:Sound Kx n s) {p:aa→AV} (h: ∀x,(s [.str x] []).val=some (p x,[])):Sound Kx n (Qy p):=hs.of fun args objs r hv=>by
 unfold Qy at hv
 split at hv
 ·rw [h];exact hv
 ·cases hv
theorem aW {s:aa} {n:Nat} (h:s.length≤n) (hn:n≤4611686018427387904:=by decide):isM s=true:=dT' (Nat.le_trans h hn)
def iS (s:aa):Bool:=decide (s.length≤40)&&bb oe s
def iT (s:aa):Bool:=decide (1≤s.length)&&decide (s.length≤200)&&bb b8 s
theorem AL (s:aa) (n:Nat):decide ((s.length:Int)≤(n:Int))=decide (s.length≤n):=by congr 1;apply propext;omega
theorem xf:Sound Kx 139 (Qy fun s=>.bool (iS s)):=I8 AI fun s=>by
 show(iQ s).val=_
 unfold iQ iS
 by_cases h:s.length≤40
 ·have h':(s.length:Int)≤40:=by omega
  simp only [Br.val,h,h',decide_true,aW h,Bool.true_and]
 ·have h': ¬(s.length:Int)≤40:=by omega
  simp only [Br.val,h,h',decide_false,Bool.false_and]
theorem xg:Sound Kx 137 (Qy fun s=>.bool (iT s)):=I8 AJ fun s=>by
 show(iR s).val=_
 unfold iR iT
 by_cases h:1≤s.length
 ·have h':(1:Int)≤(s.length:Int):=by omega
  by_cases g:s.length≤200
  ·have g':(s.length:Int)≤200:=by omega
   simp only [Br.val,h,h',g,g',decide_true,aW g,Bool.true_and]
  ·have g': ¬(s.length:Int)≤200:=by omega
   simp only [Br.val,h,h',g,g',decide_true,decide_false,Bool.true_and,Bool.false_and]
 ·have h': ¬(1:Int)≤(s.length:Int):=by omega
  simp only [Br.val,h,h',decide_false,Bool.false_and]
def Nj:SC:=[⟨124,_,cm⟩,⟨191,_,F7⟩]
def oB (s:aa):Br:=(Br.ite (decide (1≤(s.length:Int))) (Br.ite (decide ((s.length:Int)≤4000)) (Br.ite (isM s) (Br.ret (AV.bool (bb jE s)) []) Br.fail) (Br.ret (AV.bool false) [])) (Br.ret (AV.bool false) []))
def Df:List AV→List Ob→Br
 | [.str s],[]=>oB s
 |_,_=>.fail
theorem I9:Sound Kx 190 Df:=ae (C:=Nj) (O:=O0) Tryz.func190 (by kernel_rfl) fun args objs=>by
 unfold Df;split
 ·exact .inr (by kernel_rfl)
 ·exact .inl rfl
def Dg:Opt:={live:=[(4,[0,3])],outs:=[(4,[2])]}
def sToken_C:SC:=[⟨252,_,F6⟩]
def jJ (ar:aa) (aE:Int) (U9:aa→Int→OR') (bQ dm:OR'):OR':=
 (bif(decide (aE< (ar.length:Int)))then(bif(decide (0≤aE))then(bif(decide (aE< (ar.length:Int)))then(bif((decide (0≤(au ar aE)))&&(decide ((au ar aE)<256)))then(bif(!(jE (au ar aE)))then bQ else(U9 ar (ac (aE+1))))else(none))else(none))else(none))else dm)
def eH:Nat→aa→Int→(OR')→(OR')→OR'
 |0,_,_,_,_=>none
 |n+1,ar,aE,bQ,dm=>jJ ar aE (fun ar aE=>eH n ar aE bQ dm) bQ dm
abbrev sToken_p4:SP:=⟨23,[0,3],[(.v .s),(.v (.i .i64))],[]⟩
noncomputable def xh:Code:=ax (aD Tryz.f180) [1,1,0,1,0,0]
def xi (f:(OR')→(OR')→OR') (k:KT):OR':=f (k Ex.ret ((St.mk (aw 0 23 [(2,(AV.bool false))]) ([]:(List (Nat×(Ob))))))) (k (Ex.exit 0) ((St.mk (aw 0 23 []) ([]:(List (Nat×(Ob)))))))
def xj (n:Nat) (d:sToken_p4.D):KT→OR':=xi (eH n d.1.1 d.1.2.1)
def Dh (N:Nat):Lam:=bf [⟨4,sToken_p4,xj N⟩]
theorem F8 (N:Nat):OkL Kx sToken_C.s Dg 0 N (Dh N) xh:=okL sToken_p4 (xj) (fun d kR=>xi (jJ d.1.1 d.1.2.1 (fun ar aE=>kR ((ar,aE,()),())))) (fun _ _=>by kernel_rfl) (fun _ _ _=>by kernel_rfl) (fun _ _=>by kernel_rfl) (fun _ _ _ _=>by kernel_rfl) (ah (l':=[]) (by kernel_rfl) trivial)
def rD (N:Nat) (s:aa):OR':=(bif(decide ((s.length:Int)=0))then(some ((AV.bool false),[]))else(bif(decide (4000< (s.length:Int)))then(some ((AV.bool false),[]))else(eH N s 0 (some ((AV.bool false),[])) (some ((AV.bool true),[])))))
def rE (φ:aa→Br):List AV→List Ob→Br
 | [.str s],[]=>φ s
 |_,_=>.fail
theorem AM {φ:aa→Br} (fu:aa→Nat) (hv: ∀s res_,(φ s).val=some res_→rD (fu s) s=some res_):Sound Kx 180 (rE φ):=aj (C:=sToken_C) (O:=Dg) Tryz.func180 (by kernel_rfl) fun args objs=>by
 unfold rE;split
 ·rename_i s;exact .inr fun _ hyp_=>aO (Λ:=Dh (fu s)) (by kernel_rfl) (ah (l':=[xh]) (by kernel_rfl) ⟨F8 _,trivial⟩) (by kernel_rfl) (hv s _ hyp_)
 ·exact .inl rfl
theorem rF:Sound Kx 190 (Qy fun s=>.bool (wF s)):=I8 I9 fun s=>by
 show(oB s).val=_
 unfold oB wF
 by_cases h:1≤s.length
 ·have h':(1:Int)≤(s.length:Int):=by omega
  by_cases g:s.length≤4000
  ·have g':(s.length:Int)≤4000:=by omega
   simp only [Br.val,h,h',g,g',decide_true,aW g,Bool.true_and]
  ·have g': ¬(s.length:Int)≤4000:=by omega
   simp only [Br.val,h,h',g,g',decide_true,decide_false,Bool.true_and,Bool.false_and]
 ·have h': ¬(1:Int)≤(s.length:Int):=by omega
  simp only [Br.val,h,h',decide_false,Bool.false_and]
theorem AN (l:aa) (hl:l.length≤4611686018427387904) (k0 k1:OR'): ∀(r:aa) (i:Int) (n:Nat),At l i r→r.length<n→eH n l i k0 k1=bif bb jE r then k1 else k0:=by
 intro r;induction r with
 |nil=>intro i n h hn;obtain⟨n,rfl⟩:=bh hn;unfold eH jJ;simp only [h.dge,cond_false,bb,List.all_nil,cond_true]
 |cons a r ih=>
  intro i n h hn;obtain⟨n,rfl⟩:=bh hn
  have hs:=ih (i+1) n h.step (by simp at hn;omega)
  have e0:(decide (0≤by8 a)&&decide (by8 a<256))=true:=by simp only [Bool.and_eq_true,decide_eq_true_eq];exact⟨Cw a,Cx a⟩
  unfold eH jJ;simp only [h.dlt,h.dnn,h.str,cond_true,h.next hl,hs,bb,List.all_cons,e0]
  cases jE (by8 a)<;>rfl
theorem rG:Sound Kx 180 (Qy fun s=>.bool (wF s)):=by
 refine I8 (AM (φ:=fun s=>.ret (.bool (wF s)) []) (fun s=>s.length+1) fun s r h=> ?_) fun _=>rfl
 cases h
 unfold rD wF
 by_cases h:s.length=0
 ·have:s=[]:=List.length_eq_zero_iff.1 h
  subst this;rfl
 ·by_cases g:s.length≤4000
  ·have h': ¬(s.length:Int)=0:=by omega
   have h1:1≤s.length:=by omega
   have g': ¬(4000:Int)< (s.length:Int):=by omega
   simp only [h',g',g,h1,decide_true,decide_false,cond_false,Bool.true_and]
   rw [AN s (by omega) _ _ s 0 _ (At.start s) (by omega)]
   cases bb jE s<;>rfl
  ·have h': ¬(s.length:Int)=0:=by omega
   have g':(4000:Int)< (s.length:Int):=by omega
   simp only [h',g',g,decide_true,decide_false,cond_false,cond_true,Bool.and_false,Bool.false_and]
def F9:SC:=[⟨190,_,rF⟩]
def iU (s:aa):Br:=(Br.ite (wF s) (Br.ret (AV.bool (decide ((s.length:Int)≤20))) []) (Br.ret (AV.bool false) []))
def rH:List AV→List Ob→Br
 | [.str s],[]=>iU s
 |_,_=>.fail
theorem AO:Sound Kx 136 rH:=ae (C:=F9) (O:=O0) Tryz.func136 (by kernel_rfl) fun args objs=>by
 unfold rH;split
 ·exact .inr (by kernel_rfl)
 ·exact .inl rfl
def F_:Opt:={split:=true}
def Ga:SC:=[⟨190,_,rF⟩,⟨191,_,wZ⟩,⟨193,_,oq⟩]
def iV (a b:aa):Br:=(Br.ite (wF a) (Br.ite (decide ((a.length:Int)≤40)) (Br.ite (decide ((b.length:Int)≤190)) (Br.ite (isM b) (Br.ite (bb oe b) (Br.ite (isM b) (Br.ite (decide ((bH b)=b)) (Br.ret (AV.bool true) []) (Br.ret (AV.bool false) [])) Br.fail) (Br.ret (AV.bool false) [])) Br.fail) (Br.ret (AV.bool false) [])) (Br.ret (AV.bool false) [])) (Br.ret (AV.bool false) []))
def rI:List AV→List Ob→Br
 | [.agg [.str a,.str b]],[]=>iV a b
 |_,_=>.fail
theorem AP:Sound Kx 133 rI:=ae (C:=Ga) (O:=F_) Tryz.func133 (by kernel_rfl) fun args objs=>by
 unfold rI;split
 ·exact .inr (by kernel_rfl)
 ·exact .inl rfl
def Gb:Opt:={split:=true}
def Gc:SC:=[⟨180,_,rG⟩,⟨181,_,ou⟩,⟨182,_,wY⟩]
def iW (a b:aa):Br:=(Br.ite (decide ((a.length:Int)≤40)) (Br.ite (wF a) (Br.ite (decide ((b.length:Int)≤190)) (Br.ite (isM b) (Br.ite (bb oe b) (Br.ite (isM b) (Br.ite (decide ((bH b)=b)) (Br.ret (AV.bool true) []) (Br.ret (AV.bool false) [])) Br.fail) (Br.ret (AV.bool false) [])) Br.fail) (Br.ret (AV.bool false) [])) (Br.ret (AV.bool false) [])) (Br.ret (AV.bool false) []))
def rJ:List AV→List Ob→Br
 | [.agg [.str a,.str b]],[]=>iW a b
 |_,_=>.fail
theorem AQ:Sound Kx 125 rJ:=ae (C:=Gc) (O:=Gb) Tryz.func125 (by kernel_rfl) fun args objs=>by
 unfold rJ;split
 ·exact .inr (by kernel_rfl)
 ·exact .inl rfl
def Gd:SC:=[⟨180,_,rG⟩,⟨183,_,mX⟩]
def iX (me ta:aa) (st:Int) (re:aa) (ba:Bool) (fs:List (aa×aa)) (bo:aa):Br:=(Br.ite (decide ((me.length:Int)≤20)) (Br.ite (wF me) (Br.ite (decide ((ta.length:Int)≤200)) (Br.ite (isM ta) (Br.ite ((bb b8 ta)&&(decide (0< (ta.length:Int)))) (Br.ite (decide (st=0)) (Br.ite (decide (re=([]:aa))) (Br.ret (AV.bool (!ba)) []) (Br.ret (AV.bool false) [])) (Br.ret (AV.bool false) [])) (Br.ret (AV.bool false) [])) Br.fail) (Br.ret (AV.bool false) [])) (Br.ret (AV.bool false) [])) (Br.ret (AV.bool false) []))
def rK:List AV→List Ob→Br
 | [.agg [.str me,.str ta,.int .i64 st,.str re,.bool ba,.sh (.pair .str .str) fs,.str bo]],[]=>iX me ta st re ba fs bo
 |_,_=>.fail
theorem AR:Sound Kx 127 rK:=ae (C:=Gd) (O:=O0) Tryz.func127 (by kernel_rfl) fun args objs=>by
 unfold rK;split
 ·exact .inr (by kernel_rfl)
 ·exact .inl rfl
def Ge:SC:=[⟨181,_,ou⟩,⟨184,_,Iz⟩]
def iY (me ta:aa) (st:Int) (re:aa) (ba:Bool) (fs:List (aa×aa)) (bo:aa):Br:=(Br.ite (!(decide (ta=([]:aa)))) (Br.ret (AV.bool false) []) (Br.ite (decide (st<200)) (Br.ret (AV.bool false) []) (Br.ite (decide (599<st)) (Br.ret (AV.bool false) []) (Br.ite (decide (40< (re.length:Int))) (Br.ret (AV.bool false) []) (Br.ite (isM re) (Br.ite (!(bb oe re)) (Br.ret (AV.bool false) []) (Br.ite ba (Br.ite (!(decide (bo=([]:aa)))) (Br.ret (AV.bool false) []) (Br.ite ba (Br.ret (AV.bool true) []) (Br.ret (AV.bool (!(uk st))) []))) (Br.ite ba (Br.ret (AV.bool true) []) (Br.ret (AV.bool (!(uk st))) [])))) Br.fail)))))
def rL:List AV→List Ob→Br
 | [.agg [.str me,.str ta,.int .i64 st,.str re,.bool ba,.sh (.pair .str .str) fs,.str bo]],[]=>iY me ta st re ba fs bo
 |_,_=>.fail
theorem AS:Sound Kx 128 rL:=ae (C:=Ge) (O:=O0) Tryz.func128 (by kernel_rfl) fun args objs=>by
 unfold rL;split
 ·exact .inr (by kernel_rfl)
 ·exact .inl rfl
abbrev Fd:=aa×aa
def jK (f:Fd):Bool:=wF f.1&&decide (f.1.length≤40)&&decide (f.2.length≤190)&&bb oe f.2&&decide (bH f.2=f.2)
def Sh (p:Fd→AV):List AV→List Ob→Br
 | [.agg [.str a,.str b]],[]=>.ret (p (a,b)) []
 |_,_=>.fail
theorem Qz {n:Nat} {s:List AV→List Ob→Br} (hs:Sound Kx n s) {p:Fd→AV} (h: ∀a b,(s [.agg [.str a,.str b]] []).val=some (p (a,b),[])):Sound Kx n (Sh p):=hs.of fun args objs r hv=>by
 unfold Sh at hv
 split at hv
 ·rw [h];exact hv
 ·cases hv
theorem xk:Sound Kx 133 (Sh fun f=>.bool (jK f)):=Qz AP fun a b=>by
 show(iV a b).val=_
 unfold iV jK
 have e1:decide ((a.length:Int)≤40)=decide (a.length≤40):=AL a 40
 have e2:decide ((b.length:Int)≤190)=decide (b.length≤190):=AL b 190
 simp only [e1,e2]
 by_cases h:b.length≤190
 ·simp only [h,aW h,decide_true,Bool.and_true]
  cases wF a<;>cases decide (a.length≤40)<;>cases bb oe b<;>cases decide (bH b=b)<;>rfl
 ·simp only [h,decide_false]
  cases wF a<;>cases decide (a.length≤40)<;>rfl
theorem lD:Sound Kx 125 (Sh fun f=>.bool (jK f)):=Qz AQ fun a b=>by
 show(iW a b).val=_
 unfold iW jK
 have e1:decide ((a.length:Int)≤40)=decide (a.length≤40):=AL a 40
 have e2:decide ((b.length:Int)≤190)=decide (b.length≤190):=AL b 190
 simp only [e1,e2]
 by_cases h:b.length≤190
 ·simp only [h,aW h,decide_true,Bool.and_true]
  cases wF a<;>cases decide (a.length≤40)<;>cases bb oe b<;>cases decide (bH b=b)<;>rfl
 ·simp only [h,decide_false]
  cases wF a<;>cases decide (a.length≤40)<;>rfl
def iZ (s:aa):Bool:=wF s&&decide (s.length≤20)
theorem xl:Sound Kx 136 (Qy fun s=>.bool (iZ s)):=I8 AO fun s=>by
 show(iU s).val=_
 unfold iU iZ
 have e1:decide ((s.length:Int)≤20)=decide (s.length≤20):=AL s 20
 simp only [e1]
 exact ui _ _
abbrev Mg:=aa×aa×Int×aa×Bool×List Fd×aa
def O7 (me ta:aa) (st:Int) (re:aa) (ba:Bool):Bool:=iZ me&&iT ta&&decide (st=0)&&decide (re=[])&& !ba
def Nk (ta:aa) (st:Int) (re:aa) (ba:Bool) (bo:aa):Bool:=decide (ta=[])&&FP st&&iS re&& !(ba&& !decide (bo=[]))&& !(uk st&& !ba)
def O8 (p:Mg→AV):List AV→List Ob→Br
 | [.agg [.str me,.str ta,.int .i64 st,.str re,.bool ba,.sh (.pair .str .str) fs,.str bo]],[]=>.ret (p (me,ta,st,re,ba,fs,bo)) []
 |_,_=>.fail
theorem Nl {n:Nat} {s:List AV→List Ob→Br} (hs:Sound Kx n s) {p:Mg→AV} (h: ∀me ta st re ba fs bo,(s [.agg [.str me,.str ta,.int .i64 st,.str re,.bool ba,.sh (.pair .str .str) fs,.str bo]] []).val=some (p (me,ta,st,re,ba,fs,bo),[])):Sound Kx n (O8 p):=hs.of fun args objs r hv=>by
 unfold O8 at hv
 split at hv
 ·rw [h];exact hv
 ·cases hv
theorem xm:Sound Kx 127 (O8 fun m=>.bool (O7 m.1 m.2.1 m.2.2.1 m.2.2.2.1 m.2.2.2.2.1)):=Nl AR fun me ta st re ba fs bo=>by
 show(iX me ta st re ba fs bo).val=some (.bool (O7 me ta st re ba),[])
 unfold iX O7 iZ iT
 have e1:decide ((me.length:Int)≤20)=decide (me.length≤20):=AL me 20
 have e2:decide ((ta.length:Int)≤200)=decide (ta.length≤200):=AL ta 200
 have e3:decide ((0:Int)< (ta.length:Int))=decide (1≤ta.length):=by congr 1;apply propext;omega
 simp only [e1,e2,e3]
 by_cases h:ta.length≤200
 ·simp only [h,aW h,decide_true,Bool.and_true]
  cases decide (me.length≤20)<;>cases wF me<;>cases bb b8 ta<;>cases decide (1≤ta.length)<;>cases decide (st=0)<;>cases decide (re=[])<;>rfl
 ·simp only [h,decide_false,Bool.and_false,Bool.false_and]
  cases decide (me.length≤20)<;>cases wF me<;>rfl
theorem AT:Sound Kx 128 (O8 fun m=>.bool (Nk m.2.1 m.2.2.1 m.2.2.2.1 m.2.2.2.2.1 m.2.2.2.2.2.2)):=Nl AS fun me ta st re ba fs bo=>by
 show(iY me ta st re ba fs bo).val=some (.bool (Nk ta st re ba bo),[])
 unfold iY Nk iS FP
 have e1:decide ((40:Int)< (re.length:Int))= !decide (re.length≤40):=by by_cases h:re.length≤40<;>simp [h]<;>omega
 have e2:decide (st<200)= !decide (200≤st):=by by_cases h:200≤st<;>simp [h]<;>omega
 have e3:decide (599<st)= !decide (st≤599):=by by_cases h:st≤599<;>simp [h]<;>omega
 simp only [e1,e2,e3]
 by_cases h:re.length≤40
 ·simp only [h,aW h,decide_true,Bool.not_true,Bool.true_and]
  cases decide (ta=[])<;>cases decide (200≤st)<;>cases decide (st≤599)<;>cases bb oe re<;>cases ba<;>cases decide (bo=[])<;>cases uk st<;>rfl
 ·simp only [h,decide_false,Bool.not_false,Bool.false_and,Bool.and_false]
  cases decide (ta=[])<;>cases decide (200≤st)<;>cases decide (st≤599)<;>rfl
def oC:Opt:={live:=[(4,[8,9,10])],outs:=[(4,[2])]}
def iFieldsOk_C:SC:=[⟨133,_,xk⟩]
def d8 (ar:(List Fd)) (aE ay:Int) (U9:(List Fd)→Int→Int→OR') (bQ dm:OR'):OR':=
 (bif(decide (ay<aE))then(bif(decide (0≤ay))then(bif(decide (ay< (ar.length:Int)))then(bif(!(jK ((List.getD ar (Int.toNat ay) (([]:aa),([]:aa))).1,(List.getD ar (Int.toNat ay) (([]:aa),([]:aa))).2)))then bQ else(U9 ar aE (ac (ay+1))))else(none))else(none))else dm)
def cE:Nat→(List Fd)→Int→Int→(OR')→(OR')→OR'
 |0,_,_,_,_,_=>none
 |n+1,ar,aE,ay,bQ,dm=>d8 ar aE ay (fun ar aE ay=>cE n ar aE ay bQ dm) bQ dm
abbrev iFieldsOk_p4:SP:=⟨18,[8,9,10],[(.v (.sh (Ty.pair Ty.str Ty.str))),(.v (.i .i64)),(.v (.i .i64))],[]⟩
noncomputable def lE:Code:=ax (aD Tryz.f89) [1,1,0,1,0,0]
def lG (f:(OR')→(OR')→OR') (k:KT):OR':=f (k Ex.ret ((St.mk (aw 0 18 [(2,(AV.bool false))]) ([]:(List (Nat×(Ob))))))) (k (Ex.exit 0) ((St.mk (aw 0 18 []) ([]:(List (Nat×(Ob)))))))
def lI (n:Nat) (d:iFieldsOk_p4.D):KT→OR':=lG (cE n d.1.1 d.1.2.1 d.1.2.2.1)
def oD (N:Nat):Lam:=bf [⟨4,iFieldsOk_p4,lI N⟩]
theorem ux (N:Nat):OkL Kx iFieldsOk_C.s oC 0 N (oD N) lE:=okL iFieldsOk_p4 (lI) (fun d kR=>lG (d8 d.1.1 d.1.2.1 d.1.2.2.1 (fun ar aE ay=>kR ((ar,aE,ay,()),())))) (fun _ _=>by kernel_rfl) (fun _ _ _=>by kernel_rfl) (fun _ _=>by kernel_rfl) (fun _ _ _ _=>by kernel_rfl) (ah (l':=[]) (by kernel_rfl) trivial)
def jL (N:Nat) (l:List Fd):OR':=(bif(decide (20< (l.length:Int)))then(some ((AV.bool false),[]))else(cE N l (l.length:Int) 0 (some ((AV.bool false),[])) (some ((AV.bool true),[]))))
def jM (φ:(List Fd)→Br):List AV→List Ob→Br
 | [.sh (.pair .str .str) l],[]=>φ l
 |_,_=>.fail
theorem qE {φ:(List Fd)→Br} (fu:(List Fd)→Nat) (hv: ∀l res_,(φ l).val=some res_→jL (fu l) l=some res_):Sound Kx 89 (jM φ):=aj (C:=iFieldsOk_C) (O:=oC) Tryz.func89 (by kernel_rfl) fun args objs=>by
 unfold jM;split
 ·rename_i l;exact .inr fun _ hyp_=>aO (Λ:=oD (fu l)) (by kernel_rfl) (ah (l':=[lE]) (by kernel_rfl) ⟨ux _,trivial⟩) (by kernel_rfl) (hv l _ hyp_)
 ·exact .inl rfl
def oE:Opt:={live:=[(4,[0,3])],outs:=[(4,[2])]}
def sFieldsOk_C:SC:=[⟨125,_,lD⟩]
def d9 (ar:(List Fd)) (aE:Int) (U9:(List Fd)→Int→OR') (bQ dm:OR'):OR':=
 (bif(decide (aE< (ar.length:Int)))then(bif(decide (0≤aE))then(bif(decide (aE< (ar.length:Int)))then(bif(!(jK ((List.getD ar (Int.toNat aE) (([]:aa),([]:aa))).1,(List.getD ar (Int.toNat aE) (([]:aa),([]:aa))).2)))then bQ else(U9 ar (ac (aE+1))))else(none))else(none))else dm)
def cF:Nat→(List Fd)→Int→(OR')→(OR')→OR'
 |0,_,_,_,_=>none
 |n+1,ar,aE,bQ,dm=>d9 ar aE (fun ar aE=>cF n ar aE bQ dm) bQ dm
abbrev sFieldsOk_p4:SP:=⟨19,[0,3],[(.v (.sh (Ty.pair Ty.str Ty.str))),(.v (.i .i64))],[]⟩
noncomputable def lJ:Code:=ax (aD Tryz.f82) [1,1,0,1,0,0]
def lK (f:(OR')→(OR')→OR') (k:KT):OR':=f (k Ex.ret ((St.mk (aw 0 19 [(2,(AV.bool false))]) ([]:(List (Nat×(Ob))))))) (k (Ex.exit 0) ((St.mk (aw 0 19 []) ([]:(List (Nat×(Ob)))))))
def lL (n:Nat) (d:sFieldsOk_p4.D):KT→OR':=lK (cF n d.1.1 d.1.2.1)
def oF (N:Nat):Lam:=bf [⟨4,sFieldsOk_p4,lL N⟩]
theorem uy (N:Nat):OkL Kx sFieldsOk_C.s oE 0 N (oF N) lJ:=okL sFieldsOk_p4 (lL) (fun d kR=>lK (d9 d.1.1 d.1.2.1 (fun ar aE=>kR ((ar,aE,()),())))) (fun _ _=>by kernel_rfl) (fun _ _ _=>by kernel_rfl) (fun _ _=>by kernel_rfl) (fun _ _ _ _=>by kernel_rfl) (ah (l':=[]) (by kernel_rfl) trivial)
def jN (N:Nat) (l:List Fd):OR':=(bif(decide (20< (l.length:Int)))then(some ((AV.bool false),[]))else(cF N l 0 (some ((AV.bool false),[])) (some ((AV.bool true),[]))))
def jO (φ:(List Fd)→Br):List AV→List Ob→Br
 | [.sh (.pair .str .str) l],[]=>φ l
 |_,_=>.fail
theorem qF {φ:(List Fd)→Br} (fu:(List Fd)→Nat) (hv: ∀l res_,(φ l).val=some res_→jN (fu l) l=some res_):Sound Kx 82 (jO φ):=aj (C:=sFieldsOk_C) (O:=oE) Tryz.func82 (by kernel_rfl) fun args objs=>by
 unfold jO;split
 ·rename_i l;exact .inr fun _ hyp_=>aO (Λ:=oF (fu l)) (by kernel_rfl) (ah (l':=[lJ]) (by kernel_rfl) ⟨uy _,trivial⟩) (by kernel_rfl) (hv l _ hyp_)
 ·exact .inl rfl
def xn:SC:=[⟨125,_,lD⟩]
def fE (a b:aa):Br:=(Br.ite (!(jK (a,b))) (Br.ret (AV.str ([]:aa)) []) (Br.ite (decide ((a.length+2)≤9223372036854775807)) (Br.ite (decide (((List.length (a++([58,32]:aa)))+b.length)≤9223372036854775807)) (Br.ret (AV.str ((a++([58,32]:aa))++b)) []) Br.fail) Br.fail))
def lM:List AV→List Ob→Br
 | [.agg [.str a,.str b]],[]=>fE a b
 |_,_=>.fail
theorem uz:Sound Kx 186 lM:=ae (C:=xn) (O:=O0) Tryz.func186 (by kernel_rfl) fun args objs=>by
 unfold lM;split
 ·exact .inr (by kernel_rfl)
 ·exact .inl rfl
def b9 (l:List Fd):Bool:=decide (l.length≤20)&&l.all jK
def TO (p:List Fd→AV):List AV→List Ob→Br
 | [.sh (.pair .str .str) l],[]=>.ret (p l) []
 |_,_=>.fail
theorem Si {n:Nat} {s:List AV→List Ob→Br} (hs:Sound Kx n s) {p:List Fd→AV} (h: ∀l,(s [.sh (.pair .str .str) l] []).val=some (p l,[])):Sound Kx n (TO p):=hs.of fun args objs r hv=>by
 unfold TO at hv
 split at hv
 ·rw [h];exact hv
 ·cases hv
theorem O9 {α:Type} (l:List α) (n:Nat):decide ((n:Int)< (l.length:Int))= !decide (l.length≤n):=by by_cases h:l.length≤n<;>simp [h]<;>omega
theorem qG (l:List Fd) (hl:l.length≤4611686018427387904) (k0 k1:OR'): ∀(r:List Fd) (i:Int) (n:Nat),At l i r→r.length<n→cE n l (l.length:Int) i k0 k1=bif r.all jK then k1 else k0:=by
 intro r;induction r with
 |nil=>intro i n h hn;obtain⟨n,rfl⟩:=bh hn;unfold cE d8;simp only [h.dge,cond_false,List.all_nil,cond_true]
 |cons a r ih=>
  intro i n h hn;obtain⟨n,rfl⟩:=bh hn
  have hs:=ih (i+1) n h.step (by simp at hn;omega)
  unfold cE d8;simp only [h.dlt,h.dnn,h.get,cond_true,h.next hl,hs,List.all_cons]
  cases jK a<;>rfl
theorem dA:Sound Kx 89 (TO fun l=>.bool (b9 l)):=by
 refine Si (qE (φ:=fun l=>.ret (.bool (b9 l)) []) (fun l=>l.length+1) fun l r h=> ?_) fun _=>rfl
 cases h
 unfold jL b9
 have e:=O9 l 20
 simp only [show((20:Nat):Int)=20 from rfl]at e
 rw [e]
 by_cases h:l.length≤20
 ·simp only [h,decide_true,Bool.not_true,cond_false,Bool.true_and]
  rw [qG l (by omega) _ _ l 0 _ (At.start l) (by omega)]
  cases l.all jK<;>rfl
 ·simp only [h,decide_false,Bool.not_false,cond_true,Bool.false_and]
theorem qH (l:List Fd) (hl:l.length≤4611686018427387904) (k0 k1:OR'): ∀(r:List Fd) (i:Int) (n:Nat),At l i r→r.length<n→cF n l i k0 k1=bif r.all jK then k1 else k0:=by
 intro r;induction r with
 |nil=>intro i n h hn;obtain⟨n,rfl⟩:=bh hn;unfold cF d9;simp only [h.dge,cond_false,List.all_nil,cond_true]
 |cons a r ih=>
  intro i n h hn;obtain⟨n,rfl⟩:=bh hn
  have hs:=ih (i+1) n h.step (by simp at hn;omega)
  unfold cF d9;simp only [h.dlt,h.dnn,h.get,cond_true,h.next hl,hs,List.all_cons]
  cases jK a<;>rfl
theorem dB:Sound Kx 82 (TO fun l=>.bool (b9 l)):=by
 refine Si (qF (φ:=fun l=>.ret (.bool (b9 l)) []) (fun l=>l.length+1) fun l r h=> ?_) fun _=>rfl
 cases h
 unfold jN b9
 have e:=O9 l 20
 simp only [show((20:Nat):Int)=20 from rfl]at e
 rw [e]
 by_cases h:l.length≤20
 ·simp only [h,decide_true,Bool.not_true,cond_false,Bool.true_and]
  rw [qH l (by omega) _ _ l 0 _ (At.start l) (by omega)]
  cases l.all jK<;>rfl
 ·simp only [h,decide_false,Bool.not_false,cond_true,Bool.false_and]
def gl (f:Fd):aa:=f.1++58::32::f.2
theorem fF {f:Fd} (h:jK f=true):f.1.length≤40∧f.2.length≤190:=by
 unfold jK at h;simp only [Bool.and_eq_true,decide_eq_true_eq]at h;exact⟨h.1.1.1.2,h.1.1.2⟩
theorem qI:Sound Kx 186 (Sh fun f=>.str (bif jK f then gl f else [])):=Qz uz fun a b=>by
 show(fE a b).val=_
 unfold fE
 by_cases h:jK (a,b)=true
 ·have hl:=fF h
  simp only at hl
  have e1:decide (a.length+2≤9223372036854775807)=true:=dT' (by omega)
  have e2:decide ((a++[58,32]).length+b.length≤9223372036854775807)=true:=dT' (by simp;omega)
  simp only [h,Br.val,Bool.not_true,e1,e2,cond_true]
  simp [gl]
 ·simp only [Bool.not_eq_true]at h
  simp only [h,Br.val,Bool.not_false,cond_false]
def xo:Opt:={live:=[(5,[1,5,11,12,13])],outs:=[(5,[4,5])]}
def iValues_C:SC:=[⟨89,_,dA⟩,⟨229,_,I6⟩]
def gK (aI:aa) (aU:(List Fd)) (aH cK:Int) (lr:(List aa)) (U8:aa→(List Fd)→Int→Int→(List aa)→OR') (cJ:(List aa)→OR'):OR':=
 (bif(decide (cK<aH))then(bif(decide (0≤cK))then(bif(decide (cK< (aU.length:Int)))then(bif((isM (List.getD aU (Int.toNat cK) (([]:aa),([]:aa))).1)&&(isM aI))then(bif(qD (List.getD aU (Int.toNat cK) (([]:aa),([]:aa))).1 aI)then(bif(decide (((lr.length+(List.length (List.set (List.replicate 1 ([]:aa)) 0 (List.getD aU (Int.toNat cK) (([]:aa),([]:aa))).2)))*16)≤140737488355328))then(U8 aI aU aH (ac (cK+1)) (lr++(List.set (List.replicate 1 ([]:aa)) 0 (List.getD aU (Int.toNat cK) (([]:aa),([]:aa))).2)))else(none))else(U8 aI aU aH (ac (cK+1)) lr))else(none))else(none))else(none))else(cJ lr))
def dH:Nat→aa→(List Fd)→Int→Int→(List aa)→((List aa)→OR')→OR'
 |0,_,_,_,_,_,_=>none
 |n+1,aI,aU,aH,cK,lr,cJ=>gK aI aU aH cK lr (fun aI aU aH cK lr=>dH n aI aU aH cK lr cJ) cJ
abbrev iValues_p5:SP:=⟨28,[1,5,11,12,13],[(.v .s),(.v (.ref 384 0)),(.v (.sh (Ty.pair Ty.str Ty.str))),(.v (.i .i64)),(.v (.i .i64))],[(384,.arr Ty.str 0 false)]⟩
noncomputable def rM:Code:=ax (aD Tryz.f164) [1,1,1,0,1,0,0]
def rN (f:((List aa)→OR')→OR') (k:KT):OR':=f (fun am=>k (Ex.exit 0) ((St.mk (aw 0 28 [(5,(AV.ref 384 0))]) ((384,(Ob.arr Ty.str 0 false am))::([]:(List (Nat×(Ob))))))))
def rP (n:Nat) (d:iValues_p5.D):KT→OR':=rN (dH n d.1.1 d.1.2.2.1 d.1.2.2.2.1 d.1.2.2.2.2.1 d.2.1)
def xp (N:Nat):Lam:=bf [⟨5,iValues_p5,rP N⟩]
theorem AU (N:Nat):OkL Kx iValues_C.s xo 0 N (xp N) rM:=okL iValues_p5 (rP) (fun d kR=>rN (gK d.1.1 d.1.2.2.1 d.1.2.2.2.1 d.1.2.2.2.2.1 d.2.1 (fun aI aU aH cK lr=>kR ((aI,(),aU,aH,cK,()),(lr,()))))) (fun _ _=>by kernel_rfl) (fun _ _ _=>by kernel_rfl) (fun _ _=>by kernel_rfl) (fun _ _ _ _=>by kernel_rfl) (ah (l':=[]) (by kernel_rfl) trivial)
def oG (N:Nat) (l:List Fd) (name:aa):OR':=(bif(!(b9 l))then(some ((AV.ref 0 0),((Ob.arr Ty.str 0 false ([]:(List aa)))::[])))else(dH N name l (l.length:Int) 0 ([]:(List aa)) (fun am=>(some ((AV.ref 0 0),((Ob.arr Ty.str 0 false am)::[]))))))
def oH (φ:(List Fd)→aa→Br):List AV→List Ob→Br
 | [.sh (.pair .str .str) l,.str name],[]=>φ l name
 |_,_=>.fail
theorem xq {φ:(List Fd)→aa→Br} (fu:(List Fd)→aa→Nat) (hv: ∀l name res_,(φ l name).val=some res_→oG (fu l name) l name=some res_):Sound Kx 164 (oH φ):=aj (C:=iValues_C) (O:=xo) Tryz.func164 (by kernel_rfl) fun args objs=>by
 unfold oH;split
 ·rename_i l name;exact .inr fun _ hyp_=>aO (Λ:=xp (fu l name)) (by kernel_rfl) (ah (l':=[rM]) (by kernel_rfl) ⟨AU _,trivial⟩) (by kernel_rfl) (hv l name _ hyp_)
 ·exact .inl rfl
def xr:Opt:={live:=[(5,[0,1,5,6])],outs:=[(5,[4,5])]}
def sValues_C:SC:=[⟨82,_,dB⟩,⟨209,_,I7⟩]
def gL (aI:(List Fd)) (aU:aa) (aH:Int) (cK:(List aa)) (U8:(List Fd)→aa→Int→(List aa)→OR') (cJ:(List aa)→OR'):OR':=
 (bif(decide (aH< (aI.length:Int)))then(bif(decide (0≤aH))then(bif(decide (aH< (aI.length:Int)))then(bif((isM (List.getD aI (Int.toNat aH) (([]:aa),([]:aa))).1)&&(isM aU))then(bif(qD (List.getD aI (Int.toNat aH) (([]:aa),([]:aa))).1 aU)then(bif(decide (0≤aH))then(bif(decide (aH< (aI.length:Int)))then(bif(decide (((cK.length+(List.length (List.set (List.replicate 1 ([]:aa)) 0 (List.getD aI (Int.toNat aH) (([]:aa),([]:aa))).2)))*16)≤140737488355328))then(U8 aI aU (ac (aH+1)) (cK++(List.set (List.replicate 1 ([]:aa)) 0 (List.getD aI (Int.toNat aH) (([]:aa),([]:aa))).2)))else(none))else(none))else(none))else(U8 aI aU (ac (aH+1)) cK))else(none))else(none))else(none))else(cJ cK))
def dI:Nat→(List Fd)→aa→Int→(List aa)→((List aa)→OR')→OR'
 |0,_,_,_,_,_=>none
 |n+1,aI,aU,aH,cK,cJ=>gL aI aU aH cK (fun aI aU aH cK=>dI n aI aU aH cK cJ) cJ
abbrev sValues_p5:SP:=⟨32,[0,1,5,6],[(.v (.sh (Ty.pair Ty.str Ty.str))),(.v .s),(.v (.ref 384 0)),(.v (.i .i64))],[(384,.arr Ty.str 0 false)]⟩
noncomputable def rQ:Code:=ax (aD Tryz.f207) [1,1,1,0,1,0,0]
def rR (f:((List aa)→OR')→OR') (k:KT):OR':=f (fun am=>k (Ex.exit 0) ((St.mk (aw 0 32 [(5,(AV.ref 384 0))]) ((384,(Ob.arr Ty.str 0 false am))::([]:(List (Nat×(Ob))))))))
def rT (n:Nat) (d:sValues_p5.D):KT→OR':=rR (dI n d.1.1 d.1.2.1 d.1.2.2.2.1 d.2.1)
def xu (N:Nat):Lam:=bf [⟨5,sValues_p5,rT N⟩]
theorem AW (N:Nat):OkL Kx sValues_C.s xr 0 N (xu N) rQ:=okL sValues_p5 (rT) (fun d kR=>rR (gL d.1.1 d.1.2.1 d.1.2.2.2.1 d.2.1 (fun aI aU aH cK=>kR ((aI,aU,(),aH,()),(cK,()))))) (fun _ _=>by kernel_rfl) (fun _ _ _=>by kernel_rfl) (fun _ _=>by kernel_rfl) (fun _ _ _ _=>by kernel_rfl) (ah (l':=[]) (by kernel_rfl) trivial)
def oI (N:Nat) (l:List Fd) (name:aa):OR':=(bif(!(b9 l))then(some ((AV.ref 0 0),((Ob.arr Ty.str 0 false ([]:(List aa)))::[])))else(dI N l name 0 ([]:(List aa)) (fun am=>(some ((AV.ref 0 0),((Ob.arr Ty.str 0 false am)::[]))))))
def oJ (φ:(List Fd)→aa→Br):List AV→List Ob→Br
 | [.sh (.pair .str .str) l,.str name],[]=>φ l name
 |_,_=>.fail
theorem xw {φ:(List Fd)→aa→Br} (fu:(List Fd)→aa→Nat) (hv: ∀l name res_,(φ l name).val=some res_→oI (fu l name) l name=some res_):Sound Kx 207 (oJ φ):=aj (C:=sValues_C) (O:=xr) Tryz.func207 (by kernel_rfl) fun args objs=>by
 unfold oJ;split
 ·rename_i l name;exact .inr fun _ hyp_=>aO (Λ:=xu (fu l name)) (by kernel_rfl) (ah (l':=[rQ]) (by kernel_rfl) ⟨AW _,trivial⟩) (by kernel_rfl) (hv l name _ hyp_)
 ·exact .inl rfl
def xx:Opt:={live:=[(2,[0,3])],outs:=[(2,[2])]}
def sframed_C:SC:=[⟨157,_,jG⟩]
def gM (an:(List Fd)) (aq:Int) (U5:(List Fd)→Int→OR') (bK cA:OR'):OR':=
 (bif(decide (aq< (an.length:Int)))then(bif(decide (0≤aq))then(bif(decide (aq< (an.length:Int)))then(bif(isM (List.getD an (Int.toNat aq) (([]:aa),([]:aa))).1)then(bif(decide ((aJ (List.getD an (Int.toNat aq) (([]:aa),([]:aa))).1)=([99,111,110,116,101,110,116,45,108,101,110,103,116,104]:aa)))then bK else(bif(decide ((aJ (List.getD an (Int.toNat aq) (([]:aa),([]:aa))).1)=([116,114,97,110,115,102,101,114,45,101,110,99,111,100,105,110,103]:aa)))then bK else(bif(decide ((aJ (List.getD an (Int.toNat aq) (([]:aa),([]:aa))).1)=([116,114,97,105,108,101,114]:aa)))then bK else(U5 an (ac (aq+1))))))else(none))else(none))else(none))else cA)
def dJ:Nat→(List Fd)→Int→(OR')→(OR')→OR'
 |0,_,_,_,_=>none
 |n+1,an,aq,bK,cA=>gM an aq (fun an aq=>dJ n an aq bK cA) bK cA
abbrev sframed_p2:SP:=⟨27,[0,3],[(.v (.sh (Ty.pair Ty.str Ty.str))),(.v (.i .i64))],[]⟩
noncomputable def rU:Code:=ax (aD Tryz.f126) [1,0,1,0,0]
def rV (f:(OR')→(OR')→OR') (k:KT):OR':=f (k Ex.ret ((St.mk (aw 0 27 [(2,(AV.bool true))]) ([]:(List (Nat×(Ob))))))) (k (Ex.exit 0) ((St.mk (aw 0 27 []) ([]:(List (Nat×(Ob)))))))
def rW (n:Nat) (d:sframed_p2.D):KT→OR':=rV (dJ n d.1.1 d.1.2.1)
def xy (N:Nat):Lam:=bf [⟨2,sframed_p2,rW N⟩]
theorem AX (N:Nat):OkL Kx sframed_C.s xx 0 N (xy N) rU:=okL sframed_p2 (rW) (fun d kR=>rV (gM d.1.1 d.1.2.1 (fun an aq=>kR ((an,aq,()),())))) (fun _ _=>by kernel_rfl) (fun _ _ _=>by kernel_rfl) (fun _ _=>by kernel_rfl) (fun _ _ _ _=>by kernel_rfl) (ah (l':=[]) (by kernel_rfl) trivial)
def oK (N:Nat) (l:List Fd):OR':=(dJ N l 0 (some ((AV.bool true),[])) (some ((AV.bool false),[])))
def oL (φ:(List Fd)→Br):List AV→List Ob→Br
 | [.sh (.pair .str .str) l],[]=>φ l
 |_,_=>.fail
theorem xz {φ:(List Fd)→Br} (fu:(List Fd)→Nat) (hv: ∀l res_,(φ l).val=some res_→oK (fu l) l=some res_):Sound Kx 126 (oL φ):=aj (C:=sframed_C) (O:=xx) Tryz.func126 (by kernel_rfl) fun args objs=>by
 unfold oL;split
 ·rename_i l;exact .inr fun _ hyp_=>aO (Λ:=xy (fu l)) (by kernel_rfl) (ah (l':=[rU]) (by kernel_rfl) ⟨AX _,trivial⟩) (by kernel_rfl) (hv l _ hyp_)
 ·exact .inl rfl
def rX:Opt:={live:=[(5,[0,1,5])],outs:=[(5,[1,4])]}
def szFieldS_C:SC:=[⟨79,_,FH⟩]
def fG (aI:(List Fd)) (aU aH:Int) (U8:(List Fd)→Int→Int→OR') (cJ ku:Int→OR'):OR':=
 (bif(decide (aH< (aI.length:Int)))then(bif(decide (0≤aH))then(bif(decide (aH< (aI.length:Int)))then(bif(decide ((ac (aU-((List.length (List.getD aI (Int.toNat aH) (([]:aa),([]:aa))).1):Int)))<0))then(cJ (-1))else(bif(decide ((ac ((ac (aU-((List.length (List.getD aI (Int.toNat aH) (([]:aa),([]:aa))).1):Int)))-((List.length (List.getD aI (Int.toNat aH) (([]:aa),([]:aa))).2):Int)))<0))then(cJ (-1))else(bif(decide ((ac ((ac (aU-((List.length (List.getD aI (Int.toNat aH) (([]:aa),([]:aa))).1):Int)))-((List.length (List.getD aI (Int.toNat aH) (([]:aa),([]:aa))).2):Int)))<0))then(cJ (ac ((ac (aU-((List.length (List.getD aI (Int.toNat aH) (([]:aa),([]:aa))).1):Int)))-((List.length (List.getD aI (Int.toNat aH) (([]:aa),([]:aa))).2):Int))))else(U8 aI (ac ((ac (aU-((List.length (List.getD aI (Int.toNat aH) (([]:aa),([]:aa))).1):Int)))-((List.length (List.getD aI (Int.toNat aH) (([]:aa),([]:aa))).2):Int))) (ac (aH+1))))))else(none))else(none))else(ku aU))
def cX:Nat→(List Fd)→Int→Int→(Int→OR')→(Int→OR')→OR'
 |0,_,_,_,_,_=>none
 |n+1,aI,aU,aH,cJ,ku=>fG aI aU aH (fun aI aU aH=>cX n aI aU aH cJ ku) cJ ku
abbrev szFieldS_p5:SP:=⟨27,[0,1,5],[(.v (.sh (Ty.pair Ty.str Ty.str))),(.v (.i .i64)),(.v (.i .i64))],[]⟩
noncomputable def oM:Code:=ax (aD Tryz.f44) [1,1,1,0,1,0,0]
def oN (f:(Int→OR')→(Int→OR')→OR') (k:KT):OR':=f (fun am=>k Ex.ret ((St.mk (aw 0 27 [(1,(AV.int .i64 am)),(4,(AV.int .i64 (-1)))]) ([]:(List (Nat×(Ob))))))) (fun dW=>k (Ex.exit 0) ((St.mk (aw 0 27 [(1,(AV.int .i64 dW))]) ([]:(List (Nat×(Ob)))))))
def oO (n:Nat) (d:szFieldS_p5.D):KT→OR':=oN (cX n d.1.1 d.1.2.1 d.1.2.2.1)
def rY (N:Nat):Lam:=bf [⟨5,szFieldS_p5,oO N⟩]
theorem xA (N:Nat):OkL Kx szFieldS_C.s rX 0 N (rY N) oM:=okL szFieldS_p5 (oO) (fun d kR=>oN (fG d.1.1 d.1.2.1 d.1.2.2.1 (fun aI aU aH=>kR ((aI,aU,aH,()),())))) (fun _ _=>by kernel_rfl) (fun _ _ _=>by kernel_rfl) (fun _ _=>by kernel_rfl) (fun _ _ _ _=>by kernel_rfl) (ah (l':=[]) (by kernel_rfl) trivial)
def lN (N:Nat) (l:List Fd) (left:Int):OR':=(bif(decide ((ac (left-(l.length:Int)))<0))then(some ((AV.int .i64 (-1)),[]))else(cX N l (ac (left-(l.length:Int))) 0 (fun am=>(some ((AV.int .i64 (-1)),[]))) (fun dW=>(some ((AV.int .i64 dW),[])))))
def gm (φ:(List Fd)→Int→Br):List AV→List Ob→Br
 | [.sh (.pair .str .str) l,.int .i64 left],[]=>φ l left
 |_,_=>.fail
theorem uA {φ:(List Fd)→Int→Br} (fu:(List Fd)→Int→Nat) (hv: ∀l left res_,(φ l left).val=some res_→lN (fu l left) l left=some res_):Sound Kx 44 (gm φ):=aj (C:=szFieldS_C) (O:=rX) Tryz.func44 (by kernel_rfl) fun args objs=>by
 unfold gm;split
 ·rename_i l left;exact .inr fun _ hyp_=>aO (Λ:=rY (fu l left)) (by kernel_rfl) (ah (l':=[oM]) (by kernel_rfl) ⟨xA _,trivial⟩) (by kernel_rfl) (hv l left _ hyp_)
 ·exact .inl rfl
def rZ:Opt:={live:=[(3,[0,3,4])],outs:=[(3,[2,3])]}
def toFieldS_C:SC:=[⟨86,_,FJ⟩]
def fH (ai:(List Fd)) (al:Int) (ap:(List Fd)) (U6:(List Fd)→Int→(List Fd)→OR') (cI:(List Fd)→OR'):OR':=
 (bif(decide (al< (ai.length:Int)))then(bif(decide (0≤al))then(bif(decide (al< (ai.length:Int)))then(bif(decide (0≤al))then(bif(decide (al< (ap.length:Int)))then(U6 ai (ac (al+1)) (List.set ap (Int.toNat al) ((List.getD ai (Int.toNat al) (([]:aa),([]:aa))).1,(List.getD ai (Int.toNat al) (([]:aa),([]:aa))).2)))else(none))else(none))else(none))else(none))else(cI ap))
def cY:Nat→(List Fd)→Int→(List Fd)→((List Fd)→OR')→OR'
 |0,_,_,_,_=>none
 |n+1,ai,al,ap,cI=>fH ai al ap (fun ai al ap=>cY n ai al ap cI) cI
abbrev toFieldS_p3:SP:=⟨23,[0,3,4],[(.v (.sh (Ty.pair Ty.str Ty.str))),(.v (.ref 256 0)),(.v (.i .i64))],[(256,.arr (Ty.pair Ty.str Ty.str) 0 false)]⟩
noncomputable def oP:Code:=ax (aD Tryz.f48) [1,1,0,1,0,0]
def oQ (f:((List Fd)→OR')→OR') (k:KT):OR':=f (fun aQ=>k (Ex.exit 0) ((St.mk (aw 0 23 [(3,(AV.ref 256 0))]) ((256,(Ob.arr (Ty.pair Ty.str Ty.str) 0 false aQ))::([]:(List (Nat×(Ob))))))))
def oR (n:Nat) (d:toFieldS_p3.D):KT→OR':=oQ (cY n d.1.1 d.1.2.2.1 d.2.1)
def r8 (N:Nat):Lam:=bf [⟨3,toFieldS_p3,oR N⟩]
theorem xB (N:Nat):OkL Kx toFieldS_C.s rZ 0 N (r8 N) oP:=okL toFieldS_p3 (oR) (fun d kR=>oQ (fH d.1.1 d.1.2.2.1 d.2.1 (fun ai al ap=>kR ((ai,(),al,()),(ap,()))))) (fun _ _=>by kernel_rfl) (fun _ _ _=>by kernel_rfl) (fun _ _=>by kernel_rfl) (fun _ _ _ _=>by kernel_rfl) (ah (l':=[]) (by kernel_rfl) trivial)
def lO (N:Nat) (l:List Fd):OR':=(bif(decide (0≤(l.length:Int)))then(bif(decide ((l.length:Int)=(l.length:Int)))then(bif(decide (((l.length:Int)*32)≤140737488355328))then(cY N l 0 (List.replicate (Int.toNat (l.length:Int)) (([]:aa),([]:aa))) (fun aQ=>(some ((AV.ref 0 0),((Ob.arr (Ty.pair Ty.str Ty.str) 0 false aQ)::[])))))else(none))else(none))else(none))
def gn (φ:(List Fd)→Br):List AV→List Ob→Br
 | [.sh (.pair .str .str) l],[]=>φ l
 |_,_=>.fail
theorem uB {φ:(List Fd)→Br} (fu:(List Fd)→Nat) (hv: ∀l res_,(φ l).val=some res_→lO (fu l) l=some res_):Sound Kx 48 (gn φ):=aj (C:=toFieldS_C) (O:=rZ) Tryz.func48 (by kernel_rfl) fun args objs=>by
 unfold gn;split
 ·rename_i l;exact .inr fun _ hyp_=>aO (Λ:=r8 (fu l)) (by kernel_rfl) (ah (l':=[oP]) (by kernel_rfl) ⟨xB _,trivial⟩) (by kernel_rfl) (hv l _ hyp_)
 ·exact .inl rfl
def r9:Opt:={live:=[(4,[0,1,5])],outs:=[(4,[4])]}
def eqFieldS_C:SC:=[⟨95,_,FL⟩]
def fI (ar aE:(List Fd)) (ay:Int) (U9:(List Fd)→(List Fd)→Int→OR') (bQ dm:OR'):OR':=
 (bif(decide (ay< (ar.length:Int)))then(bif(decide (0≤ay))then(bif(decide (ay< (ar.length:Int)))then(bif(decide (0≤ay))then(bif(decide (ay< (aE.length:Int)))then(bif(!(decide ((List.getD ar (Int.toNat ay) (([]:aa),([]:aa))).1=(List.getD aE (Int.toNat ay) (([]:aa),([]:aa))).1)))then bQ else(bif(!(decide ((List.getD ar (Int.toNat ay) (([]:aa),([]:aa))).2=(List.getD aE (Int.toNat ay) (([]:aa),([]:aa))).2)))then bQ else(U9 ar aE (ac (ay+1)))))else(none))else(none))else(none))else(none))else dm)
def cZ:Nat→(List Fd)→(List Fd)→Int→(OR')→(OR')→OR'
 |0,_,_,_,_,_=>none
 |n+1,ar,aE,ay,bQ,dm=>fI ar aE ay (fun ar aE ay=>cZ n ar aE ay bQ dm) bQ dm
abbrev eqFieldS_p4:SP:=⟨27,[0,1,5],[(.v (.sh (Ty.pair Ty.str Ty.str))),(.v (.sh (Ty.pair Ty.str Ty.str))),(.v (.i .i64))],[]⟩
noncomputable def oS:Code:=ax (aD Tryz.f52) [1,1,0,1,0,0]
def oT (f:(OR')→(OR')→OR') (k:KT):OR':=f (k Ex.ret ((St.mk (aw 0 27 [(4,(AV.bool false))]) ([]:(List (Nat×(Ob))))))) (k (Ex.exit 0) ((St.mk (aw 0 27 []) ([]:(List (Nat×(Ob)))))))
def oU (n:Nat) (d:eqFieldS_p4.D):KT→OR':=oT (cZ n d.1.1 d.1.2.1 d.1.2.2.1)
def r_ (N:Nat):Lam:=bf [⟨4,eqFieldS_p4,oU N⟩]
theorem xC (N:Nat):OkL Kx eqFieldS_C.s r9 0 N (r_ N) oS:=okL eqFieldS_p4 (oU) (fun d kR=>oT (fI d.1.1 d.1.2.1 d.1.2.2.1 (fun ar aE ay=>kR ((ar,aE,ay,()),())))) (fun _ _=>by kernel_rfl) (fun _ _ _=>by kernel_rfl) (fun _ _=>by kernel_rfl) (fun _ _ _ _=>by kernel_rfl) (ah (l':=[]) (by kernel_rfl) trivial)
def lP (N:Nat) (l l':List Fd):OR':=(bif(!(decide ((l.length:Int)=((List.length l'):Int))))then(some ((AV.bool false),[]))else(cZ N l l' 0 (some ((AV.bool false),[])) (some ((AV.bool true),[]))))
def go (φ:(List Fd)→(List Fd)→Br):List AV→List Ob→Br
 | [.sh (.pair .str .str) l,.sh (.pair .str .str) l'],[]=>φ l l'
 |_,_=>.fail
theorem uC {φ:(List Fd)→(List Fd)→Br} (fu:(List Fd)→(List Fd)→Nat) (hv: ∀l l' res_,(φ l l').val=some res_→lP (fu l l') l l'=some res_):Sound Kx 52 (go φ):=aj (C:=eqFieldS_C) (O:=r9) Tryz.func52 (by kernel_rfl) fun args objs=>by
 unfold go;split
 ·rename_i l l';exact .inr fun _ hyp_=>aO (Λ:=r_ (fu l l')) (by kernel_rfl) (ah (l':=[oS]) (by kernel_rfl) ⟨xC _,trivial⟩) (by kernel_rfl) (hv l l' _ hyp_)
 ·exact .inl rfl
theorem be {α:Type} (d x:α):List.set (List.replicate 1 d) 0 x=[x]:=rfl
theorem UZ {α β:Type} (x:α×β):(x.1,x.2)=x:=rfl
def mD (l:List Fd) (name:aa):List aa:=(l.filter fun f=>qD f.1 name).map (·.2)
def uD (l:List Fd) (name:aa):List aa:=bif b9 l then mD l name else []
theorem cO {l:List Fd} (h:b9 l=true):l.length≤20∧ ∀f∈l,jK f=true:=by
 unfold b9 at h;rw [Bool.and_eq_true,decide_eq_true_eq,List.all_eq_true]at h;exact h
theorem uE {f:Fd} (h:jK f=true):isM f.1=true∧isM f.2=true:=⟨aW (fF h).1,aW (fF h).2⟩
theorem xD (name:aa) (hm:isM name=true) (l:List Fd) (hl:l.length≤20) (k:List aa→OR'): ∀(r:List Fd) (i:Int) (n:Nat) (out:List aa),At l i r→r.length<n→(∀f∈r,jK f=true)→out.length+r.length≤20→
 dH n name l (l.length:Int) i out k=k (out++mD r name):=by
 intro r;induction r with
 |nil=>intro i n out h hn hf ho;obtain⟨n,rfl⟩:=bh hn;unfold dH gK;simp only [h.dge,cond_false];simp [mD]
 |cons a r ih=>
  intro i n out h hn hf ho;obtain⟨n,rfl⟩:=bh hn
  have ha:=uE (hf a (List.mem_cons_self ..))
  have hr:=fun f h=>hf f (List.mem_cons_of_mem _ h)
  simp only [List.length_cons]at ho hn
  have e0:decide ((out.length+ [a.2].length)*16≤140737488355328)=true:=dT' (by simp only [List.length_singleton];omega)
  unfold dH gK;simp only [h.dlt,h.dnn,h.get,cond_true,h.next (by omega),ha.1,hm,Bool.and_self,be,e0]
  cases hs:qD a.1 name
  ·rw [cond_false,ih (i+1) n out h.step (by omega) hr (by omega)];simp [mD,hs]
  ·rw [cond_true,ih (i+1) n (out++[a.2]) h.step (by omega) hr (by simp;omega)];simp [mD,hs]
def Nm:List AV→List Ob→Br
 | [.sh (.pair .str .str) l,.str name],[]=>.ite (isM name) (.ret (.ref 0 0) [.arr .str 0 false (uD l name)]) .fail
 |_,_=>.fail
theorem oV:Sound Kx 164 Nm:=by
 refine(xq (φ:=fun l name=>.ite (isM name) (.ret (.ref 0 0) [.arr .str 0 false (uD l name)]) .fail) (fun l _=>l.length+1) fun l name r h=> ?_).of fun args objs r h=> ?_
 ·obtain⟨h1,h2⟩:=af h
  cases h2
  unfold oG uD
  cases hf:b9 l
  ·rfl
  ·obtain⟨g1,g2⟩:=cO hf
   simp only [Bool.not_true,cond_false,cond_true]
   rw [xD name h1 l g1 _ l 0 _ [] (At.start l) (by omega) g2 (by simpa using g1)]
   rfl
 ·unfold Nm at h;split at h
  ·exact h
  ·cases h
theorem xE (name:aa) (hm:isM name=true) (l:List Fd) (hl:l.length≤20) (k:List aa→OR'): ∀(r:List Fd) (i:Int) (n:Nat) (out:List aa),At l i r→r.length<n→(∀f∈r,jK f=true)→out.length+r.length≤20→
 dI n l name i out k=k (out++mD r name):=by
 intro r;induction r with
 |nil=>intro i n out h hn hf ho;obtain⟨n,rfl⟩:=bh hn;unfold dI gL;simp only [h.dge,cond_false];simp [mD]
 |cons a r ih=>
  intro i n out h hn hf ho;obtain⟨n,rfl⟩:=bh hn
  have ha:=uE (hf a (List.mem_cons_self ..))
  have hr:=fun f h=>hf f (List.mem_cons_of_mem _ h)
  simp only [List.length_cons]at ho hn
  have e0:decide ((out.length+ [a.2].length)*16≤140737488355328)=true:=dT' (by simp only [List.length_singleton];omega)
  unfold dI gL;simp only [h.dlt,h.dnn,h.get,cond_true,h.next (by omega),ha.1,hm,Bool.and_self,be,e0]
  cases hs:qD a.1 name
  ·rw [cond_false,ih (i+1) n out h.step (by omega) hr (by omega)];simp [mD,hs]
  ·rw [cond_true,ih (i+1) n (out++[a.2]) h.step (by omega) hr (by simp;omega)];simp [mD,hs]
theorem AY:Sound Kx 207 Nm:=by
 refine(xw (φ:=fun l name=>.ite (isM name) (.ret (.ref 0 0) [.arr .str 0 false (uD l name)]) .fail) (fun l _=>l.length+1) fun l name r h=> ?_).of fun args objs r h=> ?_
 ·obtain⟨h1,h2⟩:=af h
  cases h2
  unfold oI uD
  cases hf:b9 l
  ·rfl
  ·obtain⟨g1,g2⟩:=cO hf
   simp only [Bool.not_true,cond_false,cond_true]
   rw [xE name h1 l g1 _ l 0 _ [] (At.start l) (by omega) g2 (by simpa using g1)]
   rfl
 ·unfold Nm at h;split at h
  ·exact h
  ·cases h
def frC:aa:=[99,111,110,116,101,110,116,45,108,101,110,103,116,104]
def frT:aa:=[116,114,97,110,115,102,101,114,45,101,110,99,111,100,105,110,103]
def frR:aa:=[116,114,97,105,108,101,114]
def Nn (f:Fd):Bool:=decide (aJ f.1=frC)||decide (aJ f.1=frT)||decide (aJ f.1=frR)
theorem xF (l:List Fd) (hl:l.length≤20) (k0 k1:OR'): ∀(r:List Fd) (i:Int) (n:Nat),At l i r→r.length<n→(∀f∈r,jK f=true)→dJ n l i k0 k1=bif r.any Nn then k0 else k1:=by
 intro r;induction r with
 |nil=>intro i n h hn hf;obtain⟨n,rfl⟩:=bh hn;unfold dJ gM;simp only [h.dge,cond_false,List.any_nil]
 |cons a r ih=>
  intro i n h hn hf;obtain⟨n,rfl⟩:=bh hn
  have ha:=uE (hf a (List.mem_cons_self ..))
  have hs:=ih (i+1) n h.step (by simp at hn;omega) fun f h=>hf f (List.mem_cons_of_mem _ h)
  unfold dJ gM;simp only [h.dlt,h.dnn,h.get,cond_true,h.next (by omega),hs,ha.1,List.any_cons]
  show(bif decide (aJ a.1=frC)then k0 else bif decide (aJ a.1=frT)then k0 else bif decide (aJ a.1=frR)then k0 else _)=bif Nn a||_ then _ else _
  unfold Nn
  cases decide (aJ a.1=frC)<;>cases decide (aJ a.1=frT)<;>cases decide (aJ a.1=frR)<;>rfl
def Sj:List AV→List Ob→Br
 | [.sh (.pair .str .str) l],[]=>.ite (b9 l) (.ret (.bool (l.any Nn)) []) .fail
 |_,_=>.fail
theorem AZ:Sound Kx 126 Sj:=by
 refine(xz (φ:=fun l=>.ite (b9 l) (.ret (.bool (l.any Nn)) []) .fail) (fun l=>l.length+1) fun l r h=> ?_).of fun args objs r h=> ?_
 ·obtain⟨h1,h2⟩:=af h
  cases h2
  obtain⟨g1,g2⟩:=cO h1
  unfold oK
  rw [xF l g1 _ _ l 0 _ (At.start l) (by omega) g2]
  cases l.any Nn<;>rfl
 ·unfold Sj at h;split at h
  ·exact h
  ·cases h
def f8:List Fd→Int
 | []=>0
 |a::r=>(a.1.length:Int)+(a.2.length:Int)+f8 r
def TP (f:Fd):Bool:=isM f.1&&isM f.2
def smF (l:List Fd):Bool:=decide (l.length≤4611686018427387904)&&l.all TP
theorem fJ: ∀l,0≤f8 l
 | []=>Int.le_refl 0
 |a::r=>by have:=fJ r;simp only [f8];omega
def I_ (l:List Fd) (left:Int):Int:=bif decide ((l.length:Int)+f8 l≤left)then left-((l.length:Int)+f8 l)else-1
def bZ (left:Int):Bool:=decide (0≤left)&&decide (left≤1048576)
theorem uF (l:List Fd) (hl:l.length≤4611686018427387904) (ka kb:Int→OR'): ∀(r:List Fd) (i left:Int) (n:Nat),At l i r→r.length<n→(∀f∈r,TP f=true)→0≤left→left≤1048576→
 cX n l left i ka kb=bif decide (f8 r≤left)then kb (left-f8 r)else ka (-1):=by
 intro r;induction r with
 |nil=>
  intro i left n h hn hf h0 h1;obtain⟨n,rfl⟩:=bh hn;unfold cX fG
  have e:decide (f8 []≤left)=true:=dT' h0
  simp only [h.dge,cond_false,e,cond_true];simp only [f8,Int.sub_zero]
 |cons a r ih=>
  intro i left n h hn hf h0 h1;obtain⟨n,rfl⟩:=bh hn
  have ha:=hf a (List.mem_cons_self ..)
  unfold TP at ha;rw [Bool.and_eq_true]at ha
  have g1:=cv ha.1
  have g2:=cv ha.2
  have ht:=fJ r
  have hs:=fun left=>ih (i+1) left n h.step (by simp at hn;omega) (fun f h=>hf f (List.mem_cons_of_mem _ h))
  unfold cX fG;simp only [h.dlt,h.dnn,h.get,cond_true,h.next hl]
  rw [w64 (n:=left-(a.1.length:Int)) (by omega) (by omega)]
  by_cases c1:left-(a.1.length:Int)<0
  ·have: ¬f8 (a::r)≤left:=by simp only [f8];omega
   simp only [c1,this,decide_true,decide_false,cond_true,cond_false]
  ·rw [w64 (n:=left-(a.1.length:Int)-(a.2.length:Int)) (by omega) (by omega)]
   by_cases c2:left-(a.1.length:Int)-(a.2.length:Int)<0
   ·have: ¬f8 (a::r)≤left:=by simp only [f8];omega
    simp only [c1,c2,this,decide_true,decide_false,cond_true,cond_false]
   ·simp only [c1,c2,decide_false,cond_false]
    rw [hs _ (by omega) (by omega)]
    by_cases c3:f8 (a::r)≤left
    ·have c3':=c3
     simp only [f8]at c3'
     have e:f8 r≤left-(a.1.length:Int)-(a.2.length:Int):=by omega
     simp only [e,c3,decide_true,cond_true]
     congr 1;simp only [f8];omega
    ·have c3':=c3
     simp only [f8]at c3'
     have e: ¬f8 r≤left-(a.1.length:Int)-(a.2.length:Int):=by omega
     simp only [e,c3,decide_false,cond_false]
theorem lQ:Sound Kx 44 (gm fun l left=>.ite (smF l&&bZ left) (.ret (.int .i64 (I_ l left)) []) .fail):=by
 refine uA (fun l _=>l.length+1) fun l left r h=> ?_
 obtain⟨h1,h2⟩:=af h
 cases h2
 simp only [smF,bZ,Bool.and_eq_true,decide_eq_true_eq,List.all_eq_true]at h1
 unfold lN I_
 have ht:=fJ l
 rw [w64 (by omega) (by omega)]
 by_cases c:left-(l.length:Int)<0
 ·have: ¬(l.length:Int)+f8 l≤left:=by omega
  simp only [c,this,decide_true,decide_false,cond_true,cond_false]
 ·simp only [c,decide_false,cond_false]
  rw [uF l h1.1.1 _ _ l 0 _ _ (At.start l) (by omega) h1.1.2 (by omega) (by omega)]
  by_cases c2:(l.length:Int)+f8 l≤left
  ·have e:f8 l≤left-(l.length:Int):=by omega
   simp only [c2,e,decide_true,cond_true]
   rw [show left-(l.length:Int)-f8 l=left-((l.length:Int)+f8 l) by omega]
  ·have e: ¬f8 l≤left-(l.length:Int):=by omega
   simp only [c2,e,decide_false,cond_false]
theorem uG (l:List Fd) (hl:l.length≤4611686018427387904) (k:List Fd→OR'): ∀(r pre:List Fd) (i:Int) (n:Nat),l=pre++r→i=pre.length→r.length<n→
 cY n l i (pre++List.replicate r.length ([],[])) k=k l:=by
 intro r;induction r with
 |nil=>
  intro pre i n h hi hn;obtain⟨n,rfl⟩:=bh hn;subst h;subst hi
  have e:decide ((pre.length:Int)< ((pre++([]:List Fd)).length:Int))=false:=by simp
  unfold cY fH;simp only [e,cond_false];rfl
 |cons a r ih=>
  intro pre i n h hi hn;obtain⟨n,rfl⟩:=bh hn
  have ha:At l i (a::r):=⟨pre,h,hi⟩
  have e1:decide (i< ((pre++List.replicate (a::r).length (([],[]):Fd)).length:Int))=true:=dT' (by rw [hi];simp;omega)
  unfold cY fH;simp only [ha.dlt,ha.dnn,ha.get,cond_true,ha.next hl,e1]
  have:=ih (pre++[a]) (i+1) n (by rw [h];simp) (by rw [hi];simp) (by simp at hn;omega)
  rw [←this]
  congr 1
  rw [hi]
  simp only [List.length_cons,List.replicate_succ,Int.toNat_natCast,iM]
  simp
theorem lR:Sound Kx 48 (gn fun l=>.ite (decide (l.length≤1048576)) (.ret (.ref 0 0) [.arr (.pair .str .str) 0 false l]) .fail):=by
 refine uB (fun l=>l.length+1) fun l r h=> ?_
 obtain⟨h1,h2⟩:=af h
 cases h2
 rw [decide_eq_true_eq]at h1
 unfold lO
 have e1:decide ((0:Int)≤(l.length:Int))=true:=by simp
 have e2:decide ((l.length:Int)*32≤140737488355328)=true:=dT' (by omega)
 simp only [e1,e2,decide_true,cond_true,Int.toNat_natCast]
 exact uG l (by omega) _ l [] 0 _ rfl rfl (by omega)
theorem uH (l l':List Fd) (hl:l.length≤4611686018427387904) (k0 k1:OR'): ∀(r r':List Fd) (i:Int) (n:Nat),At l i r→At l' i r'→r.length=r'.length→r.length<n→
 cZ n l l' i k0 k1=bif decide (r=r')then k1 else k0:=by
 intro r;induction r with
 |nil=>
  intro r' i n h h' he hn;obtain⟨n,rfl⟩:=bh hn
  have:r'=[]:=List.length_eq_zero_iff.1 he.symm
  subst this
  unfold cZ fI;simp only [h.dge,cond_false,decide_true,cond_true]
 |cons a r ih=>
  intro r' i n h h' he hn;obtain⟨n,rfl⟩:=bh hn
  cases r' with
  |nil=>cases he
  |cons b r'=>
   have hs:=ih r' (i+1) n h.step h'.step (by simpa using he) (by simp at hn;omega)
   unfold cZ fI;simp only [h.dlt,h'.dlt,h.dnn,h.get,h'.get,cond_true,h.next hl,hs]
   obtain⟨a1,a2⟩:=a
   obtain⟨b1,b2⟩:=b
   by_cases c1:a1=b1<;>by_cases c2:a2=b2<;>by_cases c3:r=r'<;>simp [c1,c2,c3]
theorem lS:Sound Kx 52 (go fun l l'=>.ite (decide (l.length≤4611686018427387904)) (.ret (.bool (decide (l=l'))) []) .fail):=by
 refine uC (fun l _=>l.length+1) fun l l' r h=> ?_
 obtain⟨h1,h2⟩:=af h
 cases h2
 rw [decide_eq_true_eq]at h1
 unfold lP
 by_cases c:l.length=l'.length
 ·have c':(l.length:Int)=(l'.length:Int):=by omega
  simp only [c',decide_true,Bool.not_true,cond_false]
  rw [uH l l' h1 _ _ l l' 0 _ (At.start l) (At.start l') c (by omega)]
  cases decide (l=l')<;>rfl
 ·have c': ¬(l.length:Int)=(l'.length:Int):=by omega
  have c2: ¬l=l':=fun e=>c (by rw [e])
  simp only [c',c2,decide_false,Bool.not_false,cond_true]
def Sk:SC:=[⟨193,_,oq⟩]
def A0 (el:aa) (out:List aa):Br:=(Br.ite (isM el) (Br.ite (!(decide ((bH el)=([]:aa)))) (Br.ite (decide (((out.length+(List.length (List.set (List.replicate 1 ([]:aa)) 0 (bH el))))*16)≤140737488355328)) (Br.ret (AV.tup []) ((Ob.var ((AV.ref 1 1)::[]))::((Ob.arr Ty.str 1 false (out++(List.set (List.replicate 1 ([]:aa)) 0 (bH el))))::[]))) Br.fail) (Br.ret (AV.tup []) ((Ob.var ((AV.ref 1 0)::[]))::((Ob.arr Ty.str 0 false out)::[])))) Br.fail)
def O_:List AV→List Ob→Br
 | [.str el,.ptr 0 0],[.var [.ref 1 0],.arr .str 0 false out]=>A0 el out
 |_,_=>.fail
theorem QA:Sound Kx 261 O_:=ae (C:=Sk) (O:=O0) Tryz.func261 (by kernel_rfl) fun args objs=>by
 unfold O_;split
 ·exact .inr (by kernel_rfl)
 ·exact .inl rfl
def QB:SC:=[⟨193,_,oq⟩]
def uI (el:aa):Br:=(Br.ite (isM el) (Br.ite (!(decide ((bH el)=([]:aa)))) (Br.ite (decide (((List.length (List.set (List.replicate 1 ([]:aa)) 0 (bH el)))*16)≤140737488355328)) (Br.ret (AV.tup []) ((Ob.var ((AV.ref 1 0)::[]))::((Ob.arr Ty.str 0 false (List.set (List.replicate 1 ([]:aa)) 0 (bH el)))::[]))) Br.fail) (Br.ret (AV.tup []) ((Ob.var ((AV.nil Ty.str)::[]))::[]))) Br.fail)
def Ja:List AV→List Ob→Br
 | [.str el,.ptr 0 0],[.var [.nil .str]]=>uI el
 |_,_=>.fail
theorem No:Sound Kx 261 Ja:=ae (C:=QB) (O:=O0) Tryz.func261 (by kernel_rfl) fun args objs=>by
 unfold Ja;split
 ·exact .inr (by kernel_rfl)
 ·exact .inl rfl
def oW:Opt:={live:=[(7,[0,3,4,5,6])],outs:=[(7,[2,3])]}
def sElements_C:SC:=[⟨182,_,wY⟩]
def d_ (bX:aa) (du:Int) (eo:Bool) (bA:Int) (ep:(List aa)) (U_:aa→Int→Bool→Int→(List aa)→OR') (OC:(List aa)→OR'):OR':=
 (bif(decide (bA≤(bX.length:Int)))then(bif(decide (bA=(bX.length:Int)))then(bif(decide (0≤du))then(bif(decide (du≤bA))then(bif(decide (bA≤(bX.length:Int)))then(bif(isM (cut bX du bA))then(bif(decide (0< ((List.length (bH (cut bX du bA))):Int)))then(bif(decide (((ep.length+(List.length (List.set (List.replicate 1 ([]:aa)) 0 (bH (cut bX du bA)))))*16)≤140737488355328))then(U_ bX (ac (bA+1)) eo (ac (bA+1)) (ep++(List.set (List.replicate 1 ([]:aa)) 0 (bH (cut bX du bA)))))else(none))else(U_ bX (ac (bA+1)) eo (ac (bA+1)) ep))else(none))else(none))else(none))else(none))else(bif(!eo)then(bif(decide (0≤bA))then(bif(decide (bA< (bX.length:Int)))then(bif(decide ((au bX bA)=44))then(bif(decide (0≤du))then(bif(decide (du≤bA))then(bif(decide (bA≤(bX.length:Int)))then(bif(isM (cut bX du bA))then(bif(decide (0< ((List.length (bH (cut bX du bA))):Int)))then(bif(decide (((ep.length+(List.length (List.set (List.replicate 1 ([]:aa)) 0 (bH (cut bX du bA)))))*16)≤140737488355328))then(U_ bX (ac (bA+1)) eo (ac (bA+1)) (ep++(List.set (List.replicate 1 ([]:aa)) 0 (bH (cut bX du bA)))))else(none))else(U_ bX (ac (bA+1)) eo (ac (bA+1)) ep))else(none))else(none))else(none))else(none))else(bif(decide (0≤bA))then(bif(decide (bA< (bX.length:Int)))then(bif(decide ((au bX bA)=34))then(U_ bX du (!eo) (ac (bA+1)) ep)else(bif eo then(bif(decide (0≤bA))then(bif(decide (bA< (bX.length:Int)))then(bif(decide ((au bX bA)=92))then(bif(decide ((ac (bA+1))< (bX.length:Int)))then(U_ bX du eo (ac ((ac (bA+1))+1)) ep)else(U_ bX du eo (ac (bA+1)) ep))else(U_ bX du eo (ac (bA+1)) ep))else(none))else(none))else(U_ bX du eo (ac (bA+1)) ep)))else(none))else(none)))else(none))else(none))else(bif(decide (0≤bA))then(bif(decide (bA< (bX.length:Int)))then(bif(decide ((au bX bA)=34))then(U_ bX du (!eo) (ac (bA+1)) ep)else(bif eo then(bif(decide (0≤bA))then(bif(decide (bA< (bX.length:Int)))then(bif(decide ((au bX bA)=92))then(bif(decide ((ac (bA+1))< (bX.length:Int)))then(U_ bX du eo (ac ((ac (bA+1))+1)) ep)else(U_ bX du eo (ac (bA+1)) ep))else(U_ bX du eo (ac (bA+1)) ep))else(none))else(none))else(U_ bX du eo (ac (bA+1)) ep)))else(none))else(none))))else(OC ep))
def bI:Nat→aa→Int→Bool→Int→(List aa)→((List aa)→OR')→OR'
 |0,_,_,_,_,_,_=>none
 |n+1,bX,du,eo,bA,ep,OC=>d_ bX du eo bA ep (fun bX du eo bA ep=>bI n bX du eo bA ep OC) OC
abbrev sElements_p7:SP:=⟨70,[0,3,4,5,6],[(.v .s),(.v (.ref 256 0)),(.v (.i .i64)),(.v .b),(.v (.i .i64))],[(256,.arr Ty.str 0 false)]⟩
noncomputable def lT:Code:=ax (aD Tryz.f188) [1,1,1,1,1,0,1,0,0]
def lU (f:((List aa)→OR')→OR') (k:KT):OR':=f (fun eV=>k (Ex.exit 0) ((St.mk (aw 0 70 [(3,(AV.ref 256 0))]) ((256,(Ob.arr Ty.str 0 false eV))::([]:(List (Nat×(Ob))))))))
def lV (n:Nat) (d:sElements_p7.D):KT→OR':=lU (bI n d.1.1 d.1.2.2.1 d.1.2.2.2.1 d.1.2.2.2.2.1 d.2.1)
def oX (N:Nat):Lam:=bf [⟨7,sElements_p7,lV N⟩]
theorem uJ (N:Nat):OkL Kx sElements_C.s oW 0 N (oX N) lT:=okL sElements_p7 (lV) (fun d kR=>lU (d_ d.1.1 d.1.2.2.1 d.1.2.2.2.1 d.1.2.2.2.2.1 d.2.1 (fun bX du eo bA ep=>kR ((bX,(),du,eo,bA,()),(ep,()))))) (fun _ _=>by kernel_rfl) (fun _ _ _=>by kernel_rfl) (fun _ _=>by kernel_rfl) (fun _ _ _ _=>by kernel_rfl) (ah (l':=[]) (by kernel_rfl) trivial)
def jP (N:Nat) (s:aa):OR':=(bif(decide (4000< (s.length:Int)))then(some ((AV.ref 0 0),((Ob.arr Ty.str 0 false ([]:(List aa)))::[])))else(bI N s 0 false 0 ([]:(List aa)) (fun eV=>(some ((AV.ref 0 0),((Ob.arr Ty.str 0 false eV)::[]))))))
def jQ (φ:aa→Br):List AV→List Ob→Br
 | [.str s],[]=>φ s
 |_,_=>.fail
theorem qJ {φ:aa→Br} (fu:aa→Nat) (hv: ∀s res_,(φ s).val=some res_→jP (fu s) s=some res_):Sound Kx 188 (jQ φ):=aj (C:=sElements_C) (O:=oW) Tryz.func188 (by kernel_rfl) fun args objs=>by
 unfold jQ;split
 ·rename_i s;exact .inr fun _ hyp_=>aO (Λ:=oX (fu s)) (by kernel_rfl) (ah (l':=[lT]) (by kernel_rfl) ⟨uJ _,trivial⟩) (by kernel_rfl) (hv s _ hyp_)
 ·exact .inl rfl
def xG:Opt:={live:=[(4,[5,6,7])],outs:=[(4,[4,6])]}
def sJoined_C:SC:=[⟨207,_,AY⟩]
def eI (ar:aa) (aE:Int) (ay:(List aa)) (U9:aa→Int→(List aa)→OR') (bQ:aa→OR'):OR':=
 (bif(decide (aE< (ay.length:Int)))then(bif(decide (0<aE))then(bif(decide ((ar.length+2)≤9223372036854775807))then(bif(decide (0≤aE))then(bif(decide (aE< (ay.length:Int)))then(bif(decide (((List.length (ar++([44,32]:aa)))+(List.length (List.getD ay (Int.toNat aE) ([]:aa))))≤9223372036854775807))then(U9 ((ar++([44,32]:aa))++(List.getD ay (Int.toNat aE) ([]:aa))) (ac (aE+1)) ay)else(none))else(none))else(none))else(none))else(bif(decide (0≤aE))then(bif(decide (aE< (ay.length:Int)))then(bif(decide ((ar.length+(List.length (List.getD ay (Int.toNat aE) ([]:aa))))≤9223372036854775807))then(U9 (ar++(List.getD ay (Int.toNat aE) ([]:aa))) (ac (aE+1)) ay)else(none))else(none))else(none)))else(bQ ar))
def c8:Nat→aa→Int→(List aa)→(aa→OR')→OR'
 |0,_,_,_,_=>none
 |n+1,ar,aE,ay,bQ=>eI ar aE ay (fun ar aE ay=>c8 n ar aE ay bQ) bQ
abbrev sJoined_p4:SP:=⟨28,[5,6,7],[(.v (.ref 384 0)),(.v .s),(.v (.i .i64))],[(384,.arr Ty.str 0 false)]⟩
noncomputable def sa:Code:=ax (aD Tryz.f189) [1,1,1,0,1,0,0]
def sb (f:(aa→OR')→OR') (k:KT):OR':=f (fun bN=>k (Ex.exit 0) ((St.mk (aw 0 28 [(6,(AV.str bN))]) ([]:(List (Nat×(Ob)))))))
def sc (n:Nat) (d:sJoined_p4.D):KT→OR':=sb (c8 n d.1.2.1 d.1.2.2.1 d.2.1)
def xH (N:Nat):Lam:=bf [⟨4,sJoined_p4,sc N⟩]
theorem A1 (N:Nat):OkL Kx sJoined_C.s xG 0 N (xH N) sa:=okL sJoined_p4 (sc) (fun d kR=>sb (eI d.1.2.1 d.1.2.2.1 d.2.1 (fun ar aE ay=>kR (((),ar,aE,()),(ay,()))))) (fun _ _=>by kernel_rfl) (fun _ _ _=>by kernel_rfl) (fun _ _=>by kernel_rfl) (fun _ _ _ _=>by kernel_rfl) (ah (l':=[]) (by kernel_rfl) trivial)
def oY (N:Nat) (l:List Fd) (name:aa):OR':=(bif(isM name)then(c8 N ([]:aa) 0 (uD l name) (fun bN=>(some ((AV.str bN),[]))))else(none))
def oZ (φ:(List Fd)→aa→Br):List AV→List Ob→Br
 | [.sh (.pair .str .str) l,.str name],[]=>φ l name
 |_,_=>.fail
theorem xI {φ:(List Fd)→aa→Br} (fu:(List Fd)→aa→Nat) (hv: ∀l name res_,(φ l name).val=some res_→oY (fu l name) l name=some res_):Sound Kx 189 (oZ φ):=aj (C:=sJoined_C) (O:=xG) Tryz.func189 (by kernel_rfl) fun args objs=>by
 unfold oZ;split
 ·rename_i l name;exact .inr fun _ hyp_=>aO (Λ:=xH (fu l name)) (by kernel_rfl) (ah (l':=[sa]) (by kernel_rfl) ⟨A1 _,trivial⟩) (by kernel_rfl) (hv l name _ hyp_)
 ·exact .inl rfl
def Jb:Opt:={live:=[(2,[0,1,5])],outs:=[(2,[4])]}
def mY (an:(List aa)) (aq:aa) (aP:Int) (U5:(List aa)→aa→Int→OR') (bK cA:OR'):OR':=
 (bif(decide (aP< (an.length:Int)))then(bif(decide (0≤aP))then(bif(decide (aP< (an.length:Int)))then(bif(decide ((List.getD an (Int.toNat aP) ([]:aa))=aq))then bK else(U5 an aq (ac (aP+1))))else(none))else(none))else cA)
def gO:Nat→(List aa)→aa→Int→(OR')→(OR')→OR'
 |0,_,_,_,_,_=>none
 |n+1,an,aq,aP,bK,cA=>mY an aq aP (fun an aq aP=>gO n an aq aP bK cA) bK cA
abbrev sl5in_p2:SP:=⟨18,[0,1,5],[(.v (.sh Ty.str)),(.v .s),(.v (.i .i64))],[]⟩
noncomputable def Di:Code:=ax (aD Tryz.f148) [1,0,1,0,0]
def Dj (f:(OR')→(OR')→OR') (k:KT):OR':=f (k Ex.ret ((St.mk (aw 0 18 [(4,(AV.bool true))]) ([]:(List (Nat×(Ob))))))) (k (Ex.exit 0) ((St.mk (aw 0 18 []) ([]:(List (Nat×(Ob)))))))
def Dk (n:Nat) (d:sl5in_p2.D):KT→OR':=Dj (gO n d.1.1 d.1.2.1 d.1.2.2.1)
def Jc (N:Nat):Lam:=bf [⟨2,sl5in_p2,Dk N⟩]
theorem Jd (N:Nat):OkL Kx noS Jb 0 N (Jc N) Di:=okL sl5in_p2 (Dk) (fun d kR=>Dj (mY d.1.1 d.1.2.1 d.1.2.2.1 (fun an aq aP=>kR ((an,aq,aP,()),())))) (fun _ _=>by kernel_rfl) (fun _ _ _=>by kernel_rfl) (fun _ _=>by kernel_rfl) (fun _ _ _ _=>by kernel_rfl) (ah (l':=[]) (by kernel_rfl) trivial)
def xJ (N:Nat) (l:List aa) (s:aa):OR':=(gO N l s 0 (some ((AV.bool true),[])) (some ((AV.bool false),[])))
def xK (φ:(List aa)→aa→Br):List AV→List Ob→Br
 | [.sh .str l,.str s],[]=>φ l s
 |_,_=>.fail
theorem Gf {φ:(List aa)→aa→Br} (fu:(List aa)→aa→Nat) (hv: ∀l s res_,(φ l s).val=some res_→xJ (fu l s) l s=some res_):Sound Kx 148 (xK φ):=aj (C:=[]) (O:=Jb) Tryz.func148 (by kernel_rfl) fun args objs=>by
 unfold xK;split
 ·rename_i l s;exact .inr fun _ hyp_=>aO (Λ:=Jc (fu l s)) (by kernel_rfl) (ah (l':=[Di]) (by kernel_rfl) ⟨Jd _,trivial⟩) (by kernel_rfl) (hv l s _ hyp_)
 ·exact .inl rfl
def sd:Opt:={live:=[(4,[0,3])],outs:=[(4,[2,3])]}
def fK (ar:Int) (aE:aa) (U9:Int→aa→OR') (bQ:aa→OR'):OR':=
 (bif(decide (0<ar))then(bif(decide (((List.length (bx (List.set (List.replicate 1 (0:Int)) 0 (wk8 (ac (48+(Int.tmod ar 10)))))))+aE.length)≤9223372036854775807))then(U9 (ac (Int.tdiv ar 10)) ((bx (List.set (List.replicate 1 (0:Int)) 0 (wk8 (ac (48+(Int.tmod ar 10))))))++aE))else(none))else(bQ aE))
def c_:Nat→Int→aa→(aa→OR')→OR'
 |0,_,_,_=>none
 |n+1,ar,aE,bQ=>fK ar aE (fun ar aE=>c_ n ar aE bQ) bQ
abbrev markText_p4:SP:=⟨20,[0,3],[(.v (.i .i64)),(.v .s)],[]⟩
noncomputable def o3:Code:=ax (aD Tryz.f64) [1,1,1,0,0,0]
def o5 (f:(aa→OR')→OR') (k:KT):OR':=f (fun bN=>k (Ex.exit 0) ((St.mk (aw 0 20 [(3,(AV.str bN))]) ([]:(List (Nat×(Ob)))))))
def o6 (n:Nat) (d:markText_p4.D):KT→OR':=o5 (c_ n d.1.1 d.1.2.1)
def se (N:Nat):Lam:=bf [⟨4,markText_p4,o6 N⟩]
theorem xL (N:Nat):OkL Kx noS sd 0 N (se N) o3:=okL markText_p4 (o6) (fun d kR=>o5 (fK d.1.1 d.1.2.1 (fun ar aE=>kR ((ar,aE,()),())))) (fun _ _=>by kernel_rfl) (fun _ _ _=>by kernel_rfl) (fun _ _=>by kernel_rfl) (fun _ _ _ _=>by kernel_rfl) (ah (l':=[]) (by kernel_rfl) trivial)
def lW (N:Nat) (k:Int):OR':=(bif(decide (k≤0))then(some ((AV.str ([109,48]:aa)),[]))else(c_ N k ([]:aa) (fun bN=>(bif(decide ((1+bN.length)≤9223372036854775807))then(some ((AV.str (([109]:aa)++bN)),[]))else(none)))))
def lX (φ:Int→Br):List AV→List Ob→Br
 | [.int .i64 k],[]=>φ k
 |_,_=>.fail
theorem uK {φ:Int→Br} (fu:Int→Nat) (hv: ∀k res_,(φ k).val=some res_→lW (fu k) k=some res_):Sound Kx 64 (lX φ):=aj (C:=[]) (O:=sd) Tryz.func64 (by kernel_rfl) fun args objs=>by
 unfold lX;split
 ·rename_i k;exact .inr fun _ hyp_=>aO (Λ:=se (fu k)) (by kernel_rfl) (ah (l':=[o3]) (by kernel_rfl) ⟨xL _,trivial⟩) (by kernel_rfl) (hv k _ hyp_)
 ·exact .inl rfl
def Sl:List AV→List Ob→Br
 | [.str el,.ptr 0 0],[.var [.ref 1 0],.arr .str 0 false out]=>.ite (isM el&&decide (out.length≤100000)) (.ite (decide (bH el=[])) (.ret (.tup []) [.var [.ref 1 0],.arr .str 0 false out]) (.ret (.tup []) [.var [.ref 1 1],.arr .str 1 false (out++[bH el])])) .fail
 | [.str el,.ptr 0 0],[.var [.nil .str]]=>.ite (isM el) (.ite (decide (bH el=[])) (.ret (.tup []) [.var [.nil .str]]) (.ret (.tup []) [.var [.ref 1 0],.arr .str 0 false [bH el]])) .fail
 |_,_=>.fail
theorem QC:Sound Kx 261 Sl:=by
 intro args objs res objs' hv
 unfold Sl at hv
 split at hv
 ·rename_i el out
  refine QA _ _ _ _ ?_
  show(A0 el out).val=_
  obtain⟨h1,h2⟩:=af hv
  rw [Bool.and_eq_true,decide_eq_true_eq]at h1
  unfold A0
  refine(aR h1.1).trans (Eq.trans ?_ h2)
  rw [be]
  cases c:decide (bH el=[])
  ·exact aR (dT' (by simp only [List.length_singleton];omega))
  ·rfl
 ·rename_i el
  refine No _ _ _ _ ?_
  show(uI el).val=_
  obtain⟨h1,h2⟩:=af hv
  unfold uI
  refine(aR h1).trans (Eq.trans ?_ h2)
  rw [be]
  cases c:decide (bH el=[])
  ·rfl
  ·rfl
 ·cases hv
def o7:Opt:={live:=[(7,[0,3,4,5,6,7])],outs:=[(7,[0,2,3,4,5])]}
def iElements_C:SC:=[⟨261,_,QC⟩]
def ec (bX:aa) (du:Int) (eo:Bool) (bA:Int) (ep:(List aa)) (U_:aa→Int→Bool→Int→(List aa)→OR') (OC:aa→Int→(List aa)→OR'):OR':=
 (bif(decide (bA< (bX.length:Int)))then(bif(decide (0≤bA))then(bif(decide (bA< (bX.length:Int)))then(bif(decide ((au bX bA)=34))then(U_ bX du (!eo) (ac (bA+1)) ep)else(bif eo then(bif(decide (0≤bA))then(bif(decide (bA< (bX.length:Int)))then(bif(decide ((au bX bA)=92))then(U_ bX du eo (ac ((ac (bA+1))+1)) ep)else(bif(!eo)then(bif(decide (0≤bA))then(bif(decide (bA< (bX.length:Int)))then(bif(decide ((au bX bA)=44))then(bif(decide (0≤du))then(bif(decide (du≤bA))then(bif(decide (bA≤(bX.length:Int)))then(bif((isM (cut bX du bA))&&(decide (ep.length≤100000)))then(bif(decide ((bH (cut bX du bA))=([]:aa)))then(U_ bX (ac (bA+1)) eo (ac (bA+1)) ep)else(U_ bX (ac (bA+1)) eo (ac (bA+1)) (ep++((bH (cut bX du bA))::([]:(List aa))))))else(none))else(none))else(none))else(none))else(U_ bX du eo (ac (bA+1)) ep))else(none))else(none))else(U_ bX du eo (ac (bA+1)) ep)))else(none))else(none))else(bif(!eo)then(bif(decide (0≤bA))then(bif(decide (bA< (bX.length:Int)))then(bif(decide ((au bX bA)=44))then(bif(decide (0≤du))then(bif(decide (du≤bA))then(bif(decide (bA≤(bX.length:Int)))then(bif((isM (cut bX du bA))&&(decide (ep.length≤100000)))then(bif(decide ((bH (cut bX du bA))=([]:aa)))then(U_ bX (ac (bA+1)) eo (ac (bA+1)) ep)else(U_ bX (ac (bA+1)) eo (ac (bA+1)) (ep++((bH (cut bX du bA))::([]:(List aa))))))else(none))else(none))else(none))else(none))else(U_ bX du eo (ac (bA+1)) ep))else(none))else(none))else(U_ bX du eo (ac (bA+1)) ep))))else(none))else(none))else(OC bX du ep))
def bR:Nat→aa→Int→Bool→Int→(List aa)→(aa→Int→(List aa)→OR')→OR'
 |0,_,_,_,_,_,_=>none
 |n+1,bX,du,eo,bA,ep,OC=>ec bX du eo bA ep (fun bX du eo bA ep=>bR n bX du eo bA ep OC) OC
abbrev iElements_p7:SP:=⟨58,[0,3,4,5,6,7],[(.v .s),(.v (.ptr 256 0)),(.v (.fn 261 [(256,0)])),(.v (.i .i64)),(.v .b),(.v (.i .i64))],[(256,.var [(.ref 257 0)]),(257,.arr Ty.str 0 false)]⟩
noncomputable def lY:Code:=ax (aD Tryz.f201) [1,1,1,1,1,0,1,0,0]
def lZ (f:(aa→Int→(List aa)→OR')→OR') (k:KT):OR':=f (fun eV qo zO=>k (Ex.exit 0) ((St.mk (aw 0 58 [(0,(AV.str eV)),(3,(AV.ptr 256 0)),(4,(AV.fn 261 ((AV.ptr 256 0)::[]))),(5,(AV.int .i64 qo))]) ((256,(Ob.var ((AV.ref 257 0)::[])))::((257,(Ob.arr Ty.str 0 false zO))::([]:(List (Nat×(Ob)))))))))
def l5 (n:Nat) (d:iElements_p7.D):KT→OR':=lZ (bR n d.1.1 d.1.2.2.2.1 d.1.2.2.2.2.1 d.1.2.2.2.2.2.1 d.2.2.1)
def o8 (N:Nat):Lam:=bf [⟨7,iElements_p7,l5 N⟩]
theorem uL (N:Nat):OkL Kx iElements_C.s o7 0 N (o8 N) lY:=okL iElements_p7 (l5) (fun d kR=>lZ (ec d.1.1 d.1.2.2.2.1 d.1.2.2.2.2.1 d.1.2.2.2.2.2.1 d.2.2.1 (fun bX du eo bA ep=>kR ((bX,(),(),du,eo,bA,()),(((),()),ep,()))))) (fun _ _=>by kernel_rfl) (fun _ _ _=>by kernel_rfl) (fun _ _=>by kernel_rfl) (fun _ _ _ _=>by kernel_rfl) (ah (l':=[]) (by kernel_rfl) trivial)
def jR (N:Nat) (s:aa):OR':=(bif(decide (4000< (s.length:Int)))then(some ((AV.ref 0 0),((Ob.arr Ty.str 0 false ([]:(List aa)))::[])))else(bR N s 0 false 0 ([]:(List aa)) (fun eV=>(fun qo=>(fun zO=>(bif(decide (0≤qo))then(bif(decide (qo≤(eV.length:Int)))then(bif((isM (cut eV qo (eV.length:Int)))&&(decide (zO.length≤100000)))then(bif(decide ((bH (cut eV qo (eV.length:Int)))=([]:aa)))then(some ((AV.ref 0 0),((Ob.arr Ty.str 0 false zO)::[])))else(some ((AV.ref 0 0),((Ob.arr Ty.str 0 false (zO++((bH (cut eV qo (eV.length:Int)))::([]:(List aa)))))::[]))))else(none))else(none))else(none)))))))
def jS (φ:aa→Br):List AV→List Ob→Br
 | [.str s],[]=>φ s
 |_,_=>.fail
theorem qK {φ:aa→Br} (fu:aa→Nat) (hv: ∀s res_,(φ s).val=some res_→jR (fu s) s=some res_):Sound Kx 201 (jS φ):=aj (C:=iElements_C) (O:=o7) Tryz.func201 (by kernel_rfl) fun args objs=>by
 unfold jS;split
 ·rename_i s;exact .inr fun _ hyp_=>aO (Λ:=o8 (fu s)) (by kernel_rfl) (ah (l':=[lY]) (by kernel_rfl) ⟨uL _,trivial⟩) (by kernel_rfl) (hv s _ hyp_)
 ·exact .inl rfl
def dY:aa→Bool→aa→List aa
 |cur,_,[]=>[cur]
 |cur,q,c::r=>
  bif decide (by8 c=34)then dY (cur++[c]) (!q) r
  else bif q&&decide (by8 c=92)then(match r with| []=>[cur++[c]]|d::r'=>dY (cur++[c,d]) q r')
  else bif !q&&decide (by8 c=44)then cur::dY [] q r
  else dY (cur++[c]) q r
theorem kW (cur:aa) (q:Bool) (c:UInt8) (r:aa):dY cur q (c::r)=bif decide (by8 c=34)then dY (cur++[c]) (!q) r
 else bif q&&decide (by8 c=92)then(match r with| []=>[cur++[c]]|d::r'=>dY (cur++[c,d]) q r')
 else bif !q&&decide (by8 c=44)then cur::dY [] q r
 else dY (cur++[c]) q r:=by cases r<;>rfl
theorem gp (cur:aa) (q:Bool):dY cur q []=[cur]:=rfl
def fZ:List aa→List aa
 | []=>[]
 |x::r=>bif decide (bH x=[])then fZ r else bH x::fZ r
def mE (s:aa):List aa:=bif decide (4000< (s.length:Int))then []else fZ (dY [] false s)
theorem Sn (l:aa):decide ((0:Int)< (l.length:Int))= !decide (l=[]):=by cases l<;>simp
theorem gq (x:aa) (r:List aa):fZ (x::r)=bif decide (bH x=[])then fZ r else bH x::fZ r:=rfl
theorem qL (s:aa) (hl:s.length≤4000) (k:List aa→OR'): ∀(n:Nat) (p cur r:aa) (q:Bool) (out:List aa) (i fr:Int),s=p++cur++r→i=((p.length+cur.length:Nat):Int)→fr=(p.length:Int)→r.length+1<n→out.length≤p.length→
 bI n s fr q i out k=k (out++fZ (dY cur q r)):=by
 intro n;induction n with
 |zero=>intro p cur r q out i fr hs hi hf hn;omega
 |succ n ih=>
  intro p cur r q out i fr hs hi hf hn ho
  have hat:At s i r:=⟨p++cur,hs,by rw [hi];simp⟩
  have hlen:s.length=p.length+cur.length+r.length:=by rw [hs];simp;omega
  have hcut:cut s fr i=cur:=by rw [hs,hi,hf,Int.natCast_add];exact ot p cur r
  have hnf:decide (0≤fr)=true:=dT' (by omega)
  have hfi:decide (fr≤i)=true:=dT' (by omega)
  have hil:decide (i≤(s.length:Int))=true:=dT' (by omega)
  have hM:isM cur=true:=aW (n:=4000) (by omega)
  have hw:ac (i+1)=i+1:=w64 (by omega) (by omega)
  have hap:decide ((out.length+ [bH cur].length)*16≤140737488355328)=true:=dT' (by simp only [List.length_singleton];omega)
  unfold bI d_
  simp only [hcut,hnf,hfi,hil,hM,hw,hap,be,Sn,cond_true,hat.dnn]
  cases r with
  |nil=>
   have he:decide (i=(s.length:Int))=true:=dT' (by simp only [List.length_nil]at hlen;omega)
   simp only [List.length_nil]at hn
   obtain⟨m,rfl⟩: ∃m,n=m+1:=⟨n-1,by omega⟩
   have hx:decide (i+1≤(s.length:Int))=false:=dF' (by simp only [List.length_nil]at hlen;omega)
   have hend: ∀o,bI (m+1) s (i+1) q (i+1) o k=k o:=fun o=>by unfold bI d_;rw [hx,cond_false]
   simp only [he,cond_true,hend,gp,gq,fZ]
   cases decide (bH cur=[])<;>simp
  |cons c r=>
   have he:decide (i=(s.length:Int))=false:=dF' (by simp only [List.length_cons]at hlen;omega)
   simp only [List.length_cons]at hn hlen
   have hstep: ∀q',bI n s fr q' (i+1) out k=k (out++fZ (dY (cur++[c]) q' r)):=fun q'=>
    ih p (cur++[c]) r q' out (i+1) fr (by rw [hs];simp) (by rw [hi];simp;omega) hf (by omega) ho
   have hcom: ∀q' o,o.length≤p.length+1→bI n s (i+1) q' (i+1) o k=k (o++fZ (dY [] q' r)):=fun q' o ho'=>
    ih (p++cur++[c]) [] r q' o (i+1) (i+1) (by rw [hs];simp) (by rw [hi];simp;omega) (by rw [hi];simp;omega) (by omega) (by simp;omega)
   have h0:=hcom q out (by omega)
   have h1:=hcom q (out++[bH cur]) (by simp;omega)
   simp only [he,hat.dlt,hat.dnn,hat.str,cond_true,cond_false,h0,h1,hstep]
   rw [kW]
   cases c1:decide (by8 c=34)
   ·cases q
    ·cases c3:decide (by8 c=44)
     ·simp
     ·simp only [Bool.not_false,Bool.false_and,Bool.true_and,cond_true,cond_false,gq]
      cases decide (bH cur=[])<;>simp
    ·cases c2:decide (by8 c=92)
     ·simp
     ·simp only [Bool.not_true,Bool.true_and,cond_true,cond_false]
      cases r with
      |nil=>
       have hx:decide (i+1< (s.length:Int))=false:=dF' (by simp only [List.length_nil]at hlen;omega)
       simp only [hx,cond_false,gp]
      |cons d r=>
       have hx:decide (i+1< (s.length:Int))=true:=dT' (by simp only [List.length_cons]at hlen;omega)
       have hw2:ac (i+1+1)=i+1+1:=w64 (by omega) (by omega)
       simp only [List.length_cons]at hn hlen
       simp only [hx,cond_true,hw2]
       exact ih p (cur++[c,d]) r true out _ fr (by rw [hs];simp) (by rw [hi];simp;omega) hf (by omega) ho
   ·have c3:decide (by8 c=44)=false:=dF' (by have:=of_decide_eq_true c1;omega)
    cases q<;>simp [c3]
theorem qM (s:aa) (hl:s.length≤4000) (k:aa→Int→List aa→OR') (K:List aa→OR')
 (hk: ∀(p cur:aa) (fr:Int) (out:List aa),s=p++cur→fr=(p.length:Int)→out.length≤p.length→k s fr out=K (out++fZ [cur])): ∀(n:Nat) (p cur r:aa) (q:Bool) (out:List aa) (i fr:Int),s=p++cur++r→i=((p.length+cur.length:Nat):Int)→fr=(p.length:Int)→r.length<n→out.length≤p.length→
 bR n s fr q i out k=K (out++fZ (dY cur q r)):=by
 intro n;induction n with
 |zero=>intro p cur r q out i fr hs hi hf hn;omega
 |succ n ih=>
  intro p cur r q out i fr hs hi hf hn ho
  have hat:At s i r:=⟨p++cur,hs,by rw [hi];simp⟩
  have hlen:s.length=p.length+cur.length+r.length:=by rw [hs];simp;omega
  have hcut:cut s fr i=cur:=by rw [hs,hi,hf,Int.natCast_add];exact ot p cur r
  have hnf:decide (0≤fr)=true:=dT' (by omega)
  have hfi:decide (fr≤i)=true:=dT' (by omega)
  have hil:decide (i≤(s.length:Int))=true:=dT' (by omega)
  have hM:isM cur=true:=aW (n:=4000) (by omega)
  have hw:ac (i+1)=i+1:=w64 (by omega) (by omega)
  have hap:decide (out.length≤100000)=true:=dT' (by omega)
  unfold bR ec
  simp only [hcut,hnf,hfi,hil,hM,hw,hap,cond_true,hat.dnn,Bool.and_self]
  cases r with
  |nil=>
   simp only [hat.dge,cond_false,gp]
   exact hk p cur fr out (by rw [hs];simp) hf ho
  |cons c r=>
   simp only [List.length_cons]at hn hlen
   have hstep: ∀q',bR n s fr q' (i+1) out k=K (out++fZ (dY (cur++[c]) q' r)):=fun q'=>
    ih p (cur++[c]) r q' out (i+1) fr (by rw [hs];simp) (by rw [hi];simp;omega) hf (by omega) ho
   have hcom: ∀q' o,o.length≤p.length+1→bR n s (i+1) q' (i+1) o k=K (o++fZ (dY [] q' r)):=fun q' o ho'=>
    ih (p++cur++[c]) [] r q' o (i+1) (i+1) (by rw [hs];simp) (by rw [hi];simp;omega) (by rw [hi];simp;omega) (by omega) (by simp;omega)
   have h0:=hcom q out (by omega)
   have h1:=hcom q (out++[bH cur]) (by simp;omega)
   simp only [hat.dlt,hat.dnn,hat.str,cond_true,cond_false,h0,h1,hstep]
   rw [kW]
   cases c1:decide (by8 c=34)
   ·cases q
    ·cases c3:decide (by8 c=44)
     ·simp
     ·simp only [Bool.not_false,Bool.false_and,Bool.true_and,cond_true,cond_false,gq]
      cases decide (bH cur=[])<;>simp
    ·cases c2:decide (by8 c=92)
     ·simp
     ·simp only [Bool.not_true,Bool.true_and,cond_true,cond_false]
      have hw2:ac (i+1+1)=i+1+1:=w64 (by omega) (by omega)
      cases r with
      |nil=>
       simp only [List.length_nil]at hn hlen
       obtain⟨m,rfl⟩: ∃m,n=m+1:=⟨n-1,by omega⟩
       have hx:decide (i+1+1< (s.length:Int))=false:=dF' (by omega)
       rw [hw2]
       unfold bR ec
       simp only [hx,cond_false]
       exact hk p (cur++[c]) fr out (by rw [hs];simp) hf ho
      |cons d r=>
       simp only [List.length_cons]at hn hlen
       rw [hw2]
       exact ih p (cur++[c,d]) r true out _ fr (by rw [hs];simp) (by rw [hi];simp;omega) hf (by omega) ho
   ·have c3:decide (by8 c=44)=false:=dF' (by have:=of_decide_eq_true c1;omega)
    cases q<;>simp [c3]
def TQ (p:aa→List aa):List AV→List Ob→Br
 | [.str s],[]=>.ret (.ref 0 0) [.arr .str 0 false (p s)]
 |_,_=>.fail
theorem uM:Sound Kx 188 (TQ mE):=by
 refine(qJ (φ:=fun s=>.ret (.ref 0 0) [.arr .str 0 false (mE s)]) (fun s=>s.length+2) fun s r h=> ?_).of fun args objs r h=> ?_
 ·cases h
  unfold jP mE
  cases c:decide (4000< (s.length:Int))
  ·have:=of_decide_eq_false c
   simp only [cond_false]
   rw [qL s (by omega) _ (s.length+2) [] [] s false [] 0 0 rfl rfl rfl (by omega) (by simp)]
   rfl
  ·rfl
 ·unfold TQ at h;split at h
  ·exact h
  ·cases h
theorem Gg (p m:aa):cut (p++m) (p.length:Int) ((p++m).length:Int)=m:=by
 have:=ot p m []
 rw [List.append_nil]at this
 rw [←Int.natCast_add,←List.length_append]at this
 exact this
theorem uN:Sound Kx 201 (TQ mE):=by
 refine(qK (φ:=fun s=>.ret (.ref 0 0) [.arr .str 0 false (mE s)]) (fun s=>s.length+2) fun s r h=> ?_).of fun args objs r h=> ?_
 ·cases h
  unfold jR mE
  cases c:decide (4000< (s.length:Int))
  ·have hl:=of_decide_eq_false c
   simp only [cond_false]
   rw [qM s (by omega) _ (fun o=>some (.ref 0 0,[.arr .str 0 false o])) ?_ (s.length+2) [] [] s false [] 0 0 rfl rfl rfl (by omega) (by simp)]
   ·rfl
   ·intro p cur fr out hs hf ho
    have hlen:s.length=p.length+cur.length:=by rw [hs];simp
    have h1:cut s fr (s.length:Int)=cur:=by rw [hs,hf];exact Gg p cur
    have h2:isM cur=true:=aW (n:=4000) (by omega)
    simp only [h1,h2,dT' (show 0≤fr by omega),dT' (show fr≤(s.length:Int) by omega),dT' (show out.length≤100000 by omega),Bool.and_self,cond_true,gq,fZ]
    cases decide (bH cur=[])<;>simp
  ·rfl
 ·unfold TQ at h;split at h
  ·exact h
  ·cases h
end
end Go.Proofs.YtihabpimbfmhhaaGreatDoor.Ev
