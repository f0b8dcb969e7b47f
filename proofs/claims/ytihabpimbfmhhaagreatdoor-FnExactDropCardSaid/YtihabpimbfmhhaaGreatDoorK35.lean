/- The texts Ya, Yb, Yc, Yd, Ye, Yf, Yg, ContS, Yh, Yi, Yj, Yk, Yl, Ym, Yn, Yo, Za, Zb, Zc, Zd, Ze, Zf, Zg, Zh, Zi, Zj, Zk, Zl, Zm, Zn, Zo, Zp, Zq, Zr, MkS, Ca, Cb, Sa, Sb, one behind the other. -/
import Derived.Test.YtihabpimbfmhhaaGreatDoorK34
import Derived.Test.YtihabpimbfmhhaaGreatDoorK32
import Derived.Test.YtihabpimbfmhhaaGreatDoorK13
import Derived.Test.YtihabpimbfmhhaaGreatDoorK29
import Derived.Deep.LoopGhost
namespace Go.Proofs.YtihabpimbfmhhaaGreatDoor.Ev
open Go Go.RowKit
set_option linter.unusedVariables false
set_option linter.unusedSimpArgs false
noncomputable section
end
end Go.Proofs.YtihabpimbfmhhaaGreatDoor.Ev
namespace Go.Proofs.YtihabpimbfmhhaaGreatDoor.Ev
open Go Go.RowKit
set_option linter.unusedVariables false
set_option linter.unusedSimpArgs false
end Go.Proofs.YtihabpimbfmhhaaGreatDoor.Ev
namespace Go.Proofs.YtihabpimbfmhhaaGreatDoor.Ev
open Go Go.RowKit
set_option linter.unusedVariables false
set_option linter.unusedSimpArgs false
noncomputable section
def kf:Opt:={live:=[(2,[0,1,5])],outs:=[(2,[1,4])]}
def heldFieldS_C:SC:=[⟨64,_,dH⟩]
def de (al:(List Fd)) (ap aN:Int) (O_:(List Fd)→Int→Int→OR') (bG cz:Int→OR'):OR':=
 (bif(decide (aN< (al.length:Int)))then(bif(decide (0≤aN))then(bif(decide (aN< (al.length:Int)))then(bif((decide (0<ap))&&(decide (ap≤100000000)))then(bif(!(decide ((List.getD al (Int.toNat aN) (([]:aa),([]:aa))).1=(mtP ap))))then(bG ap)else(bif(decide (0≤aN))then(bif(decide (aN< (al.length:Int)))then(bif((decide (0< (ac (ap+1))))&&(decide ((ac (ap+1))≤100000000)))then(bif(!(decide ((List.getD al (Int.toNat aN) (([]:aa),([]:aa))).2=(mtP (ac (ap+1))))))then(bG (ac (ap+1)))else(O_ al (ac ((ac (ap+1))+1)) (ac (aN+1))))else(none))else(none))else(none)))else(none))else(none))else(none))else(cz ap))
def b6:Nat→(List Fd)→Int→Int→(Int→OR')→(Int→OR')→OR'
 |0,_,_,_,_,_=>none
 |n+1,al,ap,aN,bG,cz=>de al ap aN (fun al ap aN=>b6 n al ap aN bG cz) bG cz
abbrev heldFieldS_p2:SP:=⟨33,[0,1,5],[(.v (.sh (Ty.pair Ty.str Ty.str))),(.v (.i .i64)),(.v (.i .i64))],[]⟩
noncomputable def iJ:Code:=aG (aI Tryz.f78) [1,0,1,0,0]
def iK (f:(Int→OR')→(Int→OR')→OR') (k:KT):OR':=f (fun bH=>k Ex.ret ((St.mk (aE 0 33 [(1,(AV.int .i64 bH)),(4,(AV.int .i64 (-1)))]) ([]:(List (Nat×(Ob))))))) (fun dB=>k (Ex.exit 0) ((St.mk (aE 0 33 [(1,(AV.int .i64 dB))]) ([]:(List (Nat×(Ob)))))))
def iL (n:Nat) (d:heldFieldS_p2.D):KT→OR':=iK (b6 n d.1.1 d.1.2.1 d.1.2.2.1)
def kg (N:Nat):Lam:=bD [⟨2,heldFieldS_p2,iL N⟩]
theorem ol (N:Nat):OkL Kx heldFieldS_C.s kf 0 N (kg N) iJ:=okL heldFieldS_p2 (iL) (fun d kR=>iK (de d.1.1 d.1.2.1 d.1.2.2.1 (fun al ap aN=>kR ((al,ap,aN,()),())))) (fun _ _=>by kernel_rfl) (fun _ _ _=>by kernel_rfl) (fun _ _=>by kernel_rfl) (fun _ _ _ _=>by kernel_rfl) (ah (l':=[]) (by kernel_rfl) trivial)
def gk (N:Nat) (l:List Fd) (k:Int):OR':=(b6 N l k 0 (fun bH=>(some ((AV.int .i64 (-1)),[]))) (fun dB=>(some ((AV.int .i64 dB),[]))))
def gl (φ:(List Fd)→Int→Br):List AV→List Ob→Br
 | [.sh (.pair .str .str) l,.int .i64 k],[]=>φ l k
 |_,_=>.fail
theorem nT {φ:(List Fd)→Int→Br} (fu:(List Fd)→Int→Nat) (hv: ∀l k res_,(φ l k).val=some res_→gk (fu l k) l k=some res_):Sound Kx 78 (gl φ):=an (C:=heldFieldS_C) (O:=kf) Tryz.func78 (by kernel_rfl) fun args objs=>by
 unfold gl;split
 ·rename_i l k;exact .inr fun _ hyp_=>aV (Λ:=kg (fu l k)) (by kernel_rfl) (ah (l':=[iJ]) (by kernel_rfl) ⟨ol _,trivial⟩) (by kernel_rfl) (hv l k _ hyp_)
 ·exact .inl rfl
theorem nU (l:List Fd) (hl:l.length≤50000000) (k0 k1:Int→OR'): ∀(r:List Fd) (k i:Int) (n:Nat),At l i r→r.length<n→0<k→k+2*r.length≤100000000→r=cn r.length k→
 b6 n l k i k0 k1=k1 (k+2*r.length):=by
 intro r;induction r with
 |nil=>intro k i n h hn h0 h1 he;obtain⟨n,rfl⟩:=bC hn;unfold b6 de;rw [h.dge,cond_false];simp
 |cons a r ih=>
  intro k i n h hn h0 h1 he;obtain⟨n,rfl⟩:=bC hn
  simp only [List.length_cons,cn,List.cons.injEq]at he hn h1
  obtain⟨he,hr⟩:=he
  subst he
  have hw:ac (k+1)=k+1:=w64 (by omega) (by omega)
  have hw2:ac (k+1+1)=k+1+1:=w64 (by omega) (by omega)
  have hg:(decide (0<k)&&decide (k≤100000000))=true:=by rw [dT' h0,dT' (by omega)];rfl
  have hg2:(decide (0<k+1)&&decide (k+1≤100000000))=true:=by rw [dT' (by omega),dT' (by omega)];rfl
  unfold b6 de
  simp only [h.dlt,h.dnn,h.get,hg,hg2,hw,hw2,h.next (by omega),cond_true,cond_false,decide_true,Bool.not_true]
  rw [ih (k+1+1) (i+1) n h.step (by omega) (by omega) (by omega) hr]
  congr 1
  simp only [List.length_cons];omega
def Nd:List AV→List Ob→Br
 | [.sh (.pair .str .str) l,.int .i64 k],[]=>.ite (decide (0<k)&&decide (k+2*l.length≤100000000)&&decide (l=cn l.length k)) (.ret (.int .i64 (k+2*l.length)) []) .fail
 |_,_=>.fail
theorem om:Sound Kx 78 Nd:=by
 refine(nT (φ:=fun l k=>.ite (decide (0<k)&&decide (k+2*l.length≤100000000)&&decide (l=cn l.length k)) (.ret (.int .i64 (k+2*l.length)) []) .fail) (fun l _=>l.length+1) fun l k r h=> ?_).of fun args objs r h=> ?_
 ·obtain⟨h1,h2⟩:=af h
  cases h2
  rw [Bool.and_eq_true,Bool.and_eq_true,decide_eq_true_eq,decide_eq_true_eq,decide_eq_true_eq]at h1
  unfold gk
  exact nU l (by omega) _ _ l k 0 _ (At.start l) (by omega) h1.1.1 h1.1.2 h1.2
 ·unfold Nd at h;split at h
  ·exact h
  ·cases h
end
end Go.Proofs.YtihabpimbfmhhaaGreatDoor.Ev
namespace Go.Proofs.YtihabpimbfmhhaaGreatDoor.Ev
open Go Go.RowKit
set_option linter.unusedVariables false
set_option linter.unusedSimpArgs false
theorem fY: ∀(n:Nat) (k:Int),(cn n k).length=n
 |0,_=>rfl
 |n+1,k=>by simp [cn,fY n]
end Go.Proofs.YtihabpimbfmhhaaGreatDoor.Ev
namespace Go.Proofs.YtihabpimbfmhhaaGreatDoor.Ev
open Go Go.RowKit
set_option linter.unusedVariables false
set_option linter.unusedSimpArgs false
noncomputable section
def Ov {R:Type}:List Bool→Option R→Option R
 | [],x=>x
 |b::l,x=>bif b then Ov l x else none
def CO (e:En) (k:Int):En:=
 (mtP k,k+1,k+2,cn e.2.2.2.1.length (k+3),mtP (k+3+2*e.2.2.2.1.length),mtP (k+4+2*e.2.2.2.1.length),k+5+2*e.2.2.2.1.length,mtP (k+6+2*e.2.2.2.1.length),
  decide ((k+7+2*e.2.2.2.1.length).tmod 3=0),cn e.2.2.2.2.2.2.2.2.2.1.length (k+8+2*e.2.2.2.1.length),mtP (k+8+2*e.2.2.2.1.length+2*e.2.2.2.2.2.2.2.2.2.1.length))
def xK (e:En):Int:=9+2*e.2.2.2.1.length+2*e.2.2.2.2.2.2.2.2.2.1.length
def bq:List En→Int
 | []=>0
 |e::r=>xK e+bq r
def bj:List En→Int→List En
 | [],_=>[]
 |e::r,k=>CO e k::bj r (k+xK e)
theorem lj (e:En):9≤xK e:=by unfold xK;omega
theorem lk: ∀l,0≤bq l
 | []=>Int.le_refl _
 |e::r=>by have:=lj e;have:=lk r;simp only [bq];omega
noncomputable def Nf (f:Func):Code:=match f.body with|some c=>c|none=>.skip
noncomputable def sqA:Code→Code| .seq a _=>a|c=>c
noncomputable def sqB:Code→Code| .seq _ b=>b|c=>c
noncomputable def O5:Code→Code| .block _ b=>b|c=>c
noncomputable def O6:Code→Code| .loop b=>b|c=>c
def mkC:cf:=add (add noS 64 Oo) 54 K2
theorem J3: ∀fn,Sound Kx fn (mkC fn):=ik (ik (fun fn=>qZ Kx fn) dH) oi
def mkO:Opt:={mutF:=[54]}
noncomputable def mkB:Code:=Nf Tryz.f42
noncomputable def mkX:Code:=O6 (O5 (sqB (sqA (sqB mkB))))
def xL (x:AV) (k i:Int):List AV:=putS (putS (putS (List.replicate 104 .undef) 0 x) 1 (.int .i64 k)) 5 (.int .i64 i)
def xM (e:Ex) (st:St):Option (Ex×St):=some (e,⟨only [0,1,5] 0 st.env,st.objs⟩)
theorem Lp:mkB= .seq (sqA mkB) (.seq (.seq (sqA (sqA (sqB mkB))) (.block 0 (.loop mkX))) (sqB (sqB mkB))):=by kernel_rfl
theorem Ng:mkX= .seq (sqA mkX) (sqB mkX):=by kernel_rfl
theorem Ow (xs:List En) (k:Int):evK Kx mkC mkO 1 1 (sqA mkB) (start Tryz.f42 [.ref 0 0,.int .i64 k] [.arr EnT 0 false xs]) xM=some (.normal,⟨putS (putS (List.replicate 104 .undef) 0 (.ref 0 0)) 1 (.int .i64 k),[(0,.arr EnT 0 false xs)]⟩):=by kernel_rfl
theorem Ox (xs:List En) (k:Int):evK Kx mkC mkO 1 1 (sqA (sqA (sqB mkB))) ⟨putS (putS (List.replicate 104 .undef) 0 (.ref 0 0)) 1 (.int .i64 k),[(0,.arr EnT 0 false xs)]⟩ xM=some (.normal,⟨xL (.ref 0 0) k 0,[(0,.arr EnT 0 false xs)]⟩):=by kernel_rfl
theorem GF (xs:List En) (k i:Int):evK Kx mkC mkO 1 1 (sqA mkX) ⟨xL (.ref 0 0) k i,[(0,.arr EnT 0 false xs)]⟩ xM=
 bif decide (i< (xs.length:Int))then some (.normal,⟨xL (.ref 0 0) k i,[(0,.arr EnT 0 false xs)]⟩)else some (.exit 0,⟨xL (.ref 0 0) k i,[(0,.arr EnT 0 false xs)]⟩):=by kernel_rfl
def swk (k:Int):Int:=ac (k+1)
def mtT (k:Int):Bool:=decide (0<k)&&decide (k≤100000000)
def mfT (k:Int) (l:List Fd):Bool:=decide (0<k)&&decide (k+2* (l.length:Int)≤100000000)
theorem IV (k i:Int) (n c:Nat) (ur:aa) (t1 t2:Int) (ak:List Fd) (me ta:aa) (st:Int) (re:aa) (ba:Bool) (fs:List Fd) (bo:aa):
 evK Kx mkC mkO 3 1 (sqB mkX) ⟨xL (.wref 0 EnT n c i) k i,C6 0 (xeO (ur,t1,t2,ak,me,ta,st,re,ba,fs,bo))⟩ xM=
 Ov [mtT k,decide (0≤i),decide (i< (n:Int)),decide (i=i),decide (0≤i),decide (i< (n:Int)),decide (i=i),decide (0≤i),decide (i< (n:Int)),decide (i=i),decide (0≤i),decide (i< (n:Int)),decide (i=i),
  mfT (swk (swk (swk k))) ak,mtT (swk (swk (swk k))+2*ak.length),decide (0≤i),decide (i< (n:Int)),decide (i=i),mtT (swk (swk (swk (swk k))+2*ak.length)),decide (0≤i),decide (i< (n:Int)),decide (i=i),
  decide (0≤i),decide (i< (n:Int)),decide (i=i),mtT (swk (swk (swk (swk (swk (swk k))+2*ak.length)))),decide (0≤i),decide (i< (n:Int)),decide (i=i),decide (0≤i),decide (i< (n:Int)),decide (i=i),decide (0≤i),decide (i< (n:Int)),decide (i=i),
  mfT (swk (swk (swk (swk (swk (swk (swk (swk k))+2*ak.length)))))) fs,mtT (swk (swk (swk (swk (swk (swk (swk (swk k))+2*ak.length)))))+2*fs.length),decide (0≤i),decide (i< (n:Int)),decide (i=i)]
  (some (.normal,⟨xL (.wref 0 EnT n c i) (swk (swk (swk (swk (swk (swk (swk (swk (swk k))+2*ak.length)))))+2*fs.length)) (ac (i+1)),
   C6 0 (xeO (mtP k,swk k,swk (swk k),cn ak.length (swk (swk (swk k))),mtP (swk (swk (swk k))+2*ak.length),mtP (swk (swk (swk (swk k))+2*ak.length)),swk (swk (swk (swk (swk k))+2*ak.length)),
    mtP (swk (swk (swk (swk (swk (swk k))+2*ak.length)))),decide ((swk (swk (swk (swk (swk (swk (swk k))+2*ak.length))))).tmod 3=0),cn fs.length (swk (swk (swk (swk (swk (swk (swk (swk k))+2*ak.length)))))),
    mtP (swk (swk (swk (swk (swk (swk (swk (swk k))+2*ak.length)))))+2*fs.length)))⟩)):=by kernel_rfl
theorem iM {v u:Int} (h:u=v+1) (h0:0<v) (h1:v≤100000000):swk v=u:=by unfold swk;rw [w64 (by omega) (by omega),h]
theorem iN {k:Int} (h0:0<k) (h1:k≤100000000):mtT k=true:=by unfold mtT;rw [dT' h0,dT' h1];rfl
theorem AC {k:Int} {l:List Fd} (h0:0<k) (h1:k+2* (l.length:Int)≤100000000):mfT k l=true:=by unfold mfT;rw [dT' h0,dT' h1];rfl
theorem GG (k i:Int) (n c:Nat) (x:En) (h0:0<k) (h1:k+xK x≤100000000) (hi:0≤i) (hn:i< (n:Int)) (hi2:i≤100000000):
 evK Kx mkC mkO 3 1 (sqB mkX) ⟨xL (.wref 0 EnT n c i) k i,C6 0 (xeO x)⟩ xM=some (.normal,⟨xL (.wref 0 EnT n c i) (k+xK x) (i+1),C6 0 (xeO (CO x k))⟩):=by
 obtain⟨ur,t1,t2,ak,me,ta,st,re,ba,fs,bo⟩:=x
 unfold xK at h1⊢
 simp only at h1
 have e1:swk k=k+1:=iM rfl h0 (by omega)
 have e2:swk (k+1)=k+2:=iM (by omega) (by omega) (by omega)
 have e3:swk (k+2)=k+3:=iM (by omega) (by omega) (by omega)
 have e4:swk (k+3+2* (ak.length:Int))=k+4+2* (ak.length:Int):=iM (by omega) (by omega) (by omega)
 have e5:swk (k+4+2* (ak.length:Int))=k+5+2* (ak.length:Int):=iM (by omega) (by omega) (by omega)
 have e6:swk (k+5+2* (ak.length:Int))=k+6+2* (ak.length:Int):=iM (by omega) (by omega) (by omega)
 have e7:swk (k+6+2* (ak.length:Int))=k+7+2* (ak.length:Int):=iM (by omega) (by omega) (by omega)
 have e8:swk (k+7+2* (ak.length:Int))=k+8+2* (ak.length:Int):=iM (by omega) (by omega) (by omega)
 have e9:swk (k+8+2* (ak.length:Int)+2* (fs.length:Int))=k+(9+2* (ak.length:Int)+2* (fs.length:Int)):=iM (by omega) (by omega) (by omega)
 have d0:decide (0≤i)=true:=dT' hi
 have d1:decide (i< (n:Int))=true:=dT' hn
 have d2:decide (i=i)=true:=dT' rfl
 have m0:=iN h0 (by omega:k≤100000000)
 have m1:mtT (k+3+2* (ak.length:Int))=true:=iN (by omega) (by omega)
 have m2:mtT (k+4+2* (ak.length:Int))=true:=iN (by omega) (by omega)
 have m3:mtT (k+6+2* (ak.length:Int))=true:=iN (by omega) (by omega)
 have m4:mtT (k+8+2* (ak.length:Int)+2* (fs.length:Int))=true:=iN (by omega) (by omega)
 have f1:mfT (k+3) ak=true:=AC (by omega) (by omega)
 have f2:mfT (k+8+2* (ak.length:Int)) fs=true:=AC (by omega) (by omega)
 rw [IV,w64 (by omega) (by omega)]
 simp only [e1,e2,e3,e4,e5,e6,e7,e8,e9,Ov,d0,d1,d2,m0,m1,m2,m3,m4,f1,f2,cond_true]
 rfl
theorem GH {w0:World} {M0:Bd} {L0 L:Lk} {st stE:St} {a:Act} {w:World} {m:Nat} {c:Code} {e:Ex} {Q:Exit→Act→World→Prop} (R:Rl Kx w0 M0 L st a w) (hk:Kept m L0 L)
 (h:evK Kx mkC mkO m 1 c st xM=some (e,stE)) (hQ: ∀L' a' w',Rl Kx w0 M0 L' stE a' w'→Kept m L0 L'→Q (exE e) a' w'):c.wp Kx.P Q a w:=
 fm KOk J3 c R hk h fun e' L' st' a' w' R' hk' h'=>by
  simp only [xM,Option.some.injEq,Prod.mk.injEq]at h'
  obtain⟨rfl,rfl⟩:=h'
  exact hQ L' a' w' ⟨R'.ro,R'.ob,ic _ 0 R'.env,R'.df⟩ hk'
theorem qr {L:Lk} {w:World} {M:Nat→Nat→Prop}: ∀(cs:List Value),aA L w M (List.replicate cs.length .undef) cs
 | []=>by simp [aA]
 |c::cs=>by simp only [List.length_cons,List.replicate_succ,aA];exact⟨c,cs,rfl,by simp [rel],qr cs⟩
theorem nV {L:Lk} {w:World} {M:Nat→Nat→Prop} {xs:List AV} {cs:List Value} (h:aA L w M xs cs) (n:Nat) {x:AV} (hx:rel L w M x (cs.getD n undef)):aA L w M (putS xs n x) cs:=by
 have:=hY h n hx
 have e1:cs.set n (cs.getD n undef)=cs:=by
  apply List.ext_getElem?
  intro i
  rw [List.getElem?_set]
  split
  ·rename_i he
   subst he
   split
   ·rename_i hl;rw [List.getD_eq_getElem?_getD,List.getElem?_eq_getElem hl];rfl
   ·rename_i hl;rw [List.getElem?_eq_none (by omega)]
  ·rfl
 rwa [e1]at this
theorem AD {L L':Lk} {w w':World} {M M':Nat→Nat→Prop} {x y:AV} {k i:Int} {cs:List Value} (h:aA L w M (xL x k i) cs) (hx: ∀v,rel L w M x v→rel L' w' M' y v):aA L' w' M' (xL y k i) cs:=by
 have hl:cs.length=104:=by rw [bf h];rfl
 have g0:=hx _ (cU h 0)
 have g1:=cU h 1
 have g5:=cU h 5
 have e1:getS (xL x k i) 1= .int .i64 k:=by kernel_rfl
 have e5:getS (xL x k i) 5= .int .i64 i:=by kernel_rfl
 rw [e1]at g1
 rw [e5]at g5
 have hu:=qr (L:=L') (w:=w') (M:=M') cs
 rw [hl]at hu
 exact nV (nV (nV hu 0 g0) 1 (by simpa only [rel]using g1)) 5 (by simpa only [rel]using g5)
def J4:List AV→List Ob→Br
 | [.ref 0 0,.int .i64 k],[.arr (.pair .str (.pair (.int .i64) (.pair (.int .i64) (.pair (.slice (.pair .str .str)) (.pair .str (.pair .str (.pair (.int .i64) (.pair .str (.pair .bool (.pair (.slice (.pair .str .str)) .str)))))))))) 0 false l]=>
   .ite (decide (0<k)&&decide (k+bq l≤100000000)&&decide (l.length≤10000000)) (.ret (.int .i64 (k+bq l)) [.arr (.pair .str (.pair (.int .i64) (.pair (.int .i64) (.pair (.slice (.pair .str .str)) (.pair .str (.pair .str (.pair (.int .i64) (.pair .str (.pair .bool (.pair (.slice (.pair .str .str)) .str)))))))))) 0 false (bj l k)]) .fail
 |_,_=>.fail
def Nh (e:Ex) (st:St):Option (AV×List Ob):=match e with| .exit _=>none|_=>LM Kx mkO 1 Tryz.f42 st
theorem Ni (xs:List En) (k i:Int):evK Kx mkC mkO 1 1 (sqB (sqB mkB)) ⟨xL (.ref 0 0) k i,[(0,.arr EnT 0 false xs)]⟩ Nh=some (.int .i64 k,[.arr EnT 0 false xs]):=by kernel_rfl
theorem oo:Sound Kx 42 J4:=by
 intro args objs res objs' hv w L vs ro hob hargs
 unfold J4 at hv
 split at hv
 case h_2=>cases hv
 rename_i k l
 obtain⟨h1,h2⟩:=af hv
 cases h2
 rw [Bool.and_eq_true,Bool.and_eq_true,decide_eq_true_eq,decide_eq_true_eq,decide_eq_true_eq]at h1
 obtain⟨⟨hk0,hk1⟩,hll⟩:=h1
 have hf:=Tryz.func42
 have hb:(Tryz.f42).body=some mkB:=by kernel_rfl
 refine .inl ⟨calls_of_wp hf hb ?_,_,_,hf,by kernel_rfl,hb⟩
 have R0:=yo (f:=Tryz.f42) ro hob hargs
 rw [Lp]
 refine wp_seq (GH R0 (Kept.refl 1 L) (Ow l k) fun L1 a1 w1 R1 hk1'=> ?_)
 refine wp_seq (wp_seq (GH R1 hk1' (Ox l k) fun L2 a2 w2 R2 hk2=> ?_))
 refine wp_block (wp_loop_ghost (fun f a w'=> ∃L' pre r k',Rl Kx w ⟨eU L,L.F⟩ L' ⟨xL (.ref 0 0) k' (pre.length:Int),[(0,.arr EnT 0 false (pre++r))]⟩ a w'∧Kept 1 L L'∧f=r.length∧pre++bj r k'=bj l k∧(pre++r).length=l.length∧0<k'∧k'+bq r=k+bq l)
  l.length ⟨L2,[],l,k,R2,hk2,rfl,rfl,rfl,hk0,rfl⟩ ?_)
 rintro f a w' ⟨L',pre,r,k',R,hk,rfl,hm,hlen,hp,hs⟩
 rw [Ng]
 cases r with
 |nil=>
  have hd:decide ((pre.length:Int)< ((pre++([]:List En)).length:Int))=false:=dF' (by simp)
  refine wp_seq (GH R hk (by rw [GF,hd];rfl) fun L3 a3 w3 R3 hk3=> ?_)
  show(sqB (sqB mkB)).wp _ _ _ _
  have e1:pre++[]=bj l k:=hm
  have e2:k'=k+bq l:=by simpa only [bq,Int.add_zero]using hs
  rw [e1,e2]at R3
  refine fm KOk J3 _ R3 hk3 (Ni _ _ _) fun e L4 st4 a4 w4 R4 hk4 h4=> ?_
  cases e with
  |normal=>exact yp KOk R4 hk4 h4
  |ret=>exact yp KOk R4 hk4 h4
  |exit i=>cases h4
 |cons x r=>
  have hd:decide ((pre.length:Int)< ((pre++x::r).length:Int))=true:=dT' (by simp only [List.length_append,List.length_cons];omega)
  refine wp_seq (GH R hk (by rw [GF,hd];rfl) fun L3 a3 w3 R3 hk3=> ?_)
  show(sqB mkX).wp _ _ _ _
  have hob3:=R3.ob
  obtain⟨l3,hL3⟩: ∃l3,L3 0=some (l3,.arr EnT 0 false (pre++x::r)):=by
   have:=hob3 0
   cases hc:L3 0 with
   |none=>rw [hc]at this;cases this
   |some p=>
    rw [hc]at this
    obtain⟨l3,y⟩:=p
    simp only [getO,if_true,Option.map_some,Option.some.injEq]at this
    exact⟨l3,by rw [←this]⟩
  have hin:pre.length< (pre++x::r).length:=by simp
  have hx:(pre++x::r)[pre.length]=x:=by simp
  obtain⟨b,o,cap,l1,l2,hbase,Ro,close⟩:=CA KOk R3.ro hL3 hin
  rw [hx]at Ro close
  have hcs:=lk r
  simp only [bq]at hs
  simp only [List.length_append,List.length_cons]at hlen
  have Rx:Rl Kx w3 ⟨eU (xeL L3.F ⟨some (b,o+pre.length*11),cap,[]⟩ l1 l2 x),L3.F⟩ (xeL L3.F ⟨some (b,o+pre.length*11),cap,[]⟩ l1 l2 x) ⟨xL (.wref 0 EnT (pre++x::r).length l3.cap (pre.length:Int)) k' (pre.length:Int),C6 0 (xeO x)⟩ a3 w3:=by
   refine⟨Ro,fun i=> ?_,AD R3.env fun v hv=> ?_,R3.df⟩
   ·match i with
    |0=>rfl
    |1=>rfl
    |2=>rfl
    |i+3=>simp [C6,xeO,getO,xeL]
   ·simp only [rel]at hv⊢
    obtain⟨l4,e4,cur,z,xs4,p,n4,c4,u1,u2,rfl,u3⟩:=hv
    rw [hL3]at u1
    simp only [Option.some.injEq,Prod.mk.injEq,Ob.arr.injEq]at u1
    obtain⟨rfl,rfl,rfl,rfl,hxs⟩:=u1
    have hxs:=eq_of_heq hxs
    subst hxs
    obtain⟨rfl,rfl,rfl⟩:=u3 rfl
    exact⟨b,o,cap,_,by rw [Int.toNat_natCast];rfl,by simp only [Loc.addr,hbase];rfl⟩
  refine GH Rx (Kept.refl 3 _) (GG k' (pre.length:Int) (pre++x::r).length l3.cap x hp (by omega) (by omega) (by simp only [List.length_append,List.length_cons];omega) (by omega)) fun L4 a4 w4 R4 hk4=> ?_
  obtain⟨q1,q2⟩:=close L4 w4 (CO x k') R4.ro hk4 (fun j hj=>by
   have:=R4.ob j
   rw [←this]
   match j,hj with
   |0,_=>rfl
   |1,_=>rfl
   |2,_=>rfl) (fY _ _) (fY _ _)
  have hset:(pre++x::r).set pre.length (CO x k')=(pre++[CO x k'])++r:=by rw [gz,DT]
  rw [hset]at q1 q2
  have hc:=lj x
  refine⟨r.length,by simp,_,pre++[CO x k'],r,k'+xK x,⟨q1,fun j=> ?_, ?_,R4.df⟩,hk3.turn q2,rfl, ?_, ?_,by omega,by omega⟩
  ·by_cases hj:j=0
   ·subst hj;rw [ax];rfl
   ·rw [aD L3 _ hj,←hob3 j]
    simp [getO,Ne.symm hj]
  ·have hle:((pre++[CO x k']).length:Int)=(pre.length:Int)+1:=by simp
   rw [hle]
   refine AD R4.env fun v hv=> ?_
   simp only [rel]at hv⊢
   obtain⟨b4,o4,cap4,cs4,u1,rfl⟩:=hv
   obtain⟨p5,x5,u2,rfl,cs5,rfl⟩:=hk4 0 (by omega) _ _ rfl
   rw [u2]at u1
   simp only [Option.some.injEq,Prod.mk.injEq,Loc.mk.injEq,Int.toNat_natCast]at u1
   obtain⟨⟨⟨rfl,u3⟩,_⟩,_⟩:=u1
   have u4:o4=o:=Nat.add_right_cancel u3.symm
   subst u4
   refine⟨_,_,_,_,_,_,_,_,ax _ _ _,Nat.le_refl _,rfl,fun _=>⟨by simp only [Loc.addr,hbase];rfl,by simp,rfl⟩⟩
  ·rw [←hm];simp [bj]
  ·simp only [List.length_append,List.length_cons,List.length_nil];omega
def kh:Opt:={live:=[(2,[0,1,5])],outs:=[(2,[1,4])]}
def heldEntryS_C:SC:=[⟨78,_,om⟩,⟨64,_,dH⟩]
def dg (al:(List En)) (ap aN:Int) (O_:(List En)→Int→Int→OR') (bG cz:Int→OR'):OR':=
 (bif(decide (aN< (al.length:Int)))then(bif(decide (0≤aN))then(bif(decide (aN< (al.length:Int)))then(bif((decide (0<ap))&&(decide (ap≤100000000)))then(bif(!(decide ((List.getD al (Int.toNat aN) en0).1=(mtP ap))))then(bG ap)else(bif(decide (0≤aN))then(bif(decide (aN< (al.length:Int)))then(bif(!(decide ((List.getD al (Int.toNat aN) en0).2.1=(ac (ap+1)))))then(bG (ac (ap+1)))else(bif(decide (0≤aN))then(bif(decide (aN< (al.length:Int)))then(bif(!(decide ((List.getD al (Int.toNat aN) en0).2.2.1=(ac ((ac (ap+1))+1)))))then(bG (ac ((ac (ap+1))+1)))else(bif(decide (0≤aN))then(bif(decide (aN< (al.length:Int)))then(bif(((decide (0< (ac ((ac ((ac (ap+1))+1))+1))))&&(decide (((ac ((ac ((ac (ap+1))+1))+1))+(2* ((List.length (List.getD al (Int.toNat aN) en0).2.2.2.1):Int)))≤100000000)))&&(decide ((List.getD al (Int.toNat aN) en0).2.2.2.1=(cn (List.length (List.getD al (Int.toNat aN) en0).2.2.2.1) (ac ((ac ((ac (ap+1))+1))+1))))))then(bif(decide (((ac ((ac ((ac (ap+1))+1))+1))+(2* ((List.length (List.getD al (Int.toNat aN) en0).2.2.2.1):Int)))<0))then(bG ((ac ((ac ((ac (ap+1))+1))+1))+(2* ((List.length (List.getD al (Int.toNat aN) en0).2.2.2.1):Int))))else(bif(decide (0≤aN))then(bif(decide (aN< (al.length:Int)))then(bif((decide (0< ((ac ((ac ((ac (ap+1))+1))+1))+(2* ((List.length (List.getD al (Int.toNat aN) en0).2.2.2.1):Int)))))&&(decide (((ac ((ac ((ac (ap+1))+1))+1))+(2* ((List.length (List.getD al (Int.toNat aN) en0).2.2.2.1):Int)))≤100000000)))then(bif(!(decide ((List.getD al (Int.toNat aN) en0).2.2.2.2.1=(mtP ((ac ((ac ((ac (ap+1))+1))+1))+(2* ((List.length (List.getD al (Int.toNat aN) en0).2.2.2.1):Int)))))))then(bG ((ac ((ac ((ac (ap+1))+1))+1))+(2* ((List.length (List.getD al (Int.toNat aN) en0).2.2.2.1):Int))))else(bif(decide (0≤aN))then(bif(decide (aN< (al.length:Int)))then(bif((decide (0< (ac (((ac ((ac ((ac (ap+1))+1))+1))+(2* ((List.length (List.getD al (Int.toNat aN) en0).2.2.2.1):Int)))+1))))&&(decide ((ac (((ac ((ac ((ac (ap+1))+1))+1))+(2* ((List.length (List.getD al (Int.toNat aN) en0).2.2.2.1):Int)))+1))≤100000000)))then(bif(!(decide ((List.getD al (Int.toNat aN) en0).2.2.2.2.2.1=(mtP (ac (((ac ((ac ((ac (ap+1))+1))+1))+(2* ((List.length (List.getD al (Int.toNat aN) en0).2.2.2.1):Int)))+1))))))then(bG (ac (((ac ((ac ((ac (ap+1))+1))+1))+(2* ((List.length (List.getD al (Int.toNat aN) en0).2.2.2.1):Int)))+1)))else(bif(decide (0≤aN))then(bif(decide (aN< (al.length:Int)))then(bif(!(decide ((List.getD al (Int.toNat aN) en0).2.2.2.2.2.2.1=(ac ((ac (((ac ((ac ((ac (ap+1))+1))+1))+(2* ((List.length (List.getD al (Int.toNat aN) en0).2.2.2.1):Int)))+1))+1)))))then(bG (ac ((ac (((ac ((ac ((ac (ap+1))+1))+1))+(2* ((List.length (List.getD al (Int.toNat aN) en0).2.2.2.1):Int)))+1))+1)))else(bif(decide (0≤aN))then(bif(decide (aN< (al.length:Int)))then(bif((decide (0< (ac ((ac ((ac (((ac ((ac ((ac (ap+1))+1))+1))+(2* ((List.length (List.getD al (Int.toNat aN) en0).2.2.2.1):Int)))+1))+1))+1))))&&(decide ((ac ((ac ((ac (((ac ((ac ((ac (ap+1))+1))+1))+(2* ((List.length (List.getD al (Int.toNat aN) en0).2.2.2.1):Int)))+1))+1))+1))≤100000000)))then(bif(!(decide ((List.getD al (Int.toNat aN) en0).2.2.2.2.2.2.2.1=(mtP (ac ((ac ((ac (((ac ((ac ((ac (ap+1))+1))+1))+(2* ((List.length (List.getD al (Int.toNat aN) en0).2.2.2.1):Int)))+1))+1))+1))))))then(bG (ac ((ac ((ac (((ac ((ac ((ac (ap+1))+1))+1))+(2* ((List.length (List.getD al (Int.toNat aN) en0).2.2.2.1):Int)))+1))+1))+1)))else(bif(decide (0≤aN))then(bif(decide (aN< (al.length:Int)))then(bif(!((List.getD al (Int.toNat aN) en0).2.2.2.2.2.2.2.2.1==(decide ((Int.tmod (ac ((ac ((ac ((ac (((ac ((ac ((ac (ap+1))+1))+1))+(2* ((List.length (List.getD al (Int.toNat aN) en0).2.2.2.1):Int)))+1))+1))+1))+1)) 3)=0))))then(bG (ac ((ac ((ac ((ac (((ac ((ac ((ac (ap+1))+1))+1))+(2* ((List.length (List.getD al (Int.toNat aN) en0).2.2.2.1):Int)))+1))+1))+1))+1)))else(bif(decide (0≤aN))then(bif(decide (aN< (al.length:Int)))then(bif(((decide (0< (ac ((ac ((ac ((ac ((ac (((ac ((ac ((ac (ap+1))+1))+1))+(2* ((List.length (List.getD al (Int.toNat aN) en0).2.2.2.1):Int)))+1))+1))+1))+1))+1))))&&(decide (((ac ((ac ((ac ((ac ((ac (((ac ((ac ((ac (ap+1))+1))+1))+(2* ((List.length (List.getD al (Int.toNat aN) en0).2.2.2.1):Int)))+1))+1))+1))+1))+1))+(2* ((List.length (List.getD al (Int.toNat aN) en0).2.2.2.2.2.2.2.2.2.1):Int)))≤100000000)))&&(decide ((List.getD al (Int.toNat aN) en0).2.2.2.2.2.2.2.2.2.1=(cn (List.length (List.getD al (Int.toNat aN) en0).2.2.2.2.2.2.2.2.2.1) (ac ((ac ((ac ((ac ((ac (((ac ((ac ((ac (ap+1))+1))+1))+(2* ((List.length (List.getD al (Int.toNat aN) en0).2.2.2.1):Int)))+1))+1))+1))+1))+1))))))then(bif(decide (((ac ((ac ((ac ((ac ((ac (((ac ((ac ((ac (ap+1))+1))+1))+(2* ((List.length (List.getD al (Int.toNat aN) en0).2.2.2.1):Int)))+1))+1))+1))+1))+1))+(2* ((List.length (List.getD al (Int.toNat aN) en0).2.2.2.2.2.2.2.2.2.1):Int)))<0))then(bG ((ac ((ac ((ac ((ac ((ac (((ac ((ac ((ac (ap+1))+1))+1))+(2* ((List.length (List.getD al (Int.toNat aN) en0).2.2.2.1):Int)))+1))+1))+1))+1))+1))+(2* ((List.length (List.getD al (Int.toNat aN) en0).2.2.2.2.2.2.2.2.2.1):Int))))else(bif(decide (0≤aN))then(bif(decide (aN< (al.length:Int)))then(bif((decide (0< ((ac ((ac ((ac ((ac ((ac (((ac ((ac ((ac (ap+1))+1))+1))+(2* ((List.length (List.getD al (Int.toNat aN) en0).2.2.2.1):Int)))+1))+1))+1))+1))+1))+(2* ((List.length (List.getD al (Int.toNat aN) en0).2.2.2.2.2.2.2.2.2.1):Int)))))&&(decide (((ac ((ac ((ac ((ac ((ac (((ac ((ac ((ac (ap+1))+1))+1))+(2* ((List.length (List.getD al (Int.toNat aN) en0).2.2.2.1):Int)))+1))+1))+1))+1))+1))+(2* ((List.length (List.getD al (Int.toNat aN) en0).2.2.2.2.2.2.2.2.2.1):Int)))≤100000000)))then(bif(!(decide ((List.getD al (Int.toNat aN) en0).2.2.2.2.2.2.2.2.2.2=(mtP ((ac ((ac ((ac ((ac ((ac (((ac ((ac ((ac (ap+1))+1))+1))+(2* ((List.length (List.getD al (Int.toNat aN) en0).2.2.2.1):Int)))+1))+1))+1))+1))+1))+(2* ((List.length (List.getD al (Int.toNat aN) en0).2.2.2.2.2.2.2.2.2.1):Int)))))))then(bG ((ac ((ac ((ac ((ac ((ac (((ac ((ac ((ac (ap+1))+1))+1))+(2* ((List.length (List.getD al (Int.toNat aN) en0).2.2.2.1):Int)))+1))+1))+1))+1))+1))+(2* ((List.length (List.getD al (Int.toNat aN) en0).2.2.2.2.2.2.2.2.2.1):Int))))else(O_ al (ac (((ac ((ac ((ac ((ac ((ac (((ac ((ac ((ac (ap+1))+1))+1))+(2* ((List.length (List.getD al (Int.toNat aN) en0).2.2.2.1):Int)))+1))+1))+1))+1))+1))+(2* ((List.length (List.getD al (Int.toNat aN) en0).2.2.2.2.2.2.2.2.2.1):Int)))+1)) (ac (aN+1))))else(none))else(none))else(none)))else(none))else(none))else(none)))else(none))else(none)))else(none))else(none))else(none)))else(none))else(none)))else(none))else(none))else(none)))else(none))else(none))else(none)))else(none))else(none))else(none)))else(none))else(none)))else(none))else(none)))else(none))else(none))else(none))else(cz ap))
def b7:Nat→(List En)→Int→Int→(Int→OR')→(Int→OR')→OR'
 |0,_,_,_,_,_=>none
 |n+1,al,ap,aN,bG,cz=>dg al ap aN (fun al ap aN=>b7 n al ap aN bG cz) bG cz
abbrev heldEntryS_p2:SP:=⟨126,[0,1,5],[(.v (.sh EnT)),(.v (.i .i64)),(.v (.i .i64))],[]⟩
noncomputable def iO:Code:=aG (aI Tryz.f43) [1,0,1,0,0]
def iP (f:(Int→OR')→(Int→OR')→OR') (k:KT):OR':=f (fun bH=>k Ex.ret ((St.mk (aE 0 126 [(1,(AV.int .i64 bH)),(4,(AV.int .i64 (-1)))]) ([]:(List (Nat×(Ob))))))) (fun dB=>k (Ex.exit 0) ((St.mk (aE 0 126 [(1,(AV.int .i64 dB))]) ([]:(List (Nat×(Ob)))))))
def iQ (n:Nat) (d:heldEntryS_p2.D):KT→OR':=iP (b7 n d.1.1 d.1.2.1 d.1.2.2.1)
def km (N:Nat):Lam:=bD [⟨2,heldEntryS_p2,iQ N⟩]
theorem oq (N:Nat):OkL Kx heldEntryS_C.s kh 0 N (km N) iO:=okL heldEntryS_p2 (iQ) (fun d kR=>iP (dg d.1.1 d.1.2.1 d.1.2.2.1 (fun al ap aN=>kR ((al,ap,aN,()),())))) (fun _ _=>by kernel_rfl) (fun _ _ _=>by kernel_rfl) (fun _ _=>by kernel_rfl) (fun _ _ _ _=>by kernel_rfl) (ah (l':=[]) (by kernel_rfl) trivial)
def gm (N:Nat) (l:List En) (k:Int):OR':=(b7 N l k 0 (fun bH=>(some ((AV.int .i64 (-1)),[]))) (fun dB=>(some ((AV.int .i64 dB),[]))))
def gn (φ:(List En)→Int→Br):List AV→List Ob→Br
 | [.sh EnT l,.int .i64 k],[]=>φ l k
 |_,_=>.fail
theorem nW {φ:(List En)→Int→Br} (fu:(List En)→Int→Nat) (hv: ∀l k res_,(φ l k).val=some res_→gm (fu l k) l k=some res_):Sound Kx 43 (gn φ):=an (C:=heldEntryS_C) (O:=kh) Tryz.func43 (by kernel_rfl) fun args objs=>by
 unfold gn;split
 ·rename_i l k;exact .inr fun _ hyp_=>aV (Λ:=km (fu l k)) (by kernel_rfl) (ah (l':=[iO]) (by kernel_rfl) ⟨oq _,trivial⟩) (by kernel_rfl) (hv l k _ hyp_)
 ·exact .inl rfl
def xN:Opt:={mutF:=[42]}
def xO:SC:=[⟨42,_,oo⟩]
def vK (bu:Int) (l:List En) (k:Int):Br:=(Br.ite (((decide (0<k))&&(decide ((k+(bq l))≤100000000)))&&(decide (l.length≤10000000))) (Br.ret (AV.int .i64 (k+(bq l))) ((Ob.arr EnT 0 false (bj l k))::[])) Br.fail)
def nX:List AV→List Ob→Br
 | [.agg [.int .i64 bu,.ref 0 0],.int .i64 k],[.arr EnT 0 false l]=>vK bu l k
 |_,_=>.fail
theorem vL:Sound Kx 13 nX:=ae (C:=xO) (O:=xN) Tryz.func13 (by kernel_rfl) fun args objs=>by
 unfold nX;split
 ·exact .inr (by kernel_rfl)
 ·exact .inl rfl
theorem dcP {a b:Int} (h:a<b):decide (a<b)=true:=dT' h
theorem dcL {a b:Int} (h:a≤b):decide (a≤b)=true:=dT' h
theorem dcN {a b:Int} (h: ¬a<b):decide (a<b)=false:=dF' h
theorem wk1 {v u:Int} (h:u=v+1) (h0:0≤v) (h1:v≤1000000000):ac (v+1)=u:=by rw [w64 (by omega) (by omega),h]
theorem nY (l:List En) (hl:l.length≤10000000) (k0 k1:Int→OR'): ∀(r:List En) (k i:Int) (n:Nat),At l i r→r.length<n→0<k→k+bq r≤100000000→r=bj r k→
 b7 n l k i k0 k1=k1 (k+bq r):=by
 intro r;induction r with
 |nil=>intro k i n h hn h0 h1 he;obtain⟨n,rfl⟩:=bC hn;unfold b7 dg;rw [h.dge,cond_false];simp [bq]
 |cons e r ih=>
  intro k i n h hn h0 h1 he;obtain⟨n,rfl⟩:=bC hn
  have hc:=lj e
  have hcs:=lk r
  simp only [bj,List.cons.injEq]at he
  obtain⟨he,hr⟩:=he
  simp only [bq]at h1⊢
  have hx:=ih (k+xK e) (i+1) n h.step (by simp only [List.length_cons]at hn;omega) (by omega) (by omega) hr
  obtain⟨ur,t1,t2,ak,me,ta,st,re,ba,fs,bo⟩:=e
  unfold CO at he
  simp only [Prod.mk.injEq]at he
  obtain⟨rfl,rfl,rfl,c4,rfl,rfl,rfl,rfl,c9,c10,rfl⟩:=he
  have c9':ba=decide ((k+7+2* (ak.length:Int)).tmod 3=0):=c9
  clear c9
  subst c9'
  unfold xK at h1 hc hx⊢
  simp only at h1 hc hx⊢
  have e1:ac (k+1)=k+1:=wk1 rfl (by omega) (by omega)
  have e2:ac (k+1+1)=k+2:=wk1 (by omega) (by omega) (by omega)
  have e3:ac (k+2+1)=k+3:=wk1 (by omega) (by omega) (by omega)
  have e4:ac (k+3+2* (ak.length:Int)+1)=k+4+2* (ak.length:Int):=wk1 (by omega) (by omega) (by omega)
  have e5:ac (k+4+2* (ak.length:Int)+1)=k+5+2* (ak.length:Int):=wk1 (by omega) (by omega) (by omega)
  have e6:ac (k+5+2* (ak.length:Int)+1)=k+6+2* (ak.length:Int):=wk1 (by omega) (by omega) (by omega)
  have e7:ac (k+6+2* (ak.length:Int)+1)=k+7+2* (ak.length:Int):=wk1 (by omega) (by omega) (by omega)
  have e8:ac (k+7+2* (ak.length:Int)+1)=k+8+2* (ak.length:Int):=wk1 (by omega) (by omega) (by omega)
  have e9:ac (k+8+2* (ak.length:Int)+2* (fs.length:Int)+1)=k+(9+2* (ak.length:Int)+2* (fs.length:Int)):=wk1 (by omega) (by omega) (by omega)
  have c4':decide (ak=cn ak.length (k+3))=true:=dT' c4
  have c10':decide (fs=cn fs.length (k+8+2* (ak.length:Int)))=true:=dT' c10
  unfold b7 dg
  simp (disch:=omega) only [h.dlt,h.dnn,h.get,h.next (show l.length≤4611686018427387904 by omega),e1,e2,e3,e4,e5,e6,e7,e8,e9,c4',c10',dcP,dcL,dcN,decide_true,beq_self_eq_true,Bool.not_true,Bool.and_self,cond_true,cond_false]
  rw [hx,Int.add_assoc k]
def J5:List AV→List Ob→Br
 | [.sh (.pair .str (.pair (.int .i64) (.pair (.int .i64) (.pair (.slice (.pair .str .str)) (.pair .str (.pair .str (.pair (.int .i64) (.pair .str (.pair .bool (.pair (.slice (.pair .str .str)) .str)))))))))) l,.int .i64 k],[]=>.ite (decide (0<k)&&decide (k+bq l≤100000000)&&decide (l.length≤10000000)&&fA l (bj l k)) (.ret (.int .i64 (k+bq l)) []) .fail
 |_,_=>.fail
theorem ot:Sound Kx 43 J5:=by
 refine(nW (φ:=fun l k=>.ite (decide (0<k)&&decide (k+bq l≤100000000)&&decide (l.length≤10000000)&&fA l (bj l k)) (.ret (.int .i64 (k+bq l)) []) .fail) (fun l _=>l.length+1) fun l k r h=> ?_).of fun args objs r h=> ?_
 ·obtain⟨h1,h2⟩:=af h
  cases h2
  rw [Bool.and_eq_true,Bool.and_eq_true,Bool.and_eq_true,decide_eq_true_eq,decide_eq_true_eq,decide_eq_true_eq]at h1
  unfold gm
  exact nY l h1.1.2 _ _ l k 0 _ (At.start l) (by omega) h1.1.1.1 h1.1.1.2 (rV _ _ h1.2)
 ·unfold J5 at h;split at h
  ·exact h
  ·cases h
theorem qt (e:En) (k:Int):CO (CO e k) k=CO e k∧xK (CO e k)=xK e:=by
 unfold CO xK
 simp only [fY]
 exact⟨trivial,trivial⟩
theorem kn: ∀(l:List En) (k:Int),bj (bj l k) k=bj l k
 | [],_=>rfl
 |e::r,k=>by
  obtain⟨h1,h2⟩:=qt e k
  simp only [bj,h1,h2]
  rw [kn r]
theorem qu: ∀(l:List En) (k:Int),bq (bj l k)=bq l∧(bj l k).length=l.length
 | [],_=>⟨rfl,rfl⟩
 |e::r,k=>by
  obtain⟨_,h2⟩:=qt e k
  obtain⟨h3,h4⟩:=qu r (k+xK e)
  simp only [bj,bq,List.length_cons,h2,h3,h4]
  exact⟨trivial,trivial⟩
end
end Go.Proofs.YtihabpimbfmhhaaGreatDoor.Ev
