/- The texts Zg, Zh, Zi, Zj, Zk, Zl, Zm, Zn, Zo, Zp, Zq, Zr, MkS, Ca, Sa, Sb, Cb, one behind the other. -/
import Derived.Test.YtihabpimbfmhhaaGreatDoorK35
import Derived.Test.YtihabpimbfmhhaaGreatDoorK36
import Derived.Test.YtihabpimbfmhhaaGreatDoorK13
import Derived.Test.YtihabpimbfmhhaaGreatDoorK32
import Derived.Deep.LoopGhost
namespace Go.Proofs.YtihabpimbfmhhaaGreatDoor.Ev
open Go Go.RowKit
set_option linter.unusedVariables false
set_option linter.unusedSimpArgs false
noncomputable section
end
end Go.Proofs.YtihabpimbfmhhaaGreatDoor.Ev
namespace Go.Proofs.YtihabpimbfmhhaaGreatDoor.Ev
open Go Go.RowKit
set_option linter.unusedVariables false
set_option linter.unusedSimpArgs false
end Go.Proofs.YtihabpimbfmhhaaGreatDoor.Ev
namespace Go.Proofs.YtihabpimbfmhhaaGreatDoor.Ev
open Go Go.RowKit
set_option linter.unusedVariables false
set_option linter.unusedSimpArgs false
noncomputable section
def mm:Opt:={live:=[(2,[0,1,5])],outs:=[(2,[1,4])]}
def heldFieldS_C:SC:=[⟨64,_,ee⟩]
def dE (an:(List Fd)) (aq aP:Int) (U5:(List Fd)→Int→Int→OR') (bK cA:Int→OR'):OR':=
 (bif(decide (aP< (an.length:Int)))then(bif(decide (0≤aP))then(bif(decide (aP< (an.length:Int)))then(bif((decide (0<aq))&&(decide (aq≤100000000)))then(bif(!(decide ((List.getD an (Int.toNat aP) (([]:aa),([]:aa))).1=(mtP aq))))then(bK aq)else(bif(decide (0≤aP))then(bif(decide (aP< (an.length:Int)))then(bif((decide (0< (ac (aq+1))))&&(decide ((ac (aq+1))≤100000000)))then(bif(!(decide ((List.getD an (Int.toNat aP) (([]:aa),([]:aa))).2=(mtP (ac (aq+1))))))then(bK (ac (aq+1)))else(U5 an (ac ((ac (aq+1))+1)) (ac (aP+1))))else(none))else(none))else(none)))else(none))else(none))else(none))else(cA aq))
def co:Nat→(List Fd)→Int→Int→(Int→OR')→(Int→OR')→OR'
 |0,_,_,_,_,_=>none
 |n+1,an,aq,aP,bK,cA=>dE an aq aP (fun an aq aP=>co n an aq aP bK cA) bK cA
abbrev heldFieldS_p2:SP:=⟨33,[0,1,5],[(.v (.sh (Ty.pair Ty.str Ty.str))),(.v (.i .i64)),(.v (.i .i64))],[]⟩
noncomputable def j9:Code:=ax (aD Tryz.f78) [1,0,1,0,0]
def j_ (f:(Int→OR')→(Int→OR')→OR') (k:KT):OR':=f (fun bP=>k Ex.ret ((St.mk (aw 0 33 [(1,(AV.int .i64 bP)),(4,(AV.int .i64 (-1)))]) ([]:(List (Nat×(Ob))))))) (fun dV=>k (Ex.exit 0) ((St.mk (aw 0 33 [(1,(AV.int .i64 dV))]) ([]:(List (Nat×(Ob)))))))
def kd (n:Nat) (d:heldFieldS_p2.D):KT→OR':=j_ (co n d.1.1 d.1.2.1 d.1.2.2.1)
def mn (N:Nat):Lam:=bf [⟨2,heldFieldS_p2,kd N⟩]
theorem qP (N:Nat):OkL Kx heldFieldS_C.s mm 0 N (mn N) j9:=okL heldFieldS_p2 (kd) (fun d kR=>j_ (dE d.1.1 d.1.2.1 d.1.2.2.1 (fun an aq aP=>kR ((an,aq,aP,()),())))) (fun _ _=>by kernel_rfl) (fun _ _ _=>by kernel_rfl) (fun _ _=>by kernel_rfl) (fun _ _ _ _=>by kernel_rfl) (ah (l':=[]) (by kernel_rfl) trivial)
def iw (N:Nat) (l:List Fd) (k:Int):OR':=(co N l k 0 (fun bP=>(some ((AV.int .i64 (-1)),[]))) (fun dV=>(some ((AV.int .i64 dV),[]))))
def ix (φ:(List Fd)→Int→Br):List AV→List Ob→Br
 | [.sh (.pair .str .str) l,.int .i64 k],[]=>φ l k
 |_,_=>.fail
theorem qf {φ:(List Fd)→Int→Br} (fu:(List Fd)→Int→Nat) (hv: ∀l k res_,(φ l k).val=some res_→iw (fu l k) l k=some res_):Sound Kx 78 (ix φ):=aj (C:=heldFieldS_C) (O:=mm) Tryz.func78 (by kernel_rfl) fun args objs=>by
 unfold ix;split
 ·rename_i l k;exact .inr fun _ hyp_=>aO (Λ:=mn (fu l k)) (by kernel_rfl) (ah (l':=[j9]) (by kernel_rfl) ⟨qP _,trivial⟩) (by kernel_rfl) (hv l k _ hyp_)
 ·exact .inl rfl
def LJ:Opt:={mutF:=[54]}
def LK:SC:=[⟨54,_,ek⟩]
def Hi (me ta:aa) (st:Int) (re:aa) (ba:Bool) (fs:List Fd) (bo:aa) (k:Int):Br:=(Br.ite ((decide (0<k))&&(decide ((k+(2* (fs.length:Int)))≤100000000))) (Br.ret (AV.int .i64 (k+(2* (fs.length:Int)))) ((Ob.arr (Ty.pair Ty.str Ty.str) 0 false (b5 fs.length k))::[])) Br.fail)
def zx:List AV→List Ob→Br
 | [.agg [.str me,.str ta,.int .i64 st,.str re,.bool ba,.ref 0 0,.str bo],.int .i64 k],[.arr (.pair .str .str) 0 false fs]=>Hi me ta st re ba fs bo k
 |_,_=>.fail
theorem Hj:Sound Kx 55 zx:=ae (C:=LK) (O:=LJ) Tryz.func55 (by kernel_rfl) fun args objs=>by
 unfold zx;split
 ·exact .inr (by kernel_rfl)
 ·exact .inl rfl
def BF:Opt:={mutF:=[54,55]}
def BG:SC:=[⟨54,_,ek⟩,⟨55,_,Hj⟩]
def zy (ur:aa) (t1 t2:Int) (ak:List Fd) (me ta:aa) (st:Int) (re:aa) (ba:Bool) (fs:List Fd) (bo:aa) (k:Int):Br:=(Br.ite ((decide (0<k))&&(decide ((k+(2* (ak.length:Int)))≤100000000))) (Br.ite ((decide (0< (k+(2* (ak.length:Int)))))&&(decide (((k+(2* (ak.length:Int)))+(2* (fs.length:Int)))≤100000000))) (Br.ret (AV.int .i64 ((k+(2* (ak.length:Int)))+(2* (fs.length:Int)))) ((Ob.arr (Ty.pair Ty.str Ty.str) 0 false (b5 ak.length k))::((Ob.arr (Ty.pair Ty.str Ty.str) 0 false (b5 fs.length (k+(2* (ak.length:Int)))))::[]))) Br.fail) Br.fail)
def qg:List AV→List Ob→Br
 | [.agg [.str ur,.int .i64 t1,.int .i64 t2,.ref 0 0,.str me,.str ta,.int .i64 st,.str re,.bool ba,.ref 1 0,.str bo],.int .i64 k],[.arr (.pair .str .str) 0 false ak,.arr (.pair .str .str) 0 false fs]=>zy ur t1 t2 ak me ta st re ba fs bo k
 |_,_=>.fail
theorem markEntry_ok:Sound Kx 20 qg:=ae (C:=BG) (O:=BF) Tryz.func20 (by kernel_rfl) fun args objs=>by
 unfold qg;split
 ·exact .inr (by kernel_rfl)
 ·exact .inl rfl
theorem qh (l:List Fd) (hl:l.length≤50000000) (k0 k1:Int→OR'): ∀(r:List Fd) (k i:Int) (n:Nat),At l i r→r.length<n→0<k→k+2*r.length≤100000000→r=b5 r.length k→
 co n l k i k0 k1=k1 (k+2*r.length):=by
 intro r;induction r with
 |nil=>intro k i n h hn h0 h1 he;obtain⟨n,rfl⟩:=bh hn;unfold co dE;rw [h.dge,cond_false];simp
 |cons a r ih=>
  intro k i n h hn h0 h1 he;obtain⟨n,rfl⟩:=bh hn
  simp only [List.length_cons,b5,List.cons.injEq]at he hn h1
  obtain⟨he,hr⟩:=he
  subst he
  have hw:ac (k+1)=k+1:=w64 (by omega) (by omega)
  have hw2:ac (k+1+1)=k+1+1:=w64 (by omega) (by omega)
  have hg:(decide (0<k)&&decide (k≤100000000))=true:=by rw [dT' h0,dT' (by omega)];rfl
  have hg2:(decide (0<k+1)&&decide (k+1≤100000000))=true:=by rw [dT' (by omega),dT' (by omega)];rfl
  unfold co dE
  simp only [h.dlt,h.dnn,h.get,hg,hg2,hw,hw2,h.next (by omega),cond_true,cond_false,decide_true,Bool.not_true]
  rw [ih (k+1+1) (i+1) n h.step (by omega) (by omega) (by omega) hr]
  congr 1
  simp only [List.length_cons];omega
def SZ:List AV→List Ob→Br
 | [.sh (.pair .str .str) l,.int .i64 k],[]=>.ite (decide (0<k)&&decide (k+2*l.length≤100000000)&&decide (l=b5 l.length k)) (.ret (.int .i64 (k+2*l.length)) []) .fail
 |_,_=>.fail
theorem qQ:Sound Kx 78 SZ:=by
 refine(qf (φ:=fun l k=>.ite (decide (0<k)&&decide (k+2*l.length≤100000000)&&decide (l=b5 l.length k)) (.ret (.int .i64 (k+2*l.length)) []) .fail) (fun l _=>l.length+1) fun l k r h=> ?_).of fun args objs r h=> ?_
 ·obtain⟨h1,h2⟩:=af h
  cases h2
  rw [Bool.and_eq_true,Bool.and_eq_true,decide_eq_true_eq,decide_eq_true_eq,decide_eq_true_eq]at h1
  unfold iw
  exact qh l (by omega) _ _ l k 0 _ (At.start l) (by omega) h1.1.1 h1.1.2 h1.2
 ·unfold SZ at h;split at h
  ·exact h
  ·cases h
def S0:List AV→List Ob→Br
 | [.agg [.str ur,.int .i64 t1,.int .i64 t2,.ref 0 0,.str me,.str ta,.int .i64 st,.str re,.bool ba,.ref 1 0,.str bo],.int .i64 k],[.arr (.pair .str .str) 0 false ak,.arr (.pair .str .str) 0 false fs]=>
   .ite (decide (0<k)&&decide (k+2*ak.length+2*fs.length≤100000000)) (.ret (.int .i64 (k+2*ak.length+2*fs.length)) [.arr (.pair .str .str) 0 false (b5 ak.length k),.arr (.pair .str .str) 0 false (b5 fs.length (k+2*ak.length))]) .fail
 |_,_=>.fail
theorem vq:Sound Kx 20 S0:=markEntry_ok.of fun args objs r h=>by
 unfold S0 at h;split at h
 ·obtain⟨h1,h2⟩:=af h
  cases h2
  rw [Bool.and_eq_true,decide_eq_true_eq,decide_eq_true_eq]at h1
  refine(aR ?_).trans (aR ?_)
  ·rw [dT' h1.1,dT' (by omega)];rfl
  ·rw [dT' (by omega),dT' (by omega)];rfl
 ·cases h
end
end Go.Proofs.YtihabpimbfmhhaaGreatDoor.Ev
namespace Go.Proofs.YtihabpimbfmhhaaGreatDoor.Ev
open Go Go.RowKit
set_option linter.unusedVariables false
set_option linter.unusedSimpArgs false
theorem h_: ∀(n:Nat) (k:Int),(b5 n k).length=n
 |0,_=>rfl
 |n+1,k=>by simp [b5,h_ n]
end Go.Proofs.YtihabpimbfmhhaaGreatDoor.Ev
namespace Go.Proofs.YtihabpimbfmhhaaGreatDoor.Ev
open Go Go.RowKit
set_option linter.unusedVariables false
set_option linter.unusedSimpArgs false
noncomputable section
def Uo {R:Type}:List Bool→Option R→Option R
 | [],x=>x
 |b::l,x=>bif b then Uo l x else none
def Hk (e:En) (k:Int):En:=
 (mtP k,k+1,k+2,b5 e.2.2.2.1.length (k+3),mtP (k+3+2*e.2.2.2.1.length),mtP (k+4+2*e.2.2.2.1.length),k+5+2*e.2.2.2.1.length,mtP (k+6+2*e.2.2.2.1.length),
  decide ((k+7+2*e.2.2.2.1.length).tmod 3=0),b5 e.2.2.2.2.2.2.2.2.2.1.length (k+8+2*e.2.2.2.1.length),mtP (k+8+2*e.2.2.2.1.length+2*e.2.2.2.2.2.2.2.2.2.1.length))
def vC (e:En):Int:=9+2*e.2.2.2.1.length+2*e.2.2.2.2.2.2.2.2.2.1.length
def a_:List En→Int
 | []=>0
 |e::r=>vC e+a_ r
def bt:List En→Int→List En
 | [],_=>[]
 |e::r,k=>Hk e k::bt r (k+vC e)
theorem kf (e:En):9≤vC e:=by unfold vC;omega
theorem kg: ∀l,0≤a_ l
 | []=>Int.le_refl _
 |e::r=>by have:=kf e;have:=kg r;simp only [a_];omega
noncomputable def S1 (f:Func):Code:=match f.body with|some c=>c|none=>.skip
noncomputable def sqA:Code→Code| .seq a _=>a|c=>c
noncomputable def sqB:Code→Code| .seq _ b=>b|c=>c
noncomputable def U0:Code→Code| .block _ b=>b|c=>c
noncomputable def U1:Code→Code| .loop b=>b|c=>c
def mkC:cy:=add (add noS 64 Uj) 54 QJ
theorem PF: ∀fn,Sound Kx fn (mkC fn):=jD (jD (fun fn=>ug Kx fn) ee) ek
def mkO:Opt:={mutF:=[54]}
noncomputable def mkB:Code:=S1 Tryz.f42
noncomputable def mkX:Code:=U1 (U0 (sqB (sqA (sqB mkB))))
def BH (x:AV) (k i:Int):List AV:=putS (putS (putS (List.replicate 104 .undef) 0 x) 1 (.int .i64 k)) 5 (.int .i64 i)
def BI (e:Ex) (st:St):Option (Ex×St):=some (e,⟨only [0,1,5] 0 st.env,st.objs⟩)
theorem Q6:mkB= .seq (sqA mkB) (.seq (.seq (sqA (sqA (sqB mkB))) (.block 0 (.loop mkX))) (sqB (sqB mkB))):=by kernel_rfl
theorem S2:mkX= .seq (sqA mkX) (sqB mkX):=by kernel_rfl
theorem Up (xs:List En) (k:Int):evK Kx mkC mkO 1 1 (sqA mkB) (start Tryz.f42 [.ref 0 0,.int .i64 k] [.arr EnT 0 false xs]) BI=some (.normal,⟨putS (putS (List.replicate 104 .undef) 0 (.ref 0 0)) 1 (.int .i64 k),[(0,.arr EnT 0 false xs)]⟩):=by kernel_rfl
theorem Uq (xs:List En) (k:Int):evK Kx mkC mkO 1 1 (sqA (sqA (sqB mkB))) ⟨putS (putS (List.replicate 104 .undef) 0 (.ref 0 0)) 1 (.int .i64 k),[(0,.arr EnT 0 false xs)]⟩ BI=some (.normal,⟨BH (.ref 0 0) k 0,[(0,.arr EnT 0 false xs)]⟩):=by kernel_rfl
theorem LL (xs:List En) (k i:Int):evK Kx mkC mkO 1 1 (sqA mkX) ⟨BH (.ref 0 0) k i,[(0,.arr EnT 0 false xs)]⟩ BI=
 bif decide (i< (xs.length:Int))then some (.normal,⟨BH (.ref 0 0) k i,[(0,.arr EnT 0 false xs)]⟩)else some (.exit 0,⟨BH (.ref 0 0) k i,[(0,.arr EnT 0 false xs)]⟩):=by kernel_rfl
def swk (k:Int):Int:=ac (k+1)
def mtT (k:Int):Bool:=decide (0<k)&&decide (k≤100000000)
def mfT (k:Int) (l:List Fd):Bool:=decide (0<k)&&decide (k+2* (l.length:Int)≤100000000)
theorem Oj (k i:Int) (n c:Nat) (ur:aa) (t1 t2:Int) (ak:List Fd) (me ta:aa) (st:Int) (re:aa) (ba:Bool) (fs:List Fd) (bo:aa):
 evK Kx mkC mkO 3 1 (sqB mkX) ⟨BH (.wref 0 EnT n c i) k i,HD 0 (xeO (ur,t1,t2,ak,me,ta,st,re,ba,fs,bo))⟩ BI=
 Uo [mtT k,decide (0≤i),decide (i< (n:Int)),decide (i=i),decide (0≤i),decide (i< (n:Int)),decide (i=i),decide (0≤i),decide (i< (n:Int)),decide (i=i),decide (0≤i),decide (i< (n:Int)),decide (i=i),
  mfT (swk (swk (swk k))) ak,mtT (swk (swk (swk k))+2*ak.length),decide (0≤i),decide (i< (n:Int)),decide (i=i),mtT (swk (swk (swk (swk k))+2*ak.length)),decide (0≤i),decide (i< (n:Int)),decide (i=i),
  decide (0≤i),decide (i< (n:Int)),decide (i=i),mtT (swk (swk (swk (swk (swk (swk k))+2*ak.length)))),decide (0≤i),decide (i< (n:Int)),decide (i=i),decide (0≤i),decide (i< (n:Int)),decide (i=i),decide (0≤i),decide (i< (n:Int)),decide (i=i),
  mfT (swk (swk (swk (swk (swk (swk (swk (swk k))+2*ak.length)))))) fs,mtT (swk (swk (swk (swk (swk (swk (swk (swk k))+2*ak.length)))))+2*fs.length),decide (0≤i),decide (i< (n:Int)),decide (i=i)]
  (some (.normal,⟨BH (.wref 0 EnT n c i) (swk (swk (swk (swk (swk (swk (swk (swk (swk k))+2*ak.length)))))+2*fs.length)) (ac (i+1)),
   HD 0 (xeO (mtP k,swk k,swk (swk k),b5 ak.length (swk (swk (swk k))),mtP (swk (swk (swk k))+2*ak.length),mtP (swk (swk (swk (swk k))+2*ak.length)),swk (swk (swk (swk (swk k))+2*ak.length)),
    mtP (swk (swk (swk (swk (swk (swk k))+2*ak.length)))),decide ((swk (swk (swk (swk (swk (swk (swk k))+2*ak.length))))).tmod 3=0),b5 fs.length (swk (swk (swk (swk (swk (swk (swk (swk k))+2*ak.length)))))),
    mtP (swk (swk (swk (swk (swk (swk (swk (swk k))+2*ak.length)))))+2*fs.length)))⟩)):=by kernel_rfl
theorem kh {v u:Int} (h:u=v+1) (h0:0<v) (h1:v≤100000000):swk v=u:=by unfold swk;rw [w64 (by omega) (by omega),h]
theorem km {k:Int} (h0:0<k) (h1:k≤100000000):mtT k=true:=by unfold mtT;rw [dT' h0,dT' h1];rfl
theorem ES {k:Int} {l:List Fd} (h0:0<k) (h1:k+2* (l.length:Int)≤100000000):mfT k l=true:=by unfold mfT;rw [dT' h0,dT' h1];rfl
theorem LM (k i:Int) (n c:Nat) (x:En) (h0:0<k) (h1:k+vC x≤100000000) (hi:0≤i) (hn:i< (n:Int)) (hi2:i≤100000000):
 evK Kx mkC mkO 3 1 (sqB mkX) ⟨BH (.wref 0 EnT n c i) k i,HD 0 (xeO x)⟩ BI=some (.normal,⟨BH (.wref 0 EnT n c i) (k+vC x) (i+1),HD 0 (xeO (Hk x k))⟩):=by
 obtain⟨ur,t1,t2,ak,me,ta,st,re,ba,fs,bo⟩:=x
 unfold vC at h1⊢
 simp only at h1
 have e1:swk k=k+1:=kh rfl h0 (by omega)
 have e2:swk (k+1)=k+2:=kh (by omega) (by omega) (by omega)
 have e3:swk (k+2)=k+3:=kh (by omega) (by omega) (by omega)
 have e4:swk (k+3+2* (ak.length:Int))=k+4+2* (ak.length:Int):=kh (by omega) (by omega) (by omega)
 have e5:swk (k+4+2* (ak.length:Int))=k+5+2* (ak.length:Int):=kh (by omega) (by omega) (by omega)
 have e6:swk (k+5+2* (ak.length:Int))=k+6+2* (ak.length:Int):=kh (by omega) (by omega) (by omega)
 have e7:swk (k+6+2* (ak.length:Int))=k+7+2* (ak.length:Int):=kh (by omega) (by omega) (by omega)
 have e8:swk (k+7+2* (ak.length:Int))=k+8+2* (ak.length:Int):=kh (by omega) (by omega) (by omega)
 have e9:swk (k+8+2* (ak.length:Int)+2* (fs.length:Int))=k+(9+2* (ak.length:Int)+2* (fs.length:Int)):=kh (by omega) (by omega) (by omega)
 have d0:decide (0≤i)=true:=dT' hi
 have d1:decide (i< (n:Int))=true:=dT' hn
 have d2:decide (i=i)=true:=dT' rfl
 have m0:=km h0 (by omega:k≤100000000)
 have m1:mtT (k+3+2* (ak.length:Int))=true:=km (by omega) (by omega)
 have m2:mtT (k+4+2* (ak.length:Int))=true:=km (by omega) (by omega)
 have m3:mtT (k+6+2* (ak.length:Int))=true:=km (by omega) (by omega)
 have m4:mtT (k+8+2* (ak.length:Int)+2* (fs.length:Int))=true:=km (by omega) (by omega)
 have f1:mfT (k+3) ak=true:=ES (by omega) (by omega)
 have f2:mfT (k+8+2* (ak.length:Int)) fs=true:=ES (by omega) (by omega)
 rw [Oj,w64 (by omega) (by omega)]
 simp only [e1,e2,e3,e4,e5,e6,e7,e8,e9,Uo,d0,d1,d2,m0,m1,m2,m3,m4,f1,f2,cond_true]
 rfl
theorem LN {w0:World} {M0:Bd} {L0 L:Lk} {st stE:St} {a:Act} {w:World} {m:Nat} {c:Code} {e:Ex} {Q:Exit→Act→World→Prop} (R:Rl Kx w0 M0 L st a w) (hk:Kept m L0 L)
 (h:evK Kx mkC mkO m 1 c st BI=some (e,stE)) (hQ: ∀L' a' w',Rl Kx w0 M0 L' stE a' w'→Kept m L0 L'→Q (exE e) a' w'):c.wp Kx.P Q a w:=
 gk KOk PF c R hk h fun e' L' st' a' w' R' hk' h'=>by
  simp only [BI,Option.some.injEq,Prod.mk.injEq]at h'
  obtain⟨rfl,rfl⟩:=h'
  exact hQ L' a' w' ⟨R'.ro,R'.ob,jy _ 0 R'.env,R'.df⟩ hk'
theorem tw {L:Lk} {w:World} {M:Nat→Nat→Prop}: ∀(cs:List Value),aK L w M (List.replicate cs.length .undef) cs
 | []=>by simp [aK]
 |c::cs=>by simp only [List.length_cons,List.replicate_succ,aK];exact⟨c,cs,rfl,by simp [rel],tw cs⟩
theorem qi {L:Lk} {w:World} {M:Nat→Nat→Prop} {xs:List AV} {cs:List Value} (h:aK L w M xs cs) (n:Nat) {x:AV} (hx:rel L w M x (cs.getD n undef)):aK L w M (putS xs n x) cs:=by
 have:=js h n hx
 have e1:cs.set n (cs.getD n undef)=cs:=by
  apply List.ext_getElem?
  intro i
  rw [List.getElem?_set]
  split
  ·rename_i he
   subst he
   split
   ·rename_i hl;rw [List.getD_eq_getElem?_getD,List.getElem?_eq_getElem hl];rfl
   ·rename_i hl;rw [List.getElem?_eq_none (by omega)]
  ·rfl
 rwa [e1]at this
theorem ET {L L':Lk} {w w':World} {M M':Nat→Nat→Prop} {x y:AV} {k i:Int} {cs:List Value} (h:aK L w M (BH x k i) cs) (hx: ∀v,rel L w M x v→rel L' w' M' y v):aK L' w' M' (BH y k i) cs:=by
 have hl:cs.length=104:=by rw [bp h];rfl
 have g0:=hx _ (dn h 0)
 have g1:=dn h 1
 have g5:=dn h 5
 have e1:getS (BH x k i) 1= .int .i64 k:=by kernel_rfl
 have e5:getS (BH x k i) 5= .int .i64 i:=by kernel_rfl
 rw [e1]at g1
 rw [e5]at g5
 have hu:=tw (L:=L') (w:=w') (M:=M') cs
 rw [hl]at hu
 exact qi (qi (qi hu 0 g0) 1 (by simpa only [rel]using g1)) 5 (by simpa only [rel]using g5)
def PG:List AV→List Ob→Br
 | [.ref 0 0,.int .i64 k],[.arr (.pair .str (.pair (.int .i64) (.pair (.int .i64) (.pair (.slice (.pair .str .str)) (.pair .str (.pair .str (.pair (.int .i64) (.pair .str (.pair .bool (.pair (.slice (.pair .str .str)) .str)))))))))) 0 false l]=>
   .ite (decide (0<k)&&decide (k+a_ l≤100000000)&&decide (l.length≤10000000)) (.ret (.int .i64 (k+a_ l)) [.arr (.pair .str (.pair (.int .i64) (.pair (.int .i64) (.pair (.slice (.pair .str .str)) (.pair .str (.pair .str (.pair (.int .i64) (.pair .str (.pair .bool (.pair (.slice (.pair .str .str)) .str)))))))))) 0 false (bt l k)]) .fail
 |_,_=>.fail
def S3 (e:Ex) (st:St):Option (AV×List Ob):=match e with| .exit _=>none|_=>Rr Kx mkO 1 Tryz.f42 st
theorem S4 (xs:List En) (k i:Int):evK Kx mkC mkO 1 1 (sqB (sqB mkB)) ⟨BH (.ref 0 0) k i,[(0,.arr EnT 0 false xs)]⟩ S3=some (.int .i64 k,[.arr EnT 0 false xs]):=by kernel_rfl
theorem qR:Sound Kx 42 PG:=by
 intro args objs res objs' hv w L vs ro hob hargs
 unfold PG at hv
 split at hv
 case h_2=>cases hv
 rename_i k l
 obtain⟨h1,h2⟩:=af hv
 cases h2
 rw [Bool.and_eq_true,Bool.and_eq_true,decide_eq_true_eq,decide_eq_true_eq,decide_eq_true_eq]at h1
 obtain⟨⟨hk0,hk1⟩,hll⟩:=h1
 have hf:=Tryz.func42
 have hb:(Tryz.f42).body=some mkB:=by kernel_rfl
 refine .inl ⟨calls_of_wp hf hb ?_,_,_,hf,by kernel_rfl,hb⟩
 have R0:=Cs (f:=Tryz.f42) ro hob hargs
 rw [Q6]
 refine wp_seq (LN R0 (Kept.refl 1 L) (Up l k) fun L1 a1 w1 R1 hk1'=> ?_)
 refine wp_seq (wp_seq (LN R1 hk1' (Uq l k) fun L2 a2 w2 R2 hk2=> ?_))
 refine wp_block (wp_loop_ghost (fun f a w'=> ∃L' pre r k',Rl Kx w ⟨eq L,L.F⟩ L' ⟨BH (.ref 0 0) k' (pre.length:Int),[(0,.arr EnT 0 false (pre++r))]⟩ a w'∧Kept 1 L L'∧f=r.length∧pre++bt r k'=bt l k∧(pre++r).length=l.length∧0<k'∧k'+a_ r=k+a_ l)
  l.length ⟨L2,[],l,k,R2,hk2,rfl,rfl,rfl,hk0,rfl⟩ ?_)
 rintro f a w' ⟨L',pre,r,k',R,hk,rfl,hm,hlen,hp,hs⟩
 rw [S2]
 cases r with
 |nil=>
  have hd:decide ((pre.length:Int)< ((pre++([]:List En)).length:Int))=false:=dF' (by simp)
  refine wp_seq (LN R hk (by rw [LL,hd];rfl) fun L3 a3 w3 R3 hk3=> ?_)
  show(sqB (sqB mkB)).wp _ _ _ _
  have e1:pre++[]=bt l k:=hm
  have e2:k'=k+a_ l:=by simpa only [a_,Int.add_zero]using hs
  rw [e1,e2]at R3
  refine gk KOk PF _ R3 hk3 (S4 _ _ _) fun e L4 st4 a4 w4 R4 hk4 h4=> ?_
  cases e with
  |normal=>exact Ct KOk R4 hk4 h4
  |ret=>exact Ct KOk R4 hk4 h4
  |exit i=>cases h4
 |cons x r=>
  have hd:decide ((pre.length:Int)< ((pre++x::r).length:Int))=true:=dT' (by simp only [List.length_append,List.length_cons];omega)
  refine wp_seq (LN R hk (by rw [LL,hd];rfl) fun L3 a3 w3 R3 hk3=> ?_)
  show(sqB mkX).wp _ _ _ _
  have hob3:=R3.ob
  obtain⟨l3,hL3⟩: ∃l3,L3 0=some (l3,.arr EnT 0 false (pre++x::r)):=by
   have:=hob3 0
   cases hc:L3 0 with
   |none=>rw [hc]at this;cases this
   |some p=>
    rw [hc]at this
    obtain⟨l3,y⟩:=p
    simp only [getO,if_true,Option.map_some,Option.some.injEq]at this
    exact⟨l3,by rw [←this]⟩
  have hin:pre.length< (pre++x::r).length:=by simp
  have hx:(pre++x::r)[pre.length]=x:=by simp
  obtain⟨b,o,cap,l1,l2,hbase,Ro,close⟩:=G3 KOk R3.ro hL3 hin
  rw [hx]at Ro close
  have hcs:=kg r
  simp only [a_]at hs
  simp only [List.length_append,List.length_cons]at hlen
  have Rx:Rl Kx w3 ⟨eq (xeL L3.F ⟨some (b,o+pre.length*11),cap,[]⟩ l1 l2 x),L3.F⟩ (xeL L3.F ⟨some (b,o+pre.length*11),cap,[]⟩ l1 l2 x) ⟨BH (.wref 0 EnT (pre++x::r).length l3.cap (pre.length:Int)) k' (pre.length:Int),HD 0 (xeO x)⟩ a3 w3:=by
   refine⟨Ro,fun i=> ?_,ET R3.env fun v hv=> ?_,R3.df⟩
   ·match i with
    |0=>rfl
    |1=>rfl
    |2=>rfl
    |i+3=>simp [HD,xeO,getO,xeL]
   ·simp only [rel]at hv⊢
    obtain⟨l4,e4,cur,z,xs4,p,n4,c4,u1,u2,rfl,u3⟩:=hv
    rw [hL3]at u1
    simp only [Option.some.injEq,Prod.mk.injEq,Ob.arr.injEq]at u1
    obtain⟨rfl,rfl,rfl,rfl,hxs⟩:=u1
    have hxs:=eq_of_heq hxs
    subst hxs
    obtain⟨rfl,rfl,rfl⟩:=u3 rfl
    exact⟨b,o,cap,_,by rw [Int.toNat_natCast];rfl,by simp only [Loc.addr,hbase];rfl⟩
  refine LN Rx (Kept.refl 3 _) (LM k' (pre.length:Int) (pre++x::r).length l3.cap x hp (by omega) (by omega) (by simp only [List.length_append,List.length_cons];omega) (by omega)) fun L4 a4 w4 R4 hk4=> ?_
  obtain⟨q1,q2⟩:=close L4 w4 (Hk x k') R4.ro hk4 (fun j hj=>by
   have:=R4.ob j
   rw [←this]
   match j,hj with
   |0,_=>rfl
   |1,_=>rfl
   |2,_=>rfl) (h_ _ _) (h_ _ _)
  have hset:(pre++x::r).set pre.length (Hk x k')=(pre++[Hk x k'])++r:=by rw [iM,Iq]
  rw [hset]at q1 q2
  have hc:=kf x
  refine⟨r.length,by simp,_,pre++[Hk x k'],r,k'+vC x,⟨q1,fun j=> ?_, ?_,R4.df⟩,hk3.turn q2,rfl, ?_, ?_,by omega,by omega⟩
  ·by_cases hj:j=0
   ·subst hj;rw [av];rfl
   ·rw [aG L3 _ hj,←hob3 j]
    simp [getO,Ne.symm hj]
  ·have hle:((pre++[Hk x k']).length:Int)=(pre.length:Int)+1:=by simp
   rw [hle]
   refine ET R4.env fun v hv=> ?_
   simp only [rel]at hv⊢
   obtain⟨b4,o4,cap4,cs4,u1,rfl⟩:=hv
   obtain⟨p5,x5,u2,rfl,cs5,rfl⟩:=hk4 0 (by omega) _ _ rfl
   rw [u2]at u1
   simp only [Option.some.injEq,Prod.mk.injEq,Loc.mk.injEq,Int.toNat_natCast]at u1
   obtain⟨⟨⟨rfl,u3⟩,_⟩,_⟩:=u1
   have u4:o4=o:=Nat.add_right_cancel u3.symm
   subst u4
   refine⟨_,_,_,_,_,_,_,_,av _ _ _,Nat.le_refl _,rfl,fun _=>⟨by simp only [Loc.addr,hbase];rfl,by simp,rfl⟩⟩
  ·rw [←hm];simp [bt]
  ·simp only [List.length_append,List.length_cons,List.length_nil];omega
def mo:Opt:={live:=[(2,[0,1,5])],outs:=[(2,[1,4])]}
def heldEntryS_C:SC:=[⟨78,_,qQ⟩,⟨64,_,ee⟩]
def dF (an:(List En)) (aq aP:Int) (U5:(List En)→Int→Int→OR') (bK cA:Int→OR'):OR':=
 (bif(decide (aP< (an.length:Int)))then(bif(decide (0≤aP))then(bif(decide (aP< (an.length:Int)))then(bif((decide (0<aq))&&(decide (aq≤100000000)))then(bif(!(decide ((List.getD an (Int.toNat aP) en0).1=(mtP aq))))then(bK aq)else(bif(decide (0≤aP))then(bif(decide (aP< (an.length:Int)))then(bif(!(decide ((List.getD an (Int.toNat aP) en0).2.1=(ac (aq+1)))))then(bK (ac (aq+1)))else(bif(decide (0≤aP))then(bif(decide (aP< (an.length:Int)))then(bif(!(decide ((List.getD an (Int.toNat aP) en0).2.2.1=(ac ((ac (aq+1))+1)))))then(bK (ac ((ac (aq+1))+1)))else(bif(decide (0≤aP))then(bif(decide (aP< (an.length:Int)))then(bif(((decide (0< (ac ((ac ((ac (aq+1))+1))+1))))&&(decide (((ac ((ac ((ac (aq+1))+1))+1))+(2* ((List.length (List.getD an (Int.toNat aP) en0).2.2.2.1):Int)))≤100000000)))&&(decide ((List.getD an (Int.toNat aP) en0).2.2.2.1=(b5 (List.length (List.getD an (Int.toNat aP) en0).2.2.2.1) (ac ((ac ((ac (aq+1))+1))+1))))))then(bif(decide (((ac ((ac ((ac (aq+1))+1))+1))+(2* ((List.length (List.getD an (Int.toNat aP) en0).2.2.2.1):Int)))<0))then(bK ((ac ((ac ((ac (aq+1))+1))+1))+(2* ((List.length (List.getD an (Int.toNat aP) en0).2.2.2.1):Int))))else(bif(decide (0≤aP))then(bif(decide (aP< (an.length:Int)))then(bif((decide (0< ((ac ((ac ((ac (aq+1))+1))+1))+(2* ((List.length (List.getD an (Int.toNat aP) en0).2.2.2.1):Int)))))&&(decide (((ac ((ac ((ac (aq+1))+1))+1))+(2* ((List.length (List.getD an (Int.toNat aP) en0).2.2.2.1):Int)))≤100000000)))then(bif(!(decide ((List.getD an (Int.toNat aP) en0).2.2.2.2.1=(mtP ((ac ((ac ((ac (aq+1))+1))+1))+(2* ((List.length (List.getD an (Int.toNat aP) en0).2.2.2.1):Int)))))))then(bK ((ac ((ac ((ac (aq+1))+1))+1))+(2* ((List.length (List.getD an (Int.toNat aP) en0).2.2.2.1):Int))))else(bif(decide (0≤aP))then(bif(decide (aP< (an.length:Int)))then(bif((decide (0< (ac (((ac ((ac ((ac (aq+1))+1))+1))+(2* ((List.length (List.getD an (Int.toNat aP) en0).2.2.2.1):Int)))+1))))&&(decide ((ac (((ac ((ac ((ac (aq+1))+1))+1))+(2* ((List.length (List.getD an (Int.toNat aP) en0).2.2.2.1):Int)))+1))≤100000000)))then(bif(!(decide ((List.getD an (Int.toNat aP) en0).2.2.2.2.2.1=(mtP (ac (((ac ((ac ((ac (aq+1))+1))+1))+(2* ((List.length (List.getD an (Int.toNat aP) en0).2.2.2.1):Int)))+1))))))then(bK (ac (((ac ((ac ((ac (aq+1))+1))+1))+(2* ((List.length (List.getD an (Int.toNat aP) en0).2.2.2.1):Int)))+1)))else(bif(decide (0≤aP))then(bif(decide (aP< (an.length:Int)))then(bif(!(decide ((List.getD an (Int.toNat aP) en0).2.2.2.2.2.2.1=(ac ((ac (((ac ((ac ((ac (aq+1))+1))+1))+(2* ((List.length (List.getD an (Int.toNat aP) en0).2.2.2.1):Int)))+1))+1)))))then(bK (ac ((ac (((ac ((ac ((ac (aq+1))+1))+1))+(2* ((List.length (List.getD an (Int.toNat aP) en0).2.2.2.1):Int)))+1))+1)))else(bif(decide (0≤aP))then(bif(decide (aP< (an.length:Int)))then(bif((decide (0< (ac ((ac ((ac (((ac ((ac ((ac (aq+1))+1))+1))+(2* ((List.length (List.getD an (Int.toNat aP) en0).2.2.2.1):Int)))+1))+1))+1))))&&(decide ((ac ((ac ((ac (((ac ((ac ((ac (aq+1))+1))+1))+(2* ((List.length (List.getD an (Int.toNat aP) en0).2.2.2.1):Int)))+1))+1))+1))≤100000000)))then(bif(!(decide ((List.getD an (Int.toNat aP) en0).2.2.2.2.2.2.2.1=(mtP (ac ((ac ((ac (((ac ((ac ((ac (aq+1))+1))+1))+(2* ((List.length (List.getD an (Int.toNat aP) en0).2.2.2.1):Int)))+1))+1))+1))))))then(bK (ac ((ac ((ac (((ac ((ac ((ac (aq+1))+1))+1))+(2* ((List.length (List.getD an (Int.toNat aP) en0).2.2.2.1):Int)))+1))+1))+1)))else(bif(decide (0≤aP))then(bif(decide (aP< (an.length:Int)))then(bif(!((List.getD an (Int.toNat aP) en0).2.2.2.2.2.2.2.2.1==(decide ((Int.tmod (ac ((ac ((ac ((ac (((ac ((ac ((ac (aq+1))+1))+1))+(2* ((List.length (List.getD an (Int.toNat aP) en0).2.2.2.1):Int)))+1))+1))+1))+1)) 3)=0))))then(bK (ac ((ac ((ac ((ac (((ac ((ac ((ac (aq+1))+1))+1))+(2* ((List.length (List.getD an (Int.toNat aP) en0).2.2.2.1):Int)))+1))+1))+1))+1)))else(bif(decide (0≤aP))then(bif(decide (aP< (an.length:Int)))then(bif(((decide (0< (ac ((ac ((ac ((ac ((ac (((ac ((ac ((ac (aq+1))+1))+1))+(2* ((List.length (List.getD an (Int.toNat aP) en0).2.2.2.1):Int)))+1))+1))+1))+1))+1))))&&(decide (((ac ((ac ((ac ((ac ((ac (((ac ((ac ((ac (aq+1))+1))+1))+(2* ((List.length (List.getD an (Int.toNat aP) en0).2.2.2.1):Int)))+1))+1))+1))+1))+1))+(2* ((List.length (List.getD an (Int.toNat aP) en0).2.2.2.2.2.2.2.2.2.1):Int)))≤100000000)))&&(decide ((List.getD an (Int.toNat aP) en0).2.2.2.2.2.2.2.2.2.1=(b5 (List.length (List.getD an (Int.toNat aP) en0).2.2.2.2.2.2.2.2.2.1) (ac ((ac ((ac ((ac ((ac (((ac ((ac ((ac (aq+1))+1))+1))+(2* ((List.length (List.getD an (Int.toNat aP) en0).2.2.2.1):Int)))+1))+1))+1))+1))+1))))))then(bif(decide (((ac ((ac ((ac ((ac ((ac (((ac ((ac ((ac (aq+1))+1))+1))+(2* ((List.length (List.getD an (Int.toNat aP) en0).2.2.2.1):Int)))+1))+1))+1))+1))+1))+(2* ((List.length (List.getD an (Int.toNat aP) en0).2.2.2.2.2.2.2.2.2.1):Int)))<0))then(bK ((ac ((ac ((ac ((ac ((ac (((ac ((ac ((ac (aq+1))+1))+1))+(2* ((List.length (List.getD an (Int.toNat aP) en0).2.2.2.1):Int)))+1))+1))+1))+1))+1))+(2* ((List.length (List.getD an (Int.toNat aP) en0).2.2.2.2.2.2.2.2.2.1):Int))))else(bif(decide (0≤aP))then(bif(decide (aP< (an.length:Int)))then(bif((decide (0< ((ac ((ac ((ac ((ac ((ac (((ac ((ac ((ac (aq+1))+1))+1))+(2* ((List.length (List.getD an (Int.toNat aP) en0).2.2.2.1):Int)))+1))+1))+1))+1))+1))+(2* ((List.length (List.getD an (Int.toNat aP) en0).2.2.2.2.2.2.2.2.2.1):Int)))))&&(decide (((ac ((ac ((ac ((ac ((ac (((ac ((ac ((ac (aq+1))+1))+1))+(2* ((List.length (List.getD an (Int.toNat aP) en0).2.2.2.1):Int)))+1))+1))+1))+1))+1))+(2* ((List.length (List.getD an (Int.toNat aP) en0).2.2.2.2.2.2.2.2.2.1):Int)))≤100000000)))then(bif(!(decide ((List.getD an (Int.toNat aP) en0).2.2.2.2.2.2.2.2.2.2=(mtP ((ac ((ac ((ac ((ac ((ac (((ac ((ac ((ac (aq+1))+1))+1))+(2* ((List.length (List.getD an (Int.toNat aP) en0).2.2.2.1):Int)))+1))+1))+1))+1))+1))+(2* ((List.length (List.getD an (Int.toNat aP) en0).2.2.2.2.2.2.2.2.2.1):Int)))))))then(bK ((ac ((ac ((ac ((ac ((ac (((ac ((ac ((ac (aq+1))+1))+1))+(2* ((List.length (List.getD an (Int.toNat aP) en0).2.2.2.1):Int)))+1))+1))+1))+1))+1))+(2* ((List.length (List.getD an (Int.toNat aP) en0).2.2.2.2.2.2.2.2.2.1):Int))))else(U5 an (ac (((ac ((ac ((ac ((ac ((ac (((ac ((ac ((ac (aq+1))+1))+1))+(2* ((List.length (List.getD an (Int.toNat aP) en0).2.2.2.1):Int)))+1))+1))+1))+1))+1))+(2* ((List.length (List.getD an (Int.toNat aP) en0).2.2.2.2.2.2.2.2.2.1):Int)))+1)) (ac (aP+1))))else(none))else(none))else(none)))else(none))else(none))else(none)))else(none))else(none)))else(none))else(none))else(none)))else(none))else(none)))else(none))else(none))else(none)))else(none))else(none))else(none)))else(none))else(none))else(none)))else(none))else(none)))else(none))else(none)))else(none))else(none))else(none))else(cA aq))
def cq:Nat→(List En)→Int→Int→(Int→OR')→(Int→OR')→OR'
 |0,_,_,_,_,_=>none
 |n+1,an,aq,aP,bK,cA=>dF an aq aP (fun an aq aP=>cq n an aq aP bK cA) bK cA
abbrev heldEntryS_p2:SP:=⟨126,[0,1,5],[(.v (.sh EnT)),(.v (.i .i64)),(.v (.i .i64))],[]⟩
noncomputable def kn:Code:=ax (aD Tryz.f43) [1,0,1,0,0]
def ko (f:(Int→OR')→(Int→OR')→OR') (k:KT):OR':=f (fun bP=>k Ex.ret ((St.mk (aw 0 126 [(1,(AV.int .i64 bP)),(4,(AV.int .i64 (-1)))]) ([]:(List (Nat×(Ob))))))) (fun dV=>k (Ex.exit 0) ((St.mk (aw 0 126 [(1,(AV.int .i64 dV))]) ([]:(List (Nat×(Ob)))))))
def kp (n:Nat) (d:heldEntryS_p2.D):KT→OR':=ko (cq n d.1.1 d.1.2.1 d.1.2.2.1)
def mq (N:Nat):Lam:=bf [⟨2,heldEntryS_p2,kp N⟩]
theorem qS (N:Nat):OkL Kx heldEntryS_C.s mo 0 N (mq N) kn:=okL heldEntryS_p2 (kp) (fun d kR=>ko (dF d.1.1 d.1.2.1 d.1.2.2.1 (fun an aq aP=>kR ((an,aq,aP,()),())))) (fun _ _=>by kernel_rfl) (fun _ _ _=>by kernel_rfl) (fun _ _=>by kernel_rfl) (fun _ _ _ _=>by kernel_rfl) (ah (l':=[]) (by kernel_rfl) trivial)
def iy (N:Nat) (l:List En) (k:Int):OR':=(cq N l k 0 (fun bP=>(some ((AV.int .i64 (-1)),[]))) (fun dV=>(some ((AV.int .i64 dV),[]))))
def iz (φ:(List En)→Int→Br):List AV→List Ob→Br
 | [.sh EnT l,.int .i64 k],[]=>φ l k
 |_,_=>.fail
theorem qj {φ:(List En)→Int→Br} (fu:(List En)→Int→Nat) (hv: ∀l k res_,(φ l k).val=some res_→iy (fu l k) l k=some res_):Sound Kx 43 (iz φ):=aj (C:=heldEntryS_C) (O:=mo) Tryz.func43 (by kernel_rfl) fun args objs=>by
 unfold iz;split
 ·rename_i l k;exact .inr fun _ hyp_=>aO (Λ:=mq (fu l k)) (by kernel_rfl) (ah (l':=[kn]) (by kernel_rfl) ⟨qS _,trivial⟩) (by kernel_rfl) (hv l k _ hyp_)
 ·exact .inl rfl
def BJ:Opt:={mutF:=[42]}
def BK:SC:=[⟨42,_,qR⟩]
def zz (bu:Int) (l:List En) (k:Int):Br:=(Br.ite (((decide (0<k))&&(decide ((k+(a_ l))≤100000000)))&&(decide (l.length≤10000000))) (Br.ret (AV.int .i64 (k+(a_ l))) ((Ob.arr EnT 0 false (bt l k))::[])) Br.fail)
def qk:List AV→List Ob→Br
 | [.agg [.int .i64 bu,.ref 0 0],.int .i64 k],[.arr EnT 0 false l]=>zz bu l k
 |_,_=>.fail
theorem zA:Sound Kx 13 qk:=ae (C:=BK) (O:=BJ) Tryz.func13 (by kernel_rfl) fun args objs=>by
 unfold qk;split
 ·exact .inr (by kernel_rfl)
 ·exact .inl rfl
theorem dcP {a b:Int} (h:a<b):decide (a<b)=true:=dT' h
theorem dcL {a b:Int} (h:a≤b):decide (a≤b)=true:=dT' h
theorem dcN {a b:Int} (h: ¬a<b):decide (a<b)=false:=dF' h
theorem wk1 {v u:Int} (h:u=v+1) (h0:0≤v) (h1:v≤1000000000):ac (v+1)=u:=by rw [w64 (by omega) (by omega),h]
theorem ql (l:List En) (hl:l.length≤10000000) (k0 k1:Int→OR'): ∀(r:List En) (k i:Int) (n:Nat),At l i r→r.length<n→0<k→k+a_ r≤100000000→r=bt r k→
 cq n l k i k0 k1=k1 (k+a_ r):=by
 intro r;induction r with
 |nil=>intro k i n h hn h0 h1 he;obtain⟨n,rfl⟩:=bh hn;unfold cq dF;rw [h.dge,cond_false];simp [a_]
 |cons e r ih=>
  intro k i n h hn h0 h1 he;obtain⟨n,rfl⟩:=bh hn
  have hc:=kf e
  have hcs:=kg r
  simp only [bt,List.cons.injEq]at he
  obtain⟨he,hr⟩:=he
  simp only [a_]at h1⊢
  have hx:=ih (k+vC e) (i+1) n h.step (by simp only [List.length_cons]at hn;omega) (by omega) (by omega) hr
  obtain⟨ur,t1,t2,ak,me,ta,st,re,ba,fs,bo⟩:=e
  unfold Hk at he
  simp only [Prod.mk.injEq]at he
  obtain⟨rfl,rfl,rfl,c4,rfl,rfl,rfl,rfl,c9,c10,rfl⟩:=he
  have c9':ba=decide ((k+7+2* (ak.length:Int)).tmod 3=0):=c9
  clear c9
  subst c9'
  unfold vC at h1 hc hx⊢
  simp only at h1 hc hx⊢
  have e1:ac (k+1)=k+1:=wk1 rfl (by omega) (by omega)
  have e2:ac (k+1+1)=k+2:=wk1 (by omega) (by omega) (by omega)
  have e3:ac (k+2+1)=k+3:=wk1 (by omega) (by omega) (by omega)
  have e4:ac (k+3+2* (ak.length:Int)+1)=k+4+2* (ak.length:Int):=wk1 (by omega) (by omega) (by omega)
  have e5:ac (k+4+2* (ak.length:Int)+1)=k+5+2* (ak.length:Int):=wk1 (by omega) (by omega) (by omega)
  have e6:ac (k+5+2* (ak.length:Int)+1)=k+6+2* (ak.length:Int):=wk1 (by omega) (by omega) (by omega)
  have e7:ac (k+6+2* (ak.length:Int)+1)=k+7+2* (ak.length:Int):=wk1 (by omega) (by omega) (by omega)
  have e8:ac (k+7+2* (ak.length:Int)+1)=k+8+2* (ak.length:Int):=wk1 (by omega) (by omega) (by omega)
  have e9:ac (k+8+2* (ak.length:Int)+2* (fs.length:Int)+1)=k+(9+2* (ak.length:Int)+2* (fs.length:Int)):=wk1 (by omega) (by omega) (by omega)
  have c4':decide (ak=b5 ak.length (k+3))=true:=dT' c4
  have c10':decide (fs=b5 fs.length (k+8+2* (ak.length:Int)))=true:=dT' c10
  unfold cq dF
  simp (disch:=omega) only [h.dlt,h.dnn,h.get,h.next (show l.length≤4611686018427387904 by omega),e1,e2,e3,e4,e5,e6,e7,e8,e9,c4',c10',dcP,dcL,dcN,decide_true,beq_self_eq_true,Bool.not_true,Bool.and_self,cond_true,cond_false]
  rw [hx,Int.add_assoc k]
def PH:List AV→List Ob→Br
 | [.sh (.pair .str (.pair (.int .i64) (.pair (.int .i64) (.pair (.slice (.pair .str .str)) (.pair .str (.pair .str (.pair (.int .i64) (.pair .str (.pair .bool (.pair (.slice (.pair .str .str)) .str)))))))))) l,.int .i64 k],[]=>.ite (decide (0<k)&&decide (k+a_ l≤100000000)&&decide (l.length≤10000000)&&gw l (bt l k)) (.ret (.int .i64 (k+a_ l)) []) .fail
 |_,_=>.fail
theorem qT:Sound Kx 43 PH:=by
 refine(qj (φ:=fun l k=>.ite (decide (0<k)&&decide (k+a_ l≤100000000)&&decide (l.length≤10000000)&&gw l (bt l k)) (.ret (.int .i64 (k+a_ l)) []) .fail) (fun l _=>l.length+1) fun l k r h=> ?_).of fun args objs r h=> ?_
 ·obtain⟨h1,h2⟩:=af h
  cases h2
  rw [Bool.and_eq_true,Bool.and_eq_true,Bool.and_eq_true,decide_eq_true_eq,decide_eq_true_eq,decide_eq_true_eq]at h1
  unfold iy
  exact ql l h1.1.2 _ _ l k 0 _ (At.start l) (by omega) h1.1.1.1 h1.1.1.2 (vl _ _ h1.2)
 ·unfold PH at h;split at h
  ·exact h
  ·cases h
theorem tz (e:En) (k:Int):Hk (Hk e k) k=Hk e k∧vC (Hk e k)=vC e:=by
 unfold Hk vC
 simp only [h_]
 exact⟨trivial,trivial⟩
theorem mt: ∀(l:List En) (k:Int),bt (bt l k) k=bt l k
 | [],_=>rfl
 |e::r,k=>by
  obtain⟨h1,h2⟩:=tz e k
  simp only [bt,h1,h2]
  rw [mt r]
theorem tA: ∀(l:List En) (k:Int),a_ (bt l k)=a_ l∧(bt l k).length=l.length
 | [],_=>⟨rfl,rfl⟩
 |e::r,k=>by
  obtain⟨_,h2⟩:=tz e k
  obtain⟨h3,h4⟩:=tA r (k+vC e)
  simp only [bt,a_,List.length_cons,h2,h3,h4]
  exact⟨trivial,trivial⟩
end
end Go.Proofs.YtihabpimbfmhhaaGreatDoor.Ev
