/- The texts Qn, Qo, Yl, Ym, Yn, Yo, Za, Zb, Zc, Zd, Ze, Zf, Zg, Zh, Zi, Zj, Zk, Zl, Zm, Zn, Zo, Zp, Zq, Zr, Sa, Sb, Kp, Ti, Tg, Tj, one behind the other. -/
import Derived.Test.YtgknmoadpgpdeaaGreatDoorK30
import Derived.Test.YtgknmoadpgpdeaaGreatDoorK13
import Derived.Test.YtgknmoadpgpdeaaGreatDoorK29
import Derived.Test.YtgknmoadpgpdeaaGreatDoorK18
namespace Go.Proofs.YtgknmoadpgpdeaaGreatDoor.Ev
open Go Go.RowKit
set_option linter.unusedVariables false
set_option linter.unusedSimpArgs false
set_option linter.defProp false
set_option maxRecDepth 20000
noncomputable section
theorem Tl {code: List Int} {P: En→Prop} (ur: aa) (t1 t2: Int) (ak: List Fd) (me ta: aa) (st: Int) (re: aa) (ba: Bool) (fs: List Fd) (bo: aa) (i' h': Int) (hc: okC code i'=true) (hP: P (ur,t1,t2,ak,me,ta,st,re,ba,fs,bo)):
 Dra code etA etO P (.ret (.agg [.str ur, .int .i64 t1, .int .i64 t2, .ref 1 0, .str me, .str ta, .int .i64 st, .str re, .bool ba, .ref 2 0, .str bo]) [.var [.sh (.int .u8) code, .int .i64 i', .int .i64 h'], .arr (.pair .str .str) 0 false ak, .arr (.pair .str .str) 0 false fs]):=⟨_,i',h',rfl,hc,hP⟩
def VC (e: En): Prop:=e.1.length≤2000∧e.2.2.2.1.length≤80∧e.2.2.2.2.2.2.2.2.2.1.length≤80
theorem X2 (code: List Int) (i h: Int) (hc: okC code i=true): Dra code etA etO VC (i7 code i h):=by
 unfold i7 cI gt bO gr fq gq
 obtain ⟨e1,e2,e3,e4⟩:=acn h hc
 generalize cM () code i h=x at *
 obtain ⟨⟨ur,t1,t2,ak,me,ta,st,re,ba,fs,bo⟩,i1,h1⟩:=x
 simp only at e1 e2 e3 e4 ⊢
 obtain ⟨b1,b2⟩:=yU (code:=code) (i:=an 6 code (an 6 code i1)) ur (au 6 (au 6 h1)) (aq (aq e1)) (by omega)
 repeat' (first | with_reducible refine sX ?_ ?_ | with_reducible refine sV (fun _=>?_) (fun _=>?_) | with_reducible refine Tl _ _ _ _ _ _ _ _ _ _ _ _ _ ?_ ?_)
 all_goals first
  | ((repeat (first | exact hc | exact e1 | exact b1 | with_reducible apply aq | with_reducible apply be | with_reducible apply av));done)
  | (simp only [Bool.and_true,List.length_cons,List.length_nil,List.length_set,List.length_replicate];(repeat (first | exact hc | exact e1 | exact b1 | with_reducible apply aq | with_reducible apply be | with_reducible apply av));done)
  | (simp only [Bool.and_eq_true,decide_eq_true_eq,List.length_cons,List.length_nil,List.length_set,List.length_replicate];refine ⟨?_,by omega⟩;(repeat (first | exact hc | exact e1 | exact b1 | with_reducible apply aq | with_reducible apply be | with_reducible apply av));done)
  | (simp (disch:=omega) only [Bool.and_true,t6,decide_true];(repeat (first | exact hc | exact e1 | exact b1 | with_reducible apply aq | with_reducible apply be | with_reducible apply av));done)
  | (refine (show _∧_∧_ from ⟨?_,?_,?_⟩) <;> simp only [List.length_append,List.length_cons,List.length_nil,List.length_set,List.length_replicate] <;> omega)
  | (rw [decide_eq_true_eq];omega)
  | (rw [decide_eq_true_eq];simp only [List.length_append,List.length_cons,List.length_nil,List.length_set,List.length_replicate];omega)
  | skip
 all_goals trace_state
theorem Em {F: Nat→List Fd→OR'} {x: Fd} {n: Int} (K: List Fd→OR')
 (hF: ∀ N acc,F (N + 1) acc=bif decide ((acc.length: Int) < n) then (bif decide ((acc.length + [x].length) * 32≤140737488355328) then F N (acc++[x]) else none) else K acc) (R: OR'→Prop) (hx: cq x) (hn: n≤60):
 ∀ (k N: Nat) (acc: List Fd),(n - acc.length).toNat≤k→k < N→acc.length≤60→(∀ f ∈ acc,cq f)→(∀ l,l.length≤60→(∀ f ∈ l,cq f)→R (K l))→R (F N acc)
 | k,N,acc,hk,hN,hl,hq,hK=>by
   obtain ⟨N,rfl⟩: ∃ m,N=m + 1:=⟨N - 1,by omega⟩
   rw [hF]
   by_cases h: (acc.length: Int) < n
   · obtain ⟨k,rfl⟩: ∃ m,k=m + 1:=⟨k - 1,by omega⟩
     rw [dT' h,cond_true,dT' (by rw [List.length_singleton];omega),cond_true]
     refine Em K hF R hx hn k N _ (by rw [List.length_append,List.length_singleton];omega) (by omega) (by rw [List.length_append,List.length_singleton];omega) (fun f hf=>?_) hK
     rcases List.mem_append.1 hf with hf | hf
     · exact hq f hf
     · rw [List.mem_singleton.1 hf];exact hx
   · rw [dF' h,cond_false];exact hK acc hl hq
theorem Tm {code: List Int} {D: Int→Int→Fd×Int×Int} (hD: ∀ i h,okC code i=true→okC code (D i h).2.1=true∧cq (D i h).1) {F: Nat→Int→Int→Int→List Fd→OR'} (K: Int→Int→List Fd→OR')
 (h1: ∀ N j i h acc,okC code i=true→acc.length≤100→j < 7→F (N + 1) j i h acc=F N (ai (j + 1)) (D i h).2.1 (D i h).2.2 (acc++[(D i h).1]))
 (h2: ∀ N j i h acc,¬ j < 7→F (N + 1) j i h acc=K i h acc)
 (R: OR'→Prop): ∀ (k N: Nat) (j i h: Int) (acc: List Fd),k < N→j + k=7→0≤j→okC code i=true→acc.length + k≤100→(∀ f ∈ acc,cq f)→
 (∀ i' h' l,okC code i'=true→l.length≤acc.length + k→(∀ f ∈ l,cq f)→R (K i' h' l))→R (F N j i h acc)
 | 0,N,j,i,h,acc,hN,hj,h0,hc,hl,hq,hK=>by
   obtain ⟨N,rfl⟩: ∃ m,N=m + 1:=⟨N - 1,by omega⟩
   rw [h2 _ _ _ _ _ (by omega)]
   exact hK i h acc hc (by omega) hq
 | k + 1,N,j,i,h,acc,hN,hj,h0,hc,hl,hq,hK=>by
   obtain ⟨N,rfl⟩: ∃ m,N=m + 1:=⟨N - 1,by omega⟩
   obtain ⟨g1,g2⟩:=hD i h hc
   rw [h1 _ _ _ _ _ hc (by omega) (by omega),w64 (by omega) (by omega)]
   refine Tm hD K h1 h2 R k N (j + 1) _ _ _ (by omega) (by omega) (by omega) g1 (by rw [List.length_append,List.length_singleton];omega) (fun f hf=>?_) fun i' h' l q1 q2 q3=>?_
   · rcases List.mem_append.1 hf with hf | hf
     · exact hq f hf
     · rw [List.mem_singleton.1 hf];exact g2
   · rw [List.length_append,List.length_singleton] at q2
     exact hK i' h' l q1 (by omega) q3
theorem Tn (jR: Int) (j9: (List Int)) (il: Int) (j_: Int) (ka: (List UInt8)) (kb: (List UInt8)) (kd: Int) (je: (List UInt8)) (jS: Bool) (kf: (List UInt8)) (dK: (List ((List UInt8)×(List UInt8)))) (dL: (List UInt8)) (dM: (List UInt8)) (fA: Int) (fB: (List UInt8)) (fC: Bool) (fD: (List UInt8)) (K: (List Int)→Int→Int→(List UInt8)→(List UInt8)→Int→(List UInt8)→Bool→(List UInt8)→(List ((List UInt8)×(List UInt8)))→(List UInt8)→(List UInt8)→Int→(List UInt8)→Bool→(List UInt8)→(List ((List UInt8)×(List UInt8)))→OR') (R: OR'→Prop) (k N: Nat) (eM: List Fd) (hn: jR≤60) (hk: (jR - eM.length).toNat≤k) (hN: k < N) (hl: eM.length≤60) (hq: ∀ f ∈ eM,cq f) (hK: ∀ l,l.length≤60→(∀ f ∈ l,cq f)→R (K j9 il j_ ka kb kd je jS kf dK dL dM fA fB fC fD l)): R (kE N jR j9 il j_ ka kb kd je jS kf dK dL dM fA fB fC fD eM K):=
 Em (x:=([112],[113])) (n:=jR) (F:=fun N acc=>kE N jR j9 il j_ ka kb kd je jS kf dK dL dM fA fB fC fD acc K) (fun l=>K j9 il j_ ka kb kd je jS kf dK dL dM fA fB fC fD l) (fun _ _=>rfl) R (qC (by decide)) hn k N eM hk hN hl hq hK
theorem aco (cH: (List Int)) (mQ: (List UInt8)) (mR: (List UInt8)) (mS: Int) (mT: (List UInt8)) (mU: Bool) (mV: (List UInt8)) (gM: (List ((List UInt8)×(List UInt8)))) (gO: (List UInt8)) (gP: (List UInt8)) (gQ: Int) (gR: (List UInt8)) (gS: Bool) (gT: (List UInt8)) (K: (List Int)→Int→Int→(List UInt8)→(List UInt8)→Int→(List UInt8)→Bool→(List UInt8)→(List ((List UInt8)×(List UInt8)))→(List UInt8)→(List UInt8)→Int→(List UInt8)→Bool→(List UInt8)→(List ((List UInt8)×(List UInt8)))→OR') (R: OR'→Prop) (k N: Nat) (pH gY jP: Int) (gU: List Fd) (hN: k < N) (hj: pH + k=7) (h0: 0≤pH) (hc: okC cH gY=true) (hl: gU.length + k≤100) (hq: ∀ f ∈ gU,cq f)
 (hK: ∀ i' h' l,okC cH i'=true→l.length≤gU.length + k→(∀ f ∈ l,cq f)→R (K cH i' h' mQ mR mS mT mU mV gM gO gP gQ gR gS gT l)): R (i8 N pH cH gY jP mQ mR mS mT mU mV gM gO gP gQ gR gS gT gU K):=
 Tm (code:=cH) (D:=fun i h=>(([110],ofS (ai (180 + aT 9 cH i h)) [118] cH (an 9 cH i) (au 9 h)),ofI (ai (180 + aT 9 cH i h)) [118] cH (an 9 cH i) (au 9 h),ofH (ai (180 + aT 9 cH i h)) [118] cH (an 9 cH i) (au 9 h))) (fun i h hc=>⟨be (aq hc),qC (by decide: (1 : Nat)≠13)⟩) (F:=fun N n i h acc=>i8 N n cH i h mQ mR mS mT mU mV gM gO gP gQ gR gS gT acc K) (fun i' h' l=>K cH i' h' mQ mR mS mT mU mV gM gO gP gQ gR gS gT l) (fun N j i h acc hc ha hj=>by
  have hb:=et 9 cH i h
  have hb2:=hb.2 (by omega)
  have hw: ai (180 + aT 9 cH i h)≤1000000:=by rw [w64 (by omega) (by omega)];omega
  show gu j cH i h mQ mR mS mT mU mV gM gO gP gQ gR gS gT acc _ K=_
  unfold gu
  rw [dT' hj,cond_true,hc,cond_true,aq hc,dT' hw]
  simp only [Bool.and_self,cond_true]
  rw [dT' (by simp only [List.length_cons,List.length_nil,List.length_set,List.length_replicate];omega),cond_true]
  rfl) (fun N j i h acc hj=>by
  show gu j cH i h mQ mR mS mT mU mV gM gO gP gQ gR gS gT acc _ K=_
  unfold gu
  rw [dF' hj,cond_false]) R k N pH gY jP gU hN hj h0 hc hl hq hK
def acp (m: Mg): Prop:=(∀ f ∈ m.2.2.2.2.2.1,cq f)∧m.2.2.2.2.2.1.length≤80
theorem ZS {l: List Fd} {f: Fd} (h: ∀ f ∈ l,cq f) (hf: cq f): ∀ g ∈ l++[f],cq g:=by
 intro g hg
 rcases List.mem_append.1 hg with hg | hg
 · exact h g hg
 · rw [List.mem_singleton.1 hg];exact hf
theorem To (code: List Int) (i h: Int) (hc: okC code i=true): Ee code NL NM acp (gv 100 code i h):=by
 unfold gv bm ef cy aN
 obtain ⟨e1,e2,e3,e4,e5⟩:=aeO h hc
 generalize cx () code i h=x at *
 obtain ⟨⟨me,ta,st,re,ba,fs,bo⟩,i1,h1⟩:=x
 simp only at e1 e2 e3 e4 e5 ⊢
 obtain ⟨b1,b2⟩:=yU (code:=code) (i:=an 10 code (an 4 code i1)) me (au 10 (au 4 h1)) (aq (aq e1)) (by omega)
 obtain ⟨b3,b4⟩:=yU (code:=code) (i:=an 10 code (an 4 code i1)) ta (au 10 (au 4 h1)) (aq (aq e1)) (by omega)
 have c2: okC code (an 2 code (an 10 code (an 4 code i1)))=true:=aq (aq (aq e1))
 have v2:=et 2 code (an 10 code (an 4 code i1)) (au 10 (au 4 h1))
 have v3:=v2.2 (by omega)
 rw [w64 (n:=20 - _) (by omega) (by omega),w64 (n:=40 + _) (by omega) (by omega),w64 (n:=600 + _) (by omega) (by omega),w64 (n:=193 + _) (by omega) (by omega)]
 repeat' (first | with_reducible refine li ?_ ?_ | with_reducible refine rY (fun _=>?_) (fun _=>?_) | with_reducible refine i6 _ _ _ _ _ _ _ _ _ ?_ ?_)
 all_goals first
  | ((repeat (first | exact hc | exact e1 | exact b1 | exact b3 | with_reducible apply aq | with_reducible apply be | with_reducible apply av));done)
  | (refine (show _∧_ from ⟨e2,?_⟩);show fs.length≤80;omega)
  | (refine (show _∧_ from ⟨ZS e2 (Tb (by decide)),?_⟩);show (fs++_).length≤80;rw [List.length_append];exact Nat.le_trans (Nat.add_le_add_right e3 _) (by decide))
  | (simp only [Bool.and_true,List.length_cons,List.length_nil,List.length_set,List.length_replicate];(repeat (first | exact hc | exact e1 | exact b1 | exact b3 | with_reducible apply aq | with_reducible apply be | with_reducible apply av));done)
  | (simp only [Bool.and_eq_true,decide_eq_true_eq,List.length_cons,List.length_nil,List.length_set,List.length_replicate];refine ⟨?_,by omega⟩;(repeat (first | exact hc | exact e1 | exact b1 | exact b3 | with_reducible apply aq | with_reducible apply be | with_reducible apply av));done)
  | (simp only [Bool.and_eq_true,decide_eq_true_eq,List.length_cons,List.length_nil,List.length_set,List.length_replicate];refine ⟨⟨?_,by omega⟩,by omega⟩;(repeat (first | exact hc | exact e1 | exact b1 | exact b3 | with_reducible apply aq | with_reducible apply be | with_reducible apply av));done)
  | (simp (disch:=omega) only [Bool.and_true,t6,decide_true];(repeat (first | exact hc | exact e1 | exact b1 | exact b3 | with_reducible apply aq | with_reducible apply be | with_reducible apply av));done)
  | (rw [decide_eq_true_eq];omega)
  | (rw [decide_eq_true_eq];simp only [List.length_append,List.length_cons,List.length_nil,List.length_set,List.length_replicate];omega)
  | exact Tn _ _ _ _ _ _ _ _ _ _ _ _ _ _ _ _ _ _ (Ee code NL NM acp) 60 100 fs (by omega) (by omega) (by omega) (by omega) e2 (fun l q1 q2=>i6 _ _ _ _ _ _ _ _ _ c2 (show _∧_ from ⟨q2,Nat.le_trans q1 (by decide)⟩))
  | exact aco _ _ _ _ _ _ _ _ _ _ _ _ _ _ _ (Ee code NL NM acp) 7 100 0 _ _ fs (by decide) (by decide) (by decide) (by (repeat (first | exact hc | exact e1 | exact b1 | exact b3 | with_reducible apply aq | with_reducible apply be | with_reducible apply av))) (by omega) e2 (fun i' h' l q1 q2 q3=>i6 _ _ _ _ _ _ _ _ _ q1 (show _∧_ from ⟨q3,Nat.le_trans q2 (by omega)⟩))
  | (simp only [List.length_append,List.length_cons,List.length_nil];simp only [Bool.and_eq_true,decide_eq_true_eq,and_true];refine ⟨?_,by omega⟩;(repeat (first | exact hc | exact e1 | exact b1 | exact b3 | with_reducible apply aq | with_reducible apply be | with_reducible apply av));done)
  | (rw [c2,Bool.and_true,Bool.true_and,decide_eq_true_eq];omega)
  | (show acp _;exact And.intro (ZS e2 (qC (by decide))) (by show (fs++_).length≤80;rw [List.length_append];exact Nat.le_trans (Nat.add_le_add_right e3 _) (by decide)))
  | (rw [decide_eq_true_eq,lY];omega)
  | skip
 all_goals trace_state
def bentm_dr:=yr (α:=Mg) (fun (_: Unit) code i h=>match gv 100 code i h with | some r=>Br.ret r.1 r.2 | none=> .fail) (fun _=>true) NL NM ([],[],0,[],false,[],[]) (fun _ m=>acp m) (fun _ code i h hc _=>by
 obtain ⟨v,i',h',e,q⟩:=To code i h hc;exact ⟨v,i',h',by rw [e];rfl,q⟩)
def xU:=bentm_dr.choose
def acq: List AV→List Ob→Br:=drQ un0 (fun _=>true) NL NM xU
theorem NQ: Sound Kx 99 acq:=
 Ff (GV (φ:=fun code i h=>match gv 100 code i h with | some r=>Br.ret r.1 r.2 | none=> .fail) (fun _ _ _=>100) fun code i h r hv=>KH hv) (fun (_: Unit) code i h=>match gv 100 code i h with | some r=>Br.ret r.1 r.2 | none=> .fail)
  (fun l b code i h hl=>by rw [BA hl];rfl) fun b code i h hc hg=>(bentm_dr.choose_spec b code i h hc hg).1
theorem KI {code: List Int} {i: Int} (h: Int) (hc: okC code i=true): okC code (xU () code i h).2.1=true∧acp (xU () code i h).1:=(bentm_dr.choose_spec () code i h hc rfl).2
def bente_dr:=yr (α:=En) (fun (_: Unit) code i h=>i7 code i h) (fun _=>true) etA etO en0 (fun _ m=>VC m) (fun _ code i h hc _=>X2 code i h hc)
def Eo:=bente_dr.choose
def acr: List AV→List Ob→Br:=drQ un0 (fun _=>true) etA etO Eo
theorem GW: Sound Kx 79 acr:=
 Ff NO (fun (_: Unit) code i h=>i7 code i h) (fun l b code i h hl=>by rw [BA hl];rfl) fun b code i h hc hg=>(bente_dr.choose_spec b code i h hc hg).1
theorem X3 {code: List Int} {i: Int} (h: Int) (hc: okC code i=true): okC code (Eo () code i h).2.1=true∧VC (Eo () code i h).1:=(bente_dr.choose_spec () code i h hc rfl).2
theorem ahH {code: List Int} (h: code.length≤281474976710656): okC code 0=true:=by
 unfold okC;simp only [Bool.and_eq_true,decide_eq_true_eq];exact ⟨by omega,h⟩
def Vq (Q: OR'→Prop) (b: Br): Prop:=Q b.val
theorem aeQ {Q: OR'→Prop} {c: Bool} {x: Br} (h0: c=true) (h1: Vq Q x): Vq Q (.ite c x .fail):=by subst h0;exact h1
theorem aeR {Q: OR'→Prop} {c: Bool} {x y: Br} (h1: c=true→Vq Q x) (h2: c=false→Vq Q y): Vq Q (.ite c x y):=by
 cases c
 · exact h2 rfl
 · exact h1 rfl
theorem aeS (code: List Int) (hl: code.length≤281474976710656): Vq (fun o=>∃ v: aa,o=some (.str v,[])∧v.length≤1000) (GR code):=by
 have hc:=ahH hl
 have hs: ∀ (l: List aa) (k: Nat) (n: Int) (set: aa) (c': List Int) (i' h' i2 h2: Int),(∀ x ∈ l,x.length≤2)→n=5→(l.getD k []++[34]++ofS (aT n code i' h') set c' i2 h2++[34]).length≤10:=by
  intro l k n set c' i' h' i2 h2 h hn
  subst hn
  have h1:=rZ (k:=2) h k
  have h3:=qM (n:=5) (by omega) set code c' i' h' i2 h2
  simp only [List.length_append,List.length_cons,List.length_nil]
  have e5: Int.toNat 5=5:=rfl
  omega
 unfold GR zN o6 mN mM fT
 have hS1:=hs ((((List.replicate 3 []).set 0 []).set 1 [87,47]).set 2 [119,47]) (aT 3 code 0 (lI code)).toNat 5 [97,98,44,33] code (an 3 code 0) (au 3 (lI code)) (an 5 code (an 3 code 0)) (au 5 (au 3 (lI code))) (by decide) rfl
 have g1:=rZ (k:=2) (l:=(((List.replicate 3 []).set 0 []).set 1 [87,47]).set 2 [119,47]) (by decide) (aT 3 code 0 (lI code)).toNat
 have o1:=qM (n:=5) (by omega) [97,98,44,33] code code (an 3 code 0) (au 3 (lI code)) (an 5 code (an 3 code 0)) (au 5 (au 3 (lI code)))
 have c2: okC code (ofI (aT 5 code (an 3 code 0) (au 3 (lI code))) [97,98,44,33] code (an 5 code (an 3 code 0)) (au 5 (au 3 (lI code))))=true:=by (repeat (first | exact hc | exact c2 | exact b1 | with_reducible apply aq | with_reducible apply be | with_reducible apply av))
 generalize (ofI (aT 5 code (an 3 code 0) (au 3 (lI code))) [97,98,44,33] code (an 5 code (an 3 code 0)) (au 5 (au 3 (lI code))))=I2 at *
 generalize (ofH (aT 5 code (an 3 code 0) (au 3 (lI code))) [97,98,44,33] code (an 5 code (an 3 code 0)) (au 5 (au 3 (lI code))))=H2 at *
 generalize (ofS (aT 5 code (an 3 code 0) (au 3 (lI code))) [97,98,44,33] code (an 5 code (an 3 code 0)) (au 5 (au 3 (lI code))))=S2 at *
 generalize ((((List.replicate 3 []).set 0 []).set 1 [87,47]).set 2 [119,47]: List aa).getD (aT 3 code 0 (lI code)).toNat []=G at *
 have e5: Int.toNat 5=5:=rfl
 rw [e5] at o1
 obtain ⟨b1,b2⟩:=yU (code:=code) (i:=an 3 code I2) (G++[34]++S2++[34]) (au 3 H2) (aq c2) (by omega)
 have v2:=et 2 code (an 9 code (an 3 code I2)) (au 9 (au 3 H2))
 have v3:=v2.2 (by omega)
 rw [w64 (n:=188 + aT 2 code (an 9 code (an 3 code I2)) (au 9 (au 3 H2))) (by omega) (by omega)]
 repeat' (first | with_reducible refine aeQ ?_ ?_ | with_reducible refine aeR (fun _=>?_) (fun _=>?_))
 all_goals first
  | ((repeat (first | exact hc | exact c2 | exact b1 | with_reducible apply aq | with_reducible apply be | with_reducible apply av));done)
  | exact dT' hl
  | (simp only [Bool.and_true,List.length_cons,List.length_nil,List.length_set,List.length_replicate];(repeat (first | exact hc | exact c2 | exact b1 | with_reducible apply aq | with_reducible apply be | with_reducible apply av));done)
  | (simp (disch:=omega) only [Bool.and_true,t6,decide_true];(repeat (first | exact hc | exact c2 | exact b1 | with_reducible apply aq | with_reducible apply be | with_reducible apply av));done)
  | (simp only [Bool.and_eq_true,decide_eq_true_eq,and_true];refine ⟨?_,by omega⟩;(repeat (first | exact hc | exact c2 | exact b1 | with_reducible apply aq | with_reducible apply be | with_reducible apply av));done)
  | (rw [decide_eq_true_eq];simp only [List.length_append,List.length_cons,List.length_nil] at *;omega)
  | (rw [decide_eq_true_eq,lY];omega)
  | (rw [decide_eq_true_eq];simp only [List.length_append,List.length_cons,List.length_nil,lY];omega)
  | (refine (show ∃ _,_ from ⟨_,rfl,?_⟩);omega)
  | (refine (show ∃ _,_ from ⟨_,rfl,?_⟩);simp only [List.length_append,List.length_cons,List.length_nil,lY];omega)
  | skip
 all_goals trace_state
open Classical in
noncomputable def ac9 (code: List Int): aa:=if h: code.length≤281474976710656 then (aeS code h).choose else []
def X4 (code: List Int): Br:=(.ite (decide (code.length≤281474976710656)) (.ite (decide (code.length≤281474976710656)) (.ite (okC code 0) (.ite (decide ((aT 3 code 0 (lI code))=0)) (.ret (AV.tup [.str (ac9 code),.str (ac9 code)]) []) (.ite (decide ((aT 3 code 0 (lI code))=1)) (.ite (decide ((2 + (List.length (ac9 code)))≤9223372036854775807)) (.ret (AV.tup [.str (ac9 code),.str (([87,47]: aa)++(ac9 code))]) []) .fail) (.ite (((okC code (an 3 code 0))&&true)&&true) (.ite (decide ((3 + (List.length (ofS 1 ([97,98]: aa) code (an 3 code 0) (au 3 (lI code)))))≤9223372036854775807)) (.ite (decide (((List.length (([87,47,34]: aa)++(ofS 1 ([97,98]: aa) code (an 3 code 0) (au 3 (lI code))))) + 1)≤9223372036854775807)) (.ret (AV.tup [.str (ac9 code),.str ((([87,47,34]: aa)++(ofS 1 ([97,98]: aa) code (an 3 code 0) (au 3 (lI code))))++([34]: aa))]) []) .fail) .fail) .fail))) .fail) .fail) .fail)
def ag0: List AV→List Ob→Br
 | [.sh (.int .u8) code],[]=>X4 code
 | _,_=> .fail
def ZT: Opt:={ live:=[(5,[2,3,6,7,8,9])],outs:=[(5,[2,3,4,5,6,7,8])] }
def dFre_C: SC:=[⟨69,_,Wd⟩,⟨79,_,GW⟩,⟨71,_,ci⟩,⟨114,_,qK⟩,⟨98,_,kK⟩,⟨99,_,NQ⟩,⟨115,_,gh⟩]
def Tp (aI: Int) (aR: aa) (aF a7: Int) (ck eg: aa) (eh: Int) (cZ: aa) (fe: Bool) (gJ: aa) (cC cD: (List Fd)) (cE dp: aa) (dq: Int) (dr: aa) (dt: Bool) (du: aa) (dv: (List Fd)) (cv: (List Int)) (cS da: Int) (dw: aa) (dx dy: Int) (dz cX: aa) (dN: Int) (pI: aa) (pJ: Bool) (pK: aa) (pL pM: (List Fd)) (pN pO: aa) (pP: Int) (pQ: aa) (pR: Bool) (pS: aa) (mW: (List Fd)) (kR5: Int→aa→Int→Int→aa→aa→Int→aa→Bool→aa→(List Fd)→(List Fd)→aa→aa→Int→aa→Bool→aa→(List Fd)→(List Int)→Int→Int→aa→Int→Int→aa→aa→Int→aa→Bool→aa→(List Fd)→(List Fd)→aa→aa→Int→aa→Bool→aa→(List Fd)→OR') (cR: aa→Int→Int→aa→aa→Int→aa→Bool→aa→(List Fd)→(List Fd)→aa→aa→Int→aa→Bool→aa→(List Fd)→(List Int)→Int→Int→aa→Int→Int→aa→aa→Int→aa→Bool→aa→(List Fd)→(List Fd)→aa→aa→Int→aa→Bool→aa→(List Fd)→OR'): OR':=
 (bif (decide (0 < aI)) then (bif ((okC cv cS)&&true) then (bif (decide (((mW.length + (List.length (List.set (List.replicate 1 (([]: aa),([]: aa))) 0 ((Ea 1000050 cv cS da).1.1,(Ea 1000050 cv cS da).1.2)))) * 32)≤140737488355328)) then (kR5 (ai (aI - 1)) aR aF a7 ck eg eh cZ fe gJ cC cD cE dp dq dr dt du dv cv (Ea 1000050 cv cS da).2.1 (Ea 1000050 cv cS da).2.2 dw dx dy dz cX dN pI pJ pK pL pM pN pO pP pQ pR pS (mW++(List.set (List.replicate 1 (([]: aa),([]: aa))) 0 ((Ea 1000050 cv cS da).1.1,(Ea 1000050 cv cS da).1.2)))) else none) else none) else (cR aR aF a7 ck eg eh cZ fe gJ cC cD cE dp dq dr dt du dv cv cS da dw dx dy dz cX dN pI pJ pK pL pM pN pO pP pQ pR pS mW))
def uX: Nat→Int→aa→Int→Int→aa→aa→Int→aa→Bool→aa→(List Fd)→(List Fd)→aa→aa→Int→aa→Bool→aa→(List Fd)→(List Int)→Int→Int→aa→Int→Int→aa→aa→Int→aa→Bool→aa→(List Fd)→(List Fd)→aa→aa→Int→aa→Bool→aa→(List Fd)→(aa→Int→Int→aa→aa→Int→aa→Bool→aa→(List Fd)→(List Fd)→aa→aa→Int→aa→Bool→aa→(List Fd)→(List Int)→Int→Int→aa→Int→Int→aa→aa→Int→aa→Bool→aa→(List Fd)→(List Fd)→aa→aa→Int→aa→Bool→aa→(List Fd)→OR')→OR'
 | 0,_,_,_,_,_,_,_,_,_,_,_,_,_,_,_,_,_,_,_,_,_,_,_,_,_,_,_,_,_,_,_,_,_,_,_,_,_,_,_,_,_=>none
 | n + 1,aI,aR,aF,a7,ck,eg,eh,cZ,fe,gJ,cC,cD,cE,dp,dq,dr,dt,du,dv,cv,cS,da,dw,dx,dy,dz,cX,dN,pI,pJ,pK,pL,pM,pN,pO,pP,pQ,pR,pS,mW,cR=>Tp aI aR aF a7 ck eg eh cZ fe gJ cC cD cE dp dq dr dt du dv cv cS da dw dx dy dz cX dN pI pJ pK pL pM pN pO pP pQ pR pS mW (fun aI aR aF a7 ck eg eh cZ fe gJ cC cD cE dp dq dr dt du dv cv cS da dw dx dy dz cX dN pI pJ pK pL pM pN pO pP pQ pR pS mW=>uX n aI aR aF a7 ck eg eh cZ fe gJ cC cD cE dp dq dr dt du dv cv cS da dw dx dy dz cX dN pI pJ pK pL pM pN pO pP pQ pR pS mW cR) cR
abbrev dFre_p5: SP:=⟨58,[2,3,6,7,8,9],[(.v (.ptr 192 0)),(.v (.ptr 256 0)),(.v (.ptr 448 0)),(.v (.ptr 512 0)),(.v (.ptr 576 0)),(.v (.i .i64))],[(192, .var [.s,(.i .i64),(.i .i64),(.ref 196 0), .s, .s,(.i .i64), .s, .b,(.ref 202 0), .s]),(196, .arr (Ty.pair Ty.str Ty.str) 0 false),(202, .arr (Ty.pair Ty.str Ty.str) 0 false),(256, .var [.s, .s,(.i .i64), .s, .b,(.ref 262 0), .s]),(262, .arr (Ty.pair Ty.str Ty.str) 0 false),(448, .var [(.sh (Ty.int .u8)),(.i .i64),(.i .i64)]),(512, .var [.s,(.i .i64),(.i .i64),(.ref 516 0), .s, .s,(.i .i64), .s, .b,(.ref 522 0), .s]),(516, .arr (Ty.pair Ty.str Ty.str) 0 false),(522, .arr (Ty.pair Ty.str Ty.str) 0 false),(576, .var [.s, .s,(.i .i64), .s, .b,(.ref 582 0), .s]),(582, .arr (Ty.pair Ty.str Ty.str) 0 false)]⟩
noncomputable def Tq: Code:=aD (aG Tryz.f42) [1,1,1,1,0,1,0,0]
def Ts (f: (aa→Int→Int→aa→aa→Int→aa→Bool→aa→(List Fd)→(List Fd)→aa→aa→Int→aa→Bool→aa→(List Fd)→(List Int)→Int→Int→aa→Int→Int→aa→aa→Int→aa→Bool→aa→(List Fd)→(List Fd)→aa→aa→Int→aa→Bool→aa→(List Fd)→OR')→OR') (k: KT): OR':=f (fun ap a_ cg eI ei cV dS bb gK gL ey c_ ez jK jL jM jN jO aj aw aE fx fy cT db pT pU pV pW pX pY pZ An Ao Ap Aq Ar As vj=>k (Ex.exit 0) ((St.mk (aH 0 58 [(2,(AV.ptr 192 0)),(3,(AV.ptr 256 0)),(6,(AV.ptr 448 0)),(7,(AV.ptr 512 0)),(8,(AV.ptr 576 0))]) ((192,(Ob.var [.str ap,.int .i64 a_,.int .i64 cg,.ref 196 0,.str eI,.str ei,.int .i64 cV,.str dS,.bool bb,.ref 202 0,.str gK]))::((196,(Ob.arr (Ty.pair Ty.str Ty.str) 0 false gL))::((202,(Ob.arr (Ty.pair Ty.str Ty.str) 0 false ey))::((256,(Ob.var [.str c_,.str ez,.int .i64 jK,.str jL,.bool jM,.ref 262 0,.str jN]))::((262,(Ob.arr (Ty.pair Ty.str Ty.str) 0 false jO))::((448,(Ob.var [.sh (Ty.int .u8) aj,.int .i64 aw,.int .i64 aE]))::((512,(Ob.var [.str fx,.int .i64 fy,.int .i64 cT,.ref 516 0,.str db,.str pT,.int .i64 pU,.str pV,.bool pW,.ref 522 0,.str pX]))::((516,(Ob.arr (Ty.pair Ty.str Ty.str) 0 false pY))::((522,(Ob.arr (Ty.pair Ty.str Ty.str) 0 false pZ))::((576,(Ob.var [.str An,.str Ao,.int .i64 Ap,.str Aq,.bool Ar,.ref 582 0,.str As]))::((582,(Ob.arr (Ty.pair Ty.str Ty.str) 0 false vj))::([]: (List (Nat×(Ob))))))))))))))))))
def Tt (n: Nat) (d: dFre_p5.D): KT→OR':=Ts (uX n d.1.2.2.2.2.2.1 d.2.1.1 d.2.1.2.1 d.2.1.2.2.1 d.2.1.2.2.2.2.1 d.2.1.2.2.2.2.2.1 d.2.1.2.2.2.2.2.2.1 d.2.1.2.2.2.2.2.2.2.1 d.2.1.2.2.2.2.2.2.2.2.1 d.2.1.2.2.2.2.2.2.2.2.2.2.1 d.2.2.1 d.2.2.2.1 d.2.2.2.2.1.1 d.2.2.2.2.1.2.1 d.2.2.2.2.1.2.2.1 d.2.2.2.2.1.2.2.2.1 d.2.2.2.2.1.2.2.2.2.1 d.2.2.2.2.1.2.2.2.2.2.2.1 d.2.2.2.2.2.1 d.2.2.2.2.2.2.1.1 d.2.2.2.2.2.2.1.2.1 d.2.2.2.2.2.2.1.2.2.1 d.2.2.2.2.2.2.2.1.1 d.2.2.2.2.2.2.2.1.2.1 d.2.2.2.2.2.2.2.1.2.2.1 d.2.2.2.2.2.2.2.1.2.2.2.2.1 d.2.2.2.2.2.2.2.1.2.2.2.2.2.1 d.2.2.2.2.2.2.2.1.2.2.2.2.2.2.1 d.2.2.2.2.2.2.2.1.2.2.2.2.2.2.2.1 d.2.2.2.2.2.2.2.1.2.2.2.2.2.2.2.2.1 d.2.2.2.2.2.2.2.1.2.2.2.2.2.2.2.2.2.2.1 d.2.2.2.2.2.2.2.2.1 d.2.2.2.2.2.2.2.2.2.1 d.2.2.2.2.2.2.2.2.2.2.1.1 d.2.2.2.2.2.2.2.2.2.2.1.2.1 d.2.2.2.2.2.2.2.2.2.2.1.2.2.1 d.2.2.2.2.2.2.2.2.2.2.1.2.2.2.1 d.2.2.2.2.2.2.2.2.2.2.1.2.2.2.2.1 d.2.2.2.2.2.2.2.2.2.2.1.2.2.2.2.2.2.1 d.2.2.2.2.2.2.2.2.2.2.2.1)
def ZU (N: Nat): Lam:=bw [⟨5,dFre_p5,Tt N⟩]
theorem X5 (N: Nat): OkL Kx dFre_C.s ZT 0 N (ZU N) Tq:=okL dFre_p5 (Tt) (fun d kR=>Ts (Tp d.1.2.2.2.2.2.1 d.2.1.1 d.2.1.2.1 d.2.1.2.2.1 d.2.1.2.2.2.2.1 d.2.1.2.2.2.2.2.1 d.2.1.2.2.2.2.2.2.1 d.2.1.2.2.2.2.2.2.2.1 d.2.1.2.2.2.2.2.2.2.2.1 d.2.1.2.2.2.2.2.2.2.2.2.2.1 d.2.2.1 d.2.2.2.1 d.2.2.2.2.1.1 d.2.2.2.2.1.2.1 d.2.2.2.2.1.2.2.1 d.2.2.2.2.1.2.2.2.1 d.2.2.2.2.1.2.2.2.2.1 d.2.2.2.2.1.2.2.2.2.2.2.1 d.2.2.2.2.2.1 d.2.2.2.2.2.2.1.1 d.2.2.2.2.2.2.1.2.1 d.2.2.2.2.2.2.1.2.2.1 d.2.2.2.2.2.2.2.1.1 d.2.2.2.2.2.2.2.1.2.1 d.2.2.2.2.2.2.2.1.2.2.1 d.2.2.2.2.2.2.2.1.2.2.2.2.1 d.2.2.2.2.2.2.2.1.2.2.2.2.2.1 d.2.2.2.2.2.2.2.1.2.2.2.2.2.2.1 d.2.2.2.2.2.2.2.1.2.2.2.2.2.2.2.1 d.2.2.2.2.2.2.2.1.2.2.2.2.2.2.2.2.1 d.2.2.2.2.2.2.2.1.2.2.2.2.2.2.2.2.2.2.1 d.2.2.2.2.2.2.2.2.1 d.2.2.2.2.2.2.2.2.2.1 d.2.2.2.2.2.2.2.2.2.2.1.1 d.2.2.2.2.2.2.2.2.2.2.1.2.1 d.2.2.2.2.2.2.2.2.2.2.1.2.2.1 d.2.2.2.2.2.2.2.2.2.2.1.2.2.2.1 d.2.2.2.2.2.2.2.2.2.2.1.2.2.2.2.1 d.2.2.2.2.2.2.2.2.2.2.1.2.2.2.2.2.2.1 d.2.2.2.2.2.2.2.2.2.2.2.1 (fun aI aR aF a7 ck eg eh cZ fe gJ cC cD cE dp dq dr dt du dv cv cS da dw dx dy dz cX dN pI pJ pK pL pM pN pO pP pQ pR pS mW=>kR (((),(),(),(),(),aI,()),((aR,aF,a7,(),ck,eg,eh,cZ,fe,(),gJ,()),cC,cD,(cE,dp,dq,dr,dt,(),du,()),dv,(cv,cS,da,()),(dw,dx,dy,(),dz,cX,dN,pI,pJ,(),pK,()),pL,pM,(pN,pO,pP,pQ,pR,(),pS,()),mW,()))))) (fun _ _=>by kernel_rfl) (fun _ _ _=>by kernel_rfl) (fun _ _=>by kernel_rfl) (fun _ _ _ _=>by kernel_rfl) (am (l':=[]) (by kernel_rfl) trivial)
abbrev bg (aj aw aE):=(xU () aj (an 9 aj (an 3 aj aw)) (au 9 (au 3 aE)))
abbrev jG (aj aw):=(an 4 aj (an 9 aj (an 3 aj aw)))
abbrev dQ (code):=(Eo () code 0 (lI code))
def nW (N: Nat) (code: List Int): OR':=(bif (decide (code.length≤281474976710656)) then (bif ((okC code 0)&&true) then (bif (okC code (dQ code).2.1) then (uX N (aT 5 code (dQ code).2.1 (dQ code).2.2) ([]: aa) 0 0 ([]: aa) ([]: aa) 0 ([]: aa) false ([]: aa) ([]: (List Fd)) ([]: (List Fd)) ([]: aa) ([]: aa) 0 ([]: aa) false ([]: aa) ([]: (List Fd)) code (an 5 code (dQ code).2.1) (au 5 (dQ code).2.2) (dQ code).1.1 (dQ code).1.2.1 (dQ code).1.2.2.1 (dQ code).1.2.2.2.2.1 (dQ code).1.2.2.2.2.2.1 (dQ code).1.2.2.2.2.2.2.1 (dQ code).1.2.2.2.2.2.2.2.1 (dQ code).1.2.2.2.2.2.2.2.2.1 (dQ code).1.2.2.2.2.2.2.2.2.2.2 (dQ code).1.2.2.2.1 (dQ code).1.2.2.2.2.2.2.2.2.2.1 ([]: aa) ([]: aa) 304 ([]: aa) true ([]: aa) ([]: (List Fd)) (fun ap a_ cg eI ei cV dS bb gK gL ey c_ ez jK jL jM jN jO aj aw aE fx fy cT db pT pU pV pW pX pY pZ An Ao Ap Aq Ar As vj=>(bif (okC aj aw) then (bif (decide ((aT 3 aj aw aE)=0)) then (bif (decide (((vj.length + 2) * 32)≤140737488355328)) then (bif (okC aj (an 3 aj aw)) then (bif (decide ((aT 9 aj (an 3 aj aw) (au 3 aE))=0)) then (bif ((okC aj (an 9 aj (an 3 aj aw)))&&true) then (bif ((okC aj (bg aj aw aE).2.1)&&true) then (bif (okC aj (an 4 aj (bg aj aw aE).2.1)) then (bif (okC aj (an 3 aj (an 4 aj (bg aj aw aE).2.1))) then (some ((AV.tup [.agg [.str fx,.int .i64 fy,.int .i64 cT,.ref 0 0,.str db,.str pT,.int .i64 pU,.str pV,.bool pW,.ref 1 0,.str pX],.agg [.str (bg aj aw aE).1.1,.str (bg aj aw aE).1.2.1,.int .i64 (bg aj aw aE).1.2.2.1,.str (bg aj aw aE).1.2.2.2.1,.bool (bg aj aw aE).1.2.2.2.2.1,.ref 2 0,.str (bg aj aw aE).1.2.2.2.2.2.2],.int .i64 (ai ((ai ((ai (cT + (List.getD (List.set (List.set (List.set (List.set (List.replicate 4 (0 : Int)) 0 0) 1 5) 2 (-1)) 3 253402300799) (Int.toNat (aT 4 aj (bg aj aw aE).2.1 (bg aj aw aE).2.2)) 0))) - (aT 3 aj (an 4 aj (bg aj aw aE).2.1) (au 4 (bg aj aw aE).2.2)))) + (aT 2 aj (an 3 aj (an 4 aj (bg aj aw aE).2.1)) (au 3 (au 4 (bg aj aw aE).2.2))))),.int .i64 (ai (cT + (List.getD (List.set (List.set (List.set (List.set (List.replicate 4 (0 : Int)) 0 0) 1 5) 2 (-1)) 3 253402300799) (Int.toNat (aT 4 aj (bg aj aw aE).2.1 (bg aj aw aE).2.2)) 0)))]),[.arr (Ty.pair Ty.str Ty.str) 0 false pY,.arr (Ty.pair Ty.str Ty.str) 0 false pZ,.arr (Ty.pair Ty.str Ty.str) 0 false (bg aj aw aE).1.2.2.2.2.2.1])) else none) else none) else none) else none) else (bif ((okC aj (an 9 aj (an 3 aj aw)))&&true) then (bif (okC aj (jG aj aw)) then (bif (okC aj (an 3 aj (jG aj aw))) then (some ((AV.tup [.agg [.str fx,.int .i64 fy,.int .i64 cT,.ref 0 0,.str db,.str pT,.int .i64 pU,.str pV,.bool pW,.ref 1 0,.str pX],.agg [.str An,.str Ao,.int .i64 Ap,.str Aq,.bool Ar,.ref 2 0,.str As],.int .i64 (ai ((ai ((ai (cT + (List.getD (List.set (List.set (List.set (List.set (List.replicate 4 (0 : Int)) 0 0) 1 5) 2 (-1)) 3 253402300799) (Int.toNat (aT 4 aj (an 9 aj (an 3 aj aw)) (au 9 (au 3 aE)))) 0))) - (aT 3 aj (jG aj aw) (au 4 (au 9 (au 3 aE)))))) + (aT 2 aj (an 3 aj (jG aj aw)) (au 3 (au 4 (au 9 (au 3 aE))))))),.int .i64 (ai (cT + (List.getD (List.set (List.set (List.set (List.set (List.replicate 4 (0 : Int)) 0 0) 1 5) 2 (-1)) 3 253402300799) (Int.toNat (aT 4 aj (an 9 aj (an 3 aj aw)) (au 9 (au 3 aE)))) 0)))]),[.arr (Ty.pair Ty.str Ty.str) 0 false pY,.arr (Ty.pair Ty.str Ty.str) 0 false pZ,.arr (Ty.pair Ty.str Ty.str) 0 false (vj++(List.set (List.set (List.replicate 2 (([]: aa),([]: aa))) 0 (([67,111,110,116,101,110,116,45,84,121,112,101]: aa),([116]: aa))) 1 (([67,111,110,110,101,99,116,105,111,110]: aa),([101,116,97,103]: aa))))])) else none) else none) else none)) else none) else none) else (bif (okC aj (an 3 aj aw)) then (bif (decide ((aT 9 aj (an 3 aj aw) (au 3 aE))=0)) then (bif ((okC aj (an 9 aj (an 3 aj aw)))&&true) then (bif ((okC aj (bg aj aw aE).2.1)&&true) then (bif (okC aj (an 4 aj (bg aj aw aE).2.1)) then (bif (okC aj (an 3 aj (an 4 aj (bg aj aw aE).2.1))) then (some ((AV.tup [.agg [.str fx,.int .i64 fy,.int .i64 cT,.ref 0 0,.str db,.str pT,.int .i64 pU,.str pV,.bool pW,.ref 1 0,.str pX],.agg [.str (bg aj aw aE).1.1,.str (bg aj aw aE).1.2.1,.int .i64 (bg aj aw aE).1.2.2.1,.str (bg aj aw aE).1.2.2.2.1,.bool (bg aj aw aE).1.2.2.2.2.1,.ref 2 0,.str (bg aj aw aE).1.2.2.2.2.2.2],.int .i64 (ai ((ai ((ai (cT + (List.getD (List.set (List.set (List.set (List.set (List.replicate 4 (0 : Int)) 0 0) 1 5) 2 (-1)) 3 253402300799) (Int.toNat (aT 4 aj (bg aj aw aE).2.1 (bg aj aw aE).2.2)) 0))) - (aT 3 aj (an 4 aj (bg aj aw aE).2.1) (au 4 (bg aj aw aE).2.2)))) + (aT 2 aj (an 3 aj (an 4 aj (bg aj aw aE).2.1)) (au 3 (au 4 (bg aj aw aE).2.2))))),.int .i64 (ai (cT + (List.getD (List.set (List.set (List.set (List.set (List.replicate 4 (0 : Int)) 0 0) 1 5) 2 (-1)) 3 253402300799) (Int.toNat (aT 4 aj (bg aj aw aE).2.1 (bg aj aw aE).2.2)) 0)))]),[.arr (Ty.pair Ty.str Ty.str) 0 false pY,.arr (Ty.pair Ty.str Ty.str) 0 false pZ,.arr (Ty.pair Ty.str Ty.str) 0 false (bg aj aw aE).1.2.2.2.2.2.1])) else none) else none) else none) else none) else (bif ((okC aj (an 9 aj (an 3 aj aw)))&&true) then (bif (okC aj (jG aj aw)) then (bif (okC aj (an 3 aj (jG aj aw))) then (some ((AV.tup [.agg [.str fx,.int .i64 fy,.int .i64 cT,.ref 0 0,.str db,.str pT,.int .i64 pU,.str pV,.bool pW,.ref 1 0,.str pX],.agg [.str An,.str Ao,.int .i64 Ap,.str Aq,.bool Ar,.ref 2 0,.str As],.int .i64 (ai ((ai ((ai (cT + (List.getD (List.set (List.set (List.set (List.set (List.replicate 4 (0 : Int)) 0 0) 1 5) 2 (-1)) 3 253402300799) (Int.toNat (aT 4 aj (an 9 aj (an 3 aj aw)) (au 9 (au 3 aE)))) 0))) - (aT 3 aj (jG aj aw) (au 4 (au 9 (au 3 aE)))))) + (aT 2 aj (an 3 aj (jG aj aw)) (au 3 (au 4 (au 9 (au 3 aE))))))),.int .i64 (ai (cT + (List.getD (List.set (List.set (List.set (List.set (List.replicate 4 (0 : Int)) 0 0) 1 5) 2 (-1)) 3 253402300799) (Int.toNat (aT 4 aj (an 9 aj (an 3 aj aw)) (au 9 (au 3 aE)))) 0)))]),[.arr (Ty.pair Ty.str Ty.str) 0 false pY,.arr (Ty.pair Ty.str Ty.str) 0 false pZ,.arr (Ty.pair Ty.str Ty.str) 0 false vj])) else none) else none) else none)) else none)) else none))) else none) else none) else none)
def KJ (φ: (List Int)→Br): List AV→List Ob→Br
 | [.sh (.int .u8) code],[]=>φ code
 | _,_=> .fail
theorem Tu {φ: (List Int)→Br} (fu: (List Int)→Nat) (hv: ∀ code res_,(φ code).val=some res_→nW (fu code) code=some res_): Sound Kx 42 (KJ φ):=ar (C:=dFre_C) (O:=ZT) Tryz.func42 (by kernel_rfl) fun args objs=>by
 unfold KJ;split
 · rename_i code;exact .inr fun _ hyp_=>aS (Λ:=ZU (fu code)) (by kernel_rfl) (am (l':=[Tq]) (by kernel_rfl) ⟨X5 _,trivial⟩) (by kernel_rfl) (hv code _ hyp_)
 · exact .inl rfl
def aeT (y m d: Int) (k: aa): Br:=(.ite (decide (2≤(k.length: Int))) (.ite (decide ((List.length (cut k 0 2))≤12)) (.ite (decide (5≤(k.length: Int))) (.ite (decide ((List.length (cut k 3 5))≤12)) (.ite (decide (8≤(k.length: Int))) (.ite (decide ((List.length (cut k 6 8))≤12)) (.ite (lL (cvM y m d (W7 (cut k 0 2)) (W7 (cut k 3 5)) (W7 (cut k 6 8)))).2 (.ret (AV.int .i64 (lL (cvM y m d (W7 (cut k 0 2)) (W7 (cut k 3 5)) (W7 (cut k 6 8)))).1) []) (.ret (AV.int .i64 (-1)) [])) .fail) .fail) .fail) .fail) .fail) .fail)
def ah6: List AV→List Ob→Br
 | [.int .i64 y, .int .i64 m, .int .i64 d, .str k],[]=>aeT y m d k
 | _,_=> .fail
def acs: Opt:={ split:=true }
def act: SC:=[⟨205,_,So⟩,⟨206,_,NG⟩,⟨207,_,Zc⟩,⟨208,_,XR⟩,⟨209,_,S4⟩,⟨210,_,S5⟩,⟨211,_,S6⟩]
abbrev ia (s: aa):=(lL (cvM (ai ((ai ((List.getD (bR s) 1 0) + 1900)) + 100)) (Jp (cut s (vo s 44) (s.length: Int))) (List.getD (bR s) 0 0) (List.getD (bR s) 2 0) (List.getD (bR s) 3 0) (List.getD (bR s) 4 0)))
abbrev ib (s: aa):=(lL (cvM (ai ((List.getD (bR s) 1 0) + 1900)) (Jp (cut s (vo s 44) (s.length: Int))) (List.getD (bR s) 0 0) (List.getD (bR s) 2 0) (List.getD (bR s) 3 0) (List.getD (bR s) 4 0)))
abbrev ic (s: aa):=(lL (cvM (List.getD (bR s) 1 0) (Jp (cut s (vo s 44) (s.length: Int))) (List.getD (bR s) 0 0) (List.getD (bR s) 2 0) (List.getD (bR s) 3 0) (List.getD (bR s) 4 0)))
abbrev ie (s: aa):=(lL (cvM (List.getD (bR s) 4 0) (Jp (cut s 3 (s.length: Int))) (List.getD (bR s) 0 0) (List.getD (bR s) 1 0) (List.getD (bR s) 2 0) (List.getD (bR s) 3 0)))
abbrev eo (s: aa):=(Br.ret (AV.tup ((AV.int .i64 0)::((AV.bool false)::[]))) [])
abbrev ep (s: aa):=((List.length (bR s)): Int)
def zR (s: aa): Br:=(.ite (decide ((s.length: Int) < 6)) (eo s) (.ite (decide (40 < (s.length: Int))) (eo s) (.ite (decide (s.length≤100000)) (.ite (!(decide ((ep s)=5))) (eo s) (.ite (decide (3≤(s.length: Int))) (.ite (decide ((List.length (cut s 3 (s.length: Int)))≤1000000)) (.ite (decide (0≤(vo s 44))) (.ite (decide (0≤(vo s 44))) (.ite (decide ((vo s 44)≤(s.length: Int))) (.ite (decide ((List.length (cut s (vo s 44) (s.length: Int)))≤1000000)) (.ite (decide (1 < (ep s))) (.ite (decide (0 < (ep s))) (.ite (decide (2 < (ep s))) (.ite (decide (3 < (ep s))) (.ite (decide (4 < (ep s))) (.ite (decide (0≤(vo s 45))) (.ite (decide ((ai ((List.getD (bR s) 1 0) + 1900)) < 1970)) (.ite (!(ia s).2) (eo s) (.ite (!(decide ((iq (ia s).1)=s))) (.ite (!(decide ((jZ (ia s).1)=s))) (.ite (!(decide ((j0 (ia s).1)=s))) (eo s) (.ret (AV.tup [.int .i64 (ia s).1,.bool true]) [])) (.ret (AV.tup [.int .i64 (ia s).1,.bool true]) [])) (.ret (AV.tup [.int .i64 (ia s).1,.bool true]) []))) (.ite (!(ib s).2) (eo s) (.ite (!(decide ((iq (ib s).1)=s))) (.ite (!(decide ((jZ (ib s).1)=s))) (.ite (!(decide ((j0 (ib s).1)=s))) (eo s) (.ret (AV.tup [.int .i64 (ib s).1,.bool true]) [])) (.ret (AV.tup [.int .i64 (ib s).1,.bool true]) [])) (.ret (AV.tup [.int .i64 (ib s).1,.bool true]) [])))) (.ite (!(ic s).2) (eo s) (.ite (!(decide ((iq (ic s).1)=s))) (.ite (!(decide ((jZ (ic s).1)=s))) (.ite (!(decide ((j0 (ic s).1)=s))) (eo s) (.ret (AV.tup [.int .i64 (ic s).1,.bool true]) [])) (.ret (AV.tup [.int .i64 (ic s).1,.bool true]) [])) (.ret (AV.tup [.int .i64 (ic s).1,.bool true]) [])))) .fail) .fail) .fail) .fail) .fail) .fail) .fail) .fail) (.ite (decide (4 < (ep s))) (.ite (decide (0 < (ep s))) (.ite (decide (1 < (ep s))) (.ite (decide (2 < (ep s))) (.ite (decide (3 < (ep s))) (.ite (!(ie s).2) (eo s) (.ite (!(decide ((iq (ie s).1)=s))) (.ite (!(decide ((jZ (ie s).1)=s))) (.ite (!(decide ((j0 (ie s).1)=s))) (eo s) (.ret (AV.tup [.int .i64 (ie s).1,.bool true]) [])) (.ret (AV.tup [.int .i64 (ie s).1,.bool true]) [])) (.ret (AV.tup [.int .i64 (ie s).1,.bool true]) []))) .fail) .fail) .fail) .fail) .fail)) .fail) .fail)) .fail)))
def Tv: List AV→List Ob→Br
 | [.str s],[]=>zR s
 | _,_=> .fail
theorem iRead_ok: Sound Kx 151 Tv:=ah (C:=act) (O:=acs) Tryz.func151 (by kernel_rfl) fun args objs=>by
 unfold Tv;split
 · exact .inr (by kernel_rfl)
 · exact .inl rfl
theorem acu (l: aa) (n: Nat): Ev.cut l ((n: Nat): Int) (l.length: Int)=l.drop n:=by unfold Ev.cut;simp
def atB (k: aa): Bool:=decide (k.length=8)
def ail: List AV→List Ob→Br
 | [.int .i64 y, .int .i64 m, .int .i64 d, .str k],[]=> .ite (atB k) (.ret (.int .i64 (atS y m d k)) []) .fail
 | _,_=> .fail
theorem Ep (b: UInt8): ∀ s: aa,cW s (by8 b)=true→vo s (by8 b)=((aB s (by8 b)).length: Int)
 | [],h=>by cases h
 | a::r,h=>by
   have e: (by8 b).toNat.toUInt8=b:=by simp [by8]
   have hd: cW (a::r) (by8 b)=(decide (by8 a=by8 b)||cW r (by8 b)):=rfl
   have hu: aB (a::r) (by8 b)=bif !decide (by8 a=by8 b) then a::aB r (by8 b) else []:=by
    unfold aB;rw [List.takeWhile_cons];cases decide (by8 a=by8 b) <;> rfl
   unfold vo
   rw [e,hu]
   by_cases c: a=b
   · subst c
     unfold Lib.indexByte
     simp
   · have cb: ¬ by8 a=by8 b:=fun h=>c (by unfold by8 at h;exact UInt8.toNat_inj.1 (by omega))
     rw [hd,dF' cb,Bool.false_or] at h
     have ih:=Ep b r h
     unfold vo at ih
     rw [e] at ih
     unfold Lib.indexByte
     rw [if_neg (by simpa using c),ih,if_neg (by simp),dF' cb]
     rfl
def aeU (s: aa) (c: Cv): Br:=
 (Br.ite (!(lL c).2) (Br.ret (AV.tup ((AV.int .i64 (0 : Int))::((AV.bool false)::([]: (List (AV)))))) ([]: (List (Ob)))) (Br.ite (!(decide ((iq (lL c).1)=s))) (Br.ite (!(decide ((jZ (lL c).1)=s))) (Br.ite (!(decide ((j0 (lL c).1)=s))) (Br.ret (AV.tup ((AV.int .i64 (0 : Int))::((AV.bool false)::([]: (List (AV)))))) ([]: (List (Ob)))) (Br.ret (AV.tup ((AV.int .i64 (lL c).1)::((AV.bool true)::([]: (List (AV)))))) ([]: (List (Ob))))) (Br.ret (AV.tup ((AV.int .i64 (lL c).1)::((AV.bool true)::([]: (List (AV)))))) ([]: (List (Ob))))) (Br.ret (AV.tup ((AV.int .i64 (lL c).1)::((AV.bool true)::([]: (List (AV)))))) ([]: (List (Ob))))))
theorem nX (s: aa) (c: Cv): (aeU s c).val=some (.tup [.int .i64 (abJ s c).1, .bool (abJ s c).2],[]):=by
 unfold aeU abJ
 generalize (lL c).2=b0
 generalize decide (iq (lL c).1=s)=b1
 generalize decide (jZ (lL c).1=s)=b2
 generalize decide (j0 (lL c).1=s)=b3
 generalize (lL c).1=v
 cases b0 <;> cases b1 <;> cases b2 <;> cases b3 <;> rfl
def ZV: List AV→List Ob→Br
 | [.str s],[]=> .ret (.tup [.int .i64 (q9 s).1, .bool (q9 s).2]) []
 | _,_=> .fail
theorem Tw (s: aa): (zR s).val=some (.tup [.int .i64 (rdI s).1, .bool (rdI s).2],[]):=by
 unfold zR rdI ep eo ie ic ib ia
 by_cases c1: s.length < 6
 · rw [dT' (show (s.length: Int) < 6 by omega),dF' (show ¬ 6≤s.length by omega)];rfl
 rw [dF' (show ¬ (s.length: Int) < 6 by omega),dT' (show 6≤s.length by omega)]
 by_cases c2: 40 < s.length
 · rw [dT' (show (40 : Int) < (s.length: Int) by omega),dF' (show ¬ s.length≤40 by omega)];rfl
 rw [dF' (show ¬ (40 : Int) < (s.length: Int) by omega),dT' (show s.length≤40 by omega),dT' (show s.length≤100000 by omega)]
 by_cases c3: (bR s).length=5
 case neg=>rw [dF' (show ¬ ((bR s).length: Int)=5 by omega),dF' c3];rfl
 have lc: ∀ a b: Int,decide ((Ev.cut s a b).length≤1000000)=true:=fun a b=>dT' (by have:=abD s a b;omega)
 rw [dT' (show ((bR s).length: Int)=5 by omega),dT' c3,dT' (show (3 : Int)≤(s.length: Int) by omega),lc,lc,yD s 44 (by omega) (by omega),yD s 45 (by omega) (by omega),
  dT' (show (1 : Int) < ((bR s).length: Int) by omega),dT' (show (0 : Int) < ((bR s).length: Int) by omega),dT' (show (2 : Int) < ((bR s).length: Int) by omega),
  dT' (show (3 : Int) < ((bR s).length: Int) by omega),dT' (show (4 : Int) < ((bR s).length: Int) by omega)]
 have hn:=XG s 1
 have cd: Ev.cut s 3 (s.length: Int)=s.drop 3:=acu s 3
 rw [w64 (n:=(bR s).getD 1 0 + 1900) (by omega) (by omega),w64 (n:=(bR s).getD 1 0 + 1900 + 100) (by omega) (by omega),cd]
 unfold cvI
 cases h44: cW s 44
 · exact nX s _
 · have ix: vo s 44=((aB s 44).length: Int):=Ep 44 s h44
   have hul: (aB s 44).length≤s.length:=by unfold aB;exact (List.takeWhile_sublist _).length_le
   rw [ix,acu,dT' (show ((aB s 44).length: Int)≤(s.length: Int) by omega)]
   cases h45: cW s 45
   · exact nX s _
   · unfold cen
     cases hc: decide ((bR s).getD 1 0 + 1900 < 1970)
     · exact nX s _
     · exact nX s _
theorem Tx: Sound Kx 151 ZV:=iRead_ok.of fun args objs r h=>by
 unfold ZV at h;split at h
 · rename_i s
   rw [← h]
   refine (Tw s).trans ?_
   rw [Zz];rfl
 · cases h
def aeV (s p: aa): Br:=(.ite (decide ((p.length: Int)≤(s.length: Int))) (.ite (decide (0≤(p.length: Int))) (.ite (decide ((p.length: Int)≤(s.length: Int))) (.ret (AV.bool (decide ((cut s 0 (p.length: Int))=p))) []) .fail) .fail) (.ret (AV.bool false) []))
def aeW: List AV→List Ob→Br
 | [.str s, .str p],[]=>aeV s p
 | _,_=> .fail
theorem aeX: Sound Kx 196 aeW:=ah (C:=[]) (O:=O0) Tryz.func196 (by kernel_rfl) fun args objs=>by
 unfold aeW;split
 · exact .inr (by kernel_rfl)
 · exact .inl rfl
def aeY: Opt:={ split:=true }
def aeZ: SC:=[⟨196,_,aeX⟩]
def acv (s p: aa): Br:=(.ite (decide ((p.length: Int)≤(s.length: Int))) (.ite (decide (0≤(p.length: Int))) (.ite (decide ((p.length: Int)≤(s.length: Int))) (.ite (decide ((cut s 0 (p.length: Int))=p)) (.ite (decide (0≤(p.length: Int))) (.ite (decide ((p.length: Int)≤(s.length: Int))) (.ret (AV.str (cut s (p.length: Int) (s.length: Int))) []) .fail) .fail) (.ret (AV.str s) [])) .fail) .fail) (.ret (AV.str s) []))
def ZW: List AV→List Ob→Br
 | [.str s, .str p],[]=>acv s p
 | _,_=> .fail
theorem acw: Sound Kx 149 ZW:=ah (C:=aeZ) (O:=aeY) Tryz.func149 (by kernel_rfl) fun args objs=>by
 unfold ZW;split
 · exact .inr (by kernel_rfl)
 · exact .inl rfl
def ag3: SC:=[⟨149,_,acw⟩]
def Tz (s p: aa): Br:=(.ite (decide ((p.length: Int)≤(s.length: Int))) (.ite (decide (0≤(p.length: Int))) (.ite (decide ((p.length: Int)≤(s.length: Int))) (.ite (decide ((cut s 0 (p.length: Int))=p)) (.ite (decide (0≤(p.length: Int))) (.ite (decide ((p.length: Int)≤(s.length: Int))) (.ret (AV.str (cut s (p.length: Int) (s.length: Int))) []) .fail) .fail) (.ret (AV.str s) [])) .fail) .fail) (.ret (AV.str s) []))
def ae0: List AV→List Ob→Br
 | [.str s, .str p],[]=>Tz s p
 | _,_=> .fail
theorem tpx_ok: Sound Kx 73 ae0:=ah (C:=ag3) (O:=O0) Tryz.func73 (by kernel_rfl) fun args objs=>by
 unfold ae0;split
 · exact .inr (by kernel_rfl)
 · exact .inl rfl
def ae1: SC:=[⟨47,_,jt⟩]
def GX (l: List Fd) (name: aa): Br:=(.ite (isM name) (.ite (decide (((List.length (e_ l name)): Int)=0)) (.ret (AV.tup [.str ([]: aa),.bool false]) []) (.ite (decide (0 < ((List.length (e_ l name)): Int))) (.ret (AV.tup [.str (List.getD (e_ l name) 0 ([]: aa)),.bool true]) []) .fail)) .fail)
def ZX: List AV→List Ob→Br
 | [.sh (.pair .str .str) l, .str name],[]=>GX l name
 | _,_=> .fail
theorem iGet_ok: Sound Kx 80 ZX:=ah (C:=ae1) (O:=O0) Tryz.func80 (by kernel_rfl) fun args objs=>by
 unfold ZX;split
 · exact .inr (by kernel_rfl)
 · exact .inl rfl
def GY (b: Int): Br:=(.ite (decide (32 < b)) (.ite (!(decide (b=34))) (.ret (AV.bool (!(decide (b=127)))) []) (.ret (AV.bool false) [])) (.ret (AV.bool false) []))
def ZY: List AV→List Ob→Br
 | [.int .u8 b],[]=>GY b
 | _,_=> .fail
theorem acx: Sound Kx 75 ZY:=ah (C:=[]) (O:=O0) Tryz.func75 (by kernel_rfl) fun args objs=>by
 unfold ZY;split
 · exact .inr (by kernel_rfl)
 · exact .inl rfl
def tpP (s p: aa): aa:=bif decide (p.length≤s.length)&&decide (s.take p.length=p) then s.drop p.length else s
def fv (s: aa): aa:=tpP s [87,47]
theorem NR (s: aa): (fv s).length≤s.length:=by
 unfold fv tpP
 cases decide (([87,47]: aa).length≤s.length)&&decide (s.take ([87,47]: aa).length=[87,47])
 · exact Nat.le_refl _
 · rw [cond_true,List.length_drop];omega
def ahI: List AV→List Ob→Br
 | [.str s, .str p],[]=> .ret (.str (tpP s p)) []
 | _,_=> .fail
theorem acy (s: aa) (n: Nat): Ev.cut s 0 ((n: Nat): Int)=s.take n:=by unfold Ev.cut;simp
theorem TA: Sound Kx 73 ahI:=tpx_ok.of fun args objs r h=>by
 unfold ahI at h;split at h
 · rename_i s p
   rw [← h]
   show (Tz s p).val=some (.str (tpP s p),[])
   unfold Tz tpP
   rw [acy,acu]
   by_cases c: p.length≤s.length
   · rw [dT' (show (p.length: Int)≤(s.length: Int) by omega),dT' (show (0 : Int)≤(p.length: Int) by omega),dT' c]
     cases decide (s.take p.length=p) <;> rfl
   · rw [dF' (show ¬ (p.length: Int)≤(s.length: Int) by omega),dF' c];rfl
 · cases h
def vH (b: Int): Bool:=decide (32 < b)&& !decide (b=34)&& !decide (b=127)
theorem X6: Sound Kx 75 (Im vH):=qZ acx fun b=>by
 show (GY b).val=some (.bool (vH b),[])
 unfold GY vH
 generalize decide (32 < b)=b1
 generalize decide (b=34)=b2
 generalize decide (b=127)=b3
 cases b1 <;> cases b2 <;> cases b3 <;> rfl
theorem zS: Sound Kx 80 Qp:=iGet_ok.of fun args objs r h=>by
 unfold Qp at h;split at h
 · rename_i l name
   obtain ⟨h1,h2⟩:=al h
   cases h2
   show (GX l name).val=some (.tup [.str ((e_ l name).getD 0 []), .bool (qz l name)],[])
   unfold GX qz
   rw [h1]
   cases hv: e_ l name with
   | nil=>rfl
   | cons a v=>
     rw [dF' (show ¬ ((a::v).length: Int)=0 by simp only [List.length_cons];omega),dT' (show (0 : Int) < ((a::v).length: Int) by simp only [List.length_cons];omega),dT' (show 0 < (a::v).length by simp)]
     rfl
 · cases h
def dtP (l: List Fd) (name: aa): Int×Bool:=bif qz l name then q9 ((e_ l name).getD 0 []) else (0,false)
theorem TB: q9 []=(0,false):=by rw [← Zz];rfl
theorem ae2 (l: List Fd) (name: aa): q9 ((e_ l name).getD 0 [])=dtP l name:=by
 unfold dtP qz
 cases hv: e_ l name with
 | nil=>exact TB
 | cons a v=>rw [dT' (show 0 < (a::v).length by simp)];rfl
def ae3: List AV→List Ob→Br
 | [.sh (.pair .str .str) l, .str name],[]=> .ite (isM name) (.ret (.tup [.int .i64 (dtP l name).1, .bool (dtP l name).2]) []) .fail
 | _,_=> .fail
def KK: Opt:={ live:=[(2,[0,1,5])],outs:=[(2,[4])] }
def allTag_C: SC:=[⟨75,_,X6⟩]
def nY (aK: aa) (aM: Int) (kR2: aa→Int→OR') (cu dn: OR'): OR':=
 (bif (decide (aM < (aK.length: Int))) then (bif (decide (0≤aM)) then (bif (decide (aM < (aK.length: Int))) then (bif (!(vH (aC aK aM))) then cu else (kR2 aK (ai (aM + 1)))) else none) else none) else dn)
def i_: Nat→aa→Int→(OR')→(OR')→OR'
 | 0,_,_,_,_=>none
 | n + 1,aK,aM,cu,dn=>nY aK aM (fun aK aM=>i_ n aK aM cu dn) cu dn
abbrev allTag_p2: SP:=⟨18,[0,1,5],[(.v .s),(.v (.fn 75 [])),(.v (.i .i64))],[]⟩
noncomputable def Er: Code:=aD (aG Tryz.f74) [1,0,1,0,0]
def Es (f: (OR')→(OR')→OR') (k: KT): OR':=f (k Ex.ret ((St.mk (aH 0 18 [(4,(AV.bool false))]) ([]: (List (Nat×(Ob))))))) (k (Ex.exit 0) ((St.mk (aH 0 18 []) ([]: (List (Nat×(Ob)))))))
def Et (n: Nat) (d: allTag_p2.D): KT→OR':=Es (i_ n d.1.1 d.1.2.2.1)
def KL (N: Nat): Lam:=bw [⟨2,allTag_p2,Et N⟩]
theorem NS (N: Nat): OkL Kx allTag_C.s KK 0 N (KL N) Er:=okL allTag_p2 (Et) (fun d kR=>Es (nY d.1.1 d.1.2.2.1 (fun aK aM=>kR ((aK,(),aM,()),())))) (fun _ _=>by kernel_rfl) (fun _ _ _=>by kernel_rfl) (fun _ _=>by kernel_rfl) (fun _ _ _ _=>by kernel_rfl) (am (l':=[]) (by kernel_rfl) trivial)
def xV (N: Nat) (s: aa): OR':=(i_ N s 0 (some ((AV.bool false),[])) (some ((AV.bool true),[])))
def o_ (φ: aa→Br): List AV→List Ob→Br
 | [.str s, .fn 75 []],[]=>φ s
 | _,_=> .fail
theorem GZ {φ: aa→Br} (fu: aa→Nat) (hv: ∀ s res_,(φ s).val=some res_→xV (fu s) s=some res_): Sound Kx 74 (o_ φ):=ar (C:=allTag_C) (O:=KK) Tryz.func74 (by kernel_rfl) fun args objs=>by
 unfold o_;split
 · rename_i s;exact .inr fun _ hyp_=>aS (Λ:=KL (fu s)) (by kernel_rfl) (am (l':=[Er]) (by kernel_rfl) ⟨NS _,trivial⟩) (by kernel_rfl) (hv s _ hyp_)
 · exact .inl rfl
def TC: SC:=[⟨80,_,zS⟩,⟨151,_,Tx⟩]
def pb (l: List Fd) (name: aa): Br:=(.ite (isM name) (.ret (AV.tup [.int .i64 (q9 (List.getD (e_ l name) 0 ([]: aa))).1,.bool (q9 (List.getD (e_ l name) 0 ([]: aa))).2]) []) .fail)
def Eu: List AV→List Ob→Br
 | [.sh (.pair .str .str) l, .str name],[]=>pb l name
 | _,_=> .fail
theorem iDateIn_ok: Sound Kx 81 Eu:=ah (C:=TC) (O:=O0) Tryz.func81 (by kernel_rfl) fun args objs=>by
 unfold Eu;split
 · exact .inr (by kernel_rfl)
 · exact .inl rfl
theorem G0 (l: aa) (hl: l.length≤4611686018427387904) (k0 k1: OR'): ∀ (r: aa) (i: Int) (n: Nat),At l i r→r.length < n→i_ n l i k0 k1=bif aU vH r then k1 else k0:=by
 intro r;induction r with
 | nil=>intro i n h hn;obtain ⟨n,rfl⟩:=bF hn;unfold i_ nY;simp only [h.dge,cond_false,aU,List.all_nil,cond_true]
 | cons a r ih=>
   intro i n h hn;obtain ⟨n,rfl⟩:=bF hn
   have hs:=ih (i + 1) n h.step (by simp at hn;omega)
   unfold i_ nY;simp only [h.dlt,h.dnn,h.str,cond_true,h.next hl,hs,aU,List.all_cons]
   cases vH (by8 a) <;> rfl
def X7:=o_ fun s=> .ite (isM s) (.ret (.bool (aU vH s)) []) .fail
theorem NT: Sound Kx 74 X7:=by
 refine GZ (fun s=>s.length + 1) fun s r h=>?_
 obtain ⟨h1,h2⟩:=al h
 unfold xV
 rw [G0 s (fZ h1) _ _ s 0 _ (At.start s) (by omega),← h2]
 cases aU vH s <;> rfl
theorem uY: Sound Kx 81 ae3:=iDateIn_ok.of fun args objs r h=>by
 unfold ae3 at h;split at h
 · rename_i l name
   obtain ⟨h1,h2⟩:=al h
   cases h2
   show (pb l name).val=some (.tup [.int .i64 (dtP l name).1, .bool (dtP l name).2],[])
   unfold pb
   rw [h1,ae2];rfl
 · cases h
def NU (s: aa): Bool:=
 bif decide (190 < (s.length: Int)) then false else bif decide (((fv s).length: Int) < 2) then false else bif !decide (aC (fv s) 0=34) then false
 else bif !decide (aC (fv s) (((fv s).length: Int) - 1)=34) then false else aU vH (Ev.cut (fv s) 1 (((fv s).length: Int) - 1))
def ahJ: List AV→List Ob→Br
 | [.str s],[]=> .ret (.bool (NU s)) []
 | _,_=> .fail
def ae4: SC:=[⟨73,_,TA⟩,⟨74,_,NT⟩]
def G1 (s: aa): Br:=(.ite (decide (190 < (s.length: Int))) (.ret (AV.bool false) []) (.ite (decide (((List.length (tpP s ([87,47]: aa))): Int) < 2)) (.ret (AV.bool false) []) (.ite (decide (0 < ((List.length (tpP s ([87,47]: aa))): Int))) (.ite (!(decide ((aC (tpP s ([87,47]: aa)) 0)=34))) (.ret (AV.bool false) []) (.ite (decide (0≤(ai (((List.length (tpP s ([87,47]: aa))): Int) - 1)))) (.ite (decide ((ai (((List.length (tpP s ([87,47]: aa))): Int) - 1)) < ((List.length (tpP s ([87,47]: aa))): Int))) (.ite (!(decide ((aC (tpP s ([87,47]: aa)) (ai (((List.length (tpP s ([87,47]: aa))): Int) - 1)))=34))) (.ret (AV.bool false) []) (.ite (decide (1≤(ai (((List.length (tpP s ([87,47]: aa))): Int) - 1)))) (.ite (decide ((ai (((List.length (tpP s ([87,47]: aa))): Int) - 1))≤((List.length (tpP s ([87,47]: aa))): Int))) (.ite (isM (cut (tpP s ([87,47]: aa)) 1 (ai (((List.length (tpP s ([87,47]: aa))): Int) - 1)))) (.ret (AV.bool (aU vH (cut (tpP s ([87,47]: aa)) 1 (ai (((List.length (tpP s ([87,47]: aa))): Int) - 1))))) []) .fail) .fail) .fail)) .fail) .fail)) .fail)))
def ZZ: List AV→List Ob→Br
 | [.str s],[]=>G1 s
 | _,_=> .fail
theorem iTag_ok: Sound Kx 23 ZZ:=ah (C:=ae4) (O:=O0) Tryz.func23 (by kernel_rfl) fun args objs=>by
 unfold ZZ;split
 · exact .inr (by kernel_rfl)
 · exact .inl rfl
theorem X8 (l: aa) (a b: Int): (Ev.cut l a b).length≤l.length:=by
 unfold Ev.cut;rw [List.length_drop,List.length_take];omega
theorem KM: Sound Kx 23 ahJ:=iTag_ok.of fun args objs r h=>by
 unfold ahJ at h;split at h
 · rename_i s
   cases h
   show (G1 s).val=some (.bool (NU s),[])
   unfold G1 NU
   have e: tpP s [87,47]=fv s:=rfl
   rw [e]
   by_cases c1: 190 < (s.length: Int)
   · rw [dT' c1];rfl
   rw [dF' c1]
   have hsl:=NR s
   generalize fv s=t at *
   by_cases c2: (t.length: Int) < 2
   · rw [dT' c2];rfl
   have hM: isM (Ev.cut t 1 ((t.length: Int) - 1))=true:=bW (n:=1000) (by have:=X8 t 1 ((t.length: Int) - 1);omega)
   rw [dF' c2,dT' (show (0 : Int) < (t.length: Int) by omega),w64 (n:=(t.length: Int) - 1) (by omega) (by omega),dT' (show (0 : Int)≤(t.length: Int) - 1 by omega),dT' (show (t.length: Int) - 1 < (t.length: Int) by omega),
    dT' (show (1 : Int)≤(t.length: Int) - 1 by omega),dT' (show (t.length: Int) - 1≤(t.length: Int) by omega),hM]
   cases decide (aC t 0=34) <;> cases decide (aC t ((t.length: Int) - 1)=34) <;> rfl
 · cases h
def G2 (a b: aa): Bool:=bif NU a then bif NU b then decide (fv a=fv b) else false else false
def ahK: List AV→List Ob→Br
 | [.str a, .str b],[]=> .ret (.bool (G2 a b)) []
 | _,_=> .fail
def acz: Opt:={ split:=true }
def acA: SC:=[⟨23,_,KM⟩,⟨73,_,TA⟩]
def zT (a b: aa): Br:=(.ite (NU a) (.ite (NU b) (.ret (AV.bool (decide ((tpP a ([87,47]: aa))=(tpP b ([87,47]: aa))))) []) (.ret (AV.bool false) [])) (.ret (AV.bool false) []))
def TD: List AV→List Ob→Br
 | [.str a, .str b],[]=>zT a b
 | _,_=> .fail
theorem iWeak_ok: Sound Kx 25 TD:=ah (C:=acA) (O:=acz) Tryz.func25 (by kernel_rfl) fun args objs=>by
 unfold TD;split
 · exact .inr (by kernel_rfl)
 · exact .inl rfl
abbrev r8 (ur: aa) (t1 t2: Int) (ak: List Fd) (me ta: aa) (st: Int) (re: aa) (ba: Bool) (fs: List Fd) (bo: aa):=(List.set (List.replicate 1 (([]: aa),([]: aa))) 0 (([73,102,45,77,111,100,105,102,105,101,100,45,83,105,110,99,101]: aa),(List.getD (e_ fs ([108,97,115,116,45,109,111,100,105,102,105,101,100]: aa)) 0 ([]: aa))))
abbrev nZ (ur: aa) (t1 t2: Int) (ak: List Fd) (me ta: aa) (st: Int) (re: aa) (ba: Bool) (fs: List Fd) (bo: aa):=(List.set (List.replicate 1 (([]: aa),([]: aa))) 0 (([73,102,45,78,111,110,101,45,77,97,116,99,104]: aa),(List.getD (e_ fs ([101,116,97,103]: aa)) 0 ([]: aa))))
abbrev KN (ur: aa) (t1 t2: Int) (ak: List Fd) (me ta: aa) (st: Int) (re: aa) (ba: Bool) (fs: List Fd) (bo: aa):=(Br.ite (qz fs ([108,97,115,116,45,109,111,100,105,102,105,101,100]: aa)) (Br.ite (q9 (List.getD (e_ fs ([108,97,115,116,45,109,111,100,105,102,105,101,100]: aa)) 0 ([]: aa))).2 (Br.ite (decide (((List.length (r8 ur t1 t2 ak me ta st re ba fs bo)) * 32)≤140737488355328)) (Br.ret (AV.ref 0 0) ((Ob.arr (Ty.pair Ty.str Ty.str) 0 false (r8 ur t1 t2 ak me ta st re ba fs bo))::[])) Br.fail) (Br.ret (AV.ref 0 0) ((Ob.arr (Ty.pair Ty.str Ty.str) 0 false ([]: (List Fd)))::[]))) (Br.ret (AV.ref 0 0) ((Ob.arr (Ty.pair Ty.str Ty.str) 0 false ([]: (List Fd)))::[])))
def X9 (ur: aa) (t1 t2: Int) (ak: List Fd) (me ta: aa) (st: Int) (re: aa) (ba: Bool) (fs: List Fd) (bo: aa): Br:=(.ite (isM ur) (.ite (!(lz (ur,(t1,(t2,(ak,(me,(ta,(st,(re,(ba,(fs,bo)))))))))))) (.ret (AV.ref 0 0) [.arr (Ty.pair Ty.str Ty.str) 0 false ([]: (List Fd))]) (.ite (qz fs ([101,116,97,103]: aa)) (.ite (NU (List.getD (e_ fs ([101,116,97,103]: aa)) 0 ([]: aa))) (.ite (decide (((List.length (nZ ur t1 t2 ak me ta st re ba fs bo)) * 32)≤140737488355328)) (.ite (qz fs ([108,97,115,116,45,109,111,100,105,102,105,101,100]: aa)) (.ite (q9 (List.getD (e_ fs ([108,97,115,116,45,109,111,100,105,102,105,101,100]: aa)) 0 ([]: aa))).2 (.ite (decide ((((List.length (nZ ur t1 t2 ak me ta st re ba fs bo)) + (List.length (r8 ur t1 t2 ak me ta st re ba fs bo))) * 32)≤140737488355328)) (.ret (AV.ref 0 0) [.arr (Ty.pair Ty.str Ty.str) 0 false ((nZ ur t1 t2 ak me ta st re ba fs bo)++(r8 ur t1 t2 ak me ta st re ba fs bo))]) .fail) (.ret (AV.ref 0 0) [.arr (Ty.pair Ty.str Ty.str) 0 false (nZ ur t1 t2 ak me ta st re ba fs bo)])) (.ret (AV.ref 0 0) [.arr (Ty.pair Ty.str Ty.str) 0 false (nZ ur t1 t2 ak me ta st re ba fs bo)])) .fail) (KN ur t1 t2 ak me ta st re ba fs bo)) (KN ur t1 t2 ak me ta st re ba fs bo))) .fail)
def ag4: List AV→List Ob→Br
 | [.agg [.str ur, .int .i64 t1, .int .i64 t2, .sh (.pair .str .str) ak, .str me, .str ta, .int .i64 st, .str re, .bool ba, .sh (.pair .str .str) fs, .str bo]],[]=>X9 ur t1 t2 ak me ta st re ba fs bo
 | _,_=> .fail
def acB: Opt:={ split:=true }
def acC: SC:=[⟨49,_,fN⟩,⟨80,_,zS⟩,⟨23,_,KM⟩,⟨81,_,uY⟩]
abbrev n0 (ur: aa) (t1 t2: Int) (ak: List Fd) (me ta: aa) (st: Int) (re: aa) (ba: Bool) (fs: List Fd) (bo: aa):=(List.set (List.replicate 1 (([]: aa),([]: aa))) 0 (([73,102,45,77,111,100,105,102,105,101,100,45,83,105,110,99,101]: aa),(List.getD (e_ fs ([108,97,115,116,45,109,111,100,105,102,105,101,100]: aa)) 0 ([]: aa))))
abbrev n3 (ur: aa) (t1 t2: Int) (ak: List Fd) (me ta: aa) (st: Int) (re: aa) (ba: Bool) (fs: List Fd) (bo: aa):=(List.set (List.replicate 1 (([]: aa),([]: aa))) 0 (([73,102,45,78,111,110,101,45,77,97,116,99,104]: aa),(List.getD (e_ fs ([101,116,97,103]: aa)) 0 ([]: aa))))
abbrev zU (ur: aa) (t1 t2: Int) (ak: List Fd) (me ta: aa) (st: Int) (re: aa) (ba: Bool) (fs: List Fd) (bo: aa):=(Br.ite (dtP fs ([108,97,115,116,45,109,111,100,105,102,105,101,100]: aa)).2 (Br.ite (decide (((List.length (n0 ur t1 t2 ak me ta st re ba fs bo)) * 32)≤140737488355328)) (Br.ret (AV.ref 0 0) ((Ob.arr (Ty.pair Ty.str Ty.str) 0 false (n0 ur t1 t2 ak me ta st re ba fs bo))::[])) Br.fail) (Br.ret (AV.ref 0 0) ((Ob.arr (Ty.pair Ty.str Ty.str) 0 false ([]: (List Fd)))::[])))
def zV (ur: aa) (t1 t2: Int) (ak: List Fd) (me ta: aa) (st: Int) (re: aa) (ba: Bool) (fs: List Fd) (bo: aa): Br:=(.ite (isM ur) (.ite (!(lz (ur,(t1,(t2,(ak,(me,(ta,(st,(re,(ba,(fs,bo)))))))))))) (.ret (AV.ref 0 0) [.arr (Ty.pair Ty.str Ty.str) 0 false ([]: (List Fd))]) (.ite (qz fs ([101,116,97,103]: aa)) (.ite (NU (List.getD (e_ fs ([101,116,97,103]: aa)) 0 ([]: aa))) (.ite (decide (((List.length (n3 ur t1 t2 ak me ta st re ba fs bo)) * 32)≤140737488355328)) (.ite (dtP fs ([108,97,115,116,45,109,111,100,105,102,105,101,100]: aa)).2 (.ite (decide ((((List.length (n3 ur t1 t2 ak me ta st re ba fs bo)) + (List.length (n0 ur t1 t2 ak me ta st re ba fs bo))) * 32)≤140737488355328)) (.ret (AV.ref 0 0) [.arr (Ty.pair Ty.str Ty.str) 0 false ((n3 ur t1 t2 ak me ta st re ba fs bo)++(n0 ur t1 t2 ak me ta st re ba fs bo))]) .fail) (.ret (AV.ref 0 0) [.arr (Ty.pair Ty.str Ty.str) 0 false (n3 ur t1 t2 ak me ta st re ba fs bo)])) .fail) (zU ur t1 t2 ak me ta st re ba fs bo)) (zU ur t1 t2 ak me ta st re ba fs bo))) .fail)
def TE: List AV→List Ob→Br
 | [.agg [.str ur, .int .i64 t1, .int .i64 t2, .sh (.pair .str .str) ak, .str me, .str ta, .int .i64 st, .str re, .bool ba, .sh (.pair .str .str) fs, .str bo]],[]=>zV ur t1 t2 ak me ta st re ba fs bo
 | _,_=> .fail
theorem iVali_ok: Sound Kx 30 TE:=ah (C:=acC) (O:=acB) Tryz.func30 (by kernel_rfl) fun args objs=>by
 unfold TE;split
 · exact .inr (by kernel_rfl)
 · exact .inl rfl
theorem Ew: Sound Kx 25 ahK:=iWeak_ok.of fun args objs r h=>by
 unfold ahK at h;split at h
 · rename_i a b
   cases h
   show (zT a b).val=some (.bool (G2 a b),[])
   unfold zT G2 fv
   cases NU a <;> cases NU b <;> rfl
 · cases h
def X_: aa:=[105,102,45,110,111,110,101,45,109,97,116,99,104]
def ae5: aa:=[105,102,45,109,111,100,105,102,105,101,100,45,115,105,110,99,101]
def nLM: aa:=[108,97,115,116,45,109,111,100,105,102,105,101,100]
def nET: aa:=[101,116,97,103]
def ae6 (tag w: aa): Bool:=bif decide (w=[42]) then true else G2 w tag
def acD (l: List Fd) (e: En): Bool:=
 bif !lz e then false else bif !bd l then false
 else bif qz l X_ then (bJ l X_).any (ae6 ((e_ e.2.2.2.2.2.2.2.2.2.1 nET).getD 0 []))
 else bif (dtP l ae5).2 then bif (dtP e.2.2.2.2.2.2.2.2.2.1 nLM).2 then decide ((dtP e.2.2.2.2.2.2.2.2.2.1 nLM).1≤(dtP l ae5).1) else false else false
def ahL: List AV→List Ob→Br
 | [.sh (.pair .str .str) l, .agg [.str ur, .int .i64 t1, .int .i64 t2, .sh (.pair .str .str) ak, .str me, .str ta, .int .i64 st, .str re, .bool ba, .sh (.pair .str .str) fs, .str bo]],[]=> .ite (isM ur) (.ret (.bool (acD l (ur,t1,t2,ak,me,ta,st,re,ba,fs,bo))) []) .fail
 | _,_=> .fail
def ah7: SC:=[⟨25,_,Ew⟩]
def ag5 (w tag: aa): Br:=(.ite (decide (w=([42]: aa))) (.ret (AV.bool true) [.var [.str tag]]) (.ret (AV.bool (G2 w tag)) [.var [.str tag]]))
def ahM: List AV→List Ob→Br
 | [.str w, .ptr 0 0],[.var [.str tag]]=>ag5 w tag
 | _,_=> .fail
theorem ag6: Sound Kx 88 ahM:=ah (C:=ah7) (O:=O0) Tryz.func88 (by kernel_rfl) fun args objs=>by
 unfold ahM;split
 · exact .inr (by kernel_rfl)
 · exact .inl rfl
def ae7: Opt:={ live:=[(2,[0,1,7,8])],outs:=[(2,[4])] }
def ixF_C: SC:=[⟨88,_,ag6⟩]
def Ey (aK: (List aa)) (aM cr: Int) (gV: aa) (kR2: (List aa)→Int→Int→aa→OR') (cu: Int→aa→OR') (dn: aa→OR'): OR':=
 (bif (decide (cr < aM)) then (bif (decide (0≤cr)) then (bif (decide (cr < (aK.length: Int))) then (bif (decide ((List.getD aK (Int.toNat cr) ([]: aa))=([42]: aa))) then (cu cr gV) else (bif (G2 (List.getD aK (Int.toNat cr) ([]: aa)) gV) then (cu cr gV) else (kR2 aK aM (ai (cr + 1)) gV))) else none) else none) else (dn gV))
def n4: Nat→(List aa)→Int→Int→aa→(Int→aa→OR')→(aa→OR')→OR'
 | 0,_,_,_,_,_,_=>none
 | n + 1,aK,aM,cr,gV,cu,dn=>Ey aK aM cr gV (fun aK aM cr gV=>n4 n aK aM cr gV cu dn) cu dn
abbrev ixF_p2: SP:=⟨19,[0,1,7,8],[(.v (.sh Ty.str)),(.v (.fn 88 [(0,0)])),(.v (.i .i64)),(.v (.i .i64))],[(0, .var [.s])]⟩
noncomputable def Z0: Code:=aD (aG Tryz.f159) [1,0,1,0,0]
def Z1 (f: (Int→aa→OR')→(aa→OR')→OR') (k: KT): OR':=f (fun bS fO=>k Ex.ret ((St.mk (aH 0 19 [(4,(AV.int .i64 bS))]) ((0,(Ob.var [.str fO]))::([]: (List (Nat×(Ob)))))))) (fun gI=>k (Ex.exit 0) ((St.mk (aH 0 19 []) ((0,(Ob.var [.str gI]))::([]: (List (Nat×(Ob))))))))
def Z2 (n: Nat) (d: ixF_p2.D): KT→OR':=Z1 (n4 n d.1.1 d.1.2.2.1 d.1.2.2.2.1 d.2.1.1)
def ae8 (N: Nat): Lam:=bw [⟨2,ixF_p2,Z2 N⟩]
theorem acE (N: Nat): OkL Kx ixF_C.s ae7 1 N (ae8 N) Z0:=okL ixF_p2 (Z2) (fun d kR=>Z1 (Ey d.1.1 d.1.2.2.1 d.1.2.2.2.1 d.2.1.1 (fun aK aM cr gV=>kR ((aK,(),aM,cr,()),((gV,()),()))))) (fun _ _=>by kernel_rfl) (fun _ _ _=>by kernel_rfl) (fun _ _=>by kernel_rfl) (fun _ _ _ _=>by kernel_rfl) (am (l':=[]) (by kernel_rfl) trivial)
def TF (N: Nat) (l: List aa) (tag: aa): OR':=(n4 N l (l.length: Int) 0 tag (fun bS fO=>(some ((AV.int .i64 bS),[.var [.str fO]]))) (fun gI=>(some ((AV.int .i64 (-1)),[.var [.str gI]]))))
def TG (φ: (List aa)→aa→Br): List AV→List Ob→Br
 | [.sh .str l, .fn 88 [.ptr 0 0]],[.var [.str tag]]=>φ l tag
 | _,_=> .fail
theorem Ya {φ: (List aa)→aa→Br} (fu: (List aa)→aa→Nat) (hv: ∀ l tag res_,(φ l tag).val=some res_→TF (fu l tag) l tag=some res_): Sound Kx 159 (TG φ):=ar (C:=ixF_C) (O:=ae7) Tryz.func159 (by kernel_rfl) fun args objs=>by
 unfold TG;split
 · rename_i l tag;exact .inr fun _ hyp_=>aS (Λ:=ae8 (fu l tag)) (by kernel_rfl) (am (l':=[Z0]) (by kernel_rfl) ⟨acE _,trivial⟩) (by kernel_rfl) (hv l tag _ hyp_)
 · exact .inl rfl
def VD (tag: aa): List aa→Int→Int
 | [],_=> -1
 | w::r,i=>bif ae6 tag w then i else VD tag r (i + 1)
theorem KO (tag: aa): ∀ (l: List aa) (i: Int),0≤i→decide (0≤VD tag l i)=l.any (ae6 tag)
 | [],i,h=>rfl
 | w::r,i,h=>by
   unfold VD
   rw [List.any_cons]
   cases ae6 tag w
   · rw [cond_false,Bool.false_or];exact KO tag r (i + 1) (by omega)
   · rw [cond_true,Bool.true_or];exact dT' h
theorem Yb (l: List aa) (hl: l.length≤100000) (tag: aa) (K: Int→OR'): ∀ (r: List aa) (i: Int) (n: Nat),At l i r→r.length < n→n4 n l (l.length: Int) i tag (fun x _=>K x) (fun _=>K (-1))=K (VD tag r i):=by
 intro r;induction r with
 | nil=>intro i n h hn;obtain ⟨n,rfl⟩:=bF hn;unfold n4 Ey;simp only [h.dge,cond_false];rfl
 | cons w r ih=>
   intro i n h hn;obtain ⟨n,rfl⟩:=bF hn
   simp only [List.length_cons] at hn
   have hr:=ih (i + 1) n h.step (by omega)
   unfold n4 Ey
   simp only [h.dlt,h.dnn,h.get,cond_true,h.next (show l.length≤4611686018427387904 by omega),hr,VD]
   unfold ae6
   cases decide (w=[42]) <;> cases G2 w tag <;> rfl
def ae9 (p: aa→List aa→AV): List AV→List Ob→Br
 | [.sh .str l, .fn 88 [.ptr 0 0]],[.var [.str tag]]=> .ite (decide (l.length≤100000)) (.ret (p tag l) [.var [.str tag]]) .fail
 | _,_=> .fail
theorem acF: Sound Kx 159 (ae9 fun tag l=> .int .i64 (VD tag l 0)):=by
 refine (Ya (φ:=fun l tag=> .ite (decide (l.length≤100000)) (.ret (.int .i64 (VD tag l 0)) [.var [.str tag]]) .fail) (fun l _=>l.length + 1) fun l tag r h=>?_).of fun args objs r h=>?_
 · obtain ⟨h1,h2⟩:=al h
   cases h2
   rw [decide_eq_true_eq] at h1
   unfold TF
   have hc: ∀ (r: List aa) (i: Int) (n: Nat) (k0 k0': Int→aa→OR') (k1 k1': aa→OR'),(∀ x,k0 x tag=k0' x tag)→k1 tag=k1' tag→n4 n l (l.length: Int) i tag k0 k1=n4 n l (l.length: Int) i tag k0' k1':=by
    intro r i n
    induction n generalizing i with
    | zero=>intros;rfl
    | succ n ih=>
      intro k0 k0' k1 k1' h0 h1
      unfold n4 Ey
      simp only [h0,h1,ih _ k0 k0' k1 k1' h0 h1]
   rw [hc l 0 (l.length + 1) _ (fun x _=>some (.int .i64 x,[.var [.str tag]])) _ (fun _=>some (.int .i64 (-1),[.var [.str tag]])) (fun _=>rfl) rfl]
   exact Yb l h1 tag (fun x=>some (.int .i64 x,[.var [.str tag]])) l 0 (l.length + 1) (At.start l) (by omega)
 · unfold ae9 at h;split at h
   · exact h
   · cases h
def ag7: SC:=[⟨159,_,acF⟩]
def ae_ (l: List aa) (tag: aa): Br:=(.ite (decide (l.length≤100000)) (.ret (AV.bool (decide (0≤(VD tag l 0)))) [.var [.str tag]]) .fail)
def afa: List AV→List Ob→Br
 | [.sh .str l, .fn 88 [.ptr 0 0]],[.var [.str tag]]=>ae_ l tag
 | _,_=> .fail
theorem afb: Sound Kx 86 afa:=ah (C:=ag7) (O:=O0) Tryz.func86 (by kernel_rfl) fun args objs=>by
 unfold afa;split
 · exact .inr (by kernel_rfl)
 · exact .inl rfl
def afc: Opt:={ split:=true }
def afd: SC:=[⟨49,_,fN⟩,⟨84,_,cK⟩,⟨85,_,I_⟩,⟨87,_,kY⟩,⟨80,_,zS⟩,⟨86,_,afb⟩,⟨81,_,uY⟩]
def G3 (l: List Fd) (ur: aa) (t1 t2: Int) (ak: List Fd) (me ta: aa) (st: Int) (re: aa) (ba: Bool) (fs: List Fd) (bo: aa): Br:=(.ite (isM ur) (.ite (!(lz (ur,(t1,(t2,(ak,(me,(ta,(st,(re,(ba,(fs,bo)))))))))))) (.ret (AV.bool false) []) (.ite (!(bd l)) (.ret (AV.bool false) []) (.ite (qz l ([105,102,45,110,111,110,101,45,109,97,116,99,104]: aa)) (.ite (decide ((List.length (bJ l ([105,102,45,110,111,110,101,45,109,97,116,99,104]: aa)))≤100000)) (.ret (AV.bool (decide (0≤(VD (List.getD (e_ fs ([101,116,97,103]: aa)) 0 ([]: aa)) (bJ l ([105,102,45,110,111,110,101,45,109,97,116,99,104]: aa)) 0)))) []) .fail) (.ite (dtP l ([105,102,45,109,111,100,105,102,105,101,100,45,115,105,110,99,101]: aa)).2 (.ite (dtP fs ([108,97,115,116,45,109,111,100,105,102,105,101,100]: aa)).2 (.ret (AV.bool (decide ((dtP fs ([108,97,115,116,45,109,111,100,105,102,105,101,100]: aa)).1≤(dtP l ([105,102,45,109,111,100,105,102,105,101,100,45,115,105,110,99,101]: aa)).1))) []) (.ret (AV.bool false) [])) (.ret (AV.bool false) []))))) .fail)
def Z3: List AV→List Ob→Br
 | [.sh (.pair .str .str) l, .agg [.str ur, .int .i64 t1, .int .i64 t2, .sh (.pair .str .str) ak, .str me, .str ta, .int .i64 st, .str re, .bool ba, .sh (.pair .str .str) fs, .str bo]],[]=>G3 l ur t1 t2 ak me ta st re ba fs bo
 | _,_=> .fail
theorem iUnm_ok: Sound Kx 33 Z3:=ah (C:=afd) (O:=afc) Tryz.func33 (by kernel_rfl) fun args objs=>by
 unfold Z3;split
 · exact .inr (by kernel_rfl)
 · exact .inl rfl
theorem Yc (l: List Fd) (ur: aa) (t1 t2: Int) (ak: List Fd) (me ta: aa) (st: Int) (re: aa) (ba: Bool) (fs: List Fd) (bo: aa) (h1: isM ur=true): (G3 l ur t1 t2 ak me ta st re ba fs bo).val=some (.bool (acD l (ur,t1,t2,ak,me,ta,st,re,ba,fs,bo)),[]):=by
 have hw:=(jy l X_).1
 have e0: decide ((bJ l X_).length≤100000)=true:=dT' (by omega)
 have e1:=KO ((e_ fs nET).getD 0 []) (bJ l X_) 0 (by omega)
 unfold G3 acD
 rw [h1]
 cases lz (ur,t1,t2,ak,me,ta,st,re,ba,fs,bo)
 · rfl
 cases bd l
 · rfl
 show (Br.ite (qz l X_) (Br.ite (decide ((bJ l X_).length≤100000)) (.ret (.bool (decide (0≤VD ((e_ fs nET).getD 0 []) (bJ l X_) 0))) []) .fail) (Br.ite (dtP l ae5).2 (Br.ite (dtP fs nLM).2 (.ret (.bool (decide ((dtP fs nLM).1≤(dtP l ae5).1))) []) _) _)).val=_
 rw [e0,e1]
 cases qz l X_
 · cases (dtP l ae5).2 <;> cases (dtP fs nLM).2 <;> rfl
 · rfl
theorem Yd: Sound Kx 33 ahL:=iUnm_ok.of fun args objs r h=>by
 unfold ahL at h;split at h
 · obtain ⟨h1,h2⟩:=al h
   cases h2
   exact Yc _ _ _ _ _ _ _ _ _ _ _ _ h1
 · cases h
end
end Go.Proofs.YtgknmoadpgpdeaaGreatDoor.Ev
namespace Go.Proofs.YtgknmoadpgpdeaaGreatDoor.Ev
open Go Go.RowKit
set_option linter.unusedVariables false
set_option linter.unusedSimpArgs false
end Go.Proofs.YtgknmoadpgpdeaaGreatDoor.Ev
namespace Go.Proofs.YtgknmoadpgpdeaaGreatDoor.Ev
open Go Go.RowKit
set_option linter.unusedVariables false
set_option linter.unusedSimpArgs false
noncomputable section
def ah8: List AV→List Ob→Br
 | [.sh (.pair .str .str) l, .int .i64 k],[]=> .ite (decide (0 < k)&&decide (k + 2 * l.length≤100000000)&&decide (l=Jv l.length k)) (.ret (.int .i64 (k + 2 * l.length)) []) .fail
 | _,_=> .fail
def ah9: List AV→List Ob→Br
 | [.agg [.str ur, .int .i64 t1, .int .i64 t2, .ref 0 0, .str me, .str ta, .int .i64 st, .str re, .bool ba, .ref 1 0, .str bo], .int .i64 k],[.arr (.pair .str .str) 0 false ak, .arr (.pair .str .str) 0 false fs]=>
   .ite (decide (0 < k)&&decide (k + 2 * ak.length + 2 * fs.length≤100000000)) (.ret (.int .i64 (k + 2 * ak.length + 2 * fs.length)) [.arr (.pair .str .str) 0 false (Jv ak.length k), .arr (.pair .str .str) 0 false (Jv fs.length (k + 2 * ak.length))]) .fail
 | _,_=> .fail
def ah_: aa:=[73,102,45,78,111,110,101,45,77,97,116,99,104]
def aia: aa:=[73,102,45,77,111,100,105,102,105,101,100,45,83,105,110,99,101]
def ahN (fs: List Fd): List Fd:=(bif qz fs nET&&NU ((e_ fs nET).getD 0 []) then [(ah_,(e_ fs nET).getD 0 [])] else [])++(bif (dtP fs nLM).2 then [(aia,(e_ fs nLM).getD 0 [])] else [])
def vdP (e: En): List Fd:=bif lz e then ahN e.2.2.2.2.2.2.2.2.2.1 else []
def ahO: List AV→List Ob→Br
 | [.agg [.str ur, .int .i64 t1, .int .i64 t2, .sh (.pair .str .str) ak, .str me, .str ta, .int .i64 st, .str re, .bool ba, .sh (.pair .str .str) fs, .str bo]],[]=>
   .ite (isM ur) (.ret (.ref 0 0) [.arr (.pair .str .str) 0 false (vdP (ur,t1,t2,ak,me,ta,st,re,ba,fs,bo))]) .fail
 | _,_=> .fail
theorem TH: Sound Kx 30 ahO:=iVali_ok.of fun args objs r h=>by
 unfold ahO at h;split at h
 case h_2=>cases h
 rename_i ur t1 t2 ak me ta st re ba fs bo
 obtain ⟨h1,h2⟩:=al h
 cases h2
 show (zV ur t1 t2 ak me ta st re ba fs bo).val=_
 unfold zV vdP ahN zU n3 n0
 refine (bX h1).trans ?_
 cases lz (ur,t1,t2,ak,me,ta,st,re,ba,fs,bo)
 · rfl
 unfold nET nLM
 cases qz fs [101,116,97,103] <;> cases NU ((e_ fs [101,116,97,103]).getD 0 []) <;> cases (dtP fs [108,97,115,116,45,109,111,100,105,102,105,101,100]).2 <;> kernel_rfl
end
end Go.Proofs.YtgknmoadpgpdeaaGreatDoor.Ev
namespace Go.Proofs.YtgknmoadpgpdeaaGreatDoor.Ev
open Go Go.RowKit
set_option linter.unusedVariables false
set_option linter.unusedSimpArgs false
end Go.Proofs.YtgknmoadpgpdeaaGreatDoor.Ev
namespace Go.Proofs.YtgknmoadpgpdeaaGreatDoor.Ev
open Go Go.RowKit
set_option linter.unusedVariables false
set_option linter.unusedSimpArgs false
noncomputable section
def Z4: Opt:={ live:=[(6,[3,4,5])],outs:=[(6,[2,3])],shn:=[3] }
def sHop_C: SC:=[⟨96,_,eQ⟩,⟨89,_,MN⟩,⟨187,_,oB⟩,⟨91,_,iG⟩,⟨90,_,MO⟩]
def zW (dU: (List aa)) (ec: Int) (ej: (List aa)) (kR6: (List aa)→Int→(List aa)→OR') (sd: (List aa)→OR'): OR':=
 (bif (decide (ec < (ej.length: Int))) then (bif (decide (0≤ec)) then (bif (decide (ec < (ej.length: Int))) then (bif (oa (List.getD ej (Int.toNat ec) ([]: aa))) then (bif (decide (0≤ec)) then (bif (decide (ec < (ej.length: Int))) then (bif (isM (List.getD ej (Int.toNat ec) ([]: aa))) then (bif (decide (dU.length≤900000)) then (kR6 (q_ dU (ay (List.getD ej (Int.toNat ec) ([]: aa)))) (ai (ec + 1)) ej) else none) else none) else none) else none) else (kR6 dU (ai (ec + 1)) ej)) else none) else none) else (sd dU))
def pc: Nat→(List aa)→Int→(List aa)→((List aa)→OR')→OR'
 | 0,_,_,_,_=>none
 | n + 1,dU,ec,ej,sd=>zW dU ec ej (fun dU ec ej=>pc n dU ec ej sd) sd
abbrev sHop_p6: SP:=⟨31,[3,4,5],[(.v (.sh Ty.str)),(.v (.ref 320 0)),(.v (.i .i64))],[(320, .arr Ty.str 0 false)]⟩
noncomputable def TI: Code:=aD (aG Tryz.f127) [1,1,1,1,0,1,0,0]
def TJ (f: ((List aa)→OR')→OR') (k: KT): OR':=f (fun de=>k (Ex.exit 0) ((St.mk (aH 0 31 [(3,(AV.sh Ty.str de))]) ([]: (List (Nat×(Ob)))))))
def TK (n: Nat) (d: sHop_p6.D): KT→OR':=TJ (pc n d.1.1 d.1.2.2.1 d.2.1)
def Z5 (N: Nat): Lam:=bw [⟨6,sHop_p6,TK N⟩]
theorem Ye (N: Nat): OkL Kx sHop_C.s Z4 0 N (Z5 N) TI:=okL sHop_p6 (TK) (fun d kR=>TJ (zW d.1.1 d.1.2.2.1 d.2.1 (fun dU ec ej=>kR ((dU,(),ec,()),(ej,()))))) (fun _ _=>by kernel_rfl) (fun _ _ _=>by kernel_rfl) (fun _ _=>by kernel_rfl) (fun _ _ _ _=>by kernel_rfl) (am (l':=[]) (by kernel_rfl) trivial)
def KP (N: Nat) (l: List Fd): OR':=(bif (!(bd l)) then (some ((AV.ref 0 0),[.arr Ty.str 0 false ([]: (List aa))])) else (pc N (List.set (List.set (List.set (List.set (List.set (List.set (List.set (List.replicate 7 ([]: aa)) 0 ([99,111,110,110,101,99,116,105,111,110]: aa)) 1 ([107,101,101,112,45,97,108,105,118,101]: aa)) 2 ([112,114,111,120,121,45,99,111,110,110,101,99,116,105,111,110]: aa)) 3 ([116,101]: aa)) 4 ([116,114,97,105,108,101,114]: aa)) 5 ([116,114,97,110,115,102,101,114,45,101,110,99,111,100,105,110,103]: aa)) 6 ([117,112,103,114,97,100,101]: aa)) 0 (bJ l ([99,111,110,110,101,99,116,105,111,110]: aa)) (fun de=>(some ((AV.sh Ty.str de),[])))))
def KQ (φ: (List Fd)→Br): List AV→List Ob→Br
 | [.sh (.pair .str .str) l],[]=>φ l
 | _,_=> .fail
theorem TL {φ: (List Fd)→Br} (fu: (List Fd)→Nat) (hv: ∀ l res_,(φ l).val=some res_→KP (fu l) l=some res_): Sound Kx 127 (KQ φ):=ar (C:=sHop_C) (O:=Z4) Tryz.func127 (by kernel_rfl) fun args objs=>by
 unfold KQ;split
 · rename_i l;exact .inr fun _ hyp_=>aS (Λ:=Z5 (fu l)) (by kernel_rfl) (am (l':=[TI]) (by kernel_rfl) ⟨Ye _,trivial⟩) (by kernel_rfl) (hv l _ hyp_)
 · exact .inl rfl
def Z6: Opt:={ mutF:=[165,166],live:=[(5,[3,11,12,13])],outs:=[(5,[2,3])] }
def iHop_C: SC:=[⟨84,_,cK⟩,⟨87,_,kY⟩,⟨220,_,oA⟩,⟨118,_,iF⟩,⟨165,_,If⟩,⟨166,_,Ig⟩]
def zX (aI aR: Int) (aF a7: (List aa)) (kR5: Int→Int→(List aa)→(List aa)→OR') (cR: (List aa)→OR'): OR':=
 (bif (decide (aR < aI)) then (bif (decide (0≤aR)) then (bif (decide (aR < (a7.length: Int))) then (bif (oa (List.getD a7 (Int.toNat aR) ([]: aa))) then (bif (isM (List.getD a7 (Int.toNat aR) ([]: aa))) then (bif (decide (((aF.length + (List.length (List.set (List.replicate 1 ([]: aa)) 0 (ay (List.getD a7 (Int.toNat aR) ([]: aa)))))) * 16)≤140737488355328)) then (kR5 aI (ai (aR + 1)) (aF++(List.set (List.replicate 1 ([]: aa)) 0 (ay (List.getD a7 (Int.toNat aR) ([]: aa))))) a7) else none) else none) else (kR5 aI (ai (aR + 1)) aF a7)) else none) else none) else (cR aF))
def pd: Nat→Int→Int→(List aa)→(List aa)→((List aa)→OR')→OR'
 | 0,_,_,_,_,_=>none
 | n + 1,aI,aR,aF,a7,cR=>zX aI aR aF a7 (fun aI aR aF a7=>pd n aI aR aF a7 cR) cR
abbrev iHop_p5: SP:=⟨29,[3,11,12,13],[(.v (.ref 256 0)),(.v (.ref 768 0)),(.v (.i .i64)),(.v (.i .i64))],[(256, .arr Ty.str 0 false),(768, .arr Ty.str 0 false)]⟩
noncomputable def TM: Code:=aD (aG Tryz.f194) [1,1,1,0,1,0,0]
def TN (f: ((List aa)→OR')→OR') (k: KT): OR':=f (fun ap=>k (Ex.exit 0) ((St.mk (aH 0 29 [(3,(AV.ref 256 0))]) ((256,(Ob.arr Ty.str 0 false ap))::([]: (List (Nat×(Ob))))))))
def TO (n: Nat) (d: iHop_p5.D): KT→OR':=TN (pd n d.1.2.2.1 d.1.2.2.2.1 d.2.1 d.2.2.1)
def Z7 (N: Nat): Lam:=bw [⟨5,iHop_p5,TO N⟩]
theorem Yf (N: Nat): OkL Kx iHop_C.s Z6 0 N (Z7 N) TM:=okL iHop_p5 (TO) (fun d kR=>TN (zX d.1.2.2.1 d.1.2.2.2.1 d.2.1 d.2.2.1 (fun aI aR aF a7=>kR (((),(),aI,aR,()),(aF,a7,()))))) (fun _ _=>by kernel_rfl) (fun _ _ _=>by kernel_rfl) (fun _ _=>by kernel_rfl) (fun _ _ _ _=>by kernel_rfl) (am (l':=[]) (by kernel_rfl) trivial)
def KR (N: Nat) (l: List Fd): OR':=(bif (!(bd l)) then (some ((AV.ref 0 0),[.arr Ty.str 0 false ([]: (List aa))])) else (pd N ((List.length (bJ l ([99,111,110,110,101,99,116,105,111,110]: aa))): Int) 0 (List.set (List.set (List.set (List.set (List.set (List.set (List.set (List.replicate 7 ([]: aa)) 0 ([99,111,110,110,101,99,116,105,111,110]: aa)) 1 ([107,101,101,112,45,97,108,105,118,101]: aa)) 2 ([112,114,111,120,121,45,99,111,110,110,101,99,116,105,111,110]: aa)) 3 ([116,101]: aa)) 4 ([116,114,97,105,108,101,114]: aa)) 5 ([116,114,97,110,115,102,101,114,45,101,110,99,111,100,105,110,103]: aa)) 6 ([117,112,103,114,97,100,101]: aa)) (bJ l ([99,111,110,110,101,99,116,105,111,110]: aa)) (fun ap=>(bif (decide (ap.length≤1000000)) then (bif (decide ((List.length (f_ ap))≤1000000)) then (some ((AV.ref 0 0),[.arr Ty.str 0 false (jU (f_ ap))])) else none) else none))))
def KS (φ: (List Fd)→Br): List AV→List Ob→Br
 | [.sh (.pair .str .str) l],[]=>φ l
 | _,_=> .fail
theorem TP {φ: (List Fd)→Br} (fu: (List Fd)→Nat) (hv: ∀ l res_,(φ l).val=some res_→KR (fu l) l=some res_): Sound Kx 194 (KS φ):=ar (C:=iHop_C) (O:=Z6) Tryz.func194 (by kernel_rfl) fun args objs=>by
 unfold KS;split
 · rename_i l;exact .inr fun _ hyp_=>aS (Λ:=Z7 (fu l)) (by kernel_rfl) (am (l':=[TM]) (by kernel_rfl) ⟨Yf _,trivial⟩) (by kernel_rfl) (hv l _ hyp_)
 · exact .inl rfl
def afe: SC:=[⟨118,_,iF⟩,⟨103,_,JJ⟩]
def acG (hops: List aa) (name: aa): Br:=(.ite (isM name) (.ite (decide (hops.length≤1000000)) (.ret (AV.bool (!(inP hops (ay name)))) [.var [.ref 1 0],.arr Ty.str 0 false hops]) .fail) .fail)
def Z8: List AV→List Ob→Br
 | [.str name, .ptr 0 0],[.var [.ref 1 0], .arr .str 0 false hops]=>acG hops name
 | _,_=> .fail
theorem acH: Sound Kx 195 Z8:=ah (C:=afe) (O:=O0) Tryz.func195 (by kernel_rfl) fun args objs=>by
 unfold Z8;split
 · exact .inr (by kernel_rfl)
 · exact .inl rfl
def TQ: Opt:={ live:=[(5,[1,5,11,12,13])],outs:=[(5,[4,5])] }
def keptE_C: SC:=[⟨84,_,cK⟩,⟨195,_,acH⟩]
def r9 (aI: (List Fd)) (aR aF: Int) (a7: (List aa)) (ck: (List Fd)) (kR5: (List Fd)→Int→Int→(List aa)→(List Fd)→OR') (cR: (List aa)→(List Fd)→OR'): OR':=
 (bif (decide (aF < aR)) then (bif (decide (0≤aF)) then (bif (decide (aF < (aI.length: Int))) then (bif (isM (List.getD aI (Int.toNat aF) (([]: aa),([]: aa))).1) then (bif (decide (a7.length≤1000000)) then (bif (!(inP a7 (ay (List.getD aI (Int.toNat aF) (([]: aa),([]: aa))).1))) then (bif (decide (((ck.length + (List.length (List.set (List.replicate 1 (([]: aa),([]: aa))) 0 ((List.getD aI (Int.toNat aF) (([]: aa),([]: aa))).1,(List.getD aI (Int.toNat aF) (([]: aa),([]: aa))).2)))) * 32)≤140737488355328)) then (kR5 aI aR (ai (aF + 1)) a7 (ck++(List.set (List.replicate 1 (([]: aa),([]: aa))) 0 ((List.getD aI (Int.toNat aF) (([]: aa),([]: aa))).1,(List.getD aI (Int.toNat aF) (([]: aa),([]: aa))).2)))) else none) else (kR5 aI aR (ai (aF + 1)) a7 ck)) else none) else none) else none) else none) else (cR a7 ck))
def lj: Nat→(List Fd)→Int→Int→(List aa)→(List Fd)→((List aa)→(List Fd)→OR')→OR'
 | 0,_,_,_,_,_,_=>none
 | n + 1,aI,aR,aF,a7,ck,cR=>r9 aI aR aF a7 ck (fun aI aR aF a7 ck=>lj n aI aR aF a7 ck cR) cR
abbrev keptE_p5: SP:=⟨27,[1,5,11,12,13],[(.v (.fn 195 [(0,0)])),(.v (.ref 384 0)),(.v (.sh (Ty.pair Ty.str Ty.str))),(.v (.i .i64)),(.v (.i .i64))],[(0, .var [(.ref 1 0)]),(1, .arr Ty.str 0 false),(384, .arr (Ty.pair Ty.str Ty.str) 0 false)]⟩
noncomputable def KU: Code:=aD (aG Tryz.f120) [1,1,1,0,1,0,0]
def KV (f: ((List aa)→(List Fd)→OR')→OR') (k: KT): OR':=f (fun ap a_=>k (Ex.exit 0) ((St.mk (aH 0 27 [(5,(AV.ref 384 0))]) ((0,(Ob.var [.ref 1 0]))::((1,(Ob.arr Ty.str 0 false ap))::((384,(Ob.arr (Ty.pair Ty.str Ty.str) 0 false a_))::([]: (List (Nat×(Ob))))))))))
def KW (n: Nat) (d: keptE_p5.D): KT→OR':=KV (lj n d.1.2.2.1 d.1.2.2.2.1 d.1.2.2.2.2.1 d.2.2.1 d.2.2.2.1)
def TR (N: Nat): Lam:=bw [⟨5,keptE_p5,KW N⟩]
theorem TS (N: Nat): OkL Kx keptE_C.s TQ 2 N (TR N) KU:=okL keptE_p5 (KW) (fun d kR=>KV (r9 d.1.2.2.1 d.1.2.2.2.1 d.1.2.2.2.2.1 d.2.2.1 d.2.2.2.1 (fun aI aR aF a7 ck=>kR (((),(),aI,aR,aF,()),(((),()),a7,ck,()))))) (fun _ _=>by kernel_rfl) (fun _ _ _=>by kernel_rfl) (fun _ _=>by kernel_rfl) (fun _ _ _ _=>by kernel_rfl) (am (l':=[]) (by kernel_rfl) trivial)
def Ez (N: Nat) (l: List Fd) (hops: List aa): OR':=(bif (!(bd l)) then (some ((AV.ref (List.length [Ob.var [.ref 1 0],.arr Ty.str 0 false hops]) 0),[.var [.ref 1 0],.arr Ty.str 0 false hops,.arr (Ty.pair Ty.str Ty.str) 0 false ([]: (List Fd))])) else (lj N l (l.length: Int) 0 hops ([]: (List Fd)) (fun ap a_=>(some ((AV.ref 2 0),[.var [.ref 1 0],.arr Ty.str 0 false ap,.arr (Ty.pair Ty.str Ty.str) 0 false a_])))))
def EA (φ: (List Fd)→(List aa)→Br): List AV→List Ob→Br
 | [.sh (.pair .str .str) l, .fn 195 [.ptr 0 0]],[.var [.ref 1 0], .arr .str 0 false hops]=>φ l hops
 | _,_=> .fail
theorem NV {φ: (List Fd)→(List aa)→Br} (fu: (List Fd)→(List aa)→Nat) (hv: ∀ l hops res_,(φ l hops).val=some res_→Ez (fu l hops) l hops=some res_): Sound Kx 120 (EA φ):=ar (C:=keptE_C) (O:=TQ) Tryz.func120 (by kernel_rfl) fun args objs=>by
 unfold EA;split
 · rename_i l hops;exact .inr fun _ hyp_=>aS (Λ:=TR (fu l hops)) (by kernel_rfl) (am (l':=[KU]) (by kernel_rfl) ⟨TS _,trivial⟩) (by kernel_rfl) (hv l hops _ hyp_)
 · exact .inl rfl
def keF: List Fd:=[([69,84,97,103],[34,116,34]),([67,97,99,104,101,45,67,111,110,116,114,111,108],[109,97,120,45,97,103,101,61,49,48])]
def keE: En:=([104,116,116,112,58,47,47,97,46,98,47],100,101,[],[],[],200,[79,75],false,keF,[111,110,101])
def keV: List Fd:=[([73,102,45,78,111,110,101,45,77,97,116,99,104],[34,116,34])]
theorem aff: bT 200=[50,48,48]:=by rw [dh];kernel_rfl
theorem aib: bT 3=[51]:=by rw [dh];kernel_rfl
theorem ag8: decide (((iL [] [] 200 [79,75] false keF [111,110,101]).length: Int)≤1500)=true:=by
 have e: clP [] false [111,110,101]=[67,111,110,116,101,110,116,45,76,101,110,103,116,104,58,32]++bT 3++[13,10]:=by first | rfl | (unfold clP;rfl)
 unfold iL eR
 rw [e,aff,aib];first | rfl | decide
theorem aic: eF [] [] 200 [79,75] false keF [111,110,101]=true:=by
 unfold eF
 rw [ag8];kernel_rfl
theorem acI: lz keE=true:=by
 unfold lz
 rw [show eF keE.2.2.2.2.1 keE.2.2.2.2.2.1 keE.2.2.2.2.2.2.1 keE.2.2.2.2.2.2.2.1 keE.2.2.2.2.2.2.2.2.1 keE.2.2.2.2.2.2.2.2.2.1 keE.2.2.2.2.2.2.2.2.2.2=true from aic];kernel_rfl
theorem agm: vdP keE=keV:=by unfold vdP;rw [acI];kernel_rfl
theorem aid: acD keV keE=true:=by unfold acD;rw [acI];kernel_rfl
theorem aie: mK keE []=true:=by unfold mK;rw [acI];kernel_rfl
end
end Go.Proofs.YtgknmoadpgpdeaaGreatDoor.Ev
