/- The texts Qn, Qo, Yl, Ym, Yn, Yo, Za, Zb, Zc, Zd, Ze, Zf, Zg, Zh, Zi, Zj, Zk, Zl, Zm, Zn, Zo, Zp, Zq, Zr, Sa, Sb, Kp, Ti, Tg, Tj, one behind the other. -/
import Derived.Test.YtgknmoadpgpdeaaGreatDoorK30
import Derived.Test.YtgknmoadpgpdeaaGreatDoorK13
import Derived.Test.YtgknmoadpgpdeaaGreatDoorK29
import Derived.Test.YtgknmoadpgpdeaaGreatDoorK18
namespace Go.Proofs.YtgknmoadpgpdeaaGreatDoor.Ev
open Go Go.RowKit
set_option linter.unusedVariables false
set_option linter.unusedSimpArgs false
set_option linter.defProp false
set_option maxRecDepth 20000
noncomputable section
theorem Vc {code: List Int} {P: Mg→Prop} (me ta: aa) (st: Int) (re: aa) (ba: Bool) (fs: List Fd) (bo: aa) (i' h': Int) (hc: okC code i'=true) (hP: P (me,ta,st,re,ba,fs,bo)):
 Dra code B_ Ca P (.ret (.agg [.str me, .str ta, .int .i64 st, .str re, .bool ba, .ref 1 0, .str bo]) [.var [.sh (.int .u8) code, .int .i64 i', .int .i64 h'], .arr (.pair .str .str) 0 false fs]):=⟨_,i',h',rfl,hc,hP⟩
theorem acH (code: List Int) (i h: Int) (hc: okC code i=true): Dra code B_ Ca (fun m=>m.2.2.2.2.2.1.length≤80) (j7 code i h):=by
 unfold j7 oi oh vL
 obtain ⟨e1,e2,e3,e4⟩:=acG h hc
 generalize j6 () code i h=x at *
 obtain ⟨⟨ur,t1,t2,ak,me,ta,st,re,ba,fs,bo⟩,i1,h1⟩:=x
 simp only at e1 e2 e3 e4 ⊢
 repeat' (first | with_reducible refine tJ ?_ ?_ | with_reducible refine tI (fun _=>?_) (fun _=>?_) | with_reducible refine Vc _ _ _ _ _ _ _ _ _ ?_ ?_)
 all_goals first
  | ((repeat (first | exact hc | exact e1 | exact b1 | with_reducible apply ar | with_reducible apply bg | with_reducible apply au));done)
  | (simp only [Bool.and_true,List.length_cons,List.length_nil,List.length_set,List.length_replicate];(repeat (first | exact hc | exact e1 | exact b1 | with_reducible apply ar | with_reducible apply bg | with_reducible apply au));done)
  | (simp only [Bool.and_eq_true,decide_eq_true_eq,List.length_cons,List.length_nil,List.length_set,List.length_replicate];refine ⟨?_,by omega⟩;(repeat (first | exact hc | exact e1 | exact b1 | with_reducible apply ar | with_reducible apply bg | with_reducible apply au));done)
  | (simp (disch:=omega) only [Bool.and_true,uJ,decide_true];(repeat (first | exact hc | exact e1 | exact b1 | with_reducible apply ar | with_reducible apply bg | with_reducible apply au));done)
  | (simp only [List.length_append,List.length_cons,List.length_nil,List.length_set,List.length_replicate];omega)
  | (rw [decide_eq_true_eq];omega)
  | (rw [decide_eq_true_eq];simp only [List.length_append,List.length_cons,List.length_nil,List.length_set,List.length_replicate];omega)
  | skip
 all_goals trace_state
theorem F4 {F: Nat→List Fd→OR'} {x: Fd} {n: Int} (K: List Fd→OR')
 (hF: ∀ N acc,F (N + 1) acc=bif decide ((acc.length: Int) < n) then (bif decide ((acc.length + [x].length) * 32≤140737488355328) then F N (acc++[x]) else none) else K acc) (R: OR'→Prop) (hx: cq x) (hn: n≤60):
 ∀ (k N: Nat) (acc: List Fd),(n - acc.length).toNat≤k→k < N→acc.length≤60→(∀ f ∈ acc,cq f)→(∀ l,l.length≤60→(∀ f ∈ l,cq f)→R (K l))→R (F N acc)
 | k,N,acc,hk,hN,hl,hq,hK=>by
   obtain ⟨N,rfl⟩: ∃ m,N=m + 1:=⟨N - 1,by omega⟩
   rw [hF]
   by_cases h: (acc.length: Int) < n
   · obtain ⟨k,rfl⟩: ∃ m,k=m + 1:=⟨k - 1,by omega⟩
     rw [dT' h,cond_true,dT' (by rw [List.length_singleton];omega),cond_true]
     refine F4 K hF R hx hn k N _ (by rw [List.length_append,List.length_singleton];omega) (by omega) (by rw [List.length_append,List.length_singleton];omega) (fun f hf=>?_) hK
     rcases List.mem_append.1 hf with hf | hf
     · exact hq f hf
     · rw [List.mem_singleton.1 hf];exact hx
   · rw [dF' h,cond_false];exact hK acc hl hq
theorem Vd {code: List Int} {D: Int→Int→Fd×Int×Int} (hD: ∀ i h,okC code i=true→okC code (D i h).2.1=true∧cq (D i h).1) {F: Nat→Int→Int→Int→List Fd→OR'} (K: Int→Int→List Fd→OR')
 (h1: ∀ N j i h acc,okC code i=true→acc.length≤100→j < 7→F (N + 1) j i h acc=F N (ad (j + 1)) (D i h).2.1 (D i h).2.2 (acc++[(D i h).1]))
 (h2: ∀ N j i h acc,¬ j < 7→F (N + 1) j i h acc=K i h acc)
 (R: OR'→Prop): ∀ (k N: Nat) (j i h: Int) (acc: List Fd),k < N→j + k=7→0≤j→okC code i=true→acc.length + k≤100→(∀ f ∈ acc,cq f)→
 (∀ i' h' l,okC code i'=true→l.length≤acc.length + k→(∀ f ∈ l,cq f)→R (K i' h' l))→R (F N j i h acc)
 | 0,N,j,i,h,acc,hN,hj,h0,hc,hl,hq,hK=>by
   obtain ⟨N,rfl⟩: ∃ m,N=m + 1:=⟨N - 1,by omega⟩
   rw [h2 _ _ _ _ _ (by omega)]
   exact hK i h acc hc (by omega) hq
 | k + 1,N,j,i,h,acc,hN,hj,h0,hc,hl,hq,hK=>by
   obtain ⟨N,rfl⟩: ∃ m,N=m + 1:=⟨N - 1,by omega⟩
   obtain ⟨g1,g2⟩:=hD i h hc
   rw [h1 _ _ _ _ _ hc (by omega) (by omega),w64 (by omega) (by omega)]
   refine Vd hD K h1 h2 R k N (j + 1) _ _ _ (by omega) (by omega) (by omega) g1 (by rw [List.length_append,List.length_singleton];omega) (fun f hf=>?_) fun i' h' l q1 q2 q3=>?_
   · rcases List.mem_append.1 hf with hf | hf
     · exact hq f hf
     · rw [List.mem_singleton.1 hf];exact g2
   · rw [List.length_append,List.length_singleton] at q2
     exact hK i' h' l q1 (by omega) q3
theorem Ve (sP: Int) (wg: (List Int)) (wh: Int) (wi: Int) (wj: (List UInt8)) (wl: (List UInt8)) (wm: Int) (rD: (List UInt8)) (sQ: Bool) (wn: (List UInt8)) (gK: (List ((List UInt8)×(List UInt8)))) (gL: (List UInt8)) (gM: (List UInt8)) (qH: Int) (qI: (List UInt8)) (qJ: Bool) (qK: (List UInt8)) (K: (List Int)→Int→Int→(List UInt8)→(List UInt8)→Int→(List UInt8)→Bool→(List UInt8)→(List ((List UInt8)×(List UInt8)))→(List UInt8)→(List UInt8)→Int→(List UInt8)→Bool→(List UInt8)→(List ((List UInt8)×(List UInt8)))→OR') (R: OR'→Prop) (k N: Nat) (ld: List Fd) (hn: sP≤60) (hk: (sP - ld.length).toNat≤k) (hN: k < N) (hl: ld.length≤60) (hq: ∀ f ∈ ld,cq f) (hK: ∀ l,l.length≤60→(∀ f ∈ l,cq f)→R (K wg wh wi wj wl wm rD sQ wn gK gL gM qH qI qJ qK l)): R (j8 N sP wg wh wi wj wl wm rD sQ wn gK gL gM qH qI qJ qK ld K):=
 F4 (x:=([112],[113])) (n:=sP) (F:=fun N acc=>j8 N sP wg wh wi wj wl wm rD sQ wn gK gL gM qH qI qJ qK acc K) (fun l=>K wg wh wi wj wl wm rD sQ wn gK gL gM qH qI qJ qK l) (fun _ _=>rfl) R (rf (by decide)) hn k N ld hk hN hl hq hK
theorem acI (cA: (List Int)) (mN: (List UInt8)) (mO: (List UInt8)) (mP: Int) (mQ: (List UInt8)) (mR: Bool) (mS: (List UInt8)) (gy: (List ((List UInt8)×(List UInt8)))) (gz: (List UInt8)) (gA: (List UInt8)) (gB: Int) (gC: (List UInt8)) (gD: Bool) (gE: (List UInt8)) (K: (List Int)→Int→Int→(List UInt8)→(List UInt8)→Int→(List UInt8)→Bool→(List UInt8)→(List ((List UInt8)×(List UInt8)))→(List UInt8)→(List UInt8)→Int→(List UInt8)→Bool→(List UInt8)→(List ((List UInt8)×(List UInt8)))→OR') (R: OR'→Prop) (k N: Nat) (qL gO jr: Int) (gF: List Fd) (hN: k < N) (hj: qL + k=7) (h0: 0≤qL) (hc: okC cA gO=true) (hl: gF.length + k≤100) (hq: ∀ f ∈ gF,cq f)
 (hK: ∀ i' h' l,okC cA i'=true→l.length≤gF.length + k→(∀ f ∈ l,cq f)→R (K cA i' h' mN mO mP mQ mR mS gy gz gA gB gC gD gE l)): R (iM N qL cA gO jr mN mO mP mQ mR mS gy gz gA gB gC gD gE gF K):=
 Vd (code:=cA) (D:=fun i h=>(([110],ofS (ad (180 + aT 9 cA i h)) [118] cA (am 9 cA i) (aw 9 h)),ofI (ad (180 + aT 9 cA i h)) [118] cA (am 9 cA i) (aw 9 h),ofH (ad (180 + aT 9 cA i h)) [118] cA (am 9 cA i) (aw 9 h))) (fun i h hc=>⟨bg (ar hc),rf (by decide: (1 : Nat)≠13)⟩) (F:=fun N n i h acc=>iM N n cA i h mN mO mP mQ mR mS gy gz gA gB gC gD gE acc K) (fun i' h' l=>K cA i' h' mN mO mP mQ mR mS gy gz gA gB gC gD gE l) (fun N j i h acc hc ha hj=>by
  have hb:=dS 9 cA i h
  have hb2:=hb.2 (by omega)
  have hw: ad (180 + aT 9 cA i h)≤1000000:=by rw [w64 (by omega) (by omega)];omega
  show gc j cA i h mN mO mP mQ mR mS gy gz gA gB gC gD gE acc _ K=_
  unfold gc
  rw [dT' hj,cond_true,hc,cond_true,ar hc,dT' hw]
  simp only [Bool.and_self,cond_true]
  rw [dT' (by simp only [List.length_cons,List.length_nil,List.length_set,List.length_replicate];omega),cond_true]
  rfl) (fun N j i h acc hj=>by
  show gc j cA i h mN mO mP mQ mR mS gy gz gA gB gC gD gE acc _ K=_
  unfold gc
  rw [dF' hj,cond_false]) R k N qL gO jr gF hN hj h0 hc hl hq hK
def Px (m: Mg): Prop:=(∀ f ∈ m.2.2.2.2.2.1,cq f)∧m.2.2.2.2.2.1.length≤80
theorem aau {l: List Fd} {f: Fd} (h: ∀ f ∈ l,cq f) (hf: cq f): ∀ g ∈ l++[f],cq g:=by
 intro g hg
 rcases List.mem_append.1 hg with hg | hg
 · exact h g hg
 · rw [List.mem_singleton.1 hg];exact hf
theorem Vf (code: List Int) (i h: Int) (hc: okC code i=true): FX code B_ Ca Px (gd 100 code i h):=by
 unfold gd bm dL cm aJ
 obtain ⟨e1,e2,e3,e4,e5⟩:=aff h hc
 generalize ck () code i h=x at *
 obtain ⟨⟨me,ta,st,re,ba,fs,bo⟩,i1,h1⟩:=x
 simp only at e1 e2 e3 e4 e5 ⊢
 obtain ⟨b1,b2⟩:=Hr (code:=code) (i:=am 10 code (am 4 code i1)) me (aw 10 (aw 4 h1)) (ar (ar e1)) (by omega)
 obtain ⟨b3,b4⟩:=Hr (code:=code) (i:=am 10 code (am 4 code i1)) ta (aw 10 (aw 4 h1)) (ar (ar e1)) (by omega)
 have c2: okC code (am 2 code (am 10 code (am 4 code i1)))=true:=ar (ar (ar e1))
 have v2:=dS 2 code (am 10 code (am 4 code i1)) (aw 10 (aw 4 h1))
 have v3:=v2.2 (by omega)
 rw [w64 (n:=20 - _) (by omega) (by omega),w64 (n:=40 + _) (by omega) (by omega),w64 (n:=600 + _) (by omega) (by omega),w64 (n:=193 + _) (by omega) (by omega)]
 repeat' (first | with_reducible refine kW ?_ ?_ | with_reducible refine sJ (fun _=>?_) (fun _=>?_) | with_reducible refine iL _ _ _ _ _ _ _ _ _ ?_ ?_)
 all_goals first
  | ((repeat (first | exact hc | exact e1 | exact b1 | exact b3 | with_reducible apply ar | with_reducible apply bg | with_reducible apply au));done)
  | (refine (show _∧_ from ⟨e2,?_⟩);show fs.length≤80;omega)
  | (refine (show _∧_ from ⟨aau e2 (U5 (by decide)),?_⟩);show (fs++_).length≤80;rw [List.length_append];exact Nat.le_trans (Nat.add_le_add_right e3 _) (by decide))
  | (simp only [Bool.and_true,List.length_cons,List.length_nil,List.length_set,List.length_replicate];(repeat (first | exact hc | exact e1 | exact b1 | exact b3 | with_reducible apply ar | with_reducible apply bg | with_reducible apply au));done)
  | (simp only [Bool.and_eq_true,decide_eq_true_eq,List.length_cons,List.length_nil,List.length_set,List.length_replicate];refine ⟨?_,by omega⟩;(repeat (first | exact hc | exact e1 | exact b1 | exact b3 | with_reducible apply ar | with_reducible apply bg | with_reducible apply au));done)
  | (simp only [Bool.and_eq_true,decide_eq_true_eq,List.length_cons,List.length_nil,List.length_set,List.length_replicate];refine ⟨⟨?_,by omega⟩,by omega⟩;(repeat (first | exact hc | exact e1 | exact b1 | exact b3 | with_reducible apply ar | with_reducible apply bg | with_reducible apply au));done)
  | (simp (disch:=omega) only [Bool.and_true,uJ,decide_true];(repeat (first | exact hc | exact e1 | exact b1 | exact b3 | with_reducible apply ar | with_reducible apply bg | with_reducible apply au));done)
  | (rw [decide_eq_true_eq];omega)
  | (rw [decide_eq_true_eq];simp only [List.length_append,List.length_cons,List.length_nil,List.length_set,List.length_replicate];omega)
  | exact Ve _ _ _ _ _ _ _ _ _ _ _ _ _ _ _ _ _ _ (FX code B_ Ca Px) 60 100 fs (by omega) (by omega) (by omega) (by omega) e2 (fun l q1 q2=>iL _ _ _ _ _ _ _ _ _ c2 (show _∧_ from ⟨q2,Nat.le_trans q1 (by decide)⟩))
  | exact acI _ _ _ _ _ _ _ _ _ _ _ _ _ _ _ (FX code B_ Ca Px) 7 100 0 _ _ fs (by decide) (by decide) (by decide) (by (repeat (first | exact hc | exact e1 | exact b1 | exact b3 | with_reducible apply ar | with_reducible apply bg | with_reducible apply au))) (by omega) e2 (fun i' h' l q1 q2 q3=>iL _ _ _ _ _ _ _ _ _ q1 (show _∧_ from ⟨q3,Nat.le_trans q2 (by omega)⟩))
  | (simp only [List.length_append,List.length_cons,List.length_nil];simp only [Bool.and_eq_true,decide_eq_true_eq,and_true];refine ⟨?_,by omega⟩;(repeat (first | exact hc | exact e1 | exact b1 | exact b3 | with_reducible apply ar | with_reducible apply bg | with_reducible apply au));done)
  | (rw [c2,Bool.and_true,Bool.true_and,decide_eq_true_eq];omega)
  | (show Px _;exact And.intro (aau e2 (rf (by decide))) (by show (fs++_).length≤80;rw [List.length_append];exact Nat.le_trans (Nat.add_le_add_right e3 _) (by decide)))
  | (rw [decide_eq_true_eq,lE];omega)
  | skip
 all_goals trace_state
def bentm_dr:=zI (α:=Mg) (fun (_: Unit) code i h=>match gd 100 code i h with | some r=>Br.ret r.1 r.2 | none=> .fail) (fun _=>true) B_ Ca ([],[],0,[],false,[],[]) (fun _ m=>Px m) (fun _ code i h hc _=>by
 obtain ⟨v,i',h',e,q⟩:=Vf code i h hc;exact ⟨v,i',h',by rw [e];rfl,q⟩)
def rz:=bentm_dr.choose
def acJ: List AV→List Ob→Br:=drQ un0 (fun _=>true) B_ Ca rz
theorem Py: Sound Kx 99 acJ:=
 zJ (IH (φ:=fun code i h=>match gd 100 code i h with | some r=>Br.ret r.1 r.2 | none=> .fail) (fun _ _ _=>100) fun code i h r hv=>M5 hv) (fun (_: Unit) code i h=>match gd 100 code i h with | some r=>Br.ret r.1 r.2 | none=> .fail)
  (fun l b code i h hl=>by rw [tH hl];rfl) fun b code i h hc hg=>(bentm_dr.choose_spec b code i h hc hg).1
theorem M7 {code: List Int} {i: Int} (h: Int) (hc: okC code i=true): okC code (rz () code i h).2.1=true∧Px (rz () code i h).1:=(bentm_dr.choose_spec () code i h hc rfl).2
def ans_dr:=zI (α:=Mg) (fun (_: Unit) code i h=>j7 code i h) (fun _=>true) B_ Ca ([],[],0,[],false,[],[]) (fun _ m=>m.2.2.2.2.2.1.length≤80) (fun _ code i h hc _=>acH code i h hc)
def adq:=ans_dr.choose
def ahk: List AV→List Ob→Br:=drQ un0 (fun _=>true) B_ Ca adq
theorem Pz: Sound Kx 100 ahk:=
 zJ Vb (fun (_: Unit) code i h=>j7 code i h) (fun l b code i h hl=>by rw [tH hl];rfl) fun b code i h hc hg=>(ans_dr.choose_spec b code i h hc hg).1
theorem afh {code: List Int} {i: Int} (h: Int) (hc: okC code i=true): okC code (adq () code i h).2.1=true∧(adq () code i h).1.2.2.2.2.2.1.length≤80:=(ans_dr.choose_spec () code i h hc rfl).2
theorem aia {code: List Int} (h: code.length≤281474976710656): okC code 0=true:=by
 unfold okC;simp only [Bool.and_eq_true,decide_eq_true_eq];exact ⟨by omega,h⟩
def Vq (Q: OR'→Prop) (b: Br): Prop:=Q b.val
theorem aav {Q: OR'→Prop} {c: Bool} {x: Br} (h0: c=true) (h1: Vq Q x): Vq Q (.ite c x .fail):=by subst h0;exact h1
theorem aaw {Q: OR'→Prop} {c: Bool} {x y: Br} (h1: c=true→Vq Q x) (h2: c=false→Vq Q y): Vq Q (.ite c x y):=by
 cases c
 · exact h2 rfl
 · exact h1 rfl
theorem afi (code: List Int) (hl: code.length≤281474976710656): Vq (fun o=>∃ v: aa,o=some (.str v,[])∧v.length≤1000) (IB code):=by
 have hc:=aia hl
 have hs: ∀ (l: List aa) (k: Nat) (n: Int) (set: aa) (c': List Int) (i' h' i2 h2: Int),(∀ x ∈ l,x.length≤2)→n=5→(l.getD k []++[34]++ofS (aT n code i' h') set c' i2 h2++[34]).length≤10:=by
  intro l k n set c' i' h' i2 h2 h hn
  subst hn
  have h1:=sK (k:=2) h k
  have h3:=ry (n:=5) (by omega) set code c' i' h' i2 h2
  simp only [List.length_append,List.length_cons,List.length_nil]
  have e5: Int.toNat 5=5:=rfl
  omega
 unfold IB Bk pY mA mz fD
 have hS1:=hs ((((List.replicate 3 []).set 0 []).set 1 [87,47]).set 2 [119,47]) (aT 3 code 0 (fH code)).toNat 5 [97,98,44,33] code (am 3 code 0) (aw 3 (fH code)) (am 5 code (am 3 code 0)) (aw 5 (aw 3 (fH code))) (by decide) rfl
 have g1:=sK (k:=2) (l:=(((List.replicate 3 []).set 0 []).set 1 [87,47]).set 2 [119,47]) (by decide) (aT 3 code 0 (fH code)).toNat
 have o1:=ry (n:=5) (by omega) [97,98,44,33] code code (am 3 code 0) (aw 3 (fH code)) (am 5 code (am 3 code 0)) (aw 5 (aw 3 (fH code)))
 have c2: okC code (ofI (aT 5 code (am 3 code 0) (aw 3 (fH code))) [97,98,44,33] code (am 5 code (am 3 code 0)) (aw 5 (aw 3 (fH code))))=true:=by (repeat (first | exact hc | exact c2 | exact b1 | with_reducible apply ar | with_reducible apply bg | with_reducible apply au))
 generalize (ofI (aT 5 code (am 3 code 0) (aw 3 (fH code))) [97,98,44,33] code (am 5 code (am 3 code 0)) (aw 5 (aw 3 (fH code))))=I2 at *
 generalize (ofH (aT 5 code (am 3 code 0) (aw 3 (fH code))) [97,98,44,33] code (am 5 code (am 3 code 0)) (aw 5 (aw 3 (fH code))))=H2 at *
 generalize (ofS (aT 5 code (am 3 code 0) (aw 3 (fH code))) [97,98,44,33] code (am 5 code (am 3 code 0)) (aw 5 (aw 3 (fH code))))=S2 at *
 generalize ((((List.replicate 3 []).set 0 []).set 1 [87,47]).set 2 [119,47]: List aa).getD (aT 3 code 0 (fH code)).toNat []=G at *
 have e5: Int.toNat 5=5:=rfl
 rw [e5] at o1
 obtain ⟨b1,b2⟩:=Hr (code:=code) (i:=am 3 code I2) (G++[34]++S2++[34]) (aw 3 H2) (ar c2) (by omega)
 have v2:=dS 2 code (am 9 code (am 3 code I2)) (aw 9 (aw 3 H2))
 have v3:=v2.2 (by omega)
 rw [w64 (n:=188 + aT 2 code (am 9 code (am 3 code I2)) (aw 9 (aw 3 H2))) (by omega) (by omega)]
 repeat' (first | with_reducible refine aav ?_ ?_ | with_reducible refine aaw (fun _=>?_) (fun _=>?_))
 all_goals first
  | ((repeat (first | exact hc | exact c2 | exact b1 | with_reducible apply ar | with_reducible apply bg | with_reducible apply au));done)
  | exact dT' hl
  | (simp only [Bool.and_true,List.length_cons,List.length_nil,List.length_set,List.length_replicate];(repeat (first | exact hc | exact c2 | exact b1 | with_reducible apply ar | with_reducible apply bg | with_reducible apply au));done)
  | (simp (disch:=omega) only [Bool.and_true,uJ,decide_true];(repeat (first | exact hc | exact c2 | exact b1 | with_reducible apply ar | with_reducible apply bg | with_reducible apply au));done)
  | (simp only [Bool.and_eq_true,decide_eq_true_eq,and_true];refine ⟨?_,by omega⟩;(repeat (first | exact hc | exact c2 | exact b1 | with_reducible apply ar | with_reducible apply bg | with_reducible apply au));done)
  | (rw [decide_eq_true_eq];simp only [List.length_append,List.length_cons,List.length_nil] at *;omega)
  | (rw [decide_eq_true_eq,lE];omega)
  | (rw [decide_eq_true_eq];simp only [List.length_append,List.length_cons,List.length_nil,lE];omega)
  | (refine (show ∃ _,_ from ⟨_,rfl,?_⟩);omega)
  | (refine (show ∃ _,_ from ⟨_,rfl,?_⟩);simp only [List.length_append,List.length_cons,List.length_nil,lE];omega)
  | skip
 all_goals trace_state
open Classical in
noncomputable def adr (code: List Int): aa:=if h: code.length≤281474976710656 then (afi code h).choose else []
def YR (code: List Int): Br:=(.ite (decide (code.length≤281474976710656)) (.ite (decide (code.length≤281474976710656)) (.ite (okC code 0) (.ite (decide ((aT 3 code 0 (fH code))=0)) (.ret (AV.tup [.str (adr code),.str (adr code)]) []) (.ite (decide ((aT 3 code 0 (fH code))=1)) (.ite (decide ((2 + (List.length (adr code)))≤9223372036854775807)) (.ret (AV.tup [.str (adr code),.str (([87,47]: aa)++(adr code))]) []) .fail) (.ite (((okC code (am 3 code 0))&&true)&&true) (.ite (decide ((3 + (List.length (ofS 1 ([97,98]: aa) code (am 3 code 0) (aw 3 (fH code)))))≤9223372036854775807)) (.ite (decide (((List.length (([87,47,34]: aa)++(ofS 1 ([97,98]: aa) code (am 3 code 0) (aw 3 (fH code))))) + 1)≤9223372036854775807)) (.ret (AV.tup [.str (adr code),.str ((([87,47,34]: aa)++(ofS 1 ([97,98]: aa) code (am 3 code 0) (aw 3 (fH code))))++([34]: aa))]) []) .fail) .fail) .fail))) .fail) .fail) .fail)
def ahl: List AV→List Ob→Br
 | [.sh (.int .u8) code],[]=>YR code
 | _,_=> .fail
def afj: SC:=[⟨69,_,WN⟩,⟨97,_,wM⟩,⟨98,_,pj⟩,⟨99,_,Py⟩,⟨100,_,Pz⟩]
abbrev da (code: List Int):=(rz () code (am 12 code (vK () code 0 (fH code)).2.1) (aw 12 (vK () code 0 (fH code)).2.2))
abbrev vM (code: List Int):=(am 12 code (am 12 code (vK () code 0 (fH code)).2.1))
abbrev II (code: List Int):=(aw 12 (aw 12 (vK () code 0 (fH code)).2.2))
abbrev j9 (code: List Int):=(rz () code (am 12 code (da code).2.1) (aw 12 (da code).2.2))
abbrev j_ (code: List Int):=(adq () code (am 12 code (da code).2.1) (aw 12 (da code).2.2))
abbrev IJ (code: List Int):=(AV.agg ((AV.str (vK () code 0 (fH code)).1.1)::((AV.str (vK () code 0 (fH code)).1.2.1)::((AV.int .i64 (vK () code 0 (fH code)).1.2.2.1)::((AV.str (vK () code 0 (fH code)).1.2.2.2.1)::((AV.bool (vK () code 0 (fH code)).1.2.2.2.2.1)::((AV.ref 0 0)::((AV.str (vK () code 0 (fH code)).1.2.2.2.2.2.2)::[]))))))))
abbrev IK (code: List Int):=(AV.agg ((AV.str (da code).1.1)::((AV.str (da code).1.2.1)::((AV.int .i64 (da code).1.2.2.1)::((AV.str (da code).1.2.2.2.1)::((AV.bool (da code).1.2.2.2.2.1)::((AV.ref 0 0)::((AV.str (da code).1.2.2.2.2.2.2)::[]))))))))
abbrev ka (code: List Int):=(rz () code (vM code) (II code))
abbrev kb (code: List Int):=(adq () code (vM code) (II code))
def IL (code: List Int): Br:=(.ite (decide (code.length≤281474976710656)) (.ite ((okC code 0)&&true) (.ite (okC code (vK () code 0 (fH code)).2.1) (.ite (decide ((aT 12 code (vK () code 0 (fH code)).2.1 (vK () code 0 (fH code)).2.2)=0)) (.ite ((okC code (am 12 code (vK () code 0 (fH code)).2.1))&&true) (.ite (okC code (da code).2.1) (.ite (decide ((aT 12 code (da code).2.1 (da code).2.2)=0)) (.ite ((okC code (am 12 code (da code).2.1))&&true) (.ret (AV.tup ((IK code)::[.agg [.str (j9 code).1.1,.str (j9 code).1.2.1,.int .i64 (j9 code).1.2.2.1,.str (j9 code).1.2.2.2.1,.bool (j9 code).1.2.2.2.2.1,.ref 1 0,.str (j9 code).1.2.2.2.2.2.2]])) [.arr (Ty.pair Ty.str Ty.str) 0 false (da code).1.2.2.2.2.2.1,.arr (Ty.pair Ty.str Ty.str) 0 false (j9 code).1.2.2.2.2.2.1]) .fail) (.ite ((okC code (am 12 code (da code).2.1))&&true) (.ret (AV.tup ((IK code)::[.agg [.str (j_ code).1.1,.str (j_ code).1.2.1,.int .i64 (j_ code).1.2.2.1,.str (j_ code).1.2.2.2.1,.bool (j_ code).1.2.2.2.2.1,.ref 1 0,.str (j_ code).1.2.2.2.2.2.2]])) [.arr (Ty.pair Ty.str Ty.str) 0 false (da code).1.2.2.2.2.2.1,.arr (Ty.pair Ty.str Ty.str) 0 false (j_ code).1.2.2.2.2.2.1]) .fail)) .fail) .fail) (.ite (okC code (am 12 code (vK () code 0 (fH code)).2.1)) (.ite (decide ((aT 12 code (am 12 code (vK () code 0 (fH code)).2.1) (aw 12 (vK () code 0 (fH code)).2.2))=0)) (.ite ((okC code (vM code))&&true) (.ret (AV.tup ((IJ code)::[.agg [.str (ka code).1.1,.str (ka code).1.2.1,.int .i64 (ka code).1.2.2.1,.str (ka code).1.2.2.2.1,.bool (ka code).1.2.2.2.2.1,.ref 1 0,.str (ka code).1.2.2.2.2.2.2]])) [.arr (Ty.pair Ty.str Ty.str) 0 false (vK () code 0 (fH code)).1.2.2.2.2.2.1,.arr (Ty.pair Ty.str Ty.str) 0 false (ka code).1.2.2.2.2.2.1]) .fail) (.ite ((okC code (vM code))&&true) (.ret (AV.tup ((IJ code)::[.agg [.str (kb code).1.1,.str (kb code).1.2.1,.int .i64 (kb code).1.2.2.1,.str (kb code).1.2.2.2.1,.bool (kb code).1.2.2.2.2.1,.ref 1 0,.str (kb code).1.2.2.2.2.2.2]])) [.arr (Ty.pair Ty.str Ty.str) 0 false (vK () code 0 (fH code)).1.2.2.2.2.2.1,.arr (Ty.pair Ty.str Ty.str) 0 false (kb code).1.2.2.2.2.2.1]) .fail)) .fail)) .fail) .fail) .fail)
def aax: List AV→List Ob→Br
 | [.sh (.int .u8) code],[]=>IL code
 | _,_=> .fail
theorem acK: Sound Kx 37 aax:=ae (C:=afj) (O:=O0) Tryz.func37 (by kernel_rfl) fun args objs=>by
 unfold aax;split
 · exact .inr (by kernel_rfl)
 · exact .inl rfl
def afk (y m d: Int) (k: aa): Br:=(.ite (decide (2≤(k.length: Int))) (.ite (decide ((List.length (cut k 0 2))≤12)) (.ite (decide (5≤(k.length: Int))) (.ite (decide ((List.length (cut k 3 5))≤12)) (.ite (decide (8≤(k.length: Int))) (.ite (decide ((List.length (cut k 6 8))≤12)) (.ite (ll (cvM y m d (XV (cut k 0 2)) (XV (cut k 3 5)) (XV (cut k 6 8)))).2 (.ret (AV.int .i64 (ll (cvM y m d (XV (cut k 0 2)) (XV (cut k 3 5)) (XV (cut k 6 8)))).1) []) (.ret (AV.int .i64 (-1)) [])) .fail) .fail) .fail) .fail) .fail) .fail)
def aiI: List AV→List Ob→Br
 | [.int .i64 y, .int .i64 m, .int .i64 d, .str k],[]=>afk y m d k
 | _,_=> .fail
def acL: Opt:={ split:=true }
def acM: SC:=[⟨205,_,Ul⟩,⟨206,_,Pn⟩,⟨207,_,ZI⟩,⟨208,_,YG⟩,⟨209,_,UY⟩,⟨210,_,UZ⟩,⟨211,_,U0⟩]
abbrev gW (s: aa):=(ll (cvM (ad ((ad ((List.getD (bP s) 1 0) + 1900)) + 100)) (Lu (cut s (v_ s 44) (s.length: Int))) (List.getD (bP s) 0 0) (List.getD (bP s) 2 0) (List.getD (bP s) 3 0) (List.getD (bP s) 4 0)))
abbrev gX (s: aa):=(ll (cvM (ad ((List.getD (bP s) 1 0) + 1900)) (Lu (cut s (v_ s 44) (s.length: Int))) (List.getD (bP s) 0 0) (List.getD (bP s) 2 0) (List.getD (bP s) 3 0) (List.getD (bP s) 4 0)))
abbrev gY (s: aa):=(ll (cvM (List.getD (bP s) 1 0) (Lu (cut s (v_ s 44) (s.length: Int))) (List.getD (bP s) 0 0) (List.getD (bP s) 2 0) (List.getD (bP s) 3 0) (List.getD (bP s) 4 0)))
abbrev gZ (s: aa):=(ll (cvM (List.getD (bP s) 4 0) (Lu (cut s 3 (s.length: Int))) (List.getD (bP s) 0 0) (List.getD (bP s) 1 0) (List.getD (bP s) 2 0) (List.getD (bP s) 3 0)))
abbrev dO (s: aa):=(Br.ret (AV.tup ((AV.int .i64 0)::((AV.bool false)::[]))) [])
abbrev dP (s: aa):=((List.length (bP s)): Int)
def Bo (s: aa): Br:=(.ite (decide ((s.length: Int) < 6)) (dO s) (.ite (decide (40 < (s.length: Int))) (dO s) (.ite (decide (s.length≤100000)) (.ite (!(decide ((dP s)=5))) (dO s) (.ite (decide (3≤(s.length: Int))) (.ite (decide ((List.length (cut s 3 (s.length: Int)))≤1000000)) (.ite (decide (0≤(v_ s 44))) (.ite (decide (0≤(v_ s 44))) (.ite (decide ((v_ s 44)≤(s.length: Int))) (.ite (decide ((List.length (cut s (v_ s 44) (s.length: Int)))≤1000000)) (.ite (decide (1 < (dP s))) (.ite (decide (0 < (dP s))) (.ite (decide (2 < (dP s))) (.ite (decide (3 < (dP s))) (.ite (decide (4 < (dP s))) (.ite (decide (0≤(v_ s 45))) (.ite (decide ((ad ((List.getD (bP s) 1 0) + 1900)) < 1970)) (.ite (!(gW s).2) (dO s) (.ite (!(decide ((ia (gW s).1)=s))) (.ite (!(decide ((jB (gW s).1)=s))) (.ite (!(decide ((jC (gW s).1)=s))) (dO s) (.ret (AV.tup [.int .i64 (gW s).1,.bool true]) [])) (.ret (AV.tup [.int .i64 (gW s).1,.bool true]) [])) (.ret (AV.tup [.int .i64 (gW s).1,.bool true]) []))) (.ite (!(gX s).2) (dO s) (.ite (!(decide ((ia (gX s).1)=s))) (.ite (!(decide ((jB (gX s).1)=s))) (.ite (!(decide ((jC (gX s).1)=s))) (dO s) (.ret (AV.tup [.int .i64 (gX s).1,.bool true]) [])) (.ret (AV.tup [.int .i64 (gX s).1,.bool true]) [])) (.ret (AV.tup [.int .i64 (gX s).1,.bool true]) [])))) (.ite (!(gY s).2) (dO s) (.ite (!(decide ((ia (gY s).1)=s))) (.ite (!(decide ((jB (gY s).1)=s))) (.ite (!(decide ((jC (gY s).1)=s))) (dO s) (.ret (AV.tup [.int .i64 (gY s).1,.bool true]) [])) (.ret (AV.tup [.int .i64 (gY s).1,.bool true]) [])) (.ret (AV.tup [.int .i64 (gY s).1,.bool true]) [])))) .fail) .fail) .fail) .fail) .fail) .fail) .fail) .fail) (.ite (decide (4 < (dP s))) (.ite (decide (0 < (dP s))) (.ite (decide (1 < (dP s))) (.ite (decide (2 < (dP s))) (.ite (decide (3 < (dP s))) (.ite (!(gZ s).2) (dO s) (.ite (!(decide ((ia (gZ s).1)=s))) (.ite (!(decide ((jB (gZ s).1)=s))) (.ite (!(decide ((jC (gZ s).1)=s))) (dO s) (.ret (AV.tup [.int .i64 (gZ s).1,.bool true]) [])) (.ret (AV.tup [.int .i64 (gZ s).1,.bool true]) [])) (.ret (AV.tup [.int .i64 (gZ s).1,.bool true]) []))) .fail) .fail) .fail) .fail) .fail)) .fail) .fail)) .fail)))
def Vg: List AV→List Ob→Br
 | [.str s],[]=>Bo s
 | _,_=> .fail
theorem iRead_ok: Sound Kx 151 Vg:=ae (C:=acM) (O:=acL) Tryz.func151 (by kernel_rfl) fun args objs=>by
 unfold Vg;split
 · exact .inr (by kernel_rfl)
 · exact .inl rfl
theorem acN (l: aa) (n: Nat): Ev.cut l ((n: Nat): Int) (l.length: Int)=l.drop n:=by unfold Ev.cut;simp
def atB (k: aa): Bool:=decide (k.length=8)
def aiW: List AV→List Ob→Br
 | [.int .i64 y, .int .i64 m, .int .i64 d, .str k],[]=> .ite (atB k) (.ret (.int .i64 (atS y m d k)) []) .fail
 | _,_=> .fail
theorem F5 (b: UInt8): ∀ s: aa,cH s (by8 b)=true→v_ s (by8 b)=((an s (by8 b)).length: Int)
 | [],h=>by cases h
 | a::r,h=>by
   have e: (by8 b).toNat.toUInt8=b:=by simp [by8]
   have hd: cH (a::r) (by8 b)=(decide (by8 a=by8 b)||cH r (by8 b)):=rfl
   have hu: an (a::r) (by8 b)=bif !decide (by8 a=by8 b) then a::an r (by8 b) else []:=by
    unfold an;rw [List.takeWhile_cons];cases decide (by8 a=by8 b) <;> rfl
   unfold v_
   rw [e,hu]
   by_cases c: a=b
   · subst c
     unfold Lib.indexByte
     simp
   · have cb: ¬ by8 a=by8 b:=fun h=>c (by unfold by8 at h;exact UInt8.toNat_inj.1 (by omega))
     rw [hd,dF' cb,Bool.false_or] at h
     have ih:=F5 b r h
     unfold v_ at ih
     rw [e] at ih
     unfold Lib.indexByte
     rw [if_neg (by simpa using c),ih,if_neg (by simp),dF' cb]
     rfl
def afl (s: aa) (c: Cv): Br:=
 (Br.ite (!(ll c).2) (Br.ret (AV.tup ((AV.int .i64 (0 : Int))::((AV.bool false)::([]: (List (AV)))))) ([]: (List (Ob)))) (Br.ite (!(decide ((ia (ll c).1)=s))) (Br.ite (!(decide ((jB (ll c).1)=s))) (Br.ite (!(decide ((jC (ll c).1)=s))) (Br.ret (AV.tup ((AV.int .i64 (0 : Int))::((AV.bool false)::([]: (List (AV)))))) ([]: (List (Ob)))) (Br.ret (AV.tup ((AV.int .i64 (ll c).1)::((AV.bool true)::([]: (List (AV)))))) ([]: (List (Ob))))) (Br.ret (AV.tup ((AV.int .i64 (ll c).1)::((AV.bool true)::([]: (List (AV)))))) ([]: (List (Ob))))) (Br.ret (AV.tup ((AV.int .i64 (ll c).1)::((AV.bool true)::([]: (List (AV)))))) ([]: (List (Ob))))))
theorem oj (s: aa) (c: Cv): (afl s c).val=some (.tup [.int .i64 (ab2 s c).1, .bool (ab2 s c).2],[]):=by
 unfold afl ab2
 generalize (ll c).2=b0
 generalize decide (ia (ll c).1=s)=b1
 generalize decide (jB (ll c).1=s)=b2
 generalize decide (jC (ll c).1=s)=b3
 generalize (ll c).1=v
 cases b0 <;> cases b1 <;> cases b2 <;> cases b3 <;> rfl
def aay: List AV→List Ob→Br
 | [.str s],[]=> .ret (.tup [.int .i64 (rK s).1, .bool (rK s).2]) []
 | _,_=> .fail
theorem Vh (s: aa): (Bo s).val=some (.tup [.int .i64 (rdI s).1, .bool (rdI s).2],[]):=by
 unfold Bo rdI dP dO gZ gY gX gW
 by_cases c1: s.length < 6
 · rw [dT' (show (s.length: Int) < 6 by omega),dF' (show ¬ 6≤s.length by omega)];rfl
 rw [dF' (show ¬ (s.length: Int) < 6 by omega),dT' (show 6≤s.length by omega)]
 by_cases c2: 40 < s.length
 · rw [dT' (show (40 : Int) < (s.length: Int) by omega),dF' (show ¬ s.length≤40 by omega)];rfl
 rw [dF' (show ¬ (40 : Int) < (s.length: Int) by omega),dT' (show s.length≤40 by omega),dT' (show s.length≤100000 by omega)]
 by_cases c3: (bP s).length=5
 case neg=>rw [dF' (show ¬ ((bP s).length: Int)=5 by omega),dF' c3];rfl
 have lc: ∀ a b: Int,decide ((Ev.cut s a b).length≤1000000)=true:=fun a b=>dT' (by have:=Ax s a b;omega)
 rw [dT' (show ((bP s).length: Int)=5 by omega),dT' c3,dT' (show (3 : Int)≤(s.length: Int) by omega),lc,lc,zQ s 44 (by omega) (by omega),zQ s 45 (by omega) (by omega),
  dT' (show (1 : Int) < ((bP s).length: Int) by omega),dT' (show (0 : Int) < ((bP s).length: Int) by omega),dT' (show (2 : Int) < ((bP s).length: Int) by omega),
  dT' (show (3 : Int) < ((bP s).length: Int) by omega),dT' (show (4 : Int) < ((bP s).length: Int) by omega)]
 have hn:=Yv s 1
 have cd: Ev.cut s 3 (s.length: Int)=s.drop 3:=acN s 3
 rw [w64 (n:=(bP s).getD 1 0 + 1900) (by omega) (by omega),w64 (n:=(bP s).getD 1 0 + 1900 + 100) (by omega) (by omega),cd]
 unfold cvI
 cases h44: cH s 44
 · exact oj s _
 · have ix: v_ s 44=((an s 44).length: Int):=F5 44 s h44
   have hul: (an s 44).length≤s.length:=by unfold an;exact (List.takeWhile_sublist _).length_le
   rw [ix,acN,dT' (show ((an s 44).length: Int)≤(s.length: Int) by omega)]
   cases h45: cH s 45
   · exact oj s _
   · unfold cen
     cases hc: decide ((bP s).getD 1 0 + 1900 < 1970)
     · exact oj s _
     · exact oj s _
theorem Vi: Sound Kx 151 aay:=iRead_ok.of fun args objs r h=>by
 unfold aay at h;split at h
 · rename_i s
   rw [← h]
   refine (Vh s).trans ?_
   rw [aab];rfl
 · cases h
def afm (s p: aa): Br:=(.ite (decide ((p.length: Int)≤(s.length: Int))) (.ite (decide (0≤(p.length: Int))) (.ite (decide ((p.length: Int)≤(s.length: Int))) (.ret (AV.bool (decide ((cut s 0 (p.length: Int))=p))) []) .fail) .fail) (.ret (AV.bool false) []))
def afn: List AV→List Ob→Br
 | [.str s, .str p],[]=>afm s p
 | _,_=> .fail
theorem afo: Sound Kx 196 afn:=ae (C:=[]) (O:=O0) Tryz.func196 (by kernel_rfl) fun args objs=>by
 unfold afn;split
 · exact .inr (by kernel_rfl)
 · exact .inl rfl
def afp: Opt:={ split:=true }
def afq: SC:=[⟨196,_,afo⟩]
def acO (s p: aa): Br:=(.ite (decide ((p.length: Int)≤(s.length: Int))) (.ite (decide (0≤(p.length: Int))) (.ite (decide ((p.length: Int)≤(s.length: Int))) (.ite (decide ((cut s 0 (p.length: Int))=p)) (.ite (decide (0≤(p.length: Int))) (.ite (decide ((p.length: Int)≤(s.length: Int))) (.ret (AV.str (cut s (p.length: Int) (s.length: Int))) []) .fail) .fail) (.ret (AV.str s) [])) .fail) .fail) (.ret (AV.str s) []))
def aaz: List AV→List Ob→Br
 | [.str s, .str p],[]=>acO s p
 | _,_=> .fail
theorem acQ: Sound Kx 149 aaz:=ae (C:=afq) (O:=afp) Tryz.func149 (by kernel_rfl) fun args objs=>by
 unfold aaz;split
 · exact .inr (by kernel_rfl)
 · exact .inl rfl
def ahm: SC:=[⟨149,_,acQ⟩]
def Vj (s p: aa): Br:=(.ite (decide ((p.length: Int)≤(s.length: Int))) (.ite (decide (0≤(p.length: Int))) (.ite (decide ((p.length: Int)≤(s.length: Int))) (.ite (decide ((cut s 0 (p.length: Int))=p)) (.ite (decide (0≤(p.length: Int))) (.ite (decide ((p.length: Int)≤(s.length: Int))) (.ret (AV.str (cut s (p.length: Int) (s.length: Int))) []) .fail) .fail) (.ret (AV.str s) [])) .fail) .fail) (.ret (AV.str s) []))
def afr: List AV→List Ob→Br
 | [.str s, .str p],[]=>Vj s p
 | _,_=> .fail
theorem tpx_ok: Sound Kx 73 afr:=ae (C:=ahm) (O:=O0) Tryz.func73 (by kernel_rfl) fun args objs=>by
 unfold afr;split
 · exact .inr (by kernel_rfl)
 · exact .inl rfl
def afs: SC:=[⟨47,_,lU⟩]
def IM (l: List Fd) (name: aa): Br:=(.ite (isM name) (.ite (decide (((List.length (fi l name)): Int)=0)) (.ret (AV.tup [.str ([]: aa),.bool false]) []) (.ite (decide (0 < ((List.length (fi l name)): Int))) (.ret (AV.tup [.str (List.getD (fi l name) 0 ([]: aa)),.bool true]) []) .fail)) .fail)
def aaA: List AV→List Ob→Br
 | [.sh (.pair .str .str) l, .str name],[]=>IM l name
 | _,_=> .fail
theorem iGet_ok: Sound Kx 80 aaA:=ae (C:=afs) (O:=O0) Tryz.func80 (by kernel_rfl) fun args objs=>by
 unfold aaA;split
 · exact .inr (by kernel_rfl)
 · exact .inl rfl
def IN (b: Int): Br:=(.ite (decide (32 < b)) (.ite (!(decide (b=34))) (.ret (AV.bool (!(decide (b=127)))) []) (.ret (AV.bool false) [])) (.ret (AV.bool false) []))
def aaB: List AV→List Ob→Br
 | [.int .u8 b],[]=>IN b
 | _,_=> .fail
theorem acR: Sound Kx 75 aaB:=ae (C:=[]) (O:=O0) Tryz.func75 (by kernel_rfl) fun args objs=>by
 unfold aaB;split
 · exact .inr (by kernel_rfl)
 · exact .inl rfl
def tpP (s p: aa): aa:=bif decide (p.length≤s.length)&&decide (s.take p.length=p) then s.drop p.length else s
def eX (s: aa): aa:=tpP s [87,47]
theorem PA (s: aa): (eX s).length≤s.length:=by
 unfold eX tpP
 cases decide (([87,47]: aa).length≤s.length)&&decide (s.take ([87,47]: aa).length=[87,47])
 · exact Nat.le_refl _
 · rw [cond_true,List.length_drop];omega
def aib: List AV→List Ob→Br
 | [.str s, .str p],[]=> .ret (.str (tpP s p)) []
 | _,_=> .fail
theorem acT (s: aa) (n: Nat): Ev.cut s 0 ((n: Nat): Int)=s.take n:=by unfold Ev.cut;simp
theorem Vk: Sound Kx 73 aib:=tpx_ok.of fun args objs r h=>by
 unfold aib at h;split at h
 · rename_i s p
   rw [← h]
   show (Vj s p).val=some (.str (tpP s p),[])
   unfold Vj tpP
   rw [acT,acN]
   by_cases c: p.length≤s.length
   · rw [dT' (show (p.length: Int)≤(s.length: Int) by omega),dT' (show (0 : Int)≤(p.length: Int) by omega),dT' c]
     cases decide (s.take p.length=p) <;> rfl
   · rw [dF' (show ¬ (p.length: Int)≤(s.length: Int) by omega),dF' c];rfl
 · cases h
def wN (b: Int): Bool:=decide (32 < b)&& !decide (b=34)&& !decide (b=127)
theorem YS: Sound Kx 75 (Kn wN):=rH acR fun b=>by
 show (IN b).val=some (.bool (wN b),[])
 unfold IN wN
 generalize decide (32 < b)=b1
 generalize decide (b=34)=b2
 generalize decide (b=127)=b3
 cases b1 <;> cases b2 <;> cases b3 <;> rfl
theorem Bp: Sound Kx 80 Ae:=iGet_ok.of fun args objs r h=>by
 unfold Ae at h;split at h
 · rename_i l name
   obtain ⟨h1,h2⟩:=ai h
   cases h2
   show (IM l name).val=some (.tup [.str ((fi l name).getD 0 []), .bool (eq l name)],[])
   unfold IM eq
   rw [h1]
   cases hv: fi l name with
   | nil=>rfl
   | cons a v=>
     rw [dF' (show ¬ ((a::v).length: Int)=0 by simp only [List.length_cons];omega),dT' (show (0 : Int) < ((a::v).length: Int) by simp only [List.length_cons];omega),dT' (show 0 < (a::v).length by simp)]
     rfl
 · cases h
def dtP (l: List Fd) (name: aa): Int×Bool:=bif eq l name then rK ((fi l name).getD 0 []) else (0,false)
theorem Vl: rK []=(0,false):=by rw [← aab];rfl
theorem aft (l: List Fd) (name: aa): rK ((fi l name).getD 0 [])=dtP l name:=by
 unfold dtP eq
 cases hv: fi l name with
 | nil=>exact Vl
 | cons a v=>rw [dT' (show 0 < (a::v).length by simp)];rfl
def afu: List AV→List Ob→Br
 | [.sh (.pair .str .str) l, .str name],[]=> .ite (isM name) (.ret (.tup [.int .i64 (dtP l name).1, .bool (dtP l name).2]) []) .fail
 | _,_=> .fail
def M8: Opt:={ live:=[(2,[0,1,5])],outs:=[(2,[4])] }
def allTag_C: SC:=[⟨75,_,YS⟩]
def ol (aD: aa) (aH: Int) (kR2: aa→Int→OR') (ca cI: OR'): OR':=
 (bif (decide (aH < (aD.length: Int))) then (bif (decide (0≤aH)) then (bif (decide (aH < (aD.length: Int))) then (bif (!(wN (aq aD aH))) then ca else (kR2 aD (ad (aH + 1)))) else none) else none) else cI)
def iN: Nat→aa→Int→(OR')→(OR')→OR'
 | 0,_,_,_,_=>none
 | n + 1,aD,aH,ca,cI=>ol aD aH (fun aD aH=>iN n aD aH ca cI) ca cI
abbrev allTag_p2: SP:=⟨18,[0,1,5],[(.v .s),(.v (.fn 75 [])),(.v (.i .i64))],[]⟩
noncomputable def F6: Code:=aC (aG Tryz.f74) [1,0,1,0,0]
def F7 (f: (OR')→(OR')→OR') (k: KT): OR':=f (k Ex.ret ((St.mk (aF 0 18 [(4,(AV.bool false))]) ([]: (List (Nat×(Ob))))))) (k (Ex.exit 0) ((St.mk (aF 0 18 []) ([]: (List (Nat×(Ob)))))))
def F8 (n: Nat) (d: allTag_p2.D): KT→OR':=F7 (iN n d.1.1 d.1.2.2.1)
def M9 (N: Nat): Lam:=bH [⟨2,allTag_p2,F8 N⟩]
theorem PB (N: Nat): OkL Kx allTag_C.s M8 0 N (M9 N) F6:=okL allTag_p2 (F8) (fun d kR=>F7 (ol d.1.1 d.1.2.2.1 (fun aD aH=>kR ((aD,(),aH,()),())))) (fun _ _=>by kernel_rfl) (fun _ _ _=>by kernel_rfl) (fun _ _=>by kernel_rfl) (fun _ _ _ _=>by kernel_rfl) (al (l':=[]) (by kernel_rfl) trivial)
def y8 (N: Nat) (s: aa): OR':=(iN N s 0 (some ((AV.bool false),[])) (some ((AV.bool true),[])))
def p8 (φ: aa→Br): List AV→List Ob→Br
 | [.str s, .fn 75 []],[]=>φ s
 | _,_=> .fail
theorem IO {φ: aa→Br} (fu: aa→Nat) (hv: ∀ s res_,(φ s).val=some res_→y8 (fu s) s=some res_): Sound Kx 74 (p8 φ):=ap (C:=allTag_C) (O:=M8) Tryz.func74 (by kernel_rfl) fun args objs=>by
 unfold p8;split
 · rename_i s;exact .inr fun _ hyp_=>aO (Λ:=M9 (fu s)) (by kernel_rfl) (al (l':=[F6]) (by kernel_rfl) ⟨PB _,trivial⟩) (by kernel_rfl) (hv s _ hyp_)
 · exact .inl rfl
def Vm: SC:=[⟨80,_,Bp⟩,⟨151,_,Vi⟩]
def p9 (l: List Fd) (name: aa): Br:=(.ite (isM name) (.ret (AV.tup [.int .i64 (rK (List.getD (fi l name) 0 ([]: aa))).1,.bool (rK (List.getD (fi l name) 0 ([]: aa))).2]) []) .fail)
def F9: List AV→List Ob→Br
 | [.sh (.pair .str .str) l, .str name],[]=>p9 l name
 | _,_=> .fail
theorem iDateIn_ok: Sound Kx 81 F9:=ae (C:=Vm) (O:=O0) Tryz.func81 (by kernel_rfl) fun args objs=>by
 unfold F9;split
 · exact .inr (by kernel_rfl)
 · exact .inl rfl
theorem IP (l: aa) (hl: l.length≤4611686018427387904) (k0 k1: OR'): ∀ (r: aa) (i: Int) (n: Nat),At l i r→r.length < n→iN n l i k0 k1=bif aP wN r then k1 else k0:=by
 intro r;induction r with
 | nil=>intro i n h hn;obtain ⟨n,rfl⟩:=bL hn;unfold iN ol;simp only [h.dge,cond_false,aP,List.all_nil,cond_true]
 | cons a r ih=>
   intro i n h hn;obtain ⟨n,rfl⟩:=bL hn
   have hs:=ih (i + 1) n h.step (by simp at hn;omega)
   unfold iN ol;simp only [h.dlt,h.dnn,h.str,cond_true,h.next hl,hs,aP,List.all_cons]
   cases wN (by8 a) <;> rfl
def YT:=p8 fun s=> .ite (isM s) (.ret (.bool (aP wN s)) []) .fail
theorem PC: Sound Kx 74 YT:=by
 refine IO (fun s=>s.length + 1) fun s r h=>?_
 obtain ⟨h1,h2⟩:=ai h
 unfold y8
 rw [IP s (fh h1) _ _ s 0 _ (At.start s) (by omega),← h2]
 cases aP wN s <;> rfl
theorem vN: Sound Kx 81 afu:=iDateIn_ok.of fun args objs r h=>by
 unfold afu at h;split at h
 · rename_i l name
   obtain ⟨h1,h2⟩:=ai h
   cases h2
   show (p9 l name).val=some (.tup [.int .i64 (dtP l name).1, .bool (dtP l name).2],[])
   unfold p9
   rw [h1,aft];rfl
 · cases h
def PD (s: aa): Bool:=
 bif decide (190 < (s.length: Int)) then false else bif decide (((eX s).length: Int) < 2) then false else bif !decide (aq (eX s) 0=34) then false
 else bif !decide (aq (eX s) (((eX s).length: Int) - 1)=34) then false else aP wN (Ev.cut (eX s) 1 (((eX s).length: Int) - 1))
def aic: List AV→List Ob→Br
 | [.str s],[]=> .ret (.bool (PD s)) []
 | _,_=> .fail
def afv: SC:=[⟨73,_,Vk⟩,⟨74,_,PC⟩]
def IQ (s: aa): Br:=(.ite (decide (190 < (s.length: Int))) (.ret (AV.bool false) []) (.ite (decide (((List.length (tpP s ([87,47]: aa))): Int) < 2)) (.ret (AV.bool false) []) (.ite (decide (0 < ((List.length (tpP s ([87,47]: aa))): Int))) (.ite (!(decide ((aq (tpP s ([87,47]: aa)) 0)=34))) (.ret (AV.bool false) []) (.ite (decide (0≤(ad (((List.length (tpP s ([87,47]: aa))): Int) - 1)))) (.ite (decide ((ad (((List.length (tpP s ([87,47]: aa))): Int) - 1)) < ((List.length (tpP s ([87,47]: aa))): Int))) (.ite (!(decide ((aq (tpP s ([87,47]: aa)) (ad (((List.length (tpP s ([87,47]: aa))): Int) - 1)))=34))) (.ret (AV.bool false) []) (.ite (decide (1≤(ad (((List.length (tpP s ([87,47]: aa))): Int) - 1)))) (.ite (decide ((ad (((List.length (tpP s ([87,47]: aa))): Int) - 1))≤((List.length (tpP s ([87,47]: aa))): Int))) (.ite (isM (cut (tpP s ([87,47]: aa)) 1 (ad (((List.length (tpP s ([87,47]: aa))): Int) - 1)))) (.ret (AV.bool (aP wN (cut (tpP s ([87,47]: aa)) 1 (ad (((List.length (tpP s ([87,47]: aa))): Int) - 1))))) []) .fail) .fail) .fail)) .fail) .fail)) .fail)))
def aaC: List AV→List Ob→Br
 | [.str s],[]=>IQ s
 | _,_=> .fail
theorem iTag_ok: Sound Kx 23 aaC:=ae (C:=afv) (O:=O0) Tryz.func23 (by kernel_rfl) fun args objs=>by
 unfold aaC;split
 · exact .inr (by kernel_rfl)
 · exact .inl rfl
theorem YU (l: aa) (a b: Int): (Ev.cut l a b).length≤l.length:=by
 unfold Ev.cut;rw [List.length_drop,List.length_take];omega
theorem M_: Sound Kx 23 aic:=iTag_ok.of fun args objs r h=>by
 unfold aic at h;split at h
 · rename_i s
   cases h
   show (IQ s).val=some (.bool (PD s),[])
   unfold IQ PD
   have e: tpP s [87,47]=eX s:=rfl
   rw [e]
   by_cases c1: 190 < (s.length: Int)
   · rw [dT' c1];rfl
   rw [dF' c1]
   have hsl:=PA s
   generalize eX s=t at *
   by_cases c2: (t.length: Int) < 2
   · rw [dT' c2];rfl
   have hM: isM (Ev.cut t 1 ((t.length: Int) - 1))=true:=bn (n:=1000) (by have:=YU t 1 ((t.length: Int) - 1);omega)
   rw [dF' c2,dT' (show (0 : Int) < (t.length: Int) by omega),w64 (n:=(t.length: Int) - 1) (by omega) (by omega),dT' (show (0 : Int)≤(t.length: Int) - 1 by omega),dT' (show (t.length: Int) - 1 < (t.length: Int) by omega),
    dT' (show (1 : Int)≤(t.length: Int) - 1 by omega),dT' (show (t.length: Int) - 1≤(t.length: Int) by omega),hM]
   cases decide (aq t 0=34) <;> cases decide (aq t ((t.length: Int) - 1)=34) <;> rfl
 · cases h
def IR (a b: aa): Bool:=bif PD a then bif PD b then decide (eX a=eX b) else false else false
def aid: List AV→List Ob→Br
 | [.str a, .str b],[]=> .ret (.bool (IR a b)) []
 | _,_=> .fail
def acU: Opt:={ split:=true }
def acV: SC:=[⟨23,_,M_⟩,⟨73,_,Vk⟩]
def Bq (a b: aa): Br:=(.ite (PD a) (.ite (PD b) (.ret (AV.bool (decide ((tpP a ([87,47]: aa))=(tpP b ([87,47]: aa))))) []) (.ret (AV.bool false) [])) (.ret (AV.bool false) []))
def Vn: List AV→List Ob→Br
 | [.str a, .str b],[]=>Bq a b
 | _,_=> .fail
theorem iWeak_ok: Sound Kx 25 Vn:=ae (C:=acV) (O:=acU) Tryz.func25 (by kernel_rfl) fun args objs=>by
 unfold Vn;split
 · exact .inr (by kernel_rfl)
 · exact .inl rfl
abbrev sM (ur: aa) (t1 t2: Int) (ak: List Fd) (me ta: aa) (st: Int) (re: aa) (ba: Bool) (fs: List Fd) (bo: aa):=(List.set (List.replicate 1 (([]: aa),([]: aa))) 0 (([73,102,45,77,111,100,105,102,105,101,100,45,83,105,110,99,101]: aa),(List.getD (fi fs ([108,97,115,116,45,109,111,100,105,102,105,101,100]: aa)) 0 ([]: aa))))
abbrev om (ur: aa) (t1 t2: Int) (ak: List Fd) (me ta: aa) (st: Int) (re: aa) (ba: Bool) (fs: List Fd) (bo: aa):=(List.set (List.replicate 1 (([]: aa),([]: aa))) 0 (([73,102,45,78,111,110,101,45,77,97,116,99,104]: aa),(List.getD (fi fs ([101,116,97,103]: aa)) 0 ([]: aa))))
abbrev Na (ur: aa) (t1 t2: Int) (ak: List Fd) (me ta: aa) (st: Int) (re: aa) (ba: Bool) (fs: List Fd) (bo: aa):=(Br.ite (eq fs ([108,97,115,116,45,109,111,100,105,102,105,101,100]: aa)) (Br.ite (rK (List.getD (fi fs ([108,97,115,116,45,109,111,100,105,102,105,101,100]: aa)) 0 ([]: aa))).2 (Br.ite (decide (((List.length (sM ur t1 t2 ak me ta st re ba fs bo)) * 32)≤140737488355328)) (Br.ret (AV.ref 0 0) ((Ob.arr (Ty.pair Ty.str Ty.str) 0 false (sM ur t1 t2 ak me ta st re ba fs bo))::[])) Br.fail) (Br.ret (AV.ref 0 0) ((Ob.arr (Ty.pair Ty.str Ty.str) 0 false ([]: (List Fd)))::[]))) (Br.ret (AV.ref 0 0) ((Ob.arr (Ty.pair Ty.str Ty.str) 0 false ([]: (List Fd)))::[])))
def YV (ur: aa) (t1 t2: Int) (ak: List Fd) (me ta: aa) (st: Int) (re: aa) (ba: Bool) (fs: List Fd) (bo: aa): Br:=(.ite (isM ur) (.ite (!(Ig (ur,(t1,(t2,(ak,(me,(ta,(st,(re,(ba,(fs,bo)))))))))))) (.ret (AV.ref 0 0) [.arr (Ty.pair Ty.str Ty.str) 0 false ([]: (List Fd))]) (.ite (eq fs ([101,116,97,103]: aa)) (.ite (PD (List.getD (fi fs ([101,116,97,103]: aa)) 0 ([]: aa))) (.ite (decide (((List.length (om ur t1 t2 ak me ta st re ba fs bo)) * 32)≤140737488355328)) (.ite (eq fs ([108,97,115,116,45,109,111,100,105,102,105,101,100]: aa)) (.ite (rK (List.getD (fi fs ([108,97,115,116,45,109,111,100,105,102,105,101,100]: aa)) 0 ([]: aa))).2 (.ite (decide ((((List.length (om ur t1 t2 ak me ta st re ba fs bo)) + (List.length (sM ur t1 t2 ak me ta st re ba fs bo))) * 32)≤140737488355328)) (.ret (AV.ref 0 0) [.arr (Ty.pair Ty.str Ty.str) 0 false ((om ur t1 t2 ak me ta st re ba fs bo)++(sM ur t1 t2 ak me ta st re ba fs bo))]) .fail) (.ret (AV.ref 0 0) [.arr (Ty.pair Ty.str Ty.str) 0 false (om ur t1 t2 ak me ta st re ba fs bo)])) (.ret (AV.ref 0 0) [.arr (Ty.pair Ty.str Ty.str) 0 false (om ur t1 t2 ak me ta st re ba fs bo)])) .fail) (Na ur t1 t2 ak me ta st re ba fs bo)) (Na ur t1 t2 ak me ta st re ba fs bo))) .fail)
def ahn: List AV→List Ob→Br
 | [.agg [.str ur, .int .i64 t1, .int .i64 t2, .sh (.pair .str .str) ak, .str me, .str ta, .int .i64 st, .str re, .bool ba, .sh (.pair .str .str) fs, .str bo]],[]=>YV ur t1 t2 ak me ta st re ba fs bo
 | _,_=> .fail
def acW: Opt:={ split:=true }
def acX: SC:=[⟨49,_,jX⟩,⟨80,_,Bp⟩,⟨23,_,M_⟩,⟨81,_,vN⟩]
abbrev oo (ur: aa) (t1 t2: Int) (ak: List Fd) (me ta: aa) (st: Int) (re: aa) (ba: Bool) (fs: List Fd) (bo: aa):=(List.set (List.replicate 1 (([]: aa),([]: aa))) 0 (([73,102,45,77,111,100,105,102,105,101,100,45,83,105,110,99,101]: aa),(List.getD (fi fs ([108,97,115,116,45,109,111,100,105,102,105,101,100]: aa)) 0 ([]: aa))))
abbrev oq (ur: aa) (t1 t2: Int) (ak: List Fd) (me ta: aa) (st: Int) (re: aa) (ba: Bool) (fs: List Fd) (bo: aa):=(List.set (List.replicate 1 (([]: aa),([]: aa))) 0 (([73,102,45,78,111,110,101,45,77,97,116,99,104]: aa),(List.getD (fi fs ([101,116,97,103]: aa)) 0 ([]: aa))))
abbrev Bs (ur: aa) (t1 t2: Int) (ak: List Fd) (me ta: aa) (st: Int) (re: aa) (ba: Bool) (fs: List Fd) (bo: aa):=(Br.ite (dtP fs ([108,97,115,116,45,109,111,100,105,102,105,101,100]: aa)).2 (Br.ite (decide (((List.length (oo ur t1 t2 ak me ta st re ba fs bo)) * 32)≤140737488355328)) (Br.ret (AV.ref 0 0) ((Ob.arr (Ty.pair Ty.str Ty.str) 0 false (oo ur t1 t2 ak me ta st re ba fs bo))::[])) Br.fail) (Br.ret (AV.ref 0 0) ((Ob.arr (Ty.pair Ty.str Ty.str) 0 false ([]: (List Fd)))::[])))
def Bt (ur: aa) (t1 t2: Int) (ak: List Fd) (me ta: aa) (st: Int) (re: aa) (ba: Bool) (fs: List Fd) (bo: aa): Br:=(.ite (isM ur) (.ite (!(Ig (ur,(t1,(t2,(ak,(me,(ta,(st,(re,(ba,(fs,bo)))))))))))) (.ret (AV.ref 0 0) [.arr (Ty.pair Ty.str Ty.str) 0 false ([]: (List Fd))]) (.ite (eq fs ([101,116,97,103]: aa)) (.ite (PD (List.getD (fi fs ([101,116,97,103]: aa)) 0 ([]: aa))) (.ite (decide (((List.length (oq ur t1 t2 ak me ta st re ba fs bo)) * 32)≤140737488355328)) (.ite (dtP fs ([108,97,115,116,45,109,111,100,105,102,105,101,100]: aa)).2 (.ite (decide ((((List.length (oq ur t1 t2 ak me ta st re ba fs bo)) + (List.length (oo ur t1 t2 ak me ta st re ba fs bo))) * 32)≤140737488355328)) (.ret (AV.ref 0 0) [.arr (Ty.pair Ty.str Ty.str) 0 false ((oq ur t1 t2 ak me ta st re ba fs bo)++(oo ur t1 t2 ak me ta st re ba fs bo))]) .fail) (.ret (AV.ref 0 0) [.arr (Ty.pair Ty.str Ty.str) 0 false (oq ur t1 t2 ak me ta st re ba fs bo)])) .fail) (Bs ur t1 t2 ak me ta st re ba fs bo)) (Bs ur t1 t2 ak me ta st re ba fs bo))) .fail)
def Vo: List AV→List Ob→Br
 | [.agg [.str ur, .int .i64 t1, .int .i64 t2, .sh (.pair .str .str) ak, .str me, .str ta, .int .i64 st, .str re, .bool ba, .sh (.pair .str .str) fs, .str bo]],[]=>Bt ur t1 t2 ak me ta st re ba fs bo
 | _,_=> .fail
theorem iVali_ok: Sound Kx 30 Vo:=ae (C:=acX) (O:=acW) Tryz.func30 (by kernel_rfl) fun args objs=>by
 unfold Vo;split
 · exact .inr (by kernel_rfl)
 · exact .inl rfl
theorem F_: Sound Kx 25 aid:=iWeak_ok.of fun args objs r h=>by
 unfold aid at h;split at h
 · rename_i a b
   cases h
   show (Bq a b).val=some (.bool (IR a b),[])
   unfold Bq IR eX
   cases PD a <;> cases PD b <;> rfl
 · cases h
def YW: aa:=[105,102,45,110,111,110,101,45,109,97,116,99,104]
def afw: aa:=[105,102,45,109,111,100,105,102,105,101,100,45,115,105,110,99,101]
def nLM: aa:=[108,97,115,116,45,109,111,100,105,102,105,101,100]
def nET: aa:=[101,116,97,103]
def afx (tag w: aa): Bool:=bif decide (w=[42]) then true else IR w tag
def acY (l: List Fd) (e: En): Bool:=
 bif !Ig e then false else bif !cw l then false
 else bif eq l YW then (aN l YW).any (afx ((fi e.2.2.2.2.2.2.2.2.2.1 nET).getD 0 []))
 else bif (dtP l afw).2 then bif (dtP e.2.2.2.2.2.2.2.2.2.1 nLM).2 then decide ((dtP e.2.2.2.2.2.2.2.2.2.1 nLM).1≤(dtP l afw).1) else false else false
def aie: List AV→List Ob→Br
 | [.sh (.pair .str .str) l, .agg [.str ur, .int .i64 t1, .int .i64 t2, .sh (.pair .str .str) ak, .str me, .str ta, .int .i64 st, .str re, .bool ba, .sh (.pair .str .str) fs, .str bo]],[]=> .ite (isM ur) (.ret (.bool (acY l (ur,t1,t2,ak,me,ta,st,re,ba,fs,bo))) []) .fail
 | _,_=> .fail
def aiJ: SC:=[⟨25,_,F_⟩]
def aho (w tag: aa): Br:=(.ite (decide (w=([42]: aa))) (.ret (AV.bool true) [.var [.str tag]]) (.ret (AV.bool (IR w tag)) [.var [.str tag]]))
def aif: List AV→List Ob→Br
 | [.str w, .ptr 0 0],[.var [.str tag]]=>aho w tag
 | _,_=> .fail
theorem ahp: Sound Kx 88 aif:=ae (C:=aiJ) (O:=O0) Tryz.func88 (by kernel_rfl) fun args objs=>by
 unfold aif;split
 · exact .inr (by kernel_rfl)
 · exact .inl rfl
def afy: Opt:={ live:=[(2,[0,1,7,8])],outs:=[(2,[4])] }
def ixF_C: SC:=[⟨88,_,ahp⟩]
def Ga (aD: (List aa)) (aH bW: Int) (gw: aa) (kR2: (List aa)→Int→Int→aa→OR') (ca: Int→aa→OR') (cI: aa→OR'): OR':=
 (bif (decide (bW < aH)) then (bif (decide (0≤bW)) then (bif (decide (bW < (aD.length: Int))) then (bif (decide ((List.getD aD (Int.toNat bW) ([]: aa))=([42]: aa))) then (ca bW gw) else (bif (IR (List.getD aD (Int.toNat bW) ([]: aa)) gw) then (ca bW gw) else (kR2 aD aH (ad (bW + 1)) gw))) else none) else none) else (cI gw))
def ot: Nat→(List aa)→Int→Int→aa→(Int→aa→OR')→(aa→OR')→OR'
 | 0,_,_,_,_,_,_=>none
 | n + 1,aD,aH,bW,gw,ca,cI=>Ga aD aH bW gw (fun aD aH bW gw=>ot n aD aH bW gw ca cI) ca cI
abbrev ixF_p2: SP:=⟨19,[0,1,7,8],[(.v (.sh Ty.str)),(.v (.fn 88 [(0,0)])),(.v (.i .i64)),(.v (.i .i64))],[(0, .var [.s])]⟩
noncomputable def aaD: Code:=aC (aG Tryz.f159) [1,0,1,0,0]
def aaE (f: (Int→aa→OR')→(aa→OR')→OR') (k: KT): OR':=f (fun bK iP=>k Ex.ret ((St.mk (aF 0 19 [(4,(AV.int .i64 bK))]) ((0,(Ob.var [.str iP]))::([]: (List (Nat×(Ob)))))))) (fun kd=>k (Ex.exit 0) ((St.mk (aF 0 19 []) ((0,(Ob.var [.str kd]))::([]: (List (Nat×(Ob))))))))
def aaF (n: Nat) (d: ixF_p2.D): KT→OR':=aaE (ot n d.1.1 d.1.2.2.1 d.1.2.2.2.1 d.2.1.1)
def afz (N: Nat): Lam:=bH [⟨2,ixF_p2,aaF N⟩]
theorem acZ (N: Nat): OkL Kx ixF_C.s afy 1 N (afz N) aaD:=okL ixF_p2 (aaF) (fun d kR=>aaE (Ga d.1.1 d.1.2.2.1 d.1.2.2.2.1 d.2.1.1 (fun aD aH bW gw=>kR ((aD,(),aH,bW,()),((gw,()),()))))) (fun _ _=>by kernel_rfl) (fun _ _ _=>by kernel_rfl) (fun _ _=>by kernel_rfl) (fun _ _ _ _=>by kernel_rfl) (al (l':=[]) (by kernel_rfl) trivial)
def Vp (N: Nat) (l: List aa) (tag: aa): OR':=(ot N l (l.length: Int) 0 tag (fun bK iP=>(some ((AV.int .i64 bK),[.var [.str iP]]))) (fun kd=>(some ((AV.int .i64 (-1)),[.var [.str kd]]))))
def Vr (φ: (List aa)→aa→Br): List AV→List Ob→Br
 | [.sh .str l, .fn 88 [.ptr 0 0]],[.var [.str tag]]=>φ l tag
 | _,_=> .fail
theorem YX {φ: (List aa)→aa→Br} (fu: (List aa)→aa→Nat) (hv: ∀ l tag res_,(φ l tag).val=some res_→Vp (fu l tag) l tag=some res_): Sound Kx 159 (Vr φ):=ap (C:=ixF_C) (O:=afy) Tryz.func159 (by kernel_rfl) fun args objs=>by
 unfold Vr;split
 · rename_i l tag;exact .inr fun _ hyp_=>aO (Λ:=afz (fu l tag)) (by kernel_rfl) (al (l':=[aaD]) (by kernel_rfl) ⟨acZ _,trivial⟩) (by kernel_rfl) (hv l tag _ hyp_)
 · exact .inl rfl
def We (tag: aa): List aa→Int→Int
 | [],_=> -1
 | w::r,i=>bif afx tag w then i else We tag r (i + 1)
theorem Nb (tag: aa): ∀ (l: List aa) (i: Int),0≤i→decide (0≤We tag l i)=l.any (afx tag)
 | [],i,h=>rfl
 | w::r,i,h=>by
   unfold We
   rw [List.any_cons]
   cases afx tag w
   · rw [cond_false,Bool.false_or];exact Nb tag r (i + 1) (by omega)
   · rw [cond_true,Bool.true_or];exact dT' h
theorem YY (l: List aa) (hl: l.length≤100000) (tag: aa) (K: Int→OR'): ∀ (r: List aa) (i: Int) (n: Nat),At l i r→r.length < n→ot n l (l.length: Int) i tag (fun x _=>K x) (fun _=>K (-1))=K (We tag r i):=by
 intro r;induction r with
 | nil=>intro i n h hn;obtain ⟨n,rfl⟩:=bL hn;unfold ot Ga;simp only [h.dge,cond_false];rfl
 | cons w r ih=>
   intro i n h hn;obtain ⟨n,rfl⟩:=bL hn
   simp only [List.length_cons] at hn
   have hr:=ih (i + 1) n h.step (by omega)
   unfold ot Ga
   simp only [h.dlt,h.dnn,h.get,cond_true,h.next (show l.length≤4611686018427387904 by omega),hr,We]
   unfold afx
   cases decide (w=[42]) <;> cases IR w tag <;> rfl
def afA (p: aa→List aa→AV): List AV→List Ob→Br
 | [.sh .str l, .fn 88 [.ptr 0 0]],[.var [.str tag]]=> .ite (decide (l.length≤100000)) (.ret (p tag l) [.var [.str tag]]) .fail
 | _,_=> .fail
theorem ac0: Sound Kx 159 (afA fun tag l=> .int .i64 (We tag l 0)):=by
 refine (YX (φ:=fun l tag=> .ite (decide (l.length≤100000)) (.ret (.int .i64 (We tag l 0)) [.var [.str tag]]) .fail) (fun l _=>l.length + 1) fun l tag r h=>?_).of fun args objs r h=>?_
 · obtain ⟨h1,h2⟩:=ai h
   cases h2
   rw [decide_eq_true_eq] at h1
   unfold Vp
   have hc: ∀ (r: List aa) (i: Int) (n: Nat) (k0 k0': Int→aa→OR') (k1 k1': aa→OR'),(∀ x,k0 x tag=k0' x tag)→k1 tag=k1' tag→ot n l (l.length: Int) i tag k0 k1=ot n l (l.length: Int) i tag k0' k1':=by
    intro r i n
    induction n generalizing i with
    | zero=>intros;rfl
    | succ n ih=>
      intro k0 k0' k1 k1' h0 h1
      unfold ot Ga
      simp only [h0,h1,ih _ k0 k0' k1 k1' h0 h1]
   rw [hc l 0 (l.length + 1) _ (fun x _=>some (.int .i64 x,[.var [.str tag]])) _ (fun _=>some (.int .i64 (-1),[.var [.str tag]])) (fun _=>rfl) rfl]
   exact YY l h1 tag (fun x=>some (.int .i64 x,[.var [.str tag]])) l 0 (l.length + 1) (At.start l) (by omega)
 · unfold afA at h;split at h
   · exact h
   · cases h
def ahq: SC:=[⟨159,_,ac0⟩]
def afB (l: List aa) (tag: aa): Br:=(.ite (decide (l.length≤100000)) (.ret (AV.bool (decide (0≤(We tag l 0)))) [.var [.str tag]]) .fail)
def afC: List AV→List Ob→Br
 | [.sh .str l, .fn 88 [.ptr 0 0]],[.var [.str tag]]=>afB l tag
 | _,_=> .fail
theorem afD: Sound Kx 86 afC:=ae (C:=ahq) (O:=O0) Tryz.func86 (by kernel_rfl) fun args objs=>by
 unfold afC;split
 · exact .inr (by kernel_rfl)
 · exact .inl rfl
def afE: Opt:={ split:=true }
def afF: SC:=[⟨49,_,jX⟩,⟨84,_,dy⟩,⟨85,_,sn⟩,⟨87,_,kF⟩,⟨80,_,Bp⟩,⟨86,_,afD⟩,⟨81,_,vN⟩]
def IS (l: List Fd) (ur: aa) (t1 t2: Int) (ak: List Fd) (me ta: aa) (st: Int) (re: aa) (ba: Bool) (fs: List Fd) (bo: aa): Br:=(.ite (isM ur) (.ite (!(Ig (ur,(t1,(t2,(ak,(me,(ta,(st,(re,(ba,(fs,bo)))))))))))) (.ret (AV.bool false) []) (.ite (!(cw l)) (.ret (AV.bool false) []) (.ite (eq l ([105,102,45,110,111,110,101,45,109,97,116,99,104]: aa)) (.ite (decide ((List.length (aN l ([105,102,45,110,111,110,101,45,109,97,116,99,104]: aa)))≤100000)) (.ret (AV.bool (decide (0≤(We (List.getD (fi fs ([101,116,97,103]: aa)) 0 ([]: aa)) (aN l ([105,102,45,110,111,110,101,45,109,97,116,99,104]: aa)) 0)))) []) .fail) (.ite (dtP l ([105,102,45,109,111,100,105,102,105,101,100,45,115,105,110,99,101]: aa)).2 (.ite (dtP fs ([108,97,115,116,45,109,111,100,105,102,105,101,100]: aa)).2 (.ret (AV.bool (decide ((dtP fs ([108,97,115,116,45,109,111,100,105,102,105,101,100]: aa)).1≤(dtP l ([105,102,45,109,111,100,105,102,105,101,100,45,115,105,110,99,101]: aa)).1))) []) (.ret (AV.bool false) [])) (.ret (AV.bool false) []))))) .fail)
def aaG: List AV→List Ob→Br
 | [.sh (.pair .str .str) l, .agg [.str ur, .int .i64 t1, .int .i64 t2, .sh (.pair .str .str) ak, .str me, .str ta, .int .i64 st, .str re, .bool ba, .sh (.pair .str .str) fs, .str bo]],[]=>IS l ur t1 t2 ak me ta st re ba fs bo
 | _,_=> .fail
theorem iUnm_ok: Sound Kx 33 aaG:=ae (C:=afF) (O:=afE) Tryz.func33 (by kernel_rfl) fun args objs=>by
 unfold aaG;split
 · exact .inr (by kernel_rfl)
 · exact .inl rfl
theorem YZ (l: List Fd) (ur: aa) (t1 t2: Int) (ak: List Fd) (me ta: aa) (st: Int) (re: aa) (ba: Bool) (fs: List Fd) (bo: aa) (h1: isM ur=true): (IS l ur t1 t2 ak me ta st re ba fs bo).val=some (.bool (acY l (ur,t1,t2,ak,me,ta,st,re,ba,fs,bo)),[]):=by
 have hw:=(fP l YW).1
 have e0: decide ((aN l YW).length≤100000)=true:=dT' (by omega)
 have e1:=Nb ((fi fs nET).getD 0 []) (aN l YW) 0 (by omega)
 unfold IS acY
 rw [h1]
 cases Ig (ur,t1,t2,ak,me,ta,st,re,ba,fs,bo)
 · rfl
 cases cw l
 · rfl
 show (Br.ite (eq l YW) (Br.ite (decide ((aN l YW).length≤100000)) (.ret (.bool (decide (0≤We ((fi fs nET).getD 0 []) (aN l YW) 0))) []) .fail) (Br.ite (dtP l afw).2 (Br.ite (dtP fs nLM).2 (.ret (.bool (decide ((dtP fs nLM).1≤(dtP l afw).1))) []) _) _)).val=_
 rw [e0,e1]
 cases eq l YW
 · cases (dtP l afw).2 <;> cases (dtP fs nLM).2 <;> rfl
 · rfl
theorem Y0: Sound Kx 33 aie:=iUnm_ok.of fun args objs r h=>by
 unfold aie at h;split at h
 · obtain ⟨h1,h2⟩:=ai h
   cases h2
   exact YZ _ _ _ _ _ _ _ _ _ _ _ _ h1
 · cases h
end
end Go.Proofs.YtgknmoadpgpdeaaGreatDoor.Ev
namespace Go.Proofs.YtgknmoadpgpdeaaGreatDoor.Ev
open Go Go.RowKit
set_option linter.unusedVariables false
set_option linter.unusedSimpArgs false
end Go.Proofs.YtgknmoadpgpdeaaGreatDoor.Ev
namespace Go.Proofs.YtgknmoadpgpdeaaGreatDoor.Ev
open Go Go.RowKit
set_option linter.unusedVariables false
set_option linter.unusedSimpArgs false
noncomputable section
def aiK: List AV→List Ob→Br
 | [.sh (.pair .str .str) l, .int .i64 k],[]=> .ite (decide (0 < k)&&decide (k + 2 * l.length≤100000000)&&decide (l=LA l.length k)) (.ret (.int .i64 (k + 2 * l.length)) []) .fail
 | _,_=> .fail
def aiL: List AV→List Ob→Br
 | [.agg [.str ur, .int .i64 t1, .int .i64 t2, .ref 0 0, .str me, .str ta, .int .i64 st, .str re, .bool ba, .ref 1 0, .str bo], .int .i64 k],[.arr (.pair .str .str) 0 false ak, .arr (.pair .str .str) 0 false fs]=>
   .ite (decide (0 < k)&&decide (k + 2 * ak.length + 2 * fs.length≤100000000)) (.ret (.int .i64 (k + 2 * ak.length + 2 * fs.length)) [.arr (.pair .str .str) 0 false (LA ak.length k), .arr (.pair .str .str) 0 false (LA fs.length (k + 2 * ak.length))]) .fail
 | _,_=> .fail
def aiM: aa:=[73,102,45,78,111,110,101,45,77,97,116,99,104]
def aiN: aa:=[73,102,45,77,111,100,105,102,105,101,100,45,83,105,110,99,101]
def aig (fs: List Fd): List Fd:=(bif eq fs nET&&PD ((fi fs nET).getD 0 []) then [(aiM,(fi fs nET).getD 0 [])] else [])++(bif (dtP fs nLM).2 then [(aiN,(fi fs nLM).getD 0 [])] else [])
def vdP (e: En): List Fd:=bif Ig e then aig e.2.2.2.2.2.2.2.2.2.1 else []
def aih: List AV→List Ob→Br
 | [.agg [.str ur, .int .i64 t1, .int .i64 t2, .sh (.pair .str .str) ak, .str me, .str ta, .int .i64 st, .str re, .bool ba, .sh (.pair .str .str) fs, .str bo]],[]=>
   .ite (isM ur) (.ret (.ref 0 0) [.arr (.pair .str .str) 0 false (vdP (ur,t1,t2,ak,me,ta,st,re,ba,fs,bo))]) .fail
 | _,_=> .fail
theorem Vs: Sound Kx 30 aih:=iVali_ok.of fun args objs r h=>by
 unfold aih at h;split at h
 case h_2=>cases h
 rename_i ur t1 t2 ak me ta st re ba fs bo
 obtain ⟨h1,h2⟩:=ai h
 cases h2
 show (Bt ur t1 t2 ak me ta st re ba fs bo).val=_
 unfold Bt vdP aig Bs oq oo
 refine (bv h1).trans ?_
 cases Ig (ur,t1,t2,ak,me,ta,st,re,ba,fs,bo)
 · rfl
 unfold nET nLM
 cases eq fs [101,116,97,103] <;> cases PD ((fi fs [101,116,97,103]).getD 0 []) <;> cases (dtP fs [108,97,115,116,45,109,111,100,105,102,105,101,100]).2 <;> kernel_rfl
end
end Go.Proofs.YtgknmoadpgpdeaaGreatDoor.Ev
namespace Go.Proofs.YtgknmoadpgpdeaaGreatDoor.Ev
open Go Go.RowKit
set_option linter.unusedVariables false
set_option linter.unusedSimpArgs false
end Go.Proofs.YtgknmoadpgpdeaaGreatDoor.Ev
namespace Go.Proofs.YtgknmoadpgpdeaaGreatDoor.Ev
open Go Go.RowKit
set_option linter.unusedVariables false
set_option linter.unusedSimpArgs false
noncomputable section
def keF: List Fd:=[([69,84,97,103],[34,116,34]),([67,97,99,104,101,45,67,111,110,116,114,111,108],[109,97,120,45,97,103,101,61,49,48])]
def keE: En:=([104,116,116,112,58,47,47,97,46,98,47],100,101,[],[],[],200,[79,75],false,keF,[111,110,101])
def keV: List Fd:=[([73,102,45,78,111,110,101,45,77,97,116,99,104],[34,116,34])]
theorem afG: bR 200=[50,48,48]:=by rw [cQ];kernel_rfl
theorem aiO: bR 3=[51]:=by rw [cQ];kernel_rfl
theorem ahr: decide (((jg [] [] 200 [79,75] false keF [111,110,101]).length: Int)≤1500)=true:=by
 have e: clP [] false [111,110,101]=[67,111,110,116,101,110,116,45,76,101,110,103,116,104,58,32]++bR 3++[13,10]:=by first | rfl | (unfold clP;rfl)
 unfold jg ep
 rw [e,afG,aiO];first | rfl | decide
theorem aiP: dc [] [] 200 [79,75] false keF [111,110,101]=true:=by
 unfold dc
 rw [ahr];kernel_rfl
theorem ac1: Ig keE=true:=by
 unfold Ig
 rw [show dc keE.2.2.2.2.1 keE.2.2.2.2.2.1 keE.2.2.2.2.2.2.1 keE.2.2.2.2.2.2.2.1 keE.2.2.2.2.2.2.2.2.1 keE.2.2.2.2.2.2.2.2.2.1 keE.2.2.2.2.2.2.2.2.2.2=true from aiP];kernel_rfl
theorem agA: vdP keE=keV:=by unfold vdP;rw [ac1];kernel_rfl
theorem aiQ: acY keV keE=true:=by unfold acY;rw [ac1];kernel_rfl
theorem aiR: mv keE []=true:=by unfold mv;rw [ac1];kernel_rfl
theorem Y1 (x sep: aa): eI [x] sep=x:=by first | rfl | simp [eI,Lib.join]
end
end Go.Proofs.YtgknmoadpgpdeaaGreatDoor.Ev
