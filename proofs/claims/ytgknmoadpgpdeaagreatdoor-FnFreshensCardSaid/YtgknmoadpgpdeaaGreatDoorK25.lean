/- The texts Tc, Td, one behind the other. -/
import Derived.Test.YtgknmoadpgpdeaaGreatDoorK20
import Derived.Test.YtgknmoadpgpdeaaGreatDoorK24
namespace Go.Proofs.YtgknmoadpgpdeaaGreatDoor.Ev
open Go Go.RowKit
set_option linter.unusedVariables false
set_option linter.unusedSimpArgs false
noncomputable section
theorem jA (a b: aa) (x: Int): cW (a++b) x=(cW a x||cW b x):=by unfold cW;rw [List.any_append]
theorem di (c: UInt8) (b: aa) (x: Int): cW (c::b) x=(decide (by8 c=x)||cW b x):=rfl
theorem Rb (x: Int): cW [] x=false:=rfl
theorem Gf {x: Int} (hx: aJ x=false): ∀ l: aa,aU aJ l=true→cW l x=false
 | [],_=>rfl
 | c::l,h=>by
   have e: aU aJ (c::l)=(aJ (by8 c)&&aU aJ l):=rfl
   rw [e,Bool.and_eq_true] at h
   rw [di,Gf hx l h.2,Bool.or_false]
   exact dF' fun g=>by rw [g,hx] at h;exact absurd h.1 (by decide)
theorem Rc: ∀ (k: Nat) (n: Int),aU aJ (bh k n)=true
 | 0,_=>rfl
 | k + 1,n=>by
   unfold bh
   rw [en,Rc k]
   show (true&&(aJ (by8 (dg n))&&true))=true
   rw [nE];rfl
theorem oS (k: Nat) (n: Int) {x: Int} (hx: aJ x=false): cW (bh k n) x=false:=Gf hx _ (Rc k n)
theorem Dh (c: Cv) {x: Int} (hx: aJ x=false) (h: x≠58): cW (aZ c) x=false:=by
 unfold aZ
 have e: decide (by8 58=x)=false:=dF' fun g=>h (by rw [← g];rfl)
 rw [jA,di,jA,di,oS 2 _ hx,oS 2 _ hx,oS 2 _ hx,e];rfl
theorem za (w: Int) {x: Int} (hx: x < 65): cW (eb w) x=false∧cW ((eb w).take 3) x=false:=by
 have key: ∀ l: aa,aU (fun n=>decide (65≤n)) l=true→cW l x=false:=by
  intro l
  induction l with
  | nil=>intro _;rfl
  | cons c l ih=>
    intro h
    have e: aU (fun n=>decide (65≤n)) (c::l)=(decide (65≤by8 c)&&aU (fun n=>decide (65≤n)) l):=rfl
    rw [e,Bool.and_eq_true,decide_eq_true_eq] at h
    rw [di,ih h.2,Bool.or_false]
    exact dF' (by omega)
 refine ⟨key _ ?_,key _ ?_⟩ <;> unfold eb <;> cases decide (w=0) <;> cases decide (w=1) <;> cases decide (w=2) <;> cases decide (w=3) <;> cases decide (w=4) <;> cases decide (w=5) <;> decide
theorem Rd {m x: Int} (h0: 1≤m) (h1: m≤12) (hx: x < 65): cW (eZ m) x=false:=by
 obtain ⟨a,b,c,e,ha,ha',hb,hc⟩:=iP h0 h1
 rw [e,di,di,di,dF' (by omega),dF' (by omega),dF' (by omega)];rfl
theorem Re {l: aa} {b: UInt8} (h: cW l (by8 b)=false) (r: aa): aB (l++b::r) (by8 b)=l:=by
 induction l with
 | nil=>unfold aB;simp
 | cons c l ih=>
   rw [di,Bool.or_eq_false_iff] at h
   have:=ih h.2
   unfold aB at this ⊢
   rw [List.cons_append,List.takeWhile_cons,h.1]
   simp [this]
theorem jB (w: Int): ((eb w).take 3).length=3:=by
 unfold eb
 cases decide (w=0) <;> cases decide (w=1) <;> cases decide (w=2) <;> cases decide (w=3) <;> cases decide (w=4) <;> cases decide (w=5) <;> rfl
theorem mz (w: Int): 6≤(eb w).length∧(eb w).length≤9:=by
 unfold eb
 cases decide (w=0) <;> cases decide (w=1) <;> cases decide (w=2) <;> cases decide (w=3) <;> cases decide (w=4) <;> cases decide (w=5) <;> decide
theorem zb {m: Int} (h0: 1≤m) (h1: m≤12): (eZ m).length=3:=by
 obtain ⟨a,b,c,e,_⟩:=iP h0 h1
 rw [e];rfl
theorem nJ (c: Cv): (aZ c).length=8:=by
 unfold aZ
 simp only [List.length_append,List.length_cons,cF]
theorem WY (d: Int): (vE d).length=2:=by
 unfold vE
 cases decide (d < 10)
 · exact cF 2 d
 · rfl
theorem WZ (w: Int) {c: Cv} (h0: 1≤c.m) (h1: c.m≤12): (lx w c).length=29:=by
 unfold lx
 simp only [List.length_append,List.length_cons,List.length_nil,cF,jB,zb h0 h1,nJ,MI]
theorem W0 (w: Int) {c: Cv} (h0: 1≤c.m) (h1: c.m≤12): (oI w c).length=24:=by
 unfold oI
 simp only [List.length_append,List.length_cons,List.length_nil,cF,jB,zb h0 h1,nJ,WY]
theorem W1 (w: Int) {c: Cv} (h0: 1≤c.m) (h1: c.m≤12): (mu w c).length=(eb w).length + 24:=by
 unfold mu
 simp only [List.length_append,List.length_cons,List.length_nil,cF,zb h0 h1,nJ,MI]
theorem Rf (n: Int): bh 2 n=bh 2 (n % 100):=by
 have e1: dg (n / 10)=dg (n % 100 / 10):=by unfold dg;rw [show n / 10 % 10=n % 100 / 10 % 10 by omega]
 have e2: dg n=dg (n % 100):=by unfold dg;rw [show n % 10=n % 100 % 10 by omega]
 show [dg (n / 10),dg n]=[dg (n % 100 / 10),dg (n % 100)]
 rw [e1,e2]
def cen (y: Int): Int:=bif decide (y + 1900 < 1970) then y + 1900 + 100 else y + 1900
def abJ (s: aa) (c: Cv): Int×Bool:=bif (lL c).2&&(decide (iq (lL c).1=s)||decide (jZ (lL c).1=s)||decide (j0 (lL c).1=s)) then ((lL c).1,true) else (0,false)
def cvI (s: aa): Cv:=
 bif cW s 44 then ⟨bif cW s 45 then cen ((bR s).getD 1 0) else (bR s).getD 1 0,Jp (s.drop (aB s 44).length),(bR s).getD 0 0,(bR s).getD 2 0,(bR s).getD 3 0,(bR s).getD 4 0⟩
 else ⟨(bR s).getD 4 0,Jp (s.drop 3),(bR s).getD 0 0,(bR s).getD 1 0,(bR s).getD 2 0,(bR s).getD 3 0⟩
def rdI (s: aa): Int×Bool:=bif decide (6≤s.length)&&decide (s.length≤40)&&decide ((bR s).length=5) then abJ s (cvI s) else (0,false)
theorem cY {c: Cv} (h: dJ c=true): (1970≤c.y∧c.y≤9999)∧(1≤c.m∧c.m≤12)∧(1≤c.d∧c.d≤31)∧(0≤c.h∧c.h≤23)∧(0≤c.i∧c.i≤59)∧(0≤c.s∧c.s≤59):=by
 unfold dJ at h
 simp only [Bool.and_eq_true,decide_eq_true_eq] at h
 have:=oF c.y c.m
 omega
theorem Di (w: Int) {c: Cv} (h: dJ c=true): bR (lx w c)=[c.d,c.y,c.h,c.i,c.s]:=by
 obtain ⟨hy,hm,hd,_⟩:=cY h
 unfold bR lx
 simp only [List.append_assoc]
 rw [eS _ _ (CR w),eS [44,32] _ (by decide),jw _ (by omega) (by omega),List.cons_append,gc (by decide),cj (by decide),eS _ _ (yX hm.1 hm.2),
  List.cons_append,cj (by decide),CQ _ (by omega) (by omega),List.cons_append,gc (by decide),cj (by decide),oJ c h]
 rfl
theorem Dj (w: Int) {c: Cv} (h: dJ c=true): bR (mu w c)=[c.d,c.y % 100,c.h,c.i,c.s]:=by
 obtain ⟨hy,hm,hd,_⟩:=cY h
 unfold bR mu
 simp only [List.append_assoc]
 rw [Rf c.y,eS _ _ (WL w),eS [44,32] _ (by decide),jw _ (by omega) (by omega),List.cons_append,gc (by decide),cj (by decide),eS _ _ (yX hm.1 hm.2),
  List.cons_append,cj (by decide),jw _ (by omega) (by omega),List.cons_append,gc (by decide),cj (by decide),oJ c h]
 rfl
theorem Dk (w: Int) {c: Cv} (h: dJ c=true): bR (oI w c)=[c.d,c.h,c.i,c.s,c.y]:=by
 obtain ⟨hy,hm,hd,_⟩:=cY h
 unfold bR oI
 simp only [List.append_assoc]
 have hL: ∀ r,e8 none (vE c.d++32::r)=c.d::e8 none r:=fun r=>by
  unfold vE
  cases g: decide (c.d < 10)
  · rw [cond_false,jw _ (by omega) (by omega),gc (by decide),cj (by decide)]
  · have:=of_decide_eq_true g
    show e8 none (32::dg c.d::32::r)=_
    rw [cj (by decide),WK _ (by omega) (by omega),gc (by decide),cj (by decide)]
 rw [eS _ _ (CR w),List.cons_append,cj (by decide),eS _ _ (yX hm.1 hm.2),List.cons_append,cj (by decide),List.cons_append,hL,oJ c h,gc (by decide),cj (by decide)]
 have:=CQ c.y (by omega) (by omega) []
 rw [List.append_nil] at this
 rw [this];rfl
theorem xf (c: Cv) (l: aa) (hl: aU (fun n=>decide (n < 65)) l=true): FZ (l++(aZ c++MI)):=ua hl (ua (CS c) QD)
theorem W2 (w: Int) {c: Cv} (h: dJ c=true): cvI (lx w c)=c:=by
 obtain ⟨hy,hm,hd,_⟩:=cY h
 have hs: lx w c=(eb w).take 3++44::((32::bh 2 c.d++[32])++(eZ c.m++((32::bh 4 c.y++[32])++(aZ c++MI)))):=by unfold lx;simp
 have h44: cW (lx w c) 44=true:=by rw [hs,jA,di,show decide (by8 44=44)=true from rfl];simp
 have h45: cW (lx w c) 45=false:=by
  unfold lx
  simp only [jA,di,Rb,(za w (show (45 : Int) < 65 by decide)).2,oS _ _ (show aJ 45=false by decide),Rd hm.1 hm.2 (show (45 : Int) < 65 by decide),Dh c (show aJ 45=false by decide) (by decide),MI]
  decide
 have hu: aB (lx w c) 44=(eb w).take 3:=by rw [hs];exact Re (b:=44) (za w (by decide)).2 _
 have hmo: Jp ((lx w c).drop (aB (lx w c) 44).length)=c.m:=by
  rw [hu]
  conv=>lhs;rw [hs]
  rw [List.drop_left]
  refine F1 (l:=44::(32::bh 2 c.d++[32])) hm.1 hm.2 ?_ (xf c _ ?_)
  · show (true&&(true&&aU (fun n=>decide (n < 65)) (bh 2 c.d++[32])))=true
    rw [en,ir];rfl
  · show (true&&aU (fun n=>decide (n < 65)) (bh 4 c.y++[32]))=true
    rw [en,ir];rfl
 unfold cvI
 rw [h44,h45,hmo,Di w h]
 rfl
theorem W3 (w: Int) {c: Cv} (h: dJ c=true) (h69: c.y≤2069): cvI (mu w c)=c:=by
 obtain ⟨hy,hm,hd,_⟩:=cY h
 have hs: mu w c=eb w++44::((32::bh 2 c.d++[45])++(eZ c.m++((45::bh 2 c.y++[32])++(aZ c++MI)))):=by unfold mu;simp
 have h44: cW (mu w c) 44=true:=by rw [hs,jA,di,show decide (by8 44=44)=true from rfl];simp
 have h45: cW (mu w c) 45=true:=by
  rw [hs,jA,di,jA,jA,di,show cW [45] 45=true from rfl];simp
 have hu: aB (mu w c) 44=eb w:=by rw [hs];exact Re (b:=44) (za w (by decide)).1 _
 have hmo: Jp ((mu w c).drop (aB (mu w c) 44).length)=c.m:=by
  rw [hu]
  conv=>lhs;rw [hs]
  rw [List.drop_left]
  refine F1 (l:=44::(32::bh 2 c.d++[45])) hm.1 hm.2 ?_ (xf c _ ?_)
  · show (true&&(true&&aU (fun n=>decide (n < 65)) (bh 2 c.d++[45])))=true
    rw [en,ir];rfl
  · show (true&&aU (fun n=>decide (n < 65)) (bh 2 c.y++[32]))=true
    rw [en,ir];rfl
 have hc: cen (c.y % 100)=c.y:=by
  unfold cen
  cases g: decide (c.y % 100 + 1900 < 1970)
  · have:=of_decide_eq_false g;rw [cond_false];omega
  · have:=of_decide_eq_true g;rw [cond_true];omega
 unfold cvI
 rw [h44,h45,hmo,Dj w h]
 show Cv.mk (cen (c.y % 100)) c.m c.d c.h c.i c.s=c
 rw [hc]
theorem W4 (w: Int) {c: Cv} (h: dJ c=true): cvI (oI w c)=c:=by
 obtain ⟨hy,hm,hd,_⟩:=cY h
 have hs: oI w c=(eb w).take 3++([32]++(eZ c.m++((32::vE c.d++32::aZ c++32::bh 4 c.y)++[]))):=by unfold oI;simp
 have hdl: ∀ x: Int,x < 65→aJ x=false→x≠32→cW (vE c.d) x=false:=fun x hx hx2 hx3=>by
  unfold vE
  cases decide (c.d < 10)
  · exact oS 2 _ hx2
  · rw [cond_true,di,Gf hx2 [dg c.d] (by show (aJ (by8 (dg c.d))&&true)=true;rw [nE];rfl),Bool.or_false]
    exact dF' fun g=>hx3 (by rw [← g];rfl)
 have h44: cW (oI w c) 44=false:=by
  unfold oI
  simp only [jA,di,Rb,(za w (show (44 : Int) < 65 by decide)).2,oS _ _ (show aJ 44=false by decide),Rd hm.1 hm.2 (show (44 : Int) < 65 by decide),Dh c (show aJ 44=false by decide) (by decide),hdl 44 (by decide) (by decide) (by decide)]
  decide
 have hdlow: aU (fun n=>decide (n < 65)) (vE c.d)=true:=by
  unfold vE
  cases decide (c.d < 10)
  · exact ir 2 _
  · show (true&&(decide (by8 (dg c.d) < 65)&&true))=true
    rw [lM,dT' (by omega)];rfl
 have hmo: Jp ((oI w c).drop 3)=c.m:=by
  rw [hs,List.drop_left' (jB w)]
  refine F1 (l:=[32]) hm.1 hm.2 (by decide) (ua ?_ QE)
  show (true&&aU (fun n=>decide (n < 65)) (vE c.d++32::aZ c++32::bh 4 c.y))=true
  rw [en,en,hdlow]
  show (true&&(true&&(true&&aU (fun n=>decide (n < 65)) (aZ c))&&(true&&aU (fun n=>decide (n < 65)) (bh 4 c.y))))=true
  rw [CS,ir];rfl
 unfold cvI
 rw [h44,hmo,Dk w h]
 rfl
theorem abK {s: aa} {t: Int} (hf: MJ s t): abJ s (oG t)=(t,true):=by
 obtain ⟨ht,h0,h⟩:=hf
 obtain ⟨g1,g2⟩:=CP ht
 unfold abJ lL
 rw [g1,cond_true,g2]
 have: (decide (iq t=s)||decide (jZ t=s)||decide (j0 t=s))=true:=by
  rcases h with h | h | h
  · rw [dT' h];rfl
  · rw [dT' h];simp
  · rw [dT' h];simp
 rw [this];rfl
theorem W5 (s: aa) (t: Int) (hf: MJ s t): rdI s=(t,true):=by
 have hfin:=abK hf
 obtain ⟨ht,h0,h⟩:=hf
 obtain ⟨g1,g2⟩:=CP ht
 obtain ⟨hy,hm,hd,_⟩:=cY g1
 unfold rdI
 rcases h with h | h | h
 · unfold iq at h;rw [ht,cond_true] at h
   subst h
   rw [WZ _ hm.1 hm.2,Di _ g1,W2 _ g1,hfin];rfl
 · unfold jZ at h
   cases c: decide ((oG t).y≤2069)
   · rw [c,Bool.and_false,cond_false] at h;exact absurd h.symm h0
   · rw [ht,c] at h
     subst h
     have:=mz (wdP t)
     simp only [Bool.and_self,cond_true] at hfin ⊢
     rw [W1 _ hm.1 hm.2,Dj _ g1,W3 _ g1 (of_decide_eq_true c),hfin,dT' (show 6≤(eb (wdP t)).length + 24 by omega),dT' (show (eb (wdP t)).length + 24≤40 by omega)];rfl
 · unfold j0 at h;rw [ht,cond_true] at h
   subst h
   rw [W0 _ hm.1 hm.2,Dk _ g1,W4 _ g1,hfin];rfl
theorem W6 (s: aa) (h: ∀ t,¬ MJ s t): rdI s=(0,false):=by
 unfold rdI
 cases c: decide (6≤s.length)&&decide (s.length≤40)&&decide ((bR s).length=5)
 · rfl
 simp only [Bool.and_eq_true,decide_eq_true_eq] at c
 rw [cond_true]
 unfold abJ
 cases d: (lL (cvI s)).2&&(decide (iq (lL (cvI s)).1=s)||decide (jZ (lL (cvI s)).1=s)||decide (j0 (lL (cvI s)).1=s))
 · rfl
 simp only [Bool.and_eq_true,Bool.or_eq_true,decide_eq_true_eq] at d
 obtain ⟨d1,d2⟩:=d
 unfold lL at d1 d2
 cases e: dJ (cvI s)
 · rw [e] at d1;cases d1
 · rw [e,cond_true] at d2
   refine absurd ⟨(aed e).1,?_,?_⟩ (h (Vz (cvI s)))
   · intro hs;rw [hs] at c;exact absurd c.1.1 (by decide)
   · rcases d2 with (d2 | d2) | d2
     · exact .inl d2
     · exact .inr (.inl d2)
     · exact .inr (.inr d2)
theorem Zz (s: aa): rdI s=q9 s:=WJ W5 W6 s
def agP (n: Int): Bool:=decide (n=32)||aJ n
def abL (v: Int) (c: UInt8): Int:=bif decide (by8 c=32) then v * 10 else v * 10 + (by8 c - 48)
def ah4 (l: aa) (v: Int): Int:=l.foldl abL v
def W7 (l: aa): Int:=bif aU agP l then ah4 l 0 else -1
def cvS (y m d: Int) (k: aa): Cv:=⟨y,m,d,W7 (cut k 0 2),W7 (cut k 3 5),W7 (cut k 6 8)⟩
def atS (y m d: Int) (k: aa): Int:=bif dJ (cvS y m d k) then Vz (cvS y m d k) else -1
end
end Go.Proofs.YtgknmoadpgpdeaaGreatDoor.Ev
