/- The texts Tc, Td, one behind the other. -/
import Derived.Test.YtgknmoadpgpdeaaGreatDoorK20
import Derived.Test.YtgknmoadpgpdeaaGreatDoorK24
namespace Go.Proofs.YtgknmoadpgpdeaaGreatDoor.Ev
open Go Go.RowKit
set_option linter.unusedVariables false
set_option linter.unusedSimpArgs false
noncomputable section
theorem ij (a b: aa) (x: Int): cE (a++b) x=(cE a x||cE b x):=by unfold cE;rw [List.any_append]
theorem cL (c: UInt8) (b: aa) (x: Int): cE (c::b) x=(decide (by8 c=x)||cE b x):=rfl
theorem OH (x: Int): cE [] x=false:=rfl
theorem DO {x: Int} (hx: am x=false): ∀ l: aa,aH am l=true→cE l x=false
 | [],_=>rfl
 | c::l,h=>by
   have e: aH am (c::l)=(am (by8 c)&&aH am l):=rfl
   rw [e,Bool.and_eq_true] at h
   rw [cL,DO hx l h.2,Bool.or_false]
   exact dF' fun g=>by rw [g,hx] at h;exact absurd h.1 (by decide)
theorem OI: ∀ (k: Nat) (n: Int),aH am (aJ k n)=true
 | 0,_=>rfl
 | k + 1,n=>by
   unfold aJ
   rw [dq,OI k]
   show (true&&(am (by8 (dg n))&&true))=true
   rw [eP];rfl
theorem nd (k: Nat) (n: Int) {x: Int} (hx: am x=false): cE (aJ k n) x=false:=DO hx _ (OI k n)
theorem AW (c: Cv) {x: Int} (hx: am x=false) (h: x≠58): cE (ap c) x=false:=by
 unfold ap
 have e: decide (by8 58=x)=false:=dF' fun g=>h (by rw [← g];rfl)
 rw [ij,cL,ij,cL,nd 2 _ hx,nd 2 _ hx,nd 2 _ hx,e];rfl
theorem wP (w: Int) {x: Int} (hx: x < 65): cE (cP w) x=false∧cE ((cP w).take 3) x=false:=by
 have key: ∀ l: aa,aH (fun n=>decide (65≤n)) l=true→cE l x=false:=by
  intro l
  induction l with
  | nil=>intro _;rfl
  | cons c l ih=>
    intro h
    have e: aH (fun n=>decide (65≤n)) (c::l)=(decide (65≤by8 c)&&aH (fun n=>decide (65≤n)) l):=rfl
    rw [e,Bool.and_eq_true,decide_eq_true_eq] at h
    rw [cL,ih h.2,Bool.or_false]
    exact dF' (by omega)
 refine ⟨key _ ?_,key _ ?_⟩ <;> unfold cP <;> cases decide (w=0) <;> cases decide (w=1) <;> cases decide (w=2) <;> cases decide (w=3) <;> cases decide (w=4) <;> cases decide (w=5) <;> decide
theorem OJ {m x: Int} (h0: 1≤m) (h1: m≤12) (hx: x < 65): cE (cw m) x=false:=by
 obtain ⟨a,b,c,e,ha,ha',hb,hc⟩:=gu h0 h1
 rw [e,cL,cL,cL,dF' (by omega),dF' (by omega),dF' (by omega)];rfl
theorem OK {l: aa} {b: UInt8} (h: cE l (by8 b)=false) (r: aa): aq (l++b::r) (by8 b)=l:=by
 induction l with
 | nil=>unfold aq;simp
 | cons c l ih=>
   rw [cL,Bool.or_eq_false_iff] at h
   have:=ih h.2
   unfold aq at this ⊢
   rw [List.cons_append,List.takeWhile_cons,h.1]
   simp [this]
theorem eZ (w: Int): ((cP w).take 3).length=3:=by
 unfold cP
 cases decide (w=0) <;> cases decide (w=1) <;> cases decide (w=2) <;> cases decide (w=3) <;> cases decide (w=4) <;> cases decide (w=5) <;> rfl
theorem iV (w: Int): 6≤(cP w).length∧(cP w).length≤9:=by
 unfold cP
 cases decide (w=0) <;> cases decide (w=1) <;> cases decide (w=2) <;> cases decide (w=3) <;> cases decide (w=4) <;> cases decide (w=5) <;> decide
theorem ky {m: Int} (h0: 1≤m) (h1: m≤12): (cw m).length=3:=by
 obtain ⟨a,b,c,e,_⟩:=gu h0 h1
 rw [e];rfl
theorem eG (c: Cv): (ap c).length=8:=by
 unfold ap
 simp only [List.length_append,List.length_cons,aW]
theorem pw (d: Int): (mU d).length=2:=by
 unfold mU
 cases decide (d < 10)
 · exact aW 2 d
 · rfl
theorem Hw (w: Int) {c: Cv} (h0: 1≤c.m) (h1: c.m≤12): (eJ w c).length=29:=by
 unfold eJ
 simp only [List.length_append,List.length_cons,List.length_nil,aW,eZ,ky h0 h1,eG,pp]
theorem Hx (w: Int) {c: Cv} (h0: 1≤c.m) (h1: c.m≤12): (fH w c).length=24:=by
 unfold fH
 simp only [List.length_append,List.length_cons,List.length_nil,aW,eZ,ky h0 h1,eG,pw]
theorem wQ (w: Int) {c: Cv} (h0: 1≤c.m) (h1: c.m≤12): (f5 w c).length=(cP w).length + 24:=by
 unfold f5
 simp only [List.length_append,List.length_cons,List.length_nil,aW,ky h0 h1,eG,pp]
theorem DP (n: Int): aJ 2 n=aJ 2 (n % 100):=by
 have e1: dg (n / 10)=dg (n % 100 / 10):=by unfold dg;rw [show n / 10 % 10=n % 100 / 10 % 10 by omega]
 have e2: dg n=dg (n % 100):=by unfold dg;rw [show n % 10=n % 100 % 10 by omega]
 show [dg (n / 10),dg n]=[dg (n % 100 / 10),dg (n % 100)]
 rw [e1,e2]
def cen (y: Int): Int:=bif decide (y + 1900 < 1970) then y + 1900 + 100 else y + 1900
def XU (s: aa) (c: Cv): Int×Bool:=bif (iG c).2&&(decide (dO (iG c).1=s)||decide (dP (iG c).1=s)||decide (eF (iG c).1=s)) then ((iG c).1,true) else (0,false)
def cvI (s: aa): Cv:=
 bif cE s 44 then ⟨bif cE s 45 then cen ((bN s).getD 1 0) else (bN s).getD 1 0,G7 (s.drop (aq s 44).length),(bN s).getD 0 0,(bN s).getD 2 0,(bN s).getD 3 0,(bN s).getD 4 0⟩
 else ⟨(bN s).getD 4 0,G7 (s.drop 3),(bN s).getD 0 0,(bN s).getD 1 0,(bN s).getD 2 0,(bN s).getD 3 0⟩
def rdI (s: aa): Int×Bool:=bif decide (6≤s.length)&&decide (s.length≤40)&&decide ((bN s).length=5) then XU s (cvI s) else (0,false)
theorem bG {c: Cv} (h: ce c=true): (1970≤c.y∧c.y≤9999)∧(1≤c.m∧c.m≤12)∧(1≤c.d∧c.d≤31)∧(0≤c.h∧c.h≤23)∧(0≤c.i∧c.i≤59)∧(0≤c.s∧c.s≤59):=by
 unfold ce at h
 simp only [Bool.and_eq_true,decide_eq_true_eq] at h
 have:=kq c.y c.m
 omega
theorem AX (w: Int) {c: Cv} (h: ce c=true): bN (eJ w c)=[c.d,c.y,c.h,c.i,c.s]:=by
 obtain ⟨hy,hm,hd,_⟩:=bG h
 unfold bN eJ
 simp only [List.append_assoc]
 rw [dQ _ _ (Av w),dQ [44,32] _ (by decide),ie _ (by omega) (by omega),List.cons_append,eX (by decide),ca (by decide),dQ _ _ (wC hm.1 hm.2),
  List.cons_append,ca (by decide),Au _ (by omega) (by omega),List.cons_append,eX (by decide),ca (by decide),mV c h]
 rfl
theorem AY (w: Int) {c: Cv} (h: ce c=true): bN (f5 w c)=[c.d,c.y % 100,c.h,c.i,c.s]:=by
 obtain ⟨hy,hm,hd,_⟩:=bG h
 unfold bN f5
 simp only [List.append_assoc]
 rw [DP c.y,dQ _ _ (Td w),dQ [44,32] _ (by decide),ie _ (by omega) (by omega),List.cons_append,eX (by decide),ca (by decide),dQ _ _ (wC hm.1 hm.2),
  List.cons_append,ca (by decide),ie _ (by omega) (by omega),List.cons_append,eX (by decide),ca (by decide),mV c h]
 rfl
theorem AZ (w: Int) {c: Cv} (h: ce c=true): bN (fH w c)=[c.d,c.h,c.i,c.s,c.y]:=by
 obtain ⟨hy,hm,hd,_⟩:=bG h
 unfold bN fH
 simp only [List.append_assoc]
 have hL: ∀ r,dX none (mU c.d++32::r)=c.d::dX none r:=fun r=>by
  unfold mU
  cases g: decide (c.d < 10)
  · rw [cond_false,ie _ (by omega) (by omega),eX (by decide),ca (by decide)]
  · have:=of_decide_eq_true g
    show dX none (32::dg c.d::32::r)=_
    rw [ca (by decide),Tc _ (by omega) (by omega),eX (by decide),ca (by decide)]
 rw [dQ _ _ (Av w),List.cons_append,ca (by decide),dQ _ _ (wC hm.1 hm.2),List.cons_append,ca (by decide),List.cons_append,hL,mV c h,eX (by decide),ca (by decide)]
 have:=Au c.y (by omega) (by omega) []
 rw [List.append_nil] at this
 rw [this];rfl
theorem uN (c: Cv) (l: aa) (hl: aH (fun n=>decide (n < 65)) l=true): Dy (l++(ap c++pp)):=rx hl (rx (Aw c) N0)
theorem Tq (w: Int) {c: Cv} (h: ce c=true): cvI (eJ w c)=c:=by
 obtain ⟨hy,hm,hd,_⟩:=bG h
 have hs: eJ w c=(cP w).take 3++44::((32::aJ 2 c.d++[32])++(cw c.m++((32::aJ 4 c.y++[32])++(ap c++pp)))):=by unfold eJ;simp
 have h44: cE (eJ w c) 44=true:=by rw [hs,ij,cL,show decide (by8 44=44)=true from rfl];simp
 have h45: cE (eJ w c) 45=false:=by
  unfold eJ
  simp only [ij,cL,OH,(wP w (show (45 : Int) < 65 by decide)).2,nd _ _ (show am 45=false by decide),OJ hm.1 hm.2 (show (45 : Int) < 65 by decide),AW c (show am 45=false by decide) (by decide),pp]
  decide
 have hu: aq (eJ w c) 44=(cP w).take 3:=by rw [hs];exact OK (b:=44) (wP w (by decide)).2 _
 have hmo: G7 ((eJ w c).drop (aq (eJ w c) 44).length)=c.m:=by
  rw [hu]
  conv=>lhs;rw [hs]
  rw [List.drop_left]
  refine Dz (l:=44::(32::aJ 2 c.d++[32])) hm.1 hm.2 ?_ (uN c _ ?_)
  · show (true&&(true&&aH (fun n=>decide (n < 65)) (aJ 2 c.d++[32])))=true
    rw [dq,f7];rfl
  · show (true&&aH (fun n=>decide (n < 65)) (aJ 4 c.y++[32]))=true
    rw [dq,f7];rfl
 unfold cvI
 rw [h44,h45,hmo,AX w h]
 rfl
theorem Ts (w: Int) {c: Cv} (h: ce c=true) (h69: c.y≤2069): cvI (f5 w c)=c:=by
 obtain ⟨hy,hm,hd,_⟩:=bG h
 have hs: f5 w c=cP w++44::((32::aJ 2 c.d++[45])++(cw c.m++((45::aJ 2 c.y++[32])++(ap c++pp)))):=by unfold f5;simp
 have h44: cE (f5 w c) 44=true:=by rw [hs,ij,cL,show decide (by8 44=44)=true from rfl];simp
 have h45: cE (f5 w c) 45=true:=by
  rw [hs,ij,cL,ij,ij,cL,show cE [45] 45=true from rfl];simp
 have hu: aq (f5 w c) 44=cP w:=by rw [hs];exact OK (b:=44) (wP w (by decide)).1 _
 have hmo: G7 ((f5 w c).drop (aq (f5 w c) 44).length)=c.m:=by
  rw [hu]
  conv=>lhs;rw [hs]
  rw [List.drop_left]
  refine Dz (l:=44::(32::aJ 2 c.d++[45])) hm.1 hm.2 ?_ (uN c _ ?_)
  · show (true&&(true&&aH (fun n=>decide (n < 65)) (aJ 2 c.d++[45])))=true
    rw [dq,f7];rfl
  · show (true&&aH (fun n=>decide (n < 65)) (aJ 2 c.y++[32]))=true
    rw [dq,f7];rfl
 have hc: cen (c.y % 100)=c.y:=by
  unfold cen
  cases g: decide (c.y % 100 + 1900 < 1970)
  · have:=of_decide_eq_false g;rw [cond_false];omega
  · have:=of_decide_eq_true g;rw [cond_true];omega
 unfold cvI
 rw [h44,h45,hmo,AY w h]
 show Cv.mk (cen (c.y % 100)) c.m c.d c.h c.i c.s=c
 rw [hc]
theorem Tt (w: Int) {c: Cv} (h: ce c=true): cvI (fH w c)=c:=by
 obtain ⟨hy,hm,hd,_⟩:=bG h
 have hs: fH w c=(cP w).take 3++([32]++(cw c.m++((32::mU c.d++32::ap c++32::aJ 4 c.y)++[]))):=by unfold fH;simp
 have hdl: ∀ x: Int,x < 65→am x=false→x≠32→cE (mU c.d) x=false:=fun x hx hx2 hx3=>by
  unfold mU
  cases decide (c.d < 10)
  · exact nd 2 _ hx2
  · rw [cond_true,cL,DO hx2 [dg c.d] (by show (am (by8 (dg c.d))&&true)=true;rw [eP];rfl),Bool.or_false]
    exact dF' fun g=>hx3 (by rw [← g];rfl)
 have h44: cE (fH w c) 44=false:=by
  unfold fH
  simp only [ij,cL,OH,(wP w (show (44 : Int) < 65 by decide)).2,nd _ _ (show am 44=false by decide),OJ hm.1 hm.2 (show (44 : Int) < 65 by decide),AW c (show am 44=false by decide) (by decide),hdl 44 (by decide) (by decide) (by decide)]
  decide
 have hdlow: aH (fun n=>decide (n < 65)) (mU c.d)=true:=by
  unfold mU
  cases decide (c.d < 10)
  · exact f7 2 _
  · show (true&&(decide (by8 (dg c.d) < 65)&&true))=true
    rw [eE,dT' (by omega)];rfl
 have hmo: G7 ((fH w c).drop 3)=c.m:=by
  rw [hs,List.drop_left' (eZ w)]
  refine Dz (l:=[32]) hm.1 hm.2 (by decide) (rx ?_ N1)
  show (true&&aH (fun n=>decide (n < 65)) (mU c.d++32::ap c++32::aJ 4 c.y))=true
  rw [dq,dq,hdlow]
  show (true&&(true&&(true&&aH (fun n=>decide (n < 65)) (ap c))&&(true&&aH (fun n=>decide (n < 65)) (aJ 4 c.y))))=true
  rw [Aw,f7];rfl
 unfold cvI
 rw [h44,hmo,AZ w h]
 rfl
theorem XV {s: aa} {t: Int} (hf: As s t): XU s (mv t)=(t,true):=by
 obtain ⟨ht,h0,h⟩:=hf
 obtain ⟨g1,g2⟩:=uB ht
 unfold XU iG
 rw [g1,cond_true,g2]
 have: (decide (dO t=s)||decide (dP t=s)||decide (eF t=s))=true:=by
  rcases h with h | h | h
  · rw [dT' h];rfl
  · rw [dT' h];simp
  · rw [dT' h];simp
 rw [this];rfl
theorem Tu (s: aa) (t: Int) (hf: As s t): rdI s=(t,true):=by
 have hfin:=XV hf
 obtain ⟨ht,h0,h⟩:=hf
 obtain ⟨g1,g2⟩:=uB ht
 obtain ⟨hy,hm,hd,_⟩:=bG g1
 unfold rdI
 rcases h with h | h | h
 · unfold dO at h;rw [ht,cond_true] at h
   subst h
   rw [Hw _ hm.1 hm.2,AX _ g1,Tq _ g1,hfin];rfl
 · unfold dP at h
   cases c: decide ((mv t).y≤2069)
   · rw [c,Bool.and_false,cond_false] at h;exact absurd h.symm h0
   · rw [ht,c] at h
     subst h
     have:=iV (wdP t)
     simp only [Bool.and_self,cond_true] at hfin ⊢
     rw [wQ _ hm.1 hm.2,AY _ g1,Ts _ g1 (of_decide_eq_true c),hfin,dT' (show 6≤(cP (wdP t)).length + 24 by omega),dT' (show (cP (wdP t)).length + 24≤40 by omega)];rfl
 · unfold eF at h;rw [ht,cond_true] at h
   subst h
   rw [Hx _ hm.1 hm.2,AZ _ g1,Tt _ g1,hfin];rfl
theorem Tv (s: aa) (h: ∀ t,¬ As s t): rdI s=(0,false):=by
 unfold rdI
 cases c: decide (6≤s.length)&&decide (s.length≤40)&&decide ((bN s).length=5)
 · rfl
 simp only [Bool.and_eq_true,decide_eq_true_eq] at c
 rw [cond_true]
 unfold XU
 cases d: (iG (cvI s)).2&&(decide (dO (iG (cvI s)).1=s)||decide (dP (iG (cvI s)).1=s)||decide (eF (iG (cvI s)).1=s))
 · rfl
 simp only [Bool.and_eq_true,Bool.or_eq_true,decide_eq_true_eq] at d
 obtain ⟨d1,d2⟩:=d
 unfold iG at d1 d2
 cases e: ce (cvI s)
 · rw [e] at d1;cases d1
 · rw [e,cond_true] at d2
   refine absurd ⟨(aao e).1,?_,?_⟩ (h (Ar (cvI s)))
   · intro hs;rw [hs] at c;exact absurd c.1.1 (by decide)
   · rcases d2 with (d2 | d2) | d2
     · exact .inl d2
     · exact .inr (.inl d2)
     · exact .inr (.inr d2)
theorem VR (s: aa): rdI s=jK s:=G5 Tu Tv s
def ik (n: Int): Bool:=decide (n=32)||am n
def cB (v: Int) (c: UInt8): Int:=bif decide (by8 c=32) then v * 10 else v * 10 + (by8 c - 48)
def Zf (l: aa) (v: Int): Int:=l.foldl cB v
def dI (l: aa): Int:=bif aH ik l then Zf l 0 else -1
def DQ (s: aa): Int:=
 bif decide (cw 1=s) then 1 else bif decide (cw 2=s) then 2 else bif decide (cw 3=s) then 3 else bif decide (cw 4=s) then 4 else bif decide (cw 5=s) then 5 else bif decide (cw 6=s) then 6
 else bif decide (cw 7=s) then 7 else bif decide (cw 8=s) then 8 else bif decide (cw 9=s) then 9 else bif decide (cw 10=s) then 10 else bif decide (cw 11=s) then 11 else bif decide (cw 12=s) then 12 else -1
def cvS (y m d: Int) (k: aa): Cv:=⟨y,m,d,dI (cut k 0 2),dI (cut k 3 5),dI (cut k 6 8)⟩
def atS (y m d: Int) (k: aa): Int:=bif ce (cvS y m d k) then Ar (cvS y m d k) else -1
def t1S (s: aa): Int:=atS (dI (cut s 12 16)) (DQ (cut s 8 11)) (dI (cut s 5 7)) (cut s 17 25)
def t2S (s: aa): Int:=atS (dI (cut s 20 24)) (DQ (cut s 4 7)) (dI (cut s 8 10)) (cut s 11 19)
def XW (y: Int): Int:=bif decide (70≤y) then y + 1900 else y + 2000
def t3S (r: aa): Int:=atS (XW (dI (cut r 7 9))) (DQ (cut r 3 6)) (dI (cut r 0 2)) (cut r 10 18)
def rdS (s: aa): Int×Bool:=
 bif decide (s.length=29)&&decide (dO (t1S s)=s) then (t1S s,true)
 else bif decide (s.length=24)&&decide (eF (t2S s)=s) then (t2S s,true)
 else bif (decide (30≤s.length)&&decide (s.length≤33))&&decide (dP (t3S (s.drop (s.length - 22)))=s) then (t3S (s.drop (s.length - 22)),true)
 else (0,false)
theorem il (n: Int) (h0: 0≤n) (h1: n≤99): dI (aJ 2 n)=n:=by
 have e: aH ik (aJ 2 n)=true:=by
  show ((decide (by8 (dg (n / 10))=32)||am (by8 (dg (n / 10))))&&((decide (by8 (dg n)=32)||am (by8 (dg n)))&&true))=true
  rw [eP,eP];simp
 unfold dI
 rw [e,cond_true]
 show cB (cB 0 (dg (n / 10))) (dg n)=n
 unfold cB
 rw [eE,eE,dF' (by omega),dF' (by omega)]
 simp only [cond_false];omega
theorem Hy (n: Int) (h0: 0≤n) (h1: n≤9999): dI (aJ 4 n)=n:=by
 have e: aH ik (aJ 4 n)=true:=by
  show ((decide (by8 (dg (n / 10 / 10 / 10))=32)||am (by8 (dg (n / 10 / 10 / 10))))&&((decide (by8 (dg (n / 10 / 10))=32)||am (by8 (dg (n / 10 / 10))))&&((decide (by8 (dg (n / 10))=32)||am (by8 (dg (n / 10))))&&((decide (by8 (dg n)=32)||am (by8 (dg n)))&&true))))=true
  rw [eP,eP,eP,eP];simp
 unfold dI
 rw [e,cond_true]
 show cB (cB (cB (cB 0 (dg (n / 10 / 10 / 10))) (dg (n / 10 / 10))) (dg (n / 10))) (dg n)=n
 unfold cB
 rw [eE,eE,eE,eE,dF' (by omega),dF' (by omega),dF' (by omega),dF' (by omega)]
 simp only [cond_false];omega
theorem OL (n: Int) (h0: 1≤n) (h1: n≤31): dI (mU n)=n:=by
 unfold mU
 cases c: decide (n < 10)
 · exact il n (by omega) (by omega)
 · have:=of_decide_eq_true c
   rw [cond_true]
   have e: aH ik [32,dg n]=true:=by
    show ((decide (by8 32=32)||am (by8 32))&&((decide (by8 (dg n)=32)||am (by8 (dg n)))&&true))=true
    rw [eP,show decide (by8 32=32)=true from rfl];simp
   unfold dI
   rw [e,cond_true]
   show cB (cB 0 32) (dg n)=n
   unfold cB
   rw [eE,dF' (show ¬ 48 + n % 10=32 by omega),show decide (by8 32=32)=true from rfl]
   simp only [cond_false,cond_true];omega
theorem wR {m: Int} (h0: 1≤m) (h1: m≤12): DQ (cw m)=m:=by
 rcases dR h0 h1 with g | g | g | g | g | g | g | g | g | g | g | g <;> subst g <;> decide
theorem wT {c: Cv} (h: ce c=true): atS c.y c.m c.d (ap c)=Ar c:=by
 obtain ⟨hy,hm,hd,hh,hi,hs⟩:=bG h
 have e1: cut (ap c) 0 2=aJ 2 c.h:=d8 (p:=[]) (r:=58::aJ 2 c.i++58::aJ 2 c.s) (by unfold ap;simp) rfl (by rw [aW];rfl)
 have e2: cut (ap c) 3 5=aJ 2 c.i:=d8 (p:=aJ 2 c.h++[58]) (r:=58::aJ 2 c.s) (by unfold ap;simp) (by simp [aW]) (by rw [aW];rfl)
 have e3: cut (ap c) 6 8=aJ 2 c.s:=d8 (p:=aJ 2 c.h++58::aJ 2 c.i++[58]) (r:=[]) (by unfold ap;simp) (by simp [aW]) (by rw [aW];rfl)
 have: cvS c.y c.m c.d (ap c)=c:=by
  unfold cvS
  rw [e1,e2,e3,il _ (by omega) (by omega),il _ (by omega) (by omega),il _ (by omega) (by omega)]
 unfold atS
 rw [this,h,cond_true]
theorem XX (w: Int) {c: Cv} (h: ce c=true): t1S (eJ w c)=Ar c:=by
 obtain ⟨hy,hm,hd,_⟩:=bG h
 have l3:=eZ w
 have lm:=ky hm.1 hm.2
 have e1: cut (eJ w c) 5 7=aJ 2 c.d:=d8 (p:=(cP w).take 3++[44,32]) (r:=32::cw c.m++32::aJ 4 c.y++32::ap c++pp) (by unfold eJ;simp) (by simp only [List.length_append,l3];rfl) (by rw [aW];rfl)
 have e2: cut (eJ w c) 8 11=cw c.m:=d8 (p:=(cP w).take 3++[44,32]++aJ 2 c.d++[32]) (r:=32::aJ 4 c.y++32::ap c++pp) (by unfold eJ;simp) (by simp only [List.length_append,l3,aW];rfl) (by rw [lm];rfl)
 have e3: cut (eJ w c) 12 16=aJ 4 c.y:=d8 (p:=(cP w).take 3++[44,32]++aJ 2 c.d++32::cw c.m++[32]) (r:=32::ap c++pp) (by unfold eJ;simp) (by simp only [List.length_append,List.length_cons,l3,aW,lm];rfl) (by rw [aW];rfl)
 have e4: cut (eJ w c) 17 25=ap c:=d8 (p:=(cP w).take 3++[44,32]++aJ 2 c.d++32::cw c.m++32::aJ 4 c.y++[32]) (r:=pp) (by unfold eJ;simp) (by simp only [List.length_append,List.length_cons,l3,aW,lm];rfl) (by rw [eG];rfl)
 unfold t1S
 rw [e1,e2,e3,e4,il _ (by omega) (by omega),Hy _ (by omega) (by omega),wR hm.1 hm.2,wT h]
theorem XY (w: Int) {c: Cv} (h: ce c=true): t2S (fH w c)=Ar c:=by
 obtain ⟨hy,hm,hd,_⟩:=bG h
 have l3:=eZ w
 have lm:=ky hm.1 hm.2
 have e1: cut (fH w c) 4 7=cw c.m:=d8 (p:=(cP w).take 3++[32]) (r:=32::mU c.d++32::ap c++32::aJ 4 c.y) (by unfold fH;simp) (by simp only [List.length_append,l3];rfl) (by rw [lm];rfl)
 have e2: cut (fH w c) 8 10=mU c.d:=d8 (p:=(cP w).take 3++32::cw c.m++[32]) (r:=32::ap c++32::aJ 4 c.y) (by unfold fH;simp) (by simp only [List.length_append,List.length_cons,l3,lm];rfl) (by rw [pw];rfl)
 have e3: cut (fH w c) 11 19=ap c:=d8 (p:=(cP w).take 3++32::cw c.m++32::mU c.d++[32]) (r:=32::aJ 4 c.y) (by unfold fH;simp) (by simp only [List.length_append,List.length_cons,l3,lm,pw];rfl) (by rw [eG];rfl)
 have e4: cut (fH w c) 20 24=aJ 4 c.y:=d8 (p:=(cP w).take 3++32::cw c.m++32::mU c.d++32::ap c++[32]) (r:=[]) (by unfold fH;simp) (by simp only [List.length_append,List.length_cons,l3,lm,pw,eG];rfl) (by rw [aW];rfl)
 unfold t2S
 rw [e1,e2,e3,e4,OL _ (by omega) (by omega),Hy _ (by omega) (by omega),wR hm.1 hm.2,wT h]
theorem XZ (w: Int) {c: Cv} (h: ce c=true) (h69: c.y≤2069): t3S ((f5 w c).drop ((f5 w c).length - 22))=Ar c:=by
 obtain ⟨hy,hm,hd,_⟩:=bG h
 have lm:=ky hm.1 hm.2
 have hr: (f5 w c).drop ((f5 w c).length - 22)=aJ 2 c.d++45::cw c.m++45::aJ 2 c.y++32::ap c++pp:=by
  rw [wQ w hm.1 hm.2]
  have e: f5 w c=(cP w++[44,32])++(aJ 2 c.d++45::cw c.m++45::aJ 2 c.y++32::ap c++pp):=by unfold f5;simp
  rw [e,show (cP w).length + 24 - 22=(cP w++[44,32]).length by simp]
  exact List.drop_left
 rw [hr]
 generalize hq: aJ 2 c.d++45::cw c.m++45::aJ 2 c.y++32::ap c++pp=r
 have e1: cut r 0 2=aJ 2 c.d:=d8 (p:=[]) (r:=45::cw c.m++45::aJ 2 c.y++32::ap c++pp) (by rw [← hq];simp) rfl (by rw [aW];rfl)
 have e2: cut r 3 6=cw c.m:=d8 (p:=aJ 2 c.d++[45]) (r:=45::aJ 2 c.y++32::ap c++pp) (by rw [← hq];simp) (by simp only [List.length_append,aW];rfl) (by rw [lm];rfl)
 have e3: cut r 7 9=aJ 2 c.y:=d8 (p:=aJ 2 c.d++45::cw c.m++[45]) (r:=32::ap c++pp) (by rw [← hq];simp) (by simp only [List.length_append,List.length_cons,aW,lm];rfl) (by rw [aW];rfl)
 have e4: cut r 10 18=ap c:=d8 (p:=aJ 2 c.d++45::cw c.m++45::aJ 2 c.y++[32]) (r:=pp) (by rw [← hq];simp) (by simp only [List.length_append,List.length_cons,aW,lm];rfl) (by rw [eG];rfl)
 have hc: XW (c.y % 100)=c.y:=by
  unfold XW
  cases g: decide (70≤c.y % 100)
  · have:=of_decide_eq_false g;rw [cond_false];omega
  · have:=of_decide_eq_true g;rw [cond_true];omega
 unfold t3S
 rw [e1,e2,e3,e4,DP c.y,il _ (by omega) (by omega),il _ (by omega) (by omega),wR hm.1 hm.2,hc,wT h]
theorem Tw (s: aa) (t: Int) (hf: As s t): rdS s=(t,true):=by
 obtain ⟨ht,h0,h⟩:=hf
 obtain ⟨g1,g2⟩:=uB ht
 obtain ⟨hy,hm,hd,_⟩:=bG g1
 unfold rdS
 rcases h with h | h | h
 · have h':=h
   unfold dO at h;rw [ht,cond_true] at h
   have hl: s.length=29:=by rw [← h];exact Hw _ hm.1 hm.2
   have h1: t1S s=t:=by rw [← h,XX _ g1,g2]
   rw [hl,h1,dT' h'];rfl
 · have h':=h
   unfold dP at h
   cases c: decide ((mv t).y≤2069)
   · rw [c,Bool.and_false,cond_false] at h;exact absurd h.symm h0
   · rw [ht,c] at h
     simp only [Bool.and_self,cond_true] at h
     have hl: s.length=(cP (wdP t)).length + 24:=by rw [← h];exact wQ _ hm.1 hm.2
     have:=iV (wdP t)
     have h1: t3S (s.drop (s.length - 22))=t:=by rw [← h,XZ _ g1 (of_decide_eq_true c),g2]
     rw [h1,dF' (show ¬ s.length=29 by omega),dF' (show ¬ s.length=24 by omega),dT' (show 30≤s.length by omega),dT' (show s.length≤33 by omega),dT' h'];rfl
 · have h':=h
   unfold eF at h;rw [ht,cond_true] at h
   have hl: s.length=24:=by rw [← h];exact Hx _ hm.1 hm.2
   have h1: t2S s=t:=by rw [← h,XY _ g1,g2]
   rw [hl,h1,dT' h'];rfl
theorem Tx (s: aa) (h: ∀ t,¬ As s t): rdS s=(0,false):=by
 have key: ∀ t,s≠[]→(dO t=s∨dP t=s∨eF t=s)→False:=fun t h0 hs=>by
  refine h t ⟨?_,h0,hs⟩
  cases c: dZ t
  · unfold dO dP eF at hs
    rw [c] at hs
    simp only [Bool.false_and,cond_false] at hs
    rcases hs with hs | hs | hs <;> exact absurd hs.symm h0
  · rfl
 unfold rdS
 cases c1: decide (s.length=29)&&decide (dO (t1S s)=s)
 · rw [cond_false]
   cases c2: decide (s.length=24)&&decide (eF (t2S s)=s)
   · rw [cond_false]
     cases c3: (decide (30≤s.length)&&decide (s.length≤33))&&decide (dP (t3S (s.drop (s.length - 22)))=s)
     · rfl
     · simp only [Bool.and_eq_true,decide_eq_true_eq] at c3
       exact (key _ (fun g=>by rw [g] at c3;exact absurd c3.1.1 (by decide)) (.inr (.inl c3.2))).elim
   · simp only [Bool.and_eq_true,decide_eq_true_eq] at c2
     exact (key _ (fun g=>by rw [g] at c2;exact absurd c2.1 (by decide)) (.inr (.inr c2.2))).elim
 · simp only [Bool.and_eq_true,decide_eq_true_eq] at c1
   exact (key _ (fun g=>by rw [g] at c1;exact absurd c1.1 (by decide)) (.inl c1.2)).elim
theorem aaw (s: aa): rdS s=jK s:=G5 Tw Tx s
end
end Go.Proofs.YtgknmoadpgpdeaaGreatDoor.Ev
