/- The texts Tc, Td, one behind the other. -/
import Derived.Test.YtgknmoadpgpdeaaGreatDoorK20
import Derived.Test.YtgknmoadpgpdeaaGreatDoorK24
namespace Go.Proofs.YtgknmoadpgpdeaaGreatDoor.Ev
open Go Go.RowKit
set_option linter.unusedVariables false
set_option linter.unusedSimpArgs false
noncomputable section
theorem jl (a b: aa) (x: Int): cH (a++b) x=(cH a x||cH b x):=by unfold cH;rw [List.any_append]
theorem cS (c: UInt8) (b: aa) (x: Int): cH (c::b) x=(decide (by8 c=x)||cH b x):=rfl
theorem Tc (x: Int): cH [] x=false:=rfl
theorem H0 {x: Int} (hx: aB x=false): ∀ l: aa,aP aB l=true→cH l x=false
 | [],_=>rfl
 | c::l,h=>by
   have e: aP aB (c::l)=(aB (by8 c)&&aP aB l):=rfl
   rw [e,Bool.and_eq_true] at h
   rw [cS,H0 hx l h.2,Bool.or_false]
   exact dF' fun g=>by rw [g,hx] at h;exact absurd h.1 (by decide)
theorem Td: ∀ (k: Nat) (n: Int),aP aB (be k n)=true
 | 0,_=>rfl
 | k + 1,n=>by
   unfold be
   rw [dN,Td k]
   show (true&&(aB (by8 (dg n))&&true))=true
   rw [nG];rfl
theorem pN (k: Nat) (n: Int) {x: Int} (hx: aB x=false): cH (be k n) x=false:=H0 hx _ (Td k n)
theorem ES (c: Cv) {x: Int} (hx: aB x=false) (h: x≠58): cH (aW c) x=false:=by
 unfold aW
 have e: decide (by8 58=x)=false:=dF' fun g=>h (by rw [← g];rfl)
 rw [jl,cS,jl,cS,pN 2 _ hx,pN 2 _ hx,pN 2 _ hx,e];rfl
theorem AJ (w: Int) {x: Int} (hx: x < 65): cH (dJ w) x=false∧cH ((dJ w).take 3) x=false:=by
 have key: ∀ l: aa,aP (fun n=>decide (65≤n)) l=true→cH l x=false:=by
  intro l
  induction l with
  | nil=>intro _;rfl
  | cons c l ih=>
    intro h
    have e: aP (fun n=>decide (65≤n)) (c::l)=(decide (65≤by8 c)&&aP (fun n=>decide (65≤n)) l):=rfl
    rw [e,Bool.and_eq_true,decide_eq_true_eq] at h
    rw [cS,ih h.2,Bool.or_false]
    exact dF' (by omega)
 refine ⟨key _ ?_,key _ ?_⟩ <;> unfold dJ <;> cases decide (w=0) <;> cases decide (w=1) <;> cases decide (w=2) <;> cases decide (w=3) <;> cases decide (w=4) <;> cases decide (w=5) <;> decide
theorem Te {m x: Int} (h0: 1≤m) (h1: m≤12) (hx: x < 65): cH (eD m) x=false:=by
 obtain ⟨a,b,c,e,ha,ha',hb,hc⟩:=iy h0 h1
 rw [e,cS,cS,cS,dF' (by omega),dF' (by omega),dF' (by omega)];rfl
theorem Tf {l: aa} {b: UInt8} (h: cH l (by8 b)=false) (r: aa): an (l++b::r) (by8 b)=l:=by
 induction l with
 | nil=>unfold an;simp
 | cons c l ih=>
   rw [cS,Bool.or_eq_false_iff] at h
   have:=ih h.2
   unfold an at this ⊢
   rw [List.cons_append,List.takeWhile_cons,h.1]
   simp [this]
theorem jm (w: Int): ((dJ w).take 3).length=3:=by
 unfold dJ
 cases decide (w=0) <;> cases decide (w=1) <;> cases decide (w=2) <;> cases decide (w=3) <;> cases decide (w=4) <;> cases decide (w=5) <;> rfl
theorem md (w: Int): 6≤(dJ w).length∧(dJ w).length≤9:=by
 unfold dJ
 cases decide (w=0) <;> cases decide (w=1) <;> cases decide (w=2) <;> cases decide (w=3) <;> cases decide (w=4) <;> cases decide (w=5) <;> decide
theorem AK {m: Int} (h0: 1≤m) (h1: m≤12): (eD m).length=3:=by
 obtain ⟨a,b,c,e,_⟩:=iy h0 h1
 rw [e];rfl
theorem n0 (c: Cv): (aW c).length=8:=by
 unfold aW
 simp only [List.length_append,List.length_cons,cu]
theorem XM (d: Int): (wD d).length=2:=by
 unfold wD
 cases decide (d < 10)
 · exact cu 2 d
 · rfl
theorem XN (w: Int) {c: Cv} (h0: 1≤c.m) (h1: c.m≤12): (k_ w c).length=29:=by
 unfold k_
 simp only [List.length_append,List.length_cons,List.length_nil,cu,jm,AK h0 h1,n0,Ot]
theorem XO (w: Int) {c: Cv} (h0: 1≤c.m) (h1: c.m≤12): (pB w c).length=24:=by
 unfold pB
 simp only [List.length_append,List.length_cons,List.length_nil,cu,jm,AK h0 h1,n0,XM]
theorem XP (w: Int) {c: Cv} (h0: 1≤c.m) (h1: c.m≤12): (lY w c).length=(dJ w).length + 24:=by
 unfold lY
 simp only [List.length_append,List.length_cons,List.length_nil,cu,AK h0 h1,n0,Ot]
theorem Tg (n: Int): be 2 n=be 2 (n % 100):=by
 have e1: dg (n / 10)=dg (n % 100 / 10):=by unfold dg;rw [show n / 10 % 10=n % 100 / 10 % 10 by omega]
 have e2: dg n=dg (n % 100):=by unfold dg;rw [show n % 10=n % 100 % 10 by omega]
 show [dg (n / 10),dg n]=[dg (n % 100 / 10),dg (n % 100)]
 rw [e1,e2]
def cen (y: Int): Int:=bif decide (y + 1900 < 1970) then y + 1900 + 100 else y + 1900
def ab2 (s: aa) (c: Cv): Int×Bool:=bif (ll c).2&&(decide (ia (ll c).1=s)||decide (jB (ll c).1=s)||decide (jC (ll c).1=s)) then ((ll c).1,true) else (0,false)
def cvI (s: aa): Cv:=
 bif cH s 44 then ⟨bif cH s 45 then cen ((bP s).getD 1 0) else (bP s).getD 1 0,Lu (s.drop (an s 44).length),(bP s).getD 0 0,(bP s).getD 2 0,(bP s).getD 3 0,(bP s).getD 4 0⟩
 else ⟨(bP s).getD 4 0,Lu (s.drop 3),(bP s).getD 0 0,(bP s).getD 1 0,(bP s).getD 2 0,(bP s).getD 3 0⟩
def rdI (s: aa): Int×Bool:=bif decide (6≤s.length)&&decide (s.length≤40)&&decide ((bP s).length=5) then ab2 s (cvI s) else (0,false)
theorem cL {c: Cv} (h: dj c=true): (1970≤c.y∧c.y≤9999)∧(1≤c.m∧c.m≤12)∧(1≤c.d∧c.d≤31)∧(0≤c.h∧c.h≤23)∧(0≤c.i∧c.i≤59)∧(0≤c.s∧c.s≤59):=by
 unfold dj at h
 simp only [Bool.and_eq_true,decide_eq_true_eq] at h
 have:=py c.y c.m
 omega
theorem ET (w: Int) {c: Cv} (h: dj c=true): bP (k_ w c)=[c.d,c.y,c.h,c.i,c.s]:=by
 obtain ⟨hy,hm,hd,_⟩:=cL h
 unfold bP k_
 simp only [List.append_assoc]
 rw [et _ _ (D9 w),et [44,32] _ (by decide),ji _ (by omega) (by omega),List.cons_append,fO (by decide),cf (by decide),et _ _ (Aj hm.1 hm.2),
  List.cons_append,cf (by decide),D8 _ (by omega) (by omega),List.cons_append,fO (by decide),cf (by decide),pC c h]
 rfl
theorem EU (w: Int) {c: Cv} (h: dj c=true): bP (lY w c)=[c.d,c.y % 100,c.h,c.i,c.s]:=by
 obtain ⟨hy,hm,hd,_⟩:=cL h
 unfold bP lY
 simp only [List.append_assoc]
 rw [Tg c.y,et _ _ (Xn w),et [44,32] _ (by decide),ji _ (by omega) (by omega),List.cons_append,fO (by decide),cf (by decide),et _ _ (Aj hm.1 hm.2),
  List.cons_append,cf (by decide),ji _ (by omega) (by omega),List.cons_append,fO (by decide),cf (by decide),pC c h]
 rfl
theorem EV (w: Int) {c: Cv} (h: dj c=true): bP (pB w c)=[c.d,c.h,c.i,c.s,c.y]:=by
 obtain ⟨hy,hm,hd,_⟩:=cL h
 unfold bP pB
 simp only [List.append_assoc]
 have hL: ∀ r,eE none (wD c.d++32::r)=c.d::eE none r:=fun r=>by
  unfold wD
  cases g: decide (c.d < 10)
  · rw [cond_false,ji _ (by omega) (by omega),fO (by decide),cf (by decide)]
  · have:=of_decide_eq_true g
    show eE none (32::dg c.d::32::r)=_
    rw [cf (by decide),Xm _ (by omega) (by omega),fO (by decide),cf (by decide)]
 rw [et _ _ (D9 w),List.cons_append,cf (by decide),et _ _ (Aj hm.1 hm.2),List.cons_append,cf (by decide),List.cons_append,hL,pC c h,fO (by decide),cf (by decide)]
 have:=D8 c.y (by omega) (by omega) []
 rw [List.append_nil] at this
 rw [this];rfl
theorem yq (c: Cv) (l: aa) (hl: aP (fun n=>decide (n < 65)) l=true): Ht (l++(aW c++Ot)):=uN hl (uN (D_ c) Sc)
theorem XQ (w: Int) {c: Cv} (h: dj c=true): cvI (k_ w c)=c:=by
 obtain ⟨hy,hm,hd,_⟩:=cL h
 have hs: k_ w c=(dJ w).take 3++44::((32::be 2 c.d++[32])++(eD c.m++((32::be 4 c.y++[32])++(aW c++Ot)))):=by unfold k_;simp
 have h44: cH (k_ w c) 44=true:=by rw [hs,jl,cS,show decide (by8 44=44)=true from rfl];simp
 have h45: cH (k_ w c) 45=false:=by
  unfold k_
  simp only [jl,cS,Tc,(AJ w (show (45 : Int) < 65 by decide)).2,pN _ _ (show aB 45=false by decide),Te hm.1 hm.2 (show (45 : Int) < 65 by decide),ES c (show aB 45=false by decide) (by decide),Ot]
  decide
 have hu: an (k_ w c) 44=(dJ w).take 3:=by rw [hs];exact Tf (b:=44) (AJ w (by decide)).2 _
 have hmo: Lu ((k_ w c).drop (an (k_ w c) 44).length)=c.m:=by
  rw [hu]
  conv=>lhs;rw [hs]
  rw [List.drop_left]
  refine Hu (l:=44::(32::be 2 c.d++[32])) hm.1 hm.2 ?_ (yq c _ ?_)
  · show (true&&(true&&aP (fun n=>decide (n < 65)) (be 2 c.d++[32])))=true
    rw [dN,ib];rfl
  · show (true&&aP (fun n=>decide (n < 65)) (be 4 c.y++[32]))=true
    rw [dN,ib];rfl
 unfold cvI
 rw [h44,h45,hmo,ET w h]
 rfl
theorem XR (w: Int) {c: Cv} (h: dj c=true) (h69: c.y≤2069): cvI (lY w c)=c:=by
 obtain ⟨hy,hm,hd,_⟩:=cL h
 have hs: lY w c=dJ w++44::((32::be 2 c.d++[45])++(eD c.m++((45::be 2 c.y++[32])++(aW c++Ot)))):=by unfold lY;simp
 have h44: cH (lY w c) 44=true:=by rw [hs,jl,cS,show decide (by8 44=44)=true from rfl];simp
 have h45: cH (lY w c) 45=true:=by
  rw [hs,jl,cS,jl,jl,cS,show cH [45] 45=true from rfl];simp
 have hu: an (lY w c) 44=dJ w:=by rw [hs];exact Tf (b:=44) (AJ w (by decide)).1 _
 have hmo: Lu ((lY w c).drop (an (lY w c) 44).length)=c.m:=by
  rw [hu]
  conv=>lhs;rw [hs]
  rw [List.drop_left]
  refine Hu (l:=44::(32::be 2 c.d++[45])) hm.1 hm.2 ?_ (yq c _ ?_)
  · show (true&&(true&&aP (fun n=>decide (n < 65)) (be 2 c.d++[45])))=true
    rw [dN,ib];rfl
  · show (true&&aP (fun n=>decide (n < 65)) (be 2 c.y++[32]))=true
    rw [dN,ib];rfl
 have hc: cen (c.y % 100)=c.y:=by
  unfold cen
  cases g: decide (c.y % 100 + 1900 < 1970)
  · have:=of_decide_eq_false g;rw [cond_false];omega
  · have:=of_decide_eq_true g;rw [cond_true];omega
 unfold cvI
 rw [h44,h45,hmo,EU w h]
 show Cv.mk (cen (c.y % 100)) c.m c.d c.h c.i c.s=c
 rw [hc]
theorem XS (w: Int) {c: Cv} (h: dj c=true): cvI (pB w c)=c:=by
 obtain ⟨hy,hm,hd,_⟩:=cL h
 have hs: pB w c=(dJ w).take 3++([32]++(eD c.m++((32::wD c.d++32::aW c++32::be 4 c.y)++[]))):=by unfold pB;simp
 have hdl: ∀ x: Int,x < 65→aB x=false→x≠32→cH (wD c.d) x=false:=fun x hx hx2 hx3=>by
  unfold wD
  cases decide (c.d < 10)
  · exact pN 2 _ hx2
  · rw [cond_true,cS,H0 hx2 [dg c.d] (by show (aB (by8 (dg c.d))&&true)=true;rw [nG];rfl),Bool.or_false]
    exact dF' fun g=>hx3 (by rw [← g];rfl)
 have h44: cH (pB w c) 44=false:=by
  unfold pB
  simp only [jl,cS,Tc,(AJ w (show (44 : Int) < 65 by decide)).2,pN _ _ (show aB 44=false by decide),Te hm.1 hm.2 (show (44 : Int) < 65 by decide),ES c (show aB 44=false by decide) (by decide),hdl 44 (by decide) (by decide) (by decide)]
  decide
 have hdlow: aP (fun n=>decide (n < 65)) (wD c.d)=true:=by
  unfold wD
  cases decide (c.d < 10)
  · exact ib 2 _
  · show (true&&(decide (by8 (dg c.d) < 65)&&true))=true
    rw [lm,dT' (by omega)];rfl
 have hmo: Lu ((pB w c).drop 3)=c.m:=by
  rw [hs,List.drop_left' (jm w)]
  refine Hu (l:=[32]) hm.1 hm.2 (by decide) (uN ?_ Sd)
  show (true&&aP (fun n=>decide (n < 65)) (wD c.d++32::aW c++32::be 4 c.y))=true
  rw [dN,dN,hdlow]
  show (true&&(true&&(true&&aP (fun n=>decide (n < 65)) (aW c))&&(true&&aP (fun n=>decide (n < 65)) (be 4 c.y))))=true
  rw [D_,ib];rfl
 unfold cvI
 rw [h44,hmo,EV w h]
 rfl
theorem ab3 {s: aa} {t: Int} (hf: Ou s t): ab2 s (pz t)=(t,true):=by
 obtain ⟨ht,h0,h⟩:=hf
 obtain ⟨g1,g2⟩:=D7 ht
 unfold ab2 ll
 rw [g1,cond_true,g2]
 have: (decide (ia t=s)||decide (jB t=s)||decide (jC t=s))=true:=by
  rcases h with h | h | h
  · rw [dT' h];rfl
  · rw [dT' h];simp
  · rw [dT' h];simp
 rw [this];rfl
theorem XT (s: aa) (t: Int) (hf: Ou s t): rdI s=(t,true):=by
 have hfin:=ab3 hf
 obtain ⟨ht,h0,h⟩:=hf
 obtain ⟨g1,g2⟩:=D7 ht
 obtain ⟨hy,hm,hd,_⟩:=cL g1
 unfold rdI
 rcases h with h | h | h
 · unfold ia at h;rw [ht,cond_true] at h
   subst h
   rw [XN _ hm.1 hm.2,ET _ g1,XQ _ g1,hfin];rfl
 · unfold jB at h
   cases c: decide ((pz t).y≤2069)
   · rw [c,Bool.and_false,cond_false] at h;exact absurd h.symm h0
   · rw [ht,c] at h
     subst h
     have:=md (wdP t)
     simp only [Bool.and_self,cond_true] at hfin ⊢
     rw [XP _ hm.1 hm.2,EU _ g1,XR _ g1 (of_decide_eq_true c),hfin,dT' (show 6≤(dJ (wdP t)).length + 24 by omega),dT' (show (dJ (wdP t)).length + 24≤40 by omega)];rfl
 · unfold jC at h;rw [ht,cond_true] at h
   subst h
   rw [XO _ hm.1 hm.2,EV _ g1,XS _ g1,hfin];rfl
theorem XU (s: aa) (h: ∀ t,¬ Ou s t): rdI s=(0,false):=by
 unfold rdI
 cases c: decide (6≤s.length)&&decide (s.length≤40)&&decide ((bP s).length=5)
 · rfl
 simp only [Bool.and_eq_true,decide_eq_true_eq] at c
 rw [cond_true]
 unfold ab2
 cases d: (ll (cvI s)).2&&(decide (ia (ll (cvI s)).1=s)||decide (jB (ll (cvI s)).1=s)||decide (jC (ll (cvI s)).1=s))
 · rfl
 simp only [Bool.and_eq_true,Bool.or_eq_true,decide_eq_true_eq] at d
 obtain ⟨d1,d2⟩:=d
 unfold ll at d1 d2
 cases e: dj (cvI s)
 · rw [e] at d1;cases d1
 · rw [e,cond_true] at d2
   refine absurd ⟨(aex e).1,?_,?_⟩ (h (Wa (cvI s)))
   · intro hs;rw [hs] at c;exact absurd c.1.1 (by decide)
   · rcases d2 with (d2 | d2) | d2
     · exact .inl d2
     · exact .inr (.inl d2)
     · exact .inr (.inr d2)
theorem aab (s: aa): rdI s=rK s:=Xl XT XU s
def ag7 (n: Int): Bool:=decide (n=32)||aB n
def ab4 (v: Int) (c: UInt8): Int:=bif decide (by8 c=32) then v * 10 else v * 10 + (by8 c - 48)
def aiF (l: aa) (v: Int): Int:=l.foldl ab4 v
def XV (l: aa): Int:=bif aP ag7 l then aiF l 0 else -1
def cvS (y m d: Int) (k: aa): Cv:=⟨y,m,d,XV (cut k 0 2),XV (cut k 3 5),XV (cut k 6 8)⟩
def atS (y m d: Int) (k: aa): Int:=bif dj (cvS y m d k) then Wa (cvS y m d k) else -1
end
end Go.Proofs.YtgknmoadpgpdeaaGreatDoor.Ev
