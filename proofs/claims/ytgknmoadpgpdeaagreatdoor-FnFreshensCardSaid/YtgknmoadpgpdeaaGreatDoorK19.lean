/- The texts DecR, Qh, Ta, one behind the other. -/
import Derived.Test.YtgknmoadpgpdeaaGreatDoorK18
import Derived.Lib.AtoiAllCases
import Derived.Lib.ItoaNum
namespace Go.Proofs.YtgknmoadpgpdeaaGreatDoor.Ev
open Go Go.RowKit
set_option linter.unusedVariables false
set_option linter.unusedSimpArgs false
noncomputable section
def tY (r: aa) (n: Int): Int:=r.foldl (fun v c=>v * 10 + (by8 c - 48)) n
def jY (s: aa): Int×Bool:=bif decide (1≤s.length)&&decide (s.length≤15)&&aU aJ s&&decide (bT (tY s 0)=s) then (tY s 0,true) else (0,false)
theorem nC (d: Nat) (h: d < 10): by8 (UInt8.ofNat (48 + d))=48 + (d: Int):=by
 unfold by8
 rw [UInt8.toNat_ofNat']
 omega
theorem Qy (a: aa) (c: UInt8) (n: Int): tY (a++[c]) n=tY a n * 10 + (by8 c - 48):=by
 unfold tY;rw [List.foldl_append];rfl
theorem WE (u: Nat): tY (Lib.decDigits u) 0=(u: Int):=by
 induction u using Nat.strongRecOn with
 | ind u ih=>
   rw [Lib.decDigits]
   by_cases h: u < 10
   · rw [dif_pos h]
     show 0 * 10 + (by8 _ - 48)=_
     rw [nC u h];omega
   · rw [dif_neg h,Qy,ih (u / 10) (by omega),nC _ (by omega)];omega
theorem en (p: Int→Bool) (a b: aa): aU p (a++b)=(aU p a&&aU p b):=by unfold aU;rw [List.all_append]
theorem yT (u: Nat): aU aJ (Lib.decDigits u)=true:=by
 induction u using Nat.strongRecOn with
 | ind u ih=>
   have one: ∀ d: Nat,d < 10→aU aJ [UInt8.ofNat (48 + d)]=true:=by
    intro d h
    show (aJ (by8 _)&&true)=true
    rw [nC d h,Bool.and_true]
    unfold aJ
    rw [dT' (by omega),dT' (by omega)];rfl
   rw [Lib.decDigits]
   by_cases h: u < 10
   · rw [dif_pos h];exact one u h
   · rw [dif_neg h,en,ih (u / 10) (by omega),one _ (by omega)];rfl
theorem Ji (u: Nat): 1≤(Lib.decDigits u).length:=by rw [Lib.decDigits_length];exact Lib.nDigits_pos u
theorem Qz: ∀ (k u: Nat),u < 10 ^ (k + 1)→Lib.nDigits u≤k + 1
 | 0,u,h=>by rw [Lib.nDigits_small (by simpa using h)];exact Nat.le_refl _
 | k + 1,u,h=>by
   by_cases c: u < 10
   · rw [Lib.nDigits_small c];omega
   · rw [Lib.nDigits_big c]
     have:=Qz k (u / 10) (by rw [Nat.pow_succ] at h;omega)
     omega
theorem tZ (u: Nat) (h: u≤999999999999999): (Lib.decDigits u).length≤15:=by
 rw [Lib.decDigits_length];exact Qz 14 u (by simpa using (show u < 1000000000000000 by omega))
theorem QA: ∀ (s: aa) (n: Int),aU aJ s=true→0≤n→0≤tY s n∧tY s n < (n + 1) * 10 ^ s.length
 | [],n,_,h=>by
   refine ⟨h,?_⟩
   show n < (n + 1) * 10 ^ 0
   omega
 | c::r,n,ha,h=>by
   have e: aU aJ (c::r)=(aJ (by8 c)&&aU aJ r):=rfl
   rw [e,Bool.and_eq_true] at ha
   have hd:=ha.1
   simp only [aJ,Bool.and_eq_true,decide_eq_true_eq] at hd
   have ih:=QA r (n * 10 + (by8 c - 48)) ha.2 (by omega)
   show 0≤tY r (n * 10 + (by8 c - 48))∧tY r (n * 10 + (by8 c - 48)) < (n + 1) * 10 ^ (r.length + 1)
   refine ⟨ih.1,Int.lt_of_lt_of_le ih.2 ?_⟩
   rw [Int.pow_succ,Int.mul_comm (10 ^ r.length) 10,← Int.mul_assoc]
   exact Int.mul_le_mul_of_nonneg_right (by omega) (Int.le_of_lt (Int.pow_pos (by decide)))
theorem Jj (s: aa) (ha: aU aJ s=true) (hl: s.length≤15): 0≤tY s 0∧tY s 0≤999999999999999:=by
 have h:=QA s 0 ha (Int.le_refl 0)
 refine ⟨h.1,?_⟩
 have h3: (10 : Nat) ^ s.length≤10 ^ 15:=Nat.pow_le_pow_right (by decide) hl
 have h2:=h.2
 rw [Int.zero_add,Int.one_mul] at h2
 have e: (10 : Int) ^ s.length=((10 ^ s.length: Nat): Int):=by rw [Int.natCast_pow];rfl
 rw [e] at h2
 have e2: (10 : Nat) ^ 15=1000000000000000:=by decide
 rw [e2] at h3
 omega
theorem WF (s: aa) (v: Int) (h0: 0≤v) (h1: v≤999999999999999) (h: bT v=s): jY s=(v,true):=by
 subst h
 have e: tY (bT v) 0=v:=by rw [dh,WE];omega
 unfold jY
 rw [e,dT' (show 1≤(bT v).length by rw [dh];exact Ji _),dT' (show (bT v).length≤15 by rw [dh];exact tZ _ (by omega)),show aU aJ (bT v)=true by rw [dh];exact yT _,dT' rfl]
 rfl
theorem abu (s: aa) (h: (jY s).2=true): 0≤tY s 0∧tY s 0≤999999999999999∧bT (tY s 0)=s:=by
 unfold jY at h
 cases c: decide (1≤s.length)&&decide (s.length≤15)&&aU aJ s&&decide (bT (tY s 0)=s)
 · rw [c] at h;cases h
 · simp only [Bool.and_eq_true,decide_eq_true_eq] at c
   have:=Jj s c.1.2 c.1.1.2
   exact ⟨this.1,this.2,c.2⟩
def iO (s: aa): Bool:=match Lib.atoiAll s with | .ok _=>true | _=>false
def fL (s: aa): Int:=match Lib.atoiAll s with | .ok v=>v | .range=>Lib.atoiSat s | _=>0
theorem CO: ∀ (a b: aa) (acc v: Nat),Lib.parseUint10 acc a= .ok v→Lib.parseUint10 acc (a++b)=Lib.parseUint10 v b
 | [],b,acc,v,h=>by
   simp only [Lib.parseUint10] at h
   injection h with h;subst h;rfl
 | c::a,b,acc,v,h=>by
   simp only [Lib.parseUint10,List.cons_append] at h ⊢
   split at h
   · split at h
     · cases h
     · split at h
       · cases h
       · rename_i g1 g2 g3
         rw [if_pos g1,if_neg g2,if_neg g3]
         exact CO a b _ v h
   · cases h
theorem QB (u: Nat) (h: u≤999999999999999): Lib.parseUint10 0 (Lib.decDigits u)= .ok u:=by
 induction u using Nat.strongRecOn with
 | ind u ih=>
   have one: ∀ (d acc: Nat),d < 10→acc≤999999999999999→Lib.parseUint10 acc [UInt8.ofNat (48 + d)]= .ok (acc * 10 + d):=by
    intro d acc hd ha
    have e: (UInt8.ofNat (48 + d)).toNat=48 + d:=by rw [UInt8.toNat_ofNat'];omega
    simp only [Lib.parseUint10]
    rw [e,if_pos (by omega),if_neg (by omega),if_neg (by omega)]
    congr 1;omega
   rw [Lib.decDigits]
   by_cases c: u < 10
   · rw [dif_pos c,one u 0 c (by omega)];congr 1;omega
   · rw [dif_neg c,CO _ _ _ _ (ih (u / 10) (by omega) (by omega)),one _ _ (by omega) (by omega)]
     congr 1;omega
theorem WG (v: Int) (h0: 0≤v) (h1: v≤999999999999999): Lib.atoiAll (bT v)= .ok v:=by
 rw [dh]
 have hp:=QB v.toNat (by omega)
 have hl:=Ji v.toNat
 have hd:=yT v.toNat
 generalize Lib.decDigits v.toNat=l at hp hl hd
 cases l with
 | nil=>simp at hl
 | cons c r=>
   have e: aU aJ (c::r)=(aJ (by8 c)&&aU aJ r):=rfl
   rw [e,Bool.and_eq_true] at hd
   have hc:=hd.1
   simp only [aJ,Bool.and_eq_true,decide_eq_true_eq] at hc
   have hc': 48≤(c.toNat: Int)∧(c.toNat: Int)≤57:=hc
   have h43: c.toNat≠43:=by intro g;rw [g] at hc';exact absurd hc'.1 (by decide)
   have h45: c.toNat≠45:=by intro g;rw [g] at hc';exact absurd hc'.1 (by decide)
   rw [Lib.atoiAll_plain c r h43 h45]
   unfold Lib.parseMag
   rw [if_neg (by simp),hp]
   unfold Lib.signless
   simp only
   rw [if_neg (by omega)]
   congr 1;omega
theorem abv (v: Int) (h0: 0≤v) (h1: v≤999999999999999): iO (bT v)=true∧fL (bT v)=v:=by
 unfold iO fL;rw [WG v h0 h1];exact ⟨rfl,rfl⟩
theorem QC (s: aa): jY s=bif iO s&&(decide (0≤fL s)&&decide (fL s≤999999999999999))&&decide (bT (fL s)=s) then (fL s,true) else (0,false):=by
 cases c: iO s&&(decide (0≤fL s)&&decide (fL s≤999999999999999))&&decide (bT (fL s)=s)
 · rw [cond_false]
   cases h: (jY s).2
   · unfold jY at h ⊢
     cases d: decide (1≤s.length)&&decide (s.length≤15)&&aU aJ s&&decide (bT (tY s 0)=s)
     · rfl
     · rw [d] at h;cases h
   · have g:=abu s h
     have k:=abv _ g.1 g.2.1
     rw [g.2.2] at k
     rw [k.1,k.2,dT' g.1,dT' g.2.1,dT' g.2.2] at c
     cases c
 · rw [cond_true]
   simp only [Bool.and_eq_true,decide_eq_true_eq] at c
   exact WF s _ c.1.2.1 c.1.2.2 c.2
end
end Go.Proofs.YtgknmoadpgpdeaaGreatDoor.Ev
namespace Go.Proofs.YtgknmoadpgpdeaaGreatDoor.Ev
open Go Go.RowKit
set_option linter.unusedVariables false
set_option linter.unusedSimpArgs false
set_option linter.defProp false
set_option maxRecDepth 20000
noncomputable section
theorem agM (n: Int) (code: List Int) (i h: Int): decide (0≤aT n code i h)=true:=dT' (et n code i h).1
theorem ad_ {n m: Int} (code: List Int) (i h: Int) (h1: 0 < n) (h2: n≤m): decide (aT n code i h < m)=true:=dT' (by have:=(et n code i h).2 h1;omega)
theorem t6 {n m: Int} (code: List Int) (i h: Int) (h1: 0 < n) (h2: n≤m + 1): decide (aT n code i h≤m)=true:=dT' (by have:=(et n code i h).2 h1;omega)
theorem Zo {n: Int} (code: List Int) (i h: Int) (h1: 0 < n) (h2: n≤1000): bC (aT n code i h)=true:=by
 have:=et n code i h
 have:=this.2 h1
 unfold bC
 simp only [Bool.and_eq_true,decide_eq_true_eq]
 omega
theorem agN {α: Type} (l: List α) (a b: Int): (cut l a b).length≤l.length:=by
 unfold cut;simp only [List.length_drop,List.length_take];omega
theorem Zp (l: List Int): (bQ l).length=l.length:=by simp [bQ]
theorem aea (n: Int) (code: List Int) (i h: Int): (!decide (aT n code i h < 0))=true:=by
 rw [dF' (by have:=(et n code i h).1;omega)];rfl
theorem Jk {α: Type} (l: List α) (a: Int): (cut l a (l.length: Int)).length=l.length - a.toNat:=by
 unfold cut;simp only [List.length_drop,List.length_take];omega
theorem WH {α: Type} (l: List α) (a: Int) (h0: 0≤a) (h1: a≤(l.length: Int)): (cut l 0 a).length=a.toNat∧(cut l a (l.length: Int)).length=l.length - a.toNat:=by
 unfold cut;simp only [List.length_drop,List.length_take];omega
theorem WI (s: List UInt8) (code: List Int) (i h: Int) (hc: okC code i=true) (hs: s.length≤1000000): Dra code (fun v: List UInt8=> .str v) (fun _=>[]) (fun v=>v.length≤s.length + 1) (kz s code i h):=by
 unfold kz nB bt tU
 rw [w64 (n:=(s.length: Int) + 1) (by omega) (by omega)]
 have hb:=et ((s.length: Int) + 1) code i h
 have hb2:=hb.2 (by omega)
 have d1: decide (0≤aT ((s.length: Int) + 1) code i h)=true:=dT' hb.1
 have d2: decide (aT ((s.length: Int) + 1) code i h≤(s.length: Int))=true:=dT' (by omega)
 have c1: ∀ x y,(cut s x y).length≤s.length:=agN s
 have c2:=WH s (aT ((s.length: Int) + 1) code i h) hb.1 (by omega)
 generalize aT ((s.length: Int) + 1) code i h=at_ at *
 have w1: ai (at_ + 1)=at_ + 1:=w64 (by omega) (by omega)
 rw [w1]
 repeat' (first | refine sX ?_ ?_ | refine sV (fun _=>?_) (fun _=>?_) | refine Ie _ _ _ rfl rfl ?_ ?_)
 all_goals first
  | (simp only [aq,hc];done)
  | exact av (by simp only [aq,hc])
  | exact aq (av (by simp only [aq,hc]))
  | (simp only [decide_eq_true_eq] at *;omega)
  | exact d1
  | exact d2
  | (rw [decide_eq_true_eq];simp only [Zp,List.length_set,List.length_replicate,List.length_append,List.length_cons,List.length_nil];omega)
  | (simp only [Zp,List.length_set,List.length_replicate,List.length_append,List.length_cons,List.length_nil,bytesOf,List.length_map];omega)
  | (have:=c1 0 at_;omega)
  | (rw [decide_eq_true_eq];simp only [List.length_append,Jk,c2.1];omega)
  | (simp only [List.length_append,Jk,c2.1,decide_eq_true_eq] at *;omega)
  | exact aea ..
  | (rw [decide_eq_true_eq];simp only [bytesOf,List.length_map];simp only [decide_eq_true_eq] at *;omega)
  | (simp_all;done)
  | skip
 all_goals trace_state
abbrev ahm: List UInt8→AV:=fun v=> .str v
def bend_dr:=yr (α:=List UInt8) (fun (s: List UInt8) code i h=>kz s code i h) (fun s=>decide (s.length≤1000000)) ahm (fun _=>[]) [] (fun s v=>v.length≤s.length + 1)
 (fun s code i h hc hg=>WI s code i h hc (of_decide_eq_true hg))
def oE:=bend_dr.choose
def aeb: List AV→List Ob→Br:=drQ unS (fun s=>decide (s.length≤1000000)) ahm (fun _=>[]) oE
theorem wZ: Sound Kx 147 aeb:=
 Ff Qq (fun s code i h=>kz s code i h) (fun l b code i h hl=>by rw [adH hl];rfl) fun b code i h hc hg=>(bend_dr.choose_spec b code i h hc hg).1
theorem yU (s: List UInt8) {code: List Int} {i: Int} (h: Int) (hc: okC code i=true) (hs: s.length≤1000000): okC code (oE s code i h).2.1=true∧(oE s code i h).1.length≤s.length + 1:=
 (bend_dr.choose_spec s code i h hc (dT' hs)).2
def cq (f: List UInt8×List UInt8): Prop:=f.1.length=13→(f.1.headD 0≠67∧f.1.headD 0≠99)∨(34 : UInt8) ∉ f.2
theorem qC {f: List UInt8×List UInt8} (h: f.1.length≠13): cq f:=fun e=>absurd e h
theorem ah0 (n: Int): (34 : UInt8) ∉ bT n:=by
 rw [dh]
 intro hm
 have h:=yT n.toNat
 unfold aU at h
 rw [List.all_eq_true] at h
 exact absurd (h 34 hm) (by decide)
abbrev fdA: List UInt8×List UInt8→AV:=fun f=> .agg [.str f.1, .str f.2]
theorem abw (code: List Int) (i h: Int) (hc: okC code i=true): Dra code fdA (fun _=>[]) cq (iM code i h):=by
 unfold iM eE dA
 have hw: ai (1 + aT 3 code (an 12 code i) (au 12 h))≤3:=by
  have:=et 3 code (an 12 code i) (au 12 h)
  have:=this.2 (by omega)
  rw [w64 (by omega) (by omega)];omega
 generalize ai (1 + aT 3 code (an 12 code i) (au 12 h))=w1 at *
 repeat' (first | refine sX ?_ ?_ | refine sV (fun _=>?_) (fun _=>?_) | refine Ie (_,_) _ _ rfl rfl ?_ ?_)
 all_goals first
  | ((repeat (first | exact hc | with_reducible apply aq | with_reducible apply be | with_reducible apply av));done)
  | (simp only [Bool.and_eq_true,decide_eq_true_eq,and_true,List.length_cons,List.length_nil];refine ⟨?_,?_⟩ <;> first | omega | ((repeat (first | exact hc | with_reducible apply aq | with_reducible apply be | with_reducible apply av));done))
  | (simp only [Bool.and_true];(repeat (first | exact hc | with_reducible apply aq | with_reducible apply be | with_reducible apply av));done)
  | exact Zo _ _ _ (by omega) (by omega)
  | (refine qC ?_;simp only [List.length_cons,List.length_nil];omega)
  | (intro _;refine .inr fun hm=>?_;rcases List.mem_append.1 hm with hm | hm;revert hm;decide;exact ah0 _ hm)
  | (refine qC ?_;simp only [lY];omega)
  | (rw [decide_eq_true_eq];simp only [lY,List.length_append,List.length_cons,List.length_nil];omega)
  | (rw [decide_eq_true_eq];have:=jv _ (Zo (n:=60) code (an 12 code i) (au 12 h) (by omega) (by omega));omega)
  | (refine qC ?_;simp only [List.length_map,Fe];omega)
  | (simp (disch:=omega) only [t6,Bool.and_true,decide_true,List.length_cons,List.length_nil];(repeat (first | exact hc | with_reducible apply aq | with_reducible apply be | with_reducible apply av));done)
  | skip
 all_goals trace_state
def fld_dr:=yr (α:=List UInt8×List UInt8) (fun (_: Unit) code i h=>iM code i h) (fun _=>true) fdA (fun _=>[]) ([],[]) (fun _ f=>cq f) (fun _ code i h hc _=>abw code i h hc)
def q8:=fld_dr.choose
def agO: List AV→List Ob→Br:=drQ un0 (fun _=>true) fdA (fun _=>[]) q8
theorem mn: Sound Kx 193 agO:=
 Ff ME (fun (_: Unit) code i h=>iM code i h) (fun l b code i h hl=>by rw [BA hl];rfl) fun b code i h hc hg=>(fld_dr.choose_spec b code i h hc hg).1
theorem Jl {code: List Int} {i: Int} (h: Int) (hc: okC code i=true): okC code (q8 () code i h).2.1=true∧cq (q8 () code i h).1:=(fld_dr.choose_spec () code i h hc rfl).2
def nD (y: Int): Bool:=decide (y % 4=0)&&(!decide (y % 100=0)||decide (y % 400=0))
def vD (y: Int): Int:=bif nD y then 366 else 365
def lK (y m: Int): Int:=bif decide (m=2) then (bif nD y then 29 else 28) else bif decide (m=4)||decide (m=6)||decide (m=9)||decide (m=11) then 30 else 31
def dB (y: Int): Int:=365 * (y - 1970) + (y - 1) / 4 - (y - 1) / 100 + (y - 1) / 400 - 477
theorem yV (y: Int): dB (y + 1)=dB y + vD y:=by
 unfold dB vD nD
 cases h: decide (y % 4=0)&&(!decide (y % 100=0)||decide (y % 400=0))
 · rw [cond_false]
   simp only [Bool.and_eq_false_iff,Bool.or_eq_false_iff,Bool.not_eq_false',decide_eq_true_eq,decide_eq_false_iff_not] at h
   omega
 · rw [cond_true]
   simp only [Bool.and_eq_true,Bool.or_eq_true,Bool.not_eq_true',decide_eq_true_eq,decide_eq_false_iff_not] at h
   omega
theorem t7 (y: Int): 365≤vD y∧vD y≤366:=by unfold vD;cases nD y <;> simp
theorem oF (y m: Int): 28≤lK y m∧lK y m≤31:=by
 unfold lK
 cases decide (m=2)
 · cases decide (m=4)||decide (m=6)||decide (m=9)||decide (m=11) <;> simp
 · cases nD y <;> simp
theorem yW: dB 1970=0:=by decide
theorem rG: dB 10000=2932897:=by decide
theorem gB {a b: Int} (h: a≤b): dB a≤dB b:=by unfold dB;omega
def yrF: Nat→Int→Int→Int
 | 0,_,y=>y
 | n + 1,day,y=>bif decide (dB (y + 1)≤day) then yrF n day (y + 1) else y
def yrP (day: Int): Int:=yrF 9000 day 1970
theorem Jm: ∀ (n: Nat) (day y: Int),dB y≤day→day < dB (y + n)→dB (yrF n day y)≤day∧day < dB (yrF n day y + 1)∧y≤yrF n day y
 | 0,day,y,h0,h1=>by simp at h1;omega
 | n + 1,day,y,h0,h1=>by
   unfold yrF
   cases c: decide (dB (y + 1)≤day)
   · have:=of_decide_eq_false c
     rw [cond_false];exact ⟨h0,by omega,Int.le_refl _⟩
   · have c':=of_decide_eq_true c
     rw [cond_true]
     have:=Jm n day (y + 1) c' (by rw [show y + 1 + (n: Int)=y + ((n + 1 : Nat): Int) by omega];exact h1)
     exact ⟨this.1,this.2.1,by omega⟩
theorem t8 (day: Int) (h0: 0≤day) (h1: day < 2932897): dB (yrP day)≤day∧day < dB (yrP day + 1)∧1970≤yrP day∧yrP day≤9999:=by
 have:=Jm 9000 day 1970 (by rw [yW];exact h0) (Int.lt_of_lt_of_le h1 (by rw [← rG];exact gB (by decide)))
 refine ⟨this.1,this.2.1,this.2.2,?_⟩
 rcases Int.lt_or_le (yrP day) 10000 with h | h
 · omega
 · have e:=gB h
   rw [rG] at e
   have:=this.1
   unfold yrP at e
   omega
theorem abx {day y: Int} (h0: 0≤day) (h1: day < 2932897) (h2: dB y≤day) (h3: day < dB (y + 1)): y=yrP day:=by
 obtain ⟨g1,g2,_,_⟩:=t8 day h0 h1
 rcases Int.lt_trichotomy y (yrP day) with h | h | h
 · have:=gB (show y + 1≤yrP day by omega);omega
 · exact h
 · have:=gB (show yrP day + 1≤y by omega);omega
def mB (y: Int): Nat→Int
 | 0=>0
 | n + 1=>mB y n + lK y (n + 1)
theorem aec (y: Int): mB y 12=vD y:=by
 simp only [mB,lK,vD]
 cases nD y <;> decide
def moF: Nat→Int→Int→Int→Int
 | 0,_,_,m=>m
 | n + 1,y,d,m=>bif decide (mB y m.toNat≤d) then moF n y d (m + 1) else m
def moP (y d: Int): Int:=moF 12 y d 1
theorem Jn: ∀ (n: Nat) (y d m: Int),1≤m→m + n=13→mB y (m - 1).toNat≤d→d < vD y→mB y (moF n y d m - 1).toNat≤d∧d < mB y (moF n y d m).toNat∧m≤moF n y d m∧moF n y d m≤12
 | 0,y,d,m,h0,h1,h2,h3=>by
   have e: (m - 1).toNat=12:=by omega
   rw [e,aec] at h2;omega
 | n + 1,y,d,m,h0,h1,h2,h3=>by
   unfold moF
   cases c: decide (mB y m.toNat≤d)
   · have:=of_decide_eq_false c
     rw [cond_false];exact ⟨h2,by omega,Int.le_refl _,by omega⟩
   · have c':=of_decide_eq_true c
     rw [cond_true]
     have:=Jn n y d (m + 1) (by omega) (by omega) (by rw [show m + 1 - 1=m by omega];exact c') h3
     exact ⟨this.1,this.2.1,by omega,this.2.2.2⟩
structure Cv where
 y: Int
 m: Int
 d: Int
 h: Int
 i: Int
 s: Int
def c0: Cv:=⟨0,0,0,0,0,0⟩
def t_ (day: Int): Int:=day - dB (yrP day)
def oG (t: Int): Cv:=⟨yrP (t / 86400),moP (yrP (t / 86400)) (t_ (t / 86400)),t_ (t / 86400) - mB (yrP (t / 86400)) (moP (yrP (t / 86400)) (t_ (t / 86400)) - 1).toNat + 1,t / 3600 % 24,t / 60 % 60,t % 60⟩
def fb (t: Int): Bool:=decide (0≤t)&&decide (t≤253402300799)
def dJ (c: Cv): Bool:=(decide (1970≤c.y)&&decide (c.y≤9999))&&(decide (1≤c.m)&&decide (c.m≤12))&&(decide (1≤c.d)&&decide (c.d≤lK c.y c.m))&&(decide (0≤c.h)&&decide (c.h≤23))&&(decide (0≤c.i)&&decide (c.i≤59))&&(decide (0≤c.s)&&decide (c.s≤59))
def Vz (c: Cv): Int:=86400 * (dB c.y + mB c.y (c.m - 1).toNat + c.d - 1) + 3600 * c.h + 60 * c.i + c.s
def lL (c: Cv): Int×Bool:=bif dJ c then (Vz c,true) else (0,false)
theorem oH {y d: Int} (h0: 0≤d) (h1: d < vD y): mB y (moP y d - 1).toNat≤d∧d < mB y (moP y d).toNat∧1≤moP y d∧moP y d≤12:=
 Jn 12 y d 1 (by decide) (by decide) (by exact h0) h1
theorem mq (y m: Int) (h: 1≤m): mB y m.toNat=mB y (m - 1).toNat + lK y m:=by
 obtain ⟨k,rfl⟩: ∃ k: Nat,m=(k: Int) + 1:=⟨(m - 1).toNat,by omega⟩
 rw [show ((k: Int) + 1).toNat=k + 1 by omega,show ((k: Int) + 1 - 1).toNat=k by omega]
 rfl
theorem FY {t: Int} (h: fb t=true): 0≤t_ (t / 86400)∧t_ (t / 86400) < vD (yrP (t / 86400))∧1970≤yrP (t / 86400)∧yrP (t / 86400)≤9999:=by
 simp only [fb,Bool.and_eq_true,decide_eq_true_eq] at h
 obtain ⟨g1,g2,g3,g4⟩:=t8 (t / 86400) (by omega) (by omega)
 have:=yV (yrP (t / 86400))
 unfold t_
 exact ⟨by omega,by omega,g3,g4⟩
theorem CP {t: Int} (h: fb t=true): dJ (oG t)=true∧Vz (oG t)=t:=by
 obtain ⟨g0,g1,g2,g3⟩:=FY h
 obtain ⟨k1,k2,k3,k4⟩:=oH g0 g1
 have ks:=mq (yrP (t / 86400)) _ k3
 simp only [fb,Bool.and_eq_true,decide_eq_true_eq] at h
 refine ⟨?_,?_⟩
 · unfold dJ oG
   simp only [Bool.and_eq_true,decide_eq_true_eq]
   exact ⟨⟨⟨⟨⟨⟨g2,g3⟩,k3,k4⟩,by omega,by omega⟩,by omega,by omega⟩,by omega,by omega⟩,by omega,by omega⟩
 · unfold Vz oG
   simp only
   unfold t_
   omega
theorem mt (y: Int): ∀ (b a: Nat),a≤b→mB y a≤mB y b
 | 0,a,h=>by rw [Nat.le_zero.1 h];exact Int.le_refl _
 | b + 1,a,h=>by
   rcases Nat.eq_or_lt_of_le h with rfl | h'
   · exact Int.le_refl _
   · have:=mt y b a (by omega)
     have:=oF y (b + 1)
     show mB y a≤mB y b + lK y (b + 1)
     omega
theorem aed {c: Cv} (h: dJ c=true): fb (Vz c)=true∧oG (Vz c)=c:=by
 obtain ⟨y,m,d,hh,mi,s⟩:=c
 unfold dJ at h
 simp only [Bool.and_eq_true,decide_eq_true_eq] at h
 obtain ⟨⟨⟨⟨⟨⟨a1,a2⟩,b1,b2⟩,c1,c2⟩,d1,d2⟩,e1,e2⟩,f1,f2⟩:=h
 have hs:=mq y m b1
 have hm: mB y m.toNat≤vD y:=by rw [← aec];exact mt y 12 m.toNat (by omega)
 have hp: 0≤mB y (m - 1).toNat:=mt y (m - 1).toNat 0 (Nat.zero_le _)
 have hy:=yV y
 have hlo:=gB a1
 rw [yW] at hlo
 have hhi:=gB (show y + 1≤10000 by omega)
 rw [rG] at hhi
 generalize hx: Vz ⟨y,m,d,hh,mi,s⟩=x
 have hX: x=86400 * (dB y + mB y (m - 1).toNat + d - 1) + 3600 * hh + 60 * mi + s:=hx.symm
 have hday: x / 86400=dB y + mB y (m - 1).toNat + d - 1:=by omega
 have ht: fb x=true:=by
  unfold fb
  rw [dT' (by omega),dT' (by omega)];rfl
 refine ⟨ht,?_⟩
 have hyr: yrP (x / 86400)=y:=(abx (by omega) (by omega) (by omega) (by omega)).symm
 have hyd: t_ (x / 86400)=mB y (m - 1).toNat + d - 1:=by unfold t_;rw [hyr,hday];omega
 have hmo: moP y (mB y (m - 1).toNat + d - 1)=m:=by
  obtain ⟨k1,k2,k3,k4⟩:=oH (y:=y) (d:=mB y (m - 1).toNat + d - 1) (by omega) (by omega)
  generalize moP y (mB y (m - 1).toNat + d - 1)=q at k1 k2 k3 k4
  rcases Int.lt_trichotomy q m with h | h | h
  · have:=mt y (m - 1).toNat q.toNat (by omega);omega
  · exact h
  · have:=mt y (q - 1).toNat m.toNat (by omega);omega
 unfold oG
 rw [hyr,hyd,hmo]
 congr 1 <;> omega
def wdP (t: Int): Int:=(t / 86400 + 3) % 7
end
end Go.Proofs.YtgknmoadpgpdeaaGreatDoor.Ev
