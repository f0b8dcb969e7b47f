/- The texts Tb, one behind the other. -/
import Derived.Test.YtgknmoadpgpdeaaGreatDoorK19
import Derived.Lib.IndexMore
namespace Go.Proofs.YtgknmoadpgpdeaaGreatDoor.Ev
open Go Go.RowKit
set_option linter.unusedVariables false
set_option linter.unusedSimpArgs false
noncomputable section
def dg (n: Int): UInt8:=UInt8.ofNat (48 + (n % 10).toNat)
def aJ: Nat→Int→aa
 | 0,_=>[]
 | k + 1,n=>aJ k (n / 10)++[dg n]
theorem eE (n: Int): by8 (dg n)=48 + n % 10:=by
 unfold dg
 rw [lG _ (by omega)];omega
theorem aW: ∀ (k: Nat) (n: Int),(aJ k n).length=k
 | 0,_=>rfl
 | k + 1,n=>by unfold aJ;rw [List.length_append,aW k];rfl
def cP (w: Int): aa:=
 bif decide (w=0) then [77,111,110,100,97,121] else bif decide (w=1) then [84,117,101,115,100,97,121] else bif decide (w=2) then [87,101,100,110,101,115,100,97,121]
 else bif decide (w=3) then [84,104,117,114,115,100,97,121] else bif decide (w=4) then [70,114,105,100,97,121] else bif decide (w=5) then [83,97,116,117,114,100,97,121] else [83,117,110,100,97,121]
def adS: aa:=[74,97,110,70,101,98,77,97,114,65,112,114,77,97,121,74,117,110,74,117,108,65,117,103,83,101,112,79,99,116,78,111,118,68,101,99]
def cw (m: Int): aa:=cut adS (3 * m - 3) (3 * m)
def pp: aa:=[32,71,77,84]
def ap (c: Cv): aa:=aJ 2 c.h++58::aJ 2 c.i++58::aJ 2 c.s
def eJ (w: Int) (c: Cv): aa:=(cP w).take 3++[44,32]++aJ 2 c.d++32::cw c.m++32::aJ 4 c.y++32::ap c++pp
def f5 (w: Int) (c: Cv): aa:=cP w++[44,32]++aJ 2 c.d++45::cw c.m++45::aJ 2 c.y++32::ap c++pp
def mU (d: Int): aa:=bif decide (d < 10) then [32,dg d] else aJ 2 d
def fH (w: Int) (c: Cv): aa:=(cP w).take 3++32::cw c.m++32::mU c.d++32::ap c++32::aJ 4 c.y
def dO (t: Int): aa:=bif dZ t then eJ (wdP t) (mv t) else []
def dP (t: Int): aa:=bif dZ t&&decide ((mv t).y≤2069) then f5 (wdP t) (mv t) else []
def eF (t: Int): aa:=bif dZ t then fH (wdP t) (mv t) else []
def As (s: aa) (t: Int): Prop:=dZ t=true∧s≠[]∧(dO t=s∨dP t=s∨eF t=s)
open Classical in
def jK (s: aa): Int×Bool:=if h: ∃ t,As s t then (Classical.choose h,true) else (0,false)
theorem G5 {r: aa→Int×Bool} (h1: ∀ s t,As s t→r s=(t,true)) (h2: ∀ s,(∀ t,¬ As s t)→r s=(0,false)) (s: aa): r s=jK s:=by
 unfold jK
 split
 · rename_i h;exact h1 s _ (Classical.choose_spec h)
 · rename_i h;exact h2 s fun t ht=>h ⟨t,ht⟩
def dX: Option (Int×Nat)→aa→List Int
 | none,[]=>[]
 | some (n,_),[]=>[n]
 | none,c::r=>bif am (by8 c) then dX (some (by8 c - 48,1)) r else dX none r
 | some (n,k),c::r=>bif am (by8 c) then (bif decide (k < 9) then dX (some (10 * n + (by8 c - 48),k + 1)) r else n::dX (some (by8 c - 48,1)) r) else n::dX none r
def bN (s: aa): List Int:=dX none s
theorem eP (n: Int): am (by8 (dg n))=true:=by
 unfold am;rw [eE,dT' (by omega),dT' (by omega)];rfl
theorem ca {c: UInt8} {r: aa} (h: am (by8 c)=false): dX none (c::r)=dX none r:=by
 rw [dX,h];rfl
theorem dQ: ∀ (l r: aa),aH (fun n=> !am n) l=true→dX none (l++r)=dX none r
 | [],r,_=>rfl
 | c::l,r,h=>by
   have e: aH (fun n=> !am n) (c::l)=(!am (by8 c)&&aH (fun n=> !am n) l):=rfl
   rw [e,Bool.and_eq_true,Bool.not_eq_true'] at h
   rw [List.cons_append,ca h.1]
   exact dQ l r h.2
theorem eX {n: Int} {k: Nat} {c: UInt8} {r: aa} (h: am (by8 c)=false): dX (some (n,k)) (c::r)=n::dX none (c::r):=by
 rw [ca h,dX,h];rfl
theorem ie (n: Int) (h0: 0≤n) (h1: n≤99) (r: aa): dX none (aJ 2 n++r)=dX (some (n,2)) r:=by
 show dX none (dg (n / 10)::dg n::r)=_
 rw [dX,eP,cond_true,dX,eP,cond_true]
 show dX (some (10 * (by8 (dg (n / 10)) - 48) + (by8 (dg n) - 48),2)) r=_
 rw [eE,eE]
 congr 3;omega
theorem Au (n: Int) (h0: 0≤n) (h1: n≤9999) (r: aa): dX none (aJ 4 n++r)=dX (some (n,4)) r:=by
 show dX none (dg (n / 10 / 10 / 10)::dg (n / 10 / 10)::dg (n / 10)::dg n::r)=_
 rw [dX,eP,cond_true,dX,eP,cond_true,show decide (1 < 9)=true from rfl,cond_true,dX,eP,cond_true,show decide (1 + 1 < 9)=true from rfl,cond_true,dX,eP,cond_true,show decide (1 + 1 + 1 < 9)=true from rfl,cond_true]
 rw [eE,eE,eE,eE]
 congr 3;omega
theorem Tc (n: Int) (h0: 0≤n) (h1: n≤9) (r: aa): dX none (dg n::r)=dX (some (n,1)) r:=by
 rw [dX,eP,cond_true,eE]
 congr 3;omega
theorem Td (w: Int): aH (fun n=> !am n) (cP w)=true:=by
 unfold cP
 cases decide (w=0) <;> cases decide (w=1) <;> cases decide (w=2) <;> cases decide (w=3) <;> cases decide (w=4) <;> cases decide (w=5) <;> decide
theorem Av (w: Int): aH (fun n=> !am n) ((cP w).take 3)=true:=by
 unfold cP
 cases decide (w=0) <;> cases decide (w=1) <;> cases decide (w=2) <;> cases decide (w=3) <;> cases decide (w=4) <;> cases decide (w=5) <;> decide
theorem dR {m: Int} (h0: 1≤m) (h1: m≤12): m=1∨m=2∨m=3∨m=4∨m=5∨m=6∨m=7∨m=8∨m=9∨m=10∨m=11∨m=12:=by omega
theorem wC {m: Int} (h0: 1≤m) (h1: m≤12): aH (fun n=> !am n) (cw m)=true:=by
 rcases dR h0 h1 with h | h | h | h | h | h | h | h | h | h | h | h <;> subst h <;> decide
theorem mV (c: Cv) (h: ce c=true) (r: aa): dX none (ap c++r)=c.h::c.i::dX (some (c.s,2)) r:=by
 unfold ce at h
 simp only [Bool.and_eq_true,decide_eq_true_eq] at h
 unfold ap
 simp only [List.append_assoc,List.cons_append]
 rw [ie _ (by omega) (by omega),eX (by decide),ca (by decide),ie _ (by omega) (by omega),eX (by decide),ca (by decide),ie _ (by omega) (by omega)]
def mW (s sub: aa): Bool:=Lib.contains s sub
theorem G6 (b: UInt8) (l sub: aa): mW (b::l) sub=(sub.isPrefixOf (b::l)||mW l sub):=by
 unfold mW Lib.contains
 rw [show Lib.index (b::l) sub=if sub.isPrefixOf (b::l) then 0 else if Lib.index l sub== -1 then -1 else Lib.index l sub + 1 from rfl]
 have:=Lib.index_ge l sub
 cases sub.isPrefixOf (b::l)
 · simp only [Bool.false_eq_true,if_false,Bool.false_or]
   by_cases h: Lib.index l sub= -1
   · rw [h];rfl
   · rw [if_neg (by simpa using h),dT' (show 0≤Lib.index l sub + 1 by omega),dT' (show 0≤Lib.index l sub by omega)]
 · rfl
theorem wD {b a: UInt8} {l sub: aa} (h: a≠b): mW (b::l) (a::sub)=mW l (a::sub):=by
 rw [G6]
 have e: (a::sub).isPrefixOf (b::l)=false:=by
  simp only [List.isPrefixOf,Bool.and_eq_false_iff,beq_eq_false_iff_ne,ne_eq];exact .inl h
 rw [e,Bool.false_or]
theorem wE (a: UInt8) (sub: aa) (ha: 65≤by8 a): ∀ (l r: aa),aH (fun n=>decide (n < 65)) l=true→mW (l++r) (a::sub)=mW r (a::sub)
 | [],r,_=>rfl
 | c::l,r,h=>by
   have e: aH (fun n=>decide (n < 65)) (c::l)=(decide (by8 c < 65)&&aH (fun n=>decide (n < 65)) l):=rfl
   rw [e,Bool.and_eq_true,decide_eq_true_eq] at h
   rw [List.cons_append,wD (fun g=>by subst g;omega)]
   exact wE a sub ha l r h.2
theorem f7: ∀ (k: Nat) (n: Int),aH (fun n=>decide (n < 65)) (aJ k n)=true
 | 0,_=>rfl
 | k + 1,n=>by
   unfold aJ
   rw [dq,f7 k]
   show (true&&(decide (by8 (dg n) < 65)&&true))=true
   rw [eE,dT' (by omega)];rfl
theorem Aw (c: Cv): aH (fun n=>decide (n < 65)) (ap c)=true:=by
 unfold ap
 have e: ∀ l: aa,aH (fun n=>decide (n < 65)) (58::l)=aH (fun n=>decide (n < 65)) l:=fun l=>rfl
 rw [dq,e,dq,e,f7,f7,f7];rfl
theorem gu {m: Int} (h0: 1≤m) (h1: m≤12): ∃ a b c,cw m=[a,b,c]∧65≤by8 a∧by8 a≤90∧97≤by8 b∧97≤by8 c:=by
 rcases dR h0 h1 with h | h | h | h | h | h | h | h | h | h | h | h <;> subst h <;> exact ⟨_,_,_,rfl,by decide,by decide,by decide,by decide⟩
theorem XJ {m k: Int} (h0: 1≤m) (h1: m≤12) (k0: 1≤k) (k1: k≤12) (h: cw m=cw k): m=k:=by
 rcases dR h0 h1 with g | g | g | g | g | g | g | g | g | g | g | g <;> rcases dR k0 k1 with f | f | f | f | f | f | f | f | f | f | f | f <;> subst g <;> subst f <;> first | rfl | (exact absurd h (by decide))
def Dy (T: aa): Prop:=∀ k: Int,1≤k→k≤12→mW T (cw k)=false
theorem N0: Dy pp:=by
 intro k h0 h1
 rcases dR h0 h1 with g | g | g | g | g | g | g | g | g | g | g | g <;> subst g <;> decide
theorem N1: Dy []:=by
 intro k h0 h1
 rcases dR h0 h1 with g | g | g | g | g | g | g | g | g | g | g | g <;> subst g <;> decide
theorem rx {l T: aa} (hl: aH (fun n=>decide (n < 65)) l=true) (hT: Dy T): Dy (l++T):=by
 intro k h0 h1
 obtain ⟨a,b,c,e,ha,_⟩:=gu h0 h1
 have:=hT k h0 h1
 rw [e] at this ⊢
 rw [wE a _ ha l T hl];exact this
theorem XK {m k: Int} (h0: 1≤m) (h1: m≤12) (k0: 1≤k) (k1: k≤12) {T: aa} (hT: Dy T): mW (cw m++T) (cw k)=decide (k=m):=by
 have h:=hT k k0 k1
 obtain ⟨a,b,c,e,ha,ha',hb,hc⟩:=gu h0 h1
 obtain ⟨a2,b2,c2,e2,ha2,ha2',hb2,hc2⟩:=gu k0 k1
 have inj: [a2,b2,c2]=[a,b,c]↔k=m:=by
  rw [← e,← e2];exact ⟨fun g=>XJ k0 k1 h0 h1 g,fun g=>by rw [g]⟩
 rw [e2] at h
 rw [e,e2]
 show mW (a::b::c::T) (a2::[b2,c2])=_
 rw [G6,wD (fun g=>by subst g;omega),wD (fun g=>by subst g;omega),h,Bool.or_false]
 rw [Bool.eq_iff_iff,decide_eq_true_eq,← inj]
 simp [List.isPrefixOf]
def G7 (s: aa): Int:=
 bif mW s (cw 1) then 1 else bif mW s (cw 2) then 2 else bif mW s (cw 3) then 3 else bif mW s (cw 4) then 4 else bif mW s (cw 5) then 5 else bif mW s (cw 6) then 6
 else bif mW s (cw 7) then 7 else bif mW s (cw 8) then 8 else bif mW s (cw 9) then 9 else bif mW s (cw 10) then 10 else bif mW s (cw 11) then 11 else bif mW s (cw 12) then 12 else 0
theorem Dz {m: Int} (h0: 1≤m) (h1: m≤12) {l T: aa} (hl: aH (fun n=>decide (n < 65)) l=true) (hT: Dy T): G7 (l++(cw m++T))=m:=by
 have key: ∀ k: Int,1≤k→k≤12→mW (l++(cw m++T)) (cw k)=decide (k=m):=fun k k0 k1=>by
  obtain ⟨a,b,c,e,ha,_⟩:=gu k0 k1
  have:=XK h0 h1 k0 k1 hT
  rw [e] at this ⊢
  rw [wE a _ ha l _ hl];exact this
 unfold G7
 rw [key 1 (by decide) (by decide),key 2 (by decide) (by decide),key 3 (by decide) (by decide),key 4 (by decide) (by decide),key 5 (by decide) (by decide),key 6 (by decide) (by decide),key 7 (by decide) (by decide),key 8 (by decide) (by decide),key 9 (by decide) (by decide),key 10 (by decide) (by decide),key 11 (by decide) (by decide),key 12 (by decide) (by decide)]
 rcases dR h0 h1 with g | g | g | g | g | g | g | g | g | g | g | g <;> subst g <;> rfl
end
end Go.Proofs.YtgknmoadpgpdeaaGreatDoor.Ev
