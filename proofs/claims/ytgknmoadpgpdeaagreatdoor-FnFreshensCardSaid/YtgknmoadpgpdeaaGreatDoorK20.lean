/- The texts Tb, one behind the other. -/
import Derived.Test.YtgknmoadpgpdeaaGreatDoorK19
import Derived.Lib.IndexMore
namespace Go.Proofs.YtgknmoadpgpdeaaGreatDoor.Ev
open Go Go.RowKit
set_option linter.unusedVariables false
set_option linter.unusedSimpArgs false
noncomputable section
def dg (n: Int): UInt8:=UInt8.ofNat (48 + (n % 10).toNat)
def bh: Nat→Int→aa
 | 0,_=>[]
 | k + 1,n=>bh k (n / 10)++[dg n]
theorem lM (n: Int): by8 (dg n)=48 + n % 10:=by
 unfold dg
 rw [nC _ (by omega)];omega
theorem cF: ∀ (k: Nat) (n: Int),(bh k n).length=k
 | 0,_=>rfl
 | k + 1,n=>by unfold bh;rw [List.length_append,cF k];rfl
def eb (w: Int): aa:=
 bif decide (w=0) then [77,111,110,100,97,121] else bif decide (w=1) then [84,117,101,115,100,97,121] else bif decide (w=2) then [87,101,100,110,101,115,100,97,121]
 else bif decide (w=3) then [84,104,117,114,115,100,97,121] else bif decide (w=4) then [70,114,105,100,97,121] else bif decide (w=5) then [83,97,116,117,114,100,97,121] else [83,117,110,100,97,121]
def ah1: aa:=[74,97,110,70,101,98,77,97,114,65,112,114,77,97,121,74,117,110,74,117,108,65,117,103,83,101,112,79,99,116,78,111,118,68,101,99]
def eZ (m: Int): aa:=cut ah1 (3 * m - 3) (3 * m)
def MI: aa:=[32,71,77,84]
def aZ (c: Cv): aa:=bh 2 c.h++58::bh 2 c.i++58::bh 2 c.s
def lx (w: Int) (c: Cv): aa:=(eb w).take 3++[44,32]++bh 2 c.d++32::eZ c.m++32::bh 4 c.y++32::aZ c++MI
def mu (w: Int) (c: Cv): aa:=eb w++[44,32]++bh 2 c.d++45::eZ c.m++45::bh 2 c.y++32::aZ c++MI
def vE (d: Int): aa:=bif decide (d < 10) then [32,dg d] else bh 2 d
def oI (w: Int) (c: Cv): aa:=(eb w).take 3++32::eZ c.m++32::vE c.d++32::aZ c++32::bh 4 c.y
def iq (t: Int): aa:=bif fb t then lx (wdP t) (oG t) else []
def jZ (t: Int): aa:=bif fb t&&decide ((oG t).y≤2069) then mu (wdP t) (oG t) else []
def j0 (t: Int): aa:=bif fb t then oI (wdP t) (oG t) else []
def MJ (s: aa) (t: Int): Prop:=fb t=true∧s≠[]∧(iq t=s∨jZ t=s∨j0 t=s)
open Classical in
def q9 (s: aa): Int×Bool:=if h: ∃ t,MJ s t then (Classical.choose h,true) else (0,false)
theorem WJ {r: aa→Int×Bool} (h1: ∀ s t,MJ s t→r s=(t,true)) (h2: ∀ s,(∀ t,¬ MJ s t)→r s=(0,false)) (s: aa): r s=q9 s:=by
 unfold q9
 split
 · rename_i h;exact h1 s _ (Classical.choose_spec h)
 · rename_i h;exact h2 s fun t ht=>h ⟨t,ht⟩
def e8: Option (Int×Nat)→aa→List Int
 | none,[]=>[]
 | some (n,_),[]=>[n]
 | none,c::r=>bif aJ (by8 c) then e8 (some (by8 c - 48,1)) r else e8 none r
 | some (n,k),c::r=>bif aJ (by8 c) then (bif decide (k < 9) then e8 (some (10 * n + (by8 c - 48),k + 1)) r else n::e8 (some (by8 c - 48,1)) r) else n::e8 none r
def bR (s: aa): List Int:=e8 none s
theorem nE (n: Int): aJ (by8 (dg n))=true:=by
 unfold aJ;rw [lM,dT' (by omega),dT' (by omega)];rfl
theorem cj {c: UInt8} {r: aa} (h: aJ (by8 c)=false): e8 none (c::r)=e8 none r:=by
 rw [e8,h];rfl
theorem eS: ∀ (l r: aa),aU (fun n=> !aJ n) l=true→e8 none (l++r)=e8 none r
 | [],r,_=>rfl
 | c::l,r,h=>by
   have e: aU (fun n=> !aJ n) (c::l)=(!aJ (by8 c)&&aU (fun n=> !aJ n) l):=rfl
   rw [e,Bool.and_eq_true,Bool.not_eq_true'] at h
   rw [List.cons_append,cj h.1]
   exact eS l r h.2
theorem gc {n: Int} {k: Nat} {c: UInt8} {r: aa} (h: aJ (by8 c)=false): e8 (some (n,k)) (c::r)=n::e8 none (c::r):=by
 rw [cj h,e8,h];rfl
theorem jw (n: Int) (h0: 0≤n) (h1: n≤99) (r: aa): e8 none (bh 2 n++r)=e8 (some (n,2)) r:=by
 show e8 none (dg (n / 10)::dg n::r)=_
 rw [e8,nE,cond_true,e8,nE,cond_true]
 show e8 (some (10 * (by8 (dg (n / 10)) - 48) + (by8 (dg n) - 48),2)) r=_
 rw [lM,lM]
 congr 3;omega
theorem CQ (n: Int) (h0: 0≤n) (h1: n≤9999) (r: aa): e8 none (bh 4 n++r)=e8 (some (n,4)) r:=by
 show e8 none (dg (n / 10 / 10 / 10)::dg (n / 10 / 10)::dg (n / 10)::dg n::r)=_
 rw [e8,nE,cond_true,e8,nE,cond_true,show decide (1 < 9)=true from rfl,cond_true,e8,nE,cond_true,show decide (1 + 1 < 9)=true from rfl,cond_true,e8,nE,cond_true,show decide (1 + 1 + 1 < 9)=true from rfl,cond_true]
 rw [lM,lM,lM,lM]
 congr 3;omega
theorem WK (n: Int) (h0: 0≤n) (h1: n≤9) (r: aa): e8 none (dg n::r)=e8 (some (n,1)) r:=by
 rw [e8,nE,cond_true,lM]
 congr 3;omega
theorem WL (w: Int): aU (fun n=> !aJ n) (eb w)=true:=by
 unfold eb
 cases decide (w=0) <;> cases decide (w=1) <;> cases decide (w=2) <;> cases decide (w=3) <;> cases decide (w=4) <;> cases decide (w=5) <;> decide
theorem CR (w: Int): aU (fun n=> !aJ n) ((eb w).take 3)=true:=by
 unfold eb
 cases decide (w=0) <;> cases decide (w=1) <;> cases decide (w=2) <;> cases decide (w=3) <;> cases decide (w=4) <;> cases decide (w=5) <;> decide
theorem fM {m: Int} (h0: 1≤m) (h1: m≤12): m=1∨m=2∨m=3∨m=4∨m=5∨m=6∨m=7∨m=8∨m=9∨m=10∨m=11∨m=12:=by omega
theorem yX {m: Int} (h0: 1≤m) (h1: m≤12): aU (fun n=> !aJ n) (eZ m)=true:=by
 rcases fM h0 h1 with h | h | h | h | h | h | h | h | h | h | h | h <;> subst h <;> decide
theorem oJ (c: Cv) (h: dJ c=true) (r: aa): e8 none (aZ c++r)=c.h::c.i::e8 (some (c.s,2)) r:=by
 unfold dJ at h
 simp only [Bool.and_eq_true,decide_eq_true_eq] at h
 unfold aZ
 simp only [List.append_assoc,List.cons_append]
 rw [jw _ (by omega) (by omega),gc (by decide),cj (by decide),jw _ (by omega) (by omega),gc (by decide),cj (by decide),jw _ (by omega) (by omega)]
def oK (s sub: aa): Bool:=Lib.contains s sub
theorem Jo (b: UInt8) (l sub: aa): oK (b::l) sub=(sub.isPrefixOf (b::l)||oK l sub):=by
 unfold oK Lib.contains
 rw [show Lib.index (b::l) sub=if sub.isPrefixOf (b::l) then 0 else if Lib.index l sub== -1 then -1 else Lib.index l sub + 1 from rfl]
 have:=Lib.index_ge l sub
 cases sub.isPrefixOf (b::l)
 · simp only [Bool.false_eq_true,if_false,Bool.false_or]
   by_cases h: Lib.index l sub= -1
   · rw [h];rfl
   · rw [if_neg (by simpa using h),dT' (show 0≤Lib.index l sub + 1 by omega),dT' (show 0≤Lib.index l sub by omega)]
 · rfl
theorem yY {b a: UInt8} {l sub: aa} (h: a≠b): oK (b::l) (a::sub)=oK l (a::sub):=by
 rw [Jo]
 have e: (a::sub).isPrefixOf (b::l)=false:=by
  simp only [List.isPrefixOf,Bool.and_eq_false_iff,beq_eq_false_iff_ne,ne_eq];exact .inl h
 rw [e,Bool.false_or]
theorem yZ (a: UInt8) (sub: aa) (ha: 65≤by8 a): ∀ (l r: aa),aU (fun n=>decide (n < 65)) l=true→oK (l++r) (a::sub)=oK r (a::sub)
 | [],r,_=>rfl
 | c::l,r,h=>by
   have e: aU (fun n=>decide (n < 65)) (c::l)=(decide (by8 c < 65)&&aU (fun n=>decide (n < 65)) l):=rfl
   rw [e,Bool.and_eq_true,decide_eq_true_eq] at h
   rw [List.cons_append,yY (fun g=>by subst g;omega)]
   exact yZ a sub ha l r h.2
theorem ir: ∀ (k: Nat) (n: Int),aU (fun n=>decide (n < 65)) (bh k n)=true
 | 0,_=>rfl
 | k + 1,n=>by
   unfold bh
   rw [en,ir k]
   show (true&&(decide (by8 (dg n) < 65)&&true))=true
   rw [lM,dT' (by omega)];rfl
theorem CS (c: Cv): aU (fun n=>decide (n < 65)) (aZ c)=true:=by
 unfold aZ
 have e: ∀ l: aa,aU (fun n=>decide (n < 65)) (58::l)=aU (fun n=>decide (n < 65)) l:=fun l=>rfl
 rw [en,e,en,e,ir,ir,ir];rfl
theorem iP {m: Int} (h0: 1≤m) (h1: m≤12): ∃ a b c,eZ m=[a,b,c]∧65≤by8 a∧by8 a≤90∧97≤by8 b∧97≤by8 c:=by
 rcases fM h0 h1 with h | h | h | h | h | h | h | h | h | h | h | h <;> subst h <;> exact ⟨_,_,_,rfl,by decide,by decide,by decide,by decide⟩
theorem aby {m k: Int} (h0: 1≤m) (h1: m≤12) (k0: 1≤k) (k1: k≤12) (h: eZ m=eZ k): m=k:=by
 rcases fM h0 h1 with g | g | g | g | g | g | g | g | g | g | g | g <;> rcases fM k0 k1 with f | f | f | f | f | f | f | f | f | f | f | f <;> subst g <;> subst f <;> first | rfl | (exact absurd h (by decide))
def FZ (T: aa): Prop:=∀ k: Int,1≤k→k≤12→oK T (eZ k)=false
theorem QD: FZ MI:=by
 intro k h0 h1
 rcases fM h0 h1 with g | g | g | g | g | g | g | g | g | g | g | g <;> subst g <;> decide
theorem QE: FZ []:=by
 intro k h0 h1
 rcases fM h0 h1 with g | g | g | g | g | g | g | g | g | g | g | g <;> subst g <;> decide
theorem ua {l T: aa} (hl: aU (fun n=>decide (n < 65)) l=true) (hT: FZ T): FZ (l++T):=by
 intro k h0 h1
 obtain ⟨a,b,c,e,ha,_⟩:=iP h0 h1
 have:=hT k h0 h1
 rw [e] at this ⊢
 rw [yZ a _ ha l T hl];exact this
theorem abz {m k: Int} (h0: 1≤m) (h1: m≤12) (k0: 1≤k) (k1: k≤12) {T: aa} (hT: FZ T): oK (eZ m++T) (eZ k)=decide (k=m):=by
 have h:=hT k k0 k1
 obtain ⟨a,b,c,e,ha,ha',hb,hc⟩:=iP h0 h1
 obtain ⟨a2,b2,c2,e2,ha2,ha2',hb2,hc2⟩:=iP k0 k1
 have inj: [a2,b2,c2]=[a,b,c]↔k=m:=by
  rw [← e,← e2];exact ⟨fun g=>aby k0 k1 h0 h1 g,fun g=>by rw [g]⟩
 rw [e2] at h
 rw [e,e2]
 show oK (a::b::c::T) (a2::[b2,c2])=_
 rw [Jo,yY (fun g=>by subst g;omega),yY (fun g=>by subst g;omega),h,Bool.or_false]
 rw [Bool.eq_iff_iff,decide_eq_true_eq,← inj]
 simp [List.isPrefixOf]
def Jp (s: aa): Int:=
 bif oK s (eZ 1) then 1 else bif oK s (eZ 2) then 2 else bif oK s (eZ 3) then 3 else bif oK s (eZ 4) then 4 else bif oK s (eZ 5) then 5 else bif oK s (eZ 6) then 6
 else bif oK s (eZ 7) then 7 else bif oK s (eZ 8) then 8 else bif oK s (eZ 9) then 9 else bif oK s (eZ 10) then 10 else bif oK s (eZ 11) then 11 else bif oK s (eZ 12) then 12 else 0
theorem F1 {m: Int} (h0: 1≤m) (h1: m≤12) {l T: aa} (hl: aU (fun n=>decide (n < 65)) l=true) (hT: FZ T): Jp (l++(eZ m++T))=m:=by
 have key: ∀ k: Int,1≤k→k≤12→oK (l++(eZ m++T)) (eZ k)=decide (k=m):=fun k k0 k1=>by
  obtain ⟨a,b,c,e,ha,_⟩:=iP k0 k1
  have:=abz h0 h1 k0 k1 hT
  rw [e] at this ⊢
  rw [yZ a _ ha l _ hl];exact this
 unfold Jp
 rw [key 1 (by decide) (by decide),key 2 (by decide) (by decide),key 3 (by decide) (by decide),key 4 (by decide) (by decide),key 5 (by decide) (by decide),key 6 (by decide) (by decide),key 7 (by decide) (by decide),key 8 (by decide) (by decide),key 9 (by decide) (by decide),key 10 (by decide) (by decide),key 11 (by decide) (by decide),key 12 (by decide) (by decide)]
 rcases fM h0 h1 with g | g | g | g | g | g | g | g | g | g | g | g <;> subst g <;> rfl
end
end Go.Proofs.YtgknmoadpgpdeaaGreatDoor.Ev
