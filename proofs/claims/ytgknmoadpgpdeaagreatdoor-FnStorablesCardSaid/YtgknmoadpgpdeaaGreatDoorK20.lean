/- The texts Tb, one behind the other. -/
import Derived.Test.YtgknmoadpgpdeaaGreatDoorK19
import Derived.Lib.IndexMore
namespace Go.Proofs.YtgknmoadpgpdeaaGreatDoor.Ev
open Go Go.RowKit
set_option linter.unusedVariables false
set_option linter.unusedSimpArgs false
noncomputable section
def dg (n: Int): UInt8:=UInt8.ofNat (48 + (n % 10).toNat)
def be: Nat→Int→aa
 | 0,_=>[]
 | k + 1,n=>be k (n / 10)++[dg n]
theorem lm (n: Int): by8 (dg n)=48 + n % 10:=by
 unfold dg
 rw [nE _ (by omega)];omega
theorem cu: ∀ (k: Nat) (n: Int),(be k n).length=k
 | 0,_=>rfl
 | k + 1,n=>by unfold be;rw [List.length_append,cu k];rfl
def dJ (w: Int): aa:=
 bif decide (w=0) then [77,111,110,100,97,121] else bif decide (w=1) then [84,117,101,115,100,97,121] else bif decide (w=2) then [87,101,100,110,101,115,100,97,121]
 else bif decide (w=3) then [84,104,117,114,115,100,97,121] else bif decide (w=4) then [70,114,105,100,97,121] else bif decide (w=5) then [83,97,116,117,114,100,97,121] else [83,117,110,100,97,121]
def ait: aa:=[74,97,110,70,101,98,77,97,114,65,112,114,77,97,121,74,117,110,74,117,108,65,117,103,83,101,112,79,99,116,78,111,118,68,101,99]
def eD (m: Int): aa:=cut ait (3 * m - 3) (3 * m)
def Ot: aa:=[32,71,77,84]
def aW (c: Cv): aa:=be 2 c.h++58::be 2 c.i++58::be 2 c.s
def k_ (w: Int) (c: Cv): aa:=(dJ w).take 3++[44,32]++be 2 c.d++32::eD c.m++32::be 4 c.y++32::aW c++Ot
def lY (w: Int) (c: Cv): aa:=dJ w++[44,32]++be 2 c.d++45::eD c.m++45::be 2 c.y++32::aW c++Ot
def wD (d: Int): aa:=bif decide (d < 10) then [32,dg d] else be 2 d
def pB (w: Int) (c: Cv): aa:=(dJ w).take 3++32::eD c.m++32::wD c.d++32::aW c++32::be 4 c.y
def ia (t: Int): aa:=bif fx t then k_ (wdP t) (pz t) else []
def jB (t: Int): aa:=bif fx t&&decide ((pz t).y≤2069) then lY (wdP t) (pz t) else []
def jC (t: Int): aa:=bif fx t then pB (wdP t) (pz t) else []
def Ou (s: aa) (t: Int): Prop:=fx t=true∧s≠[]∧(ia t=s∨jB t=s∨jC t=s)
open Classical in
def rK (s: aa): Int×Bool:=if h: ∃ t,Ou s t then (Classical.choose h,true) else (0,false)
theorem Xl {r: aa→Int×Bool} (h1: ∀ s t,Ou s t→r s=(t,true)) (h2: ∀ s,(∀ t,¬ Ou s t)→r s=(0,false)) (s: aa): r s=rK s:=by
 unfold rK
 split
 · rename_i h;exact h1 s _ (Classical.choose_spec h)
 · rename_i h;exact h2 s fun t ht=>h ⟨t,ht⟩
def eE: Option (Int×Nat)→aa→List Int
 | none,[]=>[]
 | some (n,_),[]=>[n]
 | none,c::r=>bif aB (by8 c) then eE (some (by8 c - 48,1)) r else eE none r
 | some (n,k),c::r=>bif aB (by8 c) then (bif decide (k < 9) then eE (some (10 * n + (by8 c - 48),k + 1)) r else n::eE (some (by8 c - 48,1)) r) else n::eE none r
def bP (s: aa): List Int:=eE none s
theorem nG (n: Int): aB (by8 (dg n))=true:=by
 unfold aB;rw [lm,dT' (by omega),dT' (by omega)];rfl
theorem cf {c: UInt8} {r: aa} (h: aB (by8 c)=false): eE none (c::r)=eE none r:=by
 rw [eE,h];rfl
theorem et: ∀ (l r: aa),aP (fun n=> !aB n) l=true→eE none (l++r)=eE none r
 | [],r,_=>rfl
 | c::l,r,h=>by
   have e: aP (fun n=> !aB n) (c::l)=(!aB (by8 c)&&aP (fun n=> !aB n) l):=rfl
   rw [e,Bool.and_eq_true,Bool.not_eq_true'] at h
   rw [List.cons_append,cf h.1]
   exact et l r h.2
theorem fO {n: Int} {k: Nat} {c: UInt8} {r: aa} (h: aB (by8 c)=false): eE (some (n,k)) (c::r)=n::eE none (c::r):=by
 rw [cf h,eE,h];rfl
theorem ji (n: Int) (h0: 0≤n) (h1: n≤99) (r: aa): eE none (be 2 n++r)=eE (some (n,2)) r:=by
 show eE none (dg (n / 10)::dg n::r)=_
 rw [eE,nG,cond_true,eE,nG,cond_true]
 show eE (some (10 * (by8 (dg (n / 10)) - 48) + (by8 (dg n) - 48),2)) r=_
 rw [lm,lm]
 congr 3;omega
theorem D8 (n: Int) (h0: 0≤n) (h1: n≤9999) (r: aa): eE none (be 4 n++r)=eE (some (n,4)) r:=by
 show eE none (dg (n / 10 / 10 / 10)::dg (n / 10 / 10)::dg (n / 10)::dg n::r)=_
 rw [eE,nG,cond_true,eE,nG,cond_true,show decide (1 < 9)=true from rfl,cond_true,eE,nG,cond_true,show decide (1 + 1 < 9)=true from rfl,cond_true,eE,nG,cond_true,show decide (1 + 1 + 1 < 9)=true from rfl,cond_true]
 rw [lm,lm,lm,lm]
 congr 3;omega
theorem Xm (n: Int) (h0: 0≤n) (h1: n≤9) (r: aa): eE none (dg n::r)=eE (some (n,1)) r:=by
 rw [eE,nG,cond_true,lm]
 congr 3;omega
theorem Xn (w: Int): aP (fun n=> !aB n) (dJ w)=true:=by
 unfold dJ
 cases decide (w=0) <;> cases decide (w=1) <;> cases decide (w=2) <;> cases decide (w=3) <;> cases decide (w=4) <;> cases decide (w=5) <;> decide
theorem D9 (w: Int): aP (fun n=> !aB n) ((dJ w).take 3)=true:=by
 unfold dJ
 cases decide (w=0) <;> cases decide (w=1) <;> cases decide (w=2) <;> cases decide (w=3) <;> cases decide (w=4) <;> cases decide (w=5) <;> decide
theorem fk {m: Int} (h0: 1≤m) (h1: m≤12): m=1∨m=2∨m=3∨m=4∨m=5∨m=6∨m=7∨m=8∨m=9∨m=10∨m=11∨m=12:=by omega
theorem Aj {m: Int} (h0: 1≤m) (h1: m≤12): aP (fun n=> !aB n) (eD m)=true:=by
 rcases fk h0 h1 with h | h | h | h | h | h | h | h | h | h | h | h <;> subst h <;> decide
theorem pC (c: Cv) (h: dj c=true) (r: aa): eE none (aW c++r)=c.h::c.i::eE (some (c.s,2)) r:=by
 unfold dj at h
 simp only [Bool.and_eq_true,decide_eq_true_eq] at h
 unfold aW
 simp only [List.append_assoc,List.cons_append]
 rw [ji _ (by omega) (by omega),fO (by decide),cf (by decide),ji _ (by omega) (by omega),fO (by decide),cf (by decide),ji _ (by omega) (by omega)]
def pD (s sub: aa): Bool:=Lib.contains s sub
theorem Lt (b: UInt8) (l sub: aa): pD (b::l) sub=(sub.isPrefixOf (b::l)||pD l sub):=by
 unfold pD Lib.contains
 rw [show Lib.index (b::l) sub=if sub.isPrefixOf (b::l) then 0 else if Lib.index l sub== -1 then -1 else Lib.index l sub + 1 from rfl]
 have:=Lib.index_ge l sub
 cases sub.isPrefixOf (b::l)
 · simp only [Bool.false_eq_true,if_false,Bool.false_or]
   by_cases h: Lib.index l sub= -1
   · rw [h];rfl
   · rw [if_neg (by simpa using h),dT' (show 0≤Lib.index l sub + 1 by omega),dT' (show 0≤Lib.index l sub by omega)]
 · rfl
theorem Ak {b a: UInt8} {l sub: aa} (h: a≠b): pD (b::l) (a::sub)=pD l (a::sub):=by
 rw [Lt]
 have e: (a::sub).isPrefixOf (b::l)=false:=by
  simp only [List.isPrefixOf,Bool.and_eq_false_iff,beq_eq_false_iff_ne,ne_eq];exact .inl h
 rw [e,Bool.false_or]
theorem Al (a: UInt8) (sub: aa) (ha: 65≤by8 a): ∀ (l r: aa),aP (fun n=>decide (n < 65)) l=true→pD (l++r) (a::sub)=pD r (a::sub)
 | [],r,_=>rfl
 | c::l,r,h=>by
   have e: aP (fun n=>decide (n < 65)) (c::l)=(decide (by8 c < 65)&&aP (fun n=>decide (n < 65)) l):=rfl
   rw [e,Bool.and_eq_true,decide_eq_true_eq] at h
   rw [List.cons_append,Ak (fun g=>by subst g;omega)]
   exact Al a sub ha l r h.2
theorem ib: ∀ (k: Nat) (n: Int),aP (fun n=>decide (n < 65)) (be k n)=true
 | 0,_=>rfl
 | k + 1,n=>by
   unfold be
   rw [dN,ib k]
   show (true&&(decide (by8 (dg n) < 65)&&true))=true
   rw [lm,dT' (by omega)];rfl
theorem D_ (c: Cv): aP (fun n=>decide (n < 65)) (aW c)=true:=by
 unfold aW
 have e: ∀ l: aa,aP (fun n=>decide (n < 65)) (58::l)=aP (fun n=>decide (n < 65)) l:=fun l=>rfl
 rw [dN,e,dN,e,ib,ib,ib];rfl
theorem iy {m: Int} (h0: 1≤m) (h1: m≤12): ∃ a b c,eD m=[a,b,c]∧65≤by8 a∧by8 a≤90∧97≤by8 b∧97≤by8 c:=by
 rcases fk h0 h1 with h | h | h | h | h | h | h | h | h | h | h | h <;> subst h <;> exact ⟨_,_,_,rfl,by decide,by decide,by decide,by decide⟩
theorem abJ {m k: Int} (h0: 1≤m) (h1: m≤12) (k0: 1≤k) (k1: k≤12) (h: eD m=eD k): m=k:=by
 rcases fk h0 h1 with g | g | g | g | g | g | g | g | g | g | g | g <;> rcases fk k0 k1 with f | f | f | f | f | f | f | f | f | f | f | f <;> subst g <;> subst f <;> first | rfl | (exact absurd h (by decide))
def Ht (T: aa): Prop:=∀ k: Int,1≤k→k≤12→pD T (eD k)=false
theorem Sc: Ht Ot:=by
 intro k h0 h1
 rcases fk h0 h1 with g | g | g | g | g | g | g | g | g | g | g | g <;> subst g <;> decide
theorem Sd: Ht []:=by
 intro k h0 h1
 rcases fk h0 h1 with g | g | g | g | g | g | g | g | g | g | g | g <;> subst g <;> decide
theorem uN {l T: aa} (hl: aP (fun n=>decide (n < 65)) l=true) (hT: Ht T): Ht (l++T):=by
 intro k h0 h1
 obtain ⟨a,b,c,e,ha,_⟩:=iy h0 h1
 have:=hT k h0 h1
 rw [e] at this ⊢
 rw [Al a _ ha l T hl];exact this
theorem abK {m k: Int} (h0: 1≤m) (h1: m≤12) (k0: 1≤k) (k1: k≤12) {T: aa} (hT: Ht T): pD (eD m++T) (eD k)=decide (k=m):=by
 have h:=hT k k0 k1
 obtain ⟨a,b,c,e,ha,ha',hb,hc⟩:=iy h0 h1
 obtain ⟨a2,b2,c2,e2,ha2,ha2',hb2,hc2⟩:=iy k0 k1
 have inj: [a2,b2,c2]=[a,b,c]↔k=m:=by
  rw [← e,← e2];exact ⟨fun g=>abJ k0 k1 h0 h1 g,fun g=>by rw [g]⟩
 rw [e2] at h
 rw [e,e2]
 show pD (a::b::c::T) (a2::[b2,c2])=_
 rw [Lt,Ak (fun g=>by subst g;omega),Ak (fun g=>by subst g;omega),h,Bool.or_false]
 rw [Bool.eq_iff_iff,decide_eq_true_eq,← inj]
 simp [List.isPrefixOf]
def Lu (s: aa): Int:=
 bif pD s (eD 1) then 1 else bif pD s (eD 2) then 2 else bif pD s (eD 3) then 3 else bif pD s (eD 4) then 4 else bif pD s (eD 5) then 5 else bif pD s (eD 6) then 6
 else bif pD s (eD 7) then 7 else bif pD s (eD 8) then 8 else bif pD s (eD 9) then 9 else bif pD s (eD 10) then 10 else bif pD s (eD 11) then 11 else bif pD s (eD 12) then 12 else 0
theorem Hu {m: Int} (h0: 1≤m) (h1: m≤12) {l T: aa} (hl: aP (fun n=>decide (n < 65)) l=true) (hT: Ht T): Lu (l++(eD m++T))=m:=by
 have key: ∀ k: Int,1≤k→k≤12→pD (l++(eD m++T)) (eD k)=decide (k=m):=fun k k0 k1=>by
  obtain ⟨a,b,c,e,ha,_⟩:=iy k0 k1
  have:=abK h0 h1 k0 k1 hT
  rw [e] at this ⊢
  rw [Al a _ ha l _ hl];exact this
 unfold Lu
 rw [key 1 (by decide) (by decide),key 2 (by decide) (by decide),key 3 (by decide) (by decide),key 4 (by decide) (by decide),key 5 (by decide) (by decide),key 6 (by decide) (by decide),key 7 (by decide) (by decide),key 8 (by decide) (by decide),key 9 (by decide) (by decide),key 10 (by decide) (by decide),key 11 (by decide) (by decide),key 12 (by decide) (by decide)]
 rcases fk h0 h1 with g | g | g | g | g | g | g | g | g | g | g | g <;> subst g <;> rfl
end
end Go.Proofs.YtgknmoadpgpdeaaGreatDoor.Ev
