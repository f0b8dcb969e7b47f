/- The texts DecR, Ta, one behind the other. -/
import Derived.Test.YtihabpimbfmhhaaGreatDoorK18
import Derived.Lib.AtoiAllCases
import Derived.Lib.ItoaNum
namespace Go.Proofs.YtihabpimbfmhhaaGreatDoor.Ev
open Go Go.RowKit
set_option linter.unusedVariables false
set_option linter.unusedSimpArgs false
noncomputable section
def pm (r:aa) (n:Int):Int:=r.foldl (fun v c=>v*10+(by8 c-48)) n
def f6 (s:aa):Int×Bool:=bif decide (1≤s.length)&&decide (s.length≤15)&&bb bg s&&decide (bO (pm s 0)=s)then(pm s 0,true)else(0,false)
theorem pn (d:Nat) (h:d<10):by8 (UInt8.ofNat (48+d))=48+(d:Int):=by
 unfold by8
 rw [UInt8.toNat_ofNat']
 omega
theorem JY (a:aa) (c:UInt8) (n:Int):pm (a++[c]) n=pm a n*10+(by8 c-48):=by
 unfold pm;rw [List.foldl_append];rfl
theorem NE (u:Nat):pm (Lib.decDigits u) 0=(u:Int):=by
 induction u using Nat.strongRecOn with
 |ind u ih=>
  rw [Lib.decDigits]
  by_cases h:u<10
  ·rw [dif_pos h]
   show 0*10+(by8 _-48)=_
   rw [pn u h];omega
  ·rw [dif_neg h,JY,ih (u/10) (by omega),pn _ (by omega)];omega
theorem DS (p:Int→Bool) (a b:aa):bb p (a++b)=(bb p a&&bb p b):=by unfold bb;rw [List.all_append]
theorem DT (u:Nat):bb bg (Lib.decDigits u)=true:=by
 induction u using Nat.strongRecOn with
 |ind u ih=>
  have one: ∀d:Nat,d<10→bb bg [UInt8.ofNat (48+d)]=true:=by
   intro d h
   show(bg (by8 _)&&true)=true
   rw [pn d h,Bool.and_true]
   unfold bg
   rw [dT' (by omega),dT' (by omega)];rfl
  rw [Lib.decDigits]
  by_cases h:u<10
  ·rw [dif_pos h];exact one u h
  ·rw [dif_neg h,DS,ih (u/10) (by omega),one _ (by omega)];rfl
theorem DU (u:Nat):1≤(Lib.decDigits u).length:=by rw [Lib.decDigits_length];exact Lib.nDigits_pos u
theorem JZ: ∀(k u:Nat),u<10^(k+1)→Lib.nDigits u≤k+1
 |0,u,h=>by rw [Lib.nDigits_small (by simpa using h)];exact Nat.le_refl _
 |k+1,u,h=>by
  by_cases c:u<10
  ·rw [Lib.nDigits_small c];omega
  ·rw [Lib.nDigits_big c]
   have:=JZ k (u/10) (by rw [Nat.pow_succ]at h;omega)
   omega
theorem yh (u:Nat) (h:u≤999999999999999):(Lib.decDigits u).length≤15:=by
 rw [Lib.decDigits_length];exact JZ 14 u (by simpa using(show u<1000000000000000 by omega))
theorem J0: ∀(s:aa) (n:Int),bb bg s=true→0≤n→0≤pm s n∧pm s n< (n+1)*10^s.length
 | [],n,_,h=>by
   refine⟨h, ?_⟩
   show n< (n+1)*10^0
   omega
 |c::r,n,ha,h=>by
  have e:bb bg (c::r)=(bg (by8 c)&&bb bg r):=rfl
  rw [e,Bool.and_eq_true]at ha
  have hd:=ha.1
  simp only [bg,Bool.and_eq_true,decide_eq_true_eq]at hd
  have ih:=J0 r (n*10+(by8 c-48)) ha.2 (by omega)
  show 0≤pm r (n*10+(by8 c-48))∧pm r (n*10+(by8 c-48))< (n+1)*10^(r.length+1)
  refine⟨ih.1,Int.lt_of_lt_of_le ih.2 ?_⟩
  rw [Int.pow_succ,Int.mul_comm (10^r.length) 10,←Int.mul_assoc]
  exact Int.mul_le_mul_of_nonneg_right (by omega) (Int.le_of_lt (Int.pow_pos (by decide)))
theorem DV (s:aa) (ha:bb bg s=true) (hl:s.length≤15):0≤pm s 0∧pm s 0≤999999999999999:=by
 have h:=J0 s 0 ha (Int.le_refl 0)
 refine⟨h.1, ?_⟩
 have h3:(10:Nat)^s.length≤10^15:=Nat.pow_le_pow_right (by decide) hl
 have h2:=h.2
 rw [Int.zero_add,Int.one_mul]at h2
 have e:(10:Int)^s.length=((10^s.length:Nat):Int):=by rw [Int.natCast_pow];rfl
 rw [e]at h2
 have e2:(10:Nat)^15=1000000000000000:=by decide
 rw [e2]at h3
 omega
theorem NF (s:aa) (v:Int) (h0:0≤v) (h1:v≤999999999999999) (h:bO v=s):f6 s=(v,true):=by
 subst h
 have e:pm (bO v) 0=v:=by rw [dv,NE];omega
 unfold f6
 rw [e,dT' (show 1≤(bO v).length by rw [dv];exact DU _),dT' (show(bO v).length≤15 by rw [dv];exact yh _ (by omega)),show bb bg (bO v)=true by rw [dv];exact DT _,dT' rfl]
 rfl
theorem QO (s:aa) (h:(f6 s).2=true):0≤pm s 0∧pm s 0≤999999999999999∧bO (pm s 0)=s:=by
 unfold f6 at h
 cases c:decide (1≤s.length)&&decide (s.length≤15)&&bb bg s&&decide (bO (pm s 0)=s)
 ·rw [c]at h;cases h
 ·simp only [Bool.and_eq_true,decide_eq_true_eq]at c
  have:=DV s c.1.2 c.1.1.2
  exact⟨this.1,this.2,c.2⟩
def eN (s:aa):Bool:=match Lib.atoiAll s with| .ok _=>true|_=>false
def dq (s:aa):Int:=match Lib.atoiAll s with| .ok v=>v| .range=>Lib.atoiSat s|_=>0
theorem yi: ∀(a b:aa) (acc v:Nat),Lib.parseUint10 acc a= .ok v→Lib.parseUint10 acc (a++b)=Lib.parseUint10 v b
 | [],b,acc,v,h=>by
   simp only [Lib.parseUint10]at h
   injection h with h;subst h;rfl
 |c::a,b,acc,v,h=>by
  simp only [Lib.parseUint10,List.cons_append]at h⊢
  split at h
  ·split at h
   ·cases h
   ·split at h
    ·cases h
    ·rename_i g1 g2 g3
     rw [if_pos g1,if_neg g2,if_neg g3]
     exact yi a b _ v h
  ·cases h
theorem J1 (u:Nat) (h:u≤999999999999999):Lib.parseUint10 0 (Lib.decDigits u)= .ok u:=by
 induction u using Nat.strongRecOn with
 |ind u ih=>
  have one: ∀(d acc:Nat),d<10→acc≤999999999999999→Lib.parseUint10 acc [UInt8.ofNat (48+d)]= .ok (acc*10+d):=by
   intro d acc hd ha
   have e:(UInt8.ofNat (48+d)).toNat=48+d:=by rw [UInt8.toNat_ofNat'];omega
   simp only [Lib.parseUint10]
   rw [e,if_pos (by omega),if_neg (by omega),if_neg (by omega)]
   congr 1;omega
  rw [Lib.decDigits]
  by_cases c:u<10
  ·rw [dif_pos c,one u 0 c (by omega)];congr 1;omega
  ·rw [dif_neg c,yi _ _ _ _ (ih (u/10) (by omega) (by omega)),one _ _ (by omega) (by omega)]
   congr 1;omega
theorem NG (v:Int) (h0:0≤v) (h1:v≤999999999999999):Lib.atoiAll (bO v)= .ok v:=by
 rw [dv]
 have hp:=J1 v.toNat (by omega)
 have hl:=DU v.toNat
 have hd:=DT v.toNat
 generalize Lib.decDigits v.toNat=l at hp hl hd
 cases l with
 |nil=>simp at hl
 |cons c r=>
  have e:bb bg (c::r)=(bg (by8 c)&&bb bg r):=rfl
  rw [e,Bool.and_eq_true]at hd
  have hc:=hd.1
  simp only [bg,Bool.and_eq_true,decide_eq_true_eq]at hc
  have hc':48≤(c.toNat:Int)∧(c.toNat:Int)≤57:=hc
  have h43:c.toNat≠43:=by intro g;rw [g]at hc';exact absurd hc'.1 (by decide)
  have h45:c.toNat≠45:=by intro g;rw [g]at hc';exact absurd hc'.1 (by decide)
  rw [Lib.atoiAll_plain c r h43 h45]
  unfold Lib.parseMag
  rw [if_neg (by simp),hp]
  unfold Lib.signless
  simp only
  rw [if_neg (by omega)]
  congr 1;omega
theorem QP (v:Int) (h0:0≤v) (h1:v≤999999999999999):eN (bO v)=true∧dq (bO v)=v:=by
 unfold eN dq;rw [NG v h0 h1];exact⟨rfl,rfl⟩
theorem J2 (s:aa):f6 s=bif eN s&&(decide (0≤dq s)&&decide (dq s≤999999999999999))&&decide (bO (dq s)=s)then(dq s,true)else(0,false):=by
 cases c:eN s&&(decide (0≤dq s)&&decide (dq s≤999999999999999))&&decide (bO (dq s)=s)
 ·rw [cond_false]
  cases h:(f6 s).2
  ·unfold f6 at h⊢
   cases d:decide (1≤s.length)&&decide (s.length≤15)&&bb bg s&&decide (bO (pm s 0)=s)
   ·rfl
   ·rw [d]at h;cases h
  ·have g:=QO s h
   have k:=QP _ g.1 g.2.1
   rw [g.2.2]at k
   rw [k.1,k.2,dT' g.1,dT' g.2.1,dT' g.2.2]at c
   cases c
 ·rw [cond_true]
  simp only [Bool.and_eq_true,decide_eq_true_eq]at c
  exact NF s _ c.1.2.1 c.1.2.2 c.2
structure Cv where
 y:Int
 m:Int
 d:Int
 h:Int
 i:Int
 s:Int
def c0:Cv:=⟨0,0,0,0,0,0⟩
def Hs (t:Int):Bool:=decide (0≤t)&&decide (t≤253402300799)
end
end Go.Proofs.YtihabpimbfmhhaaGreatDoor.Ev
