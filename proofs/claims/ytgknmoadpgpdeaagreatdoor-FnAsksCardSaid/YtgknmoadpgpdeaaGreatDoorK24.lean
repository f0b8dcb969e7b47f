/- The texts Ub, Uc, AnyS, one behind the other. -/
import Derived.Test.YtgknmoadpgpdeaaGreatDoorK23
import Derived.Test.YtgknmoadpgpdeaaGreatDoorK19
import Derived.Lib.Split
import Derived.Test.YtgknmoadpgpdeaaGreatDoorK17
import Derived.Test.YtgknmoadpgpdeaaGreatDoorK15
namespace Go.Proofs.YtgknmoadpgpdeaaGreatDoor.Ev
open Go Go.RowKit
set_option linter.unusedVariables false
set_option linter.unusedSimpArgs false
noncomputable section
def nb (b: Int): aa→aa→List aa
 | cur,[]=>[cur]
 | cur,x::r=>bif decide (by8 x=b) then cur::nb b [] r else nb b (cur++[x]) r
theorem rz (b: Int) (cur: aa) (x: UInt8) (r: aa): nb b cur (x::r)=bif decide (by8 x=b) then cur::nb b [] r else nb b (cur++[x]) r:=by rw [nb]
def iD (s: aa) (b: Int): List aa:=nb b [] s
theorem d8 {s p cur r: aa} {lo hi: Int} (h: s=p++(cur++r)) (hlo: lo=(p.length: Int)) (hhi: hi=lo + (cur.length: Int)): Ev.cut s lo hi=cur:=by
 subst h hlo hhi
 unfold Ev.cut
 rw [show ((p.length: Int) + (cur.length: Int)).toNat=p.length + cur.length by omega,show ((p.length: Int)).toNat=p.length by omega]
 rw [List.take_append]
 simp
theorem Ht (b: Int): ∀ (r cur: aa),(aq r b).length≠r.length→nb b cur r=(cur++aq r b)::iD (r.drop ((aq r b).length + 1)) b
 | [],cur,h=>absurd rfl h
 | x::r,cur,h=>by
   unfold aq at h ⊢
   rw [List.takeWhile_cons] at h ⊢
   unfold nb
   cases c: decide (by8 x=b)
   · rw [c] at h
     simp only [Bool.not_false,if_true,List.length_cons] at h
     have ih:=Ht b r (cur++[x]) (by unfold aq;omega)
     unfold aq at ih
     rw [cond_false,ih]
     simp
   · simp [iD]
theorem AT (b: Int): ∀ (r cur: aa),(aq r b).length=r.length→nb b cur r=[cur++r]
 | [],cur,h=>by simp [nb]
 | x::r,cur,h=>by
   unfold aq at h
   rw [List.takeWhile_cons] at h
   unfold nb
   cases c: decide (by8 x=b)
   · rw [c] at h
     simp only [Bool.not_false,if_true,List.length_cons] at h
     rw [cond_false,AT b r (cur++[x]) (by unfold aq;omega)]
     simp
   · rw [c] at h;simp at h
theorem ii (s: aa) (b: Int): (aq s b).length≤s.length:=(List.takeWhile_sublist _).length_le
theorem rA (s: aa) (b: Int): s.take (aq s b).length=aq s b:=by
 have h: aq s b <+: s:=List.takeWhile_prefix _
 exact (List.prefix_iff_eq_take.1 h).symm
theorem uI (c: UInt8) (s: aa): Lib.index s [c]=bif decide ((aq s (by8 c)).length=s.length) then -1 else ((aq s (by8 c)).length: Int):=by
 have h:=pu c s
 unfold tM Lib.cut at h
 have hg:=Lib.index_ge s [c]
 cases d: decide ((aq s (by8 c)).length=s.length)
 · rw [d] at h
   by_cases h0: 0≤Lib.index s [c]
   · rw [if_pos h0] at h
     simp only [Prod.mk.injEq] at h
     have:=congrArg List.length h.1
     have hlt: (Lib.index s [c]).toNat≤s.length:=by
      have:=Lib.index_le s [c]
      omega
     rw [List.length_take] at this
     rw [cond_false];omega
   · rw [if_neg h0] at h
     simp only [Prod.mk.injEq,Bool.not_false] at h
     exact absurd h.2.2 (by decide)
 · rw [d] at h
   by_cases h0: 0≤Lib.index s [c]
   · rw [if_pos h0] at h
     simp only [Prod.mk.injEq,Bool.not_true] at h
     exact absurd h.2.2 (by decide)
   · rw [cond_true];omega
theorem Kj (c: UInt8): ∀ (bH: Nat) (s: aa),s.length < bH→Lib.splitK [c] 0 (Lib.countFrom [c] bH s) s=iD s (by8 c):=by
 intro bH
 induction bH with
 | zero=>intro s h;omega
 | succ bH ih=>
   intro s h
   unfold Lib.countFrom
   rw [uI]
   cases d: decide ((aq s (by8 c)).length=s.length)
   · have d':=of_decide_eq_false d
     rw [cond_false]
     have e: (((aq s (by8 c)).length: Int)== -1)=false:=by rw [beq_eq_false_iff_ne];omega
     have hle:=ii s (by8 c)
     rw [e]
     simp only [Bool.false_eq_true,if_false]
     rw [Nat.add_comm 1]
     unfold Lib.splitK
     rw [uI,d,cond_false,e]
     simp only [Bool.false_eq_true,if_false,Int.toNat_natCast,Nat.add_zero,List.length_singleton]
     rw [ih (s.drop _) (by rw [List.length_drop];omega),rA]
     unfold iD
     rw [Ht _ s [] d']
     rfl
   · rw [cond_true]
     simp only [BEq.rfl,if_true]
     unfold Lib.splitK iD
     rw [AT _ s [] (of_decide_eq_true d)]
     rfl
theorem Ox (c: UInt8) (s: aa): Lib.split s [c]=iD s (by8 c):=Kj c _ s (Nat.lt_succ_self _)
theorem Oy (b: Int): ∀ (r cur: aa),nb b cur r≠[]
 | [],cur=>by simp [nb]
 | x::r,cur=>by
   unfold nb
   cases decide (by8 x=b)
   · exact Oy b r _
   · simp
theorem wI (b: Int): ∀ (r cur: aa),(nb b cur r).length≤r.length + 1
 | [],cur=>by simp [nb]
 | x::r,cur=>by
   unfold nb
   cases decide (by8 x=b)
   · have:=wI b r (cur++[x]);simp only [cond_false,List.length_cons];omega
   · have:=wI b r [];simp only [cond_true,List.length_cons];omega
theorem rB (s: aa) (b: Int): (iD s b).length≤s.length + 1:=wI b s []
theorem wJ (b: Int) (p: Int→Bool): ∀ (r cur: aa),((nb b cur r).all fun s=>aH p s)=(aH p cur&&aH (fun n=>decide (n=b)||p n) r)
 | [],cur=>by simp [nb,aH]
 | x::r,cur=>by
   unfold nb
   cases c: decide (by8 x=b)
   · rw [cond_false,wJ b p r (cur++[x])]
     have e1: aH p (cur++[x])=(aH p cur&&p (by8 x)):=by simp [aH]
     have e2: aH (fun n=>decide (n=b)||p n) (x::r)=((decide (by8 x=b)||p (by8 x))&&aH (fun n=>decide (n=b)||p n) r):=rfl
     rw [e1,e2,c,Bool.false_or,Bool.and_assoc]
   · rw [cond_true,List.all_cons,wJ b p r []]
     have e2: aH (fun n=>decide (n=b)||p n) (x::r)=((decide (by8 x=b)||p (by8 x))&&aH (fun n=>decide (n=b)||p n) r):=rfl
     rw [e2,c]
     simp [aH]
def dD (n: Int): Int:=bif am n then n - 48 else bif decide (97≤n)&&decide (n≤102) then n - 97 + 10 else bif decide (65≤n)&&decide (n≤70) then n - 65 + 10 else -1
def oQ (n: Int): Bool:=iA n||CU n||am n||decide (n=45)||decide (n=46)||decide (n=95)||decide (n=126)
def upI (n: Int): Int:=bif iA n then n - 32 else n
def Oz: aa:=[48,49,50,51,52,53,54,55,56,57,65,66,67,68,69,70]
theorem rC (n: Int): dD n < 16:=by
 unfold dD am
 cases h: decide (48≤n)&&decide (n≤57)
 · rw [cond_false]
   cases h2: decide (97≤n)&&decide (n≤102)
   · rw [cond_false]
     cases h3: decide (65≤n)&&decide (n≤70)
     · rw [cond_false];omega
     · simp only [Bool.and_eq_true,decide_eq_true_eq] at h3;rw [cond_true];omega
   · simp only [Bool.and_eq_true,decide_eq_true_eq] at h2;rw [cond_true];omega
 · simp only [Bool.and_eq_true,decide_eq_true_eq] at h;rw [cond_true];omega
def dm (a b: UInt8): Int:=16 * dD (by8 a) + dD (by8 b)
def rD (c a b: UInt8): Bool:=decide (by8 c=37)&& !decide (dD (by8 a) < 0)&& !decide (dD (by8 b) < 0)
def uJ (a b: UInt8): aa:=bif oQ (dm a b) then [UInt8.ofNat (dm a b).toNat] else [37,UInt8.ofNat (upI (by8 a)).toNat,UInt8.ofNat (upI (by8 b)).toNat]
def dY: aa→aa
 | []=>[]
 | [c]=>[c]
 | [c,d]=>[c,d]
 | c::a::b::r=>bif rD c a b then uJ a b++dY r else c::dY (a::b::r)
theorem lN: ∀ s: aa,(dY s).length≤s.length
 | []=>Nat.le_refl _
 | [c]=>Nat.le_refl _
 | [c,d]=>Nat.le_refl _
 | c::a::b::r=>by
   unfold dY
   cases rD c a b
   · have:=lN (a::b::r);simp only [cond_false,List.length_cons] at this ⊢;omega
   · have:=lN r
     have h: (uJ a b).length≤3:=by unfold uJ;cases oQ (dm a b) <;> simp
     simp only [cond_true,List.length_append,List.length_cons];omega
theorem uK (r: aa): dY (47::r)=47::dY r:=by
 cases r with
 | nil=>rfl
 | cons a r=>cases r with
   | nil=>rfl
   | cons b r=>
     have e: rD 47 a b=false:=by unfold rD;rw [show decide (by8 47=37)=false from rfl];rfl
     unfold dY
     rw [e,cond_false]
     cases r <;> rfl
def DL (s: aa): Bool:=decide (s=[46])||decide (s=[46,46])
def eY (out: List aa) (s: aa): List aa:=bif decide (s=[46]) then out else bif decide (s=[46,46]) then out.dropLast else out++[s]
def kw (l: List aa): List aa:=l.foldl eY []++(bif DL (l.getLastD []) then [[]] else [])
theorem rE (out: List aa) (s: aa): (eY out s).length≤out.length + 1:=by
 unfold eY
 cases decide (s=[46])
 · cases decide (s=[46,46])
   · simp
   · simp;omega
 · simp
def oy (p: aa): Bool:=decide (p.length≤200)&&aH cT p&& !cE p 35&& !cE p 63
def a_ (p: aa): aa:=match p with
 | 47::r=>bif oy (47::r) then 47::eV (kw (iD (dY r) 47)) [47] else []
 | _=>[]
def hoB (n: Int): Bool:=iA n||am n||decide (n=45)||decide (n=46)
def jL (h: aa): Bool:=decide (1≤h.length)&&decide (h.length≤60)&&aH hoB h&& !inP (iD h 46) []
def wK: aa:=[104,116,116,112,58,47,47]
def XR (po: Int): aa:=bif decide (po=80) then [] else 58::bR po
def Hu (q: aa) (hq: Bool): aa:=bif hq then 63::q else []
def sS (h: aa) (po: Int) (pa q: aa) (hq: Bool): aa:=wK++h++XR po++pa++Hu q hq
def bb (h: aa) (po: Int) (pa q: aa) (hq: Bool): Bool:=
 jL h&&(decide (1≤po)&&decide (po≤65535))&& !decide (pa=[])&&decide (a_ pa=pa)&&aH cT q&& !cE q 35&&(hq||decide (q=[]))&&decide ((sS h po pa q hq).length≤200)
structure Ur where
 h: aa
 po: Int
 pa: aa
 q: aa
 hq: Bool
def u0: Ur:=⟨[],0,[],[],false⟩
def oz (r: aa): aa:=aq r 63
def tj (r: aa): aa:=aq (oz r) 47
def Kk (a: aa): Int×Bool:=bif decide ((aq a 58).length < a.length) then iC (a.drop ((aq a 58).length + 1)) else (80,true)
def XS (r: aa): aa:=bif decide ((tj r).length < (oz r).length) then a_ ((oz r).drop (tj r).length) else [47]
def Tp (r: aa): Ur:=⟨aK (aq (tj r) 58),(Kk (tj r)).1,XS r,bif decide ((oz r).length < r.length) then r.drop ((oz r).length + 1) else [],decide ((oz r).length < r.length)⟩
def uL (s: aa): Bool:=decide (s.length≤200)&&decide (7≤s.length)&&aH cT s&& !cE s 35&&decide (aK (s.take 7)=wK)
def Ur.ok (u: Ur): Bool:=bb u.h u.po u.pa u.q u.hq
def bf (s: aa): Ur×Bool:=bif uL s&&(Kk (tj (s.drop 7))).2&&(Tp (s.drop 7)).ok then (Tp (s.drop 7),true) else (u0,false)
def Ur.text (u: Ur): aa:=sS u.h u.po u.pa u.q u.hq
def eQ (s: aa): aa×Bool:=bif (bf s).2 then ((bf s).1.text,true) else ([],false)
def iU (s: aa): Bool:=(eQ s).2&&decide ((eQ s).1=s)
theorem Kl: Sound Kx 336 (F5 oQ):=oN NF fun b=>by
 show (q_ b).val=_
 unfold q_ oQ
 simp only [Br.val]
 cases iA b <;> cases CU b <;> cases am b <;> cases decide (b=45) <;> cases decide (b=46) <;> cases decide (b=95) <;> rfl
theorem OA: Sound Kx 337 (F5 hoB):=oN S3 fun b=>by
 show (wy b).val=_
 unfold wy hoB
 simp only [Br.val]
 cases iA b <;> cases am b <;> cases decide (b=45) <;> rfl
def ado: List AV→List Ob→Br
 | [.int .u8 b],[]=> .ret (.int .i64 (dD b)) []
 | _,_=> .fail
theorem OB: Sound Kx 335 ado:=hexOf_ok.of fun args objs r h=>by
 unfold ado at h
 split at h
 case h_2=>cases h
 rename_i b
 cases h
 show (wv b).val=_
 unfold wv dD
 cases h1: am b
 · by_cases g1: 97≤b <;> by_cases g2: b≤102 <;> by_cases g3: 65≤b <;> by_cases g4: b≤70 <;> simp only [Br.val,g1,g2,g3,g4,decide_true,decide_false,Bool.and_true,Bool.and_false,Bool.false_and,Bool.true_and,cond_true,cond_false] <;>
    simp (disch:=omega) only [w8,w64]
 · simp only [am,Bool.and_eq_true,decide_eq_true_eq] at h1
   simp only [Br.val]
   rw [w8 (by omega) (by omega),w64 (by omega) (by omega)];rfl
def adp: List AV→List Ob→Br
 | [.int .u8 b],[]=> .ite (decide (0≤b)&&decide (b < 256)) (.ret (.bool (oQ b)) []) .fail
 | _,_=> .fail
def aav: List AV→List Ob→Br
 | [.int .u8 b],[]=> .ret (.int .u8 (upI b)) []
 | _,_=> .fail
theorem Km: Sound Kx 325 aav:=supper_ok.of fun args objs r h=>by
 unfold aav at h
 split at h
 case h_2=>cases h
 rename_i b
 cases h
 show (rb b).val=_
 unfold rb upI iA
 by_cases g1: 97≤b <;> by_cases g2: b≤122 <;> simp only [Br.val,g1,g2,decide_true,decide_false,Bool.and_true,Bool.and_false,Bool.false_and,Bool.true_and,cond_true,cond_false]
 rw [w8 (by omega) (by omega)]
theorem OC: Sound Kx 324 adp:=sfree_ok.of fun args objs r h=>by
 unfold adp at h
 split at h
 case h_2=>cases h
 rename_i b
 obtain ⟨h1,h2⟩:=ae h
 cases h2
 show (ww b).val=_
 unfold ww
 refine (bQ h1).trans ?_
 simp only [Bool.and_eq_true,decide_eq_true_eq] at h1
 have e: cE [45,46,95,126] b=(decide (b=45)||decide (b=46)||decide (b=95)||decide (b=126)):=by
  have q: ∀ c: UInt8,decide (by8 c=b)=decide (b=by8 c):=fun c=>by rw [Bool.eq_iff_iff,decide_eq_true_eq,decide_eq_true_eq];exact ⟨Eq.symm,Eq.symm⟩
  show (decide (by8 45=b)||(decide (by8 46=b)||(decide (by8 95=b)||(decide (by8 126=b)||false))))=_
  rw [q,q,q,q]
  simp only [Bool.or_false,Bool.or_assoc];rfl
 have e2: (decide (97≤gg b)&&decide (gg b≤122))=(iA b||CU b):=by
  unfold gg iA CU
  by_cases g1: 65≤b <;> by_cases g2: b≤90 <;> by_cases g3: 97≤b <;> by_cases g4: b≤122 <;> by_cases g5: 97≤b + 32 <;> by_cases g6: b + 32≤122 <;> simp only [g1,g2,g3,g4,g5,g6,decide_true,decide_false,Bool.and_true,Bool.and_false,Bool.or_true,Bool.or_false,cond_true,cond_false] <;> omega
 unfold oQ
 rw [← e2]
 rw [e]
 simp only [Br.val]
 cases decide (97≤gg b) <;> cases decide (gg b≤122) <;> cases am b <;> cases decide (b=45) <;> cases decide (b=46) <;> cases decide (b=95) <;> rfl
def d9 (n: Int): Bool:= !decide (dD n < 0)
def Ze (r: aa) (v: Int): Int:=r.foldl (fun v c=>v * 16 + dD (by8 c)) v
def gz (s: aa): Int×Bool:=bif decide (1≤s.length)&&decide (s.length≤7)&&aH d9 s then (Ze s 0,true) else (0,false)
theorem DM: ∀ k: Fin 256,dD (k.val: Int)=bif am (gg k.val) then gg k.val - 48 else bif decide (97≤gg k.val)&&decide (gg k.val≤102) then gg k.val - 97 + 10 else -1:=by decide +kernel
theorem XT (c: UInt8): dD (by8 c)=bif am (gg (by8 c)) then gg (by8 c) - 48 else bif decide (97≤gg (by8 c))&&decide (gg (by8 c)≤102) then gg (by8 c) - 97 + 10 else -1:=DM ⟨c.toNat,c.toNat_lt⟩
theorem wL (s: aa) (hl: s.length≤7) (k0: Int→OR') (k1: Int→OR') (K0: OR') (h0: ∀ x,k0 x=K0): ∀ (r: aa) (v i: Int) (n: Nat),At s i r→r.length < n→0≤v→(v + 1) * 16 ^ r.length≤268435456→
 dv n s v i k0 k1=bif aH d9 r then k1 (Ze r v) else K0:=by
 intro r;induction r with
 | nil=>intro v i n h hn hv hb;obtain ⟨n,rfl⟩:=bH hn;unfold dv ia;simp only [h.dge,cond_false];rfl
 | cons a r ih=>
   intro v i n h hn hv hb;obtain ⟨n,rfl⟩:=bH hn
   simp only [List.length_cons] at hn hb
   have hp: (1 : Int)≤16 ^ r.length:=by have h0: (0 : Int) < 16 ^ r.length:=Int.pow_pos (by decide);omega
   have hb': ((v + 1) * 16) * 16 ^ r.length≤268435456:=by rw [Int.pow_succ,Int.mul_comm (16 ^ r.length) 16,← Int.mul_assoc] at hb;exact hb
   have hv16: (v + 1) * 16≤268435456:=Int.le_trans (by have:=Int.mul_le_mul_of_nonneg_left hp (show 0≤(v + 1) * 16 by omega);rwa [Int.mul_one] at this) hb'
   have hall: aH d9 (a::r)=(d9 (by8 a)&&aH d9 r):=rfl
   have hN: Ze (a::r) v=Ze r (v * 16 + dD (by8 a)):=rfl
   have hx:=rC (by8 a)
   have hstep: ∀ d,d=dD (by8 a)→0≤d→dv n s (v * 16 + d) (i + 1) k0 k1=bif aH d9 r then k1 (Ze r (v * 16 + dD (by8 a))) else K0:=by
    intro d hd h0'
    subst hd
    refine ih _ (i + 1) n h.step (by omega) (by omega) (Int.le_trans (Int.mul_le_mul_of_nonneg_right (show v * 16 + dD (by8 a) + 1≤(v + 1) * 16 by omega) (by omega)) hb')
   have e0: decide (0≤by8 a)=true:=dT' (FJ a)
   have e1: decide (by8 a < 256)=true:=dT' (FK a)
   have e2: ad (v * 16)=v * 16:=w64 (by omega) (by omega)
   unfold dv ia
   simp only [h.dlt,h.dnn,h.str,cond_true,h.next (show s.length≤4611686018427387904 by omega),e0,e1,e2,Bool.and_self,h0,hall,hN]
   have hl:=XT a
   cases c1: am (gg (by8 a))
   · rw [c1,cond_false] at hl
     cases c2: decide (97≤gg (by8 a))
     · rw [c2,Bool.false_and,cond_false] at hl
       have: d9 (by8 a)=false:=by unfold d9;rw [hl];rfl
       rw [this];rfl
     · cases c3: decide (gg (by8 a)≤102)
       · rw [c3,Bool.and_false,cond_false] at hl
         have: d9 (by8 a)=false:=by unfold d9;rw [hl];rfl
         rw [this];rfl
       · rw [c2,c3,Bool.and_self,cond_true] at hl
         have g2:=of_decide_eq_true c2
         have g3:=of_decide_eq_true c3
         have: d9 (by8 a)=true:=by unfold d9;rw [dF' (by omega)];rfl
         simp only [cond_false,cond_true,this,Bool.true_and]
         have e: ad (ad (v * 16 + ad (wk8 (gg (by8 a) - 97))) + 10)=v * 16 + (gg (by8 a) - 97 + 10):=by
          simp (disch:=omega) only [w8,w64];omega
         rw [e]
         exact hstep _ hl.symm (by omega)
   · rw [c1,cond_true] at hl
     have c1':=c1
     simp only [am,Bool.and_eq_true,decide_eq_true_eq] at c1'
     have: d9 (by8 a)=true:=by unfold d9;rw [dF' (by omega)];rfl
     simp only [cond_false,cond_true,this,Bool.true_and]
     have e: ad (v * 16 + ad (wk8 (gg (by8 a) - 48)))=v * 16 + (gg (by8 a) - 48):=by
      simp (disch:=omega) only [w8,w64]
     rw [e]
     exact hstep _ hl.symm (by omega)
def adq: List AV→List Ob→Br
 | [.str s],[]=> .ret (.tup [.int .i64 (gz s).1, .bool (gz s).2]) []
 | _,_=> .fail
theorem AU: Sound Kx 323 adq:=by
 refine (wz (φ:=fun s=> .ret (.tup [.int .i64 (gz s).1, .bool (gz s).2]) []) (fun s=>s.length + 1) fun s r h=>?_).of fun args objs r h=>?_
 · cases h
   unfold ow gz
   cases c1: decide ((s.length: Int)=0)
   · have c1':=of_decide_eq_false c1
     cases c2: decide ((7 : Int) < (s.length: Int))
     · have c2':=of_decide_eq_false c2
       simp only [cond_false]
       rw [wL s (by omega) _ _ (some (AV.tup [AV.int .i64 0,AV.bool false],[])) (fun _=>rfl) s 0 0 _ (At.start s) (by omega) (by omega) ?_,dT' (show 1≤s.length by omega),dT' (show s.length≤7 by omega)]
       · cases aH d9 s <;> rfl
       · have h3: (16 : Nat) ^ s.length≤16 ^ 7:=Nat.pow_le_pow_right (by decide) (by omega)
         have e: (16 : Int) ^ s.length=((16 ^ s.length: Nat): Int):=by rw [Int.natCast_pow];rfl
         rw [e]
         have e2: (16 : Nat) ^ 7=268435456:=by decide
         omega
     · have c2':=of_decide_eq_true c2
       rw [dF' (show ¬ s.length≤7 by omega),Bool.and_false,Bool.false_and];rfl
   · have c1':=of_decide_eq_true c1
     rw [dF' (show ¬ 1≤s.length by omega),Bool.false_and,Bool.false_and];rfl
 · unfold adq at h;split at h
   · exact h
   · cases h
theorem DN (s: aa) (hl: s.length≤1000000) (b: Int) (k: List aa→OR'): ∀ (n: Nat) (p cur r: aa) (out: List aa) (i fr: Int),s=p++cur++r→i=((p.length + cur.length: Nat): Int)→fr=(p.length: Int)→r.length + 1 < n→out.length≤p.length→
 fx n s b fr i out k=k (out++nb b cur r):=by
 intro n;induction n with
 | zero=>intro p cur r out i fr hs hi hf hn;omega
 | succ n ih=>
   intro p cur r out i fr hs hi hf hn ho
   have hat: At s i r:=⟨p++cur,hs,by rw [hi];simp⟩
   have hlen: s.length=p.length + cur.length + r.length:=by rw [hs];simp;omega
   have hcut: cut s fr i=cur:=by rw [hs,hi,hf,Int.natCast_add];exact qJ p cur r
   have hnf: decide (0≤fr)=true:=dT' (by omega)
   have hfi: decide (fr≤i)=true:=dT' (by omega)
   have hil: decide (i≤(s.length: Int))=true:=dT' (by omega)
   have hw: ad (i + 1)=i + 1:=w64 (by omega) (by omega)
   have hap: decide ((out.length + [cur].length) * 16≤140737488355328)=true:=dT' (by simp only [List.length_singleton];omega)
   unfold fx lD
   simp only [hcut,hnf,hfi,hil,hw,ci,hap,cond_true,hat.dnn]
   cases r with
   | nil=>
     have he: decide (i=(s.length: Int))=true:=dT' (by simp only [List.length_nil] at hlen;omega)
     simp only [List.length_nil] at hn
     obtain ⟨m,rfl⟩: ∃ m,n=m + 1:=⟨n - 1,by omega⟩
     have hx: decide (i + 1≤(s.length: Int))=false:=dF' (by simp only [List.length_nil] at hlen;omega)
     have hend: ∀ o,fx (m + 1) s b (i + 1) (i + 1) o k=k o:=fun o=>by unfold fx lD;rw [hx,cond_false]
     simp only [he,cond_true,hend]
     rfl
   | cons c r=>
     have he: decide (i=(s.length: Int))=false:=dF' (by simp only [List.length_cons] at hlen;omega)
     simp only [List.length_cons] at hn hlen
     have hstep:=ih p (cur++[c]) r out (i + 1) fr (by rw [hs];simp) (by rw [hi];simp;omega) hf (by omega) ho
     have hcom:=ih (p++cur++[c]) [] r (out++[cur]) (i + 1) (i + 1) (by rw [hs];simp) (by rw [hi];simp;omega) (by rw [hi];simp;omega) (by omega) (by simp;omega)
     simp only [he,hat.dlt,hat.str,cond_true,cond_false,hstep,hcom]
     rw [rz]
     cases decide (by8 c=b) <;> simp
def adr: List AV→List Ob→Br
 | [.str s, .int .u8 b],[]=> .ite (decide (s.length≤1000000)) (.ret (.ref 0 0) [.arr .str 0 false (iD s b)]) .fail
 | _,_=> .fail
theorem uM: Sound Kx 301 adr:=by
 refine (Dq (φ:=fun s b=> .ite (decide (s.length≤1000000)) (.ret (.ref 0 0) [.arr .str 0 false (iD s b)]) .fail) (fun s _=>s.length + 2) fun s b r h=>?_).of fun args objs r h=>?_
 · obtain ⟨h1,h2⟩:=ae h
   cases h2
   rw [decide_eq_true_eq] at h1
   unfold uu
   rw [DN s h1 b _ _ [] [] s [] 0 0 rfl rfl rfl (by omega) (by simp)]
   rfl
 · unfold adr at h;split at h
   · exact h
   · cases h
def RT (s: aa): Bool:=aH (fun n=>decide (n < 128)) s
theorem wM {s: aa} (h: RT s=true): ∀ (j: Nat) b,s[j]? =some b→b.toNat < 128:=by
 intro j b hb
 unfold RT aH at h
 rw [List.all_eq_true] at h
 have:=h b (List.mem_of_getElem? hb)
 rw [decide_eq_true_eq] at this
 unfold by8 at this;omega
def nc (s cs: aa): Int:=Lib.indexAny s cs
def OD: List AV→List Ob→Br
 | [.str s, .str cs],[]=> .ite (decide (s.length≤1000000)&&decide (cs.length≤1000000)&&RT s&&RT cs) (.ret (.int .i64 (nc s cs)) []) .fail
 | _,_=> .fail
theorem OE: Sound Kx 283 OD:=by
 refine cA Tryz.func283 (by kernel_rfl) rfl fun args objs res objs' hv w L vs hR hr=>?_
 unfold OD at hv
 split at hv
 case h_2=>cases hv
 rename_i s cs
 obtain ⟨h1,h2⟩:=ae hv
 cases h2
 simp only [Bool.and_eq_true,decide_eq_true_eq] at h1
 refine ⟨rfl,?_⟩
 simp only [aX,rel] at hr
 obtain ⟨v,vs',rfl,rfl,v2,vs2,rfl,rfl,rfl⟩:=hr
 refine (Tryz.strings_IndexAny_laid ⟨s.toArray⟩ ⟨cs.toArray⟩ w (by show s.toArray.size < _;simp;omega) (by show cs.toArray.size < _;simp;omega) (wM h1.1.2) (wM h1.2)).mono ?_
 rintro e w' ⟨rfl,hb⟩
 exact ⟨_,rfl,hb,by simp only [rel];rfl⟩
def OF: List AV→List Ob→Br
 | [.str s, .str cs],[]=> .ite (decide (s.length≤1000000)&&decide (cs.length≤1000000)&&RT s&&RT cs) (.ret (.bool (decide (0≤nc s cs))) []) .fail
 | _,_=> .fail
theorem OG: Sound Kx 317 OF:=by
 refine cA Tryz.func317 (by kernel_rfl) rfl fun args objs res objs' hv w L vs hR hr=>?_
 unfold OF at hv
 split at hv
 case h_2=>cases hv
 rename_i s cs
 obtain ⟨h1,h2⟩:=ae hv
 cases h2
 simp only [Bool.and_eq_true,decide_eq_true_eq] at h1
 refine ⟨rfl,?_⟩
 simp only [aX,rel] at hr
 obtain ⟨v,vs',rfl,rfl,v2,vs2,rfl,rfl,rfl⟩:=hr
 refine (Tryz.strings_ContainsAny_laid ⟨s.toArray⟩ ⟨cs.toArray⟩ w (by show s.toArray.size < _;simp;omega) (by show cs.toArray.size < _;simp;omega) (wM h1.1.2) (wM h1.2)).mono ?_
 rintro e w' ⟨rfl,hb⟩
 exact ⟨_,rfl,hb,by simp only [rel];rfl⟩
def VQ: List AV→List Ob→Br
 | [.str s, .str [c]],[]=> .ret (.bool (cE s (by8 c))) []
 | _,_=> .fail
theorem wN (s: aa) (c: UInt8): decide (0≤Lib.indexByte s c)=cE s (by8 c):=by
 have:=we s (by8 c) (FJ c) (FK c)
 unfold sR at this
 have e: (by8 c).toNat.toUInt8=c:=by simp [by8]
 rw [e] at this;exact this
theorem Hv: Sound Kx 246 VQ:=by
 refine cA Tryz.func246 (by kernel_rfl) rfl fun args objs res objs' hv w L vs hR hr=>?_
 unfold VQ at hv
 split at hv
 case h_2=>cases hv
 rename_i s c
 cases hv
 refine ⟨rfl,?_⟩
 simp only [aX,rel] at hr
 obtain ⟨v,vs',rfl,rfl,v2,vs2,rfl,rfl,rfl⟩:=hr
 refine (Tryz.strings_Contains_one ⟨s.toArray⟩ c w).mono ?_
 rintro e w' ⟨rfl,rfl⟩
 refine ⟨_,rfl,Below.refl _ _,?_⟩
 simp only [rel]
 rw [← wN s c]
theorem kx (a b: UInt8): ∀ s: aa,nc s [a,b]=bif cE s (by8 a)||cE s (by8 b) then ((aq (aq s (by8 b)) (by8 a)).length: Int) else -1
 | []=>rfl
 | x::r=>by
   have ih:=kx a b r
   unfold nc at ih ⊢
   unfold Lib.indexAny
   have e1: cE (x::r) (by8 a)=(decide (by8 x=by8 a)||cE r (by8 a)):=rfl
   have e2: cE (x::r) (by8 b)=(decide (by8 x=by8 b)||cE r (by8 b)):=rfl
   have hx: ∀ c: UInt8,decide (by8 x=by8 c)=decide (x=c):=fun c=>by
    rw [Bool.eq_iff_iff,decide_eq_true_eq,decide_eq_true_eq];exact ⟨qj,fun h=>by rw [h]⟩
   have hc: [a,b].contains x=(decide (x=a)||decide (x=b)):=by
    simp only [List.contains_cons,List.contains_nil,Bool.or_false]
    cases h1: decide (x=a) <;> cases h2: decide (x=b) <;> simp_all
   rw [hc,e1,e2,hx a,hx b,ih]
   unfold aq
   rw [List.takeWhile_cons,hx b]
   cases h2: decide (x=b)
   · simp only [Bool.not_false,if_true,List.takeWhile_cons,hx a,Bool.or_false,Bool.false_or]
     cases h1: decide (x=a)
     · simp only [Bool.not_false,if_true,Bool.false_or,Bool.false_eq_true,if_false,List.length_cons]
       cases cE r (by8 a)||cE r (by8 b)
       · rfl
       · have: ((((r.takeWhile fun x=> !decide (by8 x=by8 b)).takeWhile fun x=> !decide (by8 x=by8 a)).length: Int)== -1)=false:=by rw [beq_eq_false_iff_ne];omega
         rw [cond_true,this];simp
     · simp
   · simp
end
end Go.Proofs.YtgknmoadpgpdeaaGreatDoor.Ev
