/- The texts Ub, Uc, AnyS, one behind the other. -/
import Derived.Test.YtgknmoadpgpdeaaGreatDoorK23
import Derived.Test.YtgknmoadpgpdeaaGreatDoorK19
import Derived.Lib.Split
import Derived.Test.YtgknmoadpgpdeaaGreatDoorK17
import Derived.Test.YtgknmoadpgpdeaaGreatDoorK15
namespace Go.Proofs.YtgknmoadpgpdeaaGreatDoor.Ev
open Go Go.RowKit
set_option linter.unusedVariables false
set_option linter.unusedSimpArgs false
noncomputable section
def oQ (b: Int): aa→aa→List aa
 | cur,[]=>[cur]
 | cur,x::r=>bif decide (by8 x=b) then cur::oQ b [] r else oQ b (cur++[x]) r
theorem uc (b: Int) (cur: aa) (x: UInt8) (r: aa): oQ b cur (x::r)=bif decide (by8 x=b) then cur::oQ b [] r else oQ b (cur++[x]) r:=by rw [oQ]
def j5 (s: aa) (b: Int): List aa:=oQ b [] s
theorem Q1 {s p cur r: aa} {lo hi: Int} (h: s=p++(cur++r)) (hlo: lo=(p.length: Int)) (hhi: hi=lo + (cur.length: Int)): Ev.cut s lo hi=cur:=by
 subst h hlo hhi
 unfold Ev.cut
 rw [show ((p.length: Int) + (cur.length: Int)).toNat=p.length + cur.length by omega,show ((p.length: Int)).toNat=p.length by omega]
 rw [List.take_append]
 simp
theorem JK (b: Int): ∀ (r cur: aa),(aB r b).length≠r.length→oQ b cur r=(cur++aB r b)::j5 (r.drop ((aB r b).length + 1)) b
 | [],cur,h=>absurd rfl h
 | x::r,cur,h=>by
   unfold aB at h ⊢
   rw [List.takeWhile_cons] at h ⊢
   unfold oQ
   cases c: decide (by8 x=b)
   · rw [c] at h
     simp only [Bool.not_false,if_true,List.length_cons] at h
     have ih:=JK b r (cur++[x]) (by unfold aB;omega)
     unfold aB at ih
     rw [cond_false,ih]
     simp
   · simp [j5]
theorem Df (b: Int): ∀ (r cur: aa),(aB r b).length=r.length→oQ b cur r=[cur++r]
 | [],cur,h=>by simp [oQ]
 | x::r,cur,h=>by
   unfold aB at h
   rw [List.takeWhile_cons] at h
   unfold oQ
   cases c: decide (by8 x=b)
   · rw [c] at h
     simp only [Bool.not_false,if_true,List.length_cons] at h
     rw [cond_false,Df b r (cur++[x]) (by unfold aB;omega)]
     simp
   · rw [c] at h;simp at h
theorem jz (s: aa) (b: Int): (aB s b).length≤s.length:=(List.takeWhile_sublist _).length_le
theorem ue (s: aa) (b: Int): s.take (aB s b).length=aB s b:=by
 have h: aB s b <+: s:=List.takeWhile_prefix _
 exact (List.prefix_iff_eq_take.1 h).symm
theorem xa (c: UInt8) (s: aa): Lib.index s [c]=bif decide ((aB s (by8 c)).length=s.length) then -1 else ((aB s (by8 c)).length: Int):=by
 have h:=rK c s
 unfold wd Lib.cut at h
 have hg:=Lib.index_ge s [c]
 cases d: decide ((aB s (by8 c)).length=s.length)
 · rw [d] at h
   by_cases h0: 0≤Lib.index s [c]
   · rw [if_pos h0] at h
     simp only [Prod.mk.injEq] at h
     have:=congrArg List.length h.1
     have hlt: (Lib.index s [c]).toNat≤s.length:=by
      have:=Lib.index_le s [c]
      omega
     rw [List.length_take] at this
     rw [cond_false];omega
   · rw [if_neg h0] at h
     simp only [Prod.mk.injEq,Bool.not_false] at h
     exact absurd h.2.2 (by decide)
 · rw [d] at h
   by_cases h0: 0≤Lib.index s [c]
   · rw [if_pos h0] at h
     simp only [Prod.mk.injEq,Bool.not_true] at h
     exact absurd h.2.2 (by decide)
   · rw [cond_true];omega
theorem MW (c: UInt8): ∀ (bF: Nat) (s: aa),s.length < bF→Lib.splitK [c] 0 (Lib.countFrom [c] bF s) s=j5 s (by8 c):=by
 intro bF
 induction bF with
 | zero=>intro s h;omega
 | succ bF ih=>
   intro s h
   unfold Lib.countFrom
   rw [xa]
   cases d: decide ((aB s (by8 c)).length=s.length)
   · have d':=of_decide_eq_false d
     rw [cond_false]
     have e: (((aB s (by8 c)).length: Int)== -1)=false:=by rw [beq_eq_false_iff_ne];omega
     have hle:=jz s (by8 c)
     rw [e]
     simp only [Bool.false_eq_true,if_false]
     rw [Nat.add_comm 1]
     unfold Lib.splitK
     rw [xa,d,cond_false,e]
     simp only [Bool.false_eq_true,if_false,Int.toNat_natCast,Nat.add_zero,List.length_singleton]
     rw [ih (s.drop _) (by rw [List.length_drop];omega),ue]
     unfold j5
     rw [JK _ s [] d']
     rfl
   · rw [cond_true]
     simp only [BEq.rfl,if_true]
     unfold Lib.splitK j5
     rw [Df _ s [] (of_decide_eq_true d)]
     rfl
theorem Q2 (c: UInt8) (s: aa): Lib.split s [c]=j5 s (by8 c):=MW c _ s (Nat.lt_succ_self _)
theorem Q3 (b: Int): ∀ (r cur: aa),oQ b cur r≠[]
 | [],cur=>by simp [oQ]
 | x::r,cur=>by
   unfold oQ
   cases decide (by8 x=b)
   · exact Q3 b r _
   · simp
theorem y5 (b: Int): ∀ (r cur: aa),(oQ b cur r).length≤r.length + 1
 | [],cur=>by simp [oQ]
 | x::r,cur=>by
   unfold oQ
   cases decide (by8 x=b)
   · have:=y5 b r (cur++[x]);simp only [cond_false,List.length_cons];omega
   · have:=y5 b r [];simp only [cond_true,List.length_cons];omega
theorem uf (s: aa) (b: Int): (j5 s b).length≤s.length + 1:=y5 b s []
theorem y6 (b: Int) (p: Int→Bool): ∀ (r cur: aa),((oQ b cur r).all fun s=>aU p s)=(aU p cur&&aU (fun n=>decide (n=b)||p n) r)
 | [],cur=>by simp [oQ,aU]
 | x::r,cur=>by
   unfold oQ
   cases c: decide (by8 x=b)
   · rw [cond_false,y6 b p r (cur++[x])]
     have e1: aU p (cur++[x])=(aU p cur&&p (by8 x)):=by simp [aU]
     have e2: aU (fun n=>decide (n=b)||p n) (x::r)=((decide (by8 x=b)||p (by8 x))&&aU (fun n=>decide (n=b)||p n) r):=rfl
     rw [e1,e2,c,Bool.false_or,Bool.and_assoc]
   · rw [cond_true,List.all_cons,y6 b p r []]
     have e2: aU (fun n=>decide (n=b)||p n) (x::r)=((decide (by8 x=b)||p (by8 x))&&aU (fun n=>decide (n=b)||p n) r):=rfl
     rw [e2,c]
     simp [aU]
def eG (n: Int): Int:=bif aJ n then n - 48 else bif decide (97≤n)&&decide (n≤102) then n - 97 + 10 else bif decide (65≤n)&&decide (n≤70) then n - 65 + 10 else -1
def rb (n: Int): Bool:=jV n||Fj n||aJ n||decide (n=45)||decide (n=46)||decide (n=95)||decide (n=126)
def upI (n: Int): Int:=bif jV n then n - 32 else n
def Q4: aa:=[48,49,50,51,52,53,54,55,56,57,65,66,67,68,69,70]
theorem ug (n: Int): eG n < 16:=by
 unfold eG aJ
 cases h: decide (48≤n)&&decide (n≤57)
 · rw [cond_false]
   cases h2: decide (97≤n)&&decide (n≤102)
   · rw [cond_false]
     cases h3: decide (65≤n)&&decide (n≤70)
     · rw [cond_false];omega
     · simp only [Bool.and_eq_true,decide_eq_true_eq] at h3;rw [cond_true];omega
   · simp only [Bool.and_eq_true,decide_eq_true_eq] at h2;rw [cond_true];omega
 · simp only [Bool.and_eq_true,decide_eq_true_eq] at h;rw [cond_true];omega
def ed (a b: UInt8): Int:=16 * eG (by8 a) + eG (by8 b)
def uh (c a b: UInt8): Bool:=decide (by8 c=37)&& !decide (eG (by8 a) < 0)&& !decide (eG (by8 b) < 0)
def xb (a b: UInt8): aa:=bif rb (ed a b) then [UInt8.ofNat (ed a b).toNat] else [37,UInt8.ofNat (upI (by8 a)).toNat,UInt8.ofNat (upI (by8 b)).toNat]
def e9: aa→aa
 | []=>[]
 | [c]=>[c]
 | [c,d]=>[c,d]
 | c::a::b::r=>bif uh c a b then xb a b++e9 r else c::e9 (a::b::r)
theorem nI: ∀ s: aa,(e9 s).length≤s.length
 | []=>Nat.le_refl _
 | [c]=>Nat.le_refl _
 | [c,d]=>Nat.le_refl _
 | c::a::b::r=>by
   unfold e9
   cases uh c a b
   · have:=nI (a::b::r);simp only [cond_false,List.length_cons] at this ⊢;omega
   · have:=nI r
     have h: (xb a b).length≤3:=by unfold xb;cases rb (ed a b) <;> simp
     simp only [cond_true,List.length_append,List.length_cons];omega
theorem xc (r: aa): e9 (47::r)=47::e9 r:=by
 cases r with
 | nil=>rfl
 | cons a r=>cases r with
   | nil=>rfl
   | cons b r=>
     have e: uh 47 a b=false:=by unfold uh;rw [show decide (by8 47=37)=false from rfl];rfl
     unfold e9
     rw [e,cond_false]
     cases r <;> rfl
def Gc (s: aa): Bool:=decide (s=[46])||decide (s=[46,46])
def gd (out: List aa) (s: aa): List aa:=bif decide (s=[46]) then out else bif decide (s=[46,46]) then out.dropLast else out++[s]
def mv (l: List aa): List aa:=l.foldl gd []++(bif Gc (l.getLastD []) then [[]] else [])
theorem ui (out: List aa) (s: aa): (gd out s).length≤out.length + 1:=by
 unfold gd
 cases decide (s=[46])
 · cases decide (s=[46,46])
   · simp
   · simp;omega
 · simp
def qD (p: aa): Bool:=decide (p.length≤200)&&aU dD p&& !cW p 35&& !cW p 63
def a8 (p: aa): aa:=match p with
 | 47::r=>bif qD (47::r) then 47::gW (mv (j5 (e9 r) 47)) [47] else []
 | _=>[]
def hoB (n: Int): Bool:=jV n||aJ n||decide (n=45)||decide (n=46)
def ly (h: aa): Bool:=decide (1≤h.length)&&decide (h.length≤60)&&aU hoB h&& !inP (j5 h 46) []
def y7: aa:=[104,116,116,112,58,47,47]
def abG (po: Int): aa:=bif decide (po=80) then [] else 58::bT po
def JL (q: aa) (hq: Bool): aa:=bif hq then 63::q else []
def vp (h: aa) (po: Int) (pa q: aa) (hq: Bool): aa:=y7++h++abG po++pa++JL q hq
def bf (h: aa) (po: Int) (pa q: aa) (hq: Bool): Bool:=
 ly h&&(decide (1≤po)&&decide (po≤65535))&& !decide (pa=[])&&decide (a8 pa=pa)&&aU dD q&& !cW q 35&&(hq||decide (q=[]))&&decide ((vp h po pa q hq).length≤200)
structure Ur where
 h: aa
 po: Int
 pa: aa
 q: aa
 hq: Bool
def u0: Ur:=⟨[],0,[],[],false⟩
def qE (r: aa): aa:=aB r 63
def vG (r: aa): aa:=aB (qE r) 47
def MX (a: aa): Int×Bool:=bif decide ((aB a 58).length < a.length) then jY (a.drop ((aB a 58).length + 1)) else (80,true)
def abH (r: aa): aa:=bif decide ((vG r).length < (qE r).length) then a8 ((qE r).drop (vG r).length) else [47]
def WX (r: aa): Ur:=⟨ay (aB (vG r) 58),(MX (vG r)).1,abH r,bif decide ((qE r).length < r.length) then r.drop ((qE r).length + 1) else [],decide ((qE r).length < r.length)⟩
def xd (s: aa): Bool:=decide (s.length≤200)&&decide (7≤s.length)&&aU dD s&& !cW s 35&&decide (ay (s.take 7)=y7)
def Ur.ok (u: Ur): Bool:=bf u.h u.po u.pa u.q u.hq
def bi (s: aa): Ur×Bool:=bif xd s&&(MX (vG (s.drop 7))).2&&(WX (s.drop 7)).ok then (WX (s.drop 7),true) else (u0,false)
def Ur.text (u: Ur): aa:=vp u.h u.po u.pa u.q u.hq
def f0 (s: aa): aa×Bool:=bif (bi s).2 then ((bi s).1.text,true) else ([],false)
def kA (s: aa): Bool:=(f0 s).2&&decide ((f0 s).1=s)
theorem MY: Sound Kx 336 (Im rb):=qZ Qh fun b=>by
 show (tM b).val=_
 unfold tM rb
 simp only [Br.val]
 cases jV b <;> cases Fj b <;> cases aJ b <;> cases decide (b=45) <;> cases decide (b=46) <;> cases decide (b=95) <;> rfl
theorem Q5: Sound Kx 337 (Im hoB):=qZ WA fun b=>by
 show (yQ b).val=_
 unfold yQ hoB
 simp only [Br.val]
 cases jV b <;> cases aJ b <;> cases decide (b=45) <;> rfl
def ahr: List AV→List Ob→Br
 | [.int .u8 b],[]=> .ret (.int .i64 (eG b)) []
 | _,_=> .fail
theorem Q6: Sound Kx 335 ahr:=hexOf_ok.of fun args objs r h=>by
 unfold ahr at h
 split at h
 case h_2=>cases h
 rename_i b
 cases h
 show (yO b).val=_
 unfold yO eG
 cases h1: aJ b
 · by_cases g1: 97≤b <;> by_cases g2: b≤102 <;> by_cases g3: 65≤b <;> by_cases g4: b≤70 <;> simp only [Br.val,g1,g2,g3,g4,decide_true,decide_false,Bool.and_true,Bool.and_false,Bool.false_and,Bool.true_and,cond_true,cond_false] <;>
    simp (disch:=omega) only [w8,w64]
 · simp only [aJ,Bool.and_eq_true,decide_eq_true_eq] at h1
   simp only [Br.val]
   rw [w8 (by omega) (by omega),w64 (by omega) (by omega)];rfl
def ahs: List AV→List Ob→Br
 | [.int .u8 b],[]=> .ite (decide (0≤b)&&decide (b < 256)) (.ret (.bool (rb b)) []) .fail
 | _,_=> .fail
def aej: List AV→List Ob→Br
 | [.int .u8 b],[]=> .ret (.int .u8 (upI b)) []
 | _,_=> .fail
theorem MZ: Sound Kx 325 aej:=supper_ok.of fun args objs r h=>by
 unfold aej at h
 split at h
 case h_2=>cases h
 rename_i b
 cases h
 show (tN b).val=_
 unfold tN upI jV
 by_cases g1: 97≤b <;> by_cases g2: b≤122 <;> simp only [Br.val,g1,g2,decide_true,decide_false,Bool.and_true,Bool.and_false,Bool.false_and,Bool.true_and,cond_true,cond_false]
 rw [w8 (by omega) (by omega)]
theorem Q7: Sound Kx 324 ahs:=sfree_ok.of fun args objs r h=>by
 unfold ahs at h
 split at h
 case h_2=>cases h
 rename_i b
 obtain ⟨h1,h2⟩:=al h
 cases h2
 show (yP b).val=_
 unfold yP
 refine (bX h1).trans ?_
 simp only [Bool.and_eq_true,decide_eq_true_eq] at h1
 have e: cW [45,46,95,126] b=(decide (b=45)||decide (b=46)||decide (b=95)||decide (b=126)):=by
  have q: ∀ c: UInt8,decide (by8 c=b)=decide (b=by8 c):=fun c=>by rw [Bool.eq_iff_iff,decide_eq_true_eq,decide_eq_true_eq];exact ⟨Eq.symm,Eq.symm⟩
  show (decide (by8 45=b)||(decide (by8 46=b)||(decide (by8 95=b)||(decide (by8 126=b)||false))))=_
  rw [q,q,q,q]
  simp only [Bool.or_false,Bool.or_assoc];rfl
 have e2: (decide (97≤iC b)&&decide (iC b≤122))=(jV b||Fj b):=by
  unfold iC jV Fj
  by_cases g1: 65≤b <;> by_cases g2: b≤90 <;> by_cases g3: 97≤b <;> by_cases g4: b≤122 <;> by_cases g5: 97≤b + 32 <;> by_cases g6: b + 32≤122 <;> simp only [g1,g2,g3,g4,g5,g6,decide_true,decide_false,Bool.and_true,Bool.and_false,Bool.or_true,Bool.or_false,cond_true,cond_false] <;> omega
 unfold rb
 rw [← e2]
 rw [e]
 simp only [Br.val]
 cases decide (97≤iC b) <;> cases decide (iC b≤122) <;> cases aJ b <;> cases decide (b=45) <;> cases decide (b=46) <;> cases decide (b=95) <;> rfl
def fc (n: Int): Bool:= !decide (eG n < 0)
def ac7 (r: aa) (v: Int): Int:=r.foldl (fun v c=>v * 16 + eG (by8 c)) v
def ee (s: aa): Int×Bool:=bif decide (1≤s.length)&&decide (s.length≤7)&&aU fc s then (ac7 s 0,true) else (0,false)
theorem Gd: ∀ k: Fin 256,eG (k.val: Int)=bif aJ (iC k.val) then iC k.val - 48 else bif decide (97≤iC k.val)&&decide (iC k.val≤102) then iC k.val - 97 + 10 else -1:=by decide +kernel
theorem abI (c: UInt8): eG (by8 c)=bif aJ (iC (by8 c)) then iC (by8 c) - 48 else bif decide (97≤iC (by8 c))&&decide (iC (by8 c)≤102) then iC (by8 c) - 97 + 10 else -1:=Gd ⟨c.toNat,c.toNat_lt⟩
theorem y8 (s: aa) (hl: s.length≤7) (k0: Int→OR') (k1: Int→OR') (K0: OR') (h0: ∀ x,k0 x=K0): ∀ (r: aa) (v i: Int) (n: Nat),At s i r→r.length < n→0≤v→(v + 1) * 16 ^ r.length≤268435456→
 eu n s v i k0 k1=bif aU fc r then k1 (ac7 r v) else K0:=by
 intro r;induction r with
 | nil=>intro v i n h hn hv hb;obtain ⟨n,rfl⟩:=bF hn;unfold eu ju;simp only [h.dge,cond_false];rfl
 | cons a r ih=>
   intro v i n h hn hv hb;obtain ⟨n,rfl⟩:=bF hn
   simp only [List.length_cons] at hn hb
   have hp: (1 : Int)≤16 ^ r.length:=by have h0: (0 : Int) < 16 ^ r.length:=Int.pow_pos (by decide);omega
   have hb': ((v + 1) * 16) * 16 ^ r.length≤268435456:=by rw [Int.pow_succ,Int.mul_comm (16 ^ r.length) 16,← Int.mul_assoc] at hb;exact hb
   have hv16: (v + 1) * 16≤268435456:=Int.le_trans (by have:=Int.mul_le_mul_of_nonneg_left hp (show 0≤(v + 1) * 16 by omega);rwa [Int.mul_one] at this) hb'
   have hall: aU fc (a::r)=(fc (by8 a)&&aU fc r):=rfl
   have hN: ac7 (a::r) v=ac7 r (v * 16 + eG (by8 a)):=rfl
   have hx:=ug (by8 a)
   have hstep: ∀ d,d=eG (by8 a)→0≤d→eu n s (v * 16 + d) (i + 1) k0 k1=bif aU fc r then k1 (ac7 r (v * 16 + eG (by8 a))) else K0:=by
    intro d hd h0'
    subst hd
    refine ih _ (i + 1) n h.step (by omega) (by omega) (Int.le_trans (Int.mul_le_mul_of_nonneg_right (show v * 16 + eG (by8 a) + 1≤(v + 1) * 16 by omega) (by omega)) hb')
   have e0: decide (0≤by8 a)=true:=dT' (H1 a)
   have e1: decide (by8 a < 256)=true:=dT' (H3 a)
   have e2: ai (v * 16)=v * 16:=w64 (by omega) (by omega)
   unfold eu ju
   simp only [h.dlt,h.dnn,h.str,cond_true,h.next (show s.length≤4611686018427387904 by omega),e0,e1,e2,Bool.and_self,h0,hall,hN]
   have hl:=abI a
   cases c1: aJ (iC (by8 a))
   · rw [c1,cond_false] at hl
     cases c2: decide (97≤iC (by8 a))
     · rw [c2,Bool.false_and,cond_false] at hl
       have: fc (by8 a)=false:=by unfold fc;rw [hl];rfl
       rw [this];rfl
     · cases c3: decide (iC (by8 a)≤102)
       · rw [c3,Bool.and_false,cond_false] at hl
         have: fc (by8 a)=false:=by unfold fc;rw [hl];rfl
         rw [this];rfl
       · rw [c2,c3,Bool.and_self,cond_true] at hl
         have g2:=of_decide_eq_true c2
         have g3:=of_decide_eq_true c3
         have: fc (by8 a)=true:=by unfold fc;rw [dF' (by omega)];rfl
         simp only [cond_false,cond_true,this,Bool.true_and]
         have e: ai (ai (v * 16 + ai (wk8 (iC (by8 a) - 97))) + 10)=v * 16 + (iC (by8 a) - 97 + 10):=by
          simp (disch:=omega) only [w8,w64];omega
         rw [e]
         exact hstep _ hl.symm (by omega)
   · rw [c1,cond_true] at hl
     have c1':=c1
     simp only [aJ,Bool.and_eq_true,decide_eq_true_eq] at c1'
     have: fc (by8 a)=true:=by unfold fc;rw [dF' (by omega)];rfl
     simp only [cond_false,cond_true,this,Bool.true_and]
     have e: ai (v * 16 + ai (wk8 (iC (by8 a) - 48)))=v * 16 + (iC (by8 a) - 48):=by
      simp (disch:=omega) only [w8,w64]
     rw [e]
     exact hstep _ hl.symm (by omega)
def aht: List AV→List Ob→Br
 | [.str s],[]=> .ret (.tup [.int .i64 (ee s).1, .bool (ee s).2]) []
 | _,_=> .fail
theorem Dg: Sound Kx 323 aht:=by
 refine (yR (φ:=fun s=> .ret (.tup [.int .i64 (ee s).1, .bool (ee s).2]) []) (fun s=>s.length + 1) fun s r h=>?_).of fun args objs r h=>?_
 · cases h
   unfold qx ee
   cases c1: decide ((s.length: Int)=0)
   · have c1':=of_decide_eq_false c1
     cases c2: decide ((7 : Int) < (s.length: Int))
     · have c2':=of_decide_eq_false c2
       simp only [cond_false]
       rw [y8 s (by omega) _ _ (some (AV.tup [AV.int .i64 0,AV.bool false],[])) (fun _=>rfl) s 0 0 _ (At.start s) (by omega) (by omega) ?_,dT' (show 1≤s.length by omega),dT' (show s.length≤7 by omega)]
       · cases aU fc s <;> rfl
       · have h3: (16 : Nat) ^ s.length≤16 ^ 7:=Nat.pow_le_pow_right (by decide) (by omega)
         have e: (16 : Int) ^ s.length=((16 ^ s.length: Nat): Int):=by rw [Int.natCast_pow];rfl
         rw [e]
         have e2: (16 : Nat) ^ 7=268435456:=by decide
         omega
     · have c2':=of_decide_eq_true c2
       rw [dF' (show ¬ s.length≤7 by omega),Bool.and_false,Bool.false_and];rfl
   · have c1':=of_decide_eq_true c1
     rw [dF' (show ¬ 1≤s.length by omega),Bool.false_and,Bool.false_and];rfl
 · unfold aht at h;split at h
   · exact h
   · cases h
theorem Ge (s: aa) (hl: s.length≤1000000) (b: Int) (k: List aa→OR'): ∀ (n: Nat) (p cur r: aa) (out: List aa) (i fr: Int),s=p++cur++r→i=((p.length + cur.length: Nat): Int)→fr=(p.length: Int)→r.length + 1 < n→out.length≤p.length→
 gA n s b fr i out k=k (out++oQ b cur r):=by
 intro n;induction n with
 | zero=>intro p cur r out i fr hs hi hf hn;omega
 | succ n ih=>
   intro p cur r out i fr hs hi hf hn ho
   have hat: At s i r:=⟨p++cur,hs,by rw [hi];simp⟩
   have hlen: s.length=p.length + cur.length + r.length:=by rw [hs];simp;omega
   have hcut: cut s fr i=cur:=by rw [hs,hi,hf,Int.natCast_add];exact tj p cur r
   have hnf: decide (0≤fr)=true:=dT' (by omega)
   have hfi: decide (fr≤i)=true:=dT' (by omega)
   have hil: decide (i≤(s.length: Int))=true:=dT' (by omega)
   have hw: ai (i + 1)=i + 1:=w64 (by omega) (by omega)
   have hap: decide ((out.length + [cur].length) * 16≤140737488355328)=true:=dT' (by simp only [List.length_singleton];omega)
   unfold gA nA
   simp only [hcut,hnf,hfi,hil,hw,cm,hap,cond_true,hat.dnn]
   cases r with
   | nil=>
     have he: decide (i=(s.length: Int))=true:=dT' (by simp only [List.length_nil] at hlen;omega)
     simp only [List.length_nil] at hn
     obtain ⟨m,rfl⟩: ∃ m,n=m + 1:=⟨n - 1,by omega⟩
     have hx: decide (i + 1≤(s.length: Int))=false:=dF' (by simp only [List.length_nil] at hlen;omega)
     have hend: ∀ o,gA (m + 1) s b (i + 1) (i + 1) o k=k o:=fun o=>by unfold gA nA;rw [hx,cond_false]
     simp only [he,cond_true,hend]
     rfl
   | cons c r=>
     have he: decide (i=(s.length: Int))=false:=dF' (by simp only [List.length_cons] at hlen;omega)
     simp only [List.length_cons] at hn hlen
     have hstep:=ih p (cur++[c]) r out (i + 1) fr (by rw [hs];simp) (by rw [hi];simp;omega) hf (by omega) ho
     have hcom:=ih (p++cur++[c]) [] r (out++[cur]) (i + 1) (i + 1) (by rw [hs];simp) (by rw [hi];simp;omega) (by rw [hi];simp;omega) (by omega) (by simp;omega)
     simp only [he,hat.dlt,hat.str,cond_true,cond_false,hstep,hcom]
     rw [uc]
     cases decide (by8 c=b) <;> simp
def ahu: List AV→List Ob→Br
 | [.str s, .int .u8 b],[]=> .ite (decide (s.length≤1000000)) (.ret (.ref 0 0) [.arr .str 0 false (j5 s b)]) .fail
 | _,_=> .fail
theorem xe: Sound Kx 301 ahu:=by
 refine (FT (φ:=fun s b=> .ite (decide (s.length≤1000000)) (.ret (.ref 0 0) [.arr .str 0 false (j5 s b)]) .fail) (fun s _=>s.length + 2) fun s b r h=>?_).of fun args objs r h=>?_
 · obtain ⟨h1,h2⟩:=al h
   cases h2
   rw [decide_eq_true_eq] at h1
   unfold wP
   rw [Ge s h1 b _ _ [] [] s [] 0 0 rfl rfl rfl (by omega) (by simp)]
   rfl
 · unfold ahu at h;split at h
   · exact h
   · cases h
def VB (s: aa): Bool:=aU (fun n=>decide (n < 128)) s
theorem y9 {s: aa} (h: VB s=true): ∀ (j: Nat) b,s[j]? =some b→b.toNat < 128:=by
 intro j b hb
 unfold VB aU at h
 rw [List.all_eq_true] at h
 have:=h b (List.mem_of_getElem? hb)
 rw [decide_eq_true_eq] at this
 unfold by8 at this;omega
def oR (s cs: aa): Int:=Lib.indexAny s cs
def Q8: List AV→List Ob→Br
 | [.str s, .str cs],[]=> .ite (decide (s.length≤1000000)&&decide (cs.length≤1000000)&&VB s&&VB cs) (.ret (.int .i64 (oR s cs)) []) .fail
 | _,_=> .fail
theorem Q9: Sound Kx 283 Q8:=by
 refine cO Tryz.func283 (by kernel_rfl) rfl fun args objs res objs' hv w L vs hR hr=>?_
 unfold Q8 at hv
 split at hv
 case h_2=>cases hv
 rename_i s cs
 obtain ⟨h1,h2⟩:=al hv
 cases h2
 simp only [Bool.and_eq_true,decide_eq_true_eq] at h1
 refine ⟨rfl,?_⟩
 simp only [aX,rel] at hr
 obtain ⟨v,vs',rfl,rfl,v2,vs2,rfl,rfl,rfl⟩:=hr
 refine (Tryz.strings_IndexAny_laid ⟨s.toArray⟩ ⟨cs.toArray⟩ w (by show s.toArray.size < _;simp;omega) (by show cs.toArray.size < _;simp;omega) (y9 h1.1.2) (y9 h1.2)).mono ?_
 rintro e w' ⟨rfl,hb⟩
 exact ⟨_,rfl,hb,by simp only [rel];rfl⟩
def Q_: List AV→List Ob→Br
 | [.str s, .str cs],[]=> .ite (decide (s.length≤1000000)&&decide (cs.length≤1000000)&&VB s&&VB cs) (.ret (.bool (decide (0≤oR s cs))) []) .fail
 | _,_=> .fail
theorem Ra: Sound Kx 317 Q_:=by
 refine cO Tryz.func317 (by kernel_rfl) rfl fun args objs res objs' hv w L vs hR hr=>?_
 unfold Q_ at hv
 split at hv
 case h_2=>cases hv
 rename_i s cs
 obtain ⟨h1,h2⟩:=al hv
 cases h2
 simp only [Bool.and_eq_true,decide_eq_true_eq] at h1
 refine ⟨rfl,?_⟩
 simp only [aX,rel] at hr
 obtain ⟨v,vs',rfl,rfl,v2,vs2,rfl,rfl,rfl⟩:=hr
 refine (Tryz.strings_ContainsAny_laid ⟨s.toArray⟩ ⟨cs.toArray⟩ w (by show s.toArray.size < _;simp;omega) (by show cs.toArray.size < _;simp;omega) (y9 h1.1.2) (y9 h1.2)).mono ?_
 rintro e w' ⟨rfl,hb⟩
 exact ⟨_,rfl,hb,by simp only [rel];rfl⟩
def Zy: List AV→List Ob→Br
 | [.str s, .str [c]],[]=> .ret (.bool (cW s (by8 c))) []
 | _,_=> .fail
theorem y_ (s: aa) (c: UInt8): decide (0≤Lib.indexByte s c)=cW s (by8 c):=by
 have:=yD s (by8 c) (H1 c) (H3 c)
 unfold vo at this
 have e: (by8 c).toNat.toUInt8=c:=by simp [by8]
 rw [e] at this;exact this
theorem JM: Sound Kx 246 Zy:=by
 refine cO Tryz.func246 (by kernel_rfl) rfl fun args objs res objs' hv w L vs hR hr=>?_
 unfold Zy at hv
 split at hv
 case h_2=>cases hv
 rename_i s c
 cases hv
 refine ⟨rfl,?_⟩
 simp only [aX,rel] at hr
 obtain ⟨v,vs',rfl,rfl,v2,vs2,rfl,rfl,rfl⟩:=hr
 refine (Tryz.strings_Contains_one ⟨s.toArray⟩ c w).mono ?_
 rintro e w' ⟨rfl,rfl⟩
 refine ⟨_,rfl,Below.refl _ _,?_⟩
 simp only [rel]
 rw [← y_ s c]
theorem my (a b: UInt8): ∀ s: aa,oR s [a,b]=bif cW s (by8 a)||cW s (by8 b) then ((aB (aB s (by8 b)) (by8 a)).length: Int) else -1
 | []=>rfl
 | x::r=>by
   have ih:=my a b r
   unfold oR at ih ⊢
   unfold Lib.indexAny
   have e1: cW (x::r) (by8 a)=(decide (by8 x=by8 a)||cW r (by8 a)):=rfl
   have e2: cW (x::r) (by8 b)=(decide (by8 x=by8 b)||cW r (by8 b)):=rfl
   have hx: ∀ c: UInt8,decide (by8 x=by8 c)=decide (x=c):=fun c=>by
    rw [Bool.eq_iff_iff,decide_eq_true_eq,decide_eq_true_eq];exact ⟨Fa,fun h=>by rw [h]⟩
   have hc: [a,b].contains x=(decide (x=a)||decide (x=b)):=by
    simp only [List.contains_cons,List.contains_nil,Bool.or_false]
    cases h1: decide (x=a) <;> cases h2: decide (x=b) <;> simp_all
   rw [hc,e1,e2,hx a,hx b,ih]
   unfold aB
   rw [List.takeWhile_cons,hx b]
   cases h2: decide (x=b)
   · simp only [Bool.not_false,if_true,List.takeWhile_cons,hx a,Bool.or_false,Bool.false_or]
     cases h1: decide (x=a)
     · simp only [Bool.not_false,if_true,Bool.false_or,Bool.false_eq_true,if_false,List.length_cons]
       cases cW r (by8 a)||cW r (by8 b)
       · rfl
       · have: ((((r.takeWhile fun x=> !decide (by8 x=by8 b)).takeWhile fun x=> !decide (by8 x=by8 a)).length: Int)== -1)=false:=by rw [beq_eq_false_iff_ne];omega
         rw [cond_true,this];simp
     · simp
   · simp
end
end Go.Proofs.YtgknmoadpgpdeaaGreatDoor.Ev
