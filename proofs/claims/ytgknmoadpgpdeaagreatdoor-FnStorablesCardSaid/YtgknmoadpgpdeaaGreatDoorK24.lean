/- The texts Ub, Uc, AnyS, one behind the other. -/
import Derived.Test.YtgknmoadpgpdeaaGreatDoorK23
import Derived.Test.YtgknmoadpgpdeaaGreatDoorK19
import Derived.Lib.Split
import Derived.Test.YtgknmoadpgpdeaaGreatDoorK17
import Derived.Test.YtgknmoadpgpdeaaGreatDoorK15
namespace Go.Proofs.YtgknmoadpgpdeaaGreatDoor.Ev
open Go Go.RowKit
set_option linter.unusedVariables false
set_option linter.unusedSimpArgs false
noncomputable section
def pL (b: Int): aa→aa→List aa
 | cur,[]=>[cur]
 | cur,x::r=>bif decide (by8 x=b) then cur::pL b [] r else pL b (cur++[x]) r
theorem u7 (b: Int) (cur: aa) (x: UInt8) (r: aa): pL b cur (x::r)=bif decide (by8 x=b) then cur::pL b [] r else pL b (cur++[x]) r:=by rw [pL]
def jD (s: aa) (b: Int): List aa:=pL b [] s
theorem S1 {s p cur r: aa} {lo hi: Int} (h: s=p++(cur++r)) (hlo: lo=(p.length: Int)) (hhi: hi=lo + (cur.length: Int)): Ev.cut s lo hi=cur:=by
 subst h hlo hhi
 unfold Ev.cut
 rw [show ((p.length: Int) + (cur.length: Int)).toNat=p.length + cur.length by omega,show ((p.length: Int)).toNat=p.length by omega]
 rw [List.take_append]
 simp
theorem L7 (b: Int): ∀ (r cur: aa),(an r b).length≠r.length→pL b cur r=(cur++an r b)::jD (r.drop ((an r b).length + 1)) b
 | [],cur,h=>absurd rfl h
 | x::r,cur,h=>by
   unfold an at h ⊢
   rw [List.takeWhile_cons] at h ⊢
   unfold pL
   cases c: decide (by8 x=b)
   · rw [c] at h
     simp only [Bool.not_false,if_true,List.length_cons] at h
     have ih:=L7 b r (cur++[x]) (by unfold an;omega)
     unfold an at ih
     rw [cond_false,ih]
     simp
   · simp [jD]
theorem EQ (b: Int): ∀ (r cur: aa),(an r b).length=r.length→pL b cur r=[cur++r]
 | [],cur,h=>by simp [pL]
 | x::r,cur,h=>by
   unfold an at h
   rw [List.takeWhile_cons] at h
   unfold pL
   cases c: decide (by8 x=b)
   · rw [c] at h
     simp only [Bool.not_false,if_true,List.length_cons] at h
     rw [cond_false,EQ b r (cur++[x]) (by unfold an;omega)]
     simp
   · rw [c] at h;simp at h
theorem jk (s: aa) (b: Int): (an s b).length≤s.length:=(List.takeWhile_sublist _).length_le
theorem u9 (s: aa) (b: Int): s.take (an s b).length=an s b:=by
 have h: an s b <+: s:=List.takeWhile_prefix _
 exact (List.prefix_iff_eq_take.1 h).symm
theorem yk (c: UInt8) (s: aa): Lib.index s [c]=bif decide ((an s (by8 c)).length=s.length) then -1 else ((an s (by8 c)).length: Int):=by
 have h:=nM c s
 unfold dD Lib.cut at h
 have hg:=Lib.index_ge s [c]
 cases d: decide ((an s (by8 c)).length=s.length)
 · rw [d] at h
   by_cases h0: 0≤Lib.index s [c]
   · rw [if_pos h0] at h
     simp only [Prod.mk.injEq] at h
     have:=congrArg List.length h.1
     have hlt: (Lib.index s [c]).toNat≤s.length:=by
      have:=Lib.index_le s [c]
      omega
     rw [List.length_take] at this
     rw [cond_false];omega
   · rw [if_neg h0] at h
     simp only [Prod.mk.injEq,Bool.not_false] at h
     exact absurd h.2.2 (by decide)
 · rw [d] at h
   by_cases h0: 0≤Lib.index s [c]
   · rw [if_pos h0] at h
     simp only [Prod.mk.injEq,Bool.not_true] at h
     exact absurd h.2.2 (by decide)
   · rw [cond_true];omega
theorem ON (c: UInt8): ∀ (bL: Nat) (s: aa),s.length < bL→Lib.splitK [c] 0 (Lib.countFrom [c] bL s) s=jD s (by8 c):=by
 intro bL
 induction bL with
 | zero=>intro s h;omega
 | succ bL ih=>
   intro s h
   unfold Lib.countFrom
   rw [yk]
   cases d: decide ((an s (by8 c)).length=s.length)
   · have d':=of_decide_eq_false d
     rw [cond_false]
     have e: (((an s (by8 c)).length: Int)== -1)=false:=by rw [beq_eq_false_iff_ne];omega
     have hle:=jk s (by8 c)
     rw [e]
     simp only [Bool.false_eq_true,if_false]
     rw [Nat.add_comm 1]
     unfold Lib.splitK
     rw [yk,d,cond_false,e]
     simp only [Bool.false_eq_true,if_false,Int.toNat_natCast,Nat.add_zero,List.length_singleton]
     rw [ih (s.drop _) (by rw [List.length_drop];omega),u9]
     unfold jD
     rw [L7 _ s [] d']
     rfl
   · rw [cond_true]
     simp only [BEq.rfl,if_true]
     unfold Lib.splitK jD
     rw [EQ _ s [] (of_decide_eq_true d)]
     rfl
theorem S3 (c: UInt8) (s: aa): Lib.split s [c]=jD s (by8 c):=ON c _ s (Nat.lt_succ_self _)
theorem S4 (b: Int): ∀ (r cur: aa),pL b cur r≠[]
 | [],cur=>by simp [pL]
 | x::r,cur=>by
   unfold pL
   cases decide (by8 x=b)
   · exact S4 b r _
   · simp
theorem AD (b: Int): ∀ (r cur: aa),(pL b cur r).length≤r.length + 1
 | [],cur=>by simp [pL]
 | x::r,cur=>by
   unfold pL
   cases decide (by8 x=b)
   · have:=AD b r (cur++[x]);simp only [cond_false,List.length_cons];omega
   · have:=AD b r [];simp only [cond_true,List.length_cons];omega
theorem u_ (s: aa) (b: Int): (jD s b).length≤s.length + 1:=AD b s []
theorem AE (b: Int) (p: Int→Bool): ∀ (r cur: aa),((pL b cur r).all fun s=>aP p s)=(aP p cur&&aP (fun n=>decide (n=b)||p n) r)
 | [],cur=>by simp [pL,aP]
 | x::r,cur=>by
   unfold pL
   cases c: decide (by8 x=b)
   · rw [cond_false,AE b p r (cur++[x])]
     have e1: aP p (cur++[x])=(aP p cur&&p (by8 x)):=by simp [aP]
     have e2: aP (fun n=>decide (n=b)||p n) (x::r)=((decide (by8 x=b)||p (by8 x))&&aP (fun n=>decide (n=b)||p n) r):=rfl
     rw [e1,e2,c,Bool.false_or,Bool.and_assoc]
   · rw [cond_true,List.all_cons,AE b p r []]
     have e2: aP (fun n=>decide (n=b)||p n) (x::r)=((decide (by8 x=b)||p (by8 x))&&aP (fun n=>decide (n=b)||p n) r):=rfl
     rw [e2,c]
     simp [aP]
def ee (n: Int): Int:=bif aB n then n - 48 else bif decide (97≤n)&&decide (n≤102) then n - 97 + 10 else bif decide (65≤n)&&decide (n≤70) then n - 65 + 10 else -1
def rN (n: Int): Bool:=jy n||C5 n||aB n||decide (n=45)||decide (n=46)||decide (n=95)||decide (n=126)
def upI (n: Int): Int:=bif jy n then n - 32 else n
def S5: aa:=[48,49,50,51,52,53,54,55,56,57,65,66,67,68,69,70]
theorem va (n: Int): ee n < 16:=by
 unfold ee aB
 cases h: decide (48≤n)&&decide (n≤57)
 · rw [cond_false]
   cases h2: decide (97≤n)&&decide (n≤102)
   · rw [cond_false]
     cases h3: decide (65≤n)&&decide (n≤70)
     · rw [cond_false];omega
     · simp only [Bool.and_eq_true,decide_eq_true_eq] at h3;rw [cond_true];omega
   · simp only [Bool.and_eq_true,decide_eq_true_eq] at h2;rw [cond_true];omega
 · simp only [Bool.and_eq_true,decide_eq_true_eq] at h;rw [cond_true];omega
def dK (a b: UInt8): Int:=16 * ee (by8 a) + ee (by8 b)
def vb (c a b: UInt8): Bool:=decide (by8 c=37)&& !decide (ee (by8 a) < 0)&& !decide (ee (by8 b) < 0)
def yl (a b: UInt8): aa:=bif rN (dK a b) then [UInt8.ofNat (dK a b).toNat] else [37,UInt8.ofNat (upI (by8 a)).toNat,UInt8.ofNat (upI (by8 b)).toNat]
def eF: aa→aa
 | []=>[]
 | [c]=>[c]
 | [c,d]=>[c,d]
 | c::a::b::r=>bif vb c a b then yl a b++eF r else c::eF (a::b::r)
theorem nZ: ∀ s: aa,(eF s).length≤s.length
 | []=>Nat.le_refl _
 | [c]=>Nat.le_refl _
 | [c,d]=>Nat.le_refl _
 | c::a::b::r=>by
   unfold eF
   cases vb c a b
   · have:=nZ (a::b::r);simp only [cond_false,List.length_cons] at this ⊢;omega
   · have:=nZ r
     have h: (yl a b).length≤3:=by unfold yl;cases rN (dK a b) <;> simp
     simp only [cond_true,List.length_append,List.length_cons];omega
theorem ym (r: aa): eF (47::r)=47::eF r:=by
 cases r with
 | nil=>rfl
 | cons a r=>cases r with
   | nil=>rfl
   | cons b r=>
     have e: vb 47 a b=false:=by unfold vb;rw [show decide (by8 47=37)=false from rfl];rfl
     unfold eF
     rw [e,cond_false]
     cases r <;> rfl
def HX (s: aa): Bool:=decide (s=[46])||decide (s=[46,46])
def fT (out: List aa) (s: aa): List aa:=bif decide (s=[46]) then out else bif decide (s=[46,46]) then out.dropLast else out++[s]
def l_ (l: List aa): List aa:=l.foldl fT []++(bif HX (l.getLastD []) then [[]] else [])
theorem vc (out: List aa) (s: aa): (fT out s).length≤out.length + 1:=by
 unfold fT
 cases decide (s=[46])
 · cases decide (s=[46,46])
   · simp
   · simp;omega
 · simp
def rn (p: aa): Bool:=decide (p.length≤200)&&aP cZ p&& !cH p 35&& !cH p 63
def bb (p: aa): aa:=match p with
 | 47::r=>bif rn (47::r) then 47::eI (l_ (jD (eF r) 47)) [47] else []
 | _=>[]
def hoB (n: Int): Bool:=jy n||aB n||decide (n=45)||decide (n=46)
def lb (h: aa): Bool:=decide (1≤h.length)&&decide (h.length≤60)&&aP hoB h&& !inP (jD h 46) []
def AF: aa:=[104,116,116,112,58,47,47]
def abZ (po: Int): aa:=bif decide (po=80) then [] else 58::bR po
def L8 (q: aa) (hq: Bool): aa:=bif hq then 63::q else []
def B9 (h: aa) (po: Int) (pa q: aa) (hq: Bool): aa:=AF++h++abZ po++pa++L8 q hq
def bA (h: aa) (po: Int) (pa q: aa) (hq: Bool): Bool:=
 lb h&&(decide (1≤po)&&decide (po≤65535))&& !decide (pa=[])&&decide (bb pa=pa)&&aP cZ q&& !cH q 35&&(hq||decide (q=[]))&&decide ((B9 h po pa q hq).length≤200)
structure Ur where
 h: aa
 po: Int
 pa: aa
 q: aa
 hq: Bool
def u0: Ur:=⟨[],0,[],[],false⟩
def rp (r: aa): aa:=an r 63
def wL (r: aa): aa:=an (rp r) 47
def OO (a: aa): Int×Bool:=bif decide ((an a 58).length < a.length) then jA (a.drop ((an a 58).length + 1)) else (80,true)
def ab0 (r: aa): aa:=bif decide ((wL r).length < (rp r).length) then bb ((rp r).drop (wL r).length) else [47]
def XL (r: aa): Ur:=⟨ay (an (wL r) 58),(OO (wL r)).1,ab0 r,bif decide ((rp r).length < r.length) then r.drop ((rp r).length + 1) else [],decide ((rp r).length < r.length)⟩
def yn (s: aa): Bool:=decide (s.length≤200)&&decide (7≤s.length)&&aP cZ s&& !cH s 35&&decide (ay (s.take 7)=AF)
def Ur.ok (u: Ur): Bool:=bA u.h u.po u.pa u.q u.hq
def cK (s: aa): Ur×Bool:=bif yn s&&(OO (wL (s.drop 7))).2&&(XL (s.drop 7)).ok then (XL (s.drop 7),true) else (u0,false)
def Ur.text (u: Ur): aa:=B9 u.h u.po u.pa u.q u.hq
def ln (s: aa): aa×Bool:=bif (cK s).2 then ((cK s).1.text,true) else ([],false)
def yo (s: aa): Bool:=(ln s).2&&decide ((ln s).1=s)
theorem OP: Sound Kx 336 (Kn rN):=rH RP fun b=>by
 show (uv b).val=_
 unfold uv rN
 simp only [Br.val]
 cases jy b <;> cases C5 b <;> cases aB b <;> cases decide (b=45) <;> cases decide (b=46) <;> cases decide (b=95) <;> rfl
theorem S6: Sound Kx 337 (Kn hoB):=rH Xc fun b=>by
 show (Aa b).val=_
 unfold Aa hoB
 simp only [Br.val]
 cases jy b <;> cases aB b <;> cases decide (b=45) <;> rfl
def ahW: List AV→List Ob→Br
 | [.int .u8 b],[]=> .ret (.int .i64 (ee b)) []
 | _,_=> .fail
theorem S7: Sound Kx 335 ahW:=hexOf_ok.of fun args objs r h=>by
 unfold ahW at h
 split at h
 case h_2=>cases h
 rename_i b
 cases h
 show (z8 b).val=_
 unfold z8 ee
 cases h1: aB b
 · by_cases g1: 97≤b <;> by_cases g2: b≤102 <;> by_cases g3: 65≤b <;> by_cases g4: b≤70 <;> simp only [Br.val,g1,g2,g3,g4,decide_true,decide_false,Bool.and_true,Bool.and_false,Bool.false_and,Bool.true_and,cond_true,cond_false] <;>
    simp (disch:=omega) only [w8,w64]
 · simp only [aB,Bool.and_eq_true,decide_eq_true_eq] at h1
   simp only [Br.val]
   rw [w8 (by omega) (by omega),w64 (by omega) (by omega)];rfl
def ahX: List AV→List Ob→Br
 | [.int .u8 b],[]=> .ite (decide (0≤b)&&decide (b < 256)) (.ret (.bool (rN b)) []) .fail
 | _,_=> .fail
def aeL: List AV→List Ob→Br
 | [.int .u8 b],[]=> .ret (.int .u8 (upI b)) []
 | _,_=> .fail
theorem OQ: Sound Kx 325 aeL:=supper_ok.of fun args objs r h=>by
 unfold aeL at h
 split at h
 case h_2=>cases h
 rename_i b
 cases h
 show (uw b).val=_
 unfold uw upI jy
 by_cases g1: 97≤b <;> by_cases g2: b≤122 <;> simp only [Br.val,g1,g2,decide_true,decide_false,Bool.and_true,Bool.and_false,Bool.false_and,Bool.true_and,cond_true,cond_false]
 rw [w8 (by omega) (by omega)]
theorem S8: Sound Kx 324 ahX:=sfree_ok.of fun args objs r h=>by
 unfold ahX at h
 split at h
 case h_2=>cases h
 rename_i b
 obtain ⟨h1,h2⟩:=ai h
 cases h2
 show (z_ b).val=_
 unfold z_
 refine (bv h1).trans ?_
 simp only [Bool.and_eq_true,decide_eq_true_eq] at h1
 have e: cH [45,46,95,126] b=(decide (b=45)||decide (b=46)||decide (b=95)||decide (b=126)):=by
  have q: ∀ c: UInt8,decide (by8 c=b)=decide (b=by8 c):=fun c=>by rw [Bool.eq_iff_iff,decide_eq_true_eq,decide_eq_true_eq];exact ⟨Eq.symm,Eq.symm⟩
  show (decide (by8 45=b)||(decide (by8 46=b)||(decide (by8 95=b)||(decide (by8 126=b)||false))))=_
  rw [q,q,q,q]
  simp only [Bool.or_false,Bool.or_assoc];rfl
 have e2: (decide (97≤fM b)&&decide (fM b≤122))=(jy b||C5 b):=by
  unfold fM jy C5
  by_cases g1: 65≤b <;> by_cases g2: b≤90 <;> by_cases g3: 97≤b <;> by_cases g4: b≤122 <;> by_cases g5: 97≤b + 32 <;> by_cases g6: b + 32≤122 <;> simp only [g1,g2,g3,g4,g5,g6,decide_true,decide_false,Bool.and_true,Bool.and_false,Bool.or_true,Bool.or_false,cond_true,cond_false] <;> omega
 unfold rN
 rw [← e2]
 rw [e]
 simp only [Br.val]
 cases decide (97≤fM b) <;> cases decide (fM b≤122) <;> cases aB b <;> cases decide (b=45) <;> cases decide (b=46) <;> cases decide (b=95) <;> rfl
def eJ (n: Int): Bool:= !decide (ee n < 0)
def ado (r: aa) (v: Int): Int:=r.foldl (fun v c=>v * 16 + ee (by8 c)) v
def iE (s: aa): Int×Bool:=bif decide (1≤s.length)&&decide (s.length≤7)&&aP eJ s then (ado s 0,true) else (0,false)
theorem HY: ∀ k: Fin 256,ee (k.val: Int)=bif aB (fM k.val) then fM k.val - 48 else bif decide (97≤fM k.val)&&decide (fM k.val≤102) then fM k.val - 97 + 10 else -1:=by decide +kernel
theorem ab1 (c: UInt8): ee (by8 c)=bif aB (fM (by8 c)) then fM (by8 c) - 48 else bif decide (97≤fM (by8 c))&&decide (fM (by8 c)≤102) then fM (by8 c) - 97 + 10 else -1:=HY ⟨c.toNat,c.toNat_lt⟩
theorem AG (s: aa) (hl: s.length≤7) (k0: Int→OR') (k1: Int→OR') (K0: OR') (h0: ∀ x,k0 x=K0): ∀ (r: aa) (v i: Int) (n: Nat),At s i r→r.length < n→0≤v→(v + 1) * 16 ^ r.length≤268435456→
 dT n s v i k0 k1=bif aP eJ r then k1 (ado r v) else K0:=by
 intro r;induction r with
 | nil=>intro v i n h hn hv hb;obtain ⟨n,rfl⟩:=bL hn;unfold dT je;simp only [h.dge,cond_false];rfl
 | cons a r ih=>
   intro v i n h hn hv hb;obtain ⟨n,rfl⟩:=bL hn
   simp only [List.length_cons] at hn hb
   have hp: (1 : Int)≤16 ^ r.length:=by have h0: (0 : Int) < 16 ^ r.length:=Int.pow_pos (by decide);omega
   have hb': ((v + 1) * 16) * 16 ^ r.length≤268435456:=by rw [Int.pow_succ,Int.mul_comm (16 ^ r.length) 16,← Int.mul_assoc] at hb;exact hb
   have hv16: (v + 1) * 16≤268435456:=Int.le_trans (by have:=Int.mul_le_mul_of_nonneg_left hp (show 0≤(v + 1) * 16 by omega);rwa [Int.mul_one] at this) hb'
   have hall: aP eJ (a::r)=(eJ (by8 a)&&aP eJ r):=rfl
   have hN: ado (a::r) v=ado r (v * 16 + ee (by8 a)):=rfl
   have hx:=va (by8 a)
   have hstep: ∀ d,d=ee (by8 a)→0≤d→dT n s (v * 16 + d) (i + 1) k0 k1=bif aP eJ r then k1 (ado r (v * 16 + ee (by8 a))) else K0:=by
    intro d hd h0'
    subst hd
    refine ih _ (i + 1) n h.step (by omega) (by omega) (Int.le_trans (Int.mul_le_mul_of_nonneg_right (show v * 16 + ee (by8 a) + 1≤(v + 1) * 16 by omega) (by omega)) hb')
   have e0: decide (0≤by8 a)=true:=dT' (J3 a)
   have e1: decide (by8 a < 256)=true:=dT' (J4 a)
   have e2: ad (v * 16)=v * 16:=w64 (by omega) (by omega)
   unfold dT je
   simp only [h.dlt,h.dnn,h.str,cond_true,h.next (show s.length≤4611686018427387904 by omega),e0,e1,e2,Bool.and_self,h0,hall,hN]
   have hl:=ab1 a
   cases c1: aB (fM (by8 a))
   · rw [c1,cond_false] at hl
     cases c2: decide (97≤fM (by8 a))
     · rw [c2,Bool.false_and,cond_false] at hl
       have: eJ (by8 a)=false:=by unfold eJ;rw [hl];rfl
       rw [this];rfl
     · cases c3: decide (fM (by8 a)≤102)
       · rw [c3,Bool.and_false,cond_false] at hl
         have: eJ (by8 a)=false:=by unfold eJ;rw [hl];rfl
         rw [this];rfl
       · rw [c2,c3,Bool.and_self,cond_true] at hl
         have g2:=of_decide_eq_true c2
         have g3:=of_decide_eq_true c3
         have: eJ (by8 a)=true:=by unfold eJ;rw [dF' (by omega)];rfl
         simp only [cond_false,cond_true,this,Bool.true_and]
         have e: ad (ad (v * 16 + ad (wk8 (fM (by8 a) - 97))) + 10)=v * 16 + (fM (by8 a) - 97 + 10):=by
          simp (disch:=omega) only [w8,w64];omega
         rw [e]
         exact hstep _ hl.symm (by omega)
   · rw [c1,cond_true] at hl
     have c1':=c1
     simp only [aB,Bool.and_eq_true,decide_eq_true_eq] at c1'
     have: eJ (by8 a)=true:=by unfold eJ;rw [dF' (by omega)];rfl
     simp only [cond_false,cond_true,this,Bool.true_and]
     have e: ad (v * 16 + ad (wk8 (fM (by8 a) - 48)))=v * 16 + (fM (by8 a) - 48):=by
      simp (disch:=omega) only [w8,w64]
     rw [e]
     exact hstep _ hl.symm (by omega)
def ahY: List AV→List Ob→Br
 | [.str s],[]=> .ret (.tup [.int .i64 (iE s).1, .bool (iE s).2]) []
 | _,_=> .fail
theorem ER: Sound Kx 323 ahY:=by
 refine (Ab (φ:=fun s=> .ret (.tup [.int .i64 (iE s).1, .bool (iE s).2]) []) (fun s=>s.length + 1) fun s r h=>?_).of fun args objs r h=>?_
 · cases h
   unfold rb iE
   cases c1: decide ((s.length: Int)=0)
   · have c1':=of_decide_eq_false c1
     cases c2: decide ((7 : Int) < (s.length: Int))
     · have c2':=of_decide_eq_false c2
       simp only [cond_false]
       rw [AG s (by omega) _ _ (some (AV.tup [AV.int .i64 0,AV.bool false],[])) (fun _=>rfl) s 0 0 _ (At.start s) (by omega) (by omega) ?_,dT' (show 1≤s.length by omega),dT' (show s.length≤7 by omega)]
       · cases aP eJ s <;> rfl
       · have h3: (16 : Nat) ^ s.length≤16 ^ 7:=Nat.pow_le_pow_right (by decide) (by omega)
         have e: (16 : Int) ^ s.length=((16 ^ s.length: Nat): Int):=by rw [Int.natCast_pow];rfl
         rw [e]
         have e2: (16 : Nat) ^ 7=268435456:=by decide
         omega
     · have c2':=of_decide_eq_true c2
       rw [dF' (show ¬ s.length≤7 by omega),Bool.and_false,Bool.false_and];rfl
   · have c1':=of_decide_eq_true c1
     rw [dF' (show ¬ 1≤s.length by omega),Bool.false_and,Bool.false_and];rfl
 · unfold ahY at h;split at h
   · exact h
   · cases h
theorem HZ (s: aa) (hl: s.length≤1000000) (b: Int) (k: List aa→OR'): ∀ (n: Nat) (p cur r: aa) (out: List aa) (i fr: Int),s=p++cur++r→i=((p.length + cur.length: Nat): Int)→fr=(p.length: Int)→r.length + 1 < n→out.length≤p.length→
 gl n s b fr i out k=k (out++pL b cur r):=by
 intro n;induction n with
 | zero=>intro p cur r out i fr hs hi hf hn;omega
 | succ n ih=>
   intro p cur r out i fr hs hi hf hn ho
   have hat: At s i r:=⟨p++cur,hs,by rw [hi];simp⟩
   have hlen: s.length=p.length + cur.length + r.length:=by rw [hs];simp;omega
   have hcut: cut s fr i=cur:=by rw [hs,hi,hf,Int.natCast_add];exact tX p cur r
   have hnf: decide (0≤fr)=true:=dT' (by omega)
   have hfi: decide (fr≤i)=true:=dT' (by omega)
   have hil: decide (i≤(s.length: Int))=true:=dT' (by omega)
   have hw: ad (i + 1)=i + 1:=w64 (by omega) (by omega)
   have hap: decide ((out.length + [cur].length) * 16≤140737488355328)=true:=dT' (by simp only [List.length_singleton];omega)
   unfold gl nC
   simp only [hcut,hnf,hfi,hil,hw,bO,hap,cond_true,hat.dnn]
   cases r with
   | nil=>
     have he: decide (i=(s.length: Int))=true:=dT' (by simp only [List.length_nil] at hlen;omega)
     simp only [List.length_nil] at hn
     obtain ⟨m,rfl⟩: ∃ m,n=m + 1:=⟨n - 1,by omega⟩
     have hx: decide (i + 1≤(s.length: Int))=false:=dF' (by simp only [List.length_nil] at hlen;omega)
     have hend: ∀ o,gl (m + 1) s b (i + 1) (i + 1) o k=k o:=fun o=>by unfold gl nC;rw [hx,cond_false]
     simp only [he,cond_true,hend]
     rfl
   | cons c r=>
     have he: decide (i=(s.length: Int))=false:=dF' (by simp only [List.length_cons] at hlen;omega)
     simp only [List.length_cons] at hn hlen
     have hstep:=ih p (cur++[c]) r out (i + 1) fr (by rw [hs];simp) (by rw [hi];simp;omega) hf (by omega) ho
     have hcom:=ih (p++cur++[c]) [] r (out++[cur]) (i + 1) (i + 1) (by rw [hs];simp) (by rw [hi];simp;omega) (by rw [hi];simp;omega) (by omega) (by simp;omega)
     simp only [he,hat.dlt,hat.str,cond_true,cond_false,hstep,hcom]
     rw [u7]
     cases decide (by8 c=b) <;> simp
def ahZ: List AV→List Ob→Br
 | [.str s, .int .u8 b],[]=> .ite (decide (s.length≤1000000)) (.ret (.ref 0 0) [.arr .str 0 false (jD s b)]) .fail
 | _,_=> .fail
theorem yp: Sound Kx 301 ahZ:=by
 refine (Hl (φ:=fun s b=> .ite (decide (s.length≤1000000)) (.ret (.ref 0 0) [.arr .str 0 false (jD s b)]) .fail) (fun s _=>s.length + 2) fun s b r h=>?_).of fun args objs r h=>?_
 · obtain ⟨h1,h2⟩:=ai h
   cases h2
   rw [decide_eq_true_eq] at h1
   unfold xM
   rw [HZ s h1 b _ _ [] [] s [] 0 0 rfl rfl rfl (by omega) (by simp)]
   rfl
 · unfold ahZ at h;split at h
   · exact h
   · cases h
def Wb (s: aa): Bool:=aP (fun n=>decide (n < 128)) s
theorem AH {s: aa} (h: Wb s=true): ∀ (j: Nat) b,s[j]? =some b→b.toNat < 128:=by
 intro j b hb
 unfold Wb aP at h
 rw [List.all_eq_true] at h
 have:=h b (List.mem_of_getElem? hb)
 rw [decide_eq_true_eq] at this
 unfold by8 at this;omega
def pM (s cs: aa): Int:=Lib.indexAny s cs
def S9: List AV→List Ob→Br
 | [.str s, .str cs],[]=> .ite (decide (s.length≤1000000)&&decide (cs.length≤1000000)&&Wb s&&Wb cs) (.ret (.int .i64 (pM s cs)) []) .fail
 | _,_=> .fail
theorem S_: Sound Kx 283 S9:=by
 refine cE Tryz.func283 (by kernel_rfl) rfl fun args objs res objs' hv w L vs hR hr=>?_
 unfold S9 at hv
 split at hv
 case h_2=>cases hv
 rename_i s cs
 obtain ⟨h1,h2⟩:=ai hv
 cases h2
 simp only [Bool.and_eq_true,decide_eq_true_eq] at h1
 refine ⟨rfl,?_⟩
 simp only [aU,rel] at hr
 obtain ⟨v,vs',rfl,rfl,v2,vs2,rfl,rfl,rfl⟩:=hr
 refine (Tryz.strings_IndexAny_laid ⟨s.toArray⟩ ⟨cs.toArray⟩ w (by show s.toArray.size < _;simp;omega) (by show cs.toArray.size < _;simp;omega) (AH h1.1.2) (AH h1.2)).mono ?_
 rintro e w' ⟨rfl,hb⟩
 exact ⟨_,rfl,hb,by simp only [rel];rfl⟩
def Ta: List AV→List Ob→Br
 | [.str s, .str cs],[]=> .ite (decide (s.length≤1000000)&&decide (cs.length≤1000000)&&Wb s&&Wb cs) (.ret (.bool (decide (0≤pM s cs))) []) .fail
 | _,_=> .fail
theorem Tb: Sound Kx 317 Ta:=by
 refine cE Tryz.func317 (by kernel_rfl) rfl fun args objs res objs' hv w L vs hR hr=>?_
 unfold Ta at hv
 split at hv
 case h_2=>cases hv
 rename_i s cs
 obtain ⟨h1,h2⟩:=ai hv
 cases h2
 simp only [Bool.and_eq_true,decide_eq_true_eq] at h1
 refine ⟨rfl,?_⟩
 simp only [aU,rel] at hr
 obtain ⟨v,vs',rfl,rfl,v2,vs2,rfl,rfl,rfl⟩:=hr
 refine (Tryz.strings_ContainsAny_laid ⟨s.toArray⟩ ⟨cs.toArray⟩ w (by show s.toArray.size < _;simp;omega) (by show cs.toArray.size < _;simp;omega) (AH h1.1.2) (AH h1.2)).mono ?_
 rintro e w' ⟨rfl,hb⟩
 exact ⟨_,rfl,hb,by simp only [rel];rfl⟩
def aaa: List AV→List Ob→Br
 | [.str s, .str [c]],[]=> .ret (.bool (cH s (by8 c))) []
 | _,_=> .fail
theorem AI (s: aa) (c: UInt8): decide (0≤Lib.indexByte s c)=cH s (by8 c):=by
 have:=zQ s (by8 c) (J3 c) (J4 c)
 unfold v_ at this
 have e: (by8 c).toNat.toUInt8=c:=by simp [by8]
 rw [e] at this;exact this
theorem L9: Sound Kx 246 aaa:=by
 refine cE Tryz.func246 (by kernel_rfl) rfl fun args objs res objs' hv w L vs hR hr=>?_
 unfold aaa at hv
 split at hv
 case h_2=>cases hv
 rename_i s c
 cases hv
 refine ⟨rfl,?_⟩
 simp only [aU,rel] at hr
 obtain ⟨v,vs',rfl,rfl,v2,vs2,rfl,rfl,rfl⟩:=hr
 refine (Tryz.strings_Contains_one ⟨s.toArray⟩ c w).mono ?_
 rintro e w' ⟨rfl,rfl⟩
 refine ⟨_,rfl,Below.refl _ _,?_⟩
 simp only [rel]
 rw [← AI s c]
theorem mc (a b: UInt8): ∀ s: aa,pM s [a,b]=bif cH s (by8 a)||cH s (by8 b) then ((an (an s (by8 b)) (by8 a)).length: Int) else -1
 | []=>rfl
 | x::r=>by
   have ih:=mc a b r
   unfold pM at ih ⊢
   unfold Lib.indexAny
   have e1: cH (x::r) (by8 a)=(decide (by8 x=by8 a)||cH r (by8 a)):=rfl
   have e2: cH (x::r) (by8 b)=(decide (by8 x=by8 b)||cH r (by8 b)):=rfl
   have hx: ∀ c: UInt8,decide (by8 x=by8 c)=decide (x=c):=fun c=>by
    rw [Bool.eq_iff_iff,decide_eq_true_eq,decide_eq_true_eq];exact ⟨GJ,fun h=>by rw [h]⟩
   have hc: [a,b].contains x=(decide (x=a)||decide (x=b)):=by
    simp only [List.contains_cons,List.contains_nil,Bool.or_false]
    cases h1: decide (x=a) <;> cases h2: decide (x=b) <;> simp_all
   rw [hc,e1,e2,hx a,hx b,ih]
   unfold an
   rw [List.takeWhile_cons,hx b]
   cases h2: decide (x=b)
   · simp only [Bool.not_false,if_true,List.takeWhile_cons,hx a,Bool.or_false,Bool.false_or]
     cases h1: decide (x=a)
     · simp only [Bool.not_false,if_true,Bool.false_or,Bool.false_eq_true,if_false,List.length_cons]
       cases cH r (by8 a)||cH r (by8 b)
       · rfl
       · have: ((((r.takeWhile fun x=> !decide (by8 x=by8 b)).takeWhile fun x=> !decide (by8 x=by8 a)).length: Int)== -1)=false:=by rw [beq_eq_false_iff_ne];omega
         rw [cond_true,this];simp
     · simp
   · simp
end
end Go.Proofs.YtgknmoadpgpdeaaGreatDoor.Ev
