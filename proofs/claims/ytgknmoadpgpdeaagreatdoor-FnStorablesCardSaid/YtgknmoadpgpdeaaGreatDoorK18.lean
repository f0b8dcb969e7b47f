/- The texts Head, HeadS, Mz, Ma, Mb, Qg, Mc, Md, Me, Mf, one behind the other. -/
import Derived.Test.YtgknmoadpgpdeaaGreatDoorK14
import Derived.Test.YtgknmoadpgpdeaaGreatDoorK16
import Derived.Test.YtgknmoadpgpdeaaGreatDoorK17
import Derived.Deep.Cut
import Derived.Deep.CutRange
import Derived.Deep.RegionWith
import Derived.Lib.ItoaLen
import Derived.Test.YtgknmoadpgpdeaaGreatDoorK13
namespace Go.Proofs.YtgknmoadpgpdeaaGreatDoor.Ev
open Go.Shelf Go.RowKit Go
set_option linter.unusedVariables false
def bs (l: aa): ByteArray:=⟨l.toArray⟩
theorem fB (l: aa): (bs l).size=l.length:=by simp [bs,ByteArray.size]
noncomputable def ep (me ta: aa) (st: Int) (re: aa): aa:=
 bif decide (me=[]) then [72,84,84,80,47,49,46,49,32]++bR st++[32]++re++[13,10] else me++[32]++ta++[32,72,84,84,80,47,49,46,49]++[13,10]
theorem xO (st: Int) (h: bD st=true) (w: World) (htab: pg w): Calls Tryz.prog 232 #[.int .i64 st] w fun e w'=>e= .returned (.string (bs (bR st)))∧Below w.heap.size w w':=by
 simp only [bD,Bool.and_eq_true,decide_eq_true_eq] at h
 refine (Tryz.strconv_Itoa st (by omega) (by omega) w htab).mono ?_
 rintro e w' ⟨rfl,k,os,rfl⟩
 refine ⟨?_,tK w k os⟩
 rw [cQ];unfold Lib.itoa bs;rw [if_neg (by omega)]
def Fresh (b: Nat) (w: World): Prop:=w.heap[b]? =some (.cells #[.pointer none, .slice none 0 0] 186 (0,0))
theorem Fresh.is {b: Nat} {w: World} (h: Fresh b w): Lib.IsBuilderF 186 5 b b [] w:=
 .inl ⟨Nat.le_refl _,_,h,World.ownsRowF_nil w b _ 1,by simp [Value.ownBlock]⟩
theorem Fresh.below {b: Nat} {w w': World} (h: Fresh b w) (hb: Below w.heap.size w w'): Fresh b w':=by
 unfold Fresh at *
 have: b < w.heap.size:=by
  rcases Nat.lt_or_ge b w.heap.size with h' | h'
  · exact h'
  · rw [Array.getElem?_eq_none h'] at h;cases h
 rw [hb.block b this];exact h
theorem uA {w w': World} {B: Nat} (hB: gN≤B) (h: pg w) (hb: Below B w w'): pg w':=by
 unfold pg Lib.TabIs World.var? at *
 cases hg: Tryz.prog.globalNamed "internal/strconv.uint64pow10" with
 | none=>rw [hg] at h;cases h
 | some g=>
   have hlt:=J1 hg
   rw [hg] at h
   simp only [Option.bind_some] at h ⊢
   rw [hb.block g (Nat.lt_of_lt_of_le hlt hB)]
   exact h
theorem jf (st: Int) (h: bD st=true): (bR st).length≤21:=by
 simp only [bD,Bool.and_eq_true,decide_eq_true_eq] at h
 have:=Lib.itoa_length_le st (by omega) (by omega)
 unfold Lib.itoa at this
 rw [if_neg (by omega)] at this
 rw [cQ];exact this
theorem xP (a b: aa): bs a++bs b=bs (a++b):=by unfold bs;rw [ByteArray.mk_append_mk]
theorem K9 (l: aa): (bs l).toList.isEmpty=decide (l=[]):=by cases l <;> simp [bs]
theorem ir (me ta: aa) (st: Int) (re: aa) (h1: me.length≤20) (h2: ta.length≤200) (h3: re.length≤40) (h: bD st=true): (ep me ta st re).length≤300:=by
 have:=jf st h
 unfold ep
 cases decide (me=[]) <;> simp <;> omega
theorem ZS (me ta: aa) (st: Int) (re: aa) (h: (!(bs me).toList.isEmpty)=true): bs me++⟨#[32]⟩++bs ta++⟨#[32,72,84,84,80,47,49,46,49]⟩++⟨#[13,10]⟩=bs (ep me ta st re):=by
 rw [K9] at h
 simp only [Bool.not_eq_true',decide_eq_false_iff_not] at h
 unfold ep
 rw [dF' h,cond_false]
 show bs me++bs [32]++bs ta++bs [32,72,84,84,80,47,49,46,49]++bs [13,10]=_
 simp only [xP]
theorem ael (me ta: aa) (st: Int) (re: aa) (h: (!(bs me).toList.isEmpty)=false): ⟨#[72,84,84,80,47,49,46,49,32]⟩++bs (bR st)++⟨#[32]⟩++bs re++⟨#[13,10]⟩=bs (ep me ta st re):=by
 rw [K9] at h
 simp only [Bool.not_eq_false',decide_eq_true_eq] at h
 unfold ep
 rw [dT' h,cond_true]
 show bs [72,84,84,80,47,49,46,49,32]++bs (bR st)++bs [32]++bs re++bs [13,10]=_
 simp only [xP]
def Holds (w: World) (p: Obj) (l: aa) (wx: World): Prop:=
 Lib.IsBuilderF 186 5 (w.heap.size + 1) (w.heap.size + 1) (Lib.byteCells l) wx∧Below w.heap.size w wx∧w.heap.size + 2≤wx.heap.size∧wx.heap[w.heap.size]? =some p
theorem Holds.of {w W w2: World} {p: Obj} {l: aa} {s: ByteArray} (hW: Below w.heap.size w W) (hs: w.heap.size + 2≤W.heap.size) (hp: W.heap[w.heap.size]? =some p) (l0: aa) (he: s=bs l)
 (hB: Lib.BuilderAtF 186 5 (w.heap.size + 1) (w.heap.size + 1) (.pointer (some ⟨w.heap.size + 1,0,none⟩)) (Lib.byteCells l0++Lib.strCells s) w2) (bB: Below (w.heap.size + 1) W w2): Holds w p (l0++l) w2:=by
 subst he
 refine ⟨.inr ?_,hW.trans (bB.mono (by omega)),by have:=bB.size;omega,by rw [bB.block _ (by omega)];exact hp⟩
 rw [Lib.byteCells_append];exact hB
theorem Holds.alloc {w wx: World} {p: Obj} {l: aa} (h: Holds w p l wx) (X: Obj): Holds w p l (wx.alloc X):=
 ⟨h.1.alloc X,h.2.1.alloc (by have:=h.2.2.1;omega) X,by have:=h.2.2.1;simp;omega,by rw [heap_alloc_old _ _ (by have:=h.2.2.1;omega)];exact h.2.2.2⟩
theorem Holds.below {w wx w': World} {p: Obj} {l: aa} (h: Holds w p l wx) (hb: Below wx.heap.size wx w'): Holds w p l w':=by
 obtain ⟨h1,h2,h3,h4⟩:=h
 have hg: ∀ row,wx.grownBy w' row:=fun row=>⟨hb.os,hb.tape,hb.output,hb.size,fun k hk _=>hb.block k hk⟩
 have kept: ∀ v n xs,wx.ownsRowF (w.heap.size + 1) 5 1 v n xs→w'.ownsRowF (w.heap.size + 1) 5 1 v n xs:=fun v n xs ho=>by
  cases hv: v.ownBlock with
  | none=>exact ho.kept (hg none) (.inl hv)
  | some q=>exact ho.kept (hg none) (.inr (by rw [hv];exact fun e=>by cases e))
 have one: ∀ q,Lib.BuilderAtF 186 5 (w.heap.size + 1) (w.heap.size + 1) q (Lib.byteCells l) wx→Lib.BuilderAtF 186 5 (w.heap.size + 1) (w.heap.size + 1) q (Lib.byteCells l) w':=by
  rintro q ⟨g1,v,g2,g3,g4⟩
  exact ⟨g1,v,by rw [hb.block _ (by omega)];exact g2,kept _ _ _ g3,g4⟩
 exact ⟨h1.imp (one _) (one _),h2.trans (hb.mono (by omega)),by have:=hb.size;omega,by rw [hb.block _ (by omega)];exact h4⟩
noncomputable def clP (me: aa) (ba: Bool) (bo: aa): aa:=
 bif (!decide (me=[])&& !decide (bo=[]))||(decide (me=[])&& !ba) then [67,111,110,116,101,110,116,45,76,101,110,103,116,104,58,32]++bR (bo.length: Int)++[13,10] else []
theorem aem (me: aa) (ba: Bool) (bo: aa) (h: ((!decide (me=[])&& !decide (bo=[]))||(decide (me=[])&& !ba))=false): clP me ba bo=[]:=by unfold clP;rw [h];rfl
theorem abC (me: aa) (ba: Bool) (bo: aa) (h: ((!decide (me=[])&& !decide (bo=[]))||(decide (me=[])&& !ba))=true): bs (clP me ba bo)=⟨#[67,111,110,116,101,110,116,45,76,101,110,103,116,104,58,32]⟩++bs (bR ((bs bo).size: Int))++⟨#[13,10]⟩:=by
 unfold clP;rw [h,cond_true,fB]
 show _=bs [67,111,110,116,101,110,116,45,76,101,110,103,116,104,58,32]++bs (bR (bo.length: Int))++bs [13,10]
 simp only [xP]
def uB (f: Fd): aa:=jP f++[13,10]
def dC: List Fd→aa
 | []=>[]
 | f::r=>uB f++dC r
theorem uC: ∀ (l: List Fd) (f: Fd),dC (l++[f])=dC l++uB f
 | [],f=>by simp [dC]
 | g::r,f=>by simp only [List.cons_append,dC,uC r f,List.append_assoc]
theorem Hm (l: List Fd) (k: Nat) (h: k < l.length): dC (l.take (k + 1))=dC (l.take k)++uB (l[k]'h):=by
 rw [List.take_succ_eq_append_getElem h,uC]
theorem f6: ∀ (l: List Fd),(∀ f ∈ l,nr f=true)→(dC l).length≤300 * l.length
 | [],_=>by simp [dC]
 | f::r,h=>by
   have h1:=jd (h f (List.mem_cons_self ..))
   have h2:=f6 r fun g hg=>h g (List.mem_cons_of_mem _ hg)
   simp only [dC,uB,jP,List.length_append,List.length_cons,List.length_nil];omega
noncomputable def jg (me ta: aa) (st: Int) (re: aa) (ba: Bool) (l: List Fd) (bo: aa): aa:=ep me ta st re++dC l++clP me ba bo++[13,10]
set_option maxHeartbeats 4000000 in
set_option maxRecDepth 1000000 in
theorem RU (me ta re bo: aa) (st: Int) (ba: Bool) (l: List Fd) (a: Option Addr) (cp: Nat) (w: World) (htab: pg w) (hgn: gN≤w.heap.size) (hl: l.length≤20) (hf: ∀ f ∈ l,nr f=true)
 (hc: ∀ i (h: i < l.length),∃ b o,a=some ⟨b,o,none⟩∧w.cell? ⟨b,o + i * 2,none⟩=some (.string (bs (l[i]).1))∧w.cell? ⟨b,o + i * 2 + 1,none⟩=some (.string (bs (l[i]).2)))
 (h1: me.length≤20) (h2: ta.length≤200) (h3: re.length≤40) (h4: bo.length≤600) (h5: bD st=true):
 Calls Tryz.prog 177 #[.agg #[.string (bs me), .string (bs ta), .int .i64 st, .string (bs re), .bool ba, .slice a l.length cp, .string (bs bo)]] w fun e w'=>e= .returned (.string (bs (jg me ta st re ba l bo)))∧Below w.heap.size w w':=by
 let P: Obj:= .cells #[.string (bs me), .string (bs ta), .int .i64 st, .string (bs re), .bool ba, .slice a l.length cp, .string (bs bo)] 43
 have s1: (bs me).size≤20:=by rw [fB];exact h1
 have s2: (bs ta).size≤200:=by rw [fB];exact h2
 have s3: (bs re).size≤40:=by rw [fB];exact h3
 have s4: (bs bo).size≤600:=by rw [fB];exact h4
 have s5: (bs (bR st)).size≤21:=by rw [fB];exact jf st h5
 have sF: (bs (ep me ta st re)).size≤300:=by rw [fB];exact ir me ta st re h1 h2 h3 h5
 go_enter Tryz.func177,Tryz.ntmps177
 go_upto_if 8 with fail
 go_cut [] from 6 to 66 (fun wx=>Holds w (.cells #[.string (bs me), .string (bs ta), .int .i64 st, .string (bs re), .bool ba, .slice a l.length cp, .string (bs bo)] 43) (ep me ta st re) wx)
 case first=>
  have fresh: ∀ X: Obj,Fresh (w.heap.size + 1) ((w.alloc X).alloc (.cells #[.pointer none, .slice none 0 0] 186)):=fun X=>by
   unfold Fresh
   have e: w.heap.size + 1=(w.alloc X).heap.size:=by simp
   rw [e]
   exact heap_alloc_new _ _
  have grown: ∀ X Y: Obj,Below w.heap.size w ((w.alloc X).alloc Y):=fun X Y=>((Below.refl _ w).alloc (Nat.le_refl _) X).alloc (by simp) Y
  have par2: ∀ X Y: Obj,((w.alloc X).alloc Y).heap[w.heap.size]? =some X:=fun X Y=>by rw [heap_alloc_old _ _ (by simp)];exact heap_alloc_new _ _
  have size2: ∀ X Y: Obj,w.heap.size + 2≤((w.alloc X).alloc Y).heap.size:=fun X Y=>by simp
  go_wp2_with (go_at_call 231;refine (Tryz.bld_write (w.heap.size + 1) (w.heap.size + 1) [] _ _ (fresh _).is ?hl ?hB).mono ?_)
  · rename_i hc _ _
    rw [ZS me ta st re hc]
    simp only [List.length_nil];omega
  · simp
  · rename_i hc _ _
    rw [ZS me ta st re hc]
    rintro e w1 ⟨rfl,hB1,bB1,_⟩
    have hH:=Holds.of (l:=ep me ta st re) (grown _ _) (size2 _ _) (par2 _ _) [] rfl hB1 bB1
    go_wp2_with fail
    go_meet
    case rel=>exact hH
  · rename_i hc
    have growD: ∀ X Y: Obj,Below w.heap.size w ((w.alloc X).alloc Y).drew:=fun X Y=>Below.drew (grown X Y)
    have sizeD: ∀ X Y: Obj,w.heap.size + 2≤((w.alloc X).alloc Y).drew.heap.size:=size2
    have freshD: ∀ X: Obj,Fresh (w.heap.size + 1) ((w.alloc X).alloc (.cells #[.pointer none, .slice none 0 0] 186)).drew:=fresh
    have parD: ∀ X Y: Obj,((w.alloc X).alloc Y).drew.heap[w.heap.size]? =some X:=par2
    have eB:=ael me ta st re hc
    go_region_with (first
     | (go_at_call 232;refine (xO st h5 _ (uA hgn htab (growD _ _))).mono ?_;rintro e w1 ⟨rfl,hb1⟩;have g3: w1.cell? ⟨w.heap.size,3,none⟩=some (.string (bs re)):=((hb1.cell (p:=⟨w.heap.size,3,none⟩) (Nat.lt_of_lt_of_le (by simp only;omega) (sizeD _ _))).trans (by rw [Lib.cell_of_heap (parD _ _)];rfl));have g7: w1.heap[w.heap.size]? =_:=(hb1.block _ (Nat.lt_of_lt_of_le (by omega) (sizeD _ _))).trans (parD _ _);have g4: Fresh (w.heap.size + 1) w1:=(freshD _).below hb1;have g5: Below w.heap.size w w1:=(growD _ _).trans (hb1.mono (Nat.le_trans (Nat.le_add_right _ 2) (sizeD _ _)));have g6: w.heap.size + 2≤w1.heap.size:=Nat.le_trans (sizeD _ _) hb1.size;clear hb1)
     | (go_at_call 231;refine (Tryz.bld_write (w.heap.size + 1) (w.heap.size + 1) [] _ _ (Fresh.is (by assumption)) (by simp only [List.length_nil];omega) (by omega)).mono ?_;rintro e w2 ⟨rfl,hB1,bB1,_⟩;have hH:=Holds.of (l:=ep me ta st re) g5 g6 g7 [] rfl hB1 bB1))
    all_goals (go_wp2_with fail;go_meet;exact hH)
 case rest=>
  have hp:=hcut.2.2.2
  have c5: wc.cell? ⟨w.heap.size,5,none⟩=some (.slice a l.length cp):=by rw [Lib.cell_of_heap hp];rfl
  go_wp2_with fail
  go_loopw [31] (fun i wr=>∃ k: Nat,k≤l.length∧i= .int .i64 k∧Holds w (.cells #[.string (bs me), .string (bs ta), .int .i64 st, .string (bs re), .bool ba, .slice a l.length cp, .string (bs bo)] 43) (ep me ta st re++dC (l.take k)) wr) (fun i _=>l.length - (intOf i).toNat)
  case atStart=>exact ⟨0,Nat.zero_le _,rfl,by simpa [dC] using hcut⟩
  case round=>
   obtain ⟨k,hk,rfl,hI⟩:=hrel
   by_cases hlt: k < l.length
   · obtain ⟨b,o,rfl,g1,g2⟩:=hc k hlt
     have hbb: b < w.heap.size:=World.block_lt_of_cell? w ⟨b,o + k * 2,none⟩ g1
     have q1: wr.cell? ⟨b,o + k * 2,none⟩=_:=(hI.2.1.cell (p:=⟨b,o + k * 2,none⟩) hbb).trans g1
     have q2: wr.cell? ⟨b,o + k * 2 + 1,none⟩=_:=(hI.2.1.cell (p:=⟨b,o + k * 2 + 1,none⟩) hbb).trans g2
     have z:=jd (hf _ (List.getElem_mem hlt))
     have z1: (bs (l[k]).1).size≤40:=by rw [fB];exact z.1
     have z2: (bs (l[k]).2).size≤190:=by rw [fB];exact z.2
     have eL: bs (l[k]).1++⟨#[58,32]⟩++bs (l[k]).2++⟨#[13,10]⟩=bs (uB (l[k])):=by
      show bs (l[k]).1++bs [58,32]++bs (l[k]).2++bs [13,10]=_
      simp only [xP,uB,jP,List.append_assoc];rfl
     have hb2:=fun X Y=>(hI.alloc X).alloc Y
     have hb3: ∀ X Y: Obj,w.heap.size + 1≤((wr.alloc X).alloc Y).heap.size:=fun X Y=>by have:=(hb2 X Y).2.2.1;omega
     have hn: (Lib.byteCells (ep me ta st re++dC (l.take k))).length + (bs (uB (l[k]))).size≤140737488355328:=by
      have y1:=ir me ta st re h1 h2 h3 h5
      have y2:=f6 (l.take k) fun f hf'=>hf f (List.mem_of_mem_take hf')
      have y3: (l.take k).length≤20:=Nat.le_trans (List.length_take_le _ _) (by omega)
      rw [Lib.byteCells_length,fB,List.length_append]
      have y4: (uB (l[k])).length≤300:=by simp only [uB,jP,List.length_append,List.length_cons,List.length_nil];omega
      omega
     go_wp2_with (first
      | (go_at_call 231;refine (Tryz.bld_write (w.heap.size + 1) (w.heap.size + 1) _ _ _ (hb2 _ _).1 hn (hb3 _ _)).mono ?_)
      | go_in)
     rintro e w1 ⟨rfl,hB1,bB1,_⟩
     have hH:=Holds.of (l:=uB (l[k])) (hb2 _ _).2.1 (hb2 _ _).2.2.1 (hb2 _ _).2.2.2 _ rfl hB1 bB1
     clear eL hb2 hb3 hn
     go_wp2_with fail
     go_roundw
     case rel=>exact ⟨k + 1,by omega,by go_num,by rw [Hm l k hlt,← List.append_assoc];exact hH⟩
     case measure=>simp [intOf];omega
   · have hkl: k=l.length:=by omega
     subst hkl
     rw [List.take_length] at hI
     have hp:=hI.2.2.2
     have d0: wr.cell? ⟨w.heap.size,0,none⟩=some (.string (bs me)):=by rw [Lib.cell_of_heap hp];rfl
     have d4: wr.cell? ⟨w.heap.size,4,none⟩=some (.bool ba):=by rw [Lib.cell_of_heap hp];rfl
     have d6: wr.cell? ⟨w.heap.size,6,none⟩=some (.string (bs bo)):=by rw [Lib.cell_of_heap hp];rfl
     have hT: pg wr:=uA hgn htab hI.2.1
     have hN: bD ((bs bo).size: Int)=true:=by simp only [bD,Bool.and_eq_true,decide_eq_true_eq];omega
     have s6: (bs (bR ((bs bo).size: Int))).size≤21:=by rw [fB];exact jf _ hN
     have hL: (ep me ta st re++dC l).length≤6300:=by
      have y1:=ir me ta st re h1 h2 h3 h5
      have y2:=f6 l hf
      rw [List.length_append];omega
     have hI2:=hI
     go_upto_region 10 with fail
     go_cut [57] from 40 to 66 (fun v wx=>v= .bool ((!decide (me=[])&& !decide (bo=[]))||(decide (me=[])&& !ba))∧Holds w (.cells #[.string (bs me), .string (bs ta), .int .i64 st, .string (bs re), .bool ba, .slice a l.length cp, .string (bs bo)] 43) (ep me ta st re++dC l) wx)
     case first=>
      have e1:=K9 me
      have e2:=K9 bo
      cases hm: decide (me=[]) <;> cases hb: decide (bo=[]) <;> cases ba <;> rw [hm] at e1 <;> rw [hb] at e2
      all_goals
       go_wp2_with fail
       go_meet
       exact ⟨by rw [hm,hb];rfl,hI2⟩
     case rest=>
      obtain ⟨rfl,hJ⟩:=hcut
      have hT:=uA hgn htab hJ.2.1
      have hp2:=hJ.2.2.2
      have d6: wc.cell? ⟨w.heap.size,6,none⟩=some (.string (bs bo)):=by rw [Lib.cell_of_heap hp2];rfl
      cases hq: (!decide (me=[])&& !decide (bo=[]))||(decide (me=[])&& !ba)
      · have hcl:=aem me ba bo hq
        have hl9: jg me ta st re ba l bo=ep me ta st re++dC l++[13,10]:=by rw [jg,hcl,List.append_nil]
        go_wp2_with (go_at_call 234;refine (Tryz.bld_string (w.heap.size + 1) (w.heap.size + 1) _ _ hJ.1 (by have:=hJ.2.2.1;omega)).mono ?_)
        rintro e w2 ⟨rfl,hB2,bB2,_⟩
        have y1:=ir me ta st re h1 h2 h3 h5
        have y2:=f6 l hf
        go_wp2_with fail
        go_ret
        exact ⟨by rw [hl9,← xP];rfl,hJ.2.1.trans (bB2.mono (by have:=hJ.2.2.1;omega))⟩
      · have eW:=abC me ba bo hq
        have sW: (bs (clP me ba bo)).size≤60:=by
         rw [eW]
         have g1: (⟨#[67,111,110,116,101,110,116,45,76,101,110,103,116,104,58,32]⟩: ByteArray).size=16:=rfl
         have g2: (⟨#[13,10]⟩: ByteArray).size=2:=rfl
         rw [ByteArray.size_append,ByteArray.size_append,g1,g2];omega
        have y1:=ir me ta st re h1 h2 h3 h5
        have y2:=f6 l hf
        have y3: (clP me ba bo).length≤60:=by rw [← fB];exact sW
        have sN: (Lib.byteCells (ep me ta st re++dC l)).length + (bs (clP me ba bo)).size≤140737488355328:=by rw [Lib.byteCells_length];omega
        go_wp2_with (first
         | (go_at_call 232;refine (xO _ hN _ hT).mono ?_;rintro e w1 ⟨rfl,hb1⟩;have hI1:=hJ.below hb1;clear hb1)
         | (go_at_call 231;refine (Tryz.bld_write (w.heap.size + 1) (w.heap.size + 1) _ _ _ hI1.1 (by rw [← eW];exact sN) (by have:=hI1.2.2.1;omega)).mono ?_;rintro e w2 ⟨rfl,hB1,bB1,_⟩;have hH:=Holds.of (l:=clP me ba bo) hI1.2.1 hI1.2.2.1 hI1.2.2.2 _ eW.symm hB1 bB1)
         | (go_at_call 234;refine (Tryz.bld_string (w.heap.size + 1) (w.heap.size + 1) _ _ hH.1 (by have:=hH.2.2.1;omega)).mono ?_;rintro e w3 ⟨rfl,hB2,bB2,_⟩))
        go_ret
        exact ⟨by rw [jg,← xP];simp only [List.append_assoc];rfl,hH.2.1.trans (bB2.mono (by have:=hH.2.2.1;omega))⟩
def hdG (me ta: aa) (st: Int) (re: aa) (fs: List Fd) (bo: aa): Bool:=decide (me.length≤20)&&decide (ta.length≤200)&&bD st&&decide (re.length≤40)&&cw fs&&decide (bo.length≤600)
noncomputable def K_: List AV→List Ob→Br
 | [.agg [.str me, .str ta, .int .i64 st, .str re, .bool ba, .sh (.pair .str .str) fs, .str bo]],[]=> .ite (hdG me ta st re fs bo) (.ret (.str (jg me ta st re ba fs bo)) []) .fail
 | _,_=> .fail
theorem Xd: Sound Kx 177 K_:=by
 refine cE Tryz.func177 (by kernel_rfl) rfl fun args objs res objs' hv w L vs hR hr=>?_
 unfold K_ at hv
 split at hv
 case h_2=>cases hv
 rename_i me ta st re ba fs bo
 obtain ⟨h1,h2⟩:=ai hv
 cases h2
 simp only [hdG,Bool.and_eq_true,decide_eq_true_eq] at h1
 obtain ⟨⟨⟨⟨⟨g1,g2⟩,g3⟩,g4⟩,g5⟩,g6⟩:=h1
 obtain ⟨g7,g8⟩:=gj g5
 have ht: pg w:=by
  rcases hR.g.1 with h | h
  · have:=CU;rw [h] at this;cases this
  · exact h
 have hgn: gN≤w.heap.size:=hR.gs
 refine ⟨rfl,?_⟩
 simp only [aU,rel,rd] at hr
 obtain ⟨v,vs',rfl,⟨cs,rfl,hcs, -⟩,rfl⟩:=hr
 obtain ⟨c1,r1,e1,rfl,c2,r2,rfl,rfl,c3,r3,rfl,rfl,c4,r4,rfl,rfl,c5,r5,rfl,rfl,c6,r6,rfl,⟨a,n,cp,q1,rfl,q3,q4⟩,c7,r7,rfl,rfl,rfl⟩:=hcs
 obtain rfl: c6= .slice a fs.length cp:=by simpa using q1
 have hc: ∀ i (h: i < fs.length),∃ b o,a=some ⟨b,o,none⟩∧w.cell? ⟨b,o + i * 2,none⟩=some (.string (bs (fs[i]).1))∧w.cell? ⟨b,o + i * 2 + 1,none⟩=some (.string (bs (fs[i]).2)):=by
  intro i h
  rcases q4 with rfl | ⟨b,o,rfl,q4⟩
  · cases h
  · obtain ⟨ds,_,⟨d1,d2,rfl,rfl,rfl⟩,k3⟩:=q4 i h
    exact ⟨b,o,rfl,by have:=(k3 0 (by decide)).1;exact this,by have:=(k3 1 (by decide)).1;exact this⟩
 have:=RU me ta re bo st ba fs a cp w ht hgn g7 g8 hc g1 g2 g4 g6 g3
 have e2: cs=#[.string (bs me), .string (bs ta), .int .i64 st, .string (bs re), .bool ba, .slice a fs.length cp, .string (bs bo)]:=by
  apply Array.toList_inj.1;rw [e1];rfl
 subst e2
 refine this.mono ?_
 rintro e w' ⟨rfl,hb⟩
 exact ⟨_,rfl,hb,by simp only [rel];rfl⟩
end Go.Proofs.YtgknmoadpgpdeaaGreatDoor.Ev
namespace Go.Proofs.YtgknmoadpgpdeaaGreatDoor.Ev
open Go Go.RowKit
abbrev Fs:=Nat
def F0: Fs:=0
noncomputable def aen (F: Fs): List AV→List Ob→Br
 | [.int .i64 n],[]=> .ite (bD n&&decide (n < (F: Int))) (.ret (.str (bR n)) []) .fail
 | _,_=> .fail
theorem aeo: Sound Kx 191 (aen F0):=fun args objs res objs2 hv=>False.elim (by
 unfold aen at hv
 split at hv
 · have:=(ai hv).1
   simp only [bD,Bool.and_eq_true,decide_eq_true_eq] at this
   have h0: ((F0: Nat): Int)=0:=rfl
   omega
 · cases hv)
end Go.Proofs.YtgknmoadpgpdeaaGreatDoor.Ev
namespace Go.Proofs.YtgknmoadpgpdeaaGreatDoor.Ev
open Go Go.RowKit
set_option linter.unusedVariables false
set_option linter.unusedSimpArgs false
noncomputable section
def RV (F: Fs): dM:=(add noS 191 (aen F))
def La (F: Fs) (n: Int): Br:=(.ite (decide (n < 0)) (.ret (AV.str ([]: aa)) []) (.ite (decide (999999999999999 < n)) (.ret (AV.str ([]: aa)) []) (.ite (decide (n < 10)) (.ret (AV.str (bG (List.set (List.replicate 1 (0 : Int)) 0 (wk8 (ad (48 + n)))))) []) (.ite ((bD (ad (Int.tdiv n 10)))&&(decide ((ad (Int.tdiv n 10)) < (F: Int)))) (.ite (decide (((List.length (bR (ad (Int.tdiv n 10)))) + (List.length (bG (List.set (List.replicate 1 (0 : Int)) 0 (wk8 (ad (48 + (Int.tmod n 10))))))))≤9223372036854775807)) (.ret (AV.str ((bR (ad (Int.tdiv n 10)))++(bG (List.set (List.replicate 1 (0 : Int)) 0 (wk8 (ad (48 + (Int.tmod n 10)))))))) []) .fail) .fail))))
theorem RW (F: Fs) (n: Int): Zl Kx (RV F) O0 1 Tryz.f191 ([.int .i64 n]) ([])=(La F n).val:=by kernel_rfl
def aep: SC:=[⟨47,_,lU⟩]
def Hn (l: List Fd) (name: aa): Br:=(.ite (isM name) (.ret (AV.bool (decide (0 < ((List.length (fi l name)): Int)))) []) .fail)
def ZT: List AV→List Ob→Br
 | [.sh (.pair .str .str) l, .str name],[]=>Hn l name
 | _,_=> .fail
theorem iHas_ok: Sound Kx 85 ZT:=ae (C:=aep) (O:=O0) Tryz.func85 (by kernel_rfl) fun args objs=>by
 unfold ZT;split
 · exact .inr (by kernel_rfl)
 · exact .inl rfl
def Oh: Br:=(.ret (AV.ref 0 0) [.arr Ty.str 0 false (List.set (List.set (List.set (List.replicate 3 ([]: aa)) 0 ([99,111,110,116,101,110,116,45,108,101,110,103,116,104]: aa)) 1 ([116,114,97,110,115,102,101,114,45,101,110,99,111,100,105,110,103]: aa)) 2 ([116,114,97,105,108,101,114]: aa))])
def DY: List AV→List Ob→Br
 | [],[]=>Oh
 | _,_=> .fail
theorem Oi: Sound Kx 171 DY:=ae (C:=[]) (O:=O0) Tryz.func171 (by kernel_rfl) fun args objs=>by
 unfold DY;split
 · exact .inr (by kernel_rfl)
 · exact .inl rfl
def aeq: SC:=[⟨48,_,uk⟩]
def Ho (l: List Fd) (name: aa): Br:=(.ite (isM name) (.ite (decide (((List.length (fi l name)): Int)=0)) (.ret (AV.tup [.str ([]: aa),.bool false]) []) (.ite (decide (0 < ((List.length (fi l name)): Int))) (.ret (AV.tup [.str (List.getD (fi l name) 0 ([]: aa)),.bool true]) []) .fail)) .fail)
def ZU: List AV→List Ob→Br
 | [.sh (.pair .str .str) l, .str name],[]=>Ho l name
 | _,_=> .fail
theorem sGet_ok: Sound Kx 82 ZU:=ae (C:=aeq) (O:=O0) Tryz.func82 (by kernel_rfl) fun args objs=>by
 unfold ZU;split
 · exact .inr (by kernel_rfl)
 · exact .inl rfl
theorem Lb (d: Int) (h0: 0≤d) (h: d < 10): bG (List.set (List.replicate 1 (0 : Int)) 0 (wk8 (ad (48 + d))))=[UInt8.ofNat (48 + d.toNat)]:=by
 rw [w64 (by omega) (by omega),w8 (by omega) (by omega),bO]
 show [UInt8.ofNat (48 + d).toNat]=_
 rw [show (48 + d).toNat=48 + d.toNat by omega]
theorem agU: ∀ k,Sound Kx 191 (aen k):=by
 intro k;induction k with
 | zero=>exact aeo
 | succ k ih=>
   refine tA (C:=RV k) (O:=O0) KOk (CL (J2 Kx) ih) Tryz.func191 (by kernel_rfl) fun args objs res os h=>?_
   unfold aen at h
   split at h
   · rename_i n
     refine ⟨1,(RW k n).trans ?_⟩
     obtain ⟨h1,h2⟩:=ai h
     cases h2
     rw [Bool.and_eq_true,decide_eq_true_eq] at h1
     obtain ⟨hn,hk⟩:=h1
     have hn':=hn
     simp only [bD,Bool.and_eq_true,decide_eq_true_eq] at hn'
     unfold La
     refine (eH (dF' (by omega))).trans ((eH (dF' (by omega))).trans ?_)
     by_cases c: n < 10
     · refine (bv (dT' c)).trans ?_
       rw [Lb n hn'.1 c,cQ,Lib.decDigits,dif_pos (by omega)]
       rfl
     · have e1: ad (Int.tdiv n 10)=((n.toNat / 10 : Nat): Int):=by
        rw [Int.tdiv_eq_ediv_of_nonneg hn'.1,w64 (by omega) (by omega)];omega
       have e2: Int.tmod n 10=((n.toNat % 10 : Nat): Int):=by
        rw [Int.tmod_eq_emod_of_nonneg hn'.1];omega
       rw [e1,e2]
       have hq: bD ((n.toNat / 10 : Nat): Int)=true:=by simp only [bD,Bool.and_eq_true,decide_eq_true_eq];omega
       have hl:=jf _ hq
       rw [Lb ((n.toNat % 10 : Nat): Int) (by omega) (by omega)]
       refine (eH (dF' c)).trans ((bv ?_).trans ((bv ?_).trans ?_))
       · rw [hq,Bool.true_and];exact dT' (by omega)
       · exact dT' (by simp only [List.length_singleton];omega)
       · rw [cQ,cQ,Lib.decDigits.eq_1 n.toNat,dif_neg (by omega)]
         simp only [Int.toNat_natCast]
         rfl
   · cases h
def aer: List AV→List Ob→Br
 | [.int .i64 n],[]=> .ite (bD n) (.ret (.str (bR n)) []) .fail
 | _,_=> .fail
theorem px: Sound Kx 191 aer:=(agU 1000000000000000).of fun args objs r h=>by
 unfold aer at h
 split at h
 · rename_i n
   obtain ⟨h1,h2⟩:=ai h
   refine (bv ?_).trans h2
   rw [h1,Bool.true_and]
   simp only [bD,Bool.and_eq_true,decide_eq_true_eq] at h1
   exact dT' (by omega)
 · cases h
def eq (l: List Fd) (name: aa): Bool:=decide (0 < (fi l name).length)
def ZV: List AV→List Ob→Br
 | [.sh (.pair .str .str) l, .str name],[]=> .ite (isM name) (.ret (.bool (eq l name)) []) .fail
 | _,_=> .fail
theorem sn: Sound Kx 85 ZV:=iHas_ok.of fun args objs r h=>by
 unfold ZV at h
 split at h
 · rename_i l name
   obtain ⟨h1,h2⟩:=ai h
   cases h2
   show (Hn l name).val=_
   unfold Hn eq
   refine (bv h1).trans ?_
   simp only [Int.natCast_pos]
   rfl
 · cases h
def Ae: List AV→List Ob→Br
 | [.sh (.pair .str .str) l, .str name],[]=> .ite (isM name) (.ret (.tup [.str ((fi l name).getD 0 []), .bool (eq l name)]) []) .fail
 | _,_=> .fail
theorem Ld: Sound Kx 82 Ae:=sGet_ok.of fun args objs r h=>by
 unfold Ae at h
 split at h
 · rename_i l name
   obtain ⟨h1,h2⟩:=ai h
   cases h2
   show (Ho l name).val=_
   unfold Ho eq
   refine (bv h1).trans ?_
   cases hv: fi l name with
   | nil=>rfl
   | cons a r=>
     refine (eH ?_).trans ((bv ?_).trans ?_)
     · exact dF' (by simp only [List.length_cons];omega)
     · exact dT' (by simp only [List.length_cons];omega)
     · rw [show decide (0 < (a::r).length)=true from dT' (by simp)];rfl
 · cases h
def Xe: SC:=[⟨71,_,bQ⟩,⟨148,_,xb⟩]
abbrev uD (s: List UInt8) (code: List Int) (i h: Int):=(Br.ite (decide ((aT (ad ((s.length: Int) + 1)) code i h) < (s.length: Int))) (Br.ite (decide (0≤(aT (ad ((s.length: Int) + 1)) code i h))) (Br.ite (decide ((aT (ad ((s.length: Int) + 1)) code i h) < ((List.length (bytesOf s)): Int))) (Br.ite (okC code (am 4 code (am (ad ((s.length: Int) + 1)) code i))) (Br.ite (!(decide ((aT 8 code (am 4 code (am (ad ((s.length: Int) + 1)) code i)) (aw 4 (aw (ad ((s.length: Int) + 1)) h))) < 0))) (Br.ite (decide (0≤(aT (ad ((s.length: Int) + 1)) code i h))) (Br.ite (decide ((aT (ad ((s.length: Int) + 1)) code i h) < ((List.length (bytesOf s)): Int))) (Br.ret (AV.str (bG (List.set (bytesOf s) (Int.toNat (aT (ad ((s.length: Int) + 1)) code i h)) (wkk .u8 (((BitVec.toNat ((BitVec.ofInt 8 (List.getD (bytesOf s) (Int.toNat (aT (ad ((s.length: Int) + 1)) code i h)) 0)) ^^^ (BitVec.ofInt 8 (wk8 (1 * (2 ^ (min (Int.toNat (aT 8 code (am 4 code (am (ad ((s.length: Int) + 1)) code i)) (aw 4 (aw (ad ((s.length: Int) + 1)) h)))) 8))))))): Nat): Int))))) ((Ob.var ((AV.sh (Ty.int .u8) code)::((AV.int .i64 (am 8 code (am 4 code (am (ad ((s.length: Int) + 1)) code i))))::((AV.int .i64 (aw 8 (aw 4 (aw (ad ((s.length: Int) + 1)) h))))::[]))))::[])) Br.fail) Br.fail) Br.fail) Br.fail) Br.fail) Br.fail) (Br.ite (decide ((s.length + 1)≤9223372036854775807)) (Br.ret (AV.str (s++([48]: aa))) ((Ob.var ((AV.sh (Ty.int .u8) code)::((AV.int .i64 (am 4 code (am (ad ((s.length: Int) + 1)) code i)))::((AV.int .i64 (aw 4 (aw (ad ((s.length: Int) + 1)) h)))::[]))))::[])) Br.fail))
abbrev bt (s: List UInt8) (code: List Int) (i h: Int):=(aT (ad ((s.length: Int) + 1)) code i h)
abbrev nD (s: List UInt8) (code: List Int) (i h: Int):=(bG (List.set (List.replicate 1 (0 : Int)) 0 (wk8 (h_ code (am 4 code (am (ad ((s.length: Int) + 1)) code i)) (aw 4 (aw (ad ((s.length: Int) + 1)) h))))))
def jR (s: List UInt8) (code: List Int) (i h: Int): Br:=(.ite (okC code i) (.ite (okC code (am (ad ((s.length: Int) + 1)) code i)) (.ite (decide ((aT 4 code (am (ad ((s.length: Int) + 1)) code i) (aw (ad ((s.length: Int) + 1)) h))=0)) (.ite (decide (0≤(bt s code i h))) (.ite (decide ((bt s code i h)≤(s.length: Int))) (.ite (okC code (am 4 code (am (ad ((s.length: Int) + 1)) code i))) (.ite (decide (((List.length (cut s 0 (bt s code i h))) + (List.length (nD s code i h)))≤9223372036854775807)) (.ite (decide (0≤(bt s code i h))) (.ite (decide ((bt s code i h)≤(s.length: Int))) (.ite (decide (((List.length ((cut s 0 (bt s code i h))++(nD s code i h))) + (List.length (cut s (bt s code i h) (s.length: Int))))≤9223372036854775807)) (.ret (AV.str (((cut s 0 (bt s code i h))++(nD s code i h))++(cut s (bt s code i h) (s.length: Int)))) [.var [.sh (Ty.int .u8) code,.int .i64 (cv code (am 4 code (am (ad ((s.length: Int) + 1)) code i))),.int .i64 (mix (aw 4 (aw (ad ((s.length: Int) + 1)) h)))]]) .fail) .fail) .fail) .fail) .fail) .fail) .fail) (.ite (decide ((aT 4 code (am (ad ((s.length: Int) + 1)) code i) (aw (ad ((s.length: Int) + 1)) h))=1)) (.ite (decide (0≤(bt s code i h))) (.ite (decide ((bt s code i h)≤(s.length: Int))) (.ret (AV.str (cut s 0 (bt s code i h))) [.var [.sh (Ty.int .u8) code,.int .i64 (am 4 code (am (ad ((s.length: Int) + 1)) code i)),.int .i64 (aw 4 (aw (ad ((s.length: Int) + 1)) h))]]) .fail) .fail) (.ite (decide ((aT 4 code (am (ad ((s.length: Int) + 1)) code i) (aw (ad ((s.length: Int) + 1)) h))=2)) (.ite (decide ((bt s code i h) < (s.length: Int))) (.ite (decide (0≤(bt s code i h))) (.ite (decide ((bt s code i h)≤(s.length: Int))) (.ite (decide (0≤(ad ((bt s code i h) + 1)))) (.ite (decide ((ad ((bt s code i h) + 1))≤(s.length: Int))) (.ite (decide (((List.length (cut s 0 (bt s code i h))) + (List.length (cut s (ad ((bt s code i h) + 1)) (s.length: Int))))≤9223372036854775807)) (.ret (AV.str ((cut s 0 (bt s code i h))++(cut s (ad ((bt s code i h) + 1)) (s.length: Int)))) [.var [.sh (Ty.int .u8) code,.int .i64 (am 4 code (am (ad ((s.length: Int) + 1)) code i)),.int .i64 (aw 4 (aw (ad ((s.length: Int) + 1)) h))]]) .fail) .fail) .fail) .fail) .fail) (uD s code i h)) (uD s code i h)))) .fail) .fail)
def Le: List AV→List Ob→Br
 | [.ptr 0 0, .str s],[.var [.sh (.int .u8) code, .int .i64 i, .int .i64 h]]=>jR s code i h
 | _,_=> .fail
theorem RX: Sound Kx 147 Le:=ae (C:=Xe) (O:=O0) Tryz.func147 (by kernel_rfl) fun args objs=>by
 unfold Le;split
 · exact .inr (by kernel_rfl)
 · exact .inl rfl
def RY: SC:=[⟨71,_,bQ⟩,⟨72,_,tG⟩,⟨191,_,px⟩]
abbrev cX (code: List Int) (i h: Int):=(ofI (ad (1 + (aT 3 code (am 12 code i) (aw 12 h)))) ([97,66,45]: aa) code (am 3 code (am 12 code i)) (aw 3 (aw 12 h)))
abbrev ec (code: List Int) (i h: Int):=(ofH (ad (1 + (aT 3 code (am 12 code i) (aw 12 h)))) ([97,66,45]: aa) code (am 3 code (am 12 code i)) (aw 3 (aw 12 h)))
def it (code: List Int) (i h: Int): Br:=(.ite (okC code i) (.ite (decide ((aT 12 code i h)=0)) (.ite (okC code (am 12 code i)) (.ite (bD (aT 60 code (am 12 code i) (aw 12 h))) (.ite (decide ((8 + (List.length (bR (aT 60 code (am 12 code i) (aw 12 h)))))≤9223372036854775807)) (.ret (AV.agg [.str ([67,97,99,104,101,45,67,111,110,116,114,111,108]: aa),.str (([109,97,120,45,97,103,101,61]: aa)++(bR (aT 60 code (am 12 code i) (aw 12 h))))]) [.var [.sh (Ty.int .u8) code,.int .i64 (am 60 code (am 12 code i)),.int .i64 (aw 60 (aw 12 h))]]) .fail) .fail) .fail) (.ite (decide ((aT 12 code i h)=1)) (.ite (((okC code (am 12 code i))&&true)&&true) (.ite (decide ((1 + (List.length (ofS 1 ([97,98,99]: aa) code (am 12 code i) (aw 12 h))))≤9223372036854775807)) (.ite (decide (((List.length (([34]: aa)++(ofS 1 ([97,98,99]: aa) code (am 12 code i) (aw 12 h)))) + 1)≤9223372036854775807)) (.ret (AV.agg [.str ([69,84,97,103]: aa),.str ((([34]: aa)++(ofS 1 ([97,98,99]: aa) code (am 12 code i) (aw 12 h)))++([34]: aa))]) [.var [.sh (Ty.int .u8) code,.int .i64 (ofI 1 ([97,98,99]: aa) code (am 12 code i) (aw 12 h)),.int .i64 (ofH 1 ([97,98,99]: aa) code (am 12 code i) (aw 12 h))]]) .fail) .fail) .fail) (.ite (decide ((aT 12 code i h)=2)) (.ret (AV.agg [.str ([86,97,114,121]: aa),.str ([65,99,99,101,112,116]: aa)]) [.var [.sh (Ty.int .u8) code,.int .i64 (am 12 code i),.int .i64 (aw 12 h)]]) (.ite (decide ((aT 12 code i h)=3)) (.ite (((okC code (am 12 code i))&&true)&&true) (.ret (AV.agg [.str ([65,99,99,101,112,116]: aa),.str (ofS 1 ([97,98]: aa) code (am 12 code i) (aw 12 h))]) [.var [.sh (Ty.int .u8) code,.int .i64 (ofI 1 ([97,98]: aa) code (am 12 code i) (aw 12 h)),.int .i64 (ofH 1 ([97,98]: aa) code (am 12 code i) (aw 12 h))]]) .fail) (.ite (decide ((aT 12 code i h)=4)) (.ret (AV.agg [.str ([67,111,110,110,101,99,116,105,111,110]: aa),.str ([99,108,111,115,101]: aa)]) [.var [.sh (Ty.int .u8) code,.int .i64 (am 12 code i),.int .i64 (aw 12 h)]]) (.ite (okC code (am 12 code i)) (.ite (((okC code (am 3 code (am 12 code i)))&&(decide ((ad (1 + (aT 3 code (am 12 code i) (aw 12 h))))≤1000000)))&&true) (.ite (okC code (cX code i h)) (.ite (((okC code (am 5 code (cX code i h)))&&(decide ((aT 5 code (cX code i h) (ec code i h))≤1000000)))&&true) (.ret (AV.agg [.str (ofS (ad (1 + (aT 3 code (am 12 code i) (aw 12 h)))) ([97,66,45]: aa) code (am 3 code (am 12 code i)) (aw 3 (aw 12 h))),.str (ofS (aT 5 code (cX code i h) (ec code i h)) ([97,98,49,61]: aa) code (am 5 code (cX code i h)) (aw 5 (ec code i h)))]) [.var [.sh (Ty.int .u8) code,.int .i64 (ofI (aT 5 code (cX code i h) (ec code i h)) ([97,98,49,61]: aa) code (am 5 code (cX code i h)) (aw 5 (ec code i h))),.int .i64 (ofH (aT 5 code (cX code i h) (ec code i h)) ([97,98,49,61]: aa) code (am 5 code (cX code i h)) (aw 5 (ec code i h)))]]) .fail) .fail) .fail) .fail)))))) .fail)
def DZ: List AV→List Ob→Br
 | [.ptr 0 0],[.var [.sh (.int .u8) code, .int .i64 i, .int .i64 h]]=>it code i h
 | _,_=> .fail
theorem Oj: Sound Kx 193 DZ:=ae (C:=RY) (O:=O0) Tryz.func193 (by kernel_rfl) fun args objs=>by
 unfold DZ;split
 · exact .inr (by kernel_rfl)
 · exact .inl rfl
def RZ: Opt:={ live:=[(5,[1,3,4])],outs:=[(5,[1,2,3])],split:=true }
def sHead_C: SC:=[⟨191,_,px⟩,⟨192,_,wv⟩]
def so (aZ: aa) (bi: Int) (a7 dm: aa) (fe: Int) (iS: aa) (iT: Bool) (eG: (List Fd)) (mC: aa) (kR5: aa→Int→aa→aa→Int→aa→Bool→(List Fd)→aa→OR') (eg: aa→aa→aa→Int→aa→Bool→(List Fd)→aa→OR'): OR':=
 (bif (decide (bi < (eG.length: Int))) then (bif (decide (0≤bi)) then (bif (decide (bi < (eG.length: Int))) then (bif (decide ((aZ.length + (List.length (bif (nr ((List.getD eG (Int.toNat bi) (([]: aa),([]: aa))).1,(List.getD eG (Int.toNat bi) (([]: aa),([]: aa))).2)) then (jP ((List.getD eG (Int.toNat bi) (([]: aa),([]: aa))).1,(List.getD eG (Int.toNat bi) (([]: aa),([]: aa))).2)) else ([]: aa))))≤9223372036854775807)) then (bif (decide (((List.length (aZ++(bif (nr ((List.getD eG (Int.toNat bi) (([]: aa),([]: aa))).1,(List.getD eG (Int.toNat bi) (([]: aa),([]: aa))).2)) then (jP ((List.getD eG (Int.toNat bi) (([]: aa),([]: aa))).1,(List.getD eG (Int.toNat bi) (([]: aa),([]: aa))).2)) else ([]: aa)))) + 2)≤9223372036854775807)) then (kR5 ((aZ++(bif (nr ((List.getD eG (Int.toNat bi) (([]: aa),([]: aa))).1,(List.getD eG (Int.toNat bi) (([]: aa),([]: aa))).2)) then (jP ((List.getD eG (Int.toNat bi) (([]: aa),([]: aa))).1,(List.getD eG (Int.toNat bi) (([]: aa),([]: aa))).2)) else ([]: aa)))++([13,10]: aa)) (ad (bi + 1)) a7 dm fe iS iT eG mC) else none) else none) else none) else none) else (eg aZ a7 dm fe iS iT eG mC))
def gT: Nat→aa→Int→aa→aa→Int→aa→Bool→(List Fd)→aa→(aa→aa→aa→Int→aa→Bool→(List Fd)→aa→OR')→OR'
 | 0,_,_,_,_,_,_,_,_,_,_=>none
 | n + 1,aZ,bi,a7,dm,fe,iS,iT,eG,mC,eg=>so aZ bi a7 dm fe iS iT eG mC (fun aZ bi a7 dm fe iS iT eG mC=>gT n aZ bi a7 dm fe iS iT eG mC eg) eg
abbrev sHead_p5: SP:=⟨68,[1,3,4],[(.v (.ptr 128 0)),(.v .s),(.v (.i .i64))],[(128, .var [.s, .s,(.i .i64), .s, .b,(.sh (Ty.pair Ty.str Ty.str)), .s])]⟩
noncomputable def Lf: Code:=aC (aG Tryz.f113) [1,1,1,0,1,0,0]
def Lg (f: (aa→aa→aa→Int→aa→Bool→(List Fd)→aa→OR')→OR') (k: KT): OR':=f (fun av bY cW g_ gu eA gv bC=>k (Ex.exit 0) ((St.mk (aF 0 68 [(1,(AV.ptr 128 0)),(3,(AV.str av))]) ((128,(Ob.var [.str bY,.str cW,.int .i64 g_,.str gu,.bool eA,.sh (Ty.pair Ty.str Ty.str) gv,.str bC]))::([]: (List (Nat×(Ob))))))))
def Lh (n: Nat) (d: sHead_p5.D): KT→OR':=Lg (gT n d.1.2.1 d.1.2.2.1 d.2.1.1 d.2.1.2.1 d.2.1.2.2.1 d.2.1.2.2.2.1 d.2.1.2.2.2.2.1 d.2.1.2.2.2.2.2.1 d.2.1.2.2.2.2.2.2.1)
def R0 (N: Nat): Lam:=bH [⟨5,sHead_p5,Lh N⟩]
theorem R4 (N: Nat): OkL Kx sHead_C.s RZ 0 N (R0 N) Lf:=okL sHead_p5 (Lh) (fun d kR=>Lg (so d.1.2.1 d.1.2.2.1 d.2.1.1 d.2.1.2.1 d.2.1.2.2.1 d.2.1.2.2.2.1 d.2.1.2.2.2.2.1 d.2.1.2.2.2.2.2.1 d.2.1.2.2.2.2.2.2.1 (fun aZ bi a7 dm fe iS iT eG mC=>kR (((),aZ,bi,()),((a7,dm,fe,iS,iT,eG,mC,()),()))))) (fun _ _=>by kernel_rfl) (fun _ _ _=>by kernel_rfl) (fun _ _=>by kernel_rfl) (fun _ _ _ _=>by kernel_rfl) (al (l':=[]) (by kernel_rfl) trivial)
abbrev bE (av):=(av++([67,111,110,116,101,110,116,45,76,101,110,103,116,104,58,32]: aa))
def D0 (N: Nat) (me ta: aa) (st: Int) (re: aa) (ba: Bool) (fs: List Fd) (bo: aa): OR':=(bif (decide ((me.length + 1)≤9223372036854775807)) then (bif (decide (((List.length (me++([32]: aa))) + ta.length)≤9223372036854775807)) then (bif (decide (((List.length ((me++([32]: aa))++ta)) + 11)≤9223372036854775807)) then (bif (decide (me=([]: aa))) then (bif (bD st) then (bif (decide ((9 + (List.length (bR st)))≤9223372036854775807)) then (bif (decide (((List.length (([72,84,84,80,47,49,46,49,32]: aa)++(bR st))) + 1)≤9223372036854775807)) then (bif (decide (((List.length ((([72,84,84,80,47,49,46,49,32]: aa)++(bR st))++([32]: aa))) + re.length)≤9223372036854775807)) then (bif (decide (((List.length (((([72,84,84,80,47,49,46,49,32]: aa)++(bR st))++([32]: aa))++re)) + 2)≤9223372036854775807)) then (gT N ((((([72,84,84,80,47,49,46,49,32]: aa)++(bR st))++([32]: aa))++re)++([13,10]: aa)) 0 me ta st re ba fs bo (fun av bY cW g_ gu eA gv bC=>(bif (!(decide (bY=([]: aa)))) then (bif (!(decide (bC=([]: aa)))) then (bif (decide ((av.length + 16)≤9223372036854775807)) then (bif (bD (bC.length: Int)) then (bif (decide (((List.length (bE av)) + (List.length (bR (bC.length: Int))))≤9223372036854775807)) then (bif (decide (((List.length ((bE av)++(bR (bC.length: Int)))) + 2)≤9223372036854775807)) then (bif (decide (((List.length (((bE av)++(bR (bC.length: Int)))++([13,10]: aa))) + 2)≤9223372036854775807)) then (some ((AV.str ((((bE av)++(bR (bC.length: Int)))++([13,10]: aa))++([13,10]: aa))),[])) else none) else none) else none) else none) else none) else (bif (decide (bY=([]: aa))) then (bif (!eA) then (bif (decide ((av.length + 16)≤9223372036854775807)) then (bif (bD (bC.length: Int)) then (bif (decide (((List.length (bE av)) + (List.length (bR (bC.length: Int))))≤9223372036854775807)) then (bif (decide (((List.length ((bE av)++(bR (bC.length: Int)))) + 2)≤9223372036854775807)) then (bif (decide (((List.length (((bE av)++(bR (bC.length: Int)))++([13,10]: aa))) + 2)≤9223372036854775807)) then (some ((AV.str ((((bE av)++(bR (bC.length: Int)))++([13,10]: aa))++([13,10]: aa))),[])) else none) else none) else none) else none) else none) else (bif (decide ((av.length + 2)≤9223372036854775807)) then (some ((AV.str (av++([13,10]: aa))),[])) else none)) else (bif (decide ((av.length + 2)≤9223372036854775807)) then (some ((AV.str (av++([13,10]: aa))),[])) else none))) else (bif (decide (bY=([]: aa))) then (bif (!eA) then (bif (decide ((av.length + 16)≤9223372036854775807)) then (bif (bD (bC.length: Int)) then (bif (decide (((List.length (bE av)) + (List.length (bR (bC.length: Int))))≤9223372036854775807)) then (bif (decide (((List.length ((bE av)++(bR (bC.length: Int)))) + 2)≤9223372036854775807)) then (bif (decide (((List.length (((bE av)++(bR (bC.length: Int)))++([13,10]: aa))) + 2)≤9223372036854775807)) then (some ((AV.str ((((bE av)++(bR (bC.length: Int)))++([13,10]: aa))++([13,10]: aa))),[])) else none) else none) else none) else none) else none) else (bif (decide ((av.length + 2)≤9223372036854775807)) then (some ((AV.str (av++([13,10]: aa))),[])) else none)) else (bif (decide ((av.length + 2)≤9223372036854775807)) then (some ((AV.str (av++([13,10]: aa))),[])) else none))))) else none) else none) else none) else none) else none) else (gT N (((me++([32]: aa))++ta)++([32,72,84,84,80,47,49,46,49,13,10]: aa)) 0 me ta st re ba fs bo (fun av bY cW g_ gu eA gv bC=>(bif (!(decide (bY=([]: aa)))) then (bif (!(decide (bC=([]: aa)))) then (bif (decide ((av.length + 16)≤9223372036854775807)) then (bif (bD (bC.length: Int)) then (bif (decide (((List.length (bE av)) + (List.length (bR (bC.length: Int))))≤9223372036854775807)) then (bif (decide (((List.length ((bE av)++(bR (bC.length: Int)))) + 2)≤9223372036854775807)) then (bif (decide (((List.length (((bE av)++(bR (bC.length: Int)))++([13,10]: aa))) + 2)≤9223372036854775807)) then (some ((AV.str ((((bE av)++(bR (bC.length: Int)))++([13,10]: aa))++([13,10]: aa))),[])) else none) else none) else none) else none) else none) else (bif (decide (bY=([]: aa))) then (bif (!eA) then (bif (decide ((av.length + 16)≤9223372036854775807)) then (bif (bD (bC.length: Int)) then (bif (decide (((List.length (bE av)) + (List.length (bR (bC.length: Int))))≤9223372036854775807)) then (bif (decide (((List.length ((bE av)++(bR (bC.length: Int)))) + 2)≤9223372036854775807)) then (bif (decide (((List.length (((bE av)++(bR (bC.length: Int)))++([13,10]: aa))) + 2)≤9223372036854775807)) then (some ((AV.str ((((bE av)++(bR (bC.length: Int)))++([13,10]: aa))++([13,10]: aa))),[])) else none) else none) else none) else none) else none) else (bif (decide ((av.length + 2)≤9223372036854775807)) then (some ((AV.str (av++([13,10]: aa))),[])) else none)) else (bif (decide ((av.length + 2)≤9223372036854775807)) then (some ((AV.str (av++([13,10]: aa))),[])) else none))) else (bif (decide (bY=([]: aa))) then (bif (!eA) then (bif (decide ((av.length + 16)≤9223372036854775807)) then (bif (bD (bC.length: Int)) then (bif (decide (((List.length (bE av)) + (List.length (bR (bC.length: Int))))≤9223372036854775807)) then (bif (decide (((List.length ((bE av)++(bR (bC.length: Int)))) + 2)≤9223372036854775807)) then (bif (decide (((List.length (((bE av)++(bR (bC.length: Int)))++([13,10]: aa))) + 2)≤9223372036854775807)) then (some ((AV.str ((((bE av)++(bR (bC.length: Int)))++([13,10]: aa))++([13,10]: aa))),[])) else none) else none) else none) else none) else none) else (bif (decide ((av.length + 2)≤9223372036854775807)) then (some ((AV.str (av++([13,10]: aa))),[])) else none)) else (bif (decide ((av.length + 2)≤9223372036854775807)) then (some ((AV.str (av++([13,10]: aa))),[])) else none)))))) else none) else none) else none)
def D1 (φ: aa→aa→Int→aa→Bool→(List Fd)→aa→Br): List AV→List Ob→Br
 | [.agg [.str me, .str ta, .int .i64 st, .str re, .bool ba, .sh (.pair .str .str) fs, .str bo]],[]=>φ me ta st re ba fs bo
 | _,_=> .fail
theorem Ol {φ: aa→aa→Int→aa→Bool→(List Fd)→aa→Br} (fu: aa→aa→Int→aa→Bool→(List Fd)→aa→Nat) (hv: ∀ me ta st re ba fs bo res_,(φ me ta st re ba fs bo).val=some res_→D0 (fu me ta st re ba fs bo) me ta st re ba fs bo=some res_): Sound Kx 113 (D1 φ):=ap (C:=sHead_C) (O:=RZ) Tryz.func113 (by kernel_rfl) fun args objs=>by
 unfold D1;split
 · rename_i me ta st re ba fs bo;exact .inr fun _ hyp_=>aO (Λ:=R0 (fu me ta st re ba fs bo)) (by kernel_rfl) (al (l':=[Lf]) (by kernel_rfl) ⟨R4 _,trivial⟩) (by kernel_rfl) (hv me ta st re ba fs bo _ hyp_)
 · exact .inl rfl
def R5: SC:=[⟨82,_,Ld⟩]
def Om (l: List Fd) (name: aa): Br:=(.ite (isM name) (.ret (AV.bool (eq l name)) []) .fail)
def D2: List AV→List Ob→Br
 | [.sh (.pair .str .str) l, .str name],[]=>Om l name
 | _,_=> .fail
theorem On: Sound Kx 106 D2:=ae (C:=R5) (O:=O0) Tryz.func106 (by kernel_rfl) fun args objs=>by
 unfold D2;split
 · exact .inr (by kernel_rfl)
 · exact .inl rfl
def Li: Opt:={ live:=[(4,[1,21,22,23])],outs:=[(4,[1,2])] }
def iMsgOk_C: SC:=[⟨84,_,dy⟩,⟨171,_,Oi⟩,⟨85,_,sn⟩,⟨172,_,DA⟩,⟨173,_,Dv⟩,⟨174,_,C6⟩,⟨175,_,Du⟩,⟨176,_,rI⟩,⟨177,_,Xd⟩]
def uE (a_ a8: Int) (aQ cz: aa) (dR: Int) (fE: aa) (fv: Bool) (fy: (List Fd)) (fF: aa) (fA: (List aa)) (kR4: Int→Int→aa→aa→Int→aa→Bool→(List Fd)→aa→(List aa)→OR') (eK kX: aa→aa→Int→aa→Bool→(List Fd)→aa→OR'): OR':=
 (bif (decide (a8 < a_)) then (bif (decide (0≤a8)) then (bif (decide (a8 < (fA.length: Int))) then (bif (isM (List.getD fA (Int.toNat a8) ([]: aa))) then (bif (eq fy (List.getD fA (Int.toNat a8) ([]: aa))) then (eK aQ cz dR fE fv fy fF) else (kR4 a_ (ad (a8 + 1)) aQ cz dR fE fv fy fF fA)) else none) else none) else none) else (kX aQ cz dR fE fv fy fF))
def iu: Nat→Int→Int→aa→aa→Int→aa→Bool→(List Fd)→aa→(List aa)→(aa→aa→Int→aa→Bool→(List Fd)→aa→OR')→(aa→aa→Int→aa→Bool→(List Fd)→aa→OR')→OR'
 | 0,_,_,_,_,_,_,_,_,_,_,_,_=>none
 | n + 1,a_,a8,aQ,cz,dR,fE,fv,fy,fF,fA,eK,kX=>uE a_ a8 aQ cz dR fE fv fy fF fA (fun a_ a8 aQ cz dR fE fv fy fF fA=>iu n a_ a8 aQ cz dR fE fv fy fF fA eK kX) eK kX
abbrev iMsgOk_p4: SP:=⟨97,[1,21,22,23],[(.v (.ptr 128 0)),(.v (.ref 1408 0)),(.v (.i .i64)),(.v (.i .i64))],[(128, .var [.s, .s,(.i .i64), .s, .b,(.sh (Ty.pair Ty.str Ty.str)), .s]),(1408, .arr Ty.str 0 false)]⟩
noncomputable def D3: Code:=aC (aG Tryz.f101) [1,1,0,1,0,0]
def D4 (f: (aa→aa→Int→aa→Bool→(List Fd)→aa→OR')→(aa→aa→Int→aa→Bool→(List Fd)→aa→OR')→OR') (k: KT): OR':=f (fun dh y9 y_ za zb zc zd=>k Ex.ret ((St.mk (aF 0 97 [(1,(AV.ptr 128 0)),(2,(AV.bool false))]) ((128,(Ob.var [.str dh,.str y9,.int .i64 y_,.str za,.bool zb,.sh (Ty.pair Ty.str Ty.str) zc,.str zd]))::([]: (List (Nat×(Ob)))))))) (fun du hO fJ hY kg jt iQ=>k (Ex.exit 0) ((St.mk (aF 0 97 [(1,(AV.ptr 128 0))]) ((128,(Ob.var [.str du,.str hO,.int .i64 fJ,.str hY,.bool kg,.sh (Ty.pair Ty.str Ty.str) jt,.str iQ]))::([]: (List (Nat×(Ob))))))))
def D5 (n: Nat) (d: iMsgOk_p4.D): KT→OR':=D4 (iu n d.1.2.2.1 d.1.2.2.2.1 d.2.1.1 d.2.1.2.1 d.2.1.2.2.1 d.2.1.2.2.2.1 d.2.1.2.2.2.2.1 d.2.1.2.2.2.2.2.1 d.2.1.2.2.2.2.2.2.1 d.2.2.1)
def Lj (N: Nat): Lam:=bH [⟨4,iMsgOk_p4,D5 N⟩]
theorem Oo (N: Nat): OkL Kx iMsgOk_C.s Li 0 N (Lj N) D3:=okL iMsgOk_p4 (D5) (fun d kR=>D4 (uE d.1.2.2.1 d.1.2.2.2.1 d.2.1.1 d.2.1.2.1 d.2.1.2.2.1 d.2.1.2.2.2.1 d.2.1.2.2.2.2.1 d.2.1.2.2.2.2.2.1 d.2.1.2.2.2.2.2.2.1 d.2.2.1 (fun a_ a8 aQ cz dR fE fv fy fF fA=>kR (((),(),a_,a8,()),((aQ,cz,dR,fE,fv,fy,fF,()),fA,()))))) (fun _ _=>by kernel_rfl) (fun _ _ _=>by kernel_rfl) (fun _ _=>by kernel_rfl) (fun _ _ _ _=>by kernel_rfl) (al (l':=[]) (by kernel_rfl) trivial)
def xQ (N: Nat) (me ta: aa) (st: Int) (re: aa) (ba: Bool) (fs: List Fd) (bo: aa): OR':=(bif (!(cw fs)) then (some ((AV.bool false),[])) else (bif (decide (20≤(fs.length: Int))) then (some ((AV.bool false),[])) else (bif (decide (600 < (bo.length: Int))) then (some ((AV.bool false),[])) else (iu N 3 0 me ta st re ba fs bo (List.set (List.set (List.set (List.replicate 3 ([]: aa)) 0 ([99,111,110,116,101,110,116,45,108,101,110,103,116,104]: aa)) 1 ([116,114,97,110,115,102,101,114,45,101,110,99,111,100,105,110,103]: aa)) 2 ([116,114,97,105,108,101,114]: aa)) (fun dh y9 y_ za zb zc zd=>(some ((AV.bool false),[]))) (fun du hO fJ hY kg jt iQ=>(bif (!(decide (du=([]: aa)))) then (bif (!(lT du)) then (some ((AV.bool false),[])) else (bif (!(lN hO)) then (some ((AV.bool false),[])) else (bif (!(decide (fJ=0))) then (some ((AV.bool false),[])) else (bif (!(decide (hY=([]: aa)))) then (some ((AV.bool false),[])) else (bif kg then (some ((AV.bool false),[])) else (bif (hdG du hO fJ hY jt iQ) then (some ((AV.bool (decide (((List.length (jg du hO fJ hY kg jt iQ)): Int)≤1500))),[])) else none)))))) else (bif (!(decide (hO=([]: aa)))) then (some ((AV.bool false),[])) else (bif (!(NP fJ)) then (some ((AV.bool false),[])) else (bif (!(lM hY)) then (some ((AV.bool false),[])) else (bif kg then (bif (!(decide (iQ=([]: aa)))) then (some ((AV.bool false),[])) else (bif (zN fJ) then (bif (!kg) then (some ((AV.bool false),[])) else (bif (hdG du hO fJ hY jt iQ) then (some ((AV.bool (decide (((List.length (jg du hO fJ hY kg jt iQ)): Int)≤1500))),[])) else none)) else (bif (hdG du hO fJ hY jt iQ) then (some ((AV.bool (decide (((List.length (jg du hO fJ hY kg jt iQ)): Int)≤1500))),[])) else none))) else (bif (zN fJ) then (bif (!kg) then (some ((AV.bool false),[])) else (bif (hdG du hO fJ hY jt iQ) then (some ((AV.bool (decide (((List.length (jg du hO fJ hY kg jt iQ)): Int)≤1500))),[])) else none)) else (bif (hdG du hO fJ hY jt iQ) then (some ((AV.bool (decide (((List.length (jg du hO fJ hY kg jt iQ)): Int)≤1500))),[])) else none))))))))))))
def xR (φ: aa→aa→Int→aa→Bool→(List Fd)→aa→Br): List AV→List Ob→Br
 | [.agg [.str me, .str ta, .int .i64 st, .str re, .bool ba, .sh (.pair .str .str) fs, .str bo]],[]=>φ me ta st re ba fs bo
 | _,_=> .fail
theorem Hp {φ: aa→aa→Int→aa→Bool→(List Fd)→aa→Br} (fu: aa→aa→Int→aa→Bool→(List Fd)→aa→Nat) (hv: ∀ me ta st re ba fs bo res_,(φ me ta st re ba fs bo).val=some res_→xQ (fu me ta st re ba fs bo) me ta st re ba fs bo=some res_): Sound Kx 101 (xR φ):=ap (C:=iMsgOk_C) (O:=Li) Tryz.func101 (by kernel_rfl) fun args objs=>by
 unfold xR;split
 · rename_i me ta st re ba fs bo;exact .inr fun _ hyp_=>aO (Λ:=Lj (fu me ta st re ba fs bo)) (by kernel_rfl) (al (l':=[D3]) (by kernel_rfl) ⟨Oo _,trivial⟩) (by kernel_rfl) (hv me ta st re ba fs bo _ hyp_)
 · exact .inl rfl
theorem dle {a b: Nat} (h: a≤b): decide (a≤b)=true:=dT' h
theorem Oq (me ta re: aa) (st: Int) (ba: Bool) (fs: List Fd) (bo: aa) (hl: fs.length≤20) (k: aa→aa→aa→Int→aa→Bool→List Fd→aa→OR'): ∀ (r: List Fd) (i: Int) (n: Nat) (s: aa),At fs i r→r.length < n→(∀ f ∈ r,nr f=true)→s.length + 300 * r.length≤100000→
 gT n s i me ta st re ba fs bo k=k (s++dC r) me ta st re ba fs bo:=by
 intro r;induction r with
 | nil=>intro i n s h hn hf hs;obtain ⟨n,rfl⟩:=bL hn;unfold gT so;simp only [h.dge,cond_false,dC,List.append_nil]
 | cons a r ih=>
   intro i n s h hn hf hs;obtain ⟨n,rfl⟩:=bL hn
   have ha:=hf a (List.mem_cons_self ..)
   have hz:=jd ha
   have hr:=fun f h=>hf f (List.mem_cons_of_mem _ h)
   simp only [List.length_cons] at hn hs
   have e0: (jP a).length≤240:=by simp only [jP,List.length_append,List.length_cons];omega
   unfold gT so
   simp (disch:=omega) only [h.dlt,h.dnn,h.get,h.next (by omega),air,ha,cond_true,List.length_append,dle]
   rw [ih (i + 1) n _ h.step (by omega) hr (by simp only [List.length_append,List.length_cons,List.length_nil];omega)]
   simp only [dC,uB,List.append_assoc]
theorem aes {me ta re bo: aa} {st: Int} {fs: List Fd} (h: hdG me ta st re fs bo=true): me.length≤20∧ta.length≤200∧bD st=true∧re.length≤40∧cw fs=true∧bo.length≤600:=by
 simp only [hdG,Bool.and_eq_true,decide_eq_true_eq] at h
 obtain ⟨⟨⟨⟨⟨g1,g2⟩,g3⟩,g4⟩,g5⟩,g6⟩:=h
 exact ⟨g1,g2,g3,g4,g5,g6⟩
theorem R6: Sound Kx 113 K_:=by
 refine (Ol (φ:=fun me ta st re ba fs bo=> .ite (hdG me ta st re fs bo) (.ret (.str (jg me ta st re ba fs bo)) []) .fail) (fun _ _ _ _ _ fs _=>fs.length + 1) fun me ta st re ba fs bo r h=>?_).of fun args objs r h=>?_
 · obtain ⟨h1,h2⟩:=ai h
   cases h2
   obtain ⟨g1,g2,g3,g4,g5,g6⟩:=aes h1
   obtain ⟨g7,g8⟩:=gj g5
   have y1:=f6 fs g8
   have y2:=jf st g3
   have hN: bD (bo.length: Int)=true:=by simp only [bD,Bool.and_eq_true,decide_eq_true_eq];omega
   have y3:=jf _ hN
   have big: ∀ (s: aa),s.length≤600→gT (fs.length + 1) s 0 me ta st re ba fs bo=fun k=>k (s++dC fs) me ta st re ba fs bo:=fun s hs=>by
    funext k
    exact Oq me ta re st ba fs bo g7 k fs 0 _ s (At.start fs) (by omega) g8 (by omega)
   have hne: ∀ (b: Bool),(b&& !b)=false:=by intro b;cases b <;> rfl
   unfold D0 jg ep clP bE
   cases hm: decide (me=[]) <;> cases hb: decide (bo=[]) <;> cases ba
   all_goals
    simp (disch:=(first | omega | (simp only [List.length_append,List.length_cons,List.length_nil];omega))) only [big,List.length_append,List.length_cons,List.length_nil,dle,cond_true,cond_false,hm,hb,g3,hN,Bool.not_true,Bool.not_false,Bool.true_and,Bool.false_and,Bool.and_true,Bool.and_false,Bool.or_false,Bool.false_or,Bool.or_true,Bool.true_or]
    simp only [List.append_assoc,List.cons_append,List.nil_append,List.append_nil]
 · unfold K_ at h;split at h
   · exact h
   · cases h
def abD (fs: List Fd): Bool:=eq fs frC||eq fs frT||eq fs frR
def uF (me ta: aa) (st: Int) (re: aa) (ba: Bool) (bo: aa): Bool:=bif decide (me=[]) then W8 ta st re ba bo else ZO me ta st re ba
def dc (me ta: aa) (st: Int) (re: aa) (ba: Bool) (fs: List Fd) (bo: aa): Bool:=
 cw fs&& !decide (20≤(fs.length: Int))&& !decide (600 < (bo.length: Int))&& !abD fs&&uF me ta st re ba bo&&decide (((jg me ta st re ba fs bo).length: Int)≤1500)
theorem Hq (me ta re: aa) (st: Int) (ba: Bool) (fs: List Fd) (bo: aa) (k0 k1: aa→aa→Int→aa→Bool→List Fd→aa→OR'):
 iu 4 3 0 me ta st re ba fs bo [frC,frT,frR] k0 k1=bif abD fs then k0 me ta st re ba fs bo else k1 me ta st re ba fs bo:=by
 have e0: ad (0 + 1)=1:=by rw [w64 (by decide) (by decide)];rfl
 have e1: ad (1 + 1)=2:=by rw [w64 (by decide) (by decide)];rfl
 have e2: ad (2 + 1)=3:=by rw [w64 (by decide) (by decide)];rfl
 have m0: isM frC=true:=bn (n:=20) (by decide)
 have m1: isM frT=true:=bn (n:=20) (by decide)
 have m2: isM frR=true:=bn (n:=20) (by decide)
 have l3: ([frC,frT,frR]: List aa).length=3:=rfl
 have t0: ([frC,frT,frR]: List aa).getD (0 : Int).toNat []=frC:=rfl
 have t1: ([frC,frT,frR]: List aa).getD (1 : Int).toNat []=frT:=rfl
 have t2: ([frC,frT,frR]: List aa).getD (2 : Int).toNat []=frR:=rfl
 unfold abD
 simp only [iu,uE,e0,e1,e2,t0,t1,t2,m0,m1,m2,l3,Int.reduceLT,Int.reduceLE,Int.ofNat_eq_natCast,Int.cast_ofNat_Int,decide_true,decide_false,cond_true,cond_false]
 cases eq fs frC <;> cases eq fs frT <;> cases eq fs frR <;> rfl
theorem ZW {me ta re bo: aa} {st: Int} {ba: Bool} {fs: List Fd} (hf: cw fs=true) (hb: ¬ (600 < (bo.length: Int))) (h: uF me ta st re ba bo=true): hdG me ta st re fs bo=true:=by
 unfold uF at h
 simp only [hdG,Bool.and_eq_true,decide_eq_true_eq]
 by_cases hm: me=[]
 · rw [dT' hm,cond_true] at h
   simp only [W8,NP,lM,Bool.and_eq_true,decide_eq_true_eq] at h
   subst hm
   obtain ⟨⟨⟨⟨rfl,hs⟩,hr,_⟩,_⟩,_⟩:=h
   exact ⟨⟨⟨⟨⟨by decide,by decide⟩,by simp only [bD,Bool.and_eq_true,decide_eq_true_eq];omega⟩,hr⟩,hf⟩,by omega⟩
 · rw [dF' hm,cond_false] at h
   simp only [ZO,lT,lN,Bool.and_eq_true,decide_eq_true_eq] at h
   obtain ⟨⟨⟨⟨h1,h2⟩,rfl⟩,rfl⟩,_⟩:=h
   exact ⟨⟨⟨⟨⟨by omega,by omega⟩,by decide⟩,by decide⟩,hf⟩,by omega⟩
def Ll: List AV→List Ob→Br:=abv fun m=> .bool (dc m.1 m.2.1 m.2.2.1 m.2.2.2.1 m.2.2.2.2.1 m.2.2.2.2.2.1 m.2.2.2.2.2.2)
theorem xS: Sound Kx 101 Ll:=by
 refine (Hp (φ:=fun me ta st re ba fs bo=> .ret (.bool (dc me ta st re ba fs bo)) []) (fun _ _ _ _ _ _ _=>4) fun me ta st re ba fs bo r h=>?_).of fun args objs r h=>?_
 · cases h
   unfold xQ dc
   have big: ∀ k0 k1,iu 4 3 0 me ta st re ba fs bo (List.set (List.set (List.set (List.replicate 3 []) 0 [99,111,110,116,101,110,116,45,108,101,110,103,116,104]) 1 [116,114,97,110,115,102,101,114,45,101,110,99,111,100,105,110,103]) 2 [116,114,97,105,108,101,114]) k0 k1=_:=Hq me ta re st ba fs bo
   rw [big]
   cases hf: cw fs
   · rfl
   cases h1: decide (20≤(fs.length: Int))
   case true=>rfl
   cases h2: decide (600 < (bo.length: Int))
   case true=>rfl
   cases h3: abD fs
   case true=>rfl
   have h2':=of_decide_eq_false h2
   simp only [Bool.not_true,Bool.not_false,cond_true,cond_false,Bool.true_and]
   have hg:=fun h=>ZW (me:=me) (ta:=ta) (st:=st) (re:=re) (ba:=ba) hf h2' h
   unfold uF ZO W8 at hg ⊢
   cases hm: decide (me=[])
   · rw [hm] at hg
     simp only [cond_false] at hg ⊢
     revert hg
     cases lT me <;> cases lN ta <;> cases decide (st=0) <;> cases decide (re=[]) <;> cases ba <;> intro hg <;> first | rfl | (rw [hg rfl];rfl)
   · rw [hm] at hg
     simp only [cond_true] at hg ⊢
     revert hg
     cases decide (ta=[]) <;> cases NP st <;> cases lM re <;> cases decide (bo=[]) <;> cases ba <;> cases zN st <;> intro hg <;> first | rfl | (rw [hg rfl];rfl)
 · unfold Ll abv at h;split at h
   · exact h
   · cases h
def Xf: SC:=[⟨113,_,R6⟩,⟨96,_,nx⟩,⟨110,_,Hi⟩,⟨111,_,DB⟩,⟨112,_,He⟩]
def uG (me ta: aa) (st: Int) (re: aa) (ba: Bool) (fs: List Fd) (bo: aa): Br:=(.ite (!(cw fs)) (.ret (AV.bool false) []) (.ite (decide ((fs.length: Int)=20)) (.ret (AV.bool false) []) (.ite (cw fs) (.ite (List.any fs W_) (.ret (AV.bool false) []) (.ite (decide (600 < (bo.length: Int))) (.ret (AV.bool false) []) (.ite (!(decide (me=([]: aa)))) (.ite (!(ZO me ta st re ba)) (.ret (AV.bool false) []) (.ite (decide (me=([]: aa))) (.ite (!(W8 ta st re ba bo)) (.ret (AV.bool false) []) (.ite (hdG me ta st re fs bo) (.ret (AV.bool (decide (((List.length (jg me ta st re ba fs bo)): Int)≤1500))) []) .fail)) (.ite (hdG me ta st re fs bo) (.ret (AV.bool (decide (((List.length (jg me ta st re ba fs bo)): Int)≤1500))) []) .fail))) (.ite (decide (me=([]: aa))) (.ite (!(W8 ta st re ba bo)) (.ret (AV.bool false) []) (.ite (hdG me ta st re fs bo) (.ret (AV.bool (decide (((List.length (jg me ta st re ba fs bo)): Int)≤1500))) []) .fail)) (.ite (hdG me ta st re fs bo) (.ret (AV.bool (decide (((List.length (jg me ta st re ba fs bo)): Int)≤1500))) []) .fail))))) .fail)))
def Lm: List AV→List Ob→Br
 | [.agg [.str me, .str ta, .int .i64 st, .str re, .bool ba, .sh (.pair .str .str) fs, .str bo]],[]=>uG me ta st re ba fs bo
 | _,_=> .fail
theorem sMsgOk_ok: Sound Kx 41 Lm:=ae (C:=Xf) (O:=O0) Tryz.func41 (by kernel_rfl) fun args objs=>by
 unfold Lm;split
 · exact .inr (by kernel_rfl)
 · exact .inl rfl
theorem xT {α: Type} (p: α→Bool): ∀ l: List α,decide (0 < (l.filter p).length)=l.any p
 | []=>rfl
 | a::r=>by
   rw [List.filter_cons,List.any_cons]
   cases h: p a
   · simp only [Bool.false_eq_true,if_false,Bool.false_or];exact xT p r
   · simp
theorem Af {fs: List Fd} (h: cw fs=true) (name: aa): eq fs name=fs.any fun f=>np f.1 name:=by
 unfold eq fi k9
 rw [h,cond_true,List.length_map,xT]
theorem R7 {α: Type} (p q: α→Bool): ∀ l: List α,(l.any p||l.any q)=l.any fun a=>p a||q a
 | []=>rfl
 | a::r=>by
   simp only [List.any_cons,← R7 p q r]
   cases p a <;> cases q a <;> cases r.any p <;> cases r.any q <;> rfl
theorem agV: ay frC=frC:=by decide
theorem agW: ay frT=frT:=by decide
theorem agX: ay frR=frR:=by decide
theorem abE {fs: List Fd} (h: cw fs=true): fs.any W_=abD fs:=by
 unfold abD
 rw [Af h,Af h,Af h,R7,R7]
 exact congrArg _ (funext fun f=>by unfold W_ np;rw [agV,agW,agX])
theorem xU: Sound Kx 41 Ll:=sMsgOk_ok.of fun args objs r h=>by
 unfold Ll abv at h
 split at h
 case h_2=>cases h
 cases h
 rename_i me ta st re ba fs bo
 show (uG me ta st re ba fs bo).val=some (.bool (dc me ta st re ba fs bo),[])
 unfold uG dc
 cases hf: cw fs
 · rfl
 obtain ⟨hl,_⟩:=gj hf
 have e20: decide ((fs.length: Int)=20)=decide (20≤(fs.length: Int)):=by congr 1;apply propext;omega
 rw [e20,abE hf]
 cases h1: decide (20≤(fs.length: Int))
 case true=>rfl
 cases h3: abD fs
 case true=>cases decide (600 < (bo.length: Int)) <;> rfl
 cases h2: decide (600 < (bo.length: Int))
 case true=>rfl
 have h2':=of_decide_eq_false h2
 simp only [Bool.not_true,Bool.not_false,Bool.true_and]
 refine (eH rfl).trans ((eH rfl).trans ((bv rfl).trans ((eH rfl).trans ((eH rfl).trans ?_))))
 have hg:=fun h=>ZW (me:=me) (ta:=ta) (st:=st) (re:=re) (ba:=ba) hf h2' h
 unfold uF at hg ⊢
 cases hm: decide (me=[])
 · rw [hm] at hg
   simp only [cond_false] at hg ⊢
   revert hg
   cases ZO me ta st re ba <;> intro hg
   · rfl
   · rw [hg rfl];rfl
 · rw [hm] at hg
   simp only [cond_true] at hg ⊢
   revert hg
   cases W8 ta st re ba bo <;> intro hg
   · rfl
   · rw [hg rfl];rfl
end
end Go.Proofs.YtgknmoadpgpdeaaGreatDoor.Ev
