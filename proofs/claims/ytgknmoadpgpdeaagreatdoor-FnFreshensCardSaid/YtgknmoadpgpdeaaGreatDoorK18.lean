/- The texts Head, HeadS, Mz, Ma, Mb, Qg, Mc, Md, Me, Mf, one behind the other. -/
import Derived.Test.YtgknmoadpgpdeaaGreatDoorK14
import Derived.Test.YtgknmoadpgpdeaaGreatDoorK16
import Derived.Test.YtgknmoadpgpdeaaGreatDoorK17
import Derived.Deep.Cut
import Derived.Deep.CutRange
import Derived.Deep.RegionWith
import Derived.Lib.ItoaLen
import Derived.Test.YtgknmoadpgpdeaaGreatDoorK13
namespace Go.Proofs.YtgknmoadpgpdeaaGreatDoor.Ev
open Go.Shelf Go.RowKit Go
set_option linter.unusedVariables false
def bs (l: aa): ByteArray:=⟨l.toArray⟩
theorem fS (l: aa): (bs l).size=l.length:=by simp [bs,ByteArray.size]
noncomputable def eR (me ta: aa) (st: Int) (re: aa): aa:=
 bif decide (me=[]) then [72,84,84,80,47,49,46,49,32]++bT st++[32]++re++[13,10] else me++[32]++ta++[32,72,84,84,80,47,49,46,49]++[13,10]
theorem wR (st: Int) (h: bC st=true) (w: World) (htab: ol w): Calls Tryz.prog 232 #[.int .i64 st] w fun e w'=>e= .returned (.string (bs (bT st)))∧Below w.heap.size w w':=by
 simp only [bC,Bool.and_eq_true,decide_eq_true_eq] at h
 refine (Tryz.strconv_Itoa st (by omega) (by omega) w htab).mono ?_
 rintro e w' ⟨rfl,k,os,rfl⟩
 refine ⟨?_,sY w k os⟩
 rw [dh];unfold Lib.itoa bs;rw [if_neg (by omega)]
def Fresh (b: Nat) (w: World): Prop:=w.heap[b]? =some (.cells #[.pointer none, .slice none 0 0] 186 (0,0))
theorem Fresh.is {b: Nat} {w: World} (h: Fresh b w): Lib.IsBuilderF 186 5 b b [] w:=
 .inl ⟨Nat.le_refl _,_,h,World.ownsRowF_nil w b _ 1,by simp [Value.ownBlock]⟩
theorem Fresh.below {b: Nat} {w w': World} (h: Fresh b w) (hb: Below w.heap.size w w'): Fresh b w':=by
 unfold Fresh at *
 have: b < w.heap.size:=by
  rcases Nat.lt_or_ge b w.heap.size with h' | h'
  · exact h'
  · rw [Array.getElem?_eq_none h'] at h;cases h
 rw [hb.block b this];exact h
theorem tR {w w': World} {B: Nat} (hB: gN≤B) (h: ol w) (hb: Below B w w'): ol w':=by
 unfold ol Lib.TabIs World.var? at *
 cases hg: Tryz.prog.globalNamed "internal/strconv.uint64pow10" with
 | none=>rw [hg] at h;cases h
 | some g=>
   have hlt:=HZ hg
   rw [hg] at h
   simp only [Option.bind_some] at h ⊢
   rw [hb.block g (Nat.lt_of_lt_of_le hlt hB)]
   exact h
theorem jv (st: Int) (h: bC st=true): (bT st).length≤21:=by
 simp only [bC,Bool.and_eq_true,decide_eq_true_eq] at h
 have:=Lib.itoa_length_le st (by omega) (by omega)
 unfold Lib.itoa at this
 rw [if_neg (by omega)] at this
 rw [dh];exact this
theorem wT (a b: aa): bs a++bs b=bs (a++b):=by unfold bs;rw [ByteArray.mk_append_mk]
theorem I6 (l: aa): (bs l).toList.isEmpty=decide (l=[]):=by cases l <;> simp [bs]
theorem iK (me ta: aa) (st: Int) (re: aa) (h1: me.length≤20) (h2: ta.length≤200) (h3: re.length≤40) (h: bC st=true): (eR me ta st re).length≤300:=by
 have:=jv st h
 unfold eR
 cases decide (me=[]) <;> simp <;> omega
theorem Zl (me ta: aa) (st: Int) (re: aa) (h: (!(bs me).toList.isEmpty)=true): bs me++⟨#[32]⟩++bs ta++⟨#[32,72,84,84,80,47,49,46,49]⟩++⟨#[13,10]⟩=bs (eR me ta st re):=by
 rw [I6] at h
 simp only [Bool.not_eq_true',decide_eq_false_iff_not] at h
 unfold eR
 rw [dF' h,cond_false]
 show bs me++bs [32]++bs ta++bs [32,72,84,84,80,47,49,46,49]++bs [13,10]=_
 simp only [wT]
theorem ad3 (me ta: aa) (st: Int) (re: aa) (h: (!(bs me).toList.isEmpty)=false): ⟨#[72,84,84,80,47,49,46,49,32]⟩++bs (bT st)++⟨#[32]⟩++bs re++⟨#[13,10]⟩=bs (eR me ta st re):=by
 rw [I6] at h
 simp only [Bool.not_eq_false',decide_eq_true_eq] at h
 unfold eR
 rw [dT' h,cond_true]
 show bs [72,84,84,80,47,49,46,49,32]++bs (bT st)++bs [32]++bs re++bs [13,10]=_
 simp only [wT]
def Holds (w: World) (p: Obj) (l: aa) (wx: World): Prop:=
 Lib.IsBuilderF 186 5 (w.heap.size + 1) (w.heap.size + 1) (Lib.byteCells l) wx∧Below w.heap.size w wx∧w.heap.size + 2≤wx.heap.size∧wx.heap[w.heap.size]? =some p
theorem Holds.of {w W w2: World} {p: Obj} {l: aa} {s: ByteArray} (hW: Below w.heap.size w W) (hs: w.heap.size + 2≤W.heap.size) (hp: W.heap[w.heap.size]? =some p) (l0: aa) (he: s=bs l)
 (hB: Lib.BuilderAtF 186 5 (w.heap.size + 1) (w.heap.size + 1) (.pointer (some ⟨w.heap.size + 1,0,none⟩)) (Lib.byteCells l0++Lib.strCells s) w2) (bB: Below (w.heap.size + 1) W w2): Holds w p (l0++l) w2:=by
 subst he
 refine ⟨.inr ?_,hW.trans (bB.mono (by omega)),by have:=bB.size;omega,by rw [bB.block _ (by omega)];exact hp⟩
 rw [Lib.byteCells_append];exact hB
theorem Holds.alloc {w wx: World} {p: Obj} {l: aa} (h: Holds w p l wx) (X: Obj): Holds w p l (wx.alloc X):=
 ⟨h.1.alloc X,h.2.1.alloc (by have:=h.2.2.1;omega) X,by have:=h.2.2.1;simp;omega,by rw [heap_alloc_old _ _ (by have:=h.2.2.1;omega)];exact h.2.2.2⟩
theorem Holds.below {w wx w': World} {p: Obj} {l: aa} (h: Holds w p l wx) (hb: Below wx.heap.size wx w'): Holds w p l w':=by
 obtain ⟨h1,h2,h3,h4⟩:=h
 have hg: ∀ row,wx.grownBy w' row:=fun row=>⟨hb.os,hb.tape,hb.output,hb.size,fun k hk _=>hb.block k hk⟩
 have kept: ∀ v n xs,wx.ownsRowF (w.heap.size + 1) 5 1 v n xs→w'.ownsRowF (w.heap.size + 1) 5 1 v n xs:=fun v n xs ho=>by
  cases hv: v.ownBlock with
  | none=>exact ho.kept (hg none) (.inl hv)
  | some q=>exact ho.kept (hg none) (.inr (by rw [hv];exact fun e=>by cases e))
 have one: ∀ q,Lib.BuilderAtF 186 5 (w.heap.size + 1) (w.heap.size + 1) q (Lib.byteCells l) wx→Lib.BuilderAtF 186 5 (w.heap.size + 1) (w.heap.size + 1) q (Lib.byteCells l) w':=by
  rintro q ⟨g1,v,g2,g3,g4⟩
  exact ⟨g1,v,by rw [hb.block _ (by omega)];exact g2,kept _ _ _ g3,g4⟩
 exact ⟨h1.imp (one _) (one _),h2.trans (hb.mono (by omega)),by have:=hb.size;omega,by rw [hb.block _ (by omega)];exact h4⟩
noncomputable def clP (me: aa) (ba: Bool) (bo: aa): aa:=
 bif (!decide (me=[])&& !decide (bo=[]))||(decide (me=[])&& !ba) then [67,111,110,116,101,110,116,45,76,101,110,103,116,104,58,32]++bT (bo.length: Int)++[13,10] else []
theorem ad4 (me: aa) (ba: Bool) (bo: aa) (h: ((!decide (me=[])&& !decide (bo=[]))||(decide (me=[])&& !ba))=false): clP me ba bo=[]:=by unfold clP;rw [h];rfl
theorem abr (me: aa) (ba: Bool) (bo: aa) (h: ((!decide (me=[])&& !decide (bo=[]))||(decide (me=[])&& !ba))=true): bs (clP me ba bo)=⟨#[67,111,110,116,101,110,116,45,76,101,110,103,116,104,58,32]⟩++bs (bT ((bs bo).size: Int))++⟨#[13,10]⟩:=by
 unfold clP;rw [h,cond_true,fS]
 show _=bs [67,111,110,116,101,110,116,45,76,101,110,103,116,104,58,32]++bs (bT (bo.length: Int))++bs [13,10]
 simp only [wT]
def tS (f: Fd): aa:=kw f++[13,10]
def d8: List Fd→aa
 | []=>[]
 | f::r=>tS f++d8 r
theorem tT: ∀ (l: List Fd) (f: Fd),d8 (l++[f])=d8 l++tS f
 | [],f=>by simp [d8]
 | g::r,f=>by simp only [List.cons_append,d8,tT r f,List.append_assoc]
theorem FU (l: List Fd) (k: Nat) (h: k < l.length): d8 (l.take (k + 1))=d8 (l.take k)++tS (l[k]'h):=by
 rw [List.take_succ_eq_append_getElem h,tT]
theorem gm: ∀ (l: List Fd),(∀ f ∈ l,jW f=true)→(d8 l).length≤300 * l.length
 | [],_=>by simp [d8]
 | f::r,h=>by
   have h1:=js (h f (List.mem_cons_self ..))
   have h2:=gm r fun g hg=>h g (List.mem_cons_of_mem _ hg)
   simp only [d8,tS,kw,List.length_append,List.length_cons,List.length_nil];omega
noncomputable def iL (me ta: aa) (st: Int) (re: aa) (ba: Bool) (l: List Fd) (bo: aa): aa:=eR me ta st re++d8 l++clP me ba bo++[13,10]
set_option maxHeartbeats 4000000 in
set_option maxRecDepth 1000000 in
theorem Qm (me ta re bo: aa) (st: Int) (ba: Bool) (l: List Fd) (a: Option Addr) (cp: Nat) (w: World) (htab: ol w) (hgn: gN≤w.heap.size) (hl: l.length≤20) (hf: ∀ f ∈ l,jW f=true)
 (hc: ∀ i (h: i < l.length),∃ b o,a=some ⟨b,o,none⟩∧w.cell? ⟨b,o + i * 2,none⟩=some (.string (bs (l[i]).1))∧w.cell? ⟨b,o + i * 2 + 1,none⟩=some (.string (bs (l[i]).2)))
 (h1: me.length≤20) (h2: ta.length≤200) (h3: re.length≤40) (h4: bo.length≤600) (h5: bC st=true):
 Calls Tryz.prog 177 #[.agg #[.string (bs me), .string (bs ta), .int .i64 st, .string (bs re), .bool ba, .slice a l.length cp, .string (bs bo)]] w fun e w'=>e= .returned (.string (bs (iL me ta st re ba l bo)))∧Below w.heap.size w w':=by
 let P: Obj:= .cells #[.string (bs me), .string (bs ta), .int .i64 st, .string (bs re), .bool ba, .slice a l.length cp, .string (bs bo)] 43
 have s1: (bs me).size≤20:=by rw [fS];exact h1
 have s2: (bs ta).size≤200:=by rw [fS];exact h2
 have s3: (bs re).size≤40:=by rw [fS];exact h3
 have s4: (bs bo).size≤600:=by rw [fS];exact h4
 have s5: (bs (bT st)).size≤21:=by rw [fS];exact jv st h5
 have sF: (bs (eR me ta st re)).size≤300:=by rw [fS];exact iK me ta st re h1 h2 h3 h5
 go_enter Tryz.func177,Tryz.ntmps177
 go_upto_if 8 with fail
 go_cut [] from 6 to 66 (fun wx=>Holds w (.cells #[.string (bs me), .string (bs ta), .int .i64 st, .string (bs re), .bool ba, .slice a l.length cp, .string (bs bo)] 43) (eR me ta st re) wx)
 case first=>
  have fresh: ∀ X: Obj,Fresh (w.heap.size + 1) ((w.alloc X).alloc (.cells #[.pointer none, .slice none 0 0] 186)):=fun X=>by
   unfold Fresh
   have e: w.heap.size + 1=(w.alloc X).heap.size:=by simp
   rw [e]
   exact heap_alloc_new _ _
  have grown: ∀ X Y: Obj,Below w.heap.size w ((w.alloc X).alloc Y):=fun X Y=>((Below.refl _ w).alloc (Nat.le_refl _) X).alloc (by simp) Y
  have par2: ∀ X Y: Obj,((w.alloc X).alloc Y).heap[w.heap.size]? =some X:=fun X Y=>by rw [heap_alloc_old _ _ (by simp)];exact heap_alloc_new _ _
  have size2: ∀ X Y: Obj,w.heap.size + 2≤((w.alloc X).alloc Y).heap.size:=fun X Y=>by simp
  go_wp2_with (go_at_call 231;refine (Tryz.bld_write (w.heap.size + 1) (w.heap.size + 1) [] _ _ (fresh _).is ?hl ?hB).mono ?_)
  · rename_i hc _ _
    rw [Zl me ta st re hc]
    simp only [List.length_nil];omega
  · simp
  · rename_i hc _ _
    rw [Zl me ta st re hc]
    rintro e w1 ⟨rfl,hB1,bB1,_⟩
    have hH:=Holds.of (l:=eR me ta st re) (grown _ _) (size2 _ _) (par2 _ _) [] rfl hB1 bB1
    go_wp2_with fail
    go_meet
    case rel=>exact hH
  · rename_i hc
    have growD: ∀ X Y: Obj,Below w.heap.size w ((w.alloc X).alloc Y).drew:=fun X Y=>Below.drew (grown X Y)
    have sizeD: ∀ X Y: Obj,w.heap.size + 2≤((w.alloc X).alloc Y).drew.heap.size:=size2
    have freshD: ∀ X: Obj,Fresh (w.heap.size + 1) ((w.alloc X).alloc (.cells #[.pointer none, .slice none 0 0] 186)).drew:=fresh
    have parD: ∀ X Y: Obj,((w.alloc X).alloc Y).drew.heap[w.heap.size]? =some X:=par2
    have eB:=ad3 me ta st re hc
    go_region_with (first
     | (go_at_call 232;refine (wR st h5 _ (tR hgn htab (growD _ _))).mono ?_;rintro e w1 ⟨rfl,hb1⟩;have g3: w1.cell? ⟨w.heap.size,3,none⟩=some (.string (bs re)):=((hb1.cell (p:=⟨w.heap.size,3,none⟩) (Nat.lt_of_lt_of_le (by simp only;omega) (sizeD _ _))).trans (by rw [Lib.cell_of_heap (parD _ _)];rfl));have g7: w1.heap[w.heap.size]? =_:=(hb1.block _ (Nat.lt_of_lt_of_le (by omega) (sizeD _ _))).trans (parD _ _);have g4: Fresh (w.heap.size + 1) w1:=(freshD _).below hb1;have g5: Below w.heap.size w w1:=(growD _ _).trans (hb1.mono (Nat.le_trans (Nat.le_add_right _ 2) (sizeD _ _)));have g6: w.heap.size + 2≤w1.heap.size:=Nat.le_trans (sizeD _ _) hb1.size;clear hb1)
     | (go_at_call 231;refine (Tryz.bld_write (w.heap.size + 1) (w.heap.size + 1) [] _ _ (Fresh.is (by assumption)) (by simp only [List.length_nil];omega) (by omega)).mono ?_;rintro e w2 ⟨rfl,hB1,bB1,_⟩;have hH:=Holds.of (l:=eR me ta st re) g5 g6 g7 [] rfl hB1 bB1))
    all_goals (go_wp2_with fail;go_meet;exact hH)
 case rest=>
  have hp:=hcut.2.2.2
  have c5: wc.cell? ⟨w.heap.size,5,none⟩=some (.slice a l.length cp):=by rw [Lib.cell_of_heap hp];rfl
  go_wp2_with fail
  go_loopw [31] (fun i wr=>∃ k: Nat,k≤l.length∧i= .int .i64 k∧Holds w (.cells #[.string (bs me), .string (bs ta), .int .i64 st, .string (bs re), .bool ba, .slice a l.length cp, .string (bs bo)] 43) (eR me ta st re++d8 (l.take k)) wr) (fun i _=>l.length - (intOf i).toNat)
  case atStart=>exact ⟨0,Nat.zero_le _,rfl,by simpa [d8] using hcut⟩
  case round=>
   obtain ⟨k,hk,rfl,hI⟩:=hrel
   by_cases hlt: k < l.length
   · obtain ⟨b,o,rfl,g1,g2⟩:=hc k hlt
     have hbb: b < w.heap.size:=World.block_lt_of_cell? w ⟨b,o + k * 2,none⟩ g1
     have q1: wr.cell? ⟨b,o + k * 2,none⟩=_:=(hI.2.1.cell (p:=⟨b,o + k * 2,none⟩) hbb).trans g1
     have q2: wr.cell? ⟨b,o + k * 2 + 1,none⟩=_:=(hI.2.1.cell (p:=⟨b,o + k * 2 + 1,none⟩) hbb).trans g2
     have z:=js (hf _ (List.getElem_mem hlt))
     have z1: (bs (l[k]).1).size≤40:=by rw [fS];exact z.1
     have z2: (bs (l[k]).2).size≤190:=by rw [fS];exact z.2
     have eL: bs (l[k]).1++⟨#[58,32]⟩++bs (l[k]).2++⟨#[13,10]⟩=bs (tS (l[k])):=by
      show bs (l[k]).1++bs [58,32]++bs (l[k]).2++bs [13,10]=_
      simp only [wT,tS,kw,List.append_assoc];rfl
     have hb2:=fun X Y=>(hI.alloc X).alloc Y
     have hb3: ∀ X Y: Obj,w.heap.size + 1≤((wr.alloc X).alloc Y).heap.size:=fun X Y=>by have:=(hb2 X Y).2.2.1;omega
     have hn: (Lib.byteCells (eR me ta st re++d8 (l.take k))).length + (bs (tS (l[k]))).size≤140737488355328:=by
      have y1:=iK me ta st re h1 h2 h3 h5
      have y2:=gm (l.take k) fun f hf'=>hf f (List.mem_of_mem_take hf')
      have y3: (l.take k).length≤20:=Nat.le_trans (List.length_take_le _ _) (by omega)
      rw [Lib.byteCells_length,fS,List.length_append]
      have y4: (tS (l[k])).length≤300:=by simp only [tS,kw,List.length_append,List.length_cons,List.length_nil];omega
      omega
     go_wp2_with (first
      | (go_at_call 231;refine (Tryz.bld_write (w.heap.size + 1) (w.heap.size + 1) _ _ _ (hb2 _ _).1 hn (hb3 _ _)).mono ?_)
      | go_in)
     rintro e w1 ⟨rfl,hB1,bB1,_⟩
     have hH:=Holds.of (l:=tS (l[k])) (hb2 _ _).2.1 (hb2 _ _).2.2.1 (hb2 _ _).2.2.2 _ rfl hB1 bB1
     clear eL hb2 hb3 hn
     go_wp2_with fail
     go_roundw
     case rel=>exact ⟨k + 1,by omega,by go_num,by rw [FU l k hlt,← List.append_assoc];exact hH⟩
     case measure=>simp [intOf];omega
   · have hkl: k=l.length:=by omega
     subst hkl
     rw [List.take_length] at hI
     have hp:=hI.2.2.2
     have d0: wr.cell? ⟨w.heap.size,0,none⟩=some (.string (bs me)):=by rw [Lib.cell_of_heap hp];rfl
     have d4: wr.cell? ⟨w.heap.size,4,none⟩=some (.bool ba):=by rw [Lib.cell_of_heap hp];rfl
     have d6: wr.cell? ⟨w.heap.size,6,none⟩=some (.string (bs bo)):=by rw [Lib.cell_of_heap hp];rfl
     have hT: ol wr:=tR hgn htab hI.2.1
     have hN: bC ((bs bo).size: Int)=true:=by simp only [bC,Bool.and_eq_true,decide_eq_true_eq];omega
     have s6: (bs (bT ((bs bo).size: Int))).size≤21:=by rw [fS];exact jv _ hN
     have hL: (eR me ta st re++d8 l).length≤6300:=by
      have y1:=iK me ta st re h1 h2 h3 h5
      have y2:=gm l hf
      rw [List.length_append];omega
     have hI2:=hI
     go_upto_region 10 with fail
     go_cut [57] from 40 to 66 (fun v wx=>v= .bool ((!decide (me=[])&& !decide (bo=[]))||(decide (me=[])&& !ba))∧Holds w (.cells #[.string (bs me), .string (bs ta), .int .i64 st, .string (bs re), .bool ba, .slice a l.length cp, .string (bs bo)] 43) (eR me ta st re++d8 l) wx)
     case first=>
      have e1:=I6 me
      have e2:=I6 bo
      cases hm: decide (me=[]) <;> cases hb: decide (bo=[]) <;> cases ba <;> rw [hm] at e1 <;> rw [hb] at e2
      all_goals
       go_wp2_with fail
       go_meet
       exact ⟨by rw [hm,hb];rfl,hI2⟩
     case rest=>
      obtain ⟨rfl,hJ⟩:=hcut
      have hT:=tR hgn htab hJ.2.1
      have hp2:=hJ.2.2.2
      have d6: wc.cell? ⟨w.heap.size,6,none⟩=some (.string (bs bo)):=by rw [Lib.cell_of_heap hp2];rfl
      cases hq: (!decide (me=[])&& !decide (bo=[]))||(decide (me=[])&& !ba)
      · have hcl:=ad4 me ba bo hq
        have hl9: iL me ta st re ba l bo=eR me ta st re++d8 l++[13,10]:=by rw [iL,hcl,List.append_nil]
        go_wp2_with (go_at_call 234;refine (Tryz.bld_string (w.heap.size + 1) (w.heap.size + 1) _ _ hJ.1 (by have:=hJ.2.2.1;omega)).mono ?_)
        rintro e w2 ⟨rfl,hB2,bB2,_⟩
        have y1:=iK me ta st re h1 h2 h3 h5
        have y2:=gm l hf
        go_wp2_with fail
        go_ret
        exact ⟨by rw [hl9,← wT];rfl,hJ.2.1.trans (bB2.mono (by have:=hJ.2.2.1;omega))⟩
      · have eW:=abr me ba bo hq
        have sW: (bs (clP me ba bo)).size≤60:=by
         rw [eW]
         have g1: (⟨#[67,111,110,116,101,110,116,45,76,101,110,103,116,104,58,32]⟩: ByteArray).size=16:=rfl
         have g2: (⟨#[13,10]⟩: ByteArray).size=2:=rfl
         rw [ByteArray.size_append,ByteArray.size_append,g1,g2];omega
        have y1:=iK me ta st re h1 h2 h3 h5
        have y2:=gm l hf
        have y3: (clP me ba bo).length≤60:=by rw [← fS];exact sW
        have sN: (Lib.byteCells (eR me ta st re++d8 l)).length + (bs (clP me ba bo)).size≤140737488355328:=by rw [Lib.byteCells_length];omega
        go_wp2_with (first
         | (go_at_call 232;refine (wR _ hN _ hT).mono ?_;rintro e w1 ⟨rfl,hb1⟩;have hI1:=hJ.below hb1;clear hb1)
         | (go_at_call 231;refine (Tryz.bld_write (w.heap.size + 1) (w.heap.size + 1) _ _ _ hI1.1 (by rw [← eW];exact sN) (by have:=hI1.2.2.1;omega)).mono ?_;rintro e w2 ⟨rfl,hB1,bB1,_⟩;have hH:=Holds.of (l:=clP me ba bo) hI1.2.1 hI1.2.2.1 hI1.2.2.2 _ eW.symm hB1 bB1)
         | (go_at_call 234;refine (Tryz.bld_string (w.heap.size + 1) (w.heap.size + 1) _ _ hH.1 (by have:=hH.2.2.1;omega)).mono ?_;rintro e w3 ⟨rfl,hB2,bB2,_⟩))
        go_ret
        exact ⟨by rw [iL,← wT];simp only [List.append_assoc];rfl,hH.2.1.trans (bB2.mono (by have:=hH.2.2.1;omega))⟩
def hdG (me ta: aa) (st: Int) (re: aa) (fs: List Fd) (bo: aa): Bool:=decide (me.length≤20)&&decide (ta.length≤200)&&bC st&&decide (re.length≤40)&&bd fs&&decide (bo.length≤600)
noncomputable def I7: List AV→List Ob→Br
 | [.agg [.str me, .str ta, .int .i64 st, .str re, .bool ba, .sh (.pair .str .str) fs, .str bo]],[]=> .ite (hdG me ta st re fs bo) (.ret (.str (iL me ta st re ba fs bo)) []) .fail
 | _,_=> .fail
theorem WB: Sound Kx 177 I7:=by
 refine cO Tryz.func177 (by kernel_rfl) rfl fun args objs res objs' hv w L vs hR hr=>?_
 unfold I7 at hv
 split at hv
 case h_2=>cases hv
 rename_i me ta st re ba fs bo
 obtain ⟨h1,h2⟩:=al hv
 cases h2
 simp only [hdG,Bool.and_eq_true,decide_eq_true_eq] at h1
 obtain ⟨⟨⟨⟨⟨g1,g2⟩,g3⟩,g4⟩,g5⟩,g6⟩:=h1
 obtain ⟨g7,g8⟩:=b_ g5
 have ht: ol w:=by
  rcases hR.g.1 with h | h
  · have:=BC;rw [h] at this;cases this
  · exact h
 have hgn: gN≤w.heap.size:=hR.gs
 refine ⟨rfl,?_⟩
 simp only [aX,rel,rd] at hr
 obtain ⟨v,vs',rfl,⟨cs,rfl,hcs, -⟩,rfl⟩:=hr
 obtain ⟨c1,r1,e1,rfl,c2,r2,rfl,rfl,c3,r3,rfl,rfl,c4,r4,rfl,rfl,c5,r5,rfl,rfl,c6,r6,rfl,⟨a,n,cp,q1,rfl,q3,q4⟩,c7,r7,rfl,rfl,rfl⟩:=hcs
 obtain rfl: c6= .slice a fs.length cp:=by simpa using q1
 have hc: ∀ i (h: i < fs.length),∃ b o,a=some ⟨b,o,none⟩∧w.cell? ⟨b,o + i * 2,none⟩=some (.string (bs (fs[i]).1))∧w.cell? ⟨b,o + i * 2 + 1,none⟩=some (.string (bs (fs[i]).2)):=by
  intro i h
  rcases q4 with rfl | ⟨b,o,rfl,q4⟩
  · cases h
  · obtain ⟨ds,_,⟨d1,d2,rfl,rfl,rfl⟩,k3⟩:=q4 i h
    exact ⟨b,o,rfl,by have:=(k3 0 (by decide)).1;exact this,by have:=(k3 1 (by decide)).1;exact this⟩
 have:=Qm me ta re bo st ba fs a cp w ht hgn g7 g8 hc g1 g2 g4 g6 g3
 have e2: cs=#[.string (bs me), .string (bs ta), .int .i64 st, .string (bs re), .bool ba, .slice a fs.length cp, .string (bs bo)]:=by
  apply Array.toList_inj.1;rw [e1];rfl
 subst e2
 refine this.mono ?_
 rintro e w' ⟨rfl,hb⟩
 exact ⟨_,rfl,hb,by simp only [rel];rfl⟩
end Go.Proofs.YtgknmoadpgpdeaaGreatDoor.Ev
namespace Go.Proofs.YtgknmoadpgpdeaaGreatDoor.Ev
open Go Go.RowKit
abbrev Fs:=Nat
def F0: Fs:=0
noncomputable def ad5 (F: Fs): List AV→List Ob→Br
 | [.int .i64 n],[]=> .ite (bC n&&decide (n < (F: Int))) (.ret (.str (bT n)) []) .fail
 | _,_=> .fail
theorem ad6: Sound Kx 191 (ad5 F0):=fun args objs res objs2 hv=>False.elim (by
 unfold ad5 at hv
 split at hv
 · have:=(al hv).1
   simp only [bC,Bool.and_eq_true,decide_eq_true_eq] at this
   have h0: ((F0: Nat): Int)=0:=rfl
   omega
 · cases hv)
end Go.Proofs.YtgknmoadpgpdeaaGreatDoor.Ev
namespace Go.Proofs.YtgknmoadpgpdeaaGreatDoor.Ev
open Go Go.RowKit
set_option linter.unusedVariables false
set_option linter.unusedSimpArgs false
noncomputable section
def Qn (F: Fs): ek:=(add noS 191 (ad5 F))
def I8 (F: Fs) (n: Int): Br:=(.ite (decide (n < 0)) (.ret (AV.str ([]: aa)) []) (.ite (decide (999999999999999 < n)) (.ret (AV.str ([]: aa)) []) (.ite (decide (n < 10)) (.ret (AV.str (bQ (List.set (List.replicate 1 (0 : Int)) 0 (wk8 (ai (48 + n)))))) []) (.ite ((bC (ai (Int.tdiv n 10)))&&(decide ((ai (Int.tdiv n 10)) < (F: Int)))) (.ite (decide (((List.length (bT (ai (Int.tdiv n 10)))) + (List.length (bQ (List.set (List.replicate 1 (0 : Int)) 0 (wk8 (ai (48 + (Int.tmod n 10))))))))≤9223372036854775807)) (.ret (AV.str ((bT (ai (Int.tdiv n 10)))++(bQ (List.set (List.replicate 1 (0 : Int)) 0 (wk8 (ai (48 + (Int.tmod n 10)))))))) []) .fail) .fail))))
theorem Qo (F: Fs) (n: Int): YQ Kx (Qn F) O0 1 Tryz.f191 ([.int .i64 n]) ([])=(I8 F n).val:=by kernel_rfl
def ad7: SC:=[⟨47,_,jt⟩]
def FV (l: List Fd) (name: aa): Br:=(.ite (isM name) (.ret (AV.bool (decide (0 < ((List.length (e_ l name)): Int)))) []) .fail)
def Zm: List AV→List Ob→Br
 | [.sh (.pair .str .str) l, .str name],[]=>FV l name
 | _,_=> .fail
theorem iHas_ok: Sound Kx 85 Zm:=ah (C:=ad7) (O:=O0) Tryz.func85 (by kernel_rfl) fun args objs=>by
 unfold Zm;split
 · exact .inr (by kernel_rfl)
 · exact .inl rfl
def MC: Br:=(.ret (AV.ref 0 0) [.arr Ty.str 0 false (List.set (List.set (List.set (List.replicate 3 ([]: aa)) 0 ([99,111,110,116,101,110,116,45,108,101,110,103,116,104]: aa)) 1 ([116,114,97,110,115,102,101,114,45,101,110,99,111,100,105,110,103]: aa)) 2 ([116,114,97,105,108,101,114]: aa))])
def CH: List AV→List Ob→Br
 | [],[]=>MC
 | _,_=> .fail
theorem MD: Sound Kx 171 CH:=ah (C:=[]) (O:=O0) Tryz.func171 (by kernel_rfl) fun args objs=>by
 unfold CH;split
 · exact .inr (by kernel_rfl)
 · exact .inl rfl
theorem I9 (d: Int) (h0: 0≤d) (h: d < 10): bQ (List.set (List.replicate 1 (0 : Int)) 0 (wk8 (ai (48 + d))))=[UInt8.ofNat (48 + d.toNat)]:=by
 rw [w64 (by omega) (by omega),w8 (by omega) (by omega),cm]
 show [UInt8.ofNat (48 + d).toNat]=_
 rw [show (48 + d).toNat=48 + d.toNat by omega]
theorem agI: ∀ k,Sound Kx 191 (ad5 k):=by
 intro k;induction k with
 | zero=>exact ad6
 | succ k ih=>
   refine sM (C:=Qn k) (O:=O0) KOk (Bt (H0 Kx) ih) Tryz.func191 (by kernel_rfl) fun args objs res os h=>?_
   unfold ad5 at h
   split at h
   · rename_i n
     refine ⟨1,(Qo k n).trans ?_⟩
     obtain ⟨h1,h2⟩:=al h
     cases h2
     rw [Bool.and_eq_true,decide_eq_true_eq] at h1
     obtain ⟨hn,hk⟩:=h1
     have hn':=hn
     simp only [bC,Bool.and_eq_true,decide_eq_true_eq] at hn'
     unfold I8
     refine (fK (dF' (by omega))).trans ((fK (dF' (by omega))).trans ?_)
     by_cases c: n < 10
     · refine (bX (dT' c)).trans ?_
       rw [I9 n hn'.1 c,dh,Lib.decDigits,dif_pos (by omega)]
       rfl
     · have e1: ai (Int.tdiv n 10)=((n.toNat / 10 : Nat): Int):=by
        rw [Int.tdiv_eq_ediv_of_nonneg hn'.1,w64 (by omega) (by omega)];omega
       have e2: Int.tmod n 10=((n.toNat % 10 : Nat): Int):=by
        rw [Int.tmod_eq_emod_of_nonneg hn'.1];omega
       rw [e1,e2]
       have hq: bC ((n.toNat / 10 : Nat): Int)=true:=by simp only [bC,Bool.and_eq_true,decide_eq_true_eq];omega
       have hl:=jv _ hq
       rw [I9 ((n.toNat % 10 : Nat): Int) (by omega) (by omega)]
       refine (fK (dF' c)).trans ((bX ?_).trans ((bX ?_).trans ?_))
       · rw [hq,Bool.true_and];exact dT' (by omega)
       · exact dT' (by simp only [List.length_singleton];omega)
       · rw [dh,dh,Lib.decDigits.eq_1 n.toNat,dif_neg (by omega)]
         simp only [Int.toNat_natCast]
         rfl
   · cases h
def ad8: List AV→List Ob→Br
 | [.int .i64 n],[]=> .ite (bC n) (.ret (.str (bT n)) []) .fail
 | _,_=> .fail
theorem oD: Sound Kx 191 ad8:=(agI 1000000000000000).of fun args objs r h=>by
 unfold ad8 at h
 split at h
 · rename_i n
   obtain ⟨h1,h2⟩:=al h
   refine (bX ?_).trans h2
   rw [h1,Bool.true_and]
   simp only [bC,Bool.and_eq_true,decide_eq_true_eq] at h1
   exact dT' (by omega)
 · cases h
def qz (l: List Fd) (name: aa): Bool:=decide (0 < (e_ l name).length)
def Zn: List AV→List Ob→Br
 | [.sh (.pair .str .str) l, .str name],[]=> .ite (isM name) (.ret (.bool (qz l name)) []) .fail
 | _,_=> .fail
theorem I_: Sound Kx 85 Zn:=iHas_ok.of fun args objs r h=>by
 unfold Zn at h
 split at h
 · rename_i l name
   obtain ⟨h1,h2⟩:=al h
   cases h2
   show (FV l name).val=_
   unfold FV qz
   refine (bX h1).trans ?_
   simp only [Int.natCast_pos]
   rfl
 · cases h
def Qp: List AV→List Ob→Br
 | [.sh (.pair .str .str) l, .str name],[]=> .ite (isM name) (.ret (.tup [.str ((e_ l name).getD 0 []), .bool (qz l name)]) []) .fail
 | _,_=> .fail
def WC: SC:=[⟨71,_,ci⟩,⟨148,_,wb⟩]
abbrev tU (s: List UInt8) (code: List Int) (i h: Int):=(Br.ite (decide ((aT (ai ((s.length: Int) + 1)) code i h) < (s.length: Int))) (Br.ite (decide (0≤(aT (ai ((s.length: Int) + 1)) code i h))) (Br.ite (decide ((aT (ai ((s.length: Int) + 1)) code i h) < ((List.length (bytesOf s)): Int))) (Br.ite (okC code (an 4 code (an (ai ((s.length: Int) + 1)) code i))) (Br.ite (!(decide ((aT 8 code (an 4 code (an (ai ((s.length: Int) + 1)) code i)) (au 4 (au (ai ((s.length: Int) + 1)) h))) < 0))) (Br.ite (decide (0≤(aT (ai ((s.length: Int) + 1)) code i h))) (Br.ite (decide ((aT (ai ((s.length: Int) + 1)) code i h) < ((List.length (bytesOf s)): Int))) (Br.ret (AV.str (bQ (List.set (bytesOf s) (Int.toNat (aT (ai ((s.length: Int) + 1)) code i h)) (wkk .u8 (((BitVec.toNat ((BitVec.ofInt 8 (List.getD (bytesOf s) (Int.toNat (aT (ai ((s.length: Int) + 1)) code i h)) 0)) ^^^ (BitVec.ofInt 8 (wk8 (1 * (2 ^ (min (Int.toNat (aT 8 code (an 4 code (an (ai ((s.length: Int) + 1)) code i)) (au 4 (au (ai ((s.length: Int) + 1)) h)))) 8))))))): Nat): Int))))) ((Ob.var ((AV.sh (Ty.int .u8) code)::((AV.int .i64 (an 8 code (an 4 code (an (ai ((s.length: Int) + 1)) code i))))::((AV.int .i64 (au 8 (au 4 (au (ai ((s.length: Int) + 1)) h))))::[]))))::[])) Br.fail) Br.fail) Br.fail) Br.fail) Br.fail) Br.fail) (Br.ite (decide ((s.length + 1)≤9223372036854775807)) (Br.ret (AV.str (s++([48]: aa))) ((Ob.var ((AV.sh (Ty.int .u8) code)::((AV.int .i64 (an 4 code (an (ai ((s.length: Int) + 1)) code i)))::((AV.int .i64 (au 4 (au (ai ((s.length: Int) + 1)) h)))::[]))))::[])) Br.fail))
abbrev bt (s: List UInt8) (code: List Int) (i h: Int):=(aT (ai ((s.length: Int) + 1)) code i h)
abbrev nB (s: List UInt8) (code: List Int) (i h: Int):=(bQ (List.set (List.replicate 1 (0 : Int)) 0 (wk8 (io code (an 4 code (an (ai ((s.length: Int) + 1)) code i)) (au 4 (au (ai ((s.length: Int) + 1)) h))))))
def kz (s: List UInt8) (code: List Int) (i h: Int): Br:=(.ite (okC code i) (.ite (okC code (an (ai ((s.length: Int) + 1)) code i)) (.ite (decide ((aT 4 code (an (ai ((s.length: Int) + 1)) code i) (au (ai ((s.length: Int) + 1)) h))=0)) (.ite (decide (0≤(bt s code i h))) (.ite (decide ((bt s code i h)≤(s.length: Int))) (.ite (okC code (an 4 code (an (ai ((s.length: Int) + 1)) code i))) (.ite (decide (((List.length (cut s 0 (bt s code i h))) + (List.length (nB s code i h)))≤9223372036854775807)) (.ite (decide (0≤(bt s code i h))) (.ite (decide ((bt s code i h)≤(s.length: Int))) (.ite (decide (((List.length ((cut s 0 (bt s code i h))++(nB s code i h))) + (List.length (cut s (bt s code i h) (s.length: Int))))≤9223372036854775807)) (.ret (AV.str (((cut s 0 (bt s code i h))++(nB s code i h))++(cut s (bt s code i h) (s.length: Int)))) [.var [.sh (Ty.int .u8) code,.int .i64 (cG code (an 4 code (an (ai ((s.length: Int) + 1)) code i))),.int .i64 (mix (au 4 (au (ai ((s.length: Int) + 1)) h)))]]) .fail) .fail) .fail) .fail) .fail) .fail) .fail) (.ite (decide ((aT 4 code (an (ai ((s.length: Int) + 1)) code i) (au (ai ((s.length: Int) + 1)) h))=1)) (.ite (decide (0≤(bt s code i h))) (.ite (decide ((bt s code i h)≤(s.length: Int))) (.ret (AV.str (cut s 0 (bt s code i h))) [.var [.sh (Ty.int .u8) code,.int .i64 (an 4 code (an (ai ((s.length: Int) + 1)) code i)),.int .i64 (au 4 (au (ai ((s.length: Int) + 1)) h))]]) .fail) .fail) (.ite (decide ((aT 4 code (an (ai ((s.length: Int) + 1)) code i) (au (ai ((s.length: Int) + 1)) h))=2)) (.ite (decide ((bt s code i h) < (s.length: Int))) (.ite (decide (0≤(bt s code i h))) (.ite (decide ((bt s code i h)≤(s.length: Int))) (.ite (decide (0≤(ai ((bt s code i h) + 1)))) (.ite (decide ((ai ((bt s code i h) + 1))≤(s.length: Int))) (.ite (decide (((List.length (cut s 0 (bt s code i h))) + (List.length (cut s (ai ((bt s code i h) + 1)) (s.length: Int))))≤9223372036854775807)) (.ret (AV.str ((cut s 0 (bt s code i h))++(cut s (ai ((bt s code i h) + 1)) (s.length: Int)))) [.var [.sh (Ty.int .u8) code,.int .i64 (an 4 code (an (ai ((s.length: Int) + 1)) code i)),.int .i64 (au 4 (au (ai ((s.length: Int) + 1)) h))]]) .fail) .fail) .fail) .fail) .fail) (tU s code i h)) (tU s code i h)))) .fail) .fail)
def Ja: List AV→List Ob→Br
 | [.ptr 0 0, .str s],[.var [.sh (.int .u8) code, .int .i64 i, .int .i64 h]]=>kz s code i h
 | _,_=> .fail
theorem Qq: Sound Kx 147 Ja:=ah (C:=WC) (O:=O0) Tryz.func147 (by kernel_rfl) fun args objs=>by
 unfold Ja;split
 · exact .inr (by kernel_rfl)
 · exact .inl rfl
def Qr: SC:=[⟨71,_,ci⟩,⟨72,_,yq⟩,⟨191,_,oD⟩]
abbrev dA (code: List Int) (i h: Int):=(ofI (ai (1 + (aT 3 code (an 12 code i) (au 12 h)))) ([97,66,45]: aa) code (an 3 code (an 12 code i)) (au 3 (au 12 h)))
abbrev eE (code: List Int) (i h: Int):=(ofH (ai (1 + (aT 3 code (an 12 code i) (au 12 h)))) ([97,66,45]: aa) code (an 3 code (an 12 code i)) (au 3 (au 12 h)))
def iM (code: List Int) (i h: Int): Br:=(.ite (okC code i) (.ite (decide ((aT 12 code i h)=0)) (.ite (okC code (an 12 code i)) (.ite (bC (aT 60 code (an 12 code i) (au 12 h))) (.ite (decide ((8 + (List.length (bT (aT 60 code (an 12 code i) (au 12 h)))))≤9223372036854775807)) (.ret (AV.agg [.str ([67,97,99,104,101,45,67,111,110,116,114,111,108]: aa),.str (([109,97,120,45,97,103,101,61]: aa)++(bT (aT 60 code (an 12 code i) (au 12 h))))]) [.var [.sh (Ty.int .u8) code,.int .i64 (an 60 code (an 12 code i)),.int .i64 (au 60 (au 12 h))]]) .fail) .fail) .fail) (.ite (decide ((aT 12 code i h)=1)) (.ite (((okC code (an 12 code i))&&true)&&true) (.ite (decide ((1 + (List.length (ofS 1 ([97,98,99]: aa) code (an 12 code i) (au 12 h))))≤9223372036854775807)) (.ite (decide (((List.length (([34]: aa)++(ofS 1 ([97,98,99]: aa) code (an 12 code i) (au 12 h)))) + 1)≤9223372036854775807)) (.ret (AV.agg [.str ([69,84,97,103]: aa),.str ((([34]: aa)++(ofS 1 ([97,98,99]: aa) code (an 12 code i) (au 12 h)))++([34]: aa))]) [.var [.sh (Ty.int .u8) code,.int .i64 (ofI 1 ([97,98,99]: aa) code (an 12 code i) (au 12 h)),.int .i64 (ofH 1 ([97,98,99]: aa) code (an 12 code i) (au 12 h))]]) .fail) .fail) .fail) (.ite (decide ((aT 12 code i h)=2)) (.ret (AV.agg [.str ([86,97,114,121]: aa),.str ([65,99,99,101,112,116]: aa)]) [.var [.sh (Ty.int .u8) code,.int .i64 (an 12 code i),.int .i64 (au 12 h)]]) (.ite (decide ((aT 12 code i h)=3)) (.ite (((okC code (an 12 code i))&&true)&&true) (.ret (AV.agg [.str ([65,99,99,101,112,116]: aa),.str (ofS 1 ([97,98]: aa) code (an 12 code i) (au 12 h))]) [.var [.sh (Ty.int .u8) code,.int .i64 (ofI 1 ([97,98]: aa) code (an 12 code i) (au 12 h)),.int .i64 (ofH 1 ([97,98]: aa) code (an 12 code i) (au 12 h))]]) .fail) (.ite (decide ((aT 12 code i h)=4)) (.ret (AV.agg [.str ([67,111,110,110,101,99,116,105,111,110]: aa),.str ([99,108,111,115,101]: aa)]) [.var [.sh (Ty.int .u8) code,.int .i64 (an 12 code i),.int .i64 (au 12 h)]]) (.ite (okC code (an 12 code i)) (.ite (((okC code (an 3 code (an 12 code i)))&&(decide ((ai (1 + (aT 3 code (an 12 code i) (au 12 h))))≤1000000)))&&true) (.ite (okC code (dA code i h)) (.ite (((okC code (an 5 code (dA code i h)))&&(decide ((aT 5 code (dA code i h) (eE code i h))≤1000000)))&&true) (.ret (AV.agg [.str (ofS (ai (1 + (aT 3 code (an 12 code i) (au 12 h)))) ([97,66,45]: aa) code (an 3 code (an 12 code i)) (au 3 (au 12 h))),.str (ofS (aT 5 code (dA code i h) (eE code i h)) ([97,98,49,61]: aa) code (an 5 code (dA code i h)) (au 5 (eE code i h)))]) [.var [.sh (Ty.int .u8) code,.int .i64 (ofI (aT 5 code (dA code i h) (eE code i h)) ([97,98,49,61]: aa) code (an 5 code (dA code i h)) (au 5 (eE code i h))),.int .i64 (ofH (aT 5 code (dA code i h) (eE code i h)) ([97,98,49,61]: aa) code (an 5 code (dA code i h)) (au 5 (eE code i h)))]]) .fail) .fail) .fail) .fail)))))) .fail)
def CI: List AV→List Ob→Br
 | [.ptr 0 0],[.var [.sh (.int .u8) code, .int .i64 i, .int .i64 h]]=>iM code i h
 | _,_=> .fail
theorem ME: Sound Kx 193 CI:=ah (C:=Qr) (O:=O0) Tryz.func193 (by kernel_rfl) fun args objs=>by
 unfold CI;split
 · exact .inr (by kernel_rfl)
 · exact .inl rfl
def Qs: Opt:={ live:=[(5,[1,3,4])],outs:=[(5,[1,2,3])],split:=true }
def sHead_C: SC:=[⟨191,_,oD⟩,⟨192,_,vy⟩]
def rF (aI: aa) (aR: Int) (aF a7: aa) (ck: Int) (eg: aa) (eh: Bool) (cZ: (List Fd)) (fe: aa) (kR5: aa→Int→aa→aa→Int→aa→Bool→(List Fd)→aa→OR') (cR: aa→aa→aa→Int→aa→Bool→(List Fd)→aa→OR'): OR':=
 (bif (decide (aR < (cZ.length: Int))) then (bif (decide (0≤aR)) then (bif (decide (aR < (cZ.length: Int))) then (bif (decide ((aI.length + (List.length (bif (jW ((List.getD cZ (Int.toNat aR) (([]: aa),([]: aa))).1,(List.getD cZ (Int.toNat aR) (([]: aa),([]: aa))).2)) then (kw ((List.getD cZ (Int.toNat aR) (([]: aa),([]: aa))).1,(List.getD cZ (Int.toNat aR) (([]: aa),([]: aa))).2)) else ([]: aa))))≤9223372036854775807)) then (bif (decide (((List.length (aI++(bif (jW ((List.getD cZ (Int.toNat aR) (([]: aa),([]: aa))).1,(List.getD cZ (Int.toNat aR) (([]: aa),([]: aa))).2)) then (kw ((List.getD cZ (Int.toNat aR) (([]: aa),([]: aa))).1,(List.getD cZ (Int.toNat aR) (([]: aa),([]: aa))).2)) else ([]: aa)))) + 2)≤9223372036854775807)) then (kR5 ((aI++(bif (jW ((List.getD cZ (Int.toNat aR) (([]: aa),([]: aa))).1,(List.getD cZ (Int.toNat aR) (([]: aa),([]: aa))).2)) then (kw ((List.getD cZ (Int.toNat aR) (([]: aa),([]: aa))).1,(List.getD cZ (Int.toNat aR) (([]: aa),([]: aa))).2)) else ([]: aa)))++([13,10]: aa)) (ai (aR + 1)) aF a7 ck eg eh cZ fe) else none) else none) else none) else none) else (cR aI aF a7 ck eg eh cZ fe))
def hZ: Nat→aa→Int→aa→aa→Int→aa→Bool→(List Fd)→aa→(aa→aa→aa→Int→aa→Bool→(List Fd)→aa→OR')→OR'
 | 0,_,_,_,_,_,_,_,_,_,_=>none
 | n + 1,aI,aR,aF,a7,ck,eg,eh,cZ,fe,cR=>rF aI aR aF a7 ck eg eh cZ fe (fun aI aR aF a7 ck eg eh cZ fe=>hZ n aI aR aF a7 ck eg eh cZ fe cR) cR
abbrev sHead_p5: SP:=⟨68,[1,3,4],[(.v (.ptr 128 0)),(.v .s),(.v (.i .i64))],[(128, .var [.s, .s,(.i .i64), .s, .b,(.sh (Ty.pair Ty.str Ty.str)), .s])]⟩
noncomputable def Jb: Code:=aD (aG Tryz.f113) [1,1,1,0,1,0,0]
def Jc (f: (aa→aa→aa→Int→aa→Bool→(List Fd)→aa→OR')→OR') (k: KT): OR':=f (fun ap a_ cg eI ei cV dS bb=>k (Ex.exit 0) ((St.mk (aH 0 68 [(1,(AV.ptr 128 0)),(3,(AV.str ap))]) ((128,(Ob.var [.str a_,.str cg,.int .i64 eI,.str ei,.bool cV,.sh (Ty.pair Ty.str Ty.str) dS,.str bb]))::([]: (List (Nat×(Ob))))))))
def Jd (n: Nat) (d: sHead_p5.D): KT→OR':=Jc (hZ n d.1.2.1 d.1.2.2.1 d.2.1.1 d.2.1.2.1 d.2.1.2.2.1 d.2.1.2.2.2.1 d.2.1.2.2.2.2.1 d.2.1.2.2.2.2.2.1 d.2.1.2.2.2.2.2.2.1)
def Qt (N: Nat): Lam:=bw [⟨5,sHead_p5,Jd N⟩]
theorem Qu (N: Nat): OkL Kx sHead_C.s Qs 0 N (Qt N) Jb:=okL sHead_p5 (Jd) (fun d kR=>Jc (rF d.1.2.1 d.1.2.2.1 d.2.1.1 d.2.1.2.1 d.2.1.2.2.1 d.2.1.2.2.2.1 d.2.1.2.2.2.2.1 d.2.1.2.2.2.2.2.1 d.2.1.2.2.2.2.2.2.1 (fun aI aR aF a7 ck eg eh cZ fe=>kR (((),aI,aR,()),((aF,a7,ck,eg,eh,cZ,fe,()),()))))) (fun _ _=>by kernel_rfl) (fun _ _ _=>by kernel_rfl) (fun _ _=>by kernel_rfl) (fun _ _ _ _=>by kernel_rfl) (am (l':=[]) (by kernel_rfl) trivial)
abbrev bD (ap):=(ap++([67,111,110,116,101,110,116,45,76,101,110,103,116,104,58,32]: aa))
def CJ (N: Nat) (me ta: aa) (st: Int) (re: aa) (ba: Bool) (fs: List Fd) (bo: aa): OR':=(bif (decide ((me.length + 1)≤9223372036854775807)) then (bif (decide (((List.length (me++([32]: aa))) + ta.length)≤9223372036854775807)) then (bif (decide (((List.length ((me++([32]: aa))++ta)) + 11)≤9223372036854775807)) then (bif (decide (me=([]: aa))) then (bif (bC st) then (bif (decide ((9 + (List.length (bT st)))≤9223372036854775807)) then (bif (decide (((List.length (([72,84,84,80,47,49,46,49,32]: aa)++(bT st))) + 1)≤9223372036854775807)) then (bif (decide (((List.length ((([72,84,84,80,47,49,46,49,32]: aa)++(bT st))++([32]: aa))) + re.length)≤9223372036854775807)) then (bif (decide (((List.length (((([72,84,84,80,47,49,46,49,32]: aa)++(bT st))++([32]: aa))++re)) + 2)≤9223372036854775807)) then (hZ N ((((([72,84,84,80,47,49,46,49,32]: aa)++(bT st))++([32]: aa))++re)++([13,10]: aa)) 0 me ta st re ba fs bo (fun ap a_ cg eI ei cV dS bb=>(bif (!(decide (a_=([]: aa)))) then (bif (!(decide (bb=([]: aa)))) then (bif (decide ((ap.length + 16)≤9223372036854775807)) then (bif (bC (bb.length: Int)) then (bif (decide (((List.length (bD ap)) + (List.length (bT (bb.length: Int))))≤9223372036854775807)) then (bif (decide (((List.length ((bD ap)++(bT (bb.length: Int)))) + 2)≤9223372036854775807)) then (bif (decide (((List.length (((bD ap)++(bT (bb.length: Int)))++([13,10]: aa))) + 2)≤9223372036854775807)) then (some ((AV.str ((((bD ap)++(bT (bb.length: Int)))++([13,10]: aa))++([13,10]: aa))),[])) else none) else none) else none) else none) else none) else (bif (decide (a_=([]: aa))) then (bif (!cV) then (bif (decide ((ap.length + 16)≤9223372036854775807)) then (bif (bC (bb.length: Int)) then (bif (decide (((List.length (bD ap)) + (List.length (bT (bb.length: Int))))≤9223372036854775807)) then (bif (decide (((List.length ((bD ap)++(bT (bb.length: Int)))) + 2)≤9223372036854775807)) then (bif (decide (((List.length (((bD ap)++(bT (bb.length: Int)))++([13,10]: aa))) + 2)≤9223372036854775807)) then (some ((AV.str ((((bD ap)++(bT (bb.length: Int)))++([13,10]: aa))++([13,10]: aa))),[])) else none) else none) else none) else none) else none) else (bif (decide ((ap.length + 2)≤9223372036854775807)) then (some ((AV.str (ap++([13,10]: aa))),[])) else none)) else (bif (decide ((ap.length + 2)≤9223372036854775807)) then (some ((AV.str (ap++([13,10]: aa))),[])) else none))) else (bif (decide (a_=([]: aa))) then (bif (!cV) then (bif (decide ((ap.length + 16)≤9223372036854775807)) then (bif (bC (bb.length: Int)) then (bif (decide (((List.length (bD ap)) + (List.length (bT (bb.length: Int))))≤9223372036854775807)) then (bif (decide (((List.length ((bD ap)++(bT (bb.length: Int)))) + 2)≤9223372036854775807)) then (bif (decide (((List.length (((bD ap)++(bT (bb.length: Int)))++([13,10]: aa))) + 2)≤9223372036854775807)) then (some ((AV.str ((((bD ap)++(bT (bb.length: Int)))++([13,10]: aa))++([13,10]: aa))),[])) else none) else none) else none) else none) else none) else (bif (decide ((ap.length + 2)≤9223372036854775807)) then (some ((AV.str (ap++([13,10]: aa))),[])) else none)) else (bif (decide ((ap.length + 2)≤9223372036854775807)) then (some ((AV.str (ap++([13,10]: aa))),[])) else none))))) else none) else none) else none) else none) else none) else (hZ N (((me++([32]: aa))++ta)++([32,72,84,84,80,47,49,46,49,13,10]: aa)) 0 me ta st re ba fs bo (fun ap a_ cg eI ei cV dS bb=>(bif (!(decide (a_=([]: aa)))) then (bif (!(decide (bb=([]: aa)))) then (bif (decide ((ap.length + 16)≤9223372036854775807)) then (bif (bC (bb.length: Int)) then (bif (decide (((List.length (bD ap)) + (List.length (bT (bb.length: Int))))≤9223372036854775807)) then (bif (decide (((List.length ((bD ap)++(bT (bb.length: Int)))) + 2)≤9223372036854775807)) then (bif (decide (((List.length (((bD ap)++(bT (bb.length: Int)))++([13,10]: aa))) + 2)≤9223372036854775807)) then (some ((AV.str ((((bD ap)++(bT (bb.length: Int)))++([13,10]: aa))++([13,10]: aa))),[])) else none) else none) else none) else none) else none) else (bif (decide (a_=([]: aa))) then (bif (!cV) then (bif (decide ((ap.length + 16)≤9223372036854775807)) then (bif (bC (bb.length: Int)) then (bif (decide (((List.length (bD ap)) + (List.length (bT (bb.length: Int))))≤9223372036854775807)) then (bif (decide (((List.length ((bD ap)++(bT (bb.length: Int)))) + 2)≤9223372036854775807)) then (bif (decide (((List.length (((bD ap)++(bT (bb.length: Int)))++([13,10]: aa))) + 2)≤9223372036854775807)) then (some ((AV.str ((((bD ap)++(bT (bb.length: Int)))++([13,10]: aa))++([13,10]: aa))),[])) else none) else none) else none) else none) else none) else (bif (decide ((ap.length + 2)≤9223372036854775807)) then (some ((AV.str (ap++([13,10]: aa))),[])) else none)) else (bif (decide ((ap.length + 2)≤9223372036854775807)) then (some ((AV.str (ap++([13,10]: aa))),[])) else none))) else (bif (decide (a_=([]: aa))) then (bif (!cV) then (bif (decide ((ap.length + 16)≤9223372036854775807)) then (bif (bC (bb.length: Int)) then (bif (decide (((List.length (bD ap)) + (List.length (bT (bb.length: Int))))≤9223372036854775807)) then (bif (decide (((List.length ((bD ap)++(bT (bb.length: Int)))) + 2)≤9223372036854775807)) then (bif (decide (((List.length (((bD ap)++(bT (bb.length: Int)))++([13,10]: aa))) + 2)≤9223372036854775807)) then (some ((AV.str ((((bD ap)++(bT (bb.length: Int)))++([13,10]: aa))++([13,10]: aa))),[])) else none) else none) else none) else none) else none) else (bif (decide ((ap.length + 2)≤9223372036854775807)) then (some ((AV.str (ap++([13,10]: aa))),[])) else none)) else (bif (decide ((ap.length + 2)≤9223372036854775807)) then (some ((AV.str (ap++([13,10]: aa))),[])) else none)))))) else none) else none) else none)
def CK (φ: aa→aa→Int→aa→Bool→(List Fd)→aa→Br): List AV→List Ob→Br
 | [.agg [.str me, .str ta, .int .i64 st, .str re, .bool ba, .sh (.pair .str .str) fs, .str bo]],[]=>φ me ta st re ba fs bo
 | _,_=> .fail
theorem MF {φ: aa→aa→Int→aa→Bool→(List Fd)→aa→Br} (fu: aa→aa→Int→aa→Bool→(List Fd)→aa→Nat) (hv: ∀ me ta st re ba fs bo res_,(φ me ta st re ba fs bo).val=some res_→CJ (fu me ta st re ba fs bo) me ta st re ba fs bo=some res_): Sound Kx 113 (CK φ):=ar (C:=sHead_C) (O:=Qs) Tryz.func113 (by kernel_rfl) fun args objs=>by
 unfold CK;split
 · rename_i me ta st re ba fs bo;exact .inr fun _ hyp_=>aS (Λ:=Qt (fu me ta st re ba fs bo)) (by kernel_rfl) (am (l':=[Jb]) (by kernel_rfl) ⟨Qu _,trivial⟩) (by kernel_rfl) (hv me ta st re ba fs bo _ hyp_)
 · exact .inl rfl
def Je: Opt:={ live:=[(4,[1,21,22,23])],outs:=[(4,[1,2])] }
def iMsgOk_C: SC:=[⟨84,_,cK⟩,⟨171,_,MD⟩,⟨85,_,I_⟩,⟨172,_,Ci⟩,⟨173,_,Cd⟩,⟨174,_,BN⟩,⟨175,_,Cc⟩,⟨176,_,q6⟩,⟨177,_,WB⟩]
def tV (bI bK: Int) (cz fa: aa) (mY: Int) (EI: aa) (Ad: Bool) (AQ: (List Fd)) (EJ: aa) (AR: (List aa)) (kR4: Int→Int→aa→aa→Int→aa→Bool→(List Fd)→aa→(List aa)→OR') (fU jI: aa→aa→Int→aa→Bool→(List Fd)→aa→OR'): OR':=
 (bif (decide (bK < bI)) then (bif (decide (0≤bK)) then (bif (decide (bK < (AR.length: Int))) then (bif (isM (List.getD AR (Int.toNat bK) ([]: aa))) then (bif (qz AQ (List.getD AR (Int.toNat bK) ([]: aa))) then (fU cz fa mY EI Ad AQ EJ) else (kR4 bI (ai (bK + 1)) cz fa mY EI Ad AQ EJ AR)) else none) else none) else none) else (jI cz fa mY EI Ad AQ EJ))
def iN: Nat→Int→Int→aa→aa→Int→aa→Bool→(List Fd)→aa→(List aa)→(aa→aa→Int→aa→Bool→(List Fd)→aa→OR')→(aa→aa→Int→aa→Bool→(List Fd)→aa→OR')→OR'
 | 0,_,_,_,_,_,_,_,_,_,_,_,_=>none
 | n + 1,bI,bK,cz,fa,mY,EI,Ad,AQ,EJ,AR,fU,jI=>tV bI bK cz fa mY EI Ad AQ EJ AR (fun bI bK cz fa mY EI Ad AQ EJ AR=>iN n bI bK cz fa mY EI Ad AQ EJ AR fU jI) fU jI
abbrev iMsgOk_p4: SP:=⟨97,[1,21,22,23],[(.v (.ptr 128 0)),(.v (.ref 1408 0)),(.v (.i .i64)),(.v (.i .i64))],[(128, .var [.s, .s,(.i .i64), .s, .b,(.sh (Ty.pair Ty.str Ty.str)), .s]),(1408, .arr Ty.str 0 false)]⟩
noncomputable def CL: Code:=aD (aG Tryz.f101) [1,1,0,1,0,0]
def CM (f: (aa→aa→Int→aa→Bool→(List Fd)→aa→OR')→(aa→aa→Int→aa→Bool→(List Fd)→aa→OR')→OR') (k: KT): OR':=f (fun ja aal aam aan aao aap aaq=>k Ex.ret ((St.mk (aH 0 97 [(1,(AV.ptr 128 0)),(2,(AV.bool false))]) ((128,(Ob.var [.str ja,.str aal,.int .i64 aam,.str aan,.bool aao,.sh (Ty.pair Ty.str Ty.str) aap,.str aaq]))::([]: (List (Nat×(Ob)))))))) (fun dT ij f6 ik kG jQ jb=>k (Ex.exit 0) ((St.mk (aH 0 97 [(1,(AV.ptr 128 0))]) ((128,(Ob.var [.str dT,.str ij,.int .i64 f6,.str ik,.bool kG,.sh (Ty.pair Ty.str Ty.str) jQ,.str jb]))::([]: (List (Nat×(Ob))))))))
def CN (n: Nat) (d: iMsgOk_p4.D): KT→OR':=CM (iN n d.1.2.2.1 d.1.2.2.2.1 d.2.1.1 d.2.1.2.1 d.2.1.2.2.1 d.2.1.2.2.2.1 d.2.1.2.2.2.2.1 d.2.1.2.2.2.2.2.1 d.2.1.2.2.2.2.2.2.1 d.2.2.1)
def Jf (N: Nat): Lam:=bw [⟨4,iMsgOk_p4,CN N⟩]
theorem MG (N: Nat): OkL Kx iMsgOk_C.s Je 0 N (Jf N) CL:=okL iMsgOk_p4 (CN) (fun d kR=>CM (tV d.1.2.2.1 d.1.2.2.2.1 d.2.1.1 d.2.1.2.1 d.2.1.2.2.1 d.2.1.2.2.2.1 d.2.1.2.2.2.2.1 d.2.1.2.2.2.2.2.1 d.2.1.2.2.2.2.2.2.1 d.2.2.1 (fun bI bK cz fa mY EI Ad AQ EJ AR=>kR (((),(),bI,bK,()),((cz,fa,mY,EI,Ad,AQ,EJ,()),AR,()))))) (fun _ _=>by kernel_rfl) (fun _ _ _=>by kernel_rfl) (fun _ _=>by kernel_rfl) (fun _ _ _ _=>by kernel_rfl) (am (l':=[]) (by kernel_rfl) trivial)
def wU (N: Nat) (me ta: aa) (st: Int) (re: aa) (ba: Bool) (fs: List Fd) (bo: aa): OR':=(bif (!(bd fs)) then (some ((AV.bool false),[])) else (bif (decide (20≤(fs.length: Int))) then (some ((AV.bool false),[])) else (bif (decide (600 < (bo.length: Int))) then (some ((AV.bool false),[])) else (iN N 3 0 me ta st re ba fs bo (List.set (List.set (List.set (List.replicate 3 ([]: aa)) 0 ([99,111,110,116,101,110,116,45,108,101,110,103,116,104]: aa)) 1 ([116,114,97,110,115,102,101,114,45,101,110,99,111,100,105,110,103]: aa)) 2 ([116,114,97,105,108,101,114]: aa)) (fun ja aal aam aan aao aap aaq=>(some ((AV.bool false),[]))) (fun dT ij f6 ik kG jQ jb=>(bif (!(decide (dT=([]: aa)))) then (bif (!(mm dT)) then (some ((AV.bool false),[])) else (bif (!(ma ij)) then (some ((AV.bool false),[])) else (bif (!(decide (f6=0))) then (some ((AV.bool false),[])) else (bif (!(decide (ik=([]: aa)))) then (some ((AV.bool false),[])) else (bif kG then (some ((AV.bool false),[])) else (bif (hdG dT ij f6 ik jQ jb) then (some ((AV.bool (decide (((List.length (iL dT ij f6 ik kG jQ jb)): Int)≤1500))),[])) else none)))))) else (bif (!(decide (ij=([]: aa)))) then (some ((AV.bool false),[])) else (bif (!(L_ f6)) then (some ((AV.bool false),[])) else (bif (!(l_ ik)) then (some ((AV.bool false),[])) else (bif kG then (bif (!(decide (jb=([]: aa)))) then (some ((AV.bool false),[])) else (bif (yA f6) then (bif (!kG) then (some ((AV.bool false),[])) else (bif (hdG dT ij f6 ik jQ jb) then (some ((AV.bool (decide (((List.length (iL dT ij f6 ik kG jQ jb)): Int)≤1500))),[])) else none)) else (bif (hdG dT ij f6 ik jQ jb) then (some ((AV.bool (decide (((List.length (iL dT ij f6 ik kG jQ jb)): Int)≤1500))),[])) else none))) else (bif (yA f6) then (bif (!kG) then (some ((AV.bool false),[])) else (bif (hdG dT ij f6 ik jQ jb) then (some ((AV.bool (decide (((List.length (iL dT ij f6 ik kG jQ jb)): Int)≤1500))),[])) else none)) else (bif (hdG dT ij f6 ik jQ jb) then (some ((AV.bool (decide (((List.length (iL dT ij f6 ik kG jQ jb)): Int)≤1500))),[])) else none))))))))))))
def wV (φ: aa→aa→Int→aa→Bool→(List Fd)→aa→Br): List AV→List Ob→Br
 | [.agg [.str me, .str ta, .int .i64 st, .str re, .bool ba, .sh (.pair .str .str) fs, .str bo]],[]=>φ me ta st re ba fs bo
 | _,_=> .fail
theorem FW {φ: aa→aa→Int→aa→Bool→(List Fd)→aa→Br} (fu: aa→aa→Int→aa→Bool→(List Fd)→aa→Nat) (hv: ∀ me ta st re ba fs bo res_,(φ me ta st re ba fs bo).val=some res_→wU (fu me ta st re ba fs bo) me ta st re ba fs bo=some res_): Sound Kx 101 (wV φ):=ar (C:=iMsgOk_C) (O:=Je) Tryz.func101 (by kernel_rfl) fun args objs=>by
 unfold wV;split
 · rename_i me ta st re ba fs bo;exact .inr fun _ hyp_=>aS (Λ:=Jf (fu me ta st re ba fs bo)) (by kernel_rfl) (am (l':=[CL]) (by kernel_rfl) ⟨MG _,trivial⟩) (by kernel_rfl) (hv me ta st re ba fs bo _ hyp_)
 · exact .inl rfl
theorem dle {a b: Nat} (h: a≤b): decide (a≤b)=true:=dT' h
theorem MH (me ta re: aa) (st: Int) (ba: Bool) (fs: List Fd) (bo: aa) (hl: fs.length≤20) (k: aa→aa→aa→Int→aa→Bool→List Fd→aa→OR'): ∀ (r: List Fd) (i: Int) (n: Nat) (s: aa),At fs i r→r.length < n→(∀ f ∈ r,jW f=true)→s.length + 300 * r.length≤100000→
 hZ n s i me ta st re ba fs bo k=k (s++d8 r) me ta st re ba fs bo:=by
 intro r;induction r with
 | nil=>intro i n s h hn hf hs;obtain ⟨n,rfl⟩:=bF hn;unfold hZ rF;simp only [h.dge,cond_false,d8,List.append_nil]
 | cons a r ih=>
   intro i n s h hn hf hs;obtain ⟨n,rfl⟩:=bF hn
   have ha:=hf a (List.mem_cons_self ..)
   have hz:=js ha
   have hr:=fun f h=>hf f (List.mem_cons_of_mem _ h)
   simp only [List.length_cons] at hn hs
   have e0: (kw a).length≤240:=by simp only [kw,List.length_append,List.length_cons];omega
   unfold hZ rF
   simp (disch:=omega) only [h.dlt,h.dnn,h.get,h.next (by omega),ahZ,ha,cond_true,List.length_append,dle]
   rw [ih (i + 1) n _ h.step (by omega) hr (by simp only [List.length_append,List.length_cons,List.length_nil];omega)]
   simp only [d8,tS,List.append_assoc]
theorem ad9 {me ta re bo: aa} {st: Int} {fs: List Fd} (h: hdG me ta st re fs bo=true): me.length≤20∧ta.length≤200∧bC st=true∧re.length≤40∧bd fs=true∧bo.length≤600:=by
 simp only [hdG,Bool.and_eq_true,decide_eq_true_eq] at h
 obtain ⟨⟨⟨⟨⟨g1,g2⟩,g3⟩,g4⟩,g5⟩,g6⟩:=h
 exact ⟨g1,g2,g3,g4,g5,g6⟩
theorem Qv: Sound Kx 113 I7:=by
 refine (MF (φ:=fun me ta st re ba fs bo=> .ite (hdG me ta st re fs bo) (.ret (.str (iL me ta st re ba fs bo)) []) .fail) (fun _ _ _ _ _ fs _=>fs.length + 1) fun me ta st re ba fs bo r h=>?_).of fun args objs r h=>?_
 · obtain ⟨h1,h2⟩:=al h
   cases h2
   obtain ⟨g1,g2,g3,g4,g5,g6⟩:=ad9 h1
   obtain ⟨g7,g8⟩:=b_ g5
   have y1:=gm fs g8
   have y2:=jv st g3
   have hN: bC (bo.length: Int)=true:=by simp only [bC,Bool.and_eq_true,decide_eq_true_eq];omega
   have y3:=jv _ hN
   have big: ∀ (s: aa),s.length≤600→hZ (fs.length + 1) s 0 me ta st re ba fs bo=fun k=>k (s++d8 fs) me ta st re ba fs bo:=fun s hs=>by
    funext k
    exact MH me ta re st ba fs bo g7 k fs 0 _ s (At.start fs) (by omega) g8 (by omega)
   have hne: ∀ (b: Bool),(b&& !b)=false:=by intro b;cases b <;> rfl
   unfold CJ iL eR clP bD
   cases hm: decide (me=[]) <;> cases hb: decide (bo=[]) <;> cases ba
   all_goals
    simp (disch:=(first | omega | (simp only [List.length_append,List.length_cons,List.length_nil];omega))) only [big,List.length_append,List.length_cons,List.length_nil,dle,cond_true,cond_false,hm,hb,g3,hN,Bool.not_true,Bool.not_false,Bool.true_and,Bool.false_and,Bool.and_true,Bool.and_false,Bool.or_false,Bool.false_or,Bool.or_true,Bool.true_or]
    simp only [List.append_assoc,List.cons_append,List.nil_append,List.append_nil]
 · unfold I7 at h;split at h
   · exact h
   · cases h
def abs (fs: List Fd): Bool:=qz fs frC||qz fs frT||qz fs frR
def tW (me ta: aa) (st: Int) (re: aa) (ba: Bool) (bo: aa): Bool:=bif decide (me=[]) then Wv ta st re ba bo else Zi me ta st re ba
def eF (me ta: aa) (st: Int) (re: aa) (ba: Bool) (fs: List Fd) (bo: aa): Bool:=
 bd fs&& !decide (20≤(fs.length: Int))&& !decide (600 < (bo.length: Int))&& !abs fs&&tW me ta st re ba bo&&decide (((iL me ta st re ba fs bo).length: Int)≤1500)
theorem FX (me ta re: aa) (st: Int) (ba: Bool) (fs: List Fd) (bo: aa) (k0 k1: aa→aa→Int→aa→Bool→List Fd→aa→OR'):
 iN 4 3 0 me ta st re ba fs bo [frC,frT,frR] k0 k1=bif abs fs then k0 me ta st re ba fs bo else k1 me ta st re ba fs bo:=by
 have e0: ai (0 + 1)=1:=by rw [w64 (by decide) (by decide)];rfl
 have e1: ai (1 + 1)=2:=by rw [w64 (by decide) (by decide)];rfl
 have e2: ai (2 + 1)=3:=by rw [w64 (by decide) (by decide)];rfl
 have m0: isM frC=true:=bW (n:=20) (by decide)
 have m1: isM frT=true:=bW (n:=20) (by decide)
 have m2: isM frR=true:=bW (n:=20) (by decide)
 have l3: ([frC,frT,frR]: List aa).length=3:=rfl
 have t0: ([frC,frT,frR]: List aa).getD (0 : Int).toNat []=frC:=rfl
 have t1: ([frC,frT,frR]: List aa).getD (1 : Int).toNat []=frT:=rfl
 have t2: ([frC,frT,frR]: List aa).getD (2 : Int).toNat []=frR:=rfl
 unfold abs
 simp only [iN,tV,e0,e1,e2,t0,t1,t2,m0,m1,m2,l3,Int.reduceLT,Int.reduceLE,Int.ofNat_eq_natCast,Int.cast_ofNat_Int,decide_true,decide_false,cond_true,cond_false]
 cases qz fs frC <;> cases qz fs frT <;> cases qz fs frR <;> rfl
theorem Qw {me ta re bo: aa} {st: Int} {ba: Bool} {fs: List Fd} (hf: bd fs=true) (hb: ¬ (600 < (bo.length: Int))) (h: tW me ta st re ba bo=true): hdG me ta st re fs bo=true:=by
 unfold tW at h
 simp only [hdG,Bool.and_eq_true,decide_eq_true_eq]
 by_cases hm: me=[]
 · rw [dT' hm,cond_true] at h
   simp only [Wv,L_,l_,Bool.and_eq_true,decide_eq_true_eq] at h
   subst hm
   obtain ⟨⟨⟨⟨rfl,hs⟩,hr,_⟩,_⟩,_⟩:=h
   exact ⟨⟨⟨⟨⟨by decide,by decide⟩,by simp only [bC,Bool.and_eq_true,decide_eq_true_eq];omega⟩,hr⟩,hf⟩,by omega⟩
 · rw [dF' hm,cond_false] at h
   simp only [Zi,mm,ma,Bool.and_eq_true,decide_eq_true_eq] at h
   obtain ⟨⟨⟨⟨h1,h2⟩,rfl⟩,rfl⟩,_⟩:=h
   exact ⟨⟨⟨⟨⟨by omega,by omega⟩,by decide⟩,by decide⟩,hf⟩,by omega⟩
def Jg: List AV→List Ob→Br:=abk fun m=> .bool (eF m.1 m.2.1 m.2.2.1 m.2.2.2.1 m.2.2.2.2.1 m.2.2.2.2.2.1 m.2.2.2.2.2.2)
theorem wW: Sound Kx 101 Jg:=by
 refine (FW (φ:=fun me ta st re ba fs bo=> .ret (.bool (eF me ta st re ba fs bo)) []) (fun _ _ _ _ _ _ _=>4) fun me ta st re ba fs bo r h=>?_).of fun args objs r h=>?_
 · cases h
   unfold wU eF
   have big: ∀ k0 k1,iN 4 3 0 me ta st re ba fs bo (List.set (List.set (List.set (List.replicate 3 []) 0 [99,111,110,116,101,110,116,45,108,101,110,103,116,104]) 1 [116,114,97,110,115,102,101,114,45,101,110,99,111,100,105,110,103]) 2 [116,114,97,105,108,101,114]) k0 k1=_:=FX me ta re st ba fs bo
   rw [big]
   cases hf: bd fs
   · rfl
   cases h1: decide (20≤(fs.length: Int))
   case true=>rfl
   cases h2: decide (600 < (bo.length: Int))
   case true=>rfl
   cases h3: abs fs
   case true=>rfl
   have h2':=of_decide_eq_false h2
   simp only [Bool.not_true,Bool.not_false,cond_true,cond_false,Bool.true_and]
   have hg:=fun h=>Qw (me:=me) (ta:=ta) (st:=st) (re:=re) (ba:=ba) hf h2' h
   unfold tW Zi Wv at hg ⊢
   cases hm: decide (me=[])
   · rw [hm] at hg
     simp only [cond_false] at hg ⊢
     revert hg
     cases mm me <;> cases ma ta <;> cases decide (st=0) <;> cases decide (re=[]) <;> cases ba <;> intro hg <;> first | rfl | (rw [hg rfl];rfl)
   · rw [hm] at hg
     simp only [cond_true] at hg ⊢
     revert hg
     cases decide (ta=[]) <;> cases L_ st <;> cases l_ re <;> cases decide (bo=[]) <;> cases ba <;> cases yA st <;> intro hg <;> first | rfl | (rw [hg rfl];rfl)
 · unfold Jg abk at h;split at h
   · exact h
   · cases h
def WD: SC:=[⟨113,_,Qv⟩,⟨96,_,eQ⟩,⟨110,_,FQ⟩,⟨111,_,Cj⟩,⟨112,_,FM⟩]
def tX (me ta: aa) (st: Int) (re: aa) (ba: Bool) (fs: List Fd) (bo: aa): Br:=(.ite (!(bd fs)) (.ret (AV.bool false) []) (.ite (decide ((fs.length: Int)=20)) (.ret (AV.bool false) []) (.ite (bd fs) (.ite (List.any fs Wx) (.ret (AV.bool false) []) (.ite (decide (600 < (bo.length: Int))) (.ret (AV.bool false) []) (.ite (!(decide (me=([]: aa)))) (.ite (!(Zi me ta st re ba)) (.ret (AV.bool false) []) (.ite (decide (me=([]: aa))) (.ite (!(Wv ta st re ba bo)) (.ret (AV.bool false) []) (.ite (hdG me ta st re fs bo) (.ret (AV.bool (decide (((List.length (iL me ta st re ba fs bo)): Int)≤1500))) []) .fail)) (.ite (hdG me ta st re fs bo) (.ret (AV.bool (decide (((List.length (iL me ta st re ba fs bo)): Int)≤1500))) []) .fail))) (.ite (decide (me=([]: aa))) (.ite (!(Wv ta st re ba bo)) (.ret (AV.bool false) []) (.ite (hdG me ta st re fs bo) (.ret (AV.bool (decide (((List.length (iL me ta st re ba fs bo)): Int)≤1500))) []) .fail)) (.ite (hdG me ta st re fs bo) (.ret (AV.bool (decide (((List.length (iL me ta st re ba fs bo)): Int)≤1500))) []) .fail))))) .fail)))
def Jh: List AV→List Ob→Br
 | [.agg [.str me, .str ta, .int .i64 st, .str re, .bool ba, .sh (.pair .str .str) fs, .str bo]],[]=>tX me ta st re ba fs bo
 | _,_=> .fail
theorem sMsgOk_ok: Sound Kx 41 Jh:=ah (C:=WD) (O:=O0) Tryz.func41 (by kernel_rfl) fun args objs=>by
 unfold Jh;split
 · exact .inr (by kernel_rfl)
 · exact .inl rfl
theorem wX {α: Type} (p: α→Bool): ∀ l: List α,decide (0 < (l.filter p).length)=l.any p
 | []=>rfl
 | a::r=>by
   rw [List.filter_cons,List.any_cons]
   cases h: p a
   · simp only [Bool.false_eq_true,if_false,Bool.false_or];exact wX p r
   · simp
theorem yS {fs: List Fd} (h: bd fs=true) (name: aa): qz fs name=fs.any fun f=>ga f.1 name:=by
 unfold qz e_ ip
 rw [h,cond_true,List.length_map,wX]
theorem Qx {α: Type} (p q: α→Bool): ∀ l: List α,(l.any p||l.any q)=l.any fun a=>p a||q a
 | []=>rfl
 | a::r=>by
   simp only [List.any_cons,← Qx p q r]
   cases p a <;> cases q a <;> cases r.any p <;> cases r.any q <;> rfl
theorem agJ: ay frC=frC:=by decide
theorem agK: ay frT=frT:=by decide
theorem agL: ay frR=frR:=by decide
theorem abt {fs: List Fd} (h: bd fs=true): fs.any Wx=abs fs:=by
 unfold abs
 rw [yS h,yS h,yS h,Qx,Qx]
 exact congrArg _ (funext fun f=>by unfold Wx ga;rw [agJ,agK,agL])
theorem wY: Sound Kx 41 Jg:=sMsgOk_ok.of fun args objs r h=>by
 unfold Jg abk at h
 split at h
 case h_2=>cases h
 cases h
 rename_i me ta st re ba fs bo
 show (tX me ta st re ba fs bo).val=some (.bool (eF me ta st re ba fs bo),[])
 unfold tX eF
 cases hf: bd fs
 · rfl
 obtain ⟨hl,_⟩:=b_ hf
 have e20: decide ((fs.length: Int)=20)=decide (20≤(fs.length: Int)):=by congr 1;apply propext;omega
 rw [e20,abt hf]
 cases h1: decide (20≤(fs.length: Int))
 case true=>rfl
 cases h3: abs fs
 case true=>cases decide (600 < (bo.length: Int)) <;> rfl
 cases h2: decide (600 < (bo.length: Int))
 case true=>rfl
 have h2':=of_decide_eq_false h2
 simp only [Bool.not_true,Bool.not_false,Bool.true_and]
 refine (fK rfl).trans ((fK rfl).trans ((bX rfl).trans ((fK rfl).trans ((fK rfl).trans ?_))))
 have hg:=fun h=>Qw (me:=me) (ta:=ta) (st:=st) (re:=re) (ba:=ba) hf h2' h
 unfold tW at hg ⊢
 cases hm: decide (me=[])
 · rw [hm] at hg
   simp only [cond_false] at hg ⊢
   revert hg
   cases Zi me ta st re ba <;> intro hg
   · rfl
   · rw [hg rfl];rfl
 · rw [hm] at hg
   simp only [cond_true] at hg ⊢
   revert hg
   cases Wv ta st re ba bo <;> intro hg
   · rfl
   · rw [hg rfl];rfl
end
end Go.Proofs.YtgknmoadpgpdeaaGreatDoor.Ev
