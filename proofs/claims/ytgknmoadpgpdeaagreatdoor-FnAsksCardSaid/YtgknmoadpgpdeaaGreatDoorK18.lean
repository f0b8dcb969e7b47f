/- The texts Head, HeadS, Mz, Ma, Mb, Qg, Mc, Md, Me, Mf, one behind the other. -/
import Derived.Test.YtgknmoadpgpdeaaGreatDoorK14
import Derived.Test.YtgknmoadpgpdeaaGreatDoorK16
import Derived.Test.YtgknmoadpgpdeaaGreatDoorK17
import Derived.Deep.Cut
import Derived.Deep.CutRange
import Derived.Deep.RegionWith
import Derived.Lib.ItoaLen
import Derived.Test.YtgknmoadpgpdeaaGreatDoorK13
namespace Go.Proofs.YtgknmoadpgpdeaaGreatDoor.Ev
open Go.Shelf Go.RowKit Go
set_option linter.unusedVariables false
def bs (l: aa): ByteArray:=⟨l.toArray⟩
theorem eI (l: aa): (bs l).size=l.length:=by simp [bs,ByteArray.size]
noncomputable def dN (me ta: aa) (st: Int) (re: aa): aa:=
 bif decide (me=[]) then [72,84,84,80,47,49,46,49,32]++bR st++[32]++re++[13,10] else me++[32]++ta++[32,72,84,84,80,47,49,46,49]++[13,10]
theorem uw (st: Int) (h: bw st=true) (w: World) (htab: mG w): Calls Tryz.prog 232 #[.int .i64 st] w fun e w'=>e= .returned (.string (bs (bR st)))∧Below w.heap.size w w':=by
 simp only [bw,Bool.and_eq_true,decide_eq_true_eq] at h
 refine (Tryz.strconv_Itoa st (by omega) (by omega) w htab).mono ?_
 rintro e w' ⟨rfl,k,os,rfl⟩
 refine ⟨?_,qt w k os⟩
 rw [cK];unfold Lib.itoa bs;rw [if_neg (by omega)]
def Fresh (b: Nat) (w: World): Prop:=w.heap[b]? =some (.cells #[.pointer none, .slice none 0 0] 186 (0,0))
theorem Fresh.is {b: Nat} {w: World} (h: Fresh b w): Lib.IsBuilderF 186 5 b b [] w:=
 .inl ⟨Nat.le_refl _,_,h,World.ownsRowF_nil w b _ 1,by simp [Value.ownBlock]⟩
theorem Fresh.below {b: Nat} {w w': World} (h: Fresh b w) (hb: Below w.heap.size w w'): Fresh b w':=by
 unfold Fresh at *
 have: b < w.heap.size:=by
  rcases Nat.lt_or_ge b w.heap.size with h' | h'
  · exact h'
  · rw [Array.getElem?_eq_none h'] at h;cases h
 rw [hb.block b this];exact h
theorem rh {w w': World} {B: Nat} (hB: gN≤B) (h: mG w) (hb: Below B w w'): mG w':=by
 unfold mG Lib.TabIs World.var? at *
 cases hg: Tryz.prog.globalNamed "internal/strconv.uint64pow10" with
 | none=>rw [hg] at h;cases h
 | some g=>
   have hlt:=FH hg
   rw [hg] at h
   simp only [Option.bind_some] at h ⊢
   rw [hb.block g (Nat.lt_of_lt_of_le hlt hB)]
   exact h
theorem ib (st: Int) (h: bw st=true): (bR st).length≤21:=by
 simp only [bw,Bool.and_eq_true,decide_eq_true_eq] at h
 have:=Lib.itoa_length_le st (by omega) (by omega)
 unfold Lib.itoa at this
 rw [if_neg (by omega)] at this
 rw [cK];exact this
theorem ux (a b: aa): bs a++bs b=bs (a++b):=by unfold bs;rw [ByteArray.mk_append_mk]
theorem GN (l: aa): (bs l).toList.isEmpty=decide (l=[]):=by cases l <;> simp [bs]
theorem gn (me ta: aa) (st: Int) (re: aa) (h1: me.length≤20) (h2: ta.length≤200) (h3: re.length≤40) (h: bw st=true): (dN me ta st re).length≤300:=by
 have:=ib st h
 unfold dN
 cases decide (me=[]) <;> simp <;> omega
theorem VC (me ta: aa) (st: Int) (re: aa) (h: (!(bs me).toList.isEmpty)=true): bs me++⟨#[32]⟩++bs ta++⟨#[32,72,84,84,80,47,49,46,49]⟩++⟨#[13,10]⟩=bs (dN me ta st re):=by
 rw [GN] at h
 simp only [Bool.not_eq_true',decide_eq_false_iff_not] at h
 unfold dN
 rw [dF' h,cond_false]
 show bs me++bs [32]++bs ta++bs [32,72,84,84,80,47,49,46,49]++bs [13,10]=_
 simp only [ux]
theorem aad (me ta: aa) (st: Int) (re: aa) (h: (!(bs me).toList.isEmpty)=false): ⟨#[72,84,84,80,47,49,46,49,32]⟩++bs (bR st)++⟨#[32]⟩++bs re++⟨#[13,10]⟩=bs (dN me ta st re):=by
 rw [GN] at h
 simp only [Bool.not_eq_false',decide_eq_true_eq] at h
 unfold dN
 rw [dT' h,cond_true]
 show bs [72,84,84,80,47,49,46,49,32]++bs (bR st)++bs [32]++bs re++bs [13,10]=_
 simp only [ux]
def Holds (w: World) (p: Obj) (l: aa) (wx: World): Prop:=
 Lib.IsBuilderF 186 5 (w.heap.size + 1) (w.heap.size + 1) (Lib.byteCells l) wx∧Below w.heap.size w wx∧w.heap.size + 2≤wx.heap.size∧wx.heap[w.heap.size]? =some p
theorem Holds.of {w W w2: World} {p: Obj} {l: aa} {s: ByteArray} (hW: Below w.heap.size w W) (hs: w.heap.size + 2≤W.heap.size) (hp: W.heap[w.heap.size]? =some p) (l0: aa) (he: s=bs l)
 (hB: Lib.BuilderAtF 186 5 (w.heap.size + 1) (w.heap.size + 1) (.pointer (some ⟨w.heap.size + 1,0,none⟩)) (Lib.byteCells l0++Lib.strCells s) w2) (bB: Below (w.heap.size + 1) W w2): Holds w p (l0++l) w2:=by
 subst he
 refine ⟨.inr ?_,hW.trans (bB.mono (by omega)),by have:=bB.size;omega,by rw [bB.block _ (by omega)];exact hp⟩
 rw [Lib.byteCells_append];exact hB
theorem Holds.alloc {w wx: World} {p: Obj} {l: aa} (h: Holds w p l wx) (X: Obj): Holds w p l (wx.alloc X):=
 ⟨h.1.alloc X,h.2.1.alloc (by have:=h.2.2.1;omega) X,by have:=h.2.2.1;simp;omega,by rw [heap_alloc_old _ _ (by have:=h.2.2.1;omega)];exact h.2.2.2⟩
theorem Holds.below {w wx w': World} {p: Obj} {l: aa} (h: Holds w p l wx) (hb: Below wx.heap.size wx w'): Holds w p l w':=by
 obtain ⟨h1,h2,h3,h4⟩:=h
 have hg: ∀ row,wx.grownBy w' row:=fun row=>⟨hb.os,hb.tape,hb.output,hb.size,fun k hk _=>hb.block k hk⟩
 have kept: ∀ v n xs,wx.ownsRowF (w.heap.size + 1) 5 1 v n xs→w'.ownsRowF (w.heap.size + 1) 5 1 v n xs:=fun v n xs ho=>by
  cases hv: v.ownBlock with
  | none=>exact ho.kept (hg none) (.inl hv)
  | some q=>exact ho.kept (hg none) (.inr (by rw [hv];exact fun e=>by cases e))
 have one: ∀ q,Lib.BuilderAtF 186 5 (w.heap.size + 1) (w.heap.size + 1) q (Lib.byteCells l) wx→Lib.BuilderAtF 186 5 (w.heap.size + 1) (w.heap.size + 1) q (Lib.byteCells l) w':=by
  rintro q ⟨g1,v,g2,g3,g4⟩
  exact ⟨g1,v,by rw [hb.block _ (by omega)];exact g2,kept _ _ _ g3,g4⟩
 exact ⟨h1.imp (one _) (one _),h2.trans (hb.mono (by omega)),by have:=hb.size;omega,by rw [hb.block _ (by omega)];exact h4⟩
noncomputable def clP (me: aa) (ba: Bool) (bo: aa): aa:=
 bif (!decide (me=[])&& !decide (bo=[]))||(decide (me=[])&& !ba) then [67,111,110,116,101,110,116,45,76,101,110,103,116,104,58,32]++bR (bo.length: Int)++[13,10] else []
theorem aae (me: aa) (ba: Bool) (bo: aa) (h: ((!decide (me=[])&& !decide (bo=[]))||(decide (me=[])&& !ba))=false): clP me ba bo=[]:=by unfold clP;rw [h];rfl
theorem XC (me: aa) (ba: Bool) (bo: aa) (h: ((!decide (me=[])&& !decide (bo=[]))||(decide (me=[])&& !ba))=true): bs (clP me ba bo)=⟨#[67,111,110,116,101,110,116,45,76,101,110,103,116,104,58,32]⟩++bs (bR ((bs bo).size: Int))++⟨#[13,10]⟩:=by
 unfold clP;rw [h,cond_true,eI]
 show _=bs [67,111,110,116,101,110,116,45,76,101,110,103,116,104,58,32]++bs (bR (bo.length: Int))++bs [13,10]
 simp only [ux]
def ri (f: Fd): aa:=iR f++[13,10]
def di: List Fd→aa
 | []=>[]
 | f::r=>ri f++di r
theorem rj: ∀ (l: List Fd) (f: Fd),di (l++[f])=di l++ri f
 | [],f=>by simp [di]
 | g::r,f=>by simp only [List.cons_append,di,rj r f,List.append_assoc]
theorem Dr (l: List Fd) (k: Nat) (h: k < l.length): di (l.take (k + 1))=di (l.take k)++ri (l[k]'h):=by
 rw [List.take_succ_eq_append_getElem h,rj]
theorem fe: ∀ (l: List Fd),(∀ f ∈ l,hO f=true)→(di l).length≤300 * l.length
 | [],_=>by simp [di]
 | f::r,h=>by
   have h1:=h_ (h f (List.mem_cons_self ..))
   have h2:=fe r fun g hg=>h g (List.mem_cons_of_mem _ hg)
   simp only [di,ri,iR,List.length_append,List.length_cons,List.length_nil];omega
noncomputable def ic (me ta: aa) (st: Int) (re: aa) (ba: Bool) (l: List Fd) (bo: aa): aa:=dN me ta st re++di l++clP me ba bo++[13,10]
set_option maxHeartbeats 4000000 in
set_option maxRecDepth 1000000 in
theorem NJ (me ta re bo: aa) (st: Int) (ba: Bool) (l: List Fd) (a: Option Addr) (cp: Nat) (w: World) (htab: mG w) (hgn: gN≤w.heap.size) (hl: l.length≤20) (hf: ∀ f ∈ l,hO f=true)
 (hc: ∀ i (h: i < l.length),∃ b o,a=some ⟨b,o,none⟩∧w.cell? ⟨b,o + i * 2,none⟩=some (.string (bs (l[i]).1))∧w.cell? ⟨b,o + i * 2 + 1,none⟩=some (.string (bs (l[i]).2)))
 (h1: me.length≤20) (h2: ta.length≤200) (h3: re.length≤40) (h4: bo.length≤600) (h5: bw st=true):
 Calls Tryz.prog 177 #[.agg #[.string (bs me), .string (bs ta), .int .i64 st, .string (bs re), .bool ba, .slice a l.length cp, .string (bs bo)]] w fun e w'=>e= .returned (.string (bs (ic me ta st re ba l bo)))∧Below w.heap.size w w':=by
 let P: Obj:= .cells #[.string (bs me), .string (bs ta), .int .i64 st, .string (bs re), .bool ba, .slice a l.length cp, .string (bs bo)] 43
 have s1: (bs me).size≤20:=by rw [eI];exact h1
 have s2: (bs ta).size≤200:=by rw [eI];exact h2
 have s3: (bs re).size≤40:=by rw [eI];exact h3
 have s4: (bs bo).size≤600:=by rw [eI];exact h4
 have s5: (bs (bR st)).size≤21:=by rw [eI];exact ib st h5
 have sF: (bs (dN me ta st re)).size≤300:=by rw [eI];exact gn me ta st re h1 h2 h3 h5
 go_enter Tryz.func177,Tryz.ntmps177
 go_upto_if 8 with fail
 go_cut [] from 6 to 66 (fun wx=>Holds w (.cells #[.string (bs me), .string (bs ta), .int .i64 st, .string (bs re), .bool ba, .slice a l.length cp, .string (bs bo)] 43) (dN me ta st re) wx)
 case first=>
  have fresh: ∀ X: Obj,Fresh (w.heap.size + 1) ((w.alloc X).alloc (.cells #[.pointer none, .slice none 0 0] 186)):=fun X=>by
   unfold Fresh
   have e: w.heap.size + 1=(w.alloc X).heap.size:=by simp
   rw [e]
   exact heap_alloc_new _ _
  have grown: ∀ X Y: Obj,Below w.heap.size w ((w.alloc X).alloc Y):=fun X Y=>((Below.refl _ w).alloc (Nat.le_refl _) X).alloc (by simp) Y
  have par2: ∀ X Y: Obj,((w.alloc X).alloc Y).heap[w.heap.size]? =some X:=fun X Y=>by rw [heap_alloc_old _ _ (by simp)];exact heap_alloc_new _ _
  have size2: ∀ X Y: Obj,w.heap.size + 2≤((w.alloc X).alloc Y).heap.size:=fun X Y=>by simp
  go_wp2_with (go_at_call 231;refine (Tryz.bld_write (w.heap.size + 1) (w.heap.size + 1) [] _ _ (fresh _).is ?hl ?hB).mono ?_)
  · rename_i hc _ _
    rw [VC me ta st re hc]
    simp only [List.length_nil];omega
  · simp
  · rename_i hc _ _
    rw [VC me ta st re hc]
    rintro e w1 ⟨rfl,hB1,bB1,_⟩
    have hH:=Holds.of (l:=dN me ta st re) (grown _ _) (size2 _ _) (par2 _ _) [] rfl hB1 bB1
    go_wp2_with fail
    go_meet
    case rel=>exact hH
  · rename_i hc
    have growD: ∀ X Y: Obj,Below w.heap.size w ((w.alloc X).alloc Y).drew:=fun X Y=>Below.drew (grown X Y)
    have sizeD: ∀ X Y: Obj,w.heap.size + 2≤((w.alloc X).alloc Y).drew.heap.size:=size2
    have freshD: ∀ X: Obj,Fresh (w.heap.size + 1) ((w.alloc X).alloc (.cells #[.pointer none, .slice none 0 0] 186)).drew:=fresh
    have parD: ∀ X Y: Obj,((w.alloc X).alloc Y).drew.heap[w.heap.size]? =some X:=par2
    have eB:=aad me ta st re hc
    go_region_with (first
     | (go_at_call 232;refine (uw st h5 _ (rh hgn htab (growD _ _))).mono ?_;rintro e w1 ⟨rfl,hb1⟩;have g3: w1.cell? ⟨w.heap.size,3,none⟩=some (.string (bs re)):=((hb1.cell (p:=⟨w.heap.size,3,none⟩) (Nat.lt_of_lt_of_le (by simp only;omega) (sizeD _ _))).trans (by rw [Lib.cell_of_heap (parD _ _)];rfl));have g7: w1.heap[w.heap.size]? =_:=(hb1.block _ (Nat.lt_of_lt_of_le (by omega) (sizeD _ _))).trans (parD _ _);have g4: Fresh (w.heap.size + 1) w1:=(freshD _).below hb1;have g5: Below w.heap.size w w1:=(growD _ _).trans (hb1.mono (Nat.le_trans (Nat.le_add_right _ 2) (sizeD _ _)));have g6: w.heap.size + 2≤w1.heap.size:=Nat.le_trans (sizeD _ _) hb1.size;clear hb1)
     | (go_at_call 231;refine (Tryz.bld_write (w.heap.size + 1) (w.heap.size + 1) [] _ _ (Fresh.is (by assumption)) (by simp only [List.length_nil];omega) (by omega)).mono ?_;rintro e w2 ⟨rfl,hB1,bB1,_⟩;have hH:=Holds.of (l:=dN me ta st re) g5 g6 g7 [] rfl hB1 bB1))
    all_goals (go_wp2_with fail;go_meet;exact hH)
 case rest=>
  have hp:=hcut.2.2.2
  have c5: wc.cell? ⟨w.heap.size,5,none⟩=some (.slice a l.length cp):=by rw [Lib.cell_of_heap hp];rfl
  go_wp2_with fail
  go_loopw [31] (fun i wr=>∃ k: Nat,k≤l.length∧i= .int .i64 k∧Holds w (.cells #[.string (bs me), .string (bs ta), .int .i64 st, .string (bs re), .bool ba, .slice a l.length cp, .string (bs bo)] 43) (dN me ta st re++di (l.take k)) wr) (fun i _=>l.length - (intOf i).toNat)
  case atStart=>exact ⟨0,Nat.zero_le _,rfl,by simpa [di] using hcut⟩
  case round=>
   obtain ⟨k,hk,rfl,hI⟩:=hrel
   by_cases hlt: k < l.length
   · obtain ⟨b,o,rfl,g1,g2⟩:=hc k hlt
     have hbb: b < w.heap.size:=World.block_lt_of_cell? w ⟨b,o + k * 2,none⟩ g1
     have q1: wr.cell? ⟨b,o + k * 2,none⟩=_:=(hI.2.1.cell (p:=⟨b,o + k * 2,none⟩) hbb).trans g1
     have q2: wr.cell? ⟨b,o + k * 2 + 1,none⟩=_:=(hI.2.1.cell (p:=⟨b,o + k * 2 + 1,none⟩) hbb).trans g2
     have z:=h_ (hf _ (List.getElem_mem hlt))
     have z1: (bs (l[k]).1).size≤40:=by rw [eI];exact z.1
     have z2: (bs (l[k]).2).size≤190:=by rw [eI];exact z.2
     have eL: bs (l[k]).1++⟨#[58,32]⟩++bs (l[k]).2++⟨#[13,10]⟩=bs (ri (l[k])):=by
      show bs (l[k]).1++bs [58,32]++bs (l[k]).2++bs [13,10]=_
      simp only [ux,ri,iR,List.append_assoc];rfl
     have hb2:=fun X Y=>(hI.alloc X).alloc Y
     have hb3: ∀ X Y: Obj,w.heap.size + 1≤((wr.alloc X).alloc Y).heap.size:=fun X Y=>by have:=(hb2 X Y).2.2.1;omega
     have hn: (Lib.byteCells (dN me ta st re++di (l.take k))).length + (bs (ri (l[k]))).size≤140737488355328:=by
      have y1:=gn me ta st re h1 h2 h3 h5
      have y2:=fe (l.take k) fun f hf'=>hf f (List.mem_of_mem_take hf')
      have y3: (l.take k).length≤20:=Nat.le_trans (List.length_take_le _ _) (by omega)
      rw [Lib.byteCells_length,eI,List.length_append]
      have y4: (ri (l[k])).length≤300:=by simp only [ri,iR,List.length_append,List.length_cons,List.length_nil];omega
      omega
     go_wp2_with (first
      | (go_at_call 231;refine (Tryz.bld_write (w.heap.size + 1) (w.heap.size + 1) _ _ _ (hb2 _ _).1 hn (hb3 _ _)).mono ?_)
      | go_in)
     rintro e w1 ⟨rfl,hB1,bB1,_⟩
     have hH:=Holds.of (l:=ri (l[k])) (hb2 _ _).2.1 (hb2 _ _).2.2.1 (hb2 _ _).2.2.2 _ rfl hB1 bB1
     clear eL hb2 hb3 hn
     go_wp2_with fail
     go_roundw
     case rel=>exact ⟨k + 1,by omega,by go_num,by rw [Dr l k hlt,← List.append_assoc];exact hH⟩
     case measure=>simp [intOf];omega
   · have hkl: k=l.length:=by omega
     subst hkl
     rw [List.take_length] at hI
     have hp:=hI.2.2.2
     have d0: wr.cell? ⟨w.heap.size,0,none⟩=some (.string (bs me)):=by rw [Lib.cell_of_heap hp];rfl
     have d4: wr.cell? ⟨w.heap.size,4,none⟩=some (.bool ba):=by rw [Lib.cell_of_heap hp];rfl
     have d6: wr.cell? ⟨w.heap.size,6,none⟩=some (.string (bs bo)):=by rw [Lib.cell_of_heap hp];rfl
     have hT: mG wr:=rh hgn htab hI.2.1
     have hN: bw ((bs bo).size: Int)=true:=by simp only [bw,Bool.and_eq_true,decide_eq_true_eq];omega
     have s6: (bs (bR ((bs bo).size: Int))).size≤21:=by rw [eI];exact ib _ hN
     have hL: (dN me ta st re++di l).length≤6300:=by
      have y1:=gn me ta st re h1 h2 h3 h5
      have y2:=fe l hf
      rw [List.length_append];omega
     have hI2:=hI
     go_upto_region 10 with fail
     go_cut [57] from 40 to 66 (fun v wx=>v= .bool ((!decide (me=[])&& !decide (bo=[]))||(decide (me=[])&& !ba))∧Holds w (.cells #[.string (bs me), .string (bs ta), .int .i64 st, .string (bs re), .bool ba, .slice a l.length cp, .string (bs bo)] 43) (dN me ta st re++di l) wx)
     case first=>
      have e1:=GN me
      have e2:=GN bo
      cases hm: decide (me=[]) <;> cases hb: decide (bo=[]) <;> cases ba <;> rw [hm] at e1 <;> rw [hb] at e2
      all_goals
       go_wp2_with fail
       go_meet
       exact ⟨by rw [hm,hb];rfl,hI2⟩
     case rest=>
      obtain ⟨rfl,hJ⟩:=hcut
      have hT:=rh hgn htab hJ.2.1
      have hp2:=hJ.2.2.2
      have d6: wc.cell? ⟨w.heap.size,6,none⟩=some (.string (bs bo)):=by rw [Lib.cell_of_heap hp2];rfl
      cases hq: (!decide (me=[])&& !decide (bo=[]))||(decide (me=[])&& !ba)
      · have hcl:=aae me ba bo hq
        have hl9: ic me ta st re ba l bo=dN me ta st re++di l++[13,10]:=by rw [ic,hcl,List.append_nil]
        go_wp2_with (go_at_call 234;refine (Tryz.bld_string (w.heap.size + 1) (w.heap.size + 1) _ _ hJ.1 (by have:=hJ.2.2.1;omega)).mono ?_)
        rintro e w2 ⟨rfl,hB2,bB2,_⟩
        have y1:=gn me ta st re h1 h2 h3 h5
        have y2:=fe l hf
        go_wp2_with fail
        go_ret
        exact ⟨by rw [hl9,← ux];rfl,hJ.2.1.trans (bB2.mono (by have:=hJ.2.2.1;omega))⟩
      · have eW:=XC me ba bo hq
        have sW: (bs (clP me ba bo)).size≤60:=by
         rw [eW]
         have g1: (⟨#[67,111,110,116,101,110,116,45,76,101,110,103,116,104,58,32]⟩: ByteArray).size=16:=rfl
         have g2: (⟨#[13,10]⟩: ByteArray).size=2:=rfl
         rw [ByteArray.size_append,ByteArray.size_append,g1,g2];omega
        have y1:=gn me ta st re h1 h2 h3 h5
        have y2:=fe l hf
        have y3: (clP me ba bo).length≤60:=by rw [← eI];exact sW
        have sN: (Lib.byteCells (dN me ta st re++di l)).length + (bs (clP me ba bo)).size≤140737488355328:=by rw [Lib.byteCells_length];omega
        go_wp2_with (first
         | (go_at_call 232;refine (uw _ hN _ hT).mono ?_;rintro e w1 ⟨rfl,hb1⟩;have hI1:=hJ.below hb1;clear hb1)
         | (go_at_call 231;refine (Tryz.bld_write (w.heap.size + 1) (w.heap.size + 1) _ _ _ hI1.1 (by rw [← eW];exact sN) (by have:=hI1.2.2.1;omega)).mono ?_;rintro e w2 ⟨rfl,hB1,bB1,_⟩;have hH:=Holds.of (l:=clP me ba bo) hI1.2.1 hI1.2.2.1 hI1.2.2.2 _ eW.symm hB1 bB1)
         | (go_at_call 234;refine (Tryz.bld_string (w.heap.size + 1) (w.heap.size + 1) _ _ hH.1 (by have:=hH.2.2.1;omega)).mono ?_;rintro e w3 ⟨rfl,hB2,bB2,_⟩))
        go_ret
        exact ⟨by rw [ic,← ux];simp only [List.append_assoc];rfl,hH.2.1.trans (bB2.mono (by have:=hH.2.2.1;omega))⟩
def hdG (me ta: aa) (st: Int) (re: aa) (fs: List Fd) (bo: aa): Bool:=decide (me.length≤20)&&decide (ta.length≤200)&&bw st&&decide (re.length≤40)&&co fs&&decide (bo.length≤600)
noncomputable def GO: List AV→List Ob→Br
 | [.agg [.str me, .str ta, .int .i64 st, .str re, .bool ba, .sh (.pair .str .str) fs, .str bo]],[]=> .ite (hdG me ta st re fs bo) (.ret (.str (ic me ta st re ba fs bo)) []) .fail
 | _,_=> .fail
theorem S4: Sound Kx 177 GO:=by
 refine cA Tryz.func177 (by kernel_rfl) rfl fun args objs res objs' hv w L vs hR hr=>?_
 unfold GO at hv
 split at hv
 case h_2=>cases hv
 rename_i me ta st re ba fs bo
 obtain ⟨h1,h2⟩:=ae hv
 cases h2
 simp only [hdG,Bool.and_eq_true,decide_eq_true_eq] at h1
 obtain ⟨⟨⟨⟨⟨g1,g2⟩,g3⟩,g4⟩,g5⟩,g6⟩:=h1
 obtain ⟨g7,g8⟩:=eC g5
 have ht: mG w:=by
  rcases hR.g.1 with h | h
  · have:=y5;rw [h] at this;cases this
  · exact h
 have hgn: gN≤w.heap.size:=hR.gs
 refine ⟨rfl,?_⟩
 simp only [aX,rel,rd] at hr
 obtain ⟨v,vs',rfl,⟨cs,rfl,hcs, -⟩,rfl⟩:=hr
 obtain ⟨c1,r1,e1,rfl,c2,r2,rfl,rfl,c3,r3,rfl,rfl,c4,r4,rfl,rfl,c5,r5,rfl,rfl,c6,r6,rfl,⟨a,n,cp,q1,rfl,q3,q4⟩,c7,r7,rfl,rfl,rfl⟩:=hcs
 obtain rfl: c6= .slice a fs.length cp:=by simpa using q1
 have hc: ∀ i (h: i < fs.length),∃ b o,a=some ⟨b,o,none⟩∧w.cell? ⟨b,o + i * 2,none⟩=some (.string (bs (fs[i]).1))∧w.cell? ⟨b,o + i * 2 + 1,none⟩=some (.string (bs (fs[i]).2)):=by
  intro i h
  rcases q4 with rfl | ⟨b,o,rfl,q4⟩
  · cases h
  · obtain ⟨ds,_,⟨d1,d2,rfl,rfl,rfl⟩,k3⟩:=q4 i h
    exact ⟨b,o,rfl,by have:=(k3 0 (by decide)).1;exact this,by have:=(k3 1 (by decide)).1;exact this⟩
 have:=NJ me ta re bo st ba fs a cp w ht hgn g7 g8 hc g1 g2 g4 g6 g3
 have e2: cs=#[.string (bs me), .string (bs ta), .int .i64 st, .string (bs re), .bool ba, .slice a fs.length cp, .string (bs bo)]:=by
  apply Array.toList_inj.1;rw [e1];rfl
 subst e2
 refine this.mono ?_
 rintro e w' ⟨rfl,hb⟩
 exact ⟨_,rfl,hb,by simp only [rel];rfl⟩
end Go.Proofs.YtgknmoadpgpdeaaGreatDoor.Ev
namespace Go.Proofs.YtgknmoadpgpdeaaGreatDoor.Ev
open Go Go.RowKit
abbrev Fs:=Nat
def F0: Fs:=0
noncomputable def aaf (F: Fs): List AV→List Ob→Br
 | [.int .i64 n],[]=> .ite (bw n&&decide (n < (F: Int))) (.ret (.str (bR n)) []) .fail
 | _,_=> .fail
theorem aag: Sound Kx 191 (aaf F0):=fun args objs res objs2 hv=>False.elim (by
 unfold aaf at hv
 split at hv
 · have:=(ae hv).1
   simp only [bw,Bool.and_eq_true,decide_eq_true_eq] at this
   have h0: ((F0: Nat): Int)=0:=rfl
   omega
 · cases hv)
end Go.Proofs.YtgknmoadpgpdeaaGreatDoor.Ev
namespace Go.Proofs.YtgknmoadpgpdeaaGreatDoor.Ev
open Go Go.RowKit
set_option linter.unusedVariables false
set_option linter.unusedSimpArgs false
noncomputable section
def NK (F: Fs): dn:=(add noS 191 (aaf F))
def GP (F: Fs) (n: Int): Br:=(.ite (decide (n < 0)) (.ret (AV.str ([]: aa)) []) (.ite (decide (999999999999999 < n)) (.ret (AV.str ([]: aa)) []) (.ite (decide (n < 10)) (.ret (AV.str (bP (List.set (List.replicate 1 0) 0 (wk8 (ad (48 + n)))))) []) (.ite ((bw (ad (Int.tdiv n 10)))&&(decide ((ad (Int.tdiv n 10)) < (F: Int)))) (.ite (decide (((List.length (bR (ad (Int.tdiv n 10)))) + (List.length (bP (List.set (List.replicate 1 0) 0 (wk8 (ad (48 + (Int.tmod n 10))))))))≤9223372036854775807)) (.ret (AV.str ((bR (ad (Int.tdiv n 10)))++(bP (List.set (List.replicate 1 0) 0 (wk8 (ad (48 + (Int.tmod n 10)))))))) []) .fail) .fail))))
theorem NL (F: Fs) (n: Int): U6 Kx (NK F) O0 1 Tryz.f191 ([.int .i64 n]) ([])=(GP F n).val:=by kernel_rfl
def aah: SC:=[⟨47,_,kp⟩]
def Ds (l: List Fd) (name: aa): Br:=(.ite (isM name) (.ret (AV.bool (decide (0 < ((List.length (dp l name)): Int)))) []) .fail)
def VD: List AV→List Ob→Br
 | [.sh (.pair .str .str) l, .str name],[]=>Ds l name
 | _,_=> .fail
theorem iHas_ok: Sound Kx 85 VD:=ac (C:=aah) (O:=O0) Tryz.func85 (by kernel_rfl) fun args objs=>by
 unfold VD;split
 · exact .inr (by kernel_rfl)
 · exact .inl rfl
def JX: Br:=(.ret (AV.ref 0 0) [.arr Ty.str 0 false (List.set (List.set (List.set (List.replicate 3 ([]: aa)) 0 ([99,111,110,116,101,110,116,45,108,101,110,103,116,104]: aa)) 1 ([116,114,97,110,115,102,101,114,45,101,110,99,111,100,105,110,103]: aa)) 2 ([116,114,97,105,108,101,114]: aa))])
def Ah: List AV→List Ob→Br
 | [],[]=>JX
 | _,_=> .fail
theorem JY: Sound Kx 171 Ah:=ac (C:=[]) (O:=O0) Tryz.func171 (by kernel_rfl) fun args objs=>by
 unfold Ah;split
 · exact .inr (by kernel_rfl)
 · exact .inl rfl
def aai: SC:=[⟨48,_,qX⟩]
def Dt (l: List Fd) (name: aa): Br:=(.ite (isM name) (.ite (decide (((List.length (dp l name)): Int)=0)) (.ret (AV.tup [.str ([]: aa),.bool false]) []) (.ite (decide (0 < ((List.length (dp l name)): Int))) (.ret (AV.tup [.str (List.getD (dp l name) 0 ([]: aa)),.bool true]) []) .fail)) .fail)
def VE: List AV→List Ob→Br
 | [.sh (.pair .str .str) l, .str name],[]=>Dt l name
 | _,_=> .fail
theorem sGet_ok: Sound Kx 82 VE:=ac (C:=aai) (O:=O0) Tryz.func82 (by kernel_rfl) fun args objs=>by
 unfold VE;split
 · exact .inr (by kernel_rfl)
 · exact .inl rfl
theorem GQ (d: Int) (h0: 0≤d) (h: d < 10): bP (List.set (List.replicate 1 (0 : Int)) 0 (wk8 (ad (48 + d))))=[UInt8.ofNat (48 + d.toNat)]:=by
 rw [w64 (by omega) (by omega),w8 (by omega) (by omega),ci]
 show [UInt8.ofNat (48 + d).toNat]=_
 rw [show (48 + d).toNat=48 + d.toNat by omega]
theorem acJ: ∀ k,Sound Kx 191 (aaf k):=by
 intro k;induction k with
 | zero=>exact aag
 | succ k ih=>
   refine qh (C:=NK k) (O:=O0) KOk (yT (FI Kx) ih) Tryz.func191 (by kernel_rfl) fun args objs res os h=>?_
   unfold aaf at h
   split at h
   · rename_i n
     refine ⟨1,(NL k n).trans ?_⟩
     obtain ⟨h1,h2⟩:=ae h
     cases h2
     rw [Bool.and_eq_true,decide_eq_true_eq] at h1
     obtain ⟨hn,hk⟩:=h1
     have hn':=hn
     simp only [bw,Bool.and_eq_true,decide_eq_true_eq] at hn'
     unfold GP
     refine (eh (dF' (by omega))).trans ((eh (dF' (by omega))).trans ?_)
     by_cases c: n < 10
     · refine (bQ (dT' c)).trans ?_
       rw [GQ n hn'.1 c,cK,Lib.decDigits,dif_pos (by omega)]
       rfl
     · have e1: ad (Int.tdiv n 10)=((n.toNat / 10 : Nat): Int):=by
        rw [Int.tdiv_eq_ediv_of_nonneg hn'.1,w64 (by omega) (by omega)];omega
       have e2: Int.tmod n 10=((n.toNat % 10 : Nat): Int):=by
        rw [Int.tmod_eq_emod_of_nonneg hn'.1];omega
       rw [e1,e2]
       have hq: bw ((n.toNat / 10 : Nat): Int)=true:=by simp only [bw,Bool.and_eq_true,decide_eq_true_eq];omega
       have hl:=ib _ hq
       rw [GQ ((n.toNat % 10 : Nat): Int) (by omega) (by omega)]
       refine (eh (dF' c)).trans ((bQ ?_).trans ((bQ ?_).trans ?_))
       · rw [hq,Bool.true_and];exact dT' (by omega)
       · exact dT' (by simp only [List.length_singleton];omega)
       · rw [cK,cK,Lib.decDigits.eq_1 n.toNat,dif_neg (by omega)]
         simp only [Int.toNat_natCast]
         rfl
   · cases h
def aaj: List AV→List Ob→Br
 | [.int .i64 n],[]=> .ite (bw n) (.ret (.str (bR n)) []) .fail
 | _,_=> .fail
theorem mR: Sound Kx 191 aaj:=(acJ 1000000000000000).of fun args objs r h=>by
 unfold aaj at h
 split at h
 · rename_i n
   obtain ⟨h1,h2⟩:=ae h
   refine (bQ ?_).trans h2
   rw [h1,Bool.true_and]
   simp only [bw,Bool.and_eq_true,decide_eq_true_eq] at h1
   exact dT' (by omega)
 · cases h
def go (l: List Fd) (name: aa): Bool:=decide (0 < (dp l name).length)
def VF: List AV→List Ob→Br
 | [.sh (.pair .str .str) l, .str name],[]=> .ite (isM name) (.ret (.bool (go l name)) []) .fail
 | _,_=> .fail
theorem GR: Sound Kx 85 VF:=iHas_ok.of fun args objs r h=>by
 unfold VF at h
 split at h
 · rename_i l name
   obtain ⟨h1,h2⟩:=ae h
   cases h2
   show (Ds l name).val=_
   unfold Ds go
   refine (bQ h1).trans ?_
   simp only [Int.natCast_pos]
   rfl
 · cases h
def wA: List AV→List Ob→Br
 | [.sh (.pair .str .str) l, .str name],[]=> .ite (isM name) (.ret (.tup [.str ((dp l name).getD 0 []), .bool (go l name)]) []) .fail
 | _,_=> .fail
theorem S5: Sound Kx 82 wA:=sGet_ok.of fun args objs r h=>by
 unfold wA at h
 split at h
 · rename_i l name
   obtain ⟨h1,h2⟩:=ae h
   cases h2
   show (Dt l name).val=_
   unfold Dt go
   refine (bQ h1).trans ?_
   cases hv: dp l name with
   | nil=>rfl
   | cons a r=>
     refine (eh ?_).trans ((bQ ?_).trans ?_)
     · exact dF' (by simp only [List.length_cons];omega)
     · exact dT' (by simp only [List.length_cons];omega)
     · rw [show decide (0 < (a::r).length)=true from dT' (by simp)];rfl
 · cases h
def S6: SC:=[⟨71,_,cJ⟩,⟨148,_,tL⟩]
abbrev rk (s: List UInt8) (code: List Int) (i h: Int):=(Br.ite (decide ((bi (ad ((s.length: Int) + 1)) code i h) < (s.length: Int))) (Br.ite (decide (0≤(bi (ad ((s.length: Int) + 1)) code i h))) (Br.ite (decide ((bi (ad ((s.length: Int) + 1)) code i h) < ((List.length (bytesOf s)): Int))) (Br.ite (okC code (al 4 code (al (ad ((s.length: Int) + 1)) code i))) (Br.ite (!(decide ((bi 8 code (al 4 code (al (ad ((s.length: Int) + 1)) code i)) (av 4 (av (ad ((s.length: Int) + 1)) h))) < 0))) (Br.ite (decide (0≤(bi (ad ((s.length: Int) + 1)) code i h))) (Br.ite (decide ((bi (ad ((s.length: Int) + 1)) code i h) < ((List.length (bytesOf s)): Int))) (Br.ret (AV.str (bP (List.set (bytesOf s) (Int.toNat (bi (ad ((s.length: Int) + 1)) code i h)) (wkk .u8 (((BitVec.toNat ((BitVec.ofInt 8 (List.getD (bytesOf s) (Int.toNat (bi (ad ((s.length: Int) + 1)) code i h)) 0)) ^^^ (BitVec.ofInt 8 (wk8 (1 * (2 ^ (min (Int.toNat (bi 8 code (al 4 code (al (ad ((s.length: Int) + 1)) code i)) (av 4 (av (ad ((s.length: Int) + 1)) h)))) 8))))))): Nat): Int))))) ((Ob.var ((AV.sh (Ty.int .u8) code)::((AV.int .i64 (al 8 code (al 4 code (al (ad ((s.length: Int) + 1)) code i))))::((AV.int .i64 (av 8 (av 4 (av (ad ((s.length: Int) + 1)) h))))::[]))))::[])) Br.fail) Br.fail) Br.fail) Br.fail) Br.fail) Br.fail) (Br.ite (decide ((s.length + 1)≤9223372036854775807)) (Br.ret (AV.str (s++([48]: aa))) ((Ob.var ((AV.sh (Ty.int .u8) code)::((AV.int .i64 (al 4 code (al (ad ((s.length: Int) + 1)) code i)))::((AV.int .i64 (av 4 (av (ad ((s.length: Int) + 1)) h)))::[]))))::[])) Br.fail))
abbrev bj (s: List UInt8) (code: List Int) (i h: Int):=(bi (ad ((s.length: Int) + 1)) code i h)
abbrev lE (s: List UInt8) (code: List Int) (i h: Int):=(bP (List.set (List.replicate 1 0) 0 (wk8 (f0 code (al 4 code (al (ad ((s.length: Int) + 1)) code i)) (av 4 (av (ad ((s.length: Int) + 1)) h))))))
def iS (s: List UInt8) (code: List Int) (i h: Int): Br:=(.ite (okC code i) (.ite (okC code (al (ad ((s.length: Int) + 1)) code i)) (.ite (decide ((bi 4 code (al (ad ((s.length: Int) + 1)) code i) (av (ad ((s.length: Int) + 1)) h))=0)) (.ite (decide (0≤(bj s code i h))) (.ite (decide ((bj s code i h)≤(s.length: Int))) (.ite (okC code (al 4 code (al (ad ((s.length: Int) + 1)) code i))) (.ite (decide (((List.length (cut s 0 (bj s code i h))) + (List.length (lE s code i h)))≤9223372036854775807)) (.ite (decide (0≤(bj s code i h))) (.ite (decide ((bj s code i h)≤(s.length: Int))) (.ite (decide (((List.length ((cut s 0 (bj s code i h))++(lE s code i h))) + (List.length (cut s (bj s code i h) (s.length: Int))))≤9223372036854775807)) (.ret (AV.str (((cut s 0 (bj s code i h))++(lE s code i h))++(cut s (bj s code i h) (s.length: Int)))) [.var [.sh (Ty.int .u8) code,.int .i64 (cn code (al 4 code (al (ad ((s.length: Int) + 1)) code i))),.int .i64 (mix (av 4 (av (ad ((s.length: Int) + 1)) h)))]]) .fail) .fail) .fail) .fail) .fail) .fail) .fail) (.ite (decide ((bi 4 code (al (ad ((s.length: Int) + 1)) code i) (av (ad ((s.length: Int) + 1)) h))=1)) (.ite (decide (0≤(bj s code i h))) (.ite (decide ((bj s code i h)≤(s.length: Int))) (.ret (AV.str (cut s 0 (bj s code i h))) [.var [.sh (Ty.int .u8) code,.int .i64 (al 4 code (al (ad ((s.length: Int) + 1)) code i)),.int .i64 (av 4 (av (ad ((s.length: Int) + 1)) h))]]) .fail) .fail) (.ite (decide ((bi 4 code (al (ad ((s.length: Int) + 1)) code i) (av (ad ((s.length: Int) + 1)) h))=2)) (.ite (decide ((bj s code i h) < (s.length: Int))) (.ite (decide (0≤(bj s code i h))) (.ite (decide ((bj s code i h)≤(s.length: Int))) (.ite (decide (0≤(ad ((bj s code i h) + 1)))) (.ite (decide ((ad ((bj s code i h) + 1))≤(s.length: Int))) (.ite (decide (((List.length (cut s 0 (bj s code i h))) + (List.length (cut s (ad ((bj s code i h) + 1)) (s.length: Int))))≤9223372036854775807)) (.ret (AV.str ((cut s 0 (bj s code i h))++(cut s (ad ((bj s code i h) + 1)) (s.length: Int)))) [.var [.sh (Ty.int .u8) code,.int .i64 (al 4 code (al (ad ((s.length: Int) + 1)) code i)),.int .i64 (av 4 (av (ad ((s.length: Int) + 1)) h))]]) .fail) .fail) .fail) .fail) .fail) (rk s code i h)) (rk s code i h)))) .fail) .fail)
def GS: List AV→List Ob→Br
 | [.ptr 0 0, .str s],[.var [.sh (.int .u8) code, .int .i64 i, .int .i64 h]]=>iS s code i h
 | _,_=> .fail
theorem NM: Sound Kx 147 GS:=ac (C:=S6) (O:=O0) Tryz.func147 (by kernel_rfl) fun args objs=>by
 unfold GS;split
 · exact .inr (by kernel_rfl)
 · exact .inl rfl
def NN: SC:=[⟨71,_,cJ⟩,⟨72,_,MO⟩,⟨191,_,mR⟩]
abbrev cR (code: List Int) (i h: Int):=(ofI (ad (1 + (bi 3 code (al 12 code i) (av 12 h)))) ([97,66,45]: aa) code (al 3 code (al 12 code i)) (av 3 (av 12 h)))
abbrev dC (code: List Int) (i h: Int):=(ofH (ad (1 + (bi 3 code (al 12 code i) (av 12 h)))) ([97,66,45]: aa) code (al 3 code (al 12 code i)) (av 3 (av 12 h)))
def gp (code: List Int) (i h: Int): Br:=(.ite (okC code i) (.ite (decide ((bi 12 code i h)=0)) (.ite (okC code (al 12 code i)) (.ite (bw (bi 60 code (al 12 code i) (av 12 h))) (.ite (decide ((8 + (List.length (bR (bi 60 code (al 12 code i) (av 12 h)))))≤9223372036854775807)) (.ret (AV.agg [.str ([67,97,99,104,101,45,67,111,110,116,114,111,108]: aa),.str (([109,97,120,45,97,103,101,61]: aa)++(bR (bi 60 code (al 12 code i) (av 12 h))))]) [.var [.sh (Ty.int .u8) code,.int .i64 (al 60 code (al 12 code i)),.int .i64 (av 60 (av 12 h))]]) .fail) .fail) .fail) (.ite (decide ((bi 12 code i h)=1)) (.ite (((okC code (al 12 code i))&&true)&&true) (.ite (decide ((1 + (List.length (ofS 1 ([97,98,99]: aa) code (al 12 code i) (av 12 h))))≤9223372036854775807)) (.ite (decide (((List.length (([34]: aa)++(ofS 1 ([97,98,99]: aa) code (al 12 code i) (av 12 h)))) + 1)≤9223372036854775807)) (.ret (AV.agg [.str ([69,84,97,103]: aa),.str ((([34]: aa)++(ofS 1 ([97,98,99]: aa) code (al 12 code i) (av 12 h)))++([34]: aa))]) [.var [.sh (Ty.int .u8) code,.int .i64 (ofI 1 ([97,98,99]: aa) code (al 12 code i) (av 12 h)),.int .i64 (ofH 1 ([97,98,99]: aa) code (al 12 code i) (av 12 h))]]) .fail) .fail) .fail) (.ite (decide ((bi 12 code i h)=2)) (.ret (AV.agg [.str ([86,97,114,121]: aa),.str ([65,99,99,101,112,116]: aa)]) [.var [.sh (Ty.int .u8) code,.int .i64 (al 12 code i),.int .i64 (av 12 h)]]) (.ite (decide ((bi 12 code i h)=3)) (.ite (((okC code (al 12 code i))&&true)&&true) (.ret (AV.agg [.str ([65,99,99,101,112,116]: aa),.str (ofS 1 ([97,98]: aa) code (al 12 code i) (av 12 h))]) [.var [.sh (Ty.int .u8) code,.int .i64 (ofI 1 ([97,98]: aa) code (al 12 code i) (av 12 h)),.int .i64 (ofH 1 ([97,98]: aa) code (al 12 code i) (av 12 h))]]) .fail) (.ite (decide ((bi 12 code i h)=4)) (.ret (AV.agg [.str ([67,111,110,110,101,99,116,105,111,110]: aa),.str ([99,108,111,115,101]: aa)]) [.var [.sh (Ty.int .u8) code,.int .i64 (al 12 code i),.int .i64 (av 12 h)]]) (.ite (okC code (al 12 code i)) (.ite (((okC code (al 3 code (al 12 code i)))&&(decide ((ad (1 + (bi 3 code (al 12 code i) (av 12 h))))≤1000000)))&&true) (.ite (okC code (cR code i h)) (.ite (((okC code (al 5 code (cR code i h)))&&(decide ((bi 5 code (cR code i h) (dC code i h))≤1000000)))&&true) (.ret (AV.agg [.str (ofS (ad (1 + (bi 3 code (al 12 code i) (av 12 h)))) ([97,66,45]: aa) code (al 3 code (al 12 code i)) (av 3 (av 12 h))),.str (ofS (bi 5 code (cR code i h) (dC code i h)) ([97,98,49,61]: aa) code (al 5 code (cR code i h)) (av 5 (dC code i h)))]) [.var [.sh (Ty.int .u8) code,.int .i64 (ofI (bi 5 code (cR code i h) (dC code i h)) ([97,98,49,61]: aa) code (al 5 code (cR code i h)) (av 5 (dC code i h))),.int .i64 (ofH (bi 5 code (cR code i h) (dC code i h)) ([97,98,49,61]: aa) code (al 5 code (cR code i h)) (av 5 (dC code i h)))]]) .fail) .fail) .fail) .fail)))))) .fail)
def Ai: List AV→List Ob→Br
 | [.ptr 0 0],[.var [.sh (.int .u8) code, .int .i64 i, .int .i64 h]]=>gp code i h
 | _,_=> .fail
theorem JZ: Sound Kx 193 Ai:=ac (C:=NN) (O:=O0) Tryz.func193 (by kernel_rfl) fun args objs=>by
 unfold Ai;split
 · exact .inr (by kernel_rfl)
 · exact .inl rfl
def NO: Opt:={ live:=[(5,[1,3,4])],outs:=[(5,[1,2,3])],split:=true }
def sHead_C: SC:=[⟨191,_,mR⟩,⟨192,_,tc⟩]
def pl (aY: aa) (a8: Int) (bc cH: aa) (dx: Int) (e8: aa) (e9: Bool) (dj: (List Fd)) (kM: aa) (kR5: aa→Int→aa→aa→Int→aa→Bool→(List Fd)→aa→OR') (dh: aa→aa→aa→Int→aa→Bool→(List Fd)→aa→OR'): OR':=
 (bif (decide (a8 < (dj.length: Int))) then (bif (decide (0≤a8)) then (bif (decide (a8 < (dj.length: Int))) then (bif (decide ((aY.length + (List.length (bif (hO ((List.getD dj (Int.toNat a8) (([]: aa),([]: aa))).1,(List.getD dj (Int.toNat a8) (([]: aa),([]: aa))).2)) then (iR ((List.getD dj (Int.toNat a8) (([]: aa),([]: aa))).1,(List.getD dj (Int.toNat a8) (([]: aa),([]: aa))).2)) else ([]: aa))))≤9223372036854775807)) then (bif (decide (((List.length (aY++(bif (hO ((List.getD dj (Int.toNat a8) (([]: aa),([]: aa))).1,(List.getD dj (Int.toNat a8) (([]: aa),([]: aa))).2)) then (iR ((List.getD dj (Int.toNat a8) (([]: aa),([]: aa))).1,(List.getD dj (Int.toNat a8) (([]: aa),([]: aa))).2)) else ([]: aa)))) + 2)≤9223372036854775807)) then (kR5 ((aY++(bif (hO ((List.getD dj (Int.toNat a8) (([]: aa),([]: aa))).1,(List.getD dj (Int.toNat a8) (([]: aa),([]: aa))).2)) then (iR ((List.getD dj (Int.toNat a8) (([]: aa),([]: aa))).1,(List.getD dj (Int.toNat a8) (([]: aa),([]: aa))).2)) else ([]: aa)))++([13,10]: aa)) (ad (a8 + 1)) bc cH dx e8 e9 dj kM) else none) else none) else none) else none) else (dh aY bc cH dx e8 e9 dj kM))
def fP: Nat→aa→Int→aa→aa→Int→aa→Bool→(List Fd)→aa→(aa→aa→aa→Int→aa→Bool→(List Fd)→aa→OR')→OR'
 | 0,_,_,_,_,_,_,_,_,_,_=>none
 | n + 1,aY,a8,bc,cH,dx,e8,e9,dj,kM,dh=>pl aY a8 bc cH dx e8 e9 dj kM (fun aY a8 bc cH dx e8 e9 dj kM=>fP n aY a8 bc cH dx e8 e9 dj kM dh) dh
abbrev sHead_p5: SP:=⟨68,[1,3,4],[(.v (.ptr 128 0)),(.v .s),(.v (.i .i64))],[(128, .var [.s, .s,(.i .i64), .s, .b,(.sh (Ty.pair Ty.str Ty.str)), .s])]⟩
noncomputable def GT: Code:=ar (aC Tryz.f113) [1,1,1,0,1,0,0]
def GU (f: (aa→aa→aa→Int→aa→Bool→(List Fd)→aa→OR')→OR') (k: KT): OR':=f (fun ai bJ cy ed dU cZ dV bv=>k (Ex.exit 0) ((St.mk (aA 0 68 [(1,(AV.ptr 128 0)),(3,(AV.str ai))]) ((128,(Ob.var [.str bJ,.str cy,.int .i64 ed,.str dU,.bool cZ,.sh (Ty.pair Ty.str Ty.str) dV,.str bv]))::([]: (List (Nat×(Ob))))))))
def GV (n: Nat) (d: sHead_p5.D): KT→OR':=GU (fP n d.1.2.1 d.1.2.2.1 d.2.1.1 d.2.1.2.1 d.2.1.2.2.1 d.2.1.2.2.2.1 d.2.1.2.2.2.2.1 d.2.1.2.2.2.2.2.1 d.2.1.2.2.2.2.2.2.1)
def NP (N: Nat): Lam:=bI [⟨5,sHead_p5,GV N⟩]
theorem NQ (N: Nat): OkL Kx sHead_C.s NO 0 N (NP N) GT:=okL sHead_p5 (GV) (fun d kR=>GU (pl d.1.2.1 d.1.2.2.1 d.2.1.1 d.2.1.2.1 d.2.1.2.2.1 d.2.1.2.2.2.1 d.2.1.2.2.2.2.1 d.2.1.2.2.2.2.2.1 d.2.1.2.2.2.2.2.2.1 (fun aY a8 bc cH dx e8 e9 dj kM=>kR (((),aY,a8,()),((bc,cH,dx,e8,e9,dj,kM,()),()))))) (fun _ _=>by kernel_rfl) (fun _ _ _=>by kernel_rfl) (fun _ _=>by kernel_rfl) (fun _ _ _ _=>by kernel_rfl) (af (l':=[]) (by kernel_rfl) trivial)
abbrev bx (ai):=(ai++([67,111,110,116,101,110,116,45,76,101,110,103,116,104,58,32]: aa))
def Aj (N: Nat) (me ta: aa) (st: Int) (re: aa) (ba: Bool) (fs: List Fd) (bo: aa): OR':=(bif (decide ((me.length + 1)≤9223372036854775807)) then (bif (decide (((List.length (me++([32]: aa))) + ta.length)≤9223372036854775807)) then (bif (decide (((List.length ((me++([32]: aa))++ta)) + 11)≤9223372036854775807)) then (bif (decide (me=([]: aa))) then (bif (bw st) then (bif (decide ((9 + (List.length (bR st)))≤9223372036854775807)) then (bif (decide (((List.length (([72,84,84,80,47,49,46,49,32]: aa)++(bR st))) + 1)≤9223372036854775807)) then (bif (decide (((List.length ((([72,84,84,80,47,49,46,49,32]: aa)++(bR st))++([32]: aa))) + re.length)≤9223372036854775807)) then (bif (decide (((List.length (((([72,84,84,80,47,49,46,49,32]: aa)++(bR st))++([32]: aa))++re)) + 2)≤9223372036854775807)) then (fP N ((((([72,84,84,80,47,49,46,49,32]: aa)++(bR st))++([32]: aa))++re)++([13,10]: aa)) 0 me ta st re ba fs bo (fun ai bJ cy ed dU cZ dV bv=>(bif (!(decide (bJ=([]: aa)))) then (bif (!(decide (bv=([]: aa)))) then (bif (decide ((ai.length + 16)≤9223372036854775807)) then (bif (bw (bv.length: Int)) then (bif (decide (((List.length (bx ai)) + (List.length (bR (bv.length: Int))))≤9223372036854775807)) then (bif (decide (((List.length ((bx ai)++(bR (bv.length: Int)))) + 2)≤9223372036854775807)) then (bif (decide (((List.length (((bx ai)++(bR (bv.length: Int)))++([13,10]: aa))) + 2)≤9223372036854775807)) then (some ((AV.str ((((bx ai)++(bR (bv.length: Int)))++([13,10]: aa))++([13,10]: aa))),[])) else none) else none) else none) else none) else none) else (bif (decide (bJ=([]: aa))) then (bif (!cZ) then (bif (decide ((ai.length + 16)≤9223372036854775807)) then (bif (bw (bv.length: Int)) then (bif (decide (((List.length (bx ai)) + (List.length (bR (bv.length: Int))))≤9223372036854775807)) then (bif (decide (((List.length ((bx ai)++(bR (bv.length: Int)))) + 2)≤9223372036854775807)) then (bif (decide (((List.length (((bx ai)++(bR (bv.length: Int)))++([13,10]: aa))) + 2)≤9223372036854775807)) then (some ((AV.str ((((bx ai)++(bR (bv.length: Int)))++([13,10]: aa))++([13,10]: aa))),[])) else none) else none) else none) else none) else none) else (bif (decide ((ai.length + 2)≤9223372036854775807)) then (some ((AV.str (ai++([13,10]: aa))),[])) else none)) else (bif (decide ((ai.length + 2)≤9223372036854775807)) then (some ((AV.str (ai++([13,10]: aa))),[])) else none))) else (bif (decide (bJ=([]: aa))) then (bif (!cZ) then (bif (decide ((ai.length + 16)≤9223372036854775807)) then (bif (bw (bv.length: Int)) then (bif (decide (((List.length (bx ai)) + (List.length (bR (bv.length: Int))))≤9223372036854775807)) then (bif (decide (((List.length ((bx ai)++(bR (bv.length: Int)))) + 2)≤9223372036854775807)) then (bif (decide (((List.length (((bx ai)++(bR (bv.length: Int)))++([13,10]: aa))) + 2)≤9223372036854775807)) then (some ((AV.str ((((bx ai)++(bR (bv.length: Int)))++([13,10]: aa))++([13,10]: aa))),[])) else none) else none) else none) else none) else none) else (bif (decide ((ai.length + 2)≤9223372036854775807)) then (some ((AV.str (ai++([13,10]: aa))),[])) else none)) else (bif (decide ((ai.length + 2)≤9223372036854775807)) then (some ((AV.str (ai++([13,10]: aa))),[])) else none))))) else none) else none) else none) else none) else none) else (fP N (((me++([32]: aa))++ta)++([32,72,84,84,80,47,49,46,49,13,10]: aa)) 0 me ta st re ba fs bo (fun ai bJ cy ed dU cZ dV bv=>(bif (!(decide (bJ=([]: aa)))) then (bif (!(decide (bv=([]: aa)))) then (bif (decide ((ai.length + 16)≤9223372036854775807)) then (bif (bw (bv.length: Int)) then (bif (decide (((List.length (bx ai)) + (List.length (bR (bv.length: Int))))≤9223372036854775807)) then (bif (decide (((List.length ((bx ai)++(bR (bv.length: Int)))) + 2)≤9223372036854775807)) then (bif (decide (((List.length (((bx ai)++(bR (bv.length: Int)))++([13,10]: aa))) + 2)≤9223372036854775807)) then (some ((AV.str ((((bx ai)++(bR (bv.length: Int)))++([13,10]: aa))++([13,10]: aa))),[])) else none) else none) else none) else none) else none) else (bif (decide (bJ=([]: aa))) then (bif (!cZ) then (bif (decide ((ai.length + 16)≤9223372036854775807)) then (bif (bw (bv.length: Int)) then (bif (decide (((List.length (bx ai)) + (List.length (bR (bv.length: Int))))≤9223372036854775807)) then (bif (decide (((List.length ((bx ai)++(bR (bv.length: Int)))) + 2)≤9223372036854775807)) then (bif (decide (((List.length (((bx ai)++(bR (bv.length: Int)))++([13,10]: aa))) + 2)≤9223372036854775807)) then (some ((AV.str ((((bx ai)++(bR (bv.length: Int)))++([13,10]: aa))++([13,10]: aa))),[])) else none) else none) else none) else none) else none) else (bif (decide ((ai.length + 2)≤9223372036854775807)) then (some ((AV.str (ai++([13,10]: aa))),[])) else none)) else (bif (decide ((ai.length + 2)≤9223372036854775807)) then (some ((AV.str (ai++([13,10]: aa))),[])) else none))) else (bif (decide (bJ=([]: aa))) then (bif (!cZ) then (bif (decide ((ai.length + 16)≤9223372036854775807)) then (bif (bw (bv.length: Int)) then (bif (decide (((List.length (bx ai)) + (List.length (bR (bv.length: Int))))≤9223372036854775807)) then (bif (decide (((List.length ((bx ai)++(bR (bv.length: Int)))) + 2)≤9223372036854775807)) then (bif (decide (((List.length (((bx ai)++(bR (bv.length: Int)))++([13,10]: aa))) + 2)≤9223372036854775807)) then (some ((AV.str ((((bx ai)++(bR (bv.length: Int)))++([13,10]: aa))++([13,10]: aa))),[])) else none) else none) else none) else none) else none) else (bif (decide ((ai.length + 2)≤9223372036854775807)) then (some ((AV.str (ai++([13,10]: aa))),[])) else none)) else (bif (decide ((ai.length + 2)≤9223372036854775807)) then (some ((AV.str (ai++([13,10]: aa))),[])) else none)))))) else none) else none) else none)
def Ak (φ: aa→aa→Int→aa→Bool→(List Fd)→aa→Br): List AV→List Ob→Br
 | [.agg [.str me, .str ta, .int .i64 st, .str re, .bool ba, .sh (.pair .str .str) fs, .str bo]],[]=>φ me ta st re ba fs bo
 | _,_=> .fail
theorem J0 {φ: aa→aa→Int→aa→Bool→(List Fd)→aa→Br} (fu: aa→aa→Int→aa→Bool→(List Fd)→aa→Nat) (hv: ∀ me ta st re ba fs bo res_,(φ me ta st re ba fs bo).val=some res_→Aj (fu me ta st re ba fs bo) me ta st re ba fs bo=some res_): Sound Kx 113 (Ak φ):=ah (C:=sHead_C) (O:=NO) Tryz.func113 (by kernel_rfl) fun args objs=>by
 unfold Ak;split
 · rename_i me ta st re ba fs bo;exact .inr fun _ hyp_=>aL (Λ:=NP (fu me ta st re ba fs bo)) (by kernel_rfl) (af (l':=[GT]) (by kernel_rfl) ⟨NQ _,trivial⟩) (by kernel_rfl) (hv me ta st re ba fs bo _ hyp_)
 · exact .inl rfl
def GW: Opt:={ live:=[(4,[1,21,22,23])],outs:=[(4,[1,2])] }
def iMsgOk_C: SC:=[⟨84,_,dM⟩,⟨171,_,JY⟩,⟨85,_,GR⟩,⟨172,_,zM⟩,⟨173,_,zH⟩,⟨174,_,zf⟩,⟨175,_,zG⟩,⟨176,_,oO⟩,⟨177,_,S4⟩]
def rl (bp bm: Int) (bW d7: aa) (kW: Int) (Cf: aa) (xY: Bool) (yf: (List Fd)) (Cg: aa) (yg: (List aa)) (kR4: Int→Int→aa→aa→Int→aa→Bool→(List Fd)→aa→(List aa)→OR') (d_ ir: aa→aa→Int→aa→Bool→(List Fd)→aa→OR'): OR':=
 (bif (decide (bm < bp)) then (bif (decide (0≤bm)) then (bif (decide (bm < (yg.length: Int))) then (bif (isM (List.getD yg (Int.toNat bm) ([]: aa))) then (bif (go yf (List.getD yg (Int.toNat bm) ([]: aa))) then (d_ bW d7 kW Cf xY yf Cg) else (kR4 bp (ad (bm + 1)) bW d7 kW Cf xY yf Cg yg)) else none) else none) else none) else (ir bW d7 kW Cf xY yf Cg))
def gq: Nat→Int→Int→aa→aa→Int→aa→Bool→(List Fd)→aa→(List aa)→(aa→aa→Int→aa→Bool→(List Fd)→aa→OR')→(aa→aa→Int→aa→Bool→(List Fd)→aa→OR')→OR'
 | 0,_,_,_,_,_,_,_,_,_,_,_,_=>none
 | n + 1,bp,bm,bW,d7,kW,Cf,xY,yf,Cg,yg,d_,ir=>rl bp bm bW d7 kW Cf xY yf Cg yg (fun bp bm bW d7 kW Cf xY yf Cg yg=>gq n bp bm bW d7 kW Cf xY yf Cg yg d_ ir) d_ ir
abbrev iMsgOk_p4: SP:=⟨97,[1,21,22,23],[(.v (.ptr 128 0)),(.v (.ref 1408 0)),(.v (.i .i64)),(.v (.i .i64))],[(128, .var [.s, .s,(.i .i64), .s, .b,(.sh (Ty.pair Ty.str Ty.str)), .s]),(1408, .arr Ty.str 0 false)]⟩
noncomputable def Al: Code:=ar (aC Tryz.f101) [1,1,0,1,0,0]
def Am (f: (aa→aa→Int→aa→Bool→(List Fd)→aa→OR')→(aa→aa→Int→aa→Bool→(List Fd)→aa→OR')→OR') (k: KT): OR':=f (fun eH Wr Ws Wt Wu Wv Ww=>k Ex.ret ((St.mk (aA 0 97 [(1,(AV.ptr 128 0)),(2,(AV.bool false))]) ((128,(Ob.var [.str eH,.str Wr,.int .i64 Ws,.str Wt,.bool Wu,.sh (Ty.pair Ty.str Ty.str) Wv,.str Ww]))::([]: (List (Nat×(Ob)))))))) (fun c_ fX eS fY i6 iu gK=>k (Ex.exit 0) ((St.mk (aA 0 97 [(1,(AV.ptr 128 0))]) ((128,(Ob.var [.str c_,.str fX,.int .i64 eS,.str fY,.bool i6,.sh (Ty.pair Ty.str Ty.str) iu,.str gK]))::([]: (List (Nat×(Ob))))))))
def An (n: Nat) (d: iMsgOk_p4.D): KT→OR':=Am (gq n d.1.2.2.1 d.1.2.2.2.1 d.2.1.1 d.2.1.2.1 d.2.1.2.2.1 d.2.1.2.2.2.1 d.2.1.2.2.2.2.1 d.2.1.2.2.2.2.2.1 d.2.1.2.2.2.2.2.2.1 d.2.2.1)
def GX (N: Nat): Lam:=bI [⟨4,iMsgOk_p4,An N⟩]
theorem J1 (N: Nat): OkL Kx iMsgOk_C.s GW 0 N (GX N) Al:=okL iMsgOk_p4 (An) (fun d kR=>Am (rl d.1.2.2.1 d.1.2.2.2.1 d.2.1.1 d.2.1.2.1 d.2.1.2.2.1 d.2.1.2.2.2.1 d.2.1.2.2.2.2.1 d.2.1.2.2.2.2.2.1 d.2.1.2.2.2.2.2.2.1 d.2.2.1 (fun bp bm bW d7 kW Cf xY yf Cg yg=>kR (((),(),bp,bm,()),((bW,d7,kW,Cf,xY,yf,Cg,()),yg,()))))) (fun _ _=>by kernel_rfl) (fun _ _ _=>by kernel_rfl) (fun _ _=>by kernel_rfl) (fun _ _ _ _=>by kernel_rfl) (af (l':=[]) (by kernel_rfl) trivial)
def uy (N: Nat) (me ta: aa) (st: Int) (re: aa) (ba: Bool) (fs: List Fd) (bo: aa): OR':=(bif (!(co fs)) then (some ((AV.bool false),[])) else (bif (decide (20≤(fs.length: Int))) then (some ((AV.bool false),[])) else (bif (decide (600 < (bo.length: Int))) then (some ((AV.bool false),[])) else (gq N 3 0 me ta st re ba fs bo (List.set (List.set (List.set (List.replicate 3 ([]: aa)) 0 ([99,111,110,116,101,110,116,45,108,101,110,103,116,104]: aa)) 1 ([116,114,97,110,115,102,101,114,45,101,110,99,111,100,105,110,103]: aa)) 2 ([116,114,97,105,108,101,114]: aa)) (fun eH Wr Ws Wt Wu Wv Ww=>(some ((AV.bool false),[]))) (fun c_ fX eS fY i6 iu gK=>(bif (!(decide (c_=([]: aa)))) then (bif (!(kn c_)) then (some ((AV.bool false),[])) else (bif (!(kb fX)) then (some ((AV.bool false),[])) else (bif (!(decide (eS=0))) then (some ((AV.bool false),[])) else (bif (!(decide (fY=([]: aa)))) then (some ((AV.bool false),[])) else (bif i6 then (some ((AV.bool false),[])) else (bif (hdG c_ fX eS fY iu gK) then (some ((AV.bool (decide (((List.length (ic c_ fX eS fY i6 iu gK)): Int)≤1500))),[])) else none)))))) else (bif (!(decide (fX=([]: aa)))) then (some ((AV.bool false),[])) else (bif (!(Jv eS)) then (some ((AV.bool false),[])) else (bif (!(ka fY)) then (some ((AV.bool false),[])) else (bif i6 then (bif (!(decide (gK=([]: aa)))) then (some ((AV.bool false),[])) else (bif (wa eS) then (bif (!i6) then (some ((AV.bool false),[])) else (bif (hdG c_ fX eS fY iu gK) then (some ((AV.bool (decide (((List.length (ic c_ fX eS fY i6 iu gK)): Int)≤1500))),[])) else none)) else (bif (hdG c_ fX eS fY iu gK) then (some ((AV.bool (decide (((List.length (ic c_ fX eS fY i6 iu gK)): Int)≤1500))),[])) else none))) else (bif (wa eS) then (bif (!i6) then (some ((AV.bool false),[])) else (bif (hdG c_ fX eS fY iu gK) then (some ((AV.bool (decide (((List.length (ic c_ fX eS fY i6 iu gK)): Int)≤1500))),[])) else none)) else (bif (hdG c_ fX eS fY iu gK) then (some ((AV.bool (decide (((List.length (ic c_ fX eS fY i6 iu gK)): Int)≤1500))),[])) else none))))))))))))
def uz (φ: aa→aa→Int→aa→Bool→(List Fd)→aa→Br): List AV→List Ob→Br
 | [.agg [.str me, .str ta, .int .i64 st, .str re, .bool ba, .sh (.pair .str .str) fs, .str bo]],[]=>φ me ta st re ba fs bo
 | _,_=> .fail
theorem Du {φ: aa→aa→Int→aa→Bool→(List Fd)→aa→Br} (fu: aa→aa→Int→aa→Bool→(List Fd)→aa→Nat) (hv: ∀ me ta st re ba fs bo res_,(φ me ta st re ba fs bo).val=some res_→uy (fu me ta st re ba fs bo) me ta st re ba fs bo=some res_): Sound Kx 101 (uz φ):=ah (C:=iMsgOk_C) (O:=GW) Tryz.func101 (by kernel_rfl) fun args objs=>by
 unfold uz;split
 · rename_i me ta st re ba fs bo;exact .inr fun _ hyp_=>aL (Λ:=GX (fu me ta st re ba fs bo)) (by kernel_rfl) (af (l':=[Al]) (by kernel_rfl) ⟨J1 _,trivial⟩) (by kernel_rfl) (hv me ta st re ba fs bo _ hyp_)
 · exact .inl rfl
theorem dle {a b: Nat} (h: a≤b): decide (a≤b)=true:=dT' h
theorem J2 (me ta re: aa) (st: Int) (ba: Bool) (fs: List Fd) (bo: aa) (hl: fs.length≤20) (k: aa→aa→aa→Int→aa→Bool→List Fd→aa→OR'): ∀ (r: List Fd) (i: Int) (n: Nat) (s: aa),At fs i r→r.length < n→(∀ f ∈ r,hO f=true)→s.length + 300 * r.length≤100000→
 fP n s i me ta st re ba fs bo k=k (s++di r) me ta st re ba fs bo:=by
 intro r;induction r with
 | nil=>intro i n s h hn hf hs;obtain ⟨n,rfl⟩:=bH hn;unfold fP pl;simp only [h.dge,cond_false,di,List.append_nil]
 | cons a r ih=>
   intro i n s h hn hf hs;obtain ⟨n,rfl⟩:=bH hn
   have ha:=hf a (List.mem_cons_self ..)
   have hz:=h_ ha
   have hr:=fun f h=>hf f (List.mem_cons_of_mem _ h)
   simp only [List.length_cons] at hn hs
   have e0: (iR a).length≤240:=by simp only [iR,List.length_append,List.length_cons];omega
   unfold fP pl
   simp (disch:=omega) only [h.dlt,h.dnn,h.get,h.next (by omega),adQ,ha,cond_true,List.length_append,dle]
   rw [ih (i + 1) n _ h.step (by omega) hr (by simp only [List.length_append,List.length_cons,List.length_nil];omega)]
   simp only [di,ri,List.append_assoc]
theorem aak {me ta re bo: aa} {st: Int} {fs: List Fd} (h: hdG me ta st re fs bo=true): me.length≤20∧ta.length≤200∧bw st=true∧re.length≤40∧co fs=true∧bo.length≤600:=by
 simp only [hdG,Bool.and_eq_true,decide_eq_true_eq] at h
 obtain ⟨⟨⟨⟨⟨g1,g2⟩,g3⟩,g4⟩,g5⟩,g6⟩:=h
 exact ⟨g1,g2,g3,g4,g5,g6⟩
theorem NR: Sound Kx 113 GO:=by
 refine (J0 (φ:=fun me ta st re ba fs bo=> .ite (hdG me ta st re fs bo) (.ret (.str (ic me ta st re ba fs bo)) []) .fail) (fun _ _ _ _ _ fs _=>fs.length + 1) fun me ta st re ba fs bo r h=>?_).of fun args objs r h=>?_
 · obtain ⟨h1,h2⟩:=ae h
   cases h2
   obtain ⟨g1,g2,g3,g4,g5,g6⟩:=aak h1
   obtain ⟨g7,g8⟩:=eC g5
   have y1:=fe fs g8
   have y2:=ib st g3
   have hN: bw (bo.length: Int)=true:=by simp only [bw,Bool.and_eq_true,decide_eq_true_eq];omega
   have y3:=ib _ hN
   have big: ∀ (s: aa),s.length≤600→fP (fs.length + 1) s 0 me ta st re ba fs bo=fun k=>k (s++di fs) me ta st re ba fs bo:=fun s hs=>by
    funext k
    exact J2 me ta re st ba fs bo g7 k fs 0 _ s (At.start fs) (by omega) g8 (by omega)
   have hne: ∀ (b: Bool),(b&& !b)=false:=by intro b;cases b <;> rfl
   unfold Aj ic dN clP bx
   cases hm: decide (me=[]) <;> cases hb: decide (bo=[]) <;> cases ba
   all_goals
    simp (disch:=(first | omega | (simp only [List.length_append,List.length_cons,List.length_nil];omega))) only [big,List.length_append,List.length_cons,List.length_nil,dle,cond_true,cond_false,hm,hb,g3,hN,Bool.not_true,Bool.not_false,Bool.true_and,Bool.false_and,Bool.and_true,Bool.and_false,Bool.or_false,Bool.false_or,Bool.or_true,Bool.true_or]
    simp only [List.append_assoc,List.cons_append,List.nil_append,List.append_nil]
 · unfold GO at h;split at h
   · exact h
   · cases h
def XD (fs: List Fd): Bool:=go fs frC||go fs frT||go fs frR
def rm (me ta: aa) (st: Int) (re: aa) (ba: Bool) (bo: aa): Bool:=bif decide (me=[]) then SX ta st re ba bo else Vz me ta st re ba
def gr (me ta: aa) (st: Int) (re: aa) (ba: Bool) (fs: List Fd) (bo: aa): Bool:=
 co fs&& !decide (20≤(fs.length: Int))&& !decide (600 < (bo.length: Int))&& !XD fs&&rm me ta st re ba bo&&decide (((ic me ta st re ba fs bo).length: Int)≤1500)
theorem Dv (me ta re: aa) (st: Int) (ba: Bool) (fs: List Fd) (bo: aa) (k0 k1: aa→aa→Int→aa→Bool→List Fd→aa→OR'):
 gq 4 3 0 me ta st re ba fs bo [frC,frT,frR] k0 k1=bif XD fs then k0 me ta st re ba fs bo else k1 me ta st re ba fs bo:=by
 have e0: ad (0 + 1)=1:=by rw [w64 (by decide) (by decide)];rfl
 have e1: ad (1 + 1)=2:=by rw [w64 (by decide) (by decide)];rfl
 have e2: ad (2 + 1)=3:=by rw [w64 (by decide) (by decide)];rfl
 have m0: isM frC=true:=bU (n:=20) (by decide)
 have m1: isM frT=true:=bU (n:=20) (by decide)
 have m2: isM frR=true:=bU (n:=20) (by decide)
 have l3: ([frC,frT,frR]: List aa).length=3:=rfl
 have t0: ([frC,frT,frR]: List aa).getD (0 : Int).toNat []=frC:=rfl
 have t1: ([frC,frT,frR]: List aa).getD (1 : Int).toNat []=frT:=rfl
 have t2: ([frC,frT,frR]: List aa).getD (2 : Int).toNat []=frR:=rfl
 unfold XD
 simp only [gq,rl,e0,e1,e2,t0,t1,t2,m0,m1,m2,l3,Int.reduceLT,Int.reduceLE,Int.ofNat_eq_natCast,Int.cast_ofNat_Int,decide_true,decide_false,cond_true,cond_false]
 cases go fs frC <;> cases go fs frT <;> cases go fs frR <;> rfl
theorem VG {me ta re bo: aa} {st: Int} {ba: Bool} {fs: List Fd} (hf: co fs=true) (hb: ¬ (600 < (bo.length: Int))) (h: rm me ta st re ba bo=true): hdG me ta st re fs bo=true:=by
 unfold rm at h
 simp only [hdG,Bool.and_eq_true,decide_eq_true_eq]
 by_cases hm: me=[]
 · rw [dT' hm,cond_true] at h
   simp only [SX,Jv,ka,Bool.and_eq_true,decide_eq_true_eq] at h
   subst hm
   obtain ⟨⟨⟨⟨rfl,hs⟩,hr,_⟩,_⟩,_⟩:=h
   exact ⟨⟨⟨⟨⟨by decide,by decide⟩,by simp only [bw,Bool.and_eq_true,decide_eq_true_eq];omega⟩,hr⟩,hf⟩,by omega⟩
 · rw [dF' hm,cond_false] at h
   simp only [Vz,kn,kb,Bool.and_eq_true,decide_eq_true_eq] at h
   obtain ⟨⟨⟨⟨h1,h2⟩,rfl⟩,rfl⟩,_⟩:=h
   exact ⟨⟨⟨⟨⟨by omega,by omega⟩,by decide⟩,by decide⟩,hf⟩,by omega⟩
def GY: List AV→List Ob→Br:=Xv fun m=> .bool (gr m.1 m.2.1 m.2.2.1 m.2.2.2.1 m.2.2.2.2.1 m.2.2.2.2.2.1 m.2.2.2.2.2.2)
theorem J3: Sound Kx 101 GY:=by
 refine (Du (φ:=fun me ta st re ba fs bo=> .ret (.bool (gr me ta st re ba fs bo)) []) (fun _ _ _ _ _ _ _=>4) fun me ta st re ba fs bo r h=>?_).of fun args objs r h=>?_
 · cases h
   unfold uy gr
   have big: ∀ k0 k1,gq 4 3 0 me ta st re ba fs bo (List.set (List.set (List.set (List.replicate 3 []) 0 [99,111,110,116,101,110,116,45,108,101,110,103,116,104]) 1 [116,114,97,110,115,102,101,114,45,101,110,99,111,100,105,110,103]) 2 [116,114,97,105,108,101,114]) k0 k1=_:=Dv me ta re st ba fs bo
   rw [big]
   cases hf: co fs
   · rfl
   cases h1: decide (20≤(fs.length: Int))
   case true=>rfl
   cases h2: decide (600 < (bo.length: Int))
   case true=>rfl
   cases h3: XD fs
   case true=>rfl
   have h2':=of_decide_eq_false h2
   simp only [Bool.not_true,Bool.not_false,cond_true,cond_false,Bool.true_and]
   have hg:=fun h=>VG (me:=me) (ta:=ta) (st:=st) (re:=re) (ba:=ba) hf h2' h
   unfold rm Vz SX at hg ⊢
   cases hm: decide (me=[])
   · rw [hm] at hg
     simp only [cond_false] at hg ⊢
     revert hg
     cases kn me <;> cases kb ta <;> cases decide (st=0) <;> cases decide (re=[]) <;> cases ba <;> intro hg <;> first | rfl | (rw [hg rfl];rfl)
   · rw [hm] at hg
     simp only [cond_true] at hg ⊢
     revert hg
     cases decide (ta=[]) <;> cases Jv st <;> cases ka re <;> cases decide (bo=[]) <;> cases ba <;> cases wa st <;> intro hg <;> first | rfl | (rw [hg rfl];rfl)
 · unfold GY Xv at h;split at h
   · exact h
   · cases h
def S7: SC:=[⟨113,_,NR⟩,⟨96,_,hZ⟩,⟨110,_,Dn⟩,⟨111,_,zN⟩,⟨112,_,Dj⟩]
def rn (me ta: aa) (st: Int) (re: aa) (ba: Bool) (fs: List Fd) (bo: aa): Br:=(.ite (!(co fs)) (.ret (AV.bool false) []) (.ite (decide ((fs.length: Int)=20)) (.ret (AV.bool false) []) (.ite (co fs) (.ite (List.any fs SZ) (.ret (AV.bool false) []) (.ite (decide (600 < (bo.length: Int))) (.ret (AV.bool false) []) (.ite (!(decide (me=([]: aa)))) (.ite (!(Vz me ta st re ba)) (.ret (AV.bool false) []) (.ite (decide (me=([]: aa))) (.ite (!(SX ta st re ba bo)) (.ret (AV.bool false) []) (.ite (hdG me ta st re fs bo) (.ret (AV.bool (decide (((List.length (ic me ta st re ba fs bo)): Int)≤1500))) []) .fail)) (.ite (hdG me ta st re fs bo) (.ret (AV.bool (decide (((List.length (ic me ta st re ba fs bo)): Int)≤1500))) []) .fail))) (.ite (decide (me=([]: aa))) (.ite (!(SX ta st re ba bo)) (.ret (AV.bool false) []) (.ite (hdG me ta st re fs bo) (.ret (AV.bool (decide (((List.length (ic me ta st re ba fs bo)): Int)≤1500))) []) .fail)) (.ite (hdG me ta st re fs bo) (.ret (AV.bool (decide (((List.length (ic me ta st re ba fs bo)): Int)≤1500))) []) .fail))))) .fail)))
def GZ: List AV→List Ob→Br
 | [.agg [.str me, .str ta, .int .i64 st, .str re, .bool ba, .sh (.pair .str .str) fs, .str bo]],[]=>rn me ta st re ba fs bo
 | _,_=> .fail
theorem sMsgOk_ok: Sound Kx 41 GZ:=ac (C:=S7) (O:=O0) Tryz.func41 (by kernel_rfl) fun args objs=>by
 unfold GZ;split
 · exact .inr (by kernel_rfl)
 · exact .inl rfl
theorem uA {α: Type} (p: α→Bool): ∀ l: List α,decide (0 < (l.filter p).length)=l.any p
 | []=>rfl
 | a::r=>by
   rw [List.filter_cons,List.any_cons]
   cases h: p a
   · simp only [Bool.false_eq_true,if_false,Bool.false_or];exact uA p r
   · simp
theorem jm {fs: List Fd} (h: co fs=true) (name: aa): go fs name=fs.any fun f=>lp f.1 name:=by
 unfold go dp ko
 rw [h,cond_true,List.length_map,uA]
theorem NS {α: Type} (p q: α→Bool): ∀ l: List α,(l.any p||l.any q)=l.any fun a=>p a||q a
 | []=>rfl
 | a::r=>by
   simp only [List.any_cons,← NS p q r]
   cases p a <;> cases q a <;> cases r.any p <;> cases r.any q <;> rfl
theorem acK: aK frC=frC:=by decide
theorem acL: aK frT=frT:=by decide
theorem acM: aK frR=frR:=by decide
theorem XE {fs: List Fd} (h: co fs=true): fs.any SZ=XD fs:=by
 unfold XD
 rw [jm h,jm h,jm h,NS,NS]
 exact congrArg _ (funext fun f=>by unfold SZ lp;rw [acK,acL,acM])
theorem J4: Sound Kx 41 GY:=sMsgOk_ok.of fun args objs r h=>by
 unfold GY Xv at h
 split at h
 case h_2=>cases h
 cases h
 rename_i me ta st re ba fs bo
 show (rn me ta st re ba fs bo).val=some (.bool (gr me ta st re ba fs bo),[])
 unfold rn gr
 cases hf: co fs
 · rfl
 obtain ⟨hl,_⟩:=eC hf
 have e20: decide ((fs.length: Int)=20)=decide (20≤(fs.length: Int)):=by congr 1;apply propext;omega
 rw [e20,XE hf]
 cases h1: decide (20≤(fs.length: Int))
 case true=>rfl
 cases h3: XD fs
 case true=>cases decide (600 < (bo.length: Int)) <;> rfl
 cases h2: decide (600 < (bo.length: Int))
 case true=>rfl
 have h2':=of_decide_eq_false h2
 simp only [Bool.not_true,Bool.not_false,Bool.true_and]
 refine (eh rfl).trans ((eh rfl).trans ((bQ rfl).trans ((eh rfl).trans ((eh rfl).trans ?_))))
 have hg:=fun h=>VG (me:=me) (ta:=ta) (st:=st) (re:=re) (ba:=ba) hf h2' h
 unfold rm at hg ⊢
 cases hm: decide (me=[])
 · rw [hm] at hg
   simp only [cond_false] at hg ⊢
   revert hg
   cases Vz me ta st re ba <;> intro hg
   · rfl
   · rw [hg rfl];rfl
 · rw [hm] at hg
   simp only [cond_true] at hg ⊢
   revert hg
   cases SX ta st re ba bo <;> intro hg
   · rfl
   · rw [hg rfl];rfl
end
end Go.Proofs.YtgknmoadpgpdeaaGreatDoor.Ev
