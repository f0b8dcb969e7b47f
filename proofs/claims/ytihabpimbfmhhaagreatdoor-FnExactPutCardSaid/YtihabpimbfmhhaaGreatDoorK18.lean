/- The texts Head, HeadS, Mz, Ma, Mb, Mc, Md, Me, Mf, one behind the other. -/
import Derived.Test.YtihabpimbfmhhaaGreatDoorK15
import Derived.Test.YtihabpimbfmhhaaGreatDoorK17
import Derived.Test.YtihabpimbfmhhaaGreatDoorK14
import Derived.Deep.Cut
import Derived.Deep.CutRange
import Derived.Deep.RegionWith
import Derived.Lib.ItoaLen
import Derived.Test.YtihabpimbfmhhaaGreatDoorK13
namespace Go.Proofs.YtihabpimbfmhhaaGreatDoor.Ev
open Go.Shelf Go.RowKit Go
set_option linter.unusedVariables false
def bs (l:aa):ByteArray:=⟨l.toArray⟩
theorem dw (l:aa):(bs l).size=l.length:=by simp [bs,ByteArray.size]
noncomputable def cT (me ta:aa) (st:Int) (re:aa):aa:=
 bif decide (me=[])then [72,84,84,80,47,49,46,49,32]++bO st++[32]++re++[13,10]else me++[32]++ta++[32,72,84,84,80,47,49,46,49]++[13,10]
theorem sf (st:Int) (h:bD st=true) (w:World) (htab:kO w):Calls Tryz.prog 196 #[.int .i64 st] w fun e w'=>e= .returned (.string (bs (bO st)))∧Below w.heap.size w w':=by
 simp only [bD,Bool.and_eq_true,decide_eq_true_eq]at h
 refine(Tryz.strconv_Itoa st (by omega) (by omega) w htab).mono ?_
 rintro e w' ⟨rfl,k,os,rfl⟩
 refine⟨?_,o9 w k os⟩
 rw [dv];unfold Lib.itoa bs;rw [if_neg (by omega)]
def Fresh (b:Nat) (w:World):Prop:=w.heap[b]? =some (.cells #[.pointer none,.slice none 0 0] 177 (0,0))
theorem Fresh.is {b:Nat} {w:World} (h:Fresh b w):Lib.IsBuilderF 177 5 b b [] w:=
 .inl ⟨Nat.le_refl _,_,h,World.ownsRowF_nil w b _ 1,by simp [Value.ownBlock]⟩
theorem Fresh.below {b:Nat} {w w':World} (h:Fresh b w) (hb:Below w.heap.size w w'):Fresh b w':=by
 unfold Fresh at *
 have:b<w.heap.size:=by
  rcases Nat.lt_or_ge b w.heap.size with h'|h'
  ·exact h'
  ·rw [Array.getElem?_eq_none h']at h;cases h
 rw [hb.block b this];exact h
theorem o_ {w w':World} {B:Nat} (hB:gN≤B) (h:kO w) (hb:Below B w w'):kO w':=by
 unfold kO Lib.TabIs World.var? at *
 cases hg:Tryz.prog.globalNamed "internal/strconv.uint64pow10" with
 |none=>rw [hg]at h;cases h
 |some g=>
  have hlt:=Cu hg
  rw [hg]at h
  simp only [Option.bind_some]at h⊢
  rw [hb.block g (Nat.lt_of_lt_of_le hlt hB)]
  exact h
theorem gP (st:Int) (h:bD st=true):(bO st).length≤21:=by
 simp only [bD,Bool.and_eq_true,decide_eq_true_eq]at h
 have:=Lib.itoa_length_le st (by omega) (by omega)
 unfold Lib.itoa at this
 rw [if_neg (by omega)]at this
 rw [dv];exact this
theorem sg (a b:aa):bs a++bs b=bs (a++b):=by unfold bs;rw [ByteArray.mk_append_mk]
theorem Dl (l:aa):(bs l).toList.isEmpty=decide (l=[]):=by cases l<;>simp [bs]
theorem eJ (me ta:aa) (st:Int) (re:aa) (h1:me.length≤20) (h2:ta.length≤200) (h3:re.length≤40) (h:bD st=true):(cT me ta st re).length≤300:=by
 have:=gP st h
 unfold cT
 cases decide (me=[])<;>simp<;>omega
theorem Pb (me ta:aa) (st:Int) (re:aa) (h:(!(bs me).toList.isEmpty)=true):bs me++⟨#[32]⟩++bs ta++⟨#[32,72,84,84,80,47,49,46,49]⟩++⟨#[13,10]⟩=bs (cT me ta st re):=by
 rw [Dl]at h
 simp only [Bool.not_eq_true',decide_eq_false_iff_not]at h
 unfold cT
 rw [dF' h,cond_false]
 show bs me++bs [32]++bs ta++bs [32,72,84,84,80,47,49,46,49]++bs [13,10]=_
 simp only [sg]
theorem So (me ta:aa) (st:Int) (re:aa) (h:(!(bs me).toList.isEmpty)=false):⟨#[72,84,84,80,47,49,46,49,32]⟩++bs (bO st)++⟨#[32]⟩++bs re++⟨#[13,10]⟩=bs (cT me ta st re):=by
 rw [Dl]at h
 simp only [Bool.not_eq_false',decide_eq_true_eq]at h
 unfold cT
 rw [dT' h,cond_true]
 show bs [72,84,84,80,47,49,46,49,32]++bs (bO st)++bs [32]++bs re++bs [13,10]=_
 simp only [sg]
def Holds (w:World) (p:Obj) (l:aa) (wx:World):Prop:=
 Lib.IsBuilderF 177 5 (w.heap.size+1) (w.heap.size+1) (Lib.byteCells l) wx∧Below w.heap.size w wx∧w.heap.size+2≤wx.heap.size∧wx.heap[w.heap.size]? =some p
theorem Holds.of {w W w2:World} {p:Obj} {l:aa} {s:ByteArray} (hW:Below w.heap.size w W) (hs:w.heap.size+2≤W.heap.size) (hp:W.heap[w.heap.size]? =some p) (l0:aa) (he:s=bs l)
 (hB:Lib.BuilderAtF 177 5 (w.heap.size+1) (w.heap.size+1) (.pointer (some ⟨w.heap.size+1,0,none⟩)) (Lib.byteCells l0++Lib.strCells s) w2) (bB:Below (w.heap.size+1) W w2):Holds w p (l0++l) w2:=by
 subst he
 refine⟨.inr ?_,hW.trans (bB.mono (by omega)),by have:=bB.size;omega,by rw [bB.block _ (by omega)];exact hp⟩
 rw [Lib.byteCells_append];exact hB
theorem Holds.alloc {w wx:World} {p:Obj} {l:aa} (h:Holds w p l wx) (X:Obj):Holds w p l (wx.alloc X):=
 ⟨h.1.alloc X,h.2.1.alloc (by have:=h.2.2.1;omega) X,by have:=h.2.2.1;simp;omega,by rw [heap_alloc_old _ _ (by have:=h.2.2.1;omega)];exact h.2.2.2⟩
theorem Holds.below {w wx w':World} {p:Obj} {l:aa} (h:Holds w p l wx) (hb:Below wx.heap.size wx w'):Holds w p l w':=by
 obtain⟨h1,h2,h3,h4⟩:=h
 have hg: ∀row,wx.grownBy w' row:=fun row=>⟨hb.os,hb.tape,hb.output,hb.size,fun k hk _=>hb.block k hk⟩
 have kept: ∀v n xs,wx.ownsRowF (w.heap.size+1) 5 1 v n xs→w'.ownsRowF (w.heap.size+1) 5 1 v n xs:=fun v n xs ho=>by
  cases hv:v.ownBlock with
  |none=>exact ho.kept (hg none) (.inl hv)
  |some q=>exact ho.kept (hg none) (.inr (by rw [hv];exact fun e=>by cases e))
 have one: ∀q,Lib.BuilderAtF 177 5 (w.heap.size+1) (w.heap.size+1) q (Lib.byteCells l) wx→Lib.BuilderAtF 177 5 (w.heap.size+1) (w.heap.size+1) q (Lib.byteCells l) w':=by
  rintro q ⟨g1,v,g2,g3,g4⟩
  exact⟨g1,v,by rw [hb.block _ (by omega)];exact g2,kept _ _ _ g3,g4⟩
 exact⟨h1.imp (one _) (one _),h2.trans (hb.mono (by omega)),by have:=hb.size;omega,by rw [hb.block _ (by omega)];exact h4⟩
noncomputable def clP (me:aa) (ba:Bool) (bo:aa):aa:=
 bif(!decide (me=[])&& !decide (bo=[]))||(decide (me=[])&& !ba)then [67,111,110,116,101,110,116,45,76,101,110,103,116,104,58,32]++bO (bo.length:Int)++[13,10]else []
theorem Sp (me:aa) (ba:Bool) (bo:aa) (h:((!decide (me=[])&& !decide (bo=[]))||(decide (me=[])&& !ba))=false):clP me ba bo=[]:=by unfold clP;rw [h];rfl
theorem QD (me:aa) (ba:Bool) (bo:aa) (h:((!decide (me=[])&& !decide (bo=[]))||(decide (me=[])&& !ba))=true):bs (clP me ba bo)=⟨#[67,111,110,116,101,110,116,45,76,101,110,103,116,104,58,32]⟩++bs (bO ((bs bo).size:Int))++⟨#[13,10]⟩:=by
 unfold clP;rw [h,cond_true,dw]
 show _=bs [67,111,110,116,101,110,116,45,76,101,110,103,116,104,58,32]++bs (bO (bo.length:Int))++bs [13,10]
 simp only [sg]
def pc (f:Fd):aa:=gl f++[13,10]
def cw:List Fd→aa
 | []=>[]
 |f::r=>pc f++cw r
theorem pd: ∀(l:List Fd) (f:Fd),cw (l++[f])=cw l++pc f
 | [],f=>by simp [cw]
 |g::r,f=>by simp only [List.cons_append,cw,pd r f,List.append_assoc]
theorem A2 (l:List Fd) (k:Nat) (h:k<l.length):cw (l.take (k+1))=cw (l.take k)++pc (l[k]'h):=by
 rw [List.take_succ_eq_append_getElem h,pd]
theorem dK: ∀(l:List Fd),(∀f∈l,jK f=true)→(cw l).length≤300*l.length
 | [],_=>by simp [cw]
 |f::r,h=>by
  have h1:=fF (h f (List.mem_cons_self ..))
  have h2:=dK r fun g hg=>h g (List.mem_cons_of_mem _ hg)
  simp only [cw,pc,gl,List.length_append,List.length_cons,List.length_nil];omega
noncomputable def dS (me ta:aa) (st:Int) (re:aa) (ba:Bool) (l:List Fd) (bo:aa):aa:=cT me ta st re++cw l++clP me ba bo++[13,10]
set_option maxHeartbeats 4000000 in
set_option maxRecDepth 1000000 in
theorem Jf (me ta re bo:aa) (st:Int) (ba:Bool) (l:List Fd) (a:Option Addr) (cp:Nat) (w:World) (htab:kO w) (hgn:gN≤w.heap.size) (hl:l.length≤20) (hf: ∀f∈l,jK f=true)
 (hc: ∀i (h:i<l.length),∃b o,a=some ⟨b,o,none⟩∧w.cell? ⟨b,o+i*2,none⟩=some (.string (bs (l[i]).1))∧w.cell? ⟨b,o+i*2+1,none⟩=some (.string (bs (l[i]).2)))
 (h1:me.length≤20) (h2:ta.length≤200) (h3:re.length≤40) (h4:bo.length≤600) (h5:bD st=true):
 Calls Tryz.prog 141 #[.agg #[.string (bs me),.string (bs ta),.int .i64 st,.string (bs re),.bool ba,.slice a l.length cp,.string (bs bo)]] w fun e w'=>e= .returned (.string (bs (dS me ta st re ba l bo)))∧Below w.heap.size w w':=by
 let P:Obj:=.cells #[.string (bs me),.string (bs ta),.int .i64 st,.string (bs re),.bool ba,.slice a l.length cp,.string (bs bo)] 43
 have s1:(bs me).size≤20:=by rw [dw];exact h1
 have s2:(bs ta).size≤200:=by rw [dw];exact h2
 have s3:(bs re).size≤40:=by rw [dw];exact h3
 have s4:(bs bo).size≤600:=by rw [dw];exact h4
 have s5:(bs (bO st)).size≤21:=by rw [dw];exact gP st h5
 have sF:(bs (cT me ta st re)).size≤300:=by rw [dw];exact eJ me ta st re h1 h2 h3 h5
 go_enter Tryz.func141,Tryz.ntmps141
 go_upto_if 8 with fail
 go_cut []from 6 to 66 (fun wx=>Holds w (.cells #[.string (bs me),.string (bs ta),.int .i64 st,.string (bs re),.bool ba,.slice a l.length cp,.string (bs bo)] 43) (cT me ta st re) wx)
 case first=>
  have fresh: ∀X:Obj,Fresh (w.heap.size+1) ((w.alloc X).alloc (.cells #[.pointer none,.slice none 0 0] 177)):=fun X=>by
   unfold Fresh
   have e:w.heap.size+1=(w.alloc X).heap.size:=by simp
   rw [e]
   exact heap_alloc_new _ _
  have grown: ∀X Y:Obj,Below w.heap.size w ((w.alloc X).alloc Y):=fun X Y=>((Below.refl _ w).alloc (Nat.le_refl _) X).alloc (by simp) Y
  have par2: ∀X Y:Obj,((w.alloc X).alloc Y).heap[w.heap.size]? =some X:=fun X Y=>by rw [heap_alloc_old _ _ (by simp)];exact heap_alloc_new _ _
  have size2: ∀X Y:Obj,w.heap.size+2≤((w.alloc X).alloc Y).heap.size:=fun X Y=>by simp
  go_wp2_with (go_at_call 195;refine(Tryz.bld_write (w.heap.size+1) (w.heap.size+1) [] _ _ (fresh _).is ?hl ?hB).mono ?_)
  ·rename_i hc _ _
   rw [Pb me ta st re hc]
   simp only [List.length_nil];omega
  ·simp
  ·rename_i hc _ _
   rw [Pb me ta st re hc]
   rintro e w1 ⟨rfl,hB1,bB1,_⟩
   have hH:=Holds.of (l:=cT me ta st re) (grown _ _) (size2 _ _) (par2 _ _) [] rfl hB1 bB1
   go_wp2_with fail
   go_meet
   case rel=>exact hH
  ·rename_i hc
   have growD: ∀X Y:Obj,Below w.heap.size w ((w.alloc X).alloc Y).drew:=fun X Y=>Below.drew (grown X Y)
   have sizeD: ∀X Y:Obj,w.heap.size+2≤((w.alloc X).alloc Y).drew.heap.size:=size2
   have freshD: ∀X:Obj,Fresh (w.heap.size+1) ((w.alloc X).alloc (.cells #[.pointer none,.slice none 0 0] 177)).drew:=fresh
   have parD: ∀X Y:Obj,((w.alloc X).alloc Y).drew.heap[w.heap.size]? =some X:=par2
   have eB:=So me ta st re hc
   go_region_with (first
    |(go_at_call 196;refine(sf st h5 _ (o_ hgn htab (growD _ _))).mono ?_;rintro e w1 ⟨rfl,hb1⟩;have g3:w1.cell? ⟨w.heap.size,3,none⟩=some (.string (bs re)):=((hb1.cell (p:=⟨w.heap.size,3,none⟩) (Nat.lt_of_lt_of_le (by simp only;omega) (sizeD _ _))).trans (by rw [Lib.cell_of_heap (parD _ _)];rfl));have g7:w1.heap[w.heap.size]? =_:=(hb1.block _ (Nat.lt_of_lt_of_le (by omega) (sizeD _ _))).trans (parD _ _);have g4:Fresh (w.heap.size+1) w1:=(freshD _).below hb1;have g5:Below w.heap.size w w1:=(growD _ _).trans (hb1.mono (Nat.le_trans (Nat.le_add_right _ 2) (sizeD _ _)));have g6:w.heap.size+2≤w1.heap.size:=Nat.le_trans (sizeD _ _) hb1.size;clear hb1)
    |(go_at_call 195;refine(Tryz.bld_write (w.heap.size+1) (w.heap.size+1) [] _ _ (Fresh.is (by assumption)) (by simp only [List.length_nil];omega) (by omega)).mono ?_;rintro e w2 ⟨rfl,hB1,bB1,_⟩;have hH:=Holds.of (l:=cT me ta st re) g5 g6 g7 [] rfl hB1 bB1))
   all_goals (go_wp2_with fail;go_meet;exact hH)
 case rest=>
  have hp:=hcut.2.2.2
  have c5:wc.cell? ⟨w.heap.size,5,none⟩=some (.slice a l.length cp):=by rw [Lib.cell_of_heap hp];rfl
  go_wp2_with fail
  go_loopw [31] (fun i wr=> ∃k:Nat,k≤l.length∧i= .int .i64 k∧Holds w (.cells #[.string (bs me),.string (bs ta),.int .i64 st,.string (bs re),.bool ba,.slice a l.length cp,.string (bs bo)] 43) (cT me ta st re++cw (l.take k)) wr) (fun i _=>l.length-(intOf i).toNat)
  case atStart=>exact⟨0,Nat.zero_le _,rfl,by simpa [cw]using hcut⟩
  case round=>
   obtain⟨k,hk,rfl,hI⟩:=hrel
   by_cases hlt:k<l.length
   ·obtain⟨b,o,rfl,g1,g2⟩:=hc k hlt
    have hbb:b<w.heap.size:=World.block_lt_of_cell? w ⟨b,o+k*2,none⟩ g1
    have q1:wr.cell? ⟨b,o+k*2,none⟩=_:=(hI.2.1.cell (p:=⟨b,o+k*2,none⟩) hbb).trans g1
    have q2:wr.cell? ⟨b,o+k*2+1,none⟩=_:=(hI.2.1.cell (p:=⟨b,o+k*2+1,none⟩) hbb).trans g2
    have z:=fF (hf _ (List.getElem_mem hlt))
    have z1:(bs (l[k]).1).size≤40:=by rw [dw];exact z.1
    have z2:(bs (l[k]).2).size≤190:=by rw [dw];exact z.2
    have eL:bs (l[k]).1++⟨#[58,32]⟩++bs (l[k]).2++⟨#[13,10]⟩=bs (pc (l[k])):=by
     show bs (l[k]).1++bs [58,32]++bs (l[k]).2++bs [13,10]=_
     simp only [sg,pc,gl,List.append_assoc];rfl
    have hb2:=fun X Y=>(hI.alloc X).alloc Y
    have hb3: ∀X Y:Obj,w.heap.size+1≤((wr.alloc X).alloc Y).heap.size:=fun X Y=>by have:=(hb2 X Y).2.2.1;omega
    have hn:(Lib.byteCells (cT me ta st re++cw (l.take k))).length+(bs (pc (l[k]))).size≤140737488355328:=by
     have y1:=eJ me ta st re h1 h2 h3 h5
     have y2:=dK (l.take k) fun f hf'=>hf f (List.mem_of_mem_take hf')
     have y3:(l.take k).length≤20:=Nat.le_trans (List.length_take_le _ _) (by omega)
     rw [Lib.byteCells_length,dw,List.length_append]
     have y4:(pc (l[k])).length≤300:=by simp only [pc,gl,List.length_append,List.length_cons,List.length_nil];omega
     omega
    go_wp2_with (first
     |(go_at_call 195;refine(Tryz.bld_write (w.heap.size+1) (w.heap.size+1) _ _ _ (hb2 _ _).1 hn (hb3 _ _)).mono ?_)
     |go_in)
    rintro e w1 ⟨rfl,hB1,bB1,_⟩
    have hH:=Holds.of (l:=pc (l[k])) (hb2 _ _).2.1 (hb2 _ _).2.2.1 (hb2 _ _).2.2.2 _ rfl hB1 bB1
    clear eL hb2 hb3 hn
    go_wp2_with fail
    go_roundw
    case rel=>exact⟨k+1,by omega,by go_num,by rw [A2 l k hlt,←List.append_assoc];exact hH⟩
    case measure=>simp [intOf];omega
   ·have hkl:k=l.length:=by omega
    subst hkl
    rw [List.take_length]at hI
    have hp:=hI.2.2.2
    have d0:wr.cell? ⟨w.heap.size,0,none⟩=some (.string (bs me)):=by rw [Lib.cell_of_heap hp];rfl
    have d4:wr.cell? ⟨w.heap.size,4,none⟩=some (.bool ba):=by rw [Lib.cell_of_heap hp];rfl
    have d6:wr.cell? ⟨w.heap.size,6,none⟩=some (.string (bs bo)):=by rw [Lib.cell_of_heap hp];rfl
    have hT:kO wr:=o_ hgn htab hI.2.1
    have hN:bD ((bs bo).size:Int)=true:=by simp only [bD,Bool.and_eq_true,decide_eq_true_eq];omega
    have s6:(bs (bO ((bs bo).size:Int))).size≤21:=by rw [dw];exact gP _ hN
    have hL:(cT me ta st re++cw l).length≤6300:=by
     have y1:=eJ me ta st re h1 h2 h3 h5
     have y2:=dK l hf
     rw [List.length_append];omega
    have hI2:=hI
    go_upto_region 10 with fail
    go_cut [57]from 40 to 66 (fun v wx=>v= .bool ((!decide (me=[])&& !decide (bo=[]))||(decide (me=[])&& !ba))∧Holds w (.cells #[.string (bs me),.string (bs ta),.int .i64 st,.string (bs re),.bool ba,.slice a l.length cp,.string (bs bo)] 43) (cT me ta st re++cw l) wx)
    case first=>
     have e1:=Dl me
     have e2:=Dl bo
     cases hm:decide (me=[])<;>cases hb:decide (bo=[])<;>cases ba<;>rw [hm]at e1<;>rw [hb]at e2
     all_goals
      go_wp2_with fail
      go_meet
      exact⟨by rw [hm,hb];rfl,hI2⟩
    case rest=>
     obtain⟨rfl,hJ⟩:=hcut
     have hT:=o_ hgn htab hJ.2.1
     have hp2:=hJ.2.2.2
     have d6:wc.cell? ⟨w.heap.size,6,none⟩=some (.string (bs bo)):=by rw [Lib.cell_of_heap hp2];rfl
     cases hq:(!decide (me=[])&& !decide (bo=[]))||(decide (me=[])&& !ba)
     ·have hcl:=Sp me ba bo hq
      have hl9:dS me ta st re ba l bo=cT me ta st re++cw l++[13,10]:=by rw [dS,hcl,List.append_nil]
      go_wp2_with (go_at_call 198;refine(Tryz.bld_string (w.heap.size+1) (w.heap.size+1) _ _ hJ.1 (by have:=hJ.2.2.1;omega)).mono ?_)
      rintro e w2 ⟨rfl,hB2,bB2,_⟩
      have y1:=eJ me ta st re h1 h2 h3 h5
      have y2:=dK l hf
      go_wp2_with fail
      go_ret
      exact⟨by rw [hl9,←sg];rfl,hJ.2.1.trans (bB2.mono (by have:=hJ.2.2.1;omega))⟩
     ·have eW:=QD me ba bo hq
      have sW:(bs (clP me ba bo)).size≤60:=by
       rw [eW]
       have g1:(⟨#[67,111,110,116,101,110,116,45,76,101,110,103,116,104,58,32]⟩:ByteArray).size=16:=rfl
       have g2:(⟨#[13,10]⟩:ByteArray).size=2:=rfl
       rw [ByteArray.size_append,ByteArray.size_append,g1,g2];omega
      have y1:=eJ me ta st re h1 h2 h3 h5
      have y2:=dK l hf
      have y3:(clP me ba bo).length≤60:=by rw [←dw];exact sW
      have sN:(Lib.byteCells (cT me ta st re++cw l)).length+(bs (clP me ba bo)).size≤140737488355328:=by rw [Lib.byteCells_length];omega
      go_wp2_with (first
       |(go_at_call 196;refine(sf _ hN _ hT).mono ?_;rintro e w1 ⟨rfl,hb1⟩;have hI1:=hJ.below hb1;clear hb1)
       |(go_at_call 195;refine(Tryz.bld_write (w.heap.size+1) (w.heap.size+1) _ _ _ hI1.1 (by rw [←eW];exact sN) (by have:=hI1.2.2.1;omega)).mono ?_;rintro e w2 ⟨rfl,hB1,bB1,_⟩;have hH:=Holds.of (l:=clP me ba bo) hI1.2.1 hI1.2.2.1 hI1.2.2.2 _ eW.symm hB1 bB1)
       |(go_at_call 198;refine(Tryz.bld_string (w.heap.size+1) (w.heap.size+1) _ _ hH.1 (by have:=hH.2.2.1;omega)).mono ?_;rintro e w3 ⟨rfl,hB2,bB2,_⟩))
      go_ret
      exact⟨by rw [dS,←sg];simp only [List.append_assoc];rfl,hH.2.1.trans (bB2.mono (by have:=hH.2.2.1;omega))⟩
def hdG (me ta:aa) (st:Int) (re:aa) (fs:List Fd) (bo:aa):Bool:=decide (me.length≤20)&&decide (ta.length≤200)&&bD st&&decide (re.length≤40)&&b9 fs&&decide (bo.length≤600)
noncomputable def Dm:List AV→List Ob→Br
 | [.agg [.str me,.str ta,.int .i64 st,.str re,.bool ba,.sh (.pair .str .str) fs,.str bo]],[]=>.ite (hdG me ta st re fs bo) (.ret (.str (dS me ta st re ba fs bo)) []) .fail
 |_,_=>.fail
theorem Dn:Sound Kx 141 Dm:=by
 refine bU Tryz.func141 (by kernel_rfl) rfl fun args objs res objs' hv w L vs hR hr=> ?_
 unfold Dm at hv
 split at hv
 case h_2=>cases hv
 rename_i me ta st re ba fs bo
 obtain⟨h1,h2⟩:=af hv
 cases h2
 simp only [hdG,Bool.and_eq_true,decide_eq_true_eq]at h1
 obtain⟨⟨⟨⟨⟨g1,g2⟩,g3⟩,g4⟩,g5⟩,g6⟩:=h1
 obtain⟨g7,g8⟩:=cO g5
 have ht:kO w:=by
  rcases hR.g.1 with h|h
  ·have:=xM;rw [h]at this;cases this
  ·exact h
 have hgn:gN≤w.heap.size:=hR.gs
 refine⟨rfl, ?_⟩
 simp only [aK,rel,rd]at hr
 obtain⟨v,vs',rfl,⟨cs,rfl,hcs, -⟩,rfl⟩:=hr
 obtain⟨c1,r1,e1,rfl,c2,r2,rfl,rfl,c3,r3,rfl,rfl,c4,r4,rfl,rfl,c5,r5,rfl,rfl,c6,r6,rfl,⟨a,n,cp,q1,rfl,q3,q4⟩,c7,r7,rfl,rfl,rfl⟩:=hcs
 obtain rfl:c6= .slice a fs.length cp:=by simpa using q1
 have hc: ∀i (h:i<fs.length),∃b o,a=some ⟨b,o,none⟩∧w.cell? ⟨b,o+i*2,none⟩=some (.string (bs (fs[i]).1))∧w.cell? ⟨b,o+i*2+1,none⟩=some (.string (bs (fs[i]).2)):=by
  intro i h
  rcases q4 with rfl|⟨b,o,rfl,q4⟩
  ·cases h
  ·obtain⟨ds,_,⟨d1,d2,rfl,rfl,rfl⟩,k3⟩:=q4 i h
   exact⟨b,o,rfl,by have:=(k3 0 (by decide)).1;exact this,by have:=(k3 1 (by decide)).1;exact this⟩
 have:=Jf me ta re bo st ba fs a cp w ht hgn g7 g8 hc g1 g2 g4 g6 g3
 have e2:cs= #[.string (bs me),.string (bs ta),.int .i64 st,.string (bs re),.bool ba,.slice a fs.length cp,.string (bs bo)]:=by
  apply Array.toList_inj.1;rw [e1];rfl
 subst e2
 refine this.mono ?_
 rintro e w' ⟨rfl,hb⟩
 exact⟨_,rfl,hb,by simp only [rel];rfl⟩
end Go.Proofs.YtihabpimbfmhhaaGreatDoor.Ev
namespace Go.Proofs.YtihabpimbfmhhaaGreatDoor.Ev
open Go Go.RowKit
abbrev Fs:=Nat
def F0:Fs:=0
noncomputable def Sq (F:Fs):List AV→List Ob→Br
 | [.int .i64 n],[]=>.ite (bD n&&decide (n< (F:Int))) (.ret (.str (bO n)) []) .fail
 |_,_=>.fail
theorem Sr:Sound Kx 185 (Sq F0):=fun args objs res objs2 hv=>False.elim (by
 unfold Sq at hv
 split at hv
 ·have:=(af hv).1
  simp only [bD,Bool.and_eq_true,decide_eq_true_eq]at this
  have h0:((F0:Nat):Int)=0:=rfl
  omega
 ·cases hv)
end Go.Proofs.YtihabpimbfmhhaaGreatDoor.Ev
namespace Go.Proofs.YtihabpimbfmhhaaGreatDoor.Ev
open Go Go.RowKit
set_option linter.unusedVariables false
set_option linter.unusedSimpArgs false
noncomputable section
def Jg (F:Fs):cy:=(add noS 185 (Sq F))
def Do (F:Fs) (n:Int):Br:=(Br.ite (decide (n<0)) (Br.ret (AV.str ([]:aa)) []) (Br.ite (decide (999999999999999<n)) (Br.ret (AV.str ([]:aa)) []) (Br.ite (decide (n<10)) (Br.ret (AV.str (bx (List.set (List.replicate 1 (0:Int)) 0 (wk8 (ac (48+n)))))) []) (Br.ite ((bD (ac (Int.tdiv n 10)))&&(decide ((ac (Int.tdiv n 10))< (F:Int)))) (Br.ite (decide (((List.length (bO (ac (Int.tdiv n 10))))+(List.length (bx (List.set (List.replicate 1 (0:Int)) 0 (wk8 (ac (48+(Int.tmod n 10))))))))≤9223372036854775807)) (Br.ret (AV.str ((bO (ac (Int.tdiv n 10)))++(bx (List.set (List.replicate 1 (0:Int)) 0 (wk8 (ac (48+(Int.tmod n 10)))))))) []) Br.fail) Br.fail))))
theorem Jh (F:Fs) (n:Int):OM Kx (Jg F) O0 1 Tryz.f185 ([.int .i64 n]) ([])=(Do F n).val:=by kernel_rfl
def Ss:SC:=[⟨164,_,oV⟩]
def A3 (l:List Fd) (name:aa):Br:=(Br.ite (isM name) (Br.ret (AV.bool (decide (0< ((List.length (uD l name)):Int)))) []) Br.fail)
def Pc:List AV→List Ob→Br
 | [.sh (.pair .str .str) l,.str name],[]=>A3 l name
 |_,_=>.fail
theorem iHas_ok:Sound Kx 135 Pc:=ae (C:=Ss) (O:=O0) Tryz.func135 (by kernel_rfl) fun args objs=>by
 unfold Pc;split
 ·exact .inr (by kernel_rfl)
 ·exact .inl rfl
def Gh:Br:=(Br.ret (AV.ref 0 0) ((Ob.arr Ty.str 0 false (List.set (List.set (List.set (List.replicate 3 ([]:aa)) 0 ([99,111,110,116,101,110,116,45,108,101,110,103,116,104]:aa)) 1 ([116,114,97,110,115,102,101,114,45,101,110,99,111,100,105,110,103]:aa)) 2 ([116,114,97,105,108,101,114]:aa)))::[]))
def xN:List AV→List Ob→Br
 | [],[]=>Gh
 |_,_=>.fail
theorem Gi:Sound Kx 134 xN:=ae (C:=[]) (O:=O0) Tryz.func134 (by kernel_rfl) fun args objs=>by
 unfold xN;split
 ·exact .inr (by kernel_rfl)
 ·exact .inl rfl
def QE:SC:=[⟨44,_,lQ⟩]
def uO (me ta:aa) (st:Int) (re:aa) (ba:Bool) (fs:List Fd) (bo:aa) (left:Int):Br:=(Br.ite (decide ((ac (left-(me.length:Int)))<0)) (Br.ret (AV.int .i64 (-1)) []) (Br.ite (decide ((ac ((ac (left-(me.length:Int)))-(ta.length:Int)))<0)) (Br.ret (AV.int .i64 (-1)) []) (Br.ite (decide ((ac ((ac ((ac (left-(me.length:Int)))-(ta.length:Int)))-(re.length:Int)))<0)) (Br.ret (AV.int .i64 (-1)) []) (Br.ite ((smF fs)&&(bZ (ac ((ac ((ac (left-(me.length:Int)))-(ta.length:Int)))-(re.length:Int))))) (Br.ite (decide ((I_ fs (ac ((ac ((ac (left-(me.length:Int)))-(ta.length:Int)))-(re.length:Int))))<0)) (Br.ret (AV.int .i64 (-1)) []) (Br.ite (decide ((ac ((I_ fs (ac ((ac ((ac (left-(me.length:Int)))-(ta.length:Int)))-(re.length:Int))))-(bo.length:Int)))<0)) (Br.ret (AV.int .i64 (-1)) []) (Br.ret (AV.int .i64 (ac ((I_ fs (ac ((ac ((ac (left-(me.length:Int)))-(ta.length:Int)))-(re.length:Int))))-(bo.length:Int)))) []))) Br.fail))))
def Ji:List AV→List Ob→Br
 | [.agg [.str me,.str ta,.int .i64 st,.str re,.bool ba,.sh (.pair .str .str) fs,.str bo],.int .i64 left],[]=>uO me ta st re ba fs bo left
 |_,_=>.fail
theorem szMsg_ok:Sound Kx 45 Ji:=ae (C:=QE) (O:=O0) Tryz.func45 (by kernel_rfl) fun args objs=>by
 unfold Ji;split
 ·exact .inr (by kernel_rfl)
 ·exact .inl rfl
def QF:SC:=[⟨48,_,lR⟩]
def Np (me ta:aa) (st:Int) (re:aa) (ba:Bool) (fs:List Fd) (bo:aa):Br:=(Br.ite (decide (fs.length≤1048576)) (Br.ret (AV.agg ((AV.str me)::((AV.str ta)::((AV.int .i64 st)::((AV.str re)::((AV.bool ba)::((AV.ref 0 0)::((AV.str bo)::[])))))))) ((Ob.arr (Ty.pair Ty.str Ty.str) 0 false fs)::[])) Br.fail)
def Jj:List AV→List Ob→Br
 | [.agg [.str me,.str ta,.int .i64 st,.str re,.bool ba,.sh (.pair .str .str) fs,.str bo]],[]=>Np me ta st re ba fs bo
 |_,_=>.fail
theorem Nq:Sound Kx 49 Jj:=ae (C:=QF) (O:=O0) Tryz.func49 (by kernel_rfl) fun args objs=>by
 unfold Jj;split
 ·exact .inr (by kernel_rfl)
 ·exact .inl rfl
def QG:SC:=[⟨52,_,lS⟩]
def uP (me ta:aa) (st:Int) (re:aa) (ba:Bool) (fs:List Fd) (bo:aa) (me2 ta2:aa) (st2:Int) (re2:aa) (ba2:Bool) (fs2:List Fd) (bo2:aa):Br:=(Br.ite (!(decide (me=me2))) (Br.ret (AV.bool false) []) (Br.ite (!(decide (ta=ta2))) (Br.ret (AV.bool false) []) (Br.ite (!(decide (st=st2))) (Br.ret (AV.bool false) []) (Br.ite (!(decide (re=re2))) (Br.ret (AV.bool false) []) (Br.ite (!(ba==ba2)) (Br.ret (AV.bool false) []) (Br.ite (decide (fs.length≤4611686018427387904)) (Br.ite (!(decide (fs=fs2))) (Br.ret (AV.bool false) []) (Br.ite (!(decide (bo=bo2))) (Br.ret (AV.bool false) []) (Br.ret (AV.bool true) []))) Br.fail))))))
def Jk:List AV→List Ob→Br
 | [.agg [.str me,.str ta,.int .i64 st,.str re,.bool ba,.sh (.pair .str .str) fs,.str bo],.agg [.str me2,.str ta2,.int .i64 st2,.str re2,.bool ba2,.sh (.pair .str .str) fs2,.str bo2]],[]=>uP me ta st re ba fs bo me2 ta2 st2 re2 ba2 fs2 bo2
 |_,_=>.fail
theorem eqMsg_ok:Sound Kx 53 Jk:=ae (C:=QG) (O:=O0) Tryz.func53 (by kernel_rfl) fun args objs=>by
 unfold Jk;split
 ·exact .inr (by kernel_rfl)
 ·exact .inl rfl
theorem Dp (d:Int) (h0:0≤d) (h:d<10):bx (List.set (List.replicate 1 (0:Int)) 0 (wk8 (ac (48+d))))=[UInt8.ofNat (48+d.toNat)]:=by
 rw [w64 (by omega) (by omega),w8 (by omega) (by omega),be]
 show [UInt8.ofNat (48+d).toNat]=_
 rw [show(48+d).toNat=48+d.toNat by omega]
theorem Uf: ∀k,Sound Kx 185 (Sq k):=by
 intro k;induction k with
 |zero=>exact Sr
 |succ k ih=>
  refine n6 (C:=Jg k) (O:=O0) KOk (jD (ug Kx) ih) Tryz.func185 (by kernel_rfl) fun args objs res os h=> ?_
  unfold Sq at h
  split at h
  ·rename_i n
   refine⟨1,(Jh k n).trans ?_⟩
   obtain⟨h1,h2⟩:=af h
   cases h2
   rw [Bool.and_eq_true,decide_eq_true_eq]at h1
   obtain⟨hn,hk⟩:=h1
   have hn':=hn
   simp only [bD,Bool.and_eq_true,decide_eq_true_eq]at hn'
   unfold Do
   refine(bl (dF' (by omega))).trans ((bl (dF' (by omega))).trans ?_)
   by_cases c:n<10
   ·refine(aR (dT' c)).trans ?_
    rw [Dp n hn'.1 c,dv,Lib.decDigits,dif_pos (by omega)]
    rfl
   ·have e1:ac (Int.tdiv n 10)=((n.toNat/10:Nat):Int):=by
     rw [Int.tdiv_eq_ediv_of_nonneg hn'.1,w64 (by omega) (by omega)];omega
    have e2:Int.tmod n 10=((n.toNat % 10:Nat):Int):=by
     rw [Int.tmod_eq_emod_of_nonneg hn'.1];omega
    rw [e1,e2]
    have hq:bD ((n.toNat/10:Nat):Int)=true:=by simp only [bD,Bool.and_eq_true,decide_eq_true_eq];omega
    have hl:=gP _ hq
    rw [Dp ((n.toNat % 10:Nat):Int) (by omega) (by omega)]
    refine(bl (dF' c)).trans ((aR ?_).trans ((aR ?_).trans ?_))
    ·rw [hq,Bool.true_and];exact dT' (by omega)
    ·exact dT' (by simp only [List.length_singleton];omega)
    ·rw [dv,dv,Lib.decDigits.eq_1 n.toNat,dif_neg (by omega)]
     simp only [Int.toNat_natCast]
     rfl
  ·cases h
def Su:List AV→List Ob→Br
 | [.int .i64 n],[]=>.ite (bD n) (.ret (.str (bO n)) []) .fail
 |_,_=>.fail
theorem A4:Sound Kx 185 Su:=(Uf 1000000000000000).of fun args objs r h=>by
 unfold Su at h
 split at h
 ·rename_i n
  obtain⟨h1,h2⟩:=af h
  refine(aR ?_).trans h2
  rw [h1,Bool.true_and]
  simp only [bD,Bool.and_eq_true,decide_eq_true_eq]at h1
  exact dT' (by omega)
 ·cases h
def Jl (l:List Fd) (name:aa):Bool:=decide (0< (uD l name).length)
def Pd:List AV→List Ob→Br
 | [.sh (.pair .str .str) l,.str name],[]=>.ite (isM name) (.ret (.bool (Jl l name)) []) .fail
 |_,_=>.fail
theorem Nr:Sound Kx 135 Pd:=iHas_ok.of fun args objs r h=>by
 unfold Pd at h
 split at h
 ·rename_i l name
  obtain⟨h1,h2⟩:=af h
  cases h2
  show(A3 l name).val=_
  unfold A3 Jl
  refine(aR h1).trans ?_
  simp only [Int.natCast_pos]
  rfl
 ·cases h
def smM (me ta re:aa) (fs:List Fd) (bo:aa):Bool:=isM me&&isM ta&&isM re&&smF fs&&isM bo
def Jm (me ta re:aa) (fs:List Fd) (bo:aa):Int:=(me.length:Int)+ta.length+re.length+((fs.length:Int)+f8 fs)+bo.length
def szM (w left:Int):Int:=bif decide (w≤left)then left-w else-1
def Sv:List AV→List Ob→Br
 | [.agg [.str me,.str ta,.int .i64 st,.str re,.bool ba,.sh (.pair .str .str) fs,.str bo],.int .i64 left],[]=>.ite (smM me ta re fs bo&&bZ left) (.ret (.int .i64 (szM (Jm me ta re fs bo) left)) []) .fail
 |_,_=>.fail
theorem Jn:Sound Kx 45 Sv:=szMsg_ok.of fun args objs r h=>by
 unfold Sv at h
 split at h
 case h_2=>cases h
 rename_i me ta st re ba fs bo left
 obtain⟨h1,h2⟩:=af h
 cases h2
 show(uO me ta st re ba fs bo left).val=_
 simp only [smM,Bool.and_eq_true]at h1
 obtain⟨⟨⟨⟨⟨m1,m2⟩,m3⟩,m4⟩,m5⟩,h0⟩:=h1
 have g1:=cv m1
 have g2:=cv m2
 have g3:=cv m3
 have g5:=cv m5
 have h0':=h0
 simp only [bZ,Bool.and_eq_true,decide_eq_true_eq]at h0'
 have ht:=fJ fs
 unfold uO szM Jm
 rw [w64 (n:=left-_) (by omega) (by omega)]
 by_cases c1:left-(me.length:Int)<0
 ·rw [aR (dT' c1),dF' (by omega)];rfl
 rw [bl (dF' c1),w64 (n:=left-_-_) (by omega) (by omega)]
 by_cases c2:left-(me.length:Int)-(ta.length:Int)<0
 ·rw [aR (dT' c2),dF' (by omega)];rfl
 rw [bl (dF' c2),w64 (n:=left-_-_-_) (by omega) (by omega)]
 by_cases c3:left-(me.length:Int)-(ta.length:Int)-(re.length:Int)<0
 ·rw [aR (dT' c3),dF' (by omega)];rfl
 rw [bl (dF' c3)]
 have hk:bZ (left-(me.length:Int)-(ta.length:Int)-(re.length:Int))=true:=by simp only [bZ,Bool.and_eq_true,decide_eq_true_eq];omega
 refine(aR (by rw [m4,hk];rfl)).trans ?_
 unfold I_
 by_cases c4:(fs.length:Int)+f8 fs≤left-(me.length:Int)-(ta.length:Int)-(re.length:Int)
 ·simp only [dT' c4,cond_true]
  rw [w64 (n:=_-(bo.length:Int)) (by omega) (by omega)]
  refine(bl (dF' (by omega))).trans ?_
  by_cases c5:left-(me.length:Int)-(ta.length:Int)-(re.length:Int)-((fs.length:Int)+f8 fs)-(bo.length:Int)<0
  ·rw [aR (dT' c5),dF' (by omega)];rfl
  ·rw [bl (dF' c5),dT' (by omega),cond_true]
   rw [Ip,show left-(me.length:Int)-(ta.length:Int)-(re.length:Int)-((fs.length:Int)+f8 fs)-(bo.length:Int)=left-((me.length:Int)+ta.length+re.length+((fs.length:Int)+f8 fs)+bo.length) by omega]
 ·simp only [dF' c4,cond_false]
  refine(aR (by decide)).trans ?_
  rw [dF' (by omega)];rfl
def Sw:List AV→List Ob→Br
 | [.agg [.str me,.str ta,.int .i64 st,.str re,.bool ba,.sh (.pair .str .str) fs,.str bo],.agg [.str me2,.str ta2,.int .i64 st2,.str re2,.bool ba2,.sh (.pair .str .str) fs2,.str bo2]],[]=>
   .ite (decide (me=me2)&&decide (ta=ta2)&&decide (st=st2)&&decide (re=re2)&&decide (ba=ba2)&&decide (fs=fs2)&&decide (bo=bo2)&&decide (fs.length≤1048576)) (.ret (.bool true) []) .fail
 |_,_=>.fail
theorem Jo:Sound Kx 53 Sw:=eqMsg_ok.of fun args objs r h=>by
 unfold Sw at h
 split at h
 case h_2=>cases h
 obtain⟨h1,h2⟩:=af h
 cases h2
 simp only [Bool.and_eq_true,decide_eq_true_eq]at h1
 obtain⟨⟨⟨⟨⟨⟨⟨rfl,rfl⟩,rfl⟩,rfl⟩,rfl⟩,rfl⟩,rfl⟩,hl⟩:=h1
 rename_i me ta st re ba fs bo
 show(uP me ta st re ba fs bo me ta st re ba fs bo).val=_
 unfold uP
 simp only [decide_true,Bool.not_true,beq_self_eq_true]
 refine(bl rfl).trans ((bl rfl).trans ((bl rfl).trans ((bl rfl).trans ((bl rfl).trans ((aR (dT' (by omega))).trans ((bl rfl).trans ((bl rfl).trans ?_)))))))
 rfl
def Jp:Opt:={live:=[(5,[1,3,4])],outs:=[(5,[1,2,3])],split:=true}
def sHead_C:SC:=[⟨185,_,A4⟩,⟨186,_,qI⟩]
def mZ (aI:aa) (aU:Int) (aH cK:aa) (lr:Int) (zT:aa) (vD:Bool) (jp:(List Fd)) (zU:aa) (U8:aa→Int→aa→aa→Int→aa→Bool→(List Fd)→aa→OR') (cJ:aa→aa→aa→Int→aa→Bool→(List Fd)→aa→OR'):OR':=
 (bif(decide (aU< (jp.length:Int)))then(bif(decide (0≤aU))then(bif(decide (aU< (jp.length:Int)))then(bif(decide ((aI.length+(List.length (bif(jK ((List.getD jp (Int.toNat aU) (([]:aa),([]:aa))).1,(List.getD jp (Int.toNat aU) (([]:aa),([]:aa))).2))then(gl ((List.getD jp (Int.toNat aU) (([]:aa),([]:aa))).1,(List.getD jp (Int.toNat aU) (([]:aa),([]:aa))).2))else([]:aa))))≤9223372036854775807))then(bif(decide (((List.length (aI++(bif(jK ((List.getD jp (Int.toNat aU) (([]:aa),([]:aa))).1,(List.getD jp (Int.toNat aU) (([]:aa),([]:aa))).2))then(gl ((List.getD jp (Int.toNat aU) (([]:aa),([]:aa))).1,(List.getD jp (Int.toNat aU) (([]:aa),([]:aa))).2))else([]:aa))))+2)≤9223372036854775807))then(U8 ((aI++(bif(jK ((List.getD jp (Int.toNat aU) (([]:aa),([]:aa))).1,(List.getD jp (Int.toNat aU) (([]:aa),([]:aa))).2))then(gl ((List.getD jp (Int.toNat aU) (([]:aa),([]:aa))).1,(List.getD jp (Int.toNat aU) (([]:aa),([]:aa))).2))else([]:aa)))++([13,10]:aa)) (ac (aU+1)) aH cK lr zT vD jp zU)else(none))else(none))else(none))else(none))else(cJ aI aH cK lr zT vD jp zU))
def ed:Nat→aa→Int→aa→aa→Int→aa→Bool→(List Fd)→aa→(aa→aa→aa→Int→aa→Bool→(List Fd)→aa→OR')→OR'
 |0,_,_,_,_,_,_,_,_,_,_=>none
 |n+1,aI,aU,aH,cK,lr,zT,vD,jp,zU,cJ=>mZ aI aU aH cK lr zT vD jp zU (fun aI aU aH cK lr zT vD jp zU=>ed n aI aU aH cK lr zT vD jp zU cJ) cJ
abbrev sHead_p5:SP:=⟨68,[1,3,4],[(.v (.ptr 128 0)),(.v .s),(.v (.i .i64))],[(128,.var [.s,.s,(.i .i64),.s,.b,(.sh (Ty.pair Ty.str Ty.str)),.s])]⟩
noncomputable def Dr:Code:=ax (aD Tryz.f129) [1,1,1,0,1,0,0]
def Ds (f:(aa→aa→aa→Int→aa→Bool→(List Fd)→aa→OR')→OR') (k:KT):OR':=f (fun am b6 dt qp Mj qq Ml bv=>k (Ex.exit 0) ((St.mk (aw 0 68 [(1,(AV.ptr 128 0)),(3,(AV.str am))]) ((128,(Ob.var ((AV.str b6)::((AV.str dt)::((AV.int .i64 qp)::((AV.str Mj)::((AV.bool qq)::((AV.sh (Ty.pair Ty.str Ty.str) Ml)::((AV.str bv)::[])))))))))::([]:(List (Nat×(Ob))))))))
def Dt (n:Nat) (d:sHead_p5.D):KT→OR':=Ds (ed n d.1.2.1 d.1.2.2.1 d.2.1.1 d.2.1.2.1 d.2.1.2.2.1 d.2.1.2.2.2.1 d.2.1.2.2.2.2.1 d.2.1.2.2.2.2.2.1 d.2.1.2.2.2.2.2.2.1)
def Jq (N:Nat):Lam:=bf [⟨5,sHead_p5,Dt N⟩]
theorem Jr (N:Nat):OkL Kx sHead_C.s Jp 0 N (Jq N) Dr:=okL sHead_p5 (Dt) (fun d kR=>Ds (mZ d.1.2.1 d.1.2.2.1 d.2.1.1 d.2.1.2.1 d.2.1.2.2.1 d.2.1.2.2.2.1 d.2.1.2.2.2.2.1 d.2.1.2.2.2.2.2.1 d.2.1.2.2.2.2.2.2.1 (fun aI aU aH cK lr zT vD jp zU=>kR (((),aI,aU,()),((aH,cK,lr,zT,vD,jp,zU,()),()))))) (fun _ _=>by kernel_rfl) (fun _ _ _=>by kernel_rfl) (fun _ _=>by kernel_rfl) (fun _ _ _ _=>by kernel_rfl) (ah (l':=[]) (by kernel_rfl) trivial)
abbrev a8 (am):=(am++([67,111,110,116,101,110,116,45,76,101,110,103,116,104,58,32]:aa))
def xO (N:Nat) (me ta:aa) (st:Int) (re:aa) (ba:Bool) (fs:List Fd) (bo:aa):OR':=(bif(decide ((me.length+1)≤9223372036854775807))then(bif(decide (((List.length (me++([32]:aa)))+ta.length)≤9223372036854775807))then(bif(decide (((List.length ((me++([32]:aa))++ta))+11)≤9223372036854775807))then(bif(decide (me=([]:aa)))then(bif(bD st)then(bif(decide ((9+(List.length (bO st)))≤9223372036854775807))then(bif(decide (((List.length (([72,84,84,80,47,49,46,49,32]:aa)++(bO st)))+1)≤9223372036854775807))then(bif(decide (((List.length ((([72,84,84,80,47,49,46,49,32]:aa)++(bO st))++([32]:aa)))+re.length)≤9223372036854775807))then(bif(decide (((List.length (((([72,84,84,80,47,49,46,49,32]:aa)++(bO st))++([32]:aa))++re))+2)≤9223372036854775807))then(ed N ((((([72,84,84,80,47,49,46,49,32]:aa)++(bO st))++([32]:aa))++re)++([13,10]:aa)) 0 me ta st re ba fs bo (fun am=>(fun b6=>(fun dt=>(fun qp=>(fun Mj=>(fun qq=>(fun Ml=>(fun bv=>(bif(!(decide (b6=([]:aa))))then(bif(!(decide (bv=([]:aa))))then(bif(decide ((am.length+16)≤9223372036854775807))then(bif(bD (bv.length:Int))then(bif(decide (((List.length (a8 am))+(List.length (bO (bv.length:Int))))≤9223372036854775807))then(bif(decide (((List.length ((a8 am)++(bO (bv.length:Int))))+2)≤9223372036854775807))then(bif(decide (((List.length (((a8 am)++(bO (bv.length:Int)))++([13,10]:aa)))+2)≤9223372036854775807))then(some ((AV.str ((((a8 am)++(bO (bv.length:Int)))++([13,10]:aa))++([13,10]:aa))),[]))else(none))else(none))else(none))else(none))else(none))else(bif(decide (b6=([]:aa)))then(bif(!qq)then(bif(decide ((am.length+16)≤9223372036854775807))then(bif(bD (bv.length:Int))then(bif(decide (((List.length (a8 am))+(List.length (bO (bv.length:Int))))≤9223372036854775807))then(bif(decide (((List.length ((a8 am)++(bO (bv.length:Int))))+2)≤9223372036854775807))then(bif(decide (((List.length (((a8 am)++(bO (bv.length:Int)))++([13,10]:aa)))+2)≤9223372036854775807))then(some ((AV.str ((((a8 am)++(bO (bv.length:Int)))++([13,10]:aa))++([13,10]:aa))),[]))else(none))else(none))else(none))else(none))else(none))else(bif(decide ((am.length+2)≤9223372036854775807))then(some ((AV.str (am++([13,10]:aa))),[]))else(none)))else(bif(decide ((am.length+2)≤9223372036854775807))then(some ((AV.str (am++([13,10]:aa))),[]))else(none))))else(bif(decide (b6=([]:aa)))then(bif(!qq)then(bif(decide ((am.length+16)≤9223372036854775807))then(bif(bD (bv.length:Int))then(bif(decide (((List.length (a8 am))+(List.length (bO (bv.length:Int))))≤9223372036854775807))then(bif(decide (((List.length ((a8 am)++(bO (bv.length:Int))))+2)≤9223372036854775807))then(bif(decide (((List.length (((a8 am)++(bO (bv.length:Int)))++([13,10]:aa)))+2)≤9223372036854775807))then(some ((AV.str ((((a8 am)++(bO (bv.length:Int)))++([13,10]:aa))++([13,10]:aa))),[]))else(none))else(none))else(none))else(none))else(none))else(bif(decide ((am.length+2)≤9223372036854775807))then(some ((AV.str (am++([13,10]:aa))),[]))else(none)))else(bif(decide ((am.length+2)≤9223372036854775807))then(some ((AV.str (am++([13,10]:aa))),[]))else(none)))))))))))))else(none))else(none))else(none))else(none))else(none))else(ed N (((me++([32]:aa))++ta)++([32,72,84,84,80,47,49,46,49,13,10]:aa)) 0 me ta st re ba fs bo (fun am=>(fun b6=>(fun dt=>(fun qp=>(fun Mj=>(fun qq=>(fun Ml=>(fun bv=>(bif(!(decide (b6=([]:aa))))then(bif(!(decide (bv=([]:aa))))then(bif(decide ((am.length+16)≤9223372036854775807))then(bif(bD (bv.length:Int))then(bif(decide (((List.length (a8 am))+(List.length (bO (bv.length:Int))))≤9223372036854775807))then(bif(decide (((List.length ((a8 am)++(bO (bv.length:Int))))+2)≤9223372036854775807))then(bif(decide (((List.length (((a8 am)++(bO (bv.length:Int)))++([13,10]:aa)))+2)≤9223372036854775807))then(some ((AV.str ((((a8 am)++(bO (bv.length:Int)))++([13,10]:aa))++([13,10]:aa))),[]))else(none))else(none))else(none))else(none))else(none))else(bif(decide (b6=([]:aa)))then(bif(!qq)then(bif(decide ((am.length+16)≤9223372036854775807))then(bif(bD (bv.length:Int))then(bif(decide (((List.length (a8 am))+(List.length (bO (bv.length:Int))))≤9223372036854775807))then(bif(decide (((List.length ((a8 am)++(bO (bv.length:Int))))+2)≤9223372036854775807))then(bif(decide (((List.length (((a8 am)++(bO (bv.length:Int)))++([13,10]:aa)))+2)≤9223372036854775807))then(some ((AV.str ((((a8 am)++(bO (bv.length:Int)))++([13,10]:aa))++([13,10]:aa))),[]))else(none))else(none))else(none))else(none))else(none))else(bif(decide ((am.length+2)≤9223372036854775807))then(some ((AV.str (am++([13,10]:aa))),[]))else(none)))else(bif(decide ((am.length+2)≤9223372036854775807))then(some ((AV.str (am++([13,10]:aa))),[]))else(none))))else(bif(decide (b6=([]:aa)))then(bif(!qq)then(bif(decide ((am.length+16)≤9223372036854775807))then(bif(bD (bv.length:Int))then(bif(decide (((List.length (a8 am))+(List.length (bO (bv.length:Int))))≤9223372036854775807))then(bif(decide (((List.length ((a8 am)++(bO (bv.length:Int))))+2)≤9223372036854775807))then(bif(decide (((List.length (((a8 am)++(bO (bv.length:Int)))++([13,10]:aa)))+2)≤9223372036854775807))then(some ((AV.str ((((a8 am)++(bO (bv.length:Int)))++([13,10]:aa))++([13,10]:aa))),[]))else(none))else(none))else(none))else(none))else(none))else(bif(decide ((am.length+2)≤9223372036854775807))then(some ((AV.str (am++([13,10]:aa))),[]))else(none)))else(bif(decide ((am.length+2)≤9223372036854775807))then(some ((AV.str (am++([13,10]:aa))),[]))else(none))))))))))))))else(none))else(none))else(none))
def xP (φ:aa→aa→Int→aa→Bool→(List Fd)→aa→Br):List AV→List Ob→Br
 | [.agg [.str me,.str ta,.int .i64 st,.str re,.bool ba,.sh (.pair .str .str) fs,.str bo]],[]=>φ me ta st re ba fs bo
 |_,_=>.fail
theorem Gj {φ:aa→aa→Int→aa→Bool→(List Fd)→aa→Br} (fu:aa→aa→Int→aa→Bool→(List Fd)→aa→Nat) (hv: ∀me ta st re ba fs bo res_,(φ me ta st re ba fs bo).val=some res_→xO (fu me ta st re ba fs bo) me ta st re ba fs bo=some res_):Sound Kx 129 (xP φ):=aj (C:=sHead_C) (O:=Jp) Tryz.func129 (by kernel_rfl) fun args objs=>by
 unfold xP;split
 ·rename_i me ta st re ba fs bo;exact .inr fun _ hyp_=>aO (Λ:=Jq (fu me ta st re ba fs bo)) (by kernel_rfl) (ah (l':=[Dr]) (by kernel_rfl) ⟨Jr _,trivial⟩) (by kernel_rfl) (hv me ta st re ba fs bo _ hyp_)
 ·exact .inl rfl
def Du:Opt:={live:=[(4,[1,21,22,23])],outs:=[(4,[1,2])]}
def iMsgOk_C:SC:=[⟨89,_,dA⟩,⟨134,_,Gi⟩,⟨135,_,Nr⟩,⟨136,_,xl⟩,⟨137,_,xg⟩,⟨138,_,wE⟩,⟨139,_,xf⟩,⟨140,_,mB⟩,⟨141,_,Dn⟩]
def pf (ar aE:Int) (ay cx:aa) (fe:Int) (zP:aa) (vv:Bool) (vE:(List Fd)) (zQ:aa) (vF:(List aa)) (U9:Int→Int→aa→aa→Int→aa→Bool→(List Fd)→aa→(List aa)→OR') (bQ dm:aa→aa→Int→aa→Bool→(List Fd)→aa→OR'):OR':=
 (bif(decide (aE<ar))then(bif(decide (0≤aE))then(bif(decide (aE< (vF.length:Int)))then(bif(isM (List.getD vF (Int.toNat aE) ([]:aa)))then(bif(Jl vE (List.getD vF (Int.toNat aE) ([]:aa)))then(bQ ay cx fe zP vv vE zQ)else(U9 ar (ac (aE+1)) ay cx fe zP vv vE zQ vF))else(none))else(none))else(none))else(dm ay cx fe zP vv vE zQ))
def eK:Nat→Int→Int→aa→aa→Int→aa→Bool→(List Fd)→aa→(List aa)→(aa→aa→Int→aa→Bool→(List Fd)→aa→OR')→(aa→aa→Int→aa→Bool→(List Fd)→aa→OR')→OR'
 |0,_,_,_,_,_,_,_,_,_,_,_,_=>none
 |n+1,ar,aE,ay,cx,fe,zP,vv,vE,zQ,vF,bQ,dm=>pf ar aE ay cx fe zP vv vE zQ vF (fun ar aE ay cx fe zP vv vE zQ vF=>eK n ar aE ay cx fe zP vv vE zQ vF bQ dm) bQ dm
abbrev iMsgOk_p4:SP:=⟨97,[1,21,22,23],[(.v (.ptr 128 0)),(.v (.ref 1408 0)),(.v (.i .i64)),(.v (.i .i64))],[(128,.var [.s,.s,(.i .i64),.s,.b,(.sh (Ty.pair Ty.str Ty.str)),.s]),(1408,.arr Ty.str 0 false)]⟩
noncomputable def xQ:Code:=ax (aD Tryz.f90) [1,1,0,1,0,0]
def xR (f:(aa→aa→Int→aa→Bool→(List Fd)→aa→OR')→(aa→aa→Int→aa→Bool→(List Fd)→aa→OR')→OR') (k:KT):OR':=f (fun bN mu PP PQ PR PS PT=>k Ex.ret ((St.mk (aw 0 97 [(1,(AV.ptr 128 0)),(2,(AV.bool false))]) ((128,(Ob.var ((AV.str bN)::((AV.str mu)::((AV.int .i64 PP)::((AV.str PQ)::((AV.bool PR)::((AV.sh (Ty.pair Ty.str Ty.str) PS)::((AV.str PT)::[])))))))))::([]:(List (Nat×(Ob)))))))) (fun bE ce dy ef gy fV eX=>k (Ex.exit 0) ((St.mk (aw 0 97 [(1,(AV.ptr 128 0))]) ((128,(Ob.var ((AV.str bE)::((AV.str ce)::((AV.int .i64 dy)::((AV.str ef)::((AV.bool gy)::((AV.sh (Ty.pair Ty.str Ty.str) fV)::((AV.str eX)::[])))))))))::([]:(List (Nat×(Ob))))))))
def xS (n:Nat) (d:iMsgOk_p4.D):KT→OR':=xR (eK n d.1.2.2.1 d.1.2.2.2.1 d.2.1.1 d.2.1.2.1 d.2.1.2.2.1 d.2.1.2.2.2.1 d.2.1.2.2.2.2.1 d.2.1.2.2.2.2.2.1 d.2.1.2.2.2.2.2.2.1 d.2.2.1)
def Dv (N:Nat):Lam:=bf [⟨4,iMsgOk_p4,xS N⟩]
theorem Gk (N:Nat):OkL Kx iMsgOk_C.s Du 0 N (Dv N) xQ:=okL iMsgOk_p4 (xS) (fun d kR=>xR (pf d.1.2.2.1 d.1.2.2.2.1 d.2.1.1 d.2.1.2.1 d.2.1.2.2.1 d.2.1.2.2.2.1 d.2.1.2.2.2.2.1 d.2.1.2.2.2.2.2.1 d.2.1.2.2.2.2.2.2.1 d.2.2.1 (fun ar aE ay cx fe zP vv vE zQ vF=>kR (((),(),ar,aE,()),((ay,cx,fe,zP,vv,vE,zQ,()),vF,()))))) (fun _ _=>by kernel_rfl) (fun _ _ _=>by kernel_rfl) (fun _ _=>by kernel_rfl) (fun _ _ _ _=>by kernel_rfl) (ah (l':=[]) (by kernel_rfl) trivial)
def si (N:Nat) (me ta:aa) (st:Int) (re:aa) (ba:Bool) (fs:List Fd) (bo:aa):OR':=(bif(!(b9 fs))then(some ((AV.bool false),[]))else(bif(decide (20≤(fs.length:Int)))then(some ((AV.bool false),[]))else(bif(decide (600< (bo.length:Int)))then(some ((AV.bool false),[]))else(eK N 3 0 me ta st re ba fs bo (List.set (List.set (List.set (List.replicate 3 ([]:aa)) 0 ([99,111,110,116,101,110,116,45,108,101,110,103,116,104]:aa)) 1 ([116,114,97,110,115,102,101,114,45,101,110,99,111,100,105,110,103]:aa)) 2 ([116,114,97,105,108,101,114]:aa)) (fun bN=>(fun mu=>(fun PP=>(fun PQ=>(fun PR=>(fun PS=>(fun PT=>(some ((AV.bool false),[]))))))))) (fun bE=>(fun ce=>(fun dy=>(fun ef=>(fun gy=>(fun fV=>(fun eX=>(bif(!(decide (bE=([]:aa))))then(bif(!(iZ bE))then(some ((AV.bool false),[]))else(bif(!(iT ce))then(some ((AV.bool false),[]))else(bif(!(decide (dy=0)))then(some ((AV.bool false),[]))else(bif(!(decide (ef=([]:aa))))then(some ((AV.bool false),[]))else(bif gy then(some ((AV.bool false),[]))else(bif(hdG bE ce dy ef fV eX)then(some ((AV.bool (decide (((List.length (dS bE ce dy ef gy fV eX)):Int)≤1500))),[]))else(none)))))))else(bif(!(decide (ce=([]:aa))))then(some ((AV.bool false),[]))else(bif(!(FP dy))then(some ((AV.bool false),[]))else(bif(!(iS ef))then(some ((AV.bool false),[]))else(bif gy then(bif(!(decide (eX=([]:aa))))then(some ((AV.bool false),[]))else(bif(uk dy)then(bif(!gy)then(some ((AV.bool false),[]))else(bif(hdG bE ce dy ef fV eX)then(some ((AV.bool (decide (((List.length (dS bE ce dy ef gy fV eX)):Int)≤1500))),[]))else(none)))else(bif(hdG bE ce dy ef fV eX)then(some ((AV.bool (decide (((List.length (dS bE ce dy ef gy fV eX)):Int)≤1500))),[]))else(none))))else(bif(uk dy)then(bif(!gy)then(some ((AV.bool false),[]))else(bif(hdG bE ce dy ef fV eX)then(some ((AV.bool (decide (((List.length (dS bE ce dy ef gy fV eX)):Int)≤1500))),[]))else(none)))else(bif(hdG bE ce dy ef fV eX)then(some ((AV.bool (decide (((List.length (dS bE ce dy ef gy fV eX)):Int)≤1500))),[]))else(none)))))))))))))))))))
def sj (φ:aa→aa→Int→aa→Bool→(List Fd)→aa→Br):List AV→List Ob→Br
 | [.agg [.str me,.str ta,.int .i64 st,.str re,.bool ba,.sh (.pair .str .str) fs,.str bo]],[]=>φ me ta st re ba fs bo
 |_,_=>.fail
theorem A5 {φ:aa→aa→Int→aa→Bool→(List Fd)→aa→Br} (fu:aa→aa→Int→aa→Bool→(List Fd)→aa→Nat) (hv: ∀me ta st re ba fs bo res_,(φ me ta st re ba fs bo).val=some res_→si (fu me ta st re ba fs bo) me ta st re ba fs bo=some res_):Sound Kx 90 (sj φ):=aj (C:=iMsgOk_C) (O:=Du) Tryz.func90 (by kernel_rfl) fun args objs=>by
 unfold sj;split
 ·rename_i me ta st re ba fs bo;exact .inr fun _ hyp_=>aO (Λ:=Dv (fu me ta st re ba fs bo)) (by kernel_rfl) (ah (l':=[xQ]) (by kernel_rfl) ⟨Gk _,trivial⟩) (by kernel_rfl) (hv me ta st re ba fs bo _ hyp_)
 ·exact .inl rfl
theorem dle {a b:Nat} (h:a≤b):decide (a≤b)=true:=dT' h
theorem Gl (me ta re:aa) (st:Int) (ba:Bool) (fs:List Fd) (bo:aa) (hl:fs.length≤20) (k:aa→aa→aa→Int→aa→Bool→List Fd→aa→OR'): ∀(r:List Fd) (i:Int) (n:Nat) (s:aa),At fs i r→r.length<n→(∀f∈r,jK f=true)→s.length+300*r.length≤100000→
 ed n s i me ta st re ba fs bo k=k (s++cw r) me ta st re ba fs bo:=by
 intro r;induction r with
 |nil=>intro i n s h hn hf hs;obtain⟨n,rfl⟩:=bh hn;unfold ed mZ;simp only [h.dge,cond_false,cw,List.append_nil]
 |cons a r ih=>
  intro i n s h hn hf hs;obtain⟨n,rfl⟩:=bh hn
  have ha:=hf a (List.mem_cons_self ..)
  have hz:=fF ha
  have hr:=fun f h=>hf f (List.mem_cons_of_mem _ h)
  simp only [List.length_cons]at hn hs
  have e0:(gl a).length≤240:=by simp only [gl,List.length_append,List.length_cons];omega
  unfold ed mZ
  simp (disch:=omega) only [h.dlt,h.dnn,h.get,h.next (by omega),UZ,ha,cond_true,List.length_append,dle]
  rw [ih (i+1) n _ h.step (by omega) hr (by simp only [List.length_append,List.length_cons,List.length_nil];omega)]
  simp only [cw,pc,List.append_assoc]
theorem Sx {me ta re bo:aa} {st:Int} {fs:List Fd} (h:hdG me ta st re fs bo=true):me.length≤20∧ta.length≤200∧bD st=true∧re.length≤40∧b9 fs=true∧bo.length≤600:=by
 simp only [hdG,Bool.and_eq_true,decide_eq_true_eq]at h
 obtain⟨⟨⟨⟨⟨g1,g2⟩,g3⟩,g4⟩,g5⟩,g6⟩:=h
 exact⟨g1,g2,g3,g4,g5,g6⟩
theorem xT:Sound Kx 129 Dm:=by
 refine(Gj (φ:=fun me ta st re ba fs bo=>.ite (hdG me ta st re fs bo) (.ret (.str (dS me ta st re ba fs bo)) []) .fail) (fun _ _ _ _ _ fs _=>fs.length+1) fun me ta st re ba fs bo r h=> ?_).of fun args objs r h=> ?_
 ·obtain⟨h1,h2⟩:=af h
  cases h2
  obtain⟨g1,g2,g3,g4,g5,g6⟩:=Sx h1
  obtain⟨g7,g8⟩:=cO g5
  have y1:=dK fs g8
  have y2:=gP st g3
  have hN:bD (bo.length:Int)=true:=by simp only [bD,Bool.and_eq_true,decide_eq_true_eq];omega
  have y3:=gP _ hN
  have big: ∀(s:aa),s.length≤600→ed (fs.length+1) s 0 me ta st re ba fs bo=fun k=>k (s++cw fs) me ta st re ba fs bo:=fun s hs=>by
   funext k
   exact Gl me ta re st ba fs bo g7 k fs 0 _ s (At.start fs) (by omega) g8 (by omega)
  have hne: ∀(b:Bool),(b&& !b)=false:=by intro b;cases b<;>rfl
  unfold xO dS cT clP a8
  cases hm:decide (me=[])<;>cases hb:decide (bo=[])<;>cases ba
  all_goals
   simp (disch:=(first|omega|(simp only [List.length_append,List.length_cons,List.length_nil];omega))) only [big,List.length_append,List.length_cons,List.length_nil,dle,cond_true,cond_false,hm,hb,g3,hN,Bool.not_true,Bool.not_false,Bool.true_and,Bool.false_and,Bool.and_true,Bool.and_false,Bool.or_false,Bool.false_or,Bool.or_true,Bool.true_or]
   simp only [List.append_assoc,List.cons_append,List.nil_append,List.append_nil]
 ·unfold Dm at h;split at h
  ·exact h
  ·cases h
def QH (fs:List Fd):Bool:=Jl fs frC||Jl fs frT||Jl fs frR
def pg (me ta:aa) (st:Int) (re:aa) (ba:Bool) (bo:aa):Bool:=bif decide (me=[])then Nk ta st re ba bo else O7 me ta st re ba
def cU (me ta:aa) (st:Int) (re:aa) (ba:Bool) (fs:List Fd) (bo:aa):Bool:=
 b9 fs&& !decide (20≤(fs.length:Int))&& !decide (600< (bo.length:Int))&& !QH fs&&pg me ta st re ba bo&&decide (((dS me ta st re ba fs bo).length:Int)≤1500)
theorem A6 (me ta re:aa) (st:Int) (ba:Bool) (fs:List Fd) (bo:aa) (k0 k1:aa→aa→Int→aa→Bool→List Fd→aa→OR'):
 eK 4 3 0 me ta st re ba fs bo [frC,frT,frR] k0 k1=bif QH fs then k0 me ta st re ba fs bo else k1 me ta st re ba fs bo:=by
 have e0:ac (0+1)=1:=by rw [w64 (by decide) (by decide)];rfl
 have e1:ac (1+1)=2:=by rw [w64 (by decide) (by decide)];rfl
 have e2:ac (2+1)=3:=by rw [w64 (by decide) (by decide)];rfl
 have m0:isM frC=true:=aW (n:=20) (by decide)
 have m1:isM frT=true:=aW (n:=20) (by decide)
 have m2:isM frR=true:=aW (n:=20) (by decide)
 have l3:([frC,frT,frR]:List aa).length=3:=rfl
 have t0:([frC,frT,frR]:List aa).getD (0:Int).toNat []=frC:=rfl
 have t1:([frC,frT,frR]:List aa).getD (1:Int).toNat []=frT:=rfl
 have t2:([frC,frT,frR]:List aa).getD (2:Int).toNat []=frR:=rfl
 unfold QH
 simp only [eK,pf,e0,e1,e2,t0,t1,t2,m0,m1,m2,l3,Int.reduceLT,Int.reduceLE,Int.ofNat_eq_natCast,Int.cast_ofNat_Int,decide_true,decide_false,cond_true,cond_false]
 cases Jl fs frC<;>cases Jl fs frT<;>cases Jl fs frR<;>rfl
theorem Js {me ta re bo:aa} {st:Int} {ba:Bool} {fs:List Fd} (hf:b9 fs=true) (hb: ¬(600< (bo.length:Int))) (h:pg me ta st re ba bo=true):hdG me ta st re fs bo=true:=by
 unfold pg at h
 simp only [hdG,Bool.and_eq_true,decide_eq_true_eq]
 by_cases hm:me=[]
 ·rw [dT' hm,cond_true]at h
  simp only [Nk,FP,iS,Bool.and_eq_true,decide_eq_true_eq]at h
  subst hm
  obtain⟨⟨⟨⟨rfl,hs⟩,hr,_⟩,_⟩,_⟩:=h
  exact⟨⟨⟨⟨⟨by decide,by decide⟩,by simp only [bD,Bool.and_eq_true,decide_eq_true_eq];omega⟩,hr⟩,hf⟩,by omega⟩
 ·rw [dF' hm,cond_false]at h
  simp only [O7,iZ,iT,Bool.and_eq_true,decide_eq_true_eq]at h
  obtain⟨⟨⟨⟨h1,h2⟩,rfl⟩,rfl⟩,_⟩:=h
  exact⟨⟨⟨⟨⟨by omega,by omega⟩,by decide⟩,by decide⟩,hf⟩,by omega⟩
def Dw:List AV→List Ob→Br:=O8 fun m=>.bool (cU m.1 m.2.1 m.2.2.1 m.2.2.2.1 m.2.2.2.2.1 m.2.2.2.2.2.1 m.2.2.2.2.2.2)
theorem sk:Sound Kx 90 Dw:=by
 refine(A5 (φ:=fun me ta st re ba fs bo=>.ret (.bool (cU me ta st re ba fs bo)) []) (fun _ _ _ _ _ _ _=>4) fun me ta st re ba fs bo r h=> ?_).of fun args objs r h=> ?_
 ·cases h
  unfold si cU
  have big: ∀k0 k1,eK 4 3 0 me ta st re ba fs bo (List.set (List.set (List.set (List.replicate 3 []) 0 [99,111,110,116,101,110,116,45,108,101,110,103,116,104]) 1 [116,114,97,110,115,102,101,114,45,101,110,99,111,100,105,110,103]) 2 [116,114,97,105,108,101,114]) k0 k1=_:=A6 me ta re st ba fs bo
  rw [big]
  cases hf:b9 fs
  ·rfl
  cases h1:decide (20≤(fs.length:Int))
  case true=>rfl
  cases h2:decide (600< (bo.length:Int))
  case true=>rfl
  cases h3:QH fs
  case true=>rfl
  have h2':=of_decide_eq_false h2
  simp only [Bool.not_true,Bool.not_false,cond_true,cond_false,Bool.true_and]
  have hg:=fun h=>Js (me:=me) (ta:=ta) (st:=st) (re:=re) (ba:=ba) hf h2' h
  unfold pg O7 Nk at hg⊢
  cases hm:decide (me=[])
  ·rw [hm]at hg
   simp only [cond_false]at hg⊢
   revert hg
   cases iZ me<;>cases iT ta<;>cases decide (st=0)<;>cases decide (re=[])<;>cases ba<;>intro hg<;>first|rfl|(rw [hg rfl];rfl)
  ·rw [hm]at hg
   simp only [cond_true]at hg⊢
   revert hg
   cases decide (ta=[])<;>cases FP st<;>cases iS re<;>cases decide (bo=[])<;>cases ba<;>cases uk st<;>intro hg<;>first|rfl|(rw [hg rfl];rfl)
 ·unfold Dw O8 at h;split at h
  ·exact h
  ·cases h
def Ns:SC:=[⟨129,_,xT⟩,⟨82,_,dB⟩,⟨126,_,AZ⟩,⟨127,_,xm⟩,⟨128,_,AT⟩]
def ph (me ta:aa) (st:Int) (re:aa) (ba:Bool) (fs:List Fd) (bo:aa):Br:=(Br.ite (!(b9 fs)) (Br.ret (AV.bool false) []) (Br.ite (decide ((fs.length:Int)=20)) (Br.ret (AV.bool false) []) (Br.ite (b9 fs) (Br.ite (List.any fs Nn) (Br.ret (AV.bool false) []) (Br.ite (decide (600< (bo.length:Int))) (Br.ret (AV.bool false) []) (Br.ite (!(decide (me=([]:aa)))) (Br.ite (!(O7 me ta st re ba)) (Br.ret (AV.bool false) []) (Br.ite (decide (me=([]:aa))) (Br.ite (!(Nk ta st re ba bo)) (Br.ret (AV.bool false) []) (Br.ite (hdG me ta st re fs bo) (Br.ret (AV.bool (decide (((List.length (dS me ta st re ba fs bo)):Int)≤1500))) []) Br.fail)) (Br.ite (hdG me ta st re fs bo) (Br.ret (AV.bool (decide (((List.length (dS me ta st re ba fs bo)):Int)≤1500))) []) Br.fail))) (Br.ite (decide (me=([]:aa))) (Br.ite (!(Nk ta st re ba bo)) (Br.ret (AV.bool false) []) (Br.ite (hdG me ta st re fs bo) (Br.ret (AV.bool (decide (((List.length (dS me ta st re ba fs bo)):Int)≤1500))) []) Br.fail)) (Br.ite (hdG me ta st re fs bo) (Br.ret (AV.bool (decide (((List.length (dS me ta st re ba fs bo)):Int)≤1500))) []) Br.fail))))) Br.fail)))
def Dx:List AV→List Ob→Br
 | [.agg [.str me,.str ta,.int .i64 st,.str re,.bool ba,.sh (.pair .str .str) fs,.str bo]],[]=>ph me ta st re ba fs bo
 |_,_=>.fail
theorem sMsgOk_ok:Sound Kx 83 Dx:=ae (C:=Ns) (O:=O0) Tryz.func83 (by kernel_rfl) fun args objs=>by
 unfold Dx;split
 ·exact .inr (by kernel_rfl)
 ·exact .inl rfl
theorem sl {α:Type} (p:α→Bool): ∀l:List α,decide (0< (l.filter p).length)=l.any p
 | []=>rfl
 |a::r=>by
  rw [List.filter_cons,List.any_cons]
  cases h:p a
  ·simp only [Bool.false_eq_true,if_false,Bool.false_or];exact sl p r
  ·simp
theorem uQ {fs:List Fd} (h:b9 fs=true) (name:aa):Jl fs name=fs.any fun f=>qD f.1 name:=by
 unfold Jl uD mD
 rw [h,cond_true,List.length_map,sl]
theorem Jt {α:Type} (p q:α→Bool): ∀l:List α,(l.any p||l.any q)=l.any fun a=>p a||q a
 | []=>rfl
 |a::r=>by
  simp only [List.any_cons,←Jt p q r]
  cases p a<;>cases q a<;>cases r.any p<;>cases r.any q<;>rfl
theorem Ug:aJ frC=frC:=by decide
theorem Uh:aJ frT=frT:=by decide
theorem Ui:aJ frR=frR:=by decide
theorem QI {fs:List Fd} (h:b9 fs=true):fs.any Nn=QH fs:=by
 unfold QH
 rw [uQ h,uQ h,uQ h,Jt,Jt]
 exact congrArg _ (funext fun f=>by unfold Nn qD;rw [Ug,Uh,Ui])
theorem sn:Sound Kx 83 Dw:=sMsgOk_ok.of fun args objs r h=>by
 unfold Dw O8 at h
 split at h
 case h_2=>cases h
 cases h
 rename_i me ta st re ba fs bo
 show(ph me ta st re ba fs bo).val=some (.bool (cU me ta st re ba fs bo),[])
 unfold ph cU
 cases hf:b9 fs
 ·rfl
 obtain⟨hl,_⟩:=cO hf
 have e20:decide ((fs.length:Int)=20)=decide (20≤(fs.length:Int)):=by congr 1;apply propext;omega
 rw [e20,QI hf]
 cases h1:decide (20≤(fs.length:Int))
 case true=>rfl
 cases h3:QH fs
 case true=>cases decide (600< (bo.length:Int))<;>rfl
 cases h2:decide (600< (bo.length:Int))
 case true=>rfl
 have h2':=of_decide_eq_false h2
 simp only [Bool.not_true,Bool.not_false,Bool.true_and]
 refine(bl rfl).trans ((bl rfl).trans ((aR rfl).trans ((bl rfl).trans ((bl rfl).trans ?_))))
 have hg:=fun h=>Js (me:=me) (ta:=ta) (st:=st) (re:=re) (ba:=ba) hf h2' h
 unfold pg at hg⊢
 cases hm:decide (me=[])
 ·rw [hm]at hg
  simp only [cond_false]at hg⊢
  revert hg
  cases O7 me ta st re ba<;>intro hg
  ·rfl
  ·rw [hg rfl];rfl
 ·rw [hm]at hg
  simp only [cond_true]at hg⊢
  revert hg
  cases Nk ta st re ba bo<;>intro hg
  ·rfl
  ·rw [hg rfl];rfl
end
end Go.Proofs.YtihabpimbfmhhaaGreatDoor.Ev
