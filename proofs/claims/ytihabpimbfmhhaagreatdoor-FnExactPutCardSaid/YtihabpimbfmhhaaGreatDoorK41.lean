/- The texts CloneH, CloneS, one behind the other. -/
import Derived.Test.YtihabpimbfmhhaaGreatDoorK13
import Derived.Lib.Walk
import Derived.Lib.SliceRun
import Derived.Laws.AppendOwn
import Derived.WalkKit
namespace Go.Proofs
open Go.RowKit Go.Lib
set_option linter.unusedVariables false
set_option maxHeartbeats 2000000 in
set_option maxRecDepth 100000 in
theorem Tryz.clone_fields (ad:Addr) (n c:Nat) (news:List Value) (w:World) (hl:news.length=n*2) (hn:n≤maxLen) (hbig:n*32≤140737488355328)
 (hc: ∀j u,news[j]? =some u→w.cell? (ad.add j)=some u) (h1: ∀u∈news,u.oneCell'=true):
 Calls Tryz.prog 145 #[.slice (some ad) n c] w fun e w'=> ∃v',e= .returned v'∧w'.ownsRow w.heap.size 117 2 v' n news∧v'≠ .slice none 0 0∧Below w.heap.size w w':=by
 have hinfo:(Tryz.prog.info? 117).map (fun i=>(i.zero,i.size,i.bytes))=some (some (.agg #[.string ⟨#[]⟩,.string ⟨#[]⟩]),2,32):=by kernel_rfl
 obtain⟨i0,hi,hz0,hz1,hz2⟩: ∃i,Tryz.prog.info? 117=some i∧i.zero=some (.agg #[.string ⟨#[]⟩,.string ⟨#[]⟩])∧i.size=2∧i.bytes=32:=by
  obtain⟨i,h1,h2⟩:=Option.map_eq_some_iff.1 hinfo
  simp only [Prod.mk.injEq]at h2
  exact⟨i,h1,h2.1,h2.2.1,h2.2.2⟩
 have A:Aside (∀j u,news[j]? =some u→w.cell? (ad.add j)=some u):=hc
 clear hc
 have q28: ∀(w:World) (a:Option Addr) (n c n' c':Nat),(binOp .eql 41 (.slice a n c) (.slice none n' c')).run Tryz.prog w= .ok (.bool a.isNone) w:=fun w a n c n' c'=>Lib.run_eql_slice_nil w _ _ a n c n' c' Tryz.underlying41
 have u28: ∀w,Sem.run Tryz.prog (underlying 41) w= .ok (TypeDesc.slice 117) w:=run_underlying Tryz.underlying41
 go_enter Tryz.func145,Tryz.ntmps145
 go_wp2_with (at_builtin;refine wpList_append_own _ rfl _ _ 41 rfl w.heap.size 117 i0 (.agg #[.string ⟨#[]⟩,.string ⟨#[]⟩]) 2 32 (by kernel_rfl) hi hz0 hz1 hz2 rfl (by decide) _ _ _ rfl (World.ownsRow_made w #[] 0 (Nat.le_refl _) (Nat.zero_le _) (by simp)) ad n c news rfl ?qc1 ?qc2 ?qc3 ?qc4 ?qc5 ?qc6 ?_)
 case qc1=>exact hl
 case qc2=>
  intro j u hj
  exact Lib.cell?_alloc_some _ (A.out j u hj)
 case qc3=>exact h1
 case qc4=>rw [Nat.zero_add];exact hn
 case qc5=>rw [Nat.zero_add];exact hbig
 case qc6=>simp
 intro v' w1 hown hgrow hnil
 go_wp2
 go_ret
 refine⟨v',rfl,by simpa using hown, ?_, ?_⟩
 ·exact hnil
 ·exact((Below.refl _ w).alloc (Nat.le_refl _) _).grown hgrow (by simp) (by intro k hk;simp [Value.ownBlock]at hk;omega)
set_option maxHeartbeats 1000000 in
set_option maxRecDepth 100000 in
theorem Tryz.clone_nil (n c:Nat) (w:World):Calls Tryz.prog 145 #[.slice none n c] w fun e w'=>e= .returned (.slice none 0 0)∧w'=w:=by
 have q28: ∀(w:World) (a:Option Addr) (n c n' c':Nat),(binOp .eql 41 (.slice a n c) (.slice none n' c')).run Tryz.prog w= .ok (.bool a.isNone) w:=fun w a n c n' c'=>Lib.run_eql_slice_nil w _ _ a n c n' c' Tryz.underlying41
 have u28: ∀w,Sem.run Tryz.prog (underlying 41) w= .ok (TypeDesc.slice 117) w:=run_underlying Tryz.underlying41
 go_enter Tryz.func145,Tryz.ntmps145
 go_wp2
 go_ret
 exact⟨rfl,rfl⟩
end Go.Proofs
namespace Go.Proofs.YtihabpimbfmhhaaGreatDoor.Ev
open Go Go.RowKit
set_option linter.unusedVariables false
set_option linter.unusedSimpArgs false
noncomputable section
def nwF:List (aa×aa)→List Value
 | []=>[]
 |f::l=>.string ⟨f.1.toArray⟩:: .string ⟨f.2.toArray⟩::nwF l
theorem BL: ∀l,(nwF l).length=l.length*2
 | []=>rfl
 |f::l=>by simp only [nwF,List.length_cons,BL l];omega
theorem BM: ∀(l:List (aa×aa)) (i:Nat) (h:i<l.length),(nwF l)[i*2]? =some (.string ⟨l[i].1.toArray⟩)∧(nwF l)[i*2+1]? =some (.string ⟨l[i].2.toArray⟩)
 |f::l,0,_=>⟨rfl,rfl⟩
 |f::l,i+1,h=>by
  have:=BM l i (by simpa using h)
  rw [show(i+1)*2=i*2+1+1 by omega]
  exact this
theorem LO: ∀l,∀u∈nwF l,u.oneCell'=true
 |f::l,u,h=>by
  simp only [nwF,List.mem_cons]at h
  rcases h with rfl|rfl|h
  ·rfl
  ·rfl
  ·exact LO l u h
def US:List AV→List Ob→Br
 | [.sh (.pair .str .str) l],[]=>.ite (decide (l.length≤1000000)) (.ret (.ref 0 0) [.arr (.pair .str .str) 0 false l]) .fail
 |_,_=>.fail
theorem LP:Sound Kx 145 US:=by
 intro args objs res objs' hv w L vs hR ho hr
 unfold US at hv
 split at hv
 case h_2=>cases hv
 rename_i l
 obtain⟨h1,h2⟩:=af hv
 cases h2
 rw [decide_eq_true_eq]at h1
 have hN: ∀i,L i=none:=fun i=>by
  have:=ho i
  cases h:L i with
  |none=>rfl
  |some p=>rw [h]at this;simp at this
 simp only [aK,rel]at hr
 obtain⟨v,vs',rfl,hv,rfl⟩:=hr
 have fin: ∀v' w',w'.ownsRow w.heap.size 117 2 v' l.length (nwF l)→Below w.heap.size w w'→
  ∃L',RelO Kx w ⟨eq L,L.F⟩ L' w'∧(∀i,([.arr (.pair .str .str) 0 false l]:List Ob)[i]? =(L' i).map (·.2))∧Kept ([]:List Ob).length L L'∧rel L' w' (Mut L') (.ref 0 0) v':=by
  intro v' w' hown hB
  have mk: ∀(lc:Loc),okO (upd L 0 (lc,.arr (.pair .str .str) 0 false l)) w' (lc,.arr (.pair .str .str) 0 false l)→(∀b o,inR (lc,Ob.arr (.pair .str .str) 0 false l) b o→w.heap.size≤b)→v'= .slice lc.addr l.length lc.cap→
   ∃L',RelO Kx w ⟨eq L,L.F⟩ L' w'∧(∀i,([.arr (.pair .str .str) 0 false l]:List Ob)[i]? =(L' i).map (·.2))∧Kept ([]:List Ob).length L L'∧rel L' w' (Mut L') (.ref 0 0) v':=by
   intro lc hok hin hv'
   refine⟨upd L 0 (lc,.arr (.pair .str .str) 0 false l),(hR.new KOk (hN 0) (uh hB) (fun _=>hok) hin).1,fun i=> ?_,fun i hi=>absurd hi (Nat.not_lt_zero i), ?_⟩
   ·cases i with
    |zero=>rw [av];rfl
    |succ i=>rw [aG L _ (by omega),hN];rfl
   ·simp only [rel]
    exact⟨_,_,_,_,_,_,_,_,av _ _ _,Nat.le_refl _,hv',fun _=>⟨rfl,rfl,rfl⟩⟩
  rcases hown with⟨hlen,⟨rfl,hz⟩|⟨g,cap,cur,rfl,hg,hcells,hcap,_,hsz,htake⟩⟩
  ·have hl:l=[]:=List.length_eq_zero_iff.1 hz
   subst hl
   exact mk ⟨none,0,[]⟩ (.inl ⟨rfl,rfl,rfl,rfl⟩) (fun b o hr=>by obtain⟨o0,e1,_⟩:=cg rfl hr;cases e1) rfl
  ·have hget: ∀j u,(nwF l)[j]? =some u→cur[j]? =some u:=fun j u hj=>by
    rw [←htake,List.getElem?_take]at hj
    split at hj
    ·simpa using hj
    ·cases hj
   refine mk ⟨some (g,0),cap,[]⟩ (.inr ⟨g,0,rfl,hcap,fun i hi=>⟨[.string ⟨l[i].1.toArray⟩,.string ⟨l[i].2.toArray⟩],rfl, ?_,fun j hj=> ?_⟩,fun _ j hj=> ?_,(fun h=>by cases h),(fun h=>by cases h),fun _=>fh rfl rfl⟩) (fun b o hr=>by
    obtain⟨o0,e1,_⟩:=cg rfl hr
    simp only [Option.some.injEq,Prod.mk.injEq]at e1
    omega) rfl
   ·simp only [rd]
    exact⟨_,_,rfl,rfl,rfl⟩
   ·have hj':j<2:=hj
    have e0:(0:Nat)+i* (Ty.pair Ty.str Ty.str).size+j=i*2+j:=by rw [show(Ty.pair Ty.str Ty.str).size=2 from rfl];omega
    rw [e0,Lib.cell_of_heap hcells]
    obtain⟨k1,k2⟩:=BM l i hi
    rcases(show j=0∨j=1 by omega)with rfl|rfl
    ·exact hget _ _ k1
    ·exact hget _ _ k2
   ·have hj':j<cap*2:=hj
    rw [Nat.zero_add]
    refine⟨?_,Lib.frozen_of_heap hcells j⟩
    rw [Lib.cell_of_heap hcells]
    exact⟨cur[j]'(by omega),Array.getElem?_eq_getElem (by omega)⟩
 simp only [rd]at hv
 obtain⟨p,n,c,e1,rfl,hcn,hcase⟩:=hv
 have hfun:=Tryz.func145
 simp only [List.cons.injEq,and_true]at e1
 subst e1
 have hcalls:Calls Kx.P 145 #[.slice p l.length c] w fun e w'=> ∃v',e= .returned v'∧w'.ownsRow w.heap.size 117 2 v' l.length (nwF l)∧Below w.heap.size w w':=by
  cases p with
  |none=>
   have hl:l=[]:=by
    rcases hcase with h|⟨b,o,h,_⟩
    ·exact h
    ·cases h
   subst hl
   refine(Tryz.clone_nil 0 c w).mono ?_
   rintro e w' ⟨rfl,rfl⟩
   exact⟨_,rfl,⟨rfl,.inl ⟨rfl,rfl⟩⟩,Below.refl _ _⟩
  |some a=>
   have hcell: ∀j u,(nwF l)[j]? =some u→w.cell? (a.add j)=some u:=by
    intro j u hj
    rcases hcase with rfl|⟨b,o,hp,hr⟩
    ·cases hj
    ·cases hp
     have hlt:j<l.length*2:=by rw [←BL];exact(List.getElem?_eq_some_iff.1 hj).1
     have hi:j/2<l.length:=by omega
     obtain⟨ds,_,⟨d1,d2,rfl,rfl,rfl⟩,hc⟩:=hr (j/2) hi
     obtain⟨k1,k2⟩:=BM l (j/2) hi
     have h3:=(hc (j % 2) (by show j % 2<2;omega)).1
     rw [show o+j/2* (Ty.pair Ty.str Ty.str).size+j % 2=o+j by rw [show(Ty.pair Ty.str Ty.str).size=2 from rfl];omega]at h3
     rw [Addr.add_lit,h3]
     rcases(show j % 2=0∨j % 2=1 by omega)with e|e
     ·rw [e]
      rw [show j/2*2=j by omega,hj]at k1
      exact k1.symm
     ·rw [e]
      rw [show j/2*2+1=j by omega,hj]at k2
      exact k2.symm
   refine(Tryz.clone_fields a l.length c (nwF l) w (BL l) (by unfold maxLen;omega) (by omega) hcell (LO l)).mono ?_
   rintro e w' ⟨v',rfl,k1,_,k2⟩
   exact⟨v',rfl,k1,k2⟩
 refine .inl ⟨Calls.mono hcalls ?_,_,_,hfun,by kernel_rfl,rfl⟩
 rintro e w' ⟨v',rfl,k1,k2⟩
 exact fin v' w' k1 k2
end
end Go.Proofs.YtihabpimbfmhhaaGreatDoor.Ev
