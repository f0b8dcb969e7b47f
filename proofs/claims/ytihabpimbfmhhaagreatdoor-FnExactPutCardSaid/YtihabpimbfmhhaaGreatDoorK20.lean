/- The texts ExtM, one behind the other. -/
import Derived.Test.YtihabpimbfmhhaaGreatDoorK13
import Derived.Test.YtihabpimbfmhhaaGreatDoorK19
namespace Go.Proofs.YtihabpimbfmhhaaGreatDoor.Ev
open Go Go.RowKit
set_option linter.unusedVariables false
set_option linter.unusedSimpArgs false
noncomputable section
theorem xU (enc:aa→Value) (w:World) (blk off:Nat) (d:Array aa) (b:Nat):(Go.Sort.putRow enc w blk off d).shape? b=w.shape? b:=by
 simp only [Go.Sort.putRow,Go.Sort.mapBlock,World.shape?,Array.getElem?_modify]
 by_cases hk:blk=b
 ·simp only [hk,if_true]
  cases w.heap[b]? with
  |none=>rfl
  |some x=>cases x<;>simp [Go.Sort.onCells,Go.Sort.putCells]
 ·simp [hk]
theorem kX (enc:aa→Value) (w:World) (blk off:Nat) (d:Array aa) (b:Nat) (h:b≠blk):(Go.Sort.putRow enc w blk off d).heap[b]? =w.heap[b]? :=by
 simp [Go.Sort.putRow,Go.Sort.mapBlock,Array.getElem?_modify,Ne.symm h]
theorem uR {L:Lk} {w:World} {l:Loc} {cur b o:Nat} {xs:List aa} (hb:l.base=some (b,o)) (hok:okO L w (l,.arr .str cur false xs)):Go.Sort.Holds Go.Proofs.encStr w b o xs.toArray:=by
 rcases hok with⟨h,_⟩|⟨b',o',h1,h2,h3,h4,_⟩
 ·rw [hb]at h;cases h
 ·simp only at h1
  rw [hb]at h1;cases h1
  intro j hj
  have hj':j<xs.length:=by simpa using hj
  obtain⟨ds,h5,h6,h7⟩:=h3 j hj'
  simp only [rd]at h6
  subst h6
  have h8:=h7 0 (by decide)
  have h2':xs.length≤l.cap:=h2
  have h9:=(h4 rfl j (by show j<l.cap*1;omega)).2
  simp only [Ty.size,Ty.cts,List.length_singleton,Nat.mul_one,Nat.add_zero]at h8
  refine⟨?_,h9⟩
  rw [h8,getElem!_pos _ j hj]
  simp [Go.Proofs.encStr]
theorem Ju {L:Lk} {w:World} (hR:RelO Kx w ⟨eq L,L.F⟩ L w) {i cur cur' b o n:Nat} {l:Loc} {xs ys:List aa} {d:Array aa} {os:Array Obj} (hi:L i=some (l,.arr .str cur false xs)) (hb:l.base=some (b,o)) (hne:xs≠ [])
 (hd:d.size=xs.length) (hy:ys.length≤xs.length) (hdy: ∀j (h:j<ys.length),d[j]! =ys[j]) (hc:cur≤cur') (hcl:cur=cur'→ys.length=xs.length):
 RelO Kx w ⟨eq L,L.F⟩ (upd L i (l,.arr .str cur' false ys)) (Go.Sort.grow (Go.Sort.putRow Go.Proofs.encStr (Go.Sort.ahead w n) b o d) os)∧Turn L (upd L i (l,.arr .str cur' false ys)):=by
 have hok:=hR.ok i _ hi
 have hH:=uR hb hok
 have hpos:0<xs.length:=List.length_pos_iff.2 hne
 have hcap:xs.length≤l.cap∧ ∀j,j<l.cap→(∃u,w.cell? ⟨b,o+j,none⟩=some u)∧w.frozen? ⟨b,o+j,none⟩=false:=by
  rcases hok with⟨h,_⟩|⟨b',o',h1,h2,h3,h4,_⟩
  ·rw [hb]at h;cases h
  ·simp only at h1
   rw [hb]at h1;cases h1
   exact⟨h2,fun j hj=>h4 rfl j (by simp only [Ty.size,Ty.cts,List.length_singleton,Nat.mul_one];exact hj)⟩
 obtain⟨hcap,hcells⟩:=hcap
 have hlt:b<w.heap.size:=World.block_lt_of_cell? w ⟨b,o+0,none⟩ (hcells 0 (by omega)).1.choose_spec
 have hs0:(Go.Sort.putRow Go.Proofs.encStr (Go.Sort.ahead w n) b o d).heap.size=w.heap.size:=by simp [Go.Sort.putRow,Go.Sort.mapBlock,Go.Sort.ahead]
 have hdp:l.dp=[]:=by
  rcases hok with⟨h,_⟩|⟨_,_,_,_,_,_,_,_,h⟩
  ·rw [hb]at h;cases h
  ·have:=h rfl;unfold Dq at this;simpa only [Ty.hasSlice]using this
 have inr: ∀b' o',inR (l,Ob.arr .str cur false xs) b' o'↔b'=b∧o≤o'∧o'<o+l.cap:=fun b' o'=>by
  unfold inR ext
  simp only [hb,Option.some.injEq,Prod.mk.injEq,Bool.false_eq_true,if_false,Ty.size,Ty.cts,List.length_singleton,Nat.mul_one]
  constructor
  ·rintro(⟨o0,⟨h1,rfl⟩,h2,h3⟩|⟨_,hcv⟩)
   ·exact⟨h1.symm,h2,h3⟩
   ·rw [hdp]at hcv;exact(bS hcv).elim
  ·rintro⟨rfl,h2,h3⟩;exact .inl ⟨o,⟨rfl,rfl⟩,h2,h3⟩
 have inr': ∀b' o',inR (l,Ob.arr .str cur' false ys) b' o'↔b'=b∧o≤o'∧o'<o+l.cap:=fun b' o'=>by
  unfold inR ext
  simp only [hb,Option.some.injEq,Prod.mk.injEq,Bool.false_eq_true,if_false,Ty.size,Ty.cts,List.length_singleton,Nat.mul_one]
  constructor
  ·rintro(⟨o0,⟨h1,rfl⟩,h2,h3⟩|⟨_,hcv⟩)
   ·exact⟨h1.symm,h2,h3⟩
   ·rw [hdp]at hcv;exact(bS hcv).elim
  ·rintro⟨rfl,h2,h3⟩;exact .inl ⟨o,⟨rfl,rfl⟩,h2,h3⟩
 have hgc: ∀b' o',b'<w.heap.size→(Go.Sort.grow (Go.Sort.putRow Go.Proofs.encStr (Go.Sort.ahead w n) b o d) os).cell? ⟨b',o',none⟩=(Go.Sort.putRow Go.Proofs.encStr (Go.Sort.ahead w n) b o d).cell? ⟨b',o',none⟩:=fun b' o' h=>
  Go.Sort.cell?_grow _ _ _ (by rw [hs0];exact h)
 have hgf: ∀b' o',b'<w.heap.size→(Go.Sort.grow (Go.Sort.putRow Go.Proofs.encStr (Go.Sort.ahead w n) b o d) os).frozen? ⟨b',o',none⟩=w.frozen? ⟨b',o',none⟩:=fun b' o' h=>by
  rw [Go.Sort.frozen?_grow _ _ _ (by rw [hs0];exact h),Go.Sort.frozen?_putRow];rfl
 have hother: ∀b' o',b'<w.heap.size→(b'≠b∨o'<o∨o+xs.length≤o')→(Go.Sort.grow (Go.Sort.putRow Go.Proofs.encStr (Go.Sort.ahead w n) b o d) os).cell? ⟨b',o',none⟩=w.cell? ⟨b',o',none⟩:=fun b' o' h h2=>by
  rw [hgc b' o' h,Go.Sort.cell?_putRow_other _ _ _ _ _ _ (by rw [hd];exact h2)];rfl
 have hin: ∀j,j<d.size→(Go.Sort.grow (Go.Sort.putRow Go.Proofs.encStr (Go.Sort.ahead w n) b o d) os).cell? ⟨b,o+j,none⟩=some (Go.Proofs.encStr d[j]!):=fun j hj=>by
  rw [hgc b _ hlt]
  exact Go.Sort.cell?_putRow Go.Proofs.encStr (Go.Sort.ahead w n) b o xs.toArray d hH (by simpa using hd) j hj
 have hF:Fr w (inR (l,Ob.arr .str cur false xs)) (Go.Sort.grow (Go.Sort.putRow Go.Proofs.encStr (Go.Sort.ahead w n) b o d) os):={
  os:=rfl,tape:=rfl,output:=rfl
  size:=by show w.heap.size≤((Go.Sort.putRow Go.Proofs.encStr (Go.Sort.ahead w n) b o d).heap++os).size;rw [Array.size_append,hs0];omega
  blk:=fun b' hb' hn=>by
   have hne':b'≠b:=fun e=>hn o ((inr b' o).2 ⟨e,Nat.le_refl _,by omega⟩)
   rw [Go.Sort.heap_grow_old _ _ (by rw [hs0];exact hb'),kX _ _ _ _ _ _ hne'];rfl
  cel:=fun b' o' hb' hn=>hother b' o' hb' (by
   by_cases e:b'=b
   ·right
    by_cases e2:o'<o
    ·exact .inl e2
    ·right
     have: ¬o'<o+l.cap:=fun h=>hn ((inr b' o').2 ⟨e,by omega,h⟩)
     omega
   ·exact .inl e)
  frz:=fun b' o' hb' _=>hgf b' o' hb'
  shp:=fun b' hb'=>by
   have e:(Go.Sort.grow (Go.Sort.putRow Go.Proofs.encStr (Go.Sort.ahead w n) b o d) os).shape? b'=(Go.Sort.putRow Go.Proofs.encStr (Go.Sort.ahead w n) b o d).shape? b':=by
    unfold World.shape?;rw [Go.Sort.heap_grow_old _ _ (by rw [hs0];exact hb')]
   rw [e,xU];rfl}
 have hT:Turn L (upd L i (l,.arr .str cur' false ys)):=by
  intro j l1 x1 hj
  by_cases hji:j=i
  ·subst hji
   rw [hi]at hj;cases hj
   refine⟨l,_,av L j _, ?_⟩
   exact⟨cur',false,ys,rfl,hc,fun e=>⟨⟨rfl,rfl⟩,hcl e⟩⟩
  ·obtain⟨l',x',h1,h2⟩:=Turn.refl L j l1 x1 hj
   exact⟨l',x',by rw [aG L _ hji];exact h1,h2⟩
 refine⟨(hR.put KOk hi hF hT (fun _=> ?_) (fun b' o' h=>.inl ((inr b' o').2 ((inr' b' o').1 h)))).1,hT⟩
 right
 refine⟨b,o,hb,by simp only;omega,fun k hk=>⟨[.string ⟨ys[k].toArray⟩],rfl,by simp only [rd],fun j hj=> ?_⟩,fun _ j hj=> ?_,(fun h=>by cases h),(fun h=>by cases h),fun _=>fh rfl hdp⟩
 ·obtain rfl:j=0:=by simp only [Ty.size,Ty.cts,List.length_singleton]at hj;omega
  have e1:o+k*Ty.str.size+0=o+k:=by simp only [Ty.size,Ty.cts,List.length_singleton];omega
  rw [e1,hin k (by omega),hdy k hk];rfl
 ·simp only [Ty.size,Ty.cts,List.length_singleton,Nat.mul_one]at hj
  refine⟨?_,by rw [hgf b _ hlt];exact(hcells j hj).2⟩
  by_cases c:j<d.size
  ·exact⟨_,hin j c⟩
  ·obtain⟨u,hu⟩:=(hcells j hj).1
   exact⟨u,by rw [hother b _ hlt (.inr (.inr (by omega)))];exact hu⟩
theorem xV {fn:Nat} {f:Func} {c:Code} (hf:Kx.P.funcs[fn]? =some f) (hname:(f.name== "runtime.NumGoroutine")=false) (hb:f.body=some c) {φ:List AV→List Ob→Br}
 (h: ∀args objs res objs',(φ args objs).val=some (res,objs')→ ∃xs:List aa,args=[.ref 0 0]∧objs=[.arr .str 0 false xs]∧
  ∀(w:World) (L:Lk) (l:Loc),RelO Kx w ⟨eq L,L.F⟩ L w→L 0=some (l,.arr .str 0 false xs)→Calls Kx.P fn #[.slice l.addr xs.length l.cap] w fun e w'=> ∃v cur' ys,e= .returned v∧objs'=[.arr .str cur' false ys]∧(cur'=0→ys.length=xs.length)∧
   RelO Kx w ⟨eq L,L.F⟩ (upd L 0 (l,.arr .str cur' false ys)) w'∧rel (upd L 0 (l,.arr .str cur' false ys)) w' (Mut (upd L 0 (l,.arr .str cur' false ys))) res v):Sound Kx fn φ:=by
 intro args objs res objs' hv w L vs hR ho hr
 obtain⟨xs,rfl,rfl,hc⟩:=h _ _ _ _ hv
 have h0:=ho 0
 simp only [List.getElem?_cons_zero]at h0
 obtain⟨p,hp,hp2⟩:=Option.map_eq_some_iff.1 h0.symm
 obtain⟨l,x⟩:=p
 simp only at hp2
 subst hp2
 simp only [aK,rel]at hr
 obtain⟨v,vs',rfl,⟨l1,e1,cur1,z1,xs1,p1,n1,c1,h1,_,rfl,h3⟩,rfl⟩:=hr
 rw [hp]at h1;cases h1
 obtain⟨rfl,rfl,rfl⟩:=h3 rfl
 refine .inl ⟨Calls.mono (hc w L l hR hp) ?_,f,c,hf,hname,hb⟩
 rintro e w' ⟨v,cur',ys,rfl,rfl,hk,hR',hv'⟩
 refine⟨_,hR',fun i=> ?_, ?_,hv'⟩
 ·by_cases hi:i=0
  ·subst hi;rw [av];rfl
  ·rw [aG L _ hi,←ho i]
   cases i with
   |zero=>exact absurd rfl hi
   |succ i=>rfl
 ·intro i hi l2 x2 h2
  obtain rfl:i=0:=by simp only [List.length_singleton]at hi;omega
  rw [hp]at h2;cases h2
  exact⟨l,_,av L 0 _,cur',false,ys,rfl,fun e=>⟨⟨rfl,rfl⟩,hk e⟩⟩
theorem xW {L:Lk} {w:World} {l:Loc} {cur:Nat} {xs:List aa} (hok:okO L w (l,.arr .str cur false xs)) (h:xs≠ []): ∃b o,l.base=some (b,o)∧xs.length≤l.cap∧l.addr=some ⟨b,o,none⟩:=by
 rcases hok with⟨_,h1,_⟩|⟨b,o,h1,h2,_⟩
 ·exact absurd h1 h
 ·exact⟨b,o,h1,h2,by simp only at h1;simp [Loc.addr,h1]⟩
def f5 (xs:List aa):List aa:=xs.mergeSort fun x y=>decide (x≤y)
def Pe:List AV→List Ob→Br
 | [.ref 0 0],[.arr .str 0 false xs]=>.ite (decide (xs.length≤1000000)) (.ret (.tup []) [.arr .str 0 false (f5 xs)]) .fail
 |_,_=>.fail
theorem Sy {L:Lk} {i:Nat} {p:Loc×Ob} (h:L i=some p):upd L i p=L:=by
 unfold upd
 cases L with
 |mk obj F=>
  simp only [Lk.mk.injEq,and_true]
  funext j
  by_cases hj:j=i
  ·subst hj;rw [if_pos rfl];exact h.symm
  ·rw [if_neg hj]
theorem Pf (d:Array aa) (ys zs:List aa) (h:d=(ys++zs).toArray) (j:Nat) (hj:j<ys.length):d[j]! =ys[j]:=by
 subst h
 rw [getElem!_pos _ j (by simp;omega)]
 simp [hj]
theorem Nt:Sound Kx 199 Pe:=by
 refine xV Tryz.func199 (by kernel_rfl) rfl fun args objs res objs' hv=> ?_
 unfold Pe at hv
 split at hv
 case h_2=>cases hv
 rename_i xs
 obtain⟨h1,h2⟩:=af hv
 cases h2
 rw [decide_eq_true_eq]at h1
 refine⟨xs,rfl,rfl,fun w L l hR hl=> ?_⟩
 by_cases hx:xs=[]
 ·subst hx
  refine(Tryz.slices_Sort_string_none l.addr l.cap w).mono ?_
  rintro e w' ⟨rfl,rfl⟩
  have e0:f5 []=[]:=by simp [f5]
  refine⟨_,0,[],rfl,by rw [e0],fun _=>rfl, ?_, ?_⟩
  ·rw [Sy hl];exact hR
  ·simp only [rel,aK];exact⟨#[],rfl,rfl⟩
 ·obtain⟨b,o,hb,hcap,ha⟩:=xW (hR.ok 0 _ hl) hx
  have hH:=uR hb (hR.ok 0 _ hl)
  have hlt:b<w.heap.size:=World.block_lt_of_cell? w ⟨b,o+0,none⟩ (hH 0 (by simpa using List.length_pos_iff.2 hx)).1
  rw [ha]
  refine(Tryz.slices_Sort_string b o l.cap xs w hH hlt (by omega)).mono ?_
  rintro e w' ⟨rfl,n,os,rfl⟩
  have hs:(f5 xs).length=xs.length:=by simp [f5]
  refine⟨_,0,f5 xs,rfl,rfl,fun _=>hs,(Ju hR hl hb hx (by simp) (by omega) (fun j hj=>Pf _ (f5 xs) [] (by simp [f5]) j hj) (Nat.le_refl _) (fun _=>hs)).1, ?_⟩
  simp only [rel,aK];exact⟨#[],rfl,rfl⟩
def ig (xs:List aa):List aa:=Lib.compact xs
theorem Dy (xs:List aa):(ig xs).length≤xs.length:=by
 unfold ig Lib.compact Lib.compactUpTo
 rw [List.length_map]
 exact Nat.le_trans (List.length_filter_le _ _) (by simp)
def Pg:List AV→List Ob→Br
 | [.ref 0 0],[.arr .str 0 false xs]=>.ite (decide (xs.length≤1000000)) (.ret (.ref 0 1) [.arr .str 1 false (ig xs)]) .fail
 |_,_=>.fail
theorem Nu:Sound Kx 200 Pg:=by
 refine xV Tryz.func200 (by kernel_rfl) rfl fun args objs res objs' hv=> ?_
 unfold Pg at hv
 split at hv
 case h_2=>cases hv
 rename_i xs
 obtain⟨h1,h2⟩:=af hv
 cases h2
 rw [decide_eq_true_eq]at h1
 refine⟨xs,rfl,rfl,fun w L l hR hl=> ?_⟩
 have hrel: ∀(ys:List aa) (w':World),rel (upd L 0 (l,.arr .str 1 false ys)) w' (Mut (upd L 0 (l,.arr .str 1 false ys))) (.ref 0 1) (.slice l.addr ys.length l.cap):=fun ys w'=>by
  simp only [rel]
  exact⟨l,.str,1,false,ys,_,_,_,av L 0 _,Nat.le_refl _,rfl,fun _=>⟨rfl,rfl,rfl⟩⟩
 by_cases hx:xs=[]
 ·subst hx
  refine(Tryz.slices_Compact_string_empty l.addr l.cap w).mono ?_
  rintro e w' ⟨rfl,rfl⟩
  have e0:ig []=[]:=rfl
  refine⟨_,1,[],rfl,by rw [e0],(fun h=>by cases h), ?_,hrel [] _⟩
  have hT:Turn L (upd L 0 (l,.arr .str 1 false [])):=by
   intro j l1 x1 hj
   by_cases hji:j=0
   ·subst hji
    rw [hl]at hj;cases hj
    exact⟨l,_,av L 0 _,1,false,[],rfl,Nat.zero_le _,fun e=>by cases e⟩
   ·obtain⟨l',x',h1,h2⟩:=Turn.refl L j l1 x1 hj
    exact⟨l',x',by rw [aG L _ hji];exact h1,h2⟩
  refine(hR.put KOk hl (Fr.refl _ _) hT (fun _=> ?_) (fun b' o' h=>.inl h)).1
  rcases hR.ok 0 _ hl with⟨g1,g2,g3⟩|⟨b,o,g1,g2,g3,g4,g5,g6⟩
  ·exact .inl ⟨g1,rfl,g3⟩
  ·exact .inr ⟨b,o,g1,g2,(fun i h=>by cases h),g4,(fun h=>by cases h),(fun h=>by cases h),fun _=>fh rfl (by have:=g6.2 rfl;unfold Dq at this;simpa only [Ty.hasSlice]using this)⟩
 ·obtain⟨b,o,hb,hcap,ha⟩:=xW (hR.ok 0 _ hl) hx
  have hH:=uR hb (hR.ok 0 _ hl)
  have hr:=hrel (ig xs)
  rw [ha]at hr⊢
  refine(Tryz.slices_Compact_string b o l.cap xs w hH (by omega) hcap).mono ?_
  rintro e w' ⟨rfl,n,rfl⟩
  have hs:=Dy xs
  have:=(Ju (n:=n) (os:= #[]) hR hl hb hx (d:=(Lib.compact xs++List.replicate (xs.length-(Lib.compact xs).length) []).toArray) (cur':=1) (ys:=ig xs) (by simp;show(ig xs).length+(xs.length-(ig xs).length)=xs.length;omega) hs (fun j hj=>Pf _ (ig xs) _ rfl j hj) (Nat.zero_le _) (fun h=>by cases h)).1
  rw [Go.Sort.grow_empty]at this
  exact⟨_,1,ig xs,rfl,rfl,(fun h=>by cases h),this,hr _⟩
end
end Go.Proofs.YtihabpimbfmhhaaGreatDoor.Ev
