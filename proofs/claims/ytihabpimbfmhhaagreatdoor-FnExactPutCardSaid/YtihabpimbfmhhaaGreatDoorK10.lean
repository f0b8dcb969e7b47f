/- The texts Ev25, one behind the other. -/
import Derived.Test.YtihabpimbfmhhaaGreatDoorK9
import Derived.Deep.LoopGhost
namespace Go.Proofs.YtihabpimbfmhhaaGreatDoor.Ev
open Go Go.RowKit
set_option linter.unusedSimpArgs false
set_option linter.unusedVariables false
variable {K:Ctx} {w0:World} {M0:Bd} {L L':Lk} {st:St} {a:Act} {w:World} {o:Oper} {M M':Nat→Nat→Prop}
theorem Ic {a b i:Nat} (h:(Nat.lor a b).testBit i=true):a.testBit i=true∨b.testBit i=true:=by
 have e:Nat.lor a b=a|||b:=rfl
 rw [e,Nat.testBit_or,Bool.or_eq_true]at h
 exact h
theorem wd {acc:List (List Nat)} {accM:List Nat} (h: ∀j i,(accM.getD j 0).testBit i=true→i∈acc.getD j []): ∀(l:List Nat) (i:Nat),(zY accM l).testBit i=true→i∈l.flatMap fun j=>j::acc.getD j []
 | [],i,hb=>by simp [zY]at hb
 |j::l,i,hb=>by
  simp only [zY]at hb
  rw [List.flatMap_cons]
  rcases Ic hb with hb|hb
  ·refine List.mem_append_left _ ?_
   rcases Ic hb with hb|hb
   ·rw [Nat.testBit_two_pow]at hb
    have:=of_decide_eq_true hb
    subst this
    exact List.mem_cons_self ..
   ·exact List.mem_cons_of_mem _ (h _ _ hb)
  ·exact List.mem_append_right _ (wd h l i hb)
theorem nZ: ∀(l:List Oper) {acc:List (List Nat)} {accM bM:List Nat},accM.length=acc.length→(∀j i,(accM.getD j 0).testBit i=true→i∈acc.getD j [])→lu l accM=some bM→
 ∃b,vK l acc=some b∧ ∀j i,(bM.getD j 0).testBit i=true→i∈b.getD j []
 | [],acc,accM,bM,hl,h,hb=>by
   simp only [lu,Option.some.injEq]at hb
   subst hb
   exact⟨acc,rfl,h⟩
 |o::l,acc,accM,bM,hl,h,hb=>by
  simp only [lu]at hb
  simp only [vK]
  split at hb
  ·rename_i hc
   rw [hl]at hc
   rw [hc]
   refine nZ l (by simp [hl]) (fun j i hj=> ?_) hb
   rw [List.getD_eq_getElem?_getD]at hj⊢
   rcases Nat.lt_trichotomy j acc.length with h1|h1|h1
   ·rw [List.getElem?_append_left (by omega)]at hj⊢
    exact List.getD_eq_getElem?_getD▸h j i (List.getD_eq_getElem?_getD▸hj)
   ·subst h1
    have e1:(accM++[zY accM (jr o)])[acc.length]? =some (zY accM (jr o)):=by rw [←hl];simp
    rw [e1]at hj
    have e2:(acc++[E9 acc o])[acc.length]? =some (E9 acc o):=by simp
    rw [e2]
    exact wd h _ _ hj
   ·rw [List.getElem?_eq_none (by simp;omega)]at hj
    simp at hj
  ·cases hb
theorem n0: ∀{t:List Ac} {a:Ac},a∈t→(Hy t).testBit a.key=true
 |x::t,a,h=>by
  have e:Hy (x::t)=2^x.key|||Hy t:=rfl
  rw [e,Nat.testBit_or,Bool.or_eq_true]
  rcases List.mem_cons.1 h with rfl|h
  ·left;rw [Nat.testBit_two_pow];simp
  ·right;exact n0 h
theorem jC: ∀{t:List Ac} {a:Ac},a∈t→a.wr=true→(zZ t).testBit a.key=true
 |x::t,a,h,hw=>by
  simp only [zZ]
  split
  ·have e:Nat.lor (2^x.key) (zZ t)=2^x.key|||zZ t:=rfl
   rw [e,Nat.testBit_or,Bool.or_eq_true]
   rcases List.mem_cons.1 h with rfl|h
   ·left;rw [Nat.testBit_two_pow];simp
   ·right;exact jC h hw
  ·rename_i hx
   rcases List.mem_cons.1 h with rfl|h
   ·rw [hw]at hx;cases hx
   ·exact jC h hw
theorem Id {a b:Ac} (h:a.clash b=true):a.key=b.key∧(a.wr=true∨b.wr=true):=by
 cases a<;>cases b<;>simp_all [Ac.clash,Ac.key,Ac.wr]
theorem we {a b i:Nat} (h:Nat.beq (Nat.land a b) 0=true) (h1:a.testBit i=true) (h2:b.testBit i=true):False:=by
 have e:Nat.land a b=0:=Nat.eq_of_beq_eq_true h
 have e':a&&& b=0:=e
 have:(a&&& b).testBit i=true:=by rw [Nat.testBit_and,h1,h2];rfl
 rw [e']at this
 simp at this
theorem Al {s t:List Ac} (h:vL (kG s) (kG t)=true):iE s t=true:=by
 unfold vL kG at h
 rw [Bool.and_eq_true]at h
 unfold iE
 rw [List.all_eq_true]
 intro a ha
 rw [List.all_eq_true]
 intro b hb
 cases hc:a.clash b with
 |false=>rfl
 |true=>
  exfalso
  obtain⟨hk,hw|hw⟩:=Id hc
  ·exact we h.2 (jC ha hw) (by rw [hk];exact n0 hb)
  ·exact we h.1 (n0 ha) (by rw [hk];exact jC hb hw)
theorem rj: ∀(l:List Oper) {acc b:List Nat},lu l acc=some b→b.length=acc.length+l.length
 | [],acc,b,h=>by simp only [lu,Option.some.injEq]at h;subst h;simp
 |o::l,acc,b,h=>by
  simp only [lu]at h
  split at h
  ·have:=rj l h
   simp at this⊢;omega
  ·cases h
theorem n5 {bits:Nat} {m:Nat×Nat}: ∀(n:Nat) (pre:List (List Ac)),pre.length=n→B9 bits m ((pre.map kG).reverse) n=true→ ∀q,q<n→Nat.testBit bits q=true∨vL (kG (pre.getD q [])) m=true
 |0,pre,hl,h,q,hq=>by omega
 |n+1,pre,hl,h,q,hq=>by
  rcases List.eq_nil_or_concat pre with rfl|⟨p,x,rfl⟩
  ·simp at hl
  ·have hl':p.length=n:=by simpa using hl
   simp only [List.concat_eq_append,List.map_append,List.map_cons,List.map_nil,List.reverse_append,List.reverse_cons,List.reverse_nil,List.nil_append,List.singleton_append,B9,Bool.and_eq_true,Bool.or_eq_true]at h
   rw [List.concat_eq_append,List.getD_eq_getElem?_getD]
   by_cases hq':q=n
   ·subst hq'
    have e:(p++[x])[q]? =some x:=by rw [←hl'];simp
    rw [e]
    exact h.1
   ·rw [List.getElem?_append_left (by omega),←List.getD_eq_getElem?_getD]
    exact n5 n p hl' h.2 q (by omega)
theorem rk: ∀(bs:List Nat) (ts pre:List (List Ac)),E_ bs ts ((pre.map kG).reverse) pre.length=true→ ∀j,j<bs.length→ ∀q,q<pre.length+j→Nat.testBit (bs.getD j 0) q=true∨vL (kG ((pre++ts).getD q [])) (kG (ts.getD j []))=true
 | [],ts,pre,h,j,hj,q,hq=>by simp at hj
 |bits::bs,[],pre,h,j,hj,q,hq=>by simp [E_]at h
 |bits::bs,t::ts,pre,h,0,hj,q,hq=>by
  simp only [E_,Bool.and_eq_true]at h
  have:=n5 pre.length pre rfl h.1 q (by omega)
  rw [List.getD_eq_getElem?_getD (l:=pre++t::ts),List.getElem?_append_left (by omega),←List.getD_eq_getElem?_getD]
  exact this
 |bits::bs,t::ts,pre,h,j+1,hj,q,hq=>by
  simp only [E_,Bool.and_eq_true]at h
  have e1:((pre++[t]).map kG).reverse=kG t::(pre.map kG).reverse:=by simp
  have e2:(pre++[t]).length=pre.length+1:=by simp
  have:=rk bs ts (pre++[t]) (by rw [e1,e2];exact h.2) j (by simpa using hj) q (by rw [e2];omega)
  rw [List.append_assoc]at this
  simpa using this
theorem wg {ops:List Oper} {ts:List (List Ac)} (h:nw ops ts=true): ∃b,vK ops []=some b∧ ∀j,j<ops.length→ ∀i,i<j→i∈b.getD j []∨iE (ts.getD i []) (ts.getD j [])=true:=by
 unfold nw at h
 split at h
 ·rename_i bM hbM
  obtain⟨b,h1,h2⟩:=nZ ops (acc:=[]) rfl (fun j i hj=>by simp at hj) hbM
  have hlen:=rj ops hbM
  refine⟨b,h1,fun j hj i hi=> ?_⟩
  have h3:=rk bM ts [] h j (by simp at hlen;omega) i (by simpa using hi)
  rcases h3 with h3|h3
  ·exact .inl (h2 j i h3)
  ·exact .inr (Al h3)
 ·cases h
theorem MX {C:cy} {O:Opt} (hK:K.Ok) (hC: ∀fn,Sound K fn (C fn)) {id:Nat} {ops:Array Oper} {R':Type} {res:R'} {k:St→Option R'} {Q:Exit→Act→World→Prop} (R:Rl K w0 M0 L st a w)
 (h:(MC K C O ops.toList ops.toList st [] fun st ts=>if nw ops.toList ts then k st else none)=some res)
 (hQ: ∀L' st' a' w',Rl K w0 M0 L' st' a' w'→Turn L L'→k st'=some res→Q .normal a' w'):(Code.region id ops true).wp K.P Q a w:=by
 rw [nY]at h
 split at h
 case h_2=>cases h
 rename_i sF ts hex
 simp only [List.nil_append]at h
 split at h
 case isFalse=>cases h
 rename_i hord
 obtain⟨b,hb,hap⟩:=wg hord
 have hlen:=H9 hex
 simp only [List.length_map,Array.length_toList]at hlen
 refine wp_region_any hK.mixed ?_
 have hz1:((List.range ops.size).zip ts).map (·.1)=List.range ops.size:=by
  rw [List.map_fst_zip];simp [hlen]
 have hz2:((List.range ops.size).zip ts).map (·.2)=ts:=by
  rw [List.map_snd_zip];simp [hlen]
 have hzl:((List.range ops.size).zip ts).length=ops.size:=by simp [hlen]
 have hrd: ∀(n i:Nat) (d:Bool),i<n→(Array.replicate n false).getD i d=false:=fun n i d hi=>by
  simp [Array.getD_eq_getD_getElem?,hi]
 have:=Cr (O:=O) hK hC hb (Q:=Q) (sF:=sF) ((List.range ops.size).zip ts) (Array.replicate ops.size false) (L:=L) (st:=st) (a:=a) (w:={w with drawn:=w.drawn+1}) (s:=sF) (by simp)
  (fun i=>by
   rw [hz1,List.mem_range]
   constructor
   ·intro hi;exact⟨hi,hrd _ _ _ hi⟩
   ·exact fun h=>h.1)
  (by
   refine List.pairwise_iff_getElem.2 fun i j hi hj hij=> ?_
   rw [hzl]at hi hj
   simp only [List.getElem_zip,List.getElem_range]
   refine⟨hij, ?_⟩
   have:=hap j (by simpa using hj) i hij
   simpa [List.getD,hlen,hi,hj]using this)
  (fun j i hj _=>by
   exfalso
   simp only [Array.getD_eq_getD_getElem?,Array.getElem?_replicate]at hj
   split at hj<;>simp at hj)
  (by
   rw [hz2,←hex]
   congr 1
   apply List.ext_getElem
   ·simp [hlen]
   ·intro i h1 h2
    simp only [List.length_map,hzl]at h1
    simp [h1])
  (Eqv.refl sF) (R.drew hK) fun L' a' w' R' hT=>hQ L' sF a' w' R' hT h
 rw [hzl]at this
 exact this
def exE:Ex→Exit
 | .normal=>.normal
 | .exit i=>.exit i
 | .ret=>.ret
theorem gk {C:cy} {O:Opt} (hK:K.Ok) (hC: ∀fn,Sound K fn (C fn)) {m n:Nat} {L0:Lk} {R':Type} {res:R'}:
 ∀(c:Code) {k:Ex→St→Option R'} {L:Lk} {st:St} {a:Act} {w:World} {Q:Exit→Act→World→Prop},Rl K w0 M0 L st a w→Kept m L0 L→evK K C O m n c st k=some res→
 (∀e L' st' a' w',Rl K w0 M0 L' st' a' w'→Kept m L0 L'→k e st'=some res→Q (exE e) a' w')→c.wp K.P Q a w
 | .skip,k,L,st,a,w,Q,R,hk,h,hQ=>wp_skip (hQ .normal L st a w R hk h)
 | .region id ops false,k,L,st,a,w,Q,R,hk,h,hQ=>by
   refine wp_region ?_
   have:=H5 hK hC (ops:=ops) (Q:=Q) ops.toList 0 (by simp) R (by simpa only [evK]using h) fun L' st' a' w' R' hT hk'=>hQ .normal L' st' a' w' R' (hk.turn hT) hk'
   rw [List.range_eq_range']
   simpa using this
 | .region id ops true,k,L,st,a,w,Q,R,hk,h,hQ=>MX hK hC R (by simpa only [evK]using h) fun L' st' a' w' R' hT hk'=>hQ .normal L' st' a' w' R' (hk.turn hT) hk'
 | .seq x y,k,L,st,a,w,Q,R,hk,h,hQ=>by
   simp only [evK]at h
   refine wp_seq (gk hK hC x R hk h fun e L' st' a' w' R' hk' h'=> ?_)
   cases e with
   |normal=>exact gk hK hC y R' hk' h' hQ
   |exit i=>exact hQ (.exit i) L' st' a' w' R' hk' h'
   |ret=>exact hQ .ret L' st' a' w' R' hk' h'
 | .cond c x y,k,L,st,a,w,Q,R,hk,h,hQ=>by
   simp only [evK]at h
   split at h
   ·rename_i s
    split at h
    case h_2=>cases h
    rename_i v hv
    have hb:=Cp R hv
    have hc:a.eval (.tmp s)= .bool v:=by
     simp only [Act.eval,Array.getD_eq_getD_getElem?,hb];rfl
    have hnote:Rl K w0 M0 L ⟨putS st.env s (.bool v),st.objs⟩ a w:=by
     refine⟨R.ro,R.ob, ?_,R.df⟩
     have:=js R.env s (a:=.bool v) (c:=.bool v) (by simp [rel])
     have e1:a.tmps.toList.set s (.bool v)=a.tmps.toList:=by
      apply List.ext_getElem?
      intro i
      rw [List.getElem?_set]
      split
      ·rename_i he
       subst he
       rw [←Array.getElem?_toList]at hb
       rw [hb,if_pos (List.getElem?_eq_some_iff.1 hb).1]
      ·rfl
     rwa [e1]at this
    cases v with
    |true=>exact wp_cond_true hc (gk hK hC x hnote hk h hQ)
    |false=>exact wp_cond_false hc (gk hK hC y hnote hk h hQ)
   ·rename_i v
    cases v with
    |true=>exact wp_cond_true rfl (gk hK hC x R hk h hQ)
    |false=>exact wp_cond_false rfl (gk hK hC y R hk h hQ)
   ·cases h
 | .block id x,k,L,st,a,w,Q,R,hk,h,hQ=>by
   simp only [evK]at h
   refine wp_block (gk hK hC x R hk h fun e L' st' a' w' R' hk' h'=> ?_)
   cases e with
   |normal=>exact hQ .normal L' st' a' w' R' hk' h'
   |exit i=>
    simp only at h'
    show Exit.inBlock id Q (.exit i) a' w'
    simp only [Exit.inBlock]
    split at h'
    ·rename_i hi;rw [if_pos hi];exact hQ .normal L' st' a' w' R' hk' h'
    ·rename_i hi;rw [if_neg hi];exact hQ (.exit i) L' st' a' w' R' hk' h'
   |ret=>exact hQ .ret L' st' a' w' R' hk' h'
 | .loop x,k,L,st,a,w,Q,R,hk,h,hQ=>by
   simp only [evK]at h
   split at h
   case h_2=>cases h
   rename_i s hs
   obtain⟨L1,R1,hk1⟩:=Af hK (st:=⟨P5 O x st.env,st.objs⟩) ⟨R.ro,R.ob,HX R.env,R.df⟩ hs
   have hout: ∀e L' st' a' w',Rl K w0 M0 L' st' a' w'→Kept m L0 L'→Hr O m x k e st'=some res→Q (exE e) a' w':=by
    intro e L' st' a' w' R' hk' h'
    unfold Hr at h'
    split at h'
    ·exact hQ e L' st' a' w' R' hk' h'
    ·rename_i l _
     split at h'
     case h_2=>cases h'
     rename_i s2 hs2
     obtain⟨L2,R2,hk2⟩:=Af hK (st:=⟨only l 0 st'.env,st'.objs⟩) ⟨R'.ro,R'.ob,jy l 0 R'.env,R'.df⟩ hs2
     exact hQ e L2 s2 a' w' R2 (hk2 L0 hk') h'
   refine wp_loop_ghost (fun f a w=> ∃L st,Rl K w0 M0 L st a w∧Kept m L0 L∧iF m (fun st k=>evK K C O m n x st k) s.env f st (Hr O m x k)=some res) n ⟨L1,s,R1,hk1 L0 hk,h⟩ ?_
   rintro f a w ⟨L2,s2,R2,hk2,h2⟩
   cases f with
   |zero=>simp [iF]at h2
   |succ f=>
    simp only [iF]at h2
    refine gk hK hC x R2 hk2 h2 fun e L' st' a' w' R' hk' h'=> ?_
    cases e with
    |normal=>
     simp only at h'
     split at h'
     case h_2=>cases h'
     rename_i s3 hs3
     obtain⟨L3,R3,hk3⟩:=Af hK R' hs3
     exact⟨f,Nat.lt_succ_self f,L3,s3,R3,hk3 L0 hk',h'⟩
    |exit i=>exact hout (.exit i) L' st' a' w' R' hk' h'
    |ret=>exact hout .ret L' st' a' w' R' hk' h'
 | .exit id,k,L,st,a,w,Q,R,hk,h,hQ=>wp_exit (hQ (.exit id) L st a w R hk (by simpa only [evK]using h))
 | .ret,k,L,st,a,w,Q,R,hk,h,hQ=>wp_ret (hQ .ret L st a w R hk (by simpa only [evK]using h))
 | .rangeFunc ..,k,L,st,a,w,Q,R,hk,h,hQ=>by simp [evK]at h
 | .scope _,k,L,st,a,w,Q,R,hk,h,hQ=>by simp [evK]at h
 | .label _,k,L,st,a,w,Q,R,hk,h,hQ=>by simp [evK]at h
 | .goto _,k,L,st,a,w,Q,R,hk,h,hQ=>by simp [evK]at h
 | .refuse _,k,L,st,a,w,Q,R,hk,h,hQ=>by simp [evK]at h
theorem Am {objs:List (Nat×Ob)}: ∀(f:Nat) (todo:List Nat) (acc:List (Nat×Ob)) {r:List (Nat×Ob)},P7 objs f todo acc=some r→(∀o x,(o,x)∈acc→getO objs o=some x)→ ∀o x,(o,x)∈r→getO objs o=some x
 |f,[],acc,r,h,ha=>by cases f<;>(simp only [P7,Option.some.injEq]at h;subst h;exact ha)
 |0,o::todo,acc,r,h,ha=>by simp [P7]at h
 |f+1,o::todo,acc,r,h,ha=>by
  simp only [P7]at h
  split at h
  ·exact Am f todo acc h ha
  ·split at h
   case h_2=>cases h
   rename_i x hx
   refine Am f _ _ h fun o' x' hm=> ?_
   rcases List.mem_append.1 hm with hm|hm
   ·exact ha _ _ hm
   ·simp only [List.mem_singleton,Prod.mk.injEq]at hm
    obtain⟨rfl,rfl⟩:=hm;exact hx
mutual
theorem wh (hK:K.Ok): ∀(x:AV) (os:List Ob) {L:Lk} {v:Value},RelO K w0 M0 L w→(∀i,os[i]? =(L i).map (·.2))→rel L w (Mut L) x v→
 ∃L',RelO K w0 M0 L' w∧(∀i,(il x os).2[i]? =(L' i).map (·.2))∧More L L'∧Tr w (Mut L) w (Mut L')∧rel L' w (Mut L') (il x os).1 v
 | .nil e,os,L,v,h,ho,hr=>by
   have hL:L os.length=none:=by
    have:=ho os.length
    rw [List.getElem?_eq_none (Nat.le_refl _)]at this
    cases hLi:L os.length with
    |none=>rfl
    |some p=>rw [hLi]at this;simp at this
   obtain⟨q1,q2,q3⟩:=h.new hK hL (p:=(⟨none,0,[]⟩,.arr e 0 false [])) (w':=w) (Fr.refl w _) (fun _=>.inl ⟨rfl,rfl,rfl,rfl⟩) (fun b o' hr'=>by obtain⟨o0,e1,_,_⟩:=cg rfl hr';cases e1)
   refine⟨_,q1,fun i=> ?_,fun k p hk=> ?_,q2, ?_⟩
   ·simp only [il]
    by_cases hi:i=os.length
    ·subst hi;simp [upd]
    ·rw [aG L _ hi,←ho i]
     by_cases hlt:i<os.length
     ·rw [List.getElem?_append_left hlt]
     ·rw [List.getElem?_eq_none (by simp;omega),List.getElem?_eq_none (by omega)]
   ·have:k≠os.length:=by intro e;subst e;rw [hL]at hk;cases hk
    rw [aG L _ this];exact hk
   ·have hc:=fi hr
    subst hc
    simp only [il,rel]
    exact⟨_,_,_,_,_,_,_,_,av _ _ _,Nat.le_refl _,rfl,fun _=>⟨rfl,rfl,rfl⟩⟩
 | .agg vs,os,L,v,h,ho,hr=>by
   simp only [rel]at hr
   obtain⟨cs,rfl,h1,h2⟩:=hr
   obtain⟨L',q1,q2,q3,q4,q5⟩:=kN hK vs os h ho h1
   exact⟨L',q1,by simpa only [il]using q2,q3,q4,by simp only [il,rel];exact⟨cs,rfl,q5,h2⟩⟩
 | .tup vs,os,L,v,h,ho,hr=>by
   simp only [rel]at hr
   obtain⟨cs,rfl,h1⟩:=hr
   obtain⟨L',q1,q2,q3,q4,q5⟩:=kN hK vs os h ho h1
   exact⟨L',q1,by simpa only [il]using q2,q3,q4,by simp only [il,rel];exact⟨cs,rfl,q5⟩⟩
 | .undef,os,L,v,h,ho,hr=>⟨L,h,ho,fun _ _=>_root_.id,Tr.refl _ _,hr⟩
 | .int _ _,os,L,v,h,ho,hr=>⟨L,h,ho,fun _ _=>_root_.id,Tr.refl _ _,hr⟩
 | .bool _,os,L,v,h,ho,hr=>⟨L,h,ho,fun _ _=>_root_.id,Tr.refl _ _,hr⟩
 | .str _,os,L,v,h,ho,hr=>⟨L,h,ho,fun _ _=>_root_.id,Tr.refl _ _,hr⟩
 | .sh _ _,os,L,v,h,ho,hr=>⟨L,h,ho,fun _ _=>_root_.id,Tr.refl _ _,hr⟩
 | .sel _ _ _,os,L,v,h,ho,hr=>⟨L,h,ho,fun _ _=>_root_.id,Tr.refl _ _,hr⟩
 | .ref _ _,os,L,v,h,ho,hr=>⟨L,h,ho,fun _ _=>_root_.id,Tr.refl _ _,hr⟩
 | .ptr _ _,os,L,v,h,ho,hr=>⟨L,h,ho,fun _ _=>_root_.id,Tr.refl _ _,hr⟩
 | .eptr _ _ _ _,os,L,v,h,ho,hr=>⟨L,h,ho,fun _ _=>_root_.id,Tr.refl _ _,hr⟩
 | .nilp,os,L,v,h,ho,hr=>⟨L,h,ho,fun _ _=>_root_.id,Tr.refl _ _,hr⟩
 | .fn _ _,os,L,v,h,ho,hr=>⟨L,h,ho,fun _ _=>_root_.id,Tr.refl _ _,hr⟩
 | .nilfn,os,L,v,h,ho,hr=>⟨L,h,ho,fun _ _=>_root_.id,Tr.refl _ _,hr⟩
 | .bz _,os,L,v,h,ho,hr=>⟨L,h,ho,fun _ _=>_root_.id,Tr.refl _ _,hr⟩
 | .mp _,os,L,v,h,ho,hr=>⟨L,h,ho,fun _ _=>_root_.id,Tr.refl _ _,hr⟩
 | .wref _ _ _ _ _,os,L,v,h,ho,hr=>⟨L,h,ho,fun _ _=>_root_.id,Tr.refl _ _,hr⟩
 | .noerr,os,L,v,h,ho,hr=>⟨L,h,ho,fun _ _=>_root_.id,Tr.refl _ _,hr⟩
 | .err,os,L,v,h,ho,hr=>⟨L,h,ho,fun _ _=>_root_.id,Tr.refl _ _,hr⟩
theorem kN (hK:K.Ok): ∀(xs:List AV) (os:List Ob) {L:Lk} {vs:List Value},RelO K w0 M0 L w→(∀i,os[i]? =(L i).map (·.2))→aK L w (Mut L) xs vs→
 ∃L',RelO K w0 M0 L' w∧(∀i,(iG xs os).2[i]? =(L' i).map (·.2))∧More L L'∧Tr w (Mut L) w (Mut L')∧aK L' w (Mut L') (iG xs os).1 vs
 | [],os,L,vs,h,ho,hr=>⟨L,h,ho,fun _ _=>_root_.id,Tr.refl _ _,hr⟩
 |x::xs,os,L,vs,h,ho,hr=>by
  obtain⟨c,cs,rfl,h1,h2⟩:=aL hr
  obtain⟨L1,q1,q2,q3,q4,q5⟩:=wh hK x os h ho h1
  obtain⟨L2,r1,r2,r3,r4,r5⟩:=kN hK xs _ q1 q2 (ci q3.turn q4 xs h2)
  refine⟨L2,r1,by simpa only [iG]using r2,fun k p hk=>r3 _ _ (q3 _ _ hk),q4.trans r4, ?_⟩
  simp only [iG,aK]
  exact⟨c,cs,rfl,im r3.turn r4 _ q5,r5⟩
end
theorem Ie (hK:K.Ok) {O:Opt} {m:Nat} {x:AV} {v:Value} {r:AV} {os:List Ob} (ro:RelO K w0 M0 L w) (ob: ∀i,getO st.objs i=(L i).map (·.2)) (hr:rel L w (Mut L) x v) (h:HC O m st x=some (r,os)) {L0:Lk} (hk:Kept m L0 L):
 ∃L',RelO K w0 M0 L' w∧(∀i,os[i]? =(L' i).map (·.2))∧Kept m L0 L'∧rel L' w (Mut L') r v:=by
 unfold HC at h
 split at h
 case h_2=>cases h
 rename_i objs hg
 simp only at h
 split at h
 case h_2=>cases h
 rename_i hc
 simp only [Bool.and_eq_true]at hc
 have hnd:=gA hc.1
 have hgs:=Am _ _ _ hg (by simp)
 have hsh:Ad st.objs L:=fun i x hx=>by
  have:=ob i
  rw [hx]at this
  cases hL:L i with
  |none=>rw [hL]at this;simp at this
  |some p=>rw [hL]at this;simp only [Option.map_some,Option.some.injEq]at this;exact⟨p.1,by rw [this]⟩
 generalize hos:objs.map (·.1)=ks at *
 obtain⟨q1,q2⟩:=ro.ren (m:=m) (ρ:=jl 0 ks) (L':=lkL m (jl 0 ks) st.objs ks L L.F) hsh jA rfl (fun n p' hp=>by
  obtain⟨o,l,x,h1,h2,h3⟩:=jz hp
  exact⟨o,l,x,by simpa using nS (k:=0) hnd h1,h2,h3⟩) (fun o n n' e1 e2=>by rw [e1]at e2;exact Option.some.inj e2)
 have hob: ∀i,(my m (jl 0 ks) st.objs 0 objs)[i]? =(lkL m (jl 0 ks) st.objs ks L L.F i).map (·.2):=fun i=>by
  rw [gj]
  simp only [lkL,←hos,List.getElem?_map]
  cases hi:objs[i]? with
  |none=>simp
  |some p=>
   obtain⟨l,hl⟩:=hsh p.1 p.2 (hgs p.1 p.2 (List.mem_of_getElem? hi))
   simp [hl]
 have hk':Kept m L0 (lkL m (jl 0 ks) st.objs ks L L.F):=hk.ren jA (kM hc.2)
 have hr':=Ch hsh (jA (m:=m) (os:=ks) (F:=L.F)) q2 x hr
 split at h
 ·simp only [Option.some.injEq,Prod.mk.injEq]at h
  obtain⟨rfl,rfl⟩:=h
  exact⟨_,q1,hob,hk',hr'⟩
 ·simp only [Option.some.injEq]at h
  obtain⟨L2,r1,r2,r3,r4,r5⟩:=wh hK _ _ q1 hob hr'
  rw [h]at r2 r5
  exact⟨L2,r1,r2,hk'.turn r3.turn,r5⟩
def RQ (tmps:Array Value):ResultVar→Sem Value
 | .tmp t=>pure (tmps.getD t undef)
 | .cell a t=>do loadVar t (←asAddr (tmps.getD a undef))
theorem Fp (f:Func) (tmps:Array Value):results f tmps=(do let vs ←f.results.mapM (RQ tmps);pure (if h:vs.size=1 then vs[0]else .tuple vs)):=by
 unfold results
 rfl
theorem An (hK:K.Ok) (R:Rl K w0 M0 L st a w): ∀(rs:List ResultVar) {k:List AV→Cmd} {t:List Ac} {r:Rz},(P6 K rs k).ex st t=some r→
 ∃vs t' vs',(k vs).ex st t'=some r∧aK L w (Mut L) vs vs'∧(rs.mapM (RQ a.tmps)).run K.P w= .ok vs' w
 | [],k,t,r,h=>⟨[],t,[],by simpa only [P6]using h,by simp [aK],by simp⟩
 | .tmp s::l,k,t,r,h=>by
   simp only [P6,Cmd.ex]at h
   obtain⟨vs,t',vs',h1,h2,h3⟩:=An hK R l h
   have hs:=dn R.env s
   have e1:a.tmps.toList.getD s undef=a.tmps.getD s undef:=by simp [Array.getD_eq_getD_getElem?,List.getD_eq_getElem?_getD]
   rw [e1]at hs
   refine⟨_,t',a.tmps.getD s undef::vs',h1,by simp only [aK];exact⟨_,_,rfl,hs,h2⟩, ?_⟩
   rw [List.mapM_cons,Sem.run_bind]
   simp only [RQ,Sem.run_pure,Result.andThen_ok,Sem.run_bind,h3]
 | .cell s ty::l,k,t,r,h=>by
   simp only [P6]at h
   split at h
   case h_2=>exact(ab h).elim
   rename_i cs ag hl
   simp only [Cmd.ex]at h
   have hs:=dn R.env s
   have e1:a.tmps.toList.getD s undef=a.tmps.getD s undef:=by simp [Array.getD_eq_getD_getElem?,List.getD_eq_getElem?_getD]
   rw [e1]at hs
   split at h
   case h_2=>exact(ab h).elim
   rename_i i off hi
   rw [hi]at hs
   obtain⟨y,h2,h3⟩:=br h
   cases y with
   |arr _ _ _ _=>exact(ab h3).elim
   |map _ _ _ _=>exact(ab h3).elim
   |var xs=>
    simp only at h3
    split at h3
    case isFalse=>exact(ab h3).elim
    rename_i hle
    split at h3
    case h_2=>exact(ab h3).elim
    rename_i u hm
    obtain⟨vs,t',vs',g1,g2,g3⟩:=An hK R l h3
    simp only [rel]at hs
    obtain⟨b,o0,cap,cs',h4,h5⟩:=hs
    have hob:=R.ob i
    rw [h2,h4]at hob
    simp only [Option.map_some,Option.some.injEq,Ob.var.injEq]at hob
    subst hob
    obtain⟨b',o',us,h6,h7,h8,h9,_⟩:=R.ro.ok i _ h4
    simp only [Option.some.injEq,Prod.mk.injEq]at h6
    obtain⟨rfl,rfl⟩:=h6
    have hlen:=bp h7
    have hload:=nE hK (w:=w) hl (b:=b) (off:=o0+off) (vs:=sub us off cs.length) (q_ _ _ _ (by omega)) (fun j hj=>by
     rw [HK _ _ _ _ hj,Nat.add_assoc,(h9 _ (by omega)).1])
    have hload':(loadVar ty ⟨b,o0+off,none⟩).run K.P w= .ok (ie ag (sub us off cs.length)) w:=by
     simpa [Instr.loadAt,Instr.sureAddr]using hload
    refine⟨_,t',ie ag (sub us off cs.length)::vs',g1, ?_, ?_⟩
    ·simp only [aK]
     exact⟨_,_,rfl,nB (mI h7 off cs.length) (fun c hc=>h8 c (tO hc)) hm,g2⟩
    ·rw [List.mapM_cons,Sem.run_bind]
     simp only [RQ,h5,asAddr,Sem.run_pure,Result.andThen_ok,Sem.run_bind,hload',g3]
theorem wi: ∀(l:List Ob) (k i:Nat),getO (HD k l) i=if k≤i then l[i-k]? else none
 | [],k,i=>by simp [HD,getO]
 |x::l,k,i=>by
  simp only [HD,getO]
  by_cases h:k=i
  ·subst h;simp
  ·rw [if_neg h,wi l (k+1) i]
   by_cases h2:k≤i
   ·rw [if_pos (by omega),if_pos h2,show i-k=(i-(k+1))+1 by omega];simp
   ·rw [if_neg (by omega),if_neg h2]
theorem Kept.refl (m:Nat) (L:Lk):Kept m L L:=by
 intro i _ l x hx
 refine⟨l,x,hx, ?_⟩
 cases x with
 |var cs=>exact⟨rfl,cs,rfl⟩
 |arr e v z xs=>exact⟨v,z,xs,rfl,fun _=>⟨⟨rfl,rfl⟩,rfl⟩⟩
 |map kt vt ag xs=>exact⟨rfl,xs,rfl⟩
theorem Cs {f:Func} {args:List AV} {objs:List Ob} {vs:List Value} (ro:RelO K w ⟨eq L,L.F⟩ L w) (hob: ∀i,objs[i]? =(L i).map (·.2)) (hargs:aK L w (Mut L) args vs):
 Rl K w ⟨eq L,L.F⟩ L (start f args objs) {tmps:=vs.toArray++Array.replicate (f.ntmps-vs.toArray.size) undef,defers:=[]} w:=by
 have hlen:=bp hargs
 refine⟨ro,fun i=> ?_, ?_,rfl⟩
 ·simp only [start]
  rw [wi]
  simpa using hob i
 ·simp only [start,Array.toList_append,Array.toList_replicate,List.size_toArray,hlen]
  refine fg hargs ?_
  generalize f.ntmps-args.length=q
  induction q with
  |zero=>simp [aK]
  |succ q ih=>simp only [List.replicate_succ,aK];exact⟨_,_,rfl,by simp [rel],ih⟩
theorem Ct (hK:K.Ok) {O:Opt} {m:Nat} {f:Func} {res:AV} {os:List Ob} {L0:Lk} (R':Rl K w0 M0 L st a w) (hk':Kept m L0 L) (hend:Rr K O m f st=some (res,os)):
 a.defers=[]∧ ∃v,(results f a.tmps).run K.P w= .ok v w∧ ∃L2,RelO K w0 M0 L2 w∧(∀i,os[i]? =(L2 i).map (·.2))∧Kept m L0 L2∧rel L2 w (Mut L2) res v:=by
 refine⟨R'.df, ?_⟩
 unfold Rr at hend
 rw [jt _ _ [] _]at hend
 split at hend
 case h_2=>cases hend
 rename_i s1 t1 he
 obtain⟨xs,t',vs',h1,h2,h3⟩:=An hK R' _ he
 simp only [Cmd.ex,Option.some.injEq,Prod.mk.injEq]at h1
 obtain⟨rfl,_⟩:=h1
 have hres: ∃v,(results f a.tmps).run K.P w= .ok v w∧rel L w (Mut L) (one xs) v:=by
  have hm:(f.results.mapM (RQ a.tmps)).run K.P w= .ok vs'.toArray w:=by
   rw [Array.mapM_eq_mapM_toList]
   simp [h3]
  rw [Fp]
  simp only [Sem.run_bind,hm,Result.andThen_ok,Sem.run_pure]
  refine⟨_,rfl, ?_⟩
  unfold one
  split
  ·rename_i x
   obtain⟨c,rfl,hc⟩:=tR h2
   simpa using hc
  ·rename_i hne
   have hl:=bp h2
   have:vs'.length≠1:=fun h1=>by
    rw [hl]at h1
    match xs,h1 with
    | [x],_=>exact hne x rfl
   rw [dif_neg (by simpa using this)]
   simp only [rel]
   exact⟨_,rfl,h2⟩
 obtain⟨v,hv1,hv2⟩:=hres
 have hg:getS (putS st.env 0 (one xs)) 0=one xs∨st.env=[]:=by
  cases st.env with
  |nil=>exact .inr rfl
  |cons y ys=>exact .inl (by simp [putS,getS])
 simp only at hend
 have hr:rel L w (Mut L) (getS (putS st.env 0 (one xs)) 0) v:=by
  rcases hg with hg|hg
  ·rw [hg];exact hv2
  ·rw [hg];simp [putS,getS,rel]
 obtain⟨L2,q1,q2,q3,q4⟩:=Ie (st:=⟨putS st.env 0 (one xs),st.objs⟩) hK R'.ro R'.ob hr hend hk'
 exact⟨v,hv1,L2,q1,q2,q3,q4⟩
theorem n6 {C:cy} {O:Opt} (hK:K.Ok) (hC: ∀fn,Sound K fn (C fn)) {fn:Nat} {f:Func} (hf:K.P.funcs[fn]? =some f) (hname:(f.name== "runtime.NumGoroutine")=false) {φ:List AV→List Ob→Br}
 (h: ∀args objs res os,(φ args objs).val=some (res,os)→ ∃n,OM K C O n f args objs=some (res,os)):Sound K fn φ:=by
 intro args objs res os hval w L vs ro hob hargs
 obtain⟨n,hrun⟩:=h _ _ _ _ hval
 unfold OM at hrun
 split at hrun
 case h_2=>cases hrun
 rename_i c hb
 refine .inl ⟨calls_of_wp hf hb ?_,f,c,hf,hname,hb⟩
 refine gk hK hC c (Cs ro hob hargs) (Kept.refl objs.length L) hrun fun e L' st' a' w' R' hk' h'=> ?_
 cases e with
 |normal=>exact Ct hK R' hk' h'
 |ret=>exact Ct hK R' hk' h'
 |exit i=>cases h'
end Go.Proofs.YtihabpimbfmhhaaGreatDoor.Ev
