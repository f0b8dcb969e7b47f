/- The texts Ev11, Ev12, one behind the other. -/
import Derived.Test.YtihabpimbfmhhaaGreatDoorK6
import Derived.Laws.Strings2
namespace Go.Proofs.YtihabpimbfmhhaaGreatDoor.Ev
open Go Go.RowKit
set_option linter.unusedSimpArgs false
variable {K:Ctx} {w0:World} {M0:Bd} {L:Lk} {st:St} {a:Act} {w:World} {o:Oper} {M:Nat→Nat→Prop}
theorem RelO.freeze (h:RelO K w0 M0 L w) (hK:K.Ok) {i:Nat} {l:Loc} {e:Ty} {ver:Nat} {z:Bool} {xs:List (Den e)} (hi:L i=some (l,.arr e ver z xs)):
 RelO K w0 M0 (upd L i (l,.arr e ver true xs)) w∧Tr w (Mut L) w (Mut (upd L i (l,.arr e ver true xs)))∧Turn L (upd L i (l,.arr e ver true xs)):=by
 have hT:Turn L (upd L i (l,.arr e ver true xs)):=by
  intro j l1 y1 hj
  by_cases hji:j=i
  ·subst hji
   rw [hi]at hj;cases hj
   exact⟨_,_,av _ _ _,ver,true,xs,rfl,Nat.le_refl _,fun _=>⟨⟨rfl,rfl⟩,rfl⟩⟩
  ·obtain⟨l',x',h1,h2⟩:=Turn.refl L j l1 y1 hj
   exact⟨l',x',by rw [aG L _ hji];exact h1,h2⟩
 have hm: ∀b o,Mut (upd L i (l,.arr e ver true xs)) b o→L.F b o∨ ∃j q,j≠i∧L j=some q∧inR q b o:=by
  rintro b o (hf|⟨j,q,hq,hr⟩)
  ·exact .inl hf
  right
  by_cases hji:j=i
  ·subst hji
   rw [av]at hq;cases hq
   obtain⟨o0,_,h1,h2⟩:=q8 rfl hr
   simp [ext]at h2;omega
  ·rw [aG L _ hji]at hq
   exact⟨j,q,hji,hq,hr⟩
 obtain⟨g1,g2⟩:=h.put hK hi (p':=(l,.arr e ver true xs)) (w':=w) (Fr.refl w _) hT
  (fun ht=>by
   have hmz:Tr w (Mz L l z e) w (Mut (upd L i (l,.arr e ver true xs))):=by
    cases hez:(z|| !e.hasSlice)with
    |true=>rw [f_ hez];exact ht
    |false=>
     obtain⟨rfl,he⟩:z=false∧e.hasSlice=true:=by cases z<;>cases hh:e.hasSlice<;>simp_all
     rw [iJ he]
     intro b o v hn hv
     have hin:inR (l,Ob.arr e ver false xs) b o:=.inr ⟨rfl,Classical.not_not.1 hn⟩
     refine⟨fun hmm=> ?_,hv⟩
     rcases hm _ _ hmm with hf|⟨j',q,hne,hq,hr⟩
     ·rw [h.ff]at hf;exact h.fo _ _ ⟨i,_,hi,hin⟩ hf
     ·exact hne (h.sep j' i q _ _ _ hq hi hr hin)
   rcases h.ok i _ hi with h1|⟨b,o0,h1,h2,h3,h4,h5,h6,_⟩
   ·exact .inl h1
   ·refine .inr ⟨b,o0,h1,h2,fun j hj=> ?_,(fun hz=>by cases hz),fun _ j hj=> ?_,h6,(fun hz=>by cases hz)⟩
    ·obtain⟨ds,k1,k2,k3⟩:=h3 j hj
     exact⟨ds,k1,(by rw [f_ rfl];exact fW hmz e k2),k3⟩
    ·intro hmm
     cases z with
     |true=>exact h5 rfl j hj ((hm _ _ hmm).imp id fun⟨j',q,_,hq,hr⟩=>⟨j',q,hq,hr⟩)
     |false=>
      have hin:inR (l,Ob.arr e ver false xs) b (o0+j):=by
       refine .inl ⟨o0,h1,by omega, ?_⟩
       have:xs.length*e.size≤l.cap*e.size:=Nat.mul_le_mul_right _ h2
       simp only [ext,Bool.false_eq_true,if_false];omega
      rcases hm _ _ hmm with hf|⟨j',q,hne,hq,hr⟩
      ·rw [h.ff]at hf;exact h.fo _ _ ⟨i,_,hi,hin⟩ hf
      ·exact hne (h.sep j' i q _ _ _ hq hi hr hin))
  (fun b o hr=>.inl (by obtain⟨o0,_,h1,h2⟩:=q8 rfl hr;simp [ext]at h2;omega))
 exact⟨g1,g2,hT⟩
def Mn:Option Int→Option Value→Prop
 |none,none=>True
 |some n,some v=> ∃k,v= .int k n
 |_,_=>False
theorem vV (R:Rl K w0 M0 L st a w) {t:TypeId} {x:Option Operand} {k:Option Int→Cmd} {ts:List Ac} {r:Rz} (h:(B8 K t x k).ex st ts=some r):
 ∃n ts',(k n).ex st ts'=some r∧Mn n (x.map a.eval):=by
 cases x with
 |none=>exact⟨none,ts,h,trivial⟩
 |some x=>
  simp only [B8]at h
  obtain⟨v,t1,h1,hv⟩:=a7 R h
  cases v with
  |int ki n=>
   simp only [rel]at hv
   exact⟨some n,t1,h1,by simp only [Option.map_some,Mn];exact⟨ki,hv⟩⟩
  |_=>exact(ab h1).elim
theorem jw {len cap:Nat} (hlc:len≤cap) {lo hi:Option Int} {lv hv:Option Value} (h1:Mn lo lv) (h2:Mn hi hv) (isS:Bool) {k:Int→Int→Cmd} {ts:List Ac} {r:Rz} (h:(q6 len lo hi k).ex st ts=some r) (P:Program):
 ∃l u:Int,0≤l∧l≤u∧u≤len∧(k l u).ex st ts=some r∧(Instr.sliceBounds isS len cap lv hv none).run P w= .ok (l.toNat,u.toNat,cap) w:=by
 unfold q6 at h
 cases hi with
 |none=>
  cases hv with
  |some v=>simp [Mn]at h2
  |none=>
   cases lo with
   |none=>
    cases lv with
    |some v=>simp [Mn]at h1
    |none=>exact⟨0,len,by omega,by omega,by omega,h,by simp [Instr.sliceBounds]⟩
   |some l=>
    cases lv with
    |none=>simp [Mn]at h1
    |some v=>
     obtain⟨ki,rfl⟩:=h1
     obtain⟨h3,h⟩:=bw h
     obtain⟨h4,h⟩:=bw h
     simp only [decide_eq_true_eq]at h3 h4
     exact⟨l,len,h3,h4,by omega,h,by simp [Instr.sliceBounds,Instr.sliceBound,asIntOf,h3,h4]⟩
 |some u=>
  cases hv with
  |none=>simp [Mn]at h2
  |some v=>
   obtain⟨kj,rfl⟩:=h2
   cases lo with
   |none=>
    cases lv with
    |some v=>simp [Mn]at h1
    |none=>
     obtain⟨h3,h⟩:=bw h
     obtain⟨h4,h⟩:=bw h
     simp only [decide_eq_true_eq]at h3 h4
     have h5:u≤(cap:Int):=by omega
     exact⟨0,u,by omega,h3,h4,h,by simp [Instr.sliceBounds,Instr.sliceBound,asIntOf,h3,h5]⟩
   |some l=>
    cases lv with
    |none=>simp [Mn]at h1
    |some v=>
     obtain⟨ki,rfl⟩:=h1
     obtain⟨h3,h⟩:=bw h
     obtain⟨h4,h⟩:=bw h
     obtain⟨h5,h⟩:=bw h
     simp only [decide_eq_true_eq]at h3 h4 h5
     have h6:u≤(cap:Int):=by omega
     have h7:0≤u:=by omega
     have h8: ¬(max u 0<l):=by omega
     exact⟨l,u,h3,h4,h5,h,by simp [Instr.sliceBounds,Instr.sliceBound,asIntOf,h3,h6,h7,h8]⟩
theorem eA {α:Type} (l:List α) (i j:Int) (h1:0≤i) (h2:i≤j) (h3:j≤l.length):(cut l i j).length=(j-i).toNat:=by
 simp [cut];omega
theorem nO {α:Type} (l:List α) (i j:Int) (h1:0≤i) (h2:i≤j) (h3:j≤l.length) (q:Nat) (hq:q< (cut l i j).length):(cut l i j)[q]=l[i.toNat+q]'(by rw [eA l i j h1 h2 h3]at hq;omega):=by
 simp [cut]
theorem RK {l0:Loc} {b o0:Nat} {e:Ty} {xs:List (Den e)} (h:Dq w l0 b o0 e xs) (l u:Int) (k1:0≤l) (k2:l≤u) (k3:u≤xs.length):
 ∃dp':List Rg,(∀b o,cov dp' b o→cov l0.dp b o)∧ ∀l1:Loc,l1.dp=dp'→l.toNat≤l0.cap→l1.cap=l0.cap-l.toNat→Dq w l1 b (o0+l.toNat*e.size) e (cut xs l u):=by
 cases he:e.hasSlice with
 |false=>exact⟨[],fun b o hc=>(bS hc).elim,fun l1 h1 _ _=>fh he h1⟩
 |true=>
  unfold Dq at h
  rw [he]at h
  obtain⟨q1,q2,rss,q3,q4,q5⟩:=h
  have hs:(cut rss l u).flatten.Sublist l0.dp:=by
   have e1:rss.flatten=((rss.take u.toNat).take l.toNat).flatten++((cut rss l u).flatten++(rss.drop u.toNat).flatten):=by
    rw [←List.flatten_append,←List.flatten_append];congr 1;unfold cut
    rw [←List.append_assoc,List.take_append_drop,List.take_append_drop]
   rw [q3,e1];exact(List.sublist_append_left _ _).trans (List.sublist_append_right _ _)
  refine⟨(cut rss l u).flatten,fun b o hc=>by obtain⟨r,hr,hc⟩:=hc;exact⟨r,hs.subset hr,hc⟩,fun l1 h1 hcap hcap1=> ?_⟩
  have hl1:=eA xs l u k1 k2 k3
  have hl2:=eA rss l u k1 k2 (by omega)
  unfold Dq
  rw [he]
  refine⟨fun b' o' hc=> ?_,by rw [h1];exact q2.sublist hs,cut rss l u,h1,by rw [hl1,hl2],fun i hi=> ?_⟩
  ·rw [h1]at hc
   obtain⟨r,hr,hc⟩:=hc
   obtain⟨m1,m2⟩:=q1 b' o' ⟨r,hs.subset hr,hc⟩
   refine⟨m1,fun hh=>m2 ⟨hh.1,by omega, ?_⟩⟩
   have e1:l0.cap*e.size=l.toNat*e.size+(l0.cap-l.toNat)*e.size:=by rw [←Nat.add_mul];congr 1;omega
   rw [hcap1]at hh;omega
  ·rw [hl1]at hi
   obtain⟨ds,m1,m2,m3⟩:=q5 (l.toNat+i) (by omega)
   refine⟨ds,m1, ?_,fun q hq=> ?_⟩
   ·rw [nO xs l u k1 k2 k3]
    have e1:(cut rss l u).getD i []=rss.getD (l.toNat+i) []:=by
     rw [List.getD_eq_getElem?_getD,List.getD_eq_getElem?_getD,List.getElem?_eq_getElem (by omega),List.getElem?_eq_getElem (by omega),nO rss l u k1 k2 (by omega)]
    rw [e1];exact m2
   ·have:=m3 q hq
    rwa [Nat.add_mul,←Nat.add_assoc o0]at this
theorem MN {C:cy} {O:Opt} (hK:K.Ok) {ty:TypeId} {x:Operand} {lo hi:Option Operand} (h:o.op= .slice ty x lo hi none):ic K C O o:=by
 intro w0 M0 L st a w d k t r R he
 rw [h]at he
 simp only [op1]at he
 obtain⟨v,t1,he1,hv⟩:=a7 R he
 obtain⟨lo',t2,he2,hlo⟩:=vV R he1
 obtain⟨hi',t3,he3,hhi⟩:=vV R he2
 clear he he1 he2
 have slc: ∀{y:AV} {ts:List Ac},(tJ K O d ty y lo' hi' k).ex st ts=some r→rel L w (Mut L) y (a.eval x)→ ∃v objs t',(k v).ex ⟨st.env,objs⟩ t'=some r∧Does K w0 M0 o a w L objs v:=by
  intro y ts hy hv
  unfold tJ at hy
  split at hy
  case h_2=>exact(ab hy).elim
  rename_i te e0 b0 hel
  obtain⟨g0,⟨ag,g1⟩,g2,_⟩:=hK.elt ty te e0 b0 hel
  have hsz:=dz hK g1 w
  have run: ∀{p:Option Addr} {n c l u:Nat},a.eval x= .slice p n c→(Instr.sliceBounds true n c (lo.map a.eval) (hi.map a.eval) none).run K.P w= .ok (l,u,c) w→
   (execOp a.eval o).run K.P w= .ok (.value (.slice (if c=l then p else p.map (·.add (l*e0.size))) (u-l) (c-l))) w:=by
   intro p n c l u hx hb
   simp [execOp,h,hx,Instr.sliceAt,Instr.slice,run_underlying g0,hb,hsz,Ty.size]
  cases y with
  |sh e xs=>
   simp only at hy
   split at hy
   case isFalse=>exact(ab hy).elim
   rename_i hee
   subst hee
   simp only [rel]at hv
   obtain⟨p,n,c,h2,rfl,h3,h4⟩:=hv
   simp only [List.cons.injEq,and_true]at h2
   obtain⟨l,u,k1,k2,k3,k4,k5⟩:=jw (w:=w) h3 hlo hhi true hy K.P
   refine⟨_,st.objs,_,k4,Does.same R (run h2 k5) ?_⟩
   simp only [rel]
   have hlen:=eA xs l u k1 k2 k3
   refine⟨_,_,_,rfl,by rw [hlen];omega,by omega, ?_⟩
   rcases h4 with h4|⟨b,off,hp,hr⟩
   ·left;subst h4;simp [cut]
   ·by_cases hc:c=l.toNat
    ·left
     have:(cut xs l u).length=0:=by rw [hlen];omega
     exact List.length_eq_zero_iff.1 this
    ·right
     refine⟨b,off+l.toNat*e.size,by rw [if_neg hc,hp];simp [add_lit],fun i hi=> ?_⟩
     rw [hlen]at hi
     obtain⟨ds,m1,m2,m3⟩:=hr (l.toNat+i) (by omega)
     refine⟨ds,m1,by rw [nO xs l u k1 k2 k3];exact m2,fun j hj=> ?_⟩
     have:=m3 j hj
     rwa [Nat.add_mul,←Nat.add_assoc off]at this
  |nil e=>
   simp only at hy
   have:=fi hv
   obtain⟨l,u,k1,k2,k3,k4,k5⟩:=jw (w:=w) (len:=0) (Nat.le_refl 0) hlo hhi true hy K.P
   have hl0:l=0:=by omega
   have hu0:u=0:=by omega
   subst hl0;subst hu0
   refine⟨_,st.objs,_,k4,Does.same R (run this k5) ?_⟩
   simp [rel]
  |ref j ver=>
   obtain⟨z,h2,h3⟩:=br hy
   cases z with
   |var _=>exact(ab h3).elim
   |map _ _ _ _=>exact(ab h3).elim
   |arr e v' z xs=>
    simp only at h3
    split at h3
    case isFalse=>exact(ab h3).elim
    rename_i hee
    subst hee
    split at h3
    case isFalse=>exact(ab h3).elim
    rename_i hver
    simp only [rel]at hv
    obtain⟨l0,e',cur,z',xs',p,m,cc,h4,h5,h6,h7⟩:=hv
    have hob:=R.ob j
    rw [h2,h4]at hob
    simp only [Option.map_some,Option.some.injEq,Ob.arr.injEq]at hob
    obtain⟨rfl,rfl,rfl,hxs⟩:=hob
    have hxs:=eq_of_heq hxs
    subst hxs
    obtain⟨rfl,rfl,rfl⟩:=h7 hver
    subst hver
    have hlc:xs.length≤l0.cap:=by
     rcases R.ro.ok j _ h4 with⟨_,h8,_⟩|⟨b,o0,h8,h9,_⟩
     ·subst h8;simp
     ·exact h9
    obtain⟨l,u,k1,k2,k3,k4,k5⟩:=jw (w:=w) hlc hlo hhi true h3 K.P
    have hrun:=run h6 k5
    have hlen:=eA xs l u k1 k2 k3
    split at k4
    · -- the whole is taken away
      rename_i hcond
      simp only [Bool.and_eq_true,Bool.not_eq_true']at hcond
      obtain⟨_,hz⟩:=hcond
      subst hz
      obtain⟨_,k4⟩:=cj k4
      obtain⟨dp',hcov,hdq⟩: ∃dp':List Rg,(∀b o,cov dp' b o→cov l0.dp b o)∧ ∀b o0,l0.base=some (b,o0)→ ∀l1:Loc,l1.dp=dp'→l.toNat≤l0.cap→l1.cap=l0.cap-l.toNat→Dq w l1 b (o0+l.toNat*e.size) e (cut xs l u):=by
       rcases R.ro.ok j _ h4 with⟨h8,_,_,h9⟩|⟨b,o0,h8,_,_,_,_,_,h12⟩
       ·exact⟨[],fun b o hc=>(bS hc).elim,fun b o0 hb=>by simp only at h8;rw [h8]at hb;cases hb⟩
       ·obtain⟨dp',g1,g2⟩:=RK (h12 rfl) l u k1 k2 k3
        exact⟨dp',g1,fun b' o' hb=>by simp only at h8;rw [h8]at hb;cases hb;exact g2⟩
      let l1:Loc:=if l0.cap=l.toNat then⟨l0.base,0,[]⟩else⟨l0.base.map fun q=>(q.1,q.2+l.toNat*e.size),l0.cap-l.toNat,dp'⟩
      have hT:Turn L (upd L j (l1,.arr e (ver+1) false (cut xs l u))):=by
       intro j' l2 y1 hj
       by_cases hji:j'=j
       ·subst hji
        rw [h4]at hj;cases hj
        exact⟨_,_,av _ _ _,ver+1,false,_,rfl,by omega,fun hc=>by omega⟩
       ·obtain⟨l',x',h1,h2⟩:=Turn.refl L j' l2 y1 hj
        exact⟨l',x',by rw [aG L _ hji];exact h1,h2⟩
      obtain⟨q1,q2⟩:=R.ro.put hK h4 (p':=(l1,.arr e (ver+1) false (cut xs l u))) (w':=w) (Fr.refl w _) hT
       (fun ht=>by
        rcases R.ro.ok j _ h4 with⟨h8,h9,h10⟩|⟨b,o0,h8,h9,h10,h11,_,h12⟩
        ·simp only at h8 h9 h10
         subst h9
         have hc:l0.cap=l.toNat:=by have:=h10.1;simp at k3;omega
         exact .inl ⟨by simp only [l1,if_pos hc];exact h8,by simp [cut],by simp only [l1,if_pos hc],by simp only [l1,if_pos hc]⟩
        ·simp only at h8 h9 h10
         by_cases hc:l0.cap=l.toNat
         ·have hcut:cut xs l u=[]:=List.length_eq_zero_iff.1 (by rw [hlen];omega)
          refine .inr ⟨b,o0,by simp only [l1,if_pos hc];exact h8,by rw [hcut];simp,fun i hi=>by rw [hcut]at hi;simp at hi,fun _ j hj=>by simp [l1,if_pos hc]at hj,(fun hz=>by cases hz),h12.1,fun _=>by rw [hcut];exact RB (by simp only [l1,if_pos hc])⟩
         ·have hd1:Dq w l1 b (o0+l.toNat*e.size) e (cut xs l u):=hdq b o0 h8 l1 (by simp only [l1,if_neg hc]) (by omega) (by simp only [l1,if_neg hc])
          have hb1:l1.base=some (b,o0+l.toNat*e.size):=by simp only [l1,if_neg hc,h8];rfl
          have hc1:l1.cap=l0.cap-l.toNat:=by simp only [l1,if_neg hc]
          have hcl:(cut xs l u).length≤l1.cap:=by rw [hc1,hlen];omega
          have hcell: ∀i,i<l1.cap*e.size→(∃u,w.cell? ⟨b,o0+l.toNat*e.size+i,none⟩=some u)∧w.frozen? ⟨b,o0+l.toNat*e.size+i,none⟩=false:=fun i hi=>by
           rw [hc1]at hi
           have:=h11 rfl (l.toNat*e.size+i) (by
            show l.toNat*e.size+i<l0.cap*e.size
            have e1:l0.cap*e.size=l.toNat*e.size+(l0.cap-l.toNat)*e.size:=by rw [←Nat.add_mul];congr 1;omega
            omega)
           rwa [←Nat.add_assoc]at this
          cases he:e.hasSlice with
          |true=>exact eu he hb1 hcl hcell hd1
          |false=>
           refine .inr ⟨b,o0+l.toNat*e.size,hb1,hcl,fun i hi=> ?_,fun _=>hcell,(fun hz=>by cases hz),h12.1,fun _=>hd1⟩
           rw [hlen]at hi
           obtain⟨ds,m1,m2,m3⟩:=h10 (l.toNat+i) (by omega)
           refine⟨ds,m1,by rw [nO xs l u k1 k2 k3];exact bT e he m2,fun q hq=> ?_⟩
           have:=m3 q hq
           rwa [Nat.add_mul,←Nat.add_assoc o0]at this)
       (fun b' x' hr=>.inl (by
        rcases hr with⟨x0,e1,e2,e3⟩|⟨_,hcv⟩
        rotate_left
        ·refine .inr ⟨rfl, ?_⟩
         by_cases hc:l0.cap=l.toNat
         ·simp only [l1,if_pos hc]at hcv;exact(bS hcv).elim
         ·simp only [l1,if_neg hc]at hcv;exact hcov _ _ hcv
        simp only [ext,Bool.false_eq_true,if_false]at e3
        left
        by_cases hc:l0.cap=l.toNat
        ·simp only [l1,if_pos hc]at e3;omega
        ·simp only [l1,if_neg hc]at e1 e3
         cases hbb:l0.base with
         |none=>rw [hbb]at e1;cases e1
         |some q=>
          rw [hbb]at e1
          simp only [Option.map_some,Option.some.injEq,Prod.mk.injEq]at e1
          obtain⟨rfl,rfl⟩:=e1
          refine⟨q.2,by simp [hbb],by omega, ?_⟩
          have e4:l0.cap*e.size=l.toNat*e.size+(l0.cap-l.toNat)*e.size:=by rw [←Nat.add_mul];congr 1;omega
          simp only [ext,Bool.false_eq_true,if_false]
          omega))
      refine⟨_,_,_,k4,Does.val hrun q1 (ey R j _ _) hT q2 ?_⟩
      simp only [rel]
      refine⟨l1,e,ver+1,false,cut xs l u,_,_,_,av _ _ _,Nat.le_refl _,rfl,fun _=>⟨?_, ?_, ?_⟩⟩
      ·by_cases hc:l0.cap=l.toNat
       ·simp only [l1,if_pos hc,Loc.addr]
       ·simp only [l1,if_neg hc,Loc.addr]
        cases l0.base<;>simp [add_lit]
      ·rw [hlen];omega
      ·by_cases hc:l0.cap=l.toNat
       ·simp only [l1,if_pos hc];omega
       ·simp only [l1,if_neg hc]
    · -- it is shared from here on
      obtain⟨_,k4⟩:=cj k4
      obtain⟨q1,q2,q3⟩:=R.ro.freeze hK h4
      refine⟨_,_,_,k4,Does.val hrun q1 (ey R j _ _) q3 q2 ?_⟩
      simp only [rel]
      refine⟨_,_,_,rfl,by rw [hlen];omega,by omega, ?_⟩
      rcases q1.ok j _ (av _ _ _)with⟨h8,h9,_⟩|⟨b,o0,h8,h9,h10,_,h11,_⟩
      ·left;subst h9;simp [cut]
      ·replace h8:l0.base=some (b,o0):=h8
       by_cases hc:l0.cap=l.toNat
       ·left
        have:(cut xs l u).length=0:=by rw [hlen];omega
        exact List.length_eq_zero_iff.1 this
       ·right
        refine⟨b,o0+l.toNat*e.size,by rw [if_neg hc];simp [Loc.addr,h8,add_lit],fun i hi=> ?_⟩
        rw [hlen]at hi
        obtain⟨ds,m1,m2,m3⟩:=h10 (l.toNat+i) (by omega)
        rw [f_ rfl]at m2
        refine⟨ds,m1,by rw [nO xs l u k1 k2 k3];exact m2,fun q hq=> ?_⟩
        have a1:=m3 q hq
        have a2:=h11 rfl ((l.toNat+i)*e.size+q) (bY (by omega) hq)
        rw [←Nat.add_assoc]at a2
        rw [Nat.add_mul,←Nat.add_assoc o0]at a1 a2
        exact⟨a1,a2⟩
  |_=>exact(ab hy).elim
 cases v with
 |str s=>
  simp only [zX]at he3
  split at he3
  case h_2=>exact(ab he3).elim
  rename_i hl
  simp only [rel]at hv
  obtain⟨l,u,k1,k2,k3,k4,k5⟩:=jw (w:=w) (cap:=s.length) (Nat.le_refl _) hlo hhi false he3 K.P
  refine⟨_,st.objs,_,k4,Does.same R (v':=.string ⟨(cut s l u).toArray⟩) ?_ (by simp [rel])⟩
  have e1:(ByteArray.mk s.toArray).extract l.toNat u.toNat=ByteArray.mk (cut s l u).toArray:=by
   rw [ByteArray.extract_mk]
   simp [cut,List.drop_take]
  simp [execOp,h,hv,Instr.sliceAt,Instr.slice,run_underlying (gd hK hl rfl),mK,k5,e1]
 |_=>simp only [zX]at he3;exact slc he3 hv
theorem Turn.trans {L L' L'':Lk} (h:Turn L L') (h':Turn L' L''):Turn L L'':=by
 intro i l x hx
 obtain⟨l',x',h1,h2⟩:=h i l x hx
 obtain⟨l'',x'',h3,h4⟩:=h' i l' x' h1
 refine⟨l'',x'',h3, ?_⟩
 cases x with
 |var cs=>obtain⟨rfl,cs',rfl⟩:=h2;exact h4
 |map kt vt ag xs=>obtain⟨rfl,xs',rfl⟩:=h2;exact h4
 |arr e v z xs=>
  obtain⟨v',z',xs',rfl,h5,h6⟩:=h2
  obtain⟨v'',z'',xs'',rfl,h7,h8⟩:=h4
  refine⟨v'',z'',xs'',rfl,by omega,fun hv=> ?_⟩
  obtain⟨e1,e2⟩:=h6 (by omega)
  obtain⟨e3,e4⟩:=h8 (by omega)
  exact⟨⟨e3.1.trans e1.1,e3.2.trans e1.2⟩,e4.trans e2⟩
theorem Tr.trans {w1 w2 w3:World} {M1 M2 M3:Nat→Nat→Prop} (h:Tr w1 M1 w2 M2) (h':Tr w2 M2 w3 M3):Tr w1 M1 w3 M3:=fun b o v hn hv=>by
 obtain⟨h1,h2⟩:=h b o v hn hv
 exact h' b o v h1 h2
theorem Does.turn {objs:List (Nat×Ob)} {v:AV} {L1:Lk} (hT:Turn L L1) (ht:Tr w (Mut L) w (Mut L1)) (h:Does K w0 M0 o a w L1 objs v):Does K w0 M0 o a w L objs v:=by
 intro next Q hn
 exact h next Q fun L' w' v' ro ob hT' ht' hv=>hn L' w' v' ro ob (hT.trans hT') (ht.trans ht') hv
theorem HP (h:RelO K w0 M0 L w) {i ver:Nat} {l0:Loc} {e:Ty} {xs:List (Den e)} (hi:L i=some (l0,.arr e ver true xs)) {v:Value} (hv:rel L w (Mut L) (.ref i ver) v):rel L w (Mut L) (.sh e xs) v:=by
 simp only [rel]at hv⊢
 obtain⟨l',e',cur,z',xs',p,n,c,h1,h2,h3,h4⟩:=hv
 rw [hi]at h1
 simp only [Option.some.injEq,Prod.mk.injEq,Ob.arr.injEq]at h1
 obtain⟨rfl,rfl,rfl,rfl,hxs⟩:=h1
 have hxs:=eq_of_heq hxs
 subst hxs
 obtain⟨rfl,rfl,rfl⟩:=h4 rfl
 have hlc:xs.length≤l0.cap:=by
  rcases h.ok i _ hi with⟨_,h8,_⟩|⟨b,o0,h8,h9,_⟩
  ·subst h8;simp
  ·exact h9
 refine⟨_,_,_,by rw [h3],rfl,hlc, ?_⟩
 rcases h.ok i _ hi with⟨h8,h9,_⟩|⟨b,o0,h8,h9,h10,_,h11,_⟩
 ·exact .inl h9
 ·refine .inr ⟨b,o0,by simp only [Loc.addr];simp only at h8;rw [h8];rfl,fun j hj=> ?_⟩
  obtain⟨ds,m1,m2,m3⟩:=h10 j hj
  rw [f_ rfl]at m2
  refine⟨ds,m1,m2,fun q hq=> ?_⟩
  have a2:=h11 rfl (j*e.size+q) (bY hj hq)
  rw [←Nat.add_assoc]at a2
  exact⟨m3 q hq,a2⟩
theorem gh (hK:K.Ok): ∀(vs:List AV) {L:Lk} {st:St} {k:List AV→Cmd} {ts:List Ac} {r:Rz},Rl K w0 M0 L st a w→(ls vs k).ex st ts=some r→
 ∃vs' objs ts' L',(k vs').ex ⟨st.env,objs⟩ ts'=some r∧Rl K w0 M0 L' ⟨st.env,objs⟩ a w∧Turn L L'∧Tr w (Mut L) w (Mut L')∧ ∀cs,aK L w (Mut L) vs cs→aK L' w (Mut L') vs' cs
 | [],L,st,k,ts,r,R,h=>⟨[],st.objs,ts,L,h,R,Turn.refl L,Tr.refl w _,fun cs hc=>by simp only [aK]at hc⊢;exact hc⟩
 |x::vs,L,st,k,ts,r,R,h=>by
  have plain:(ls vs fun as=>k (x::as)).ex st ts=some r→ ∃vs' objs ts' L',(k vs').ex ⟨st.env,objs⟩ ts'=some r∧Rl K w0 M0 L' ⟨st.env,objs⟩ a w∧Turn L L'∧Tr w (Mut L) w (Mut L')∧ ∀cs,aK L w (Mut L) (x::vs) cs→aK L' w (Mut L') vs' cs:=by
   intro h
   obtain⟨vs',objs,ts',L',h1,h2,h3,h4,h5⟩:=gh hK vs R h
   refine⟨x::vs',objs,ts',L',h1,h2,h3,h4,fun cs hc=> ?_⟩
   simp only [aK]at hc⊢
   obtain⟨c,cs',rfl,h6,h7⟩:=hc
   exact⟨c,cs',rfl,im h3 h4 x h6,h5 _ h7⟩
  cases x with
  |ref j ver=>
   simp only [ls]at h
   obtain⟨z,h2,h3⟩:=br h
   cases z with
   |var _=>exact(ab h3).elim
   |map _ _ _ _=>exact(ab h3).elim
   |arr e v' z xs=>
    simp only at h3
    split at h3
    case isFalse=>exact(ab h3).elim
    rename_i hver
    subst hver
    obtain⟨_,h4⟩:=cj h3
    obtain⟨l0,hl0⟩: ∃l0,L j=some (l0,.arr e ver z xs):=by
     have hob:=R.ob j
     rw [h2]at hob
     cases hL:L j with
     |none=>rw [hL]at hob;cases hob
     |some q=>rw [hL]at hob;simp only [Option.map_some,Option.some.injEq]at hob;exact⟨q.1,by rw [hob]⟩
    obtain⟨q1,q2,q3⟩:=R.ro.freeze hK hl0
    have R1:Rl K w0 M0 (upd L j (l0,.arr e ver true xs)) ⟨st.env,putO st.objs j (.arr e ver true xs)⟩ a w:=⟨q1,ey R j _ _,ci q3 q2 _ R.env,R.df⟩
    obtain⟨vs',objs,ts',L',h5,h6,h7,h8,h9⟩:=gh hK vs R1 h4
    refine⟨.sh e xs::vs',objs,ts',L',h5,h6,q3.trans h7,q2.trans h8,fun cs hc=> ?_⟩
    simp only [aK]at hc⊢
    obtain⟨c,cs',rfl,h10,h11⟩:=hc
    exact⟨c,cs',rfl,im h7 h8 (.sh e xs) (HP q1 (av _ _ _) (im q3 q2 (.ref j ver) h10)),h9 _ (ci q3 q2 vs h11)⟩
  |_=>exact plain h
theorem HQ {C:cy} {O:Opt} (hK:K.Ok) {x:Operand} (h:o.op= .assign x):ic K C O o:=by
 intro w0 M0 L st a w d k t r R he
 have he':(opd K o.type x fun v=>zW (zV d O.shn) v k).ex st t=some r:=by rw [h]at he;exact he
 obtain⟨v,t',h1,hv⟩:=a7 R he'
 unfold zW at h1
 split at h1
 ·obtain⟨vs,objs,t3,L1,h2,R1,u1,u2,u3⟩:=gh hK [v] R h1
  have h3:=u3 [a.eval x] (by simp only [aK];exact⟨_,_,rfl,hv,rfl⟩)
  cases vs with
  |nil=>exact(ab h2).elim
  |cons v' vs=>
   simp only [aK]at h3
   obtain⟨c,cs,e,h4,h5⟩:=h3
   cases e
   exact⟨v',objs,t3,h2,Does.val (by simp [execOp,h]) R1.ro R1.ob u1 u2 h4⟩
 ·exact⟨v,st.objs,t',h1,Does.same R (by simp [execOp,h]) hv⟩
theorem MO {C:cy} {O:Opt} (hK:K.Ok) {ty:TypeId} {p x:Operand} (h:o.op= .store ty p x):ic K C O o:=by
 intro w0 M0 L st a w d k t r R he
 rw [h]at he
 simp only [op1]at he
 split at he
 case h_2=>exact(ab he).elim
 rename_i cs ag hl
 obtain⟨pv,t1,he,hp⟩:=a7 R he
 obtain⟨v,t2,he,hv⟩:=a7 R he
 split at he
 case h_2=>exact(ab he).elim
 rename_i vs hvs
 split at he
 case isFalse=>exact(ab he).elim
 rename_i hlen
 obtain⟨h4,h5⟩:=nA hv hvs
 have hl4:=bp h4
 cases pv with
 |ptr i off=>
  obtain⟨y,h2,h3⟩:=br he
  cases y with
  |arr _ _ _ _=>exact(ab h3).elim
  |map _ _ _ _=>exact(ab h3).elim
  |var xs=>
   simp only at h3
   split at h3
   case isFalse=>exact(ab h3).elim
   rename_i hle
   obtain⟨_,h3⟩:=cj h3
   simp only [rel]at hp
   obtain⟨b,o0,cap,cs',hL,hpe⟩:=hp
   have hob:=R.ob i
   rw [h2,hL]at hob
   simp only [Option.map_some,Option.some.injEq,Ob.var.injEq]at hob
   subst hob
   obtain⟨b',o',us,h6,h7,h8,h9,hbz⟩:=R.ro.ok i _ hL
   obtain⟨hle,hnb⟩:=hle
   simp only [Option.some.injEq,Prod.mk.injEq]at h6
   obtain⟨rfl,rfl⟩:=h6
   have hul:=bp h7
   have hcell: ∀j,j<xs.length→ ∃u,w.cell? ⟨b,o0+j,none⟩=some u:=fun j hj=>⟨us[j]'(by omega),by rw [(h9 j hj).1];simp [hul,hj]⟩
   have hrun:=gc hK hl (w:=w) (b:=b) (off:=o0+off) (v:=a.eval x) (by omega) h5 (fun j hj=>by
    rw [Nat.add_assoc];exact⟨hcell _ (by omega),(h9 _ (by omega)).2⟩)
   have hT:Turn L (upd L i (⟨some (b,o0),cap,[]⟩,.var (spl xs off vs))):=by
    intro j l y hj
    by_cases hji:j=i
    ·subst hji
     rw [hL]at hj;cases hj
     exact⟨_,_,av _ _ _,rfl,_,rfl⟩
    ·obtain⟨l',x',h1,h2⟩:=Turn.refl L j l y hj
     exact⟨l',x',by rw [aG L _ hji];exact h1,h2⟩
   obtain⟨g1,g2⟩:=R.ro.put hK hL (p':=(⟨some (b,o0),cap,[]⟩,.var (spl xs off vs))) (w':=w.setCells b (o0+off) (a.eval x).cells.toList)
    (Fr.setCells b _ _ w fun j hj=>.inl ⟨o0,rfl,by omega,by simp only [ext];omega⟩) hT
    (fun ht=>⟨b,o0,spl us off (a.eval x).cells.toList,rfl,mJ off (ci hT ht xs h7) (ci hT ht vs h4),
     fun c hc=>(z8 off hc).elim (h8 c) (h5 c),fun j hj=>by
      rw [cD]at hj
      refine⟨?_, ?_⟩
      ·rw [bC (fun j hj=>by rw [Nat.add_assoc];exact hcell _ (by omega)),eh _ _ _ _ (by omega)]
       by_cases hc:off≤j∧j<off+(a.eval x).cells.toList.length
       ·rw [if_pos (by omega),if_pos hc];congr 1;omega
       ·rw [if_neg (by omega),if_neg hc];exact(h9 j hj).1
      ·rw [World.frozen?_setCells];exact(h9 j hj).2,fun u r e=>RD hbz hnb (by rw [←bp h4]) hul hle ((Fr.setCells (N:=fun _ _=>True) b _ _ w fun _ _=>trivial).shp b (by
       have hlt:0<xs.length:=by have:=congrArg List.length e;simp only [cD,List.length_cons]at this;omega
       obtain⟨y,hy⟩:=hcell 0 hlt
       exact World.block_lt_of_cell? w ⟨b,o0+0,none⟩ hy)) u r e⟩)
    (fun b' o' hr=>.inl (by obtain⟨x0,e,e1,e2⟩:=cg rfl hr;exact .inl ⟨x0,e,e1,by simpa only [ext,cD]using e2⟩))
   exact⟨_,_,_,h3,Does.skip (by simp [execOp,h,hpe,hrun]) g1 (ey R i _ _) hT g2⟩
 |eptr i ver n off=>
  obtain⟨y0,h20,hf⟩:=br he
  cases y0 with
  |var _=>exact(ab hf).elim
  |map _ _ _ _=>exact(ab hf).elim
  |arr e0 v0 z0 xs0=>
  cases z0 with
  |true=>exact(ab hf).elim
  |false=>
  simp only at hf
  split at hf
  case h_2=>
   rename_i hes
   split at hf
   case isFalse=>exact(ab hf).elim
   rename_i hle
   obtain⟨hle1,rfl,hle3⟩:=hle
   subst hle1
   obtain⟨vs',ms',t3,hf,u1,u2,u3⟩:=mM vs R hf
   split at hf
   case h_2=>exact(ab hf).elim
   rename_i y hy
   have hnd:=u1 List.nodup_nil
   obtain⟨rs,ids,ho,hms⟩:=u3 _ h4
   rw [List.append_nil]at hms
   obtain⟨objs,t4,hf,hob2⟩:=nM ms' hf hnd
   obtain⟨_,h3⟩:=cj hf
   simp only [rel]at hp
   obtain⟨l,e',cur,z',xs',p',hL,h6,hpe,h7⟩:=hp
   have hob:=R.ob i
   rw [h20,hL]at hob
   simp only [Option.map_some,Option.some.injEq,Ob.arr.injEq]at hob
   obtain⟨rfl,rfl,rfl,hxs⟩:=hob
   have hxs:=eq_of_heq hxs
   subst hxs
   obtain⟨b,o0,hb,hn0,hn1,rfl⟩:=h7 rfl
   have hlt:n.toNat<xs0.length:=by omega
   have hcl:(a.eval x).cells.toList.length=e0.size:=by omega
   have hrun:=gc hK hl (w:=w) (b:=b) (off:=o0+n.toNat*e0.size) (v:=a.eval x) (by omega) h5 (fun j hj=>by
    rcases R.ro.ok i _ hL with⟨h8,_⟩|⟨b',o',h8,h9,_,h11,_⟩
    ·simp only at h8;rw [hb]at h8;cases h8
    ·simp only at h8
     rw [hb]at h8
     simp only [Option.some.injEq,Prod.mk.injEq]at h8
     obtain⟨rfl,rfl⟩:=h8
     replace h9:xs0.length≤l.cap:=h9
     have:=h11 rfl (n.toNat*e0.size+j) (bY (i:=n.toNat) (n:=l.cap) (s:=e0.size) (j:=j) (by omega) (by omega))
     rwa [←Nat.add_assoc]at this)
   exact⟨_,_,_,h3,Ff hK R hes hL hb hlt ho hms hnd (ly ho hy) hcl hob2 (by simp [execOp,h,hpe,hrun])⟩
  rename_i hes
  clear h20 hes
  replace he:=hf
  obtain⟨vs',objs1,t3,L1,he,R,u1,u2,u3⟩:=gh hK vs R he
  replace h4:=u3 _ h4
  have hl5:=bp h4
  replace hp:=im u1 u2 (.eptr i ver n off) hp
  obtain⟨y,h2,h3⟩:=br he
  cases y with
  |var _=>exact(ab h3).elim
  |map _ _ _ _=>exact(ab h3).elim
  |arr e v' z xs=>
   cases z with
   |true=>exact(ab h3).elim
   |false=>
   simp only at h3
   split at h3
   case isFalse=>exact(ab h3).elim
   rename_i hle
   obtain⟨hflat,hle⟩:=hle
   split at h3
   case h_2=>exact(ab h3).elim
   rename_i y hy
   obtain⟨_,h3⟩:=cj h3
   simp only [rel]at hp
   obtain⟨l,e',cur,z',xs',p',hL,h6,hpe,h7⟩:=hp
   have hob:=R.ob i
   rw [h2,hL]at hob
   simp only [Option.map_some,Option.some.injEq,Ob.arr.injEq]at hob
   obtain⟨rfl,rfl,rfl,hxs⟩:=hob
   have hxs:=eq_of_heq hxs
   subst hxs
   obtain⟨b,o0,hb,hn0,hn1,rfl⟩:=h7 hle.1
   have hlt:n.toNat<xs.length:=by omega
   have hg:xs.getD n.toNat (Den.zero e)=xs[n.toNat]:=by simp [List.getD,hlt]
   rw [hg]at hy
   rcases R.ro.ok i _ hL with⟨h8,_⟩|⟨b',o',h8,h9,h10,h11,_,hsh,hdq⟩
   ·simp only at h8;rw [hb]at h8;cases h8
   ·simp only at h8
    rw [hb]at h8
    simp only [Option.some.injEq,Prod.mk.injEq]at h8
    obtain⟨rfl,rfl⟩:=h8
    have hmz:Mz L1 l false e=Mut L1:=f_ (by simp [hflat])
    have hdp:l.dp=[]:=by have:=hdq rfl;unfold Dq at this;rw [hflat]at this;exact this
    replace h11: ∀j,j<l.cap*e.size→(∃u,w.cell? ⟨b,o0+j,none⟩=some u)∧w.frozen? ⟨b,o0+j,none⟩=false:=h11 rfl
    replace h9:xs.length≤l.cap:=h9
    obtain⟨ds,h12,h13,h14⟩:=h10 n.toNat hlt
    replace h13:rd w (Mut L1) e xs[n.toNat] ds:=bT e hflat h13
    have hroom: ∀j,j<e.size→n.toNat*e.size+j<l.cap*e.size:=fun j hj=>bY (by omega) hj
    have hrun:=gc hK hl (w:=w) (b:=b) (off:=o0+n.toNat*e.size+off) (v:=a.eval x) (by omega) h5 (fun j hj=>by
     have:=h11 (n.toNat*e.size+(off+j)) (hroom _ (by omega))
     rwa [show o0+(n.toNat*e.size+(off+j))=o0+n.toNat*e.size+off+j by omega]at this)
    have hver:ver=v':=hle.1
    subst hver
    have hT:Turn L1 (upd L1 i (l,.arr e ver false (xs.set n.toNat y))):=by
     intro j l1 y1 hj
     by_cases hji:j=i
     ·subst hji
      rw [hL]at hj;cases hj
      exact⟨_,_,av _ _ _,ver,false,_,rfl,Nat.le_refl _,fun _=>⟨⟨rfl,rfl⟩,by simp⟩⟩
     ·obtain⟨l',x',h1,h2⟩:=Turn.refl L1 j l1 y1 hj
      exact⟨l',x',by rw [aG L1 _ hji];exact h1,h2⟩
    have hrl:=mJ off (cN (L:=L1) e h13) h4
    obtain⟨g1,g2⟩:=R.ro.put hK hL (p':=(l,.arr e ver false (xs.set n.toNat y))) (w':=w.setCells b (o0+n.toNat*e.size+off) (a.eval x).cells.toList)
     (Fr.setCells b _ _ w fun j hj=>.inl ⟨o0,hb,by omega,by
      have:=hroom (off+j) (by omega)
      simp only [ext,Bool.false_eq_true,if_false];omega⟩) hT
     (fun ht=>.inr ⟨b,o0,hb,by simpa using h9,fun j hj=>by
      have hj':j<xs.length:=by simpa using hj
      by_cases hji:j=n.toNat
      ·subst hji
       refine⟨spl ds off (a.eval x).cells.toList,by rw [cD];exact h12, ?_,fun q hq=> ?_⟩
       ·simp only [List.getElem_set_self]
        exact bT e hflat (fj hrl hy)
       ·rw [bC (fun j hj=>by
         have:=(h11 (n.toNat*e.size+(off+j)) (hroom _ (by omega))).1
         rwa [show o0+(n.toNat*e.size+(off+j))=o0+n.toNat*e.size+off+j by omega]at this),eh _ _ _ _ (by omega)]
        by_cases hc:off≤q∧q<off+(a.eval x).cells.toList.length
        ·rw [if_pos (by omega),if_pos hc];congr 1;omega
        ·rw [if_neg (by omega),if_neg hc];exact h14 q hq
      ·obtain⟨ds',k1,k2,k3⟩:=h10 j hj'
       refine⟨ds',k1, ?_,fun q hq=> ?_⟩
       ·rw [List.getElem_set_ne (by omega)];exact bT e hflat k2
       ·rw [World.cell?_setCells_out b _ _ w _ (fun _ _=>by
         simp only
         rcases Nat.lt_or_gt_of_ne hji with hlt'|hlt'
         ·left
          have:(j+1)*e.size≤n.toNat*e.size:=Nat.mul_le_mul_right _ hlt'
          rw [Nat.add_mul]at this;omega
         ·right
          have:(n.toNat+1)*e.size≤j*e.size:=Nat.mul_le_mul_right _ hlt'
          rw [Nat.add_mul]at this;omega)]
        exact k3 q hq,
      fun _ j hj=>by
       obtain⟨⟨u,k1⟩,k2⟩:=h11 j hj
       refine⟨?_,by rw [World.frozen?_setCells];exact k2⟩
       rw [bC (fun j hj=>by
        have:=(h11 (n.toNat*e.size+(off+j)) (hroom _ (by omega))).1
        rwa [show o0+(n.toNat*e.size+(off+j))=o0+n.toNat*e.size+off+j by omega]at this)]
       split
       ·exact⟨_,List.getElem?_eq_getElem (by omega)⟩
       ·exact⟨u,k1⟩,
      (fun hz=>by cases hz),fun he=>(hsh he).imp fun n hn=>((Fr.setCells (N:=fun _ _=>True) b _ _ w fun _ _=>trivial).shp b (mH hn)).trans hn,fun _=>fh hflat hdp⟩)
     (fun b' o' hr=>.inl (by rcases hr with hr|hr;exact .inl hr;exact .inr hr))
    exact⟨_,_,_,h3,Does.turn u1 u2 (Does.skip (by simp [execOp,h,hpe,hrun]) g1 (ey R i _ _) hT g2)⟩
 |_=>exact(ab he).elim
end Go.Proofs.YtihabpimbfmhhaaGreatDoor.Ev
namespace Go.Proofs.YtihabpimbfmhhaaGreatDoor.Ev
open Go Go.RowKit
set_option linter.unusedSimpArgs false
variable {K:Ctx} {w0:World} {M0:Bd} {L:Lk} {st:St} {a:Act} {w:World} {o:Oper} {M:Nat→Nat→Prop}
theorem MP {α:Type} (l:List α) (n:Nat) (v:α) (vs:List α) (h:n+(vs.length+1)≤l.length):spl l n (v::vs)=spl (l.set n v) (n+1) vs:=by
 apply List.ext_getElem?
 intro j
 rw [eh _ _ _ _ (by simpa using h),eh _ _ _ _ (by simp;omega)]
 simp only [List.length_cons]
 by_cases h1:n≤j∧j<n+(vs.length+1)
 ·rw [if_pos h1]
  by_cases h2:j=n
  ·subst h2;rw [if_neg (by omega)];simp;rw [List.getElem?_set_self (by omega)]
  ·rw [if_pos (by omega)]
   obtain⟨q,hq⟩: ∃q,j-n=q+1:=⟨j-n-1,by omega⟩
   rw [hq,List.getElem?_cons_succ];congr 1;omega
 ·rw [if_neg h1,if_neg (by omega),List.getElem?_set_ne (by omega)]
theorem Cc: ∀(vs:List Value) (j off:Nat) (cells:Array Value),off+j+vs.length≤cells.size→
 ((vs.zipIdx j).foldl (fun cs p=>cs.setIfInBounds (off+p.2) p.1) cells).toList=spl cells.toList (off+j) vs
 | [],j,off,cells,h=>by
   simp
   apply List.ext_getElem?;intro q;rw [eh _ _ _ _ (by simpa using h)];simp;omega
 |v::vs,j,off,cells,h=>by
  simp only [List.zipIdx_cons,List.foldl_cons]
  have:=Cc vs (j+1) off (cells.setIfInBounds (off+j) v) (by simp at h⊢;omega)
  rw [show off+(j+1)=off+j+1 by omega]at this
  rw [this,MP _ _ _ _ (by simp at h⊢;omega)]
  simp
theorem tT {place:Nat→Option (Nat×Nat)} {cells:Array Value} {i off:Nat} {v:Value} {rest:List (Nat×Value)} (hp:place i=some (off,v.cells.size)) (hle:off+v.cells.size≤cells.size):
 ∃c':Array Value,c'.toList=spl cells.toList off v.cells.toList∧Instr.fill place cells ((i,v)::rest)=Instr.fill place c' rest:=by
 refine⟨v.cells.zipIdx.foldl (fun cs (c,j)=>cs.setIfInBounds (off+j) c) cells, ?_, ?_⟩
 ·have:=Cc v.cells.toList 0 off cells (by simp;omega)
  simp only [Nat.add_zero]at this
  rw [←this,←Array.foldl_toList,Array.toList_zipIdx]
 ·have h1: ¬(v.cells.size≠v.cells.size||off+v.cells.size>cells.size)=true:=by simp;omega
  simp only [Instr.fill,hp]
  rw [if_neg h1]
theorem tU (hK:K.Ok) (R:Rl K w0 M0 L st a w) {s:TypeId} {place:Nat→Option (Nat×Nat)} (hpl: ∀i off t cs ag,plc K s i=some (off,t)→K.lay t=some (cs,ag)→place i=some (off,cs.length)):
 ∀(ps:List (Nat×Operand)) {xs:List AV} {cells:Array Value} {k:List AV→Cmd} {ts:List Ac} {r:Rz},aK L w (Mut L) xs cells.toList→(∀c∈cells.toList,c.oneCell'=true)→(My K s ps xs k).ex st ts=some r→
 ∃(ys:List AV) (cells':Array Value) (ts':List Ac),(k ys).ex st ts'=some r∧aK L w (Mut L) ys cells'.toList∧(∀c∈cells'.toList,c.oneCell'=true)∧Instr.fill place cells (ps.map fun p=>(p.1,a.eval p.2))=some cells'
 | [],xs,cells,k,ts,r,h1,h2,he=>⟨xs,cells,ts,he,h1,h2,rfl⟩
 |(i,x)::ps,xs,cells,k,ts,r,h1,h2,he=>by
  simp only [My]at he
  split at he
  case h_2=>exact(ab he).elim
  rename_i off t hp
  split at he
  case h_2=>exact(ab he).elim
  rename_i cs ag hl
  obtain⟨v,t1,he1,hv⟩:=a7 R he
  split at he1
  case h_2=>exact(ab he1).elim
  rename_i vs hvs
  split at he1
  case isFalse=>exact(ab he1).elim
  rename_i hlen
  obtain⟨h4,h5⟩:=nA hv hvs
  have hl4:=bp h4
  have hlx:=bp h1
  have hsz:(a.eval x).cells.size=cs.length:=by rw [←hlen.1,←hl4];simp
  have hle:off+(a.eval x).cells.size≤cells.size:=by
   have:cells.size=xs.length:=by simpa using hlx
   rw [this,hsz];omega
  obtain⟨c',hc1,hc2⟩:=tT (place:=place) (cells:=cells) (i:=i) (v:=a.eval x) (rest:=ps.map fun p=>(p.1,a.eval p.2)) (by rw [hpl i off t cs ag hp hl,hsz]) hle
  obtain⟨ys,cells',ts',g1,g2,g3,g4⟩:=tU hK R hpl ps (cells:=c') (by rw [hc1];exact mJ off h1 h4) (by
   rw [hc1];intro c hc;exact(z8 off hc).elim (h2 c) (h5 c)) he1
  exact⟨ys,cells',ts',g1,g2,g3,by rw [List.map_cons,hc2];exact g4⟩
theorem Fg (hK:K.Ok) {fs:Array Field} (h: ∀f∈fs.toList,∃cs ag,K.lay f.type=some (cs,ag)) (w:World):
 ((fs.mapM fun f=>Prod.mk f.offset<$>sizeOf f.type):Sem (Array (Nat×Nat))).run K.P w= .ok (fs.map fun f=>(f.offset,K.P.cellsOf f.type)) w:=by
 obtain⟨l⟩:=fs
 rw [Array.mapM_eq_mapM_toList]
 have: ∀(l:List Field),(∀f∈l,∃cs ag,K.lay f.type=some (cs,ag))→((l.mapM fun f=>Prod.mk f.offset<$>sizeOf f.type):Sem (List (Nat×Nat))).run K.P w= .ok (l.map fun f=>(f.offset,K.P.cellsOf f.type)) w:=by
  intro l
  induction l with
  |nil=>intro _;simp
  |cons f l ih=>
   intro h
   obtain⟨cs,ag,hl⟩:=h f (List.mem_cons_self ..)
   obtain⟨i,d,h1,h2,h3,_⟩:=hK.lay _ cs ag hl
   have hc:K.P.cellsOf f.type=cs.length:=by simp [Program.cellsOf,h1,h3]
   simp [List.mapM_cons,dz hK hl,ih (fun f hf=>h f (List.mem_cons_of_mem _ hf)),hc]
 simp [this l h]
theorem MQ {C:cy} {O:Opt} (hK:K.Ok) {ty:TypeId} {ps:Array (Nat×Operand)} (h:o.op= .build ty ps):ic K C O o:=by
 intro w0 M0 L st a w d k t r R he
 rw [h]at he
 simp only [op1]at he
 split at he
 case h_2=>exact(ab he).elim
 rename_i cs hl
 obtain⟨i,dd,h1,h2,h3,h4,h5,h6⟩:=hK.lay ty cs true hl
 have hz:=kK hK hl
 have hzc:(jm cs true).cells=(cs.map zv).toArray:=by apply Array.ext';simpa using hz
 have hplen: ∀t' cs' ag',K.lay t'=some (cs',ag')→K.P.cellsOf t'=cs'.length:=fun t' cs' ag' hl'=>by
  obtain⟨i,d,h1,h2,h3,_⟩:=hK.lay _ cs' ag' hl'
  simp [Program.cellsOf,h1,h3]
 have hps:(ps.map fun(i,x)=>(i,a.eval x)).toList=ps.toList.map fun p=>(p.1,a.eval p.2):=by simp
 cases dd with
 |struct fs=>
  have harr:K.arr ty=none:=by
   cases ha:K.arr ty with
   |none=>rfl
   |some q=>obtain⟨g1,_⟩:=hK.arr ty q.1 q.2 ha;rw [h2]at g1;cases g1
  obtain⟨ys,cells',ts',g1,g2,g3,g4⟩:=tU hK R (place:=fun i=>(fs.map fun f=>(f.offset,K.P.cellsOf f.type))[i]?) (fun i off t' cs' ag' hp hl'=>by
   simp only [plc,harr]at hp
   obtain⟨fs',fl,k1,k2,k3,k4,_⟩:=hK.fld ty i off t' hp
   rw [h2]at k1;cases k1
   simp [k2,k3,k4,hplen _ _ _ hl']) ps.toList (cells:=(cs.map zv).toArray) (by simpa using ju cs) (by
   intro c hc;simp at hc;obtain⟨x,_,rfl⟩:=hc;exact HM x) he
  refine⟨_,st.objs,ts',g1,Does.same R (v':=.agg cells') ?_ (by simp only [rel];exact⟨_,rfl,g2,g3⟩)⟩
  have hrp:=Fg hK (fs:=fs) (hK.flds ty fs h2 ⟨cs,true,hl⟩) w
  simp only [Array.getElem?_map]at g4
  simp only [execOp,h,Instr.build]
  simp [jv hK hl,run_underlying h2,hrp,hzc]
  simp [g4]
 |array n te=>
  obtain⟨ys,cells',ts',g1,g2,g3,g4⟩:=tU hK R (place:=fun i=>some (i*K.P.cellsOf te,K.P.cellsOf te)) (fun i off t' cs' ag' hp hl'=>by
   simp only [plc]at hp
   split at hp
   ·rename_i n' te' ha
    obtain⟨k1,_⟩:=hK.arr ty n' te' ha
    rw [h2]at k1;cases k1
    split at hp
    ·rename_i ct ag2 hl2
     split at hp
     ·simp only [Option.some.injEq,Prod.mk.injEq]at hp
      obtain⟨rfl,rfl⟩:=hp
      rw [hl2]at hl';cases hl'
      rw [hplen _ _ _ hl2]
     ·cases hp
    ·cases hp
   ·obtain⟨fs',fl,k1,_⟩:=hK.fld ty i off t' hp
    rw [h2]at k1;cases k1) ps.toList (cells:=(cs.map zv).toArray) (by simpa using ju cs) (by
   intro c hc;simp at hc;obtain⟨x,_,rfl⟩:=hc;exact HM x) he
  refine⟨_,st.objs,ts',g1,Does.same R (v':=.agg cells') ?_ (by simp only [rel];exact⟨_,rfl,g2,g3⟩)⟩
  have ha:=hK.arrs ty n te h2 ⟨cs,true,hl⟩
  obtain⟨_,ct,ag2,hl2,_⟩:=hK.arr ty n te ha
  have hsz:=dz hK hl2 w
  rw [hplen _ _ _ hl2]at g4
  simp [execOp,h,Instr.build,jv hK hl,run_underlying h2,hsz,hzc,hps,g4]
 |_=>simp [sm,iI]at h5
end Go.Proofs.YtihabpimbfmhhaaGreatDoor.Ev
