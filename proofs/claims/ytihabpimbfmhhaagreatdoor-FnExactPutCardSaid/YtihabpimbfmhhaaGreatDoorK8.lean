/- The texts Ev13, Ev14, Ev15, Ev16, Ev17, Ev18, Ev19, Ev20, Ev21, one behind the other. -/
import Derived.Test.YtihabpimbfmhhaaGreatDoorK7
import Derived.Great.BuildSlice
import Derived.Deep.AppendSrc
import Derived.Deep.Upon
import Derived.Laws.AppendOwn
import Derived.Laws.MakeOwn
import Derived.Laws.IdiomStrings
import Derived.Laws.BytesString
namespace Go.Proofs.YtihabpimbfmhhaaGreatDoor.Ev
open Go Go.RowKit
set_option linter.unusedSimpArgs false
set_option linter.unusedVariables false
variable {K:Ctx} {w0:World} {M0:Bd} {L:Lk} {st:St} {a:Act} {w:World} {o:Oper} {M:Nat→Nat→Prop}
def Row (w:World) (M:Nat→Nat→Prop) (e:Ty) (l:List (Den e)) (cs:List Value):Prop:=
 cs.length=l.length*e.size∧ ∀i (h:i<l.length),∃ds:List Value,ds.length=e.size∧rd w M e l[i] ds∧ ∀j,j<e.size→cs[i*e.size+j]? =ds[j]?
theorem Row.tr {w':World} {M':Nat→Nat→Prop} {e:Ty} {l:List (Den e)} {cs:List Value} (ht:Tr w M w' M') (h:Row w M e l cs):Row w' M' e l cs:=
 ⟨h.1,fun i hi=>by obtain⟨ds,h1,h2,h3⟩:=h.2 i hi;exact⟨ds,h1,fW ht e h2,h3⟩⟩
theorem Row.nil (w:World) (M:Nat→Nat→Prop) (e:Ty):Row w M e [] []:=⟨by simp,fun i h=>by simp at h⟩
theorem Row.append {e:Ty} {l l':List (Den e)} {cs cs':List Value} (h:Row w M e l cs) (h':Row w M e l' cs'):Row w M e (l++l') (cs++cs'):=by
 refine⟨by simp [h.1,h'.1,Nat.add_mul],fun i hi=> ?_⟩
 by_cases hl:i<l.length
 ·obtain⟨ds,h1,h2,h3⟩:=h.2 i hl
  refine⟨ds,h1,by rw [List.getElem_append_left hl];exact h2,fun j hj=> ?_⟩
  rw [List.getElem?_append_left (by rw [h.1];exact bY hl hj)]
  exact h3 j hj
 ·have hi':i-l.length<l'.length:=by simp at hi;omega
  obtain⟨ds,h1,h2,h3⟩:=h'.2 (i-l.length) hi'
  refine⟨ds,h1,by rw [List.getElem_append_right (by omega)];exact h2,fun j hj=> ?_⟩
  have e1:i*e.size=l.length*e.size+(i-l.length)*e.size:=by rw [←Nat.add_mul];congr 1;omega
  rw [List.getElem?_append_right (by rw [h.1];omega),h.1]
  rw [←h3 j hj];congr 1;omega
theorem Row.cell {e:Ty} {l:List (Den e)} {cs:List Value} (h:Row w M e l cs) {j:Nat} (hj:j<l.length*e.size): ∃(i q:Nat) (hi:i<l.length) (_:q<e.size),j=i*e.size+q:=by
 have hes:0<e.size:=by
  rcases Nat.eq_zero_or_pos e.size with h|h
  ·rw [h]at hj;simp at hj
  ·exact h
 refine⟨j/e.size,j % e.size,Nat.div_lt_of_lt_mul (by rw [Nat.mul_comm];exact hj),Nat.mod_lt _ hes, ?_⟩
 have:=Nat.div_add_mod j e.size
 rw [Nat.mul_comm]at this;omega
theorem Row.one {e:Ty} {l:List (Den e)} {cs:List Value} (h:Row w M e l cs): ∀c∈cs,c.oneCell'=true:=by
 intro c hc
 obtain⟨j,hj,rfl⟩:=List.mem_iff_getElem.1 hc
 obtain⟨i,q,hi,hq,e1⟩:=h.cell (j:=j) (by rw [←h.1];exact hj)
 obtain⟨ds,h1,h2,h3⟩:=h.2 i hi
 have h4:=h3 q hq
 rw [←e1,List.getElem?_eq_getElem hj,List.getElem?_eq_getElem (by omega)]at h4
 simp only [Option.some.injEq]at h4
 rw [h4]
 exact ny e h2 _ (List.getElem_mem _)
theorem vW {e:Ty} {l:List (Den e)} {b o:Nat} (hr: ∀i (h:i<l.length),∃ds:List Value,ds.length=e.size∧rd w M e l[i] ds∧ ∀j,j<e.size→w.cell? ⟨b,o+i*e.size+j,none⟩=ds[j]?):
 ∃cs,Row w M e l cs∧ ∀j,j<cs.length→w.cell? ⟨b,o+j,none⟩=cs[j]? :=by
 refine⟨(List.range (l.length*e.size)).map fun j=>(w.cell? ⟨b,o+j,none⟩).getD undef, ?_, ?_⟩
 ·refine⟨by simp,fun i hi=> ?_⟩
  obtain⟨ds,h1,h2,h3⟩:=hr i hi
  refine⟨ds,h1,h2,fun j hj=> ?_⟩
  have hlt:=bY hi hj
  have h4:=h3 j hj
  rw [List.getElem?_eq_getElem (by omega)]at h4
  rw [List.getElem?_eq_getElem (i:=j) (by omega)]
  rw [Nat.add_assoc]at h4
  rw [List.getElem?_map,List.getElem?_range hlt]
  simp [h4]
 ·intro j hj
  simp only [List.length_map,List.length_range]at hj
  have hes:0<e.size:=by
   rcases Nat.eq_zero_or_pos e.size with h|h
   ·rw [h]at hj;simp at hj
   ·exact h
  obtain⟨ds,h1,h2,h3⟩:=hr (j/e.size) (Nat.div_lt_of_lt_mul (by rw [Nat.mul_comm];exact hj))
  have h4:=h3 (j % e.size) (Nat.mod_lt _ hes)
  have e1:o+j/e.size*e.size+j % e.size=o+j:=by
   have:=Nat.div_add_mod j e.size
   rw [Nat.mul_comm]at this;omega
  rw [e1,List.getElem?_eq_getElem (by rw [h1];exact Nat.mod_lt _ hes)]at h4
  simp [List.getElem?_map,hj,h4]
theorem tV (hK:K.Ok) (R:Rl K w0 M0 L st a w) {i:Nat} (hi:getO st.objs i=none) {e:Ty} (hfl:e.hasSlice=false) {xs:List (Den e)} {cap:Nat} {cells rest:List Value} {w':World}
 (hrow:Row w (Mut L) e xs cells) (hcap:xs.length≤cap) (hlen:(cells++rest).length=cap*e.size) (hF:Fr w (fun _ _=>False) w')
 (hc: ∀j,j<cap*e.size→w'.cell? ⟨w.heap.size,j,none⟩=(cells++rest)[j]? ∧w'.frozen? ⟨w.heap.size,j,none⟩=false) (hsh:e= .int .u8→ ∃n,w'.shape? w.heap.size=some (5,n))
 (hrun:(execOp a.eval o).run K.P w= .ok (.value (.slice (some ⟨w.heap.size,0,none⟩) xs.length cap)) w'):
 Does K w0 M0 o a w L (putO st.objs i (.arr e 0 false xs)) (.ref i 0):=by
 obtain⟨h2,h3,h4⟩:=R.ro.new hK (nF R hi) (p:=(⟨some (w.heap.size,0),cap,[]⟩,.arr e 0 false xs)) (w':=w') hF
  (fun ht=>.inr ⟨w.heap.size,0,rfl,hcap,fun j hj=>by
   obtain⟨ds,k1,k2,k3⟩:=hrow.2 j hj
   refine⟨ds,k1,bT e hfl k2,fun q hq=> ?_⟩
   have hlt:=bY hj hq
   have hle:xs.length*e.size≤cap*e.size:=Nat.mul_le_mul_right _ hcap
   rw [Nat.zero_add,(hc _ (by omega)).1,List.getElem?_append_left (by rw [hrow.1];exact hlt)]
   exact k3 q hq,fun _ j hj=>by
    have hj':j<cap*e.size:=hj
    rw [Nat.zero_add]
    refine⟨?_,(hc j hj').2⟩
    rw [(hc j hj').1,List.getElem?_eq_getElem (by omega)]
    exact⟨_,rfl⟩,(fun hz=>by cases hz),hsh,fun _=>fh hfl rfl⟩)
  (fun b o' hr'=>by obtain⟨o0,e1,_,_⟩:=cg rfl hr';simp only [Option.some.injEq,Prod.mk.injEq]at e1;omega)
 refine Does.val hrun h2 (ey R i _ _) h4 h3 ?_
 simp only [rel]
 exact⟨_,_,_,_,_,_,_,_,av _ _ _,Nat.le_refl _,rfl,fun _=>⟨rfl,rfl,rfl⟩⟩
def RowO (w:World) (e:Ty) (l:List (Den e)) (cs:List Value) (rss:List (List Rg)):Prop:=
 cs.length=l.length*e.size∧rss.length=l.length∧ ∀i (h:i<l.length),∃ds:List Value,ds.length=e.size∧rdO w e l[i] ds (rss.getD i [])∧ ∀j,j<e.size→cs[i*e.size+j]? =ds[j]?
structure HoldsO (L:Lk) (w:World) (ms:List Nat) (rs:List Rg):Prop where
 own: ∀j∈ms,∃p,L j=some p∧kH p.2=true
 cov: ∀b o,cov rs b o→ ∃j∈ms,∃p,L j=some p∧inR p b o
 pw:rs.Pairwise dj
theorem HoldsO.cell {ms:List Nat} {rs:List Rg} (h:HoldsO L w ms rs) (hr:RelO K w0 M0 L w) {b o:Nat} (hc:Ev.cov rs b o):((∃u,w.cell? ⟨b,o,none⟩=some u)∧w.frozen? ⟨b,o,none⟩=false)∧b<w.heap.size:=by
 obtain⟨j,h1,p,h2,h3⟩:=h.cov b o hc
 obtain⟨p',h4,h5⟩:=h.own j h1
 rw [h2]at h4;cases h4
 exact⟨d7 (hr.ok j p h2) (by obtain⟨_,x⟩:=p;cases x<;>simp_all [kH,nz]) h3,ew (hr.ok j p h2) h3⟩
theorem tW (hK:K.Ok) (R:Rl K w0 M0 L st a w) {i:Nat} (hi:L i=none) {e:Ty} (he:e.hasSlice=true) {xs:List (Den e)} {cap:Nat} {cells rest:List Value} {rss:List (List Rg)} {ms:List Nat} {w':World}
 (hrow:RowO w e xs cells rss) (hh:HoldsO L w ms rss.flatten) (hcap:xs.length≤cap) (hlen:(cells++rest).length=cap*e.size) (hF:Fr w (fun _ _=>False) w')
 (hc: ∀j,j<cap*e.size→w'.cell? ⟨w.heap.size,j,none⟩=(cells++rest)[j]? ∧w'.frozen? ⟨w.heap.size,j,none⟩=false)
 {objs:List (Nat×Ob)} (hob: ∀i,getO objs i=if i∈ms then(getO st.objs i).map gOb else getO st.objs i)
 (hrun:(execOp a.eval o).run K.P w= .ok (.value (.slice (some ⟨w.heap.size,0,none⟩) xs.length cap)) w'):
 Does K w0 M0 o a w L (putO objs i (.arr e 0 false xs)) (.ref i 0):=by
 have him:i ∉ ms:=fun h=>by obtain⟨p,h1,_⟩:=hh.own i h;rw [hi]at h1;cases h1
 have hTi:Turn L (upd L i ((⟨some (w.heap.size,0),cap,rss.flatten⟩:Loc),.arr e 0 false xs)):=by
  intro j l x hj
  have hne:j≠i:=by intro e;subst e;rw [hi]at hj;cases hj
  obtain⟨l',x',h1,h2⟩:=Turn.refl L j l x hj
  exact⟨l',x',by rw [aG L _ hne];exact h1,h2⟩
 have hsame: ∀b o,Ev.cov rss.flatten b o→w'.cell? ⟨b,o,none⟩=w.cell? ⟨b,o,none⟩∧w'.frozen? ⟨b,o,none⟩=w.frozen? ⟨b,o,none⟩:=fun b o hcv=>by
  have hb:=(hh.cell R.ro hcv).2
  exact⟨hF.cel b o hb id,hF.frz b o hb id⟩
 obtain⟨g1,g2,g3⟩:=R.ro.take hK (ms:=ms) (i:=i) (p':=((⟨some (w.heap.size,0),cap,rss.flatten⟩:Loc),.arr e 0 false xs)) (w':=w') hh.own him (hF.mono fun _ _ _=>False.elim) hTi
  (fun ht=>eu he rfl hcap (fun j hj=>by
   have hj':j<cap*e.size:=hj
   rw [Nat.zero_add]
   refine⟨?_,(hc j hj').2⟩
   rw [(hc j hj').1,List.getElem?_eq_getElem (by omega)]
   exact⟨_,rfl⟩) (by
   unfold Dq
   rw [he]
   refine⟨fun b' o' hcv=>⟨?_,fun hh'=> ?_⟩,hh.pw,rss,rfl,hrow.2.1,fun j hj=> ?_⟩
   ·rw [(hsame b' o' hcv).1,(hsame b' o' hcv).2];exact(hh.cell R.ro hcv).1
   ·have:=(hh.cell R.ro hcv).2;omega
   ·obtain⟨ds,k1,k2,k3⟩:=hrow.2.2 j hj
    refine⟨ds,k1,lw e k2 fun b' o' hcv=>(hsame b' o' (kJ (by rw [hrow.2.1];exact hj) hcv)).1,fun q hq=> ?_⟩
    have hlt:=bY hj hq
    have hle:xs.length*e.size≤cap*e.size:=Nat.mul_le_mul_right _ hcap
    rw [Nat.zero_add,(hc _ (by omega)).1,List.getElem?_append_left (by rw [hrow.1];exact hlt)]
    exact k3 q hq))
  (fun b' o' hr=>by
   rcases hr with⟨x0,e1,e2,e3⟩|⟨_,hcv⟩
   ·simp only [Option.some.injEq,Prod.mk.injEq]at e1;exact .inr (by omega)
   ·exact .inl (.inr (hh.cov b' o' hcv)))
 refine Does.val hrun g1 (nN R hob i _ _) g3 g2 ?_
 simp only [rel]
 exact⟨_,_,_,_,_,_,_,_,av _ _ _,Nat.le_refl _,rfl,fun _=>⟨rfl,rfl,rfl⟩⟩
theorem fv (w w1:World) (C:Array Value) (t:TypeId) (h:w1.heap.size=w.heap.size): ∀j,(w1.alloc (.cells C t)).cell? ⟨w.heap.size,j,none⟩=C.toList[j]? ∧(w1.alloc (.cells C t)).frozen? ⟨w.heap.size,j,none⟩=false:=by
 intro j
 rw [←h]
 exact⟨by rw [World.cell?_alloc_new];simp,World.frozen?_alloc_new _ _ _ _⟩
theorem MR (hK:K.Ok) (R:Rl K w0 M0 L st a w) {i:Nat} (hi:getO st.objs i=none) {e:Ty} (hrun:(execOp a.eval o).run K.P w= .ok (.value (.slice none 0 0)) w):
 Does K w0 M0 o a w L (putO st.objs i (.arr e 0 false [])) (.ref i 0):=by
 obtain⟨h2,h3,h4⟩:=R.ro.new hK (nF R hi) (p:=(⟨none,0,[]⟩,.arr e 0 false [])) (w':=w) (Fr.refl w _) (fun _=>.inl ⟨rfl,rfl,rfl,rfl⟩)
  (fun b o' hr'=>by obtain⟨o0,e1,_,_⟩:=cg rfl hr';cases e1)
 refine Does.val hrun h2 (ey R i _ _) h4 h3 ?_
 simp only [rel]
 exact⟨_,_,_,_,_,_,_,_,av _ _ _,Nat.le_refl _,rfl,fun _=>⟨rfl,rfl,rfl⟩⟩
theorem dP (hK:K.Ok) {t te:TypeId} {e:Ty} {b:Nat} (hel:K.elt t=some (te,e,b)):
 ∃i ag,K.P.underlying t=some (.slice te)∧K.lay te=some (e.cts,ag)∧0<e.size∧K.P.info? te=some i∧i.bytes=b∧0<b∧i.size=e.size∧i.zero=some (jm e.cts ag)∧(jm e.cts ag).cells.toList=e.cts.map zv∧(jm e.cts ag).cells.size=e.size:=by
 obtain⟨g0,⟨ag,g1⟩,g2,i,g3,g4,g5⟩:=hK.elt t te e b hel
 obtain⟨i',d,h1,h2,h3,h4,_⟩:=hK.lay te _ ag g1
 rw [g3]at h1;cases h1
 have hz:=kK hK g1
 refine⟨i,ag,g0,g1,g2,g3,g4,g5,h3,h4,hz, ?_⟩
 have:=congrArg List.length hz
 simpa [Ty.size]using this
theorem tX (w:World) (M:Nat→Nat→Prop): ∀(e:Ty),rd w M e (Den.zero e) (e.cts.map zv)
 | .int k=>by simp [rd,Den.zero,Ty.cts,zv]
 | .bool=>by simp [rd,Den.zero,Ty.cts,zv]
 | .str=>by simp [rd,Den.zero,Ty.cts,zv]
 | .slice e=>by
   simp only [rd,Den.zero,Ty.cts,zv,List.map_cons,List.map_nil]
   exact⟨none,0,0,rfl,rfl,Nat.le_refl _,.inl trivial⟩
 | .pair a b=>by
   simp only [rd,Den.zero,Ty.cts,List.map_append]
   exact⟨_,_,rfl,tX w M a,tX w M b⟩
 | .unit=>by simp [rd,Den.zero,Ty.cts]
theorem Row.zeros (e:Ty) (z:Array Value) (hz:z.toList=e.cts.map zv) (n:Nat):Row w M e (List.replicate n (Den.zero e)) (madeCells z (n*e.size)).toList:=by
 have hs:z.size=e.size:=by have:=congrArg List.length hz;simpa [Ty.size]using this
 refine⟨by simp [madeCells],fun i hi=>⟨e.cts.map zv,by simp [Ty.size],by simpa using tX w M e,fun j hj=> ?_⟩⟩
 have hi':i<n:=by simpa using hi
 have hlt:=bY hi' hj
 have hm:(i*e.size+j) % z.size=j:=by rw [hs,Nat.mul_comm,Nat.mul_add_mod,Nat.mod_eq_of_lt hj]
 have e1:(madeCells z (n*e.size)).toList[i*e.size+j]? =some z[(i*e.size+j) % z.size]! :=by
  simp [madeCells,hlt]
 rw [e1,hm,←hz]
 have hj':j<z.size:=by omega
 simp [hj']
theorem Row.set {e:Ty} {l:List (Den e)} {cs ds:List Value} {x:Den e} (h:Row w M e l cs) {i:Nat} (hi:i<l.length) (hx:rd w M e x ds):Row w M e (l.set i x) (spl cs (i*e.size) ds):=by
 have hd:=q7 e hx
 have hle:i*e.size+ds.length≤cs.length:=by
  rw [h.1,hd]
  have:(i+1)*e.size≤l.length*e.size:=Nat.mul_le_mul_right _ hi
  rw [Nat.add_mul]at this;omega
 refine⟨by simp [cD,h.1],fun j hj=> ?_⟩
 have hj':j<l.length:=by simpa using hj
 by_cases hji:j=i
 ·subst hji
  refine⟨ds,hd,by simpa using hx,fun q hq=> ?_⟩
  rw [eh _ _ _ _ hle,if_pos (by omega)]
  congr 1;omega
 ·obtain⟨ds',k1,k2,k3⟩:=h.2 j hj'
  refine⟨ds',k1,by rw [List.getElem_set_ne (by omega)];exact k2,fun q hq=> ?_⟩
  rw [eh _ _ _ _ hle,if_neg ?_]
  ·exact k3 q hq
  ·rcases Nat.lt_or_gt_of_ne hji with h1|h1
   ·have:(j+1)*e.size≤i*e.size:=Nat.mul_le_mul_right _ h1
    rw [Nat.add_mul]at this;omega
   ·have:(i+1)*e.size≤j*e.size:=Nat.mul_le_mul_right _ h1
    rw [Nat.add_mul]at this;omega
theorem Cd (hK:K.Ok) {te:TypeId} {e:Ty} (hfl:e.hasSlice=false):
 ∀(ps:List (Nat×Operand)) {L:Lk} {st:St} {l:List (Den e)} {ms:List Nat} {cells:Array Value} {k:List (Den e)→List Nat→Cmd} {ts:List Ac} {r:Rz},Rl K w0 M0 L st a w→Row w (Mut L) e l cells.toList→(E7 K te e ps l ms k).ex st ts=some r→
 ∃(ys:List (Den e)) (cells':Array Value) (ts':List Ac) (objs:List (Nat×Ob)) (L':Lk),(k ys ms).ex ⟨st.env,objs⟩ ts'=some r∧Rl K w0 M0 L' ⟨st.env,objs⟩ a w∧Turn L L'∧Tr w (Mut L) w (Mut L')∧Row w (Mut L') e ys cells'.toList∧ys.length=l.length∧Instr.fill (fun i=>some (i*e.size,e.size)) cells (ps.map fun p=>(p.1,a.eval p.2))=some cells'
 | [],L,st,l,ms,cells,k,ts,r,R,h1,he=>⟨l,cells,ts,st.objs,L,he,R,Turn.refl L,Tr.refl w _,h1,rfl,rfl⟩
 |(i,x)::ps,L,st,l,ms,cells,k,ts,r,R,h1,he=>by
  simp only [E7,P0,hfl]at he
  obtain⟨v,t1,he1,hv⟩:=a7 R he
  split at he1
  case h_2=>exact(ab he1).elim
  rename_i vs hvs
  obtain⟨h4,h5⟩:=nA hv hvs
  obtain⟨vs',objs,t2,L1,he2,R1,q1,q2,q3⟩:=gh hK vs R he1
  replace h4:=q3 _ h4
  split at he2
  case h_2=>exact(ab he2).elim
  rename_i d hd
  split at he2
  case isFalse=>exact(ab he2).elim
  rename_i hi
  have hx:=fj h4 hd
  have hlx:=q7 e hx
  have hsz:(a.eval x).cells.size=e.size:=by simpa using hlx
  have hcs:cells.size=l.length*e.size:=by simpa using h1.1
  obtain⟨c',hc1,hc2⟩:=tT (place:=fun i=>some (i*e.size,e.size)) (cells:=cells) (i:=i) (off:=i*e.size) (v:=a.eval x) (rest:=ps.map fun p=>(p.1,a.eval p.2)) (by simp only [hsz]) (by
   rw [hsz,hcs]
   have:(i+1)*e.size≤l.length*e.size:=Nat.mul_le_mul_right _ hi
   rw [Nat.add_mul]at this;omega)
  obtain⟨ys,cells',ts',objs',L',g1,g5,g6,g7,g2,g3,g4⟩:=Cd hK hfl ps (cells:=c') R1 (by rw [hc1];exact(h1.tr q2).set hi hx) he2
  exact⟨ys,cells',ts',objs',L',g1,g5,q1.trans g6,q2.trans g7,g2,by simpa using g3,by rw [List.map_cons,hc2];exact g4⟩
theorem RowO.set {e:Ty} {l:List (Den e)} {cs ds:List Value} {rss:List (List Rg)} {rs:List Rg} {x:Den e} (h:RowO w e l cs rss) {i:Nat} (hi:i<l.length) (hx:rdO w e x ds rs):RowO w e (l.set i x) (spl cs (i*e.size) ds) (rss.set i rs):=by
 have hd:=q7 e (vP (M:=fun _ _=>False) e hx fun _ _ _=>id)
 have hle:i*e.size+ds.length≤cs.length:=by
  rw [h.1,hd]
  have:(i+1)*e.size≤l.length*e.size:=Nat.mul_le_mul_right _ hi
  rw [Nat.add_mul]at this;omega
 refine⟨by simp [cD,h.1],by simp [h.2.1],fun j hj=> ?_⟩
 have hj':j<l.length:=by simpa using hj
 by_cases hji:j=i
 ·subst hji
  refine⟨ds,hd, ?_,fun q hq=> ?_⟩
  ·rw [List.getD_eq_getElem?_getD,List.getElem?_set_self (by rw [h.2.1];exact hi)]
   simpa using hx
  rw [eh _ _ _ _ hle,if_pos (by omega)]
  congr 1;omega
 ·obtain⟨ds',k1,k2,k3⟩:=h.2.2 j hj'
  refine⟨ds',k1, ?_,fun q hq=> ?_⟩
  ·rw [List.getD_eq_getElem?_getD,List.getElem?_set_ne (by omega),←List.getD_eq_getElem?_getD,List.getElem_set_ne (by omega)];exact k2
  rw [eh _ _ _ _ hle,if_neg ?_]
  ·exact k3 q hq
  ·rcases Nat.lt_or_gt_of_ne hji with h1|h1
   ·have:(j+1)*e.size≤i*e.size:=Nat.mul_le_mul_right _ h1
    rw [Nat.add_mul]at this;omega
   ·have:(i+1)*e.size≤j*e.size:=Nat.mul_le_mul_right _ h1
    rw [Nat.add_mul]at this;omega
theorem Ce (hK:K.Ok) {te:TypeId} {e:Ty} (hde:e.hasSlice=true) (R:Rl K w0 M0 L st a w):
 ∀(ps:List (Nat×Operand)) {l:List (Den e)} {ms:List Nat} {cells:Array Value} {rss:List (List Rg)} {k:List (Den e)→List Nat→Cmd} {ts:List Ac} {r:Rz},RowO w e l cells.toList rss→HoldsO L w ms rss.flatten→ms.Nodup→(E7 K te e ps l ms k).ex st ts=some r→
 ∃(ys:List (Den e)) (ms':List Nat) (cells':Array Value) (rss':List (List Rg)) (ts':List Ac),(k ys ms').ex st ts'=some r∧RowO w e ys cells'.toList rss'∧HoldsO L w ms' rss'.flatten∧ms'.Nodup∧ys.length=l.length∧Instr.fill (fun i=>some (i*e.size,e.size)) cells (ps.map fun p=>(p.1,a.eval p.2))=some cells'
 | [],l,ms,cells,rss,k,ts,r,h1,hh,hn,he=>⟨l,ms,cells,rss,ts,he,h1,hh,hn,rfl,rfl⟩
 |(i,x)::ps,l,ms,cells,rss,k,ts,r,h1,hh,hn,he=>by
  simp only [E7,P0,hde]at he
  obtain⟨v,t1,he1,hv⟩:=a7 R he
  split at he1
  case h_2=>exact(ab he1).elim
  rename_i vs hvs
  obtain⟨h4,h5⟩:=nA hv hvs
  obtain⟨vs',ms1,t2,he2,u1,u2,u3⟩:=mM vs R he1
  split at he2
  case h_2=>exact(ab he2).elim
  rename_i d hd
  split at he2
  case isFalse=>exact(ab he2).elim
  rename_i hi
  obtain⟨rs,ids,ho,hms⟩:=u3 _ h4
  have hn1:=u1 hn
  have hx:=ly ho hd
  have hlx:=q7 e (vP (M:=fun _ _=>False) e hx fun _ _ _=>id)
  have hsz:(a.eval x).cells.size=e.size:=by simpa using hlx
  have hcs:cells.size=l.length*e.size:=by simpa using h1.1
  have hn2:=hn1
  rw [hms]at hn2
  obtain⟨n1,n2,n3⟩:=List.nodup_append.1 hn2
  have hids:ids.Nodup:=(List.pairwise_reverse.1 n1).imp fun h e=>h e.symm
  have hh1:HoldsO L w ms1 (rss.set i rs).flatten:=by
   refine⟨fun j hj=> ?_,fun b o hc=> ?_,HO hh.pw (tS R.ro ho hids) fun y hy z hz b o hc1 hc2=> ?_⟩
   ·rw [hms]at hj
    rcases List.mem_append.1 hj with hj|hj
    ·exact(nL ho j (List.mem_reverse.1 hj)).imp fun p h=>⟨h.1,nJ h.2⟩
    ·exact hh.own j hj
   ·obtain⟨y,hy,hc⟩:=hc
    rcases gg hy with hy|hy
    ·obtain⟨j,g1,g2⟩:=hh.cov b o ⟨y,hy,hc⟩
     exact⟨j,by rw [hms];exact List.mem_append_right _ g1,g2⟩
    ·obtain⟨j,g1,g2⟩:=ez ho b o ⟨y,hy,hc⟩
     exact⟨j,by rw [hms];exact List.mem_append_left _ (List.mem_reverse.2 g1),g2⟩
   ·obtain⟨j,g1,p,g2,g3⟩:=hh.cov b o (kL hc1 hy)
    obtain⟨j',g1',p',g2',g3'⟩:=ez ho b o (kL hc2 hz)
    exact n3 j' (List.mem_reverse.2 g1') j g1 (R.ro.sep j' j p' p b o g2' g2 g3' g3)
  obtain⟨c',hc1,hc2⟩:=tT (place:=fun i=>some (i*e.size,e.size)) (cells:=cells) (i:=i) (off:=i*e.size) (v:=a.eval x) (rest:=ps.map fun p=>(p.1,a.eval p.2)) (by simp only [hsz]) (by
   rw [hsz,hcs]
   have:(i+1)*e.size≤l.length*e.size:=Nat.mul_le_mul_right _ hi
   rw [Nat.add_mul]at this;omega)
  obtain⟨ys,ms2,cells',rss',ts',g1,g2,g3,g4,g5,g6⟩:=Ce hK hde R ps (cells:=c') (rss:=rss.set i rs) (by rw [hc1];exact h1.set hi hx) hh1 hn1 he2
  exact⟨ys,ms2,cells',rss',ts',g1,g2,g3,g4,by simpa using g5,by rw [List.map_cons,hc2];exact g6⟩
theorem tY (w:World): ∀(e:Ty),rdO w e (Den.zero e) (e.cts.map zv) []
 | .int k=>by simp [rdO,Den.zero,Ty.cts,zv]
 | .bool=>by simp [rdO,Den.zero,Ty.cts,zv]
 | .str=>by simp [rdO,Den.zero,Ty.cts,zv]
 | .slice e=>by
   simp only [rdO,Den.zero,Ty.cts,zv,List.map_cons,List.map_nil]
   exact⟨none,0,0,rfl,rfl,Nat.le_refl _,.inl (by simp)⟩
 | .pair a b=>by
   simp only [rdO,Den.zero,Ty.cts,List.map_append]
   exact⟨_,_,[],[],rfl,rfl,tY w a,tY w b⟩
 | .unit=>by simp [rdO,Den.zero,Ty.cts]
theorem RowO.zeros (e:Ty) (z:Array Value) (hz:z.toList=e.cts.map zv) (n:Nat):RowO w e (List.replicate n (Den.zero e)) (madeCells z (n*e.size)).toList (List.replicate n []):=by
 have hr:=Row.zeros (w:=w) (M:=fun _ _=>False) e z hz n
 refine⟨hr.1,by simp,fun i hi=> ?_⟩
 have hi':i<n:=by simpa using hi
 have hs:z.size=e.size:=by have:=congrArg List.length hz;simpa [Ty.size]using this
 refine⟨e.cts.map zv,by simp [Ty.size], ?_,fun j hj=> ?_⟩
 ·have e1:(List.replicate n ([]:List Rg)).getD i []=[]:=by simp [List.getD_eq_getElem?_getD,List.getElem?_replicate,hi']
  rw [e1];simpa using tY w e
 ·have hlt:=bY hi' hj
  have hm:(i*e.size+j) % z.size=j:=by rw [hs,Nat.mul_comm,Nat.mul_add_mod,Nat.mod_eq_of_lt hj]
  have e1:(madeCells z (n*e.size)).toList[i*e.size+j]? =some z[(i*e.size+j) % z.size]! :=by simp [madeCells,hlt]
  rw [e1,hm,←hz]
  have hj':j<z.size:=by omega
  simp [hj']
theorem Cf (n:Nat):(List.replicate n ([]:List Rg)).flatten=[]:=by simp
theorem HoldsO.nil:HoldsO L w [] []:=⟨fun _ h=>(by cases h),fun _ _ hc=>(bS hc).elim,List.Pairwise.nil⟩
theorem tZ {C:cy} {O:Opt} (hK:K.Ok) {ty:TypeId} {n:Nat} {ps:Array (Nat×Operand)} (h:o.op= .buildSlice ty n ps):ic K C O o:=by
 intro w0 M0 L st a w d k t r R he
 rw [h]at he
 simp only [op1]at he
 split at he
 case h_2=>exact(ab he).elim
 rename_i te e b hel
 split at he
 case isFalse=>exact(ab he).elim
 rename_i hn
 obtain⟨i,ag,g0,g1,g2,g3,g4,g5,g6,g7,g8,g9⟩:=dP hK hel
 have runB: ∀{cells':Array Value} {ys:List (Den e)},ys.length=n→Instr.fill (fun i=>some (i*e.size,e.size)) (madeCells (jm e.cts ag).cells (n*e.size)) (ps.toList.map fun p=>(p.1,a.eval p.2))=some cells'→
  (execOp a.eval o).run K.P w= .ok (.value (.slice (some ⟨w.heap.size,0,none⟩) ys.length n)) (w.alloc (.cells cells' te)):=by
  intro cells' ys k3' k4
  have hps:(ps.map fun(i,x)=>(i,a.eval x)).toList=ps.toList.map fun p=>(p.1,a.eval p.2):=by simp
  have hns: ¬2^24<n*e.size:=by omega
  rw [←hps]at k4
  by_cases h0:n*e.size=0
  ·have hn0:n=0:=by rcases Nat.mul_eq_zero.1 h0 with h|h<;>omega
   subst hn0
   have e0: ∀(f:Nat→Value),(Array.range 0).map f= #[]:=fun f=>by apply Array.ext';simp
   simp only [Nat.zero_mul,madeCells,e0]at k4
   simp only [execOp,h]
   simp [Instr.buildSlice,run_underlying g0,sizeOf,typeInfo,g3,g6,newRow,e0]at k4⊢
   simp [k4,k3',newRow]
  ·have:=run_buildSlice (P:=K.P) w ty te n (ps.map fun(i,x)=>(i,a.eval x)) cells' i (jm e.cts ag) g0 g3 g7 (by rw [g6];omega) (by rw [g6];exact h0) (by rw [g6];exact k4)
   simp only [execOp,h]
   simp [this,k3']
 cases he0:e.hasSlice with
 |false=>
  obtain⟨ys,cells',ts',objs1,L1,k1,R1,u1,u2,k2,k3,k4⟩:=Cd hK he0 ps.toList (cells:=madeCells (jm e.cts ag).cells (n*e.size)) R (Row.zeros e _ g8 n) he
  simp only [OI]at k1
  obtain⟨h1,h2⟩:=cW k1
  have k3':ys.length=n:=by simpa using k3
  refine⟨_,_,_,h2,Does.turn u1 u2 (tV hK R1 h1 he0 (cells:=cells'.toList) (rest:=[]) (cap:=n) (w':=w.alloc (.cells cells' te)) k2 (by omega) (by simpa [k3']using k2.1) (Fr.alloc w _ _) (fun j hj=> ?_) (fun he=> ?_) ?_)⟩
  rotate_left
  ·subst he;rw [hK.u8 _ _ _ hel];exact⟨_,fk _ _ _⟩
  rotate_left
  ·have:=fv w w cells' te rfl j
   exact⟨by simp [this.1],this.2⟩
  ·exact runB k3' k4
 |true=>
  obtain⟨ys,ms,cells',rss,ts',k1,k2,k3,k5,k6,k4⟩:=Ce hK he0 R ps.toList (cells:=madeCells (jm e.cts ag).cells (n*e.size)) (RowO.zeros e _ g8 n) (by rw [Cf];exact HoldsO.nil) List.nodup_nil he
  obtain⟨objs,ts2,k7,k8⟩:=nM ms k1 k5
  obtain⟨h1,h2⟩:=cW k7
  have hLi:L (64* (d+1))=none:=by
   have h3:=k8 (64* (d+1))
   rw [h1]at h3
   have h4:=R.ob (64* (d+1))
   cases hL:L (64* (d+1))with
   |none=>rfl
   |some q=>
    rw [hL]at h4
    rw [h4]at h3
    split at h3<;>simp at h3
  have k3':ys.length=n:=by simpa using k6
  refine⟨_,_,_,h2,tW hK R hLi he0 (cells:=cells'.toList) (rest:=[]) (cap:=n) (w':=w.alloc (.cells cells' te)) k2 k3 (by omega) (by simpa [k3']using k2.1) (Fr.alloc w _ _) (fun j hj=> ?_) k8 (runB k3' k4)⟩
  have:=fv w w cells' te rfl j
  exact⟨by simp [this.1],this.2⟩
end Go.Proofs.YtihabpimbfmhhaaGreatDoor.Ev
namespace Go.Proofs.YtihabpimbfmhhaaGreatDoor.Ev
open Go Go.RowKit
set_option linter.unusedSimpArgs false
set_option linter.unusedVariables false
variable {K:Ctx} {w0:World} {M0:Bd} {L:Lk} {st:St} {a:Act} {w:World} {o:Oper} {M:Nat→Nat→Prop}
theorem vX {C:cy} {O:Opt} (hK:K.Ok) {ty:TypeId} {len cap:Operand} (h:o.op= .makeSlice ty len cap):ic K C O o:=by
 intro w0 M0 L st a w d k t r R he
 rw [h]at he
 simp only [op1]at he
 split at he
 case h_2=>exact(ab he).elim
 rename_i te e b hel
 obtain⟨i,ag,g0,g1,g2,g3,g4,g5,g6,g7,g8,g9⟩:=dP hK hel
 obtain⟨v,t1,he1,hv⟩:=a7 R he
 cases v<;>try exact(ab he1).elim
 rename_i kl n
 obtain⟨u,t2,he2,hu⟩:=a7 R he1
 cases u<;>try exact(ab he2).elim
 rename_i kc c
 obtain⟨q1,he3⟩:=bw he2
 obtain⟨q2,he4⟩:=bw he3
 obtain⟨q3,he5⟩:=bw he4
 simp only [decide_eq_true_eq]at q1 q2 q3
 subst q2
 obtain⟨h1,h2⟩:=cW he5
 simp only [rel]at hv hu
 have hnb:n≤140737488355328:=by
  have:n*1≤n* (b:Int):=Int.mul_le_mul_of_nonneg_left (by omega) q1
  omega
 have hrun:=run_make (P:=K.P) w ty te i _ g0 g3 g7 kl kc n n q1 (Int.le_refl _) (by rw [g4,Int.mul_comm];omega) (by omega)
 rw [g6]at hrun
 have hc: ∀j,(w.alloc (.cells (madeCells (jm e.cts ag).cells (n.toNat*e.size)) te)).cell? ⟨w.heap.size,j,none⟩=((madeCells (jm e.cts ag).cells (n.toNat*e.size)).toList++[])[j]? ∧
  (w.alloc (.cells (madeCells (jm e.cts ag).cells (n.toNat*e.size)) te)).frozen? ⟨w.heap.size,j,none⟩=false:=fun j=>by
  have:=fv w w (madeCells (jm e.cts ag).cells (n.toNat*e.size)) te rfl j
  exact⟨by simp [this.1],this.2⟩
 have hrun':(execOp a.eval o).run K.P w= .ok (.value (.slice (some ⟨w.heap.size,0,none⟩) (List.replicate n.toNat (Den.zero e)).length n.toNat)) (w.alloc (.cells (madeCells (jm e.cts ag).cells (n.toNat*e.size)) te)):=by
  simp only [execOp,h,hv,hu]
  simp [hrun]
 cases he0:e.hasSlice with
 |false=>exact⟨_,_,_,h2,tV hK R h1 he0 (rest:=[]) (Row.zeros e _ g8 _) (by simp) (by simp [madeCells]) (Fr.alloc w _ _) (fun j _=>hc j) (fun he=>by subst he;rw [hK.u8 _ _ _ hel];exact⟨_,fk _ _ _⟩) hrun'⟩
 |true=>exact⟨_,_,_,h2,tW hK R (nF R h1) he0 (rest:=[]) (ms:=[]) (RowO.zeros e _ g8 _) (by rw [Cf];exact HoldsO.nil) (by simp) (by simp [madeCells]) (Fr.alloc w _ _) (fun j _=>hc j) (objs:=st.objs) (fun i=>by simp) hrun'⟩
theorem vY (hK:K.Ok) (R:Rl K w0 M0 L st a w) {t:TypeId} {e:Ty} {x:AV} {v:Value} {k:List (Den e)→Cmd} {ts:List Ac} {r:Rz} (hv:rel L w (Mut L) x v) (h:(qZ K t e x k).ex st ts=some r):
 ∃(l:List (Den e)) (ts':List Ac) (cells:List Value) (p:Option Addr) (c:Nat),(k l).ex st ts'=some r∧Row w (Mut L) e l cells∧v= .slice p l.length c∧(l=[]∨ ∃b off,p=some ⟨b,off,none⟩∧ ∀j,j<cells.length→w.cell? ⟨b,off+j,none⟩=cells[j]?)∧ ∃te b,K.elt t=some (te,e,b):=by
 unfold qZ at h
 split at h
 case h_2=>exact(ab h).elim
 rename_i te e0 b0 hel
 split at h
 case isFalse=>exact(ab h).elim
 rename_i hee
 subst hee
 cases x with
 |sh e' l=>
  simp only at h
  split at h
  case isFalse=>exact(ab h).elim
  rename_i he'
  subst he'
  simp only [rel,rd]at hv
  obtain⟨p,n,c,h2,rfl,h3,h4⟩:=hv
  simp only [List.cons.injEq,and_true]at h2
  rcases h4 with h4|⟨b,off,hp,hr⟩
  ·subst h4
   exact⟨[],_,[],p,c,h,Row.nil _ _ _,h2,.inl rfl,_,_,hel⟩
  ·obtain⟨cs,h5,h6⟩:=vW (l:=l) (b:=b) (o:=off) (w:=w) (M:=Mut L) (e:=e') fun i hi=>by
    obtain⟨ds,k1,k2,k3⟩:=hr i hi
    exact⟨ds,k1,k2,fun j hj=>(k3 j hj).1⟩
   exact⟨l,_,cs,p,c,h,h5,h2,.inr ⟨b,off,hp,h6⟩,_,_,hel⟩
 |nil e'=>
  simp only at h
  split at h
  case isFalse=>exact(ab h).elim
  have:=fi hv
  exact⟨[],_,[],none,0,h,Row.nil _ _ _,this,.inl rfl,_,_,hel⟩
 |ref j ver=>
  obtain⟨z,h2,h3⟩:=br h
  cases z with
  |var _=>exact(ab h3).elim
  |map _ _ _ _=>exact(ab h3).elim
  |arr e' v' z xs=>
   simp only at h3
   split at h3
   case isFalse=>exact(ab h3).elim
   rename_i hver
   split at h3
   case isFalse=>exact(ab h3).elim
   rename_i he'
   subst he'
   split at h3
   case h_2=>exact(ab h3).elim
   rename_i hze
   simp only [rel]at hv
   obtain⟨l0,e',cur,z',xs',p,m,cc,h4,h5,h6,h7⟩:=hv
   have hob:=R.ob j
   rw [h2,h4]at hob
   simp only [Option.map_some,Option.some.injEq,Ob.arr.injEq]at hob
   obtain⟨rfl,rfl,rfl,hxs⟩:=hob
   have hxs:=eq_of_heq hxs
   subst hxs
   obtain⟨rfl,rfl,rfl⟩:=h7 hver
   rcases R.ro.ok j _ h4 with⟨h8,h9,h10⟩|⟨b,o0,h8,h9,h10,_,h11,_⟩
   ·subst h9
    exact⟨[],_,[],_,_,h3,Row.nil _ _ _,h6,.inl rfl,_,_,hel⟩
   ·replace h8:l0.base=some (b,o0):=h8
    rw [f_ hze]at h10
    obtain⟨cs,h12,h13⟩:=vW (l:=xs) (b:=b) (o:=o0) (w:=w) (M:=Mut L) h10
    exact⟨xs,_,cs,_,_,h3,h12,h6,.inr ⟨b,o0,by simp [Loc.addr,h8],h13⟩,_,_,hel⟩
 |_=>exact(ab h).elim
theorem MS (hK:K.Ok) (R:Rl K w0 M0 L st a w) {t:TypeId} {e:Ty} (hde:e.hasSlice=true) {x:AV} {v:Value} {k:List (Den e)→Nat→Cmd} {ts:List Ac} {r:Rz} (hv:rel L w (Mut L) x v) (h:(PZ K t e x k).ex st ts=some r):
 ∃(l:List (Den e)) (j ver:Nat) (loc:Loc) (ts':List Ac) (cells:List Value) (rss:List (List Rg)),(k l j).ex st ts'=some r∧L j=some (loc,.arr e ver false l)∧RowO w e l cells rss∧HoldsO L w [j] rss.flatten∧Src K.P e.size t v l.length cells w:=by
 unfold PZ at h
 split at h
 case h_2=>exact(ab h).elim
 rename_i te e0 b0 hel
 split at h
 case isFalse=>exact(ab h).elim
 rename_i hee
 subst hee
 obtain⟨i,ag,g0,_⟩:=dP hK hel
 cases x with
 |ref j ver=>
  obtain⟨z,h2,h3⟩:=br h
  cases z with
  |var _=>exact(ab h3).elim
  |map _ _ _ _=>exact(ab h3).elim
  |arr e' v' z xs=>
   cases z with
   |true=>exact(ab h3).elim
   |false=>
   simp only at h3
   split at h3
   case isFalse=>exact(ab h3).elim
   rename_i hver
   split at h3
   case isFalse=>exact(ab h3).elim
   rename_i he'
   subst he'
   simp only [rel]at hv
   obtain⟨l0,e',cur,z',xs',p,m,cc,h4,h5,h6,h7⟩:=hv
   have hob:=R.ob j
   rw [h2,h4]at hob
   simp only [Option.map_some,Option.some.injEq,Ob.arr.injEq]at hob
   obtain⟨rfl,rfl,rfl,hxs⟩:=hob
   have hxs:=eq_of_heq hxs
   subst hxs
   obtain⟨rfl,rfl,rfl⟩:=h7 hver
   rcases R.ro.ok j _ h4 with⟨h8,h9,h10,_⟩|⟨b,o0,h8,h9,h10,_,h11,_,hq⟩
   ·replace h8:l0.base=none:=h8
    subst h9
    refine⟨[],j,v',l0,_,[],[],h3,h4,⟨by simp,rfl,fun i hi=>by cases hi⟩,⟨fun j' hj=> ?_,fun _ _ hc=>(bS hc).elim,List.Pairwise.nil⟩, ?_⟩
    ·rw [List.mem_singleton.1 hj];exact⟨_,h4,rfl⟩
    ·rw [h6];simp only [Loc.addr,h8];exact Src.ofNil w g0 l0.cap
   ·replace h8:l0.base=some (b,o0):=h8
    replace hq:Dq w l0 b o0 e' xs:=hq rfl
    unfold Dq at hq
    rw [hde]at hq
    obtain⟨q1,q2,rss,q3,q4,q5⟩:=hq
    have hrow: ∃cs,RowO w e' xs cs rss∧(∀j,j<cs.length→w.cell? ⟨b,o0+j,none⟩=cs[j]?)∧ ∀c∈cs,c.oneCell'=true:=by
     obtain⟨cs,k1,k2⟩:=vW (l:=xs) (b:=b) (o:=o0) (w:=w) (M:=fun b o=> ¬cov l0.dp b o) (e:=e') (by rw [←iJ (L:=L) hde];exact h10)
     refine⟨cs,⟨k1.1,q4,fun i hi=> ?_⟩,k2,k1.one⟩
     obtain⟨ds,m1,m2,m3⟩:=q5 i hi
     refine⟨ds,m1,m2,fun q hq=> ?_⟩
     have hlt:=bY hi hq
     rw [←k2 (i*e'.size+q) (by rw [k1.1];exact hlt),←m3 q hq,Nat.add_assoc]
    obtain⟨cs,k1,k2,k3⟩:=hrow
    refine⟨xs,j,v',l0,_,cs,rss,h3,h4,k1,⟨fun j' hj=> ?_,fun b' o' hc=>⟨j,List.mem_singleton.2 rfl,_,h4,.inr ⟨rfl, ?_⟩⟩,by rw [←q3];exact q2⟩, ?_⟩
    ·rw [List.mem_singleton.1 hj];exact⟨_,h4,rfl⟩
    ·show cov l0.dp b' o'
     rw [q3];exact hc
    ·rw [h6];simp only [Loc.addr,h8]
     exact Src.ofSlice w g0 _ _ l0.cap cs k1.1 (fun j u hu=>by
      have hj:=(List.getElem?_eq_some_iff.1 hu).1
      rw [←hu,←k2 j hj];simp [Addr.add_lit]) k3
 |_=>exact(ab h).elim
theorem HR (s:List UInt8):byteCells ⟨s.toArray⟩=(bytesOf s).map (Value.int .u8):=by
 simp [byteCells,bytesOf]
theorem Row.ints (l:List Int) (k:IntKind):Row w M (.int k) l (l.map (Value.int k)):=by
 refine⟨by simp [Ty.size,Ty.cts],fun i hi=>⟨[.int k l[i]],by simp [Ty.size,Ty.cts],by simp [rd],fun j hj=> ?_⟩⟩
 have hj0:j=0:=by simp [Ty.size,Ty.cts]at hj;omega
 subst hj0
 simp [Ty.size,Ty.cts,hi]
theorem MT (hK:K.Ok) (R:Rl K w0 M0 L st a w) {t:TypeId} {e:Ty} {x:AV} {v:Value} {k:List (Den e)→Cmd} {ts:List Ac} {r:Rz} (hv:rel L w (Mut L) x v) (h:(Mx K t e x k).ex st ts=some r):
 ∃(l:List (Den e)) (ts':List Ac) (cells:List Value),(k l).ex st ts'=some r∧Row w (Mut L) e l cells∧Src K.P e.size t v l.length cells w:=by
 have slc: ∀{ts:List Ac},(qZ K t e x k).ex st ts=some r→ ∃(l:List (Den e)) (ts':List Ac) (cells:List Value),(k l).ex st ts'=some r∧Row w (Mut L) e l cells∧Src K.P e.size t v l.length cells w:=by
  intro ts h
  obtain⟨l,ts',cells,p,c,h1,h2,rfl,h3,te,b,hel⟩:=vY hK R hv h
  obtain⟨i,ag,g0,_⟩:=dP hK hel
  refine⟨l,ts',cells,h1,h2, ?_⟩
  rcases h3 with rfl|⟨b,off,rfl,h4⟩
  ·have:cells=[]:=by have:=h2.1;simpa using this
   subst this
   cases p with
   |none=>exact Src.ofNil w g0 c
   |some p=>exact Src.ofSlice w g0 p 0 c [] (by simp) (fun j u hu=>by simp at hu) (fun u hu=>by cases hu)
  ·exact Src.ofSlice w g0 _ _ c cells h2.1 (fun j u hu=>by
    have hj:=(List.getElem?_eq_some_iff.1 hu).1
    rw [←hu,←h4 j hj];simp [Addr.add_lit]) h2.one
 cases x with
 |str s=>
  simp only [Mx]at h
  split at h
  case h_2=>exact(ab h).elim
  rename_i hl
  cases e with
  |int ke=>
   cases ke<;>try exact(ab h).elim
   simp only [rel]at hv
   subst hv
   refine⟨_,_,(bytesOf s).map (Value.int .u8),h,Row.ints _ _, ?_⟩
   have:=Src.ofString (P:=K.P) w (gd hK hl rfl) ⟨s.toArray⟩
   rw [HR]at this
   have e1:(bytesOf s).length=(ByteArray.mk s.toArray).size:=by simp [bytesOf,ByteArray.size]
   rw [e1]
   exact this
  |_=>exact(ab h).elim
 |_=>simp only [Mx]at h;exact slc h
end Go.Proofs.YtihabpimbfmhhaaGreatDoor.Ev
namespace Go.Proofs.YtihabpimbfmhhaaGreatDoor.Ev
open Go Go.RowKit
set_option linter.unusedSimpArgs false
set_option linter.unusedVariables false
variable {K:Ctx} {w0:World} {M0:Bd} {L:Lk} {st:St} {a:Act} {w:World} {o:Oper} {M:Nat→Nat→Prop}
theorem Fh (l:List Int): ∀(b:ByteArray),(l.foldl (fun r n=>r.push (UInt8.ofNat n.toNat)) b)=⟨(b.data.toList++bx l).toArray⟩:=by
 induction l with
 |nil=>intro b;simp [bx]
 |cons n l ih=>
  intro b
  rw [List.foldl_cons,ih]
  simp [bx,ByteArray.push]
theorem HS:(Ty.int .u8).size=1:=rfl
theorem Row.nums {l:List Int} {k:IntKind} {cells:List Value} (h:Row w M (.int k) l cells):cells=l.map (Value.int k):=by
 have hs:(Ty.int k).size=1:=rfl
 apply List.ext_getElem?
 intro j
 by_cases hj:j<l.length
 ·obtain⟨ds,h1,h2,h3⟩:=h.2 j hj
  have h4:=h3 0 (by rw [hs];omega)
  rw [hs,Nat.mul_one,Nat.add_zero]at h4
  rw [h4]
  simp only [rd]at h2
  subst h2
  simp [hj]
 ·have:cells.length=l.length:=by rw [h.1,hs,Nat.mul_one]
  rw [List.getElem?_eq_none (by omega),List.getElem?_eq_none (by simp;omega)]
theorem Fi {C:cy} {O:Opt} (hK:K.Ok) {src dst:TypeId} {x:Operand} (h:o.op= .convert src dst x):ic K C O o:=by
 intro w0 M0 L st a w d k t r R he
 rw [h]at he
 simp only [op1]at he
 obtain⟨v,t1,he1,hv⟩:=a7 R he
 clear he
 have hrun: ∀{v':Value} {w':World},(convert src dst (a.eval x)).run K.P w= .ok v' w'→(execOp a.eval o).run K.P w= .ok (.value v') w':=by
  intro v' w' h1
  simp [execOp,h,h1]
 have slc: ∀{y:AV} {ts:List Ac},((match K.lay dst with
  |some ([.str],false)=>(match K.elt src with
   |some (te,.int .u8,_)=>(match K.lay te with
    |some (_,false)=>qZ K src (.int .u8) y fun l=>k (.str (bx l))
    |_=>.fail)
   |_=>.fail)
  |_=>.fail:Cmd)).ex st ts=some r→rel L w (Mut L) y (a.eval x)→ ∃v objs t',(k v).ex ⟨st.env,objs⟩ t'=some r∧Does K w0 M0 o a w L objs v:=by
  intro y ts hy hv
  split at hy
  case h_2=>exact(ab hy).elim
  rename_i hd
  split at hy
  case h_2=>exact(ab hy).elim
  rename_i te b hel
  split at hy
  case h_2=>exact(ab hy).elim
  rename_i cs hte
  obtain⟨l,ts',cells,p,c,h1,h2,h3,h4,_⟩:=vY hK R hv hy
  obtain⟨i,ag,g0,g1,_⟩:=dP hK hel
  rw [hte]at g1
  cases g1
  have hu8:=tQ hK hte
  have hconv:(convert src dst (a.eval x)).run K.P w=(Conv.bytesToString (a.eval x)).run K.P w:=by
   rw [h3];exact run_convert_bytes_string w src dst te p l.length c g0 hu8 (gd hK hd rfl)
  have hcl:=Row.nums h2
  refine⟨_,st.objs,_,h1,Does.same R (v':=.string ⟨(bx l).toArray⟩) (hrun ?_) (by simp [rel])⟩
  rw [hconv,h3]
  have some_case: ∀q:Addr,p=some q→(loadCells q l.length).run K.P w= .ok (l.map (Value.int .u8)).toArray w→(Conv.bytesToString (.slice p l.length c)).run K.P w= .ok (.string ⟨(bx l).toArray⟩) w:=by
   intro q hq hl
   subst hq
   rw [run_bytesToString w q l.length c l hl,Fh]
   simp
  rcases h4 with rfl|⟨b,off,rfl,h5⟩
  ·cases p with
   |none=>simp [Conv.bytesToString,bx];rfl
   |some q=>exact some_case q rfl (by simpa using run_loadCells_list (P:=K.P) w q [] (by simp))
  ·refine some_case _ rfl ?_
   have:=run_loadCells_list (P:=K.P) w ⟨b,off,none⟩ cells (fun j u hu=>by
    have hj:=(List.getElem?_eq_some_iff.1 hu).1
    rw [←hu,←h5 j hj];simp [Addr.add_lit])
   rw [hcl]at this
   simpa using this
 cases v with
 |int ki n=>
  simp only [rel]at hv
  simp only at he1
  split at he1
  case h_2=>exact(ab he1).elim
  rename_i kk kj hs hd
  refine⟨_,st.objs,_,he1,Does.same R (v':=.int kj (ib kj n)) (hrun ?_) (by simp [rel])⟩
  rw [hv]
  simp [convert,run_underlying (tQ hK hs),run_underlying (tQ hK hd),Conv.intToInt,fm]
 |str s=>
  simp only [rel]at hv
  simp only at he1
  split at he1
  ·rename_i hs hd
   refine⟨_,st.objs,_,he1,Does.same R (v':=.string ⟨s.toArray⟩) (hrun ?_) (by simp [rel])⟩
   rw [hv]
   simp [convert,run_underlying (gd hK hs rfl),run_underlying (gd hK hd rfl)]
  ·rename_i hs _
   split at he1
   case h_2=>exact(ab he1).elim
   rename_i te b hel
   split at he1
   case h_2=>exact(ab he1).elim
   rename_i cs hte
   obtain⟨i,ag,g0,g1,_⟩:=dP hK hel
   rw [hte]at g1
   cases g1
   have hu8:=tQ hK hte
   obtain⟨h1,h2⟩:=cW he1
   have hr:=run_bytes_of_string (P:=K.P) w src dst te ⟨s.toArray⟩ (gd hK hs rfl) g0 hu8
   have hsz:(ByteArray.mk s.toArray).size=s.length:=by simp [ByteArray.size]
   have hge:=grownCap_ge w s.length 0 te
   rw [hsz]at hr
   have hcl:(bytesOf s).length=s.length:=by simp [bytesOf]
   have hbr:(bytesRow ⟨s.toArray⟩ (grownCap w s.length 0 te)).toList=(bytesOf s).map (Value.int .u8)++List.replicate (grownCap w s.length 0 te-s.length) (.int .u8 0):=by
    simp [bytesRow,bytesOf,hsz]
   have hbs:(bytesRow ⟨s.toArray⟩ (grownCap w s.length 0 te)).size=grownCap w s.length 0 te:=by
    have:=congrArg List.length hbr
    simp [bytesOf]at this;omega
   refine⟨_,_,_,h2,tV hK R h1 (e:=.int .u8) rfl (cells:=(bytesOf s).map (Value.int .u8)) (rest:=List.replicate (grownCap w s.length 0 te-s.length) (.int .u8 0)) (cap:=grownCap w s.length 0 te) (Row.ints _ _) (by rw [hcl];exact hge)
    (by rw [←hbr];simp [hbs,HS]) (w':=w.drew.alloc (.cells (bytesRow ⟨s.toArray⟩ (grownCap w s.length 0 te)) te ((bytesRow ⟨s.toArray⟩ (grownCap w s.length 0 te)).size,(bytesRow ⟨s.toArray⟩ (grownCap w s.length 0 te)).size+1)))
    (((Fr.refl w _).drew).trans (Fr.alloc _ _ _) fun _ _ _=>id) (fun j hj=> ?_) (fun _=>by
      rw [hK.u8 _ _ _ hel]
      refine⟨(bytesRow ⟨s.toArray⟩ (grownCap w s.length 0 5)).size, ?_⟩
      exact vS w.drew _ 5 _) (hrun ?_)⟩
   ·rw [HS,Nat.mul_one]at hj
    rw [←hbr]
    have e1:w.heap.size=w.drew.heap.size:=rfl
    have e2: ∀(C:Array Value) (m:Nat×Nat),(w.drew.alloc (.cells C te m)).heap[w.heap.size]? =some (.cells C te m):=fun C m=>by
     show(w.heap.push _)[w.heap.size]? =_
     simp
    constructor
    ·simp only [World.cell?,e2];simp
    ·simp only [World.frozen?,e2,hbs]
     simp;omega
   ·rw [hv,hr,hcl]
  ·exact(ab he1).elim
 |_=>simp only at he1;exact slc he1 hv
end Go.Proofs.YtihabpimbfmhhaaGreatDoor.Ev
namespace Go.Proofs.YtihabpimbfmhhaaGreatDoor.Ev
open Go Go.RowKit
set_option linter.unusedSimpArgs false
set_option linter.unusedVariables false
variable {K:Ctx} {w0:World} {M0:Bd} {L:Lk} {st:St} {a:Act} {w:World} {o:Oper} {M:Nat→Nat→Prop}
theorem Turn.arr {L:Lk} {j:Nat} {l l':Loc} {e:Ty} {v v':Nat} {z z':Bool} {xs xs':List (Den e)} (h:L j=some (l,.arr e v z xs)) (hv:v<v'):Turn L (upd L j (l',.arr e v' z' xs')):=by
 intro j' l2 y1 hj
 by_cases hji:j'=j
 ·subst hji
  rw [h]at hj;cases hj
  exact⟨_,_,av _ _ _,v',z',_,rfl,by omega,fun hc=>by omega⟩
 ·obtain⟨l',x',h1,h2⟩:=Turn.refl L j' l2 y1 hj
  exact⟨l',x',by rw [aG L _ hji];exact h1,h2⟩
theorem HT (hK:K.Ok) (R:Rl K w0 M0 L st a w) {i:Nat} {l:Loc} {e:Ty} (hfl:e.hasSlice=false) {ver:Nat} {ys:List (Den e)} (hi:L i=some (l,.arr e ver false ys)) {xs:List (Den e)} {cap:Nat} {cells rest:List Value} {w':World}
 (hrow:Row w (Mut L) e xs cells) (hcap:xs.length≤cap) (hlen:(cells++rest).length=cap*e.size) (hF:Fr w (fun _ _=>False) w')
 (hc: ∀j,j<cap*e.size→w'.cell? ⟨w.heap.size,j,none⟩=(cells++rest)[j]? ∧w'.frozen? ⟨w.heap.size,j,none⟩=false) (hsh:e= .int .u8→ ∃n,w'.shape? w.heap.size=some (5,n))
 (hrun:(execOp a.eval o).run K.P w= .ok (.value (.slice (some ⟨w.heap.size,0,none⟩) xs.length cap)) w'):
 Does K w0 M0 o a w L (putO st.objs i (.arr e (ver+1) false xs)) (.ref i (ver+1)):=by
 have hT:=Turn.arr (l':=⟨some (w.heap.size,0),cap,[]⟩) (v':=ver+1) (z':=false) (xs':=xs) hi (by omega)
 obtain⟨h2,h3⟩:=R.ro.put hK hi (p':=(⟨some (w.heap.size,0),cap,[]⟩,.arr e (ver+1) false xs)) (w':=w') (hF.mono fun _ _ _=>False.elim) hT
  (fun ht=>.inr ⟨w.heap.size,0,rfl,hcap,fun j hj=>by
   obtain⟨ds,k1,k2,k3⟩:=hrow.2 j hj
   refine⟨ds,k1,bT e hfl k2,fun q hq=> ?_⟩
   have hlt:=bY hj hq
   have hle:xs.length*e.size≤cap*e.size:=Nat.mul_le_mul_right _ hcap
   rw [Nat.zero_add,(hc _ (by omega)).1,List.getElem?_append_left (by rw [hrow.1];exact hlt)]
   exact k3 q hq,fun _ j hj=>by
    have hj':j<cap*e.size:=hj
    rw [Nat.zero_add]
    refine⟨?_,(hc j hj').2⟩
    rw [(hc j hj').1,List.getElem?_eq_getElem (by omega)]
    exact⟨_,rfl⟩,(fun hz=>by cases hz),hsh,fun _=>fh hfl rfl⟩)
  (fun b o' hr'=>.inr (by obtain⟨o0,e1,_,_⟩:=cg rfl hr';simp only [Option.some.injEq,Prod.mk.injEq]at e1;omega))
 refine Does.val hrun h2 (ey R i _ _) hT h3 ?_
 simp only [rel]
 exact⟨_,_,_,_,_,_,_,_,av _ _ _,Nat.le_refl _,rfl,fun _=>⟨rfl,rfl,rfl⟩⟩
theorem MU (hK:K.Ok) (R:Rl K w0 M0 L st a w) {i:Nat} {l:Loc} {e:Ty} (hfl:e.hasSlice=false) {ver:Nat} {ys:List (Den e)} (hi:L i=some (l,.arr e ver false ys)) {xs:List (Den e)} {cells:List Value} {b o0:Nat} (hb:l.base=some (b,o0))
 (hrow:Row w (Mut L) e xs cells) (hcap:ys.length+xs.length≤l.cap)
 (hrun:(execOp a.eval o).run K.P w= .ok (.value (.slice (some ⟨b,o0,none⟩) (ys.length+xs.length) l.cap)) (w.setCells b (o0+ys.length*e.size) cells)):
 Does K w0 M0 o a w L (putO st.objs i (.arr e (ver+1) false (ys++xs))) (.ref i (ver+1)):=by
 have hT:=Turn.arr (l':=l) (v':=ver+1) (z':=false) (xs':=ys++xs) hi (by omega)
 rcases R.ro.ok i _ hi with⟨h8,_⟩|⟨b',o',h8,h9,h10,h11,_,hsh,hdq⟩
 ·simp only at h8;rw [hb]at h8;cases h8
 simp only at h8
 rw [hb]at h8
 simp only [Option.some.injEq,Prod.mk.injEq]at h8
 obtain⟨rfl,rfl⟩:=h8
 replace h11: ∀j,j<l.cap*e.size→(∃u,w.cell? ⟨b,o0+j,none⟩=some u)∧w.frozen? ⟨b,o0+j,none⟩=false:=h11 rfl
 replace h9:ys.length≤l.cap:=h9
 have hcl:=hrow.1
 have hroom:ys.length*e.size+cells.length≤l.cap*e.size:=by rw [hcl,←Nat.add_mul];exact Nat.mul_le_mul_right _ hcap
 have hcell: ∀j,j<cells.length→ ∃u,w.cell? ⟨b,o0+ys.length*e.size+j,none⟩=some u:=fun j hj=>by
  have:=(h11 (ys.length*e.size+j) (by omega)).1
  rwa [←Nat.add_assoc]at this
 obtain⟨h2,h3⟩:=R.ro.put hK hi (p':=(l,.arr e (ver+1) false (ys++xs))) (w':=w.setCells b (o0+ys.length*e.size) cells)
  (Fr.setCells b _ _ w fun j hj=>.inl ⟨o0,hb,by omega,by simp only [ext,Bool.false_eq_true,if_false];omega⟩) hT
  (fun ht=>.inr ⟨b,o0,hb,by simpa using hcap,fun j hj=>by
   by_cases hjl:j<ys.length
   ·obtain⟨ds,k1,k2,k3⟩:=h10 j hjl
    refine⟨ds,k1,by rw [List.getElem_append_left hjl];exact bT e hfl k2,fun q hq=> ?_⟩
    have:=bY hjl hq
    rw [bC hcell,if_neg (by omega)]
    exact k3 q hq
   ·have hj':j-ys.length<xs.length:=by simp at hj;omega
    obtain⟨ds,k1,k2,k3⟩:=hrow.2 (j-ys.length) hj'
    refine⟨ds,k1,by rw [List.getElem_append_right (by omega)];exact bT e hfl k2,fun q hq=> ?_⟩
    have e1:j*e.size=ys.length*e.size+(j-ys.length)*e.size:=by rw [←Nat.add_mul];congr 1;omega
    have:=bY hj' hq
    rw [bC hcell,if_pos (by omega)]
    rw [←k3 q hq];congr 1;omega,
   fun _ j hj=>by
    obtain⟨⟨u,k1⟩,k2⟩:=h11 j hj
    refine⟨?_,by rw [World.frozen?_setCells];exact k2⟩
    rw [bC hcell]
    split
    ·exact⟨_,List.getElem?_eq_getElem (by omega)⟩
    ·exact⟨u,k1⟩,
   (fun hz=>by cases hz),fun he=>(hsh he).imp fun n hn=>((Fr.setCells (N:=fun _ _=>True) b _ _ w fun _ _=>trivial).shp b (mH hn)).trans hn,fun _=>fh hfl (by have:=hdq rfl;unfold Dq at this;rw [hfl]at this;exact this)⟩)
  (fun b' o' hr=>.inl (by rcases hr with hr|hr;exact .inl hr;exact .inr hr))
 refine Does.val hrun h2 (ey R i _ _) hT h3 ?_
 simp only [rel]
 exact⟨_,_,_,_,_,_,_,_,av _ _ _,Nat.le_refl _,rfl,fun _=>⟨by simp [Loc.addr,hb],by simp,rfl⟩⟩
theorem Cg (hK:K.Ok) (R:Rl K w0 M0 L st a w) {i:Nat} {l:Loc} {e:Ty} (he:e.hasSlice=true) {ver:Nat} {ys:List (Den e)} (hi:L i=some (l,.arr e ver false ys)) {zs:List (Den e)} {rss:List (List Rg)} {ms:List Nat} (him:i ∉ ms)
 (hh:HoldsO L w (i::ms) rss.flatten) {b o0 cap:Nat} {w':World} (hlen:zs.length≤cap) (hr:rss.length=zs.length)
 (hrow: ∀j (h:j<zs.length),∃ds:List Value,ds.length=e.size∧rdO w e zs[j] ds (rss.getD j [])∧ ∀q,q<e.size→w'.cell? ⟨b,o0+j*e.size+q,none⟩=ds[q]?)
 (hc: ∀j,j<cap*e.size→(∃u,w'.cell? ⟨b,o0+j,none⟩=some u)∧w'.frozen? ⟨b,o0+j,none⟩=false)
 (hsame: ∀b' o',cov rss.flatten b' o'→(w'.cell? ⟨b',o',none⟩=w.cell? ⟨b',o',none⟩∧w'.frozen? ⟨b',o',none⟩=w.frozen? ⟨b',o',none⟩)∧ ¬(b'=b∧o0≤o'∧o'<o0+cap*e.size))
 (hF:Fr w (inR (l,.arr e ver false ys)) w') (hout: ∀b' o',b'=b∧o0≤o'∧o'<o0+cap*e.size→inR (l,.arr e ver false ys) b' o'∨w.heap.size≤b')
 {objs:List (Nat×Ob)} (hob: ∀i,getO objs i=if i∈ms then(getO st.objs i).map gOb else getO st.objs i)
 (hrun:(execOp a.eval o).run K.P w= .ok (.value (.slice (some ⟨b,o0,none⟩) zs.length cap)) w'):
 Does K w0 M0 o a w L (putO objs i (.arr e (ver+1) false zs)) (.ref i (ver+1)):=by
 have hTi:=Turn.arr (l':=⟨some (b,o0),cap,rss.flatten⟩) (v':=ver+1) (z':=false) (xs':=zs) hi (by omega)
 obtain⟨g1,g2,g3⟩:=R.ro.take hK (ms:=ms) (i:=i) (p':=((⟨some (b,o0),cap,rss.flatten⟩:Loc),.arr e (ver+1) false zs)) (w':=w') (fun j hj=>hh.own j (List.mem_cons_of_mem _ hj)) him
  (hF.mono fun b o _ h=>.inl ⟨_,hi,h⟩) hTi
  (fun ht=>eu he rfl hlen hc (by
   unfold Dq
   rw [he]
   refine⟨fun b' o' hcv=>⟨?_,(hsame b' o' hcv).2⟩,hh.pw,rss,rfl,hr,fun j hj=> ?_⟩
   ·rw [(hsame b' o' hcv).1.1,(hsame b' o' hcv).1.2];exact(hh.cell R.ro hcv).1
   ·obtain⟨ds,k1,k2,k3⟩:=hrow j hj
    exact⟨ds,k1,lw e k2 fun b' o' hcv=>(hsame b' o' (kJ (by rw [hr];exact hj) hcv)).1.1,k3⟩))
  (fun b' o' hr'=>by
   rcases hr' with⟨x0,e1,e2,e3⟩|⟨_,hcv⟩
   ·simp only [Option.some.injEq,Prod.mk.injEq]at e1
    simp only [ext,Bool.false_eq_true,if_false]at e3
    rcases hout b' o' ⟨e1.1.symm,by omega,by omega⟩with h|h
    ·exact .inl (.inl ⟨_,hi,h⟩)
    ·exact .inr h
   ·obtain⟨j,h1,p,h2,h3⟩:=hh.cov b' o' hcv
    rcases List.mem_cons.1 h1 with rfl|h1
    ·exact .inl (.inl ⟨p,h2,h3⟩)
    ·exact .inl (.inr ⟨j,h1,p,h2,h3⟩))
 refine Does.val hrun g1 (nN R hob i _ _) g3 g2 ?_
 simp only [rel]
 exact⟨_,_,_,_,_,_,_,_,av _ _ _,Nat.le_refl _,rfl,fun _=>⟨rfl,rfl,rfl⟩⟩
theorem RowO.append {e:Ty} {l l':List (Den e)} {cs cs':List Value} {rs rs':List (List Rg)} (h:RowO w e l cs rs) (h':RowO w e l' cs' rs'):RowO w e (l++l') (cs++cs') (rs++rs'):=by
 refine⟨by simp [h.1,h'.1,Nat.add_mul],by simp [h.2.1,h'.2.1],fun i hi=> ?_⟩
 by_cases hl:i<l.length
 ·obtain⟨ds,h1,h2,h3⟩:=h.2.2 i hl
  refine⟨ds,h1, ?_,fun j hj=> ?_⟩
  ·rw [List.getElem_append_left hl,List.getD_eq_getElem?_getD,List.getElem?_append_left (by rw [h.2.1];exact hl),←List.getD_eq_getElem?_getD];exact h2
  rw [List.getElem?_append_left (by rw [h.1];exact bY hl hj)]
  exact h3 j hj
 ·have hi':i-l.length<l'.length:=by simp at hi;omega
  obtain⟨ds,h1,h2,h3⟩:=h'.2.2 (i-l.length) hi'
  refine⟨ds,h1, ?_,fun j hj=> ?_⟩
  ·rw [List.getElem_append_right (by omega),List.getD_eq_getElem?_getD,List.getElem?_append_right (by rw [h.2.1];omega),h.2.1,←List.getD_eq_getElem?_getD];exact h2
  have e1:i*e.size=l.length*e.size+(i-l.length)*e.size:=by rw [←Nat.add_mul];congr 1;omega
  rw [List.getElem?_append_right (by rw [h.1];omega),h.1]
  rw [←h3 j hj];congr 1;omega
theorem HoldsO.more {ms:List Nat} {rs:List Rg} (h:HoldsO L w ms rs) {i:Nat} {l:Loc} {e:Ty} {v:Nat} {ys:List (Den e)} (hi:L i=some (l,.arr e v false ys)):HoldsO L w (i::ms) rs:=
 ⟨fun j hj=>by
  rcases List.mem_cons.1 hj with rfl|hj
  ·exact⟨_,hi,rfl⟩
  ·exact h.own j hj,fun b o hc=>by obtain⟨j,h1,h2⟩:=h.cov b o hc;exact⟨j,List.mem_cons_of_mem _ h1,h2⟩,h.pw⟩
theorem HoldsO.join {ms:List Nat} {rs rs':List (List Rg)} {i:Nat} (h:HoldsO L w [i] rs.flatten) (hr:RelO K w0 M0 L w) (him:i ∉ ms) (h':HoldsO L w ms rs'.flatten):HoldsO L w (i::ms) (rs++rs').flatten:=by
 refine⟨fun j hj=> ?_,fun b o hc=> ?_, ?_⟩
 ·rcases List.mem_cons.1 hj with rfl|hj
  ·exact h.own j (List.mem_singleton.2 rfl)
  ·exact h'.own j hj
 ·rw [List.flatten_append]at hc
  rcases cov_append.1 hc with hc|hc
  ·obtain⟨j,h1,h2⟩:=h.cov b o hc
   exact⟨j,by rw [List.mem_singleton.1 h1];exact List.mem_cons_self ..,h2⟩
  ·obtain⟨j,h1,h2⟩:=h'.cov b o hc
   exact⟨j,List.mem_cons_of_mem _ h1,h2⟩
 ·rw [List.flatten_append]
  refine List.pairwise_append.2 ⟨h.pw,h'.pw,fun x hx y hy b o h1 h2=> ?_⟩
  obtain⟨j,g1,p,g2,g3⟩:=h.cov b o (kL h1 hx)
  obtain⟨j',g1',p',g2',g3'⟩:=h'.cov b o (kL h2 hy)
  rw [List.mem_singleton.1 g1]at g2
  exact him (hr.sep i j' p p' b o g2 g2' g3 g3'▸g1')
theorem Qg (hr:RelO K w0 M0 L w) {i:Nat} {l:Loc} {e:Ty} (he:e.hasSlice=true) {ver:Nat} {ys:List (Den e)} (hi:L i=some (l,.arr e ver false ys)) {b o0:Nat} (hb:l.base=some (b,o0))
 (h10: ∀i (h:i<ys.length),∃ds:List Value,ds.length=e.size∧rd w (Mz L l false e) e ys[i] ds∧ ∀j,j<e.size→w.cell? ⟨b,o0+i*e.size+j,none⟩=ds[j]?) (hq:Dq w l b o0 e ys):
 ∃rss,l.dp=rss.flatten∧ ∃cs,RowO w e ys cs rss∧(∀j,j<cs.length→w.cell? ⟨b,o0+j,none⟩=cs[j]?)∧HoldsO L w [i] rss.flatten:=by
 unfold Dq at hq
 rw [he]at hq
 obtain⟨q1,q2,rss,q3,q4,q5⟩:=hq
 obtain⟨cs,k1,k2⟩:=vW (l:=ys) (b:=b) (o:=o0) (w:=w) (M:=fun b o=> ¬cov l.dp b o) (e:=e) (by rw [←iJ (L:=L) he];exact h10)
 refine⟨rss,q3,cs,⟨k1.1,q4,fun i hi=> ?_⟩,k2,⟨fun j hj=> ?_,fun b' o' hc=>⟨i,List.mem_singleton.2 rfl,_,hi,.inr ⟨rfl, ?_⟩⟩,by rw [←q3];exact q2⟩⟩
 ·obtain⟨ds,m1,m2,m3⟩:=q5 i hi
  refine⟨ds,m1,m2,fun q hq=> ?_⟩
  have hlt:=bY hi hq
  rw [←k2 (i*e.size+q) (by rw [k1.1];exact hlt),←m3 q hq,Nat.add_assoc]
 ·rw [List.mem_singleton.1 hj];exact⟨_,hi,rfl⟩
 ·show cov l.dp b' o'
  rw [q3];exact hc
theorem ra (hK:K.Ok) (R:Rl K w0 M0 L st a w) {i:Nat} {l:Loc} {e:Ty} (he:e.hasSlice=true) {ver:Nat} {ys:List (Den e)} (hi:L i=some (l,.arr e ver false ys)) {zs:List (Den e)} {rss:List (List Rg)} {ms:List Nat} (him:i ∉ ms)
 (hh:HoldsO L w (i::ms) rss.flatten) {cap:Nat} {cells rest:List Value} {w':World} (hrow:RowO w e zs cells rss) (hcap:zs.length≤cap) (hlen:(cells++rest).length=cap*e.size) (hF:Fr w (fun _ _=>False) w')
 (hc: ∀j,j<cap*e.size→w'.cell? ⟨w.heap.size,j,none⟩=(cells++rest)[j]? ∧w'.frozen? ⟨w.heap.size,j,none⟩=false)
 {objs:List (Nat×Ob)} (hob: ∀i,getO objs i=if i∈ms then(getO st.objs i).map gOb else getO st.objs i)
 (hrun:(execOp a.eval o).run K.P w= .ok (.value (.slice (some ⟨w.heap.size,0,none⟩) zs.length cap)) w'):
 Does K w0 M0 o a w L (putO objs i (.arr e (ver+1) false zs)) (.ref i (ver+1)):=
 Cg hK R he hi him hh hcap hrow.2.1 (fun j hj=>by
  obtain⟨ds,k1,k2,k3⟩:=hrow.2.2 j hj
  refine⟨ds,k1,k2,fun q hq=> ?_⟩
  have hlt:=bY hj hq
  have hle:zs.length*e.size≤cap*e.size:=Nat.mul_le_mul_right _ hcap
  rw [Nat.zero_add,(hc _ (by omega)).1,List.getElem?_append_left (by rw [hrow.1];exact hlt)]
  exact k3 q hq)
  (fun j hj=>by
   rw [Nat.zero_add]
   refine⟨?_,(hc j hj).2⟩
   rw [(hc j hj).1,List.getElem?_eq_getElem (by omega)]
   exact⟨_,rfl⟩)
  (fun b' o' hcv=>by
   have hb:=(hh.cell R.ro hcv).2
   exact⟨⟨hF.cel b' o' hb id,hF.frz b' o' hb id⟩,fun h=>by omega⟩)
  (hF.mono fun _ _ _=>False.elim) (fun b' o' h=>.inr (by omega)) hob hrun
theorem Ab (hK:K.Ok) (R:Rl K w0 M0 L st a w) {i:Nat} {l:Loc} {e:Ty} (he:e.hasSlice=true) {ver:Nat} {ys xs:List (Den e)} (hi:L i=some (l,.arr e ver false ys)) {b o0:Nat} (hb:l.base=some (b,o0)) {rs0 rs1:List (List Rg)} {ms:List Nat} (him:i ∉ ms)
 (hrss:l.dp=rs0.flatten) (hh0:HoldsO L w [i] rs0.flatten) (hh:HoldsO L w ms rs1.flatten) {cs cells:List Value} (h12:RowO w e ys cs rs0) (h13: ∀j,j<cs.length→w.cell? ⟨b,o0+j,none⟩=cs[j]?) (hrow:RowO w e xs cells rs1) (hroom:ys.length+xs.length≤l.cap)
 (h11: ∀j,j<l.cap*e.size→(∃u,w.cell? ⟨b,o0+j,none⟩=some u)∧w.frozen? ⟨b,o0+j,none⟩=false) (hq:Dq w l b o0 e ys)
 {objs:List (Nat×Ob)} (hob: ∀i,getO objs i=if i∈ms then(getO st.objs i).map gOb else getO st.objs i)
 (hrun:(execOp a.eval o).run K.P w= .ok (.value (.slice (some ⟨b,o0,none⟩) (ys.length+xs.length) l.cap)) (w.setCells b (o0+ys.length*e.size) cells)):
 Does K w0 M0 o a w L (putO objs i (.arr e (ver+1) false (ys++xs))) (.ref i (ver+1)):=by
 have hcl:=hrow.1
 have hfit:ys.length*e.size+cells.length≤l.cap*e.size:=by rw [hcl,←Nat.add_mul];exact Nat.mul_le_mul_right _ hroom
 have hcell: ∀j,j<cells.length→ ∃u,w.cell? ⟨b,o0+ys.length*e.size+j,none⟩=some u:=fun j hj=>by
  have:=(h11 (ys.length*e.size+j) (by omega)).1
  rwa [←Nat.add_assoc]at this
 have hin: ∀b' o',b'=b∧o0≤o'∧o'<o0+l.cap*e.size→inR (l,Ob.arr e ver false ys) b' o':=fun b' o' h=>.inl ⟨o0,by rw [h.1];exact hb,h.2.1,by simpa only [ext,Bool.false_eq_true,if_false]using h.2.2⟩
 unfold Dq at hq
 rw [he]at hq
 have happ:=h12.append hrow
 refine Cg hK R he hi him (hh0.join R.ro him hh) (b:=b) (o0:=o0) (cap:=l.cap) (by simpa using hroom) happ.2.1 (fun j hj=> ?_) (fun j hj=> ?_) (fun b' o' hcv=> ?_)
  (Fr.setCells b cells (o0+ys.length*e.size) w fun j hj=>hin b _ ⟨rfl,by omega,by omega⟩) (fun b' o' h=>.inl (hin b' o' h)) hob (by rw [List.length_append];exact hrun)
 ·obtain⟨ds,k1,k2,k3⟩:=happ.2.2 j hj
  refine⟨ds,k1,k2,fun q hq=> ?_⟩
  rw [←k3 q hq]
  have hlt:=bY hj hq
  rw [List.length_append,Nat.add_mul,←hcl]at hlt
  rw [bC hcell]
  by_cases hjl:j*e.size+q<cs.length
  ·rw [if_neg (by rw [h12.1]at hjl;omega),List.getElem?_append_left hjl,←h13 _ hjl,Nat.add_assoc]
  ·rw [h12.1]at hjl
   rw [if_pos (by omega),List.getElem?_append_right (by rw [h12.1];omega),h12.1]
   congr 1;omega
 ·obtain⟨⟨u,k1⟩,k2⟩:=h11 j hj
  refine⟨?_,by rw [World.frozen?_setCells];exact k2⟩
  rw [bC hcell]
  split
  ·exact⟨_,List.getElem?_eq_getElem (by omega)⟩
  ·exact⟨u,k1⟩
 ·have hno: ¬(b'=b∧o0≤o'∧o'<o0+l.cap*e.size):=by
   rw [List.flatten_append]at hcv
   rcases cov_append.1 hcv with hcv|hcv
   ·exact(hq.1 b' o' (by rw [hrss];exact hcv)).2
   ·intro h
    obtain⟨j,g1,p,g2,g3⟩:=hh.cov b' o' hcv
    exact him (R.ro.sep j i p _ b' o' g2 hi g3 (hin b' o' h)▸g1)
  refine⟨⟨?_,by rw [World.frozen?_setCells]⟩,hno⟩
  refine World.cell?_setCells_out b cells (o0+ys.length*e.size) w ⟨b',o',none⟩ fun e1 _=> ?_
  simp only at e1⊢
  rcases Nat.lt_or_ge o' (o0+ys.length*e.size)with h|h
  ·exact .inl h
  ·exact .inr (Nat.le_of_not_lt fun h2=>hno ⟨e1,by omega,by omega⟩)
theorem Fj (w:World) (C:Array Value) (t:TypeId): ∀j,(w.drew.alloc (.cells C t)).cell? ⟨w.heap.size,j,none⟩=C.toList[j]? ∧(w.drew.alloc (.cells C t)).frozen? ⟨w.heap.size,j,none⟩=false:=
 fv w w.drew C t rfl
theorem Qh (w:World) (x:Obj):Fr w (fun _ _=>False) (w.drew.alloc x):=((Fr.refl w _).drew).trans (Fr.alloc _ _ _) fun _ _ _=>id
theorem HU {C:cy} {O:Opt} (hK:K.Ok) {c:Call} (h:o.op= .call c) (hb:c.callee= .builtin .append):ic K C O o:=by
 intro w0 M0 L st a w d k t r R he
 rw [h]at he
 simp only [op1,hb]at he
 split at he
 case h_2=>exact(ab he).elim
 rename_i ty tx hty
 split at he
 case h_2=>exact(ab he).elim
 rename_i te e b hel
 obtain⟨vs,t1,he1,hvs⟩:=ga R he
 clear he
 split at he1
 case h_2=>exact(ab he1).elim
 rename_i s x
 obtain⟨sv,xv,hv1,hs,hx⟩:=mL hvs
 obtain⟨cons,hrun⟩:=fq (K:=K) (a:=a) (w:=w) h hb
 rw [nI hv1]at hrun
 have hat:c.argTypes= #[ty,tx]:=by apply Array.ext';simpa using hty
 rw [hat]at hrun
 obtain⟨i,ag,g0,g1,g2,g3,g4,g5,g6,g7,g8,g9⟩:=dP hK hel
 have hrun': ∀{v':Value} {w':World},(Builtin.append_ #[ty,tx] o.type #[sv,xv]).run K.P w= .ok v' w'→(execOp a.eval o).run K.P w= .ok (.value v') w':=by
  intro v' w' h1
  rw [hrun]
  simp [builtin,h1]
 -- a new row behind the old elements
 have grow: ∀{xs:List (Den e)} {cells:List Value} {base:Option Addr} {cap:Nat} {ys:List (Den e)} {olds:List Value},Src K.P e.size tx xv xs.length cells w→cells.length=xs.length*e.size→sv= .slice base ys.length cap→olds.length=ys.length*e.size→(Builtin.firstCells i.size ys.length (.slice base ys.length cap)).run K.P w.drew= .ok olds.toArray w.drew→
  cap<ys.length+xs.length→(ys.length+xs.length)*b≤140737488355328→
  ∃(cap':Nat) (rest:List Value) (w':World),(ys++xs).length≤cap'∧((olds++cells)++rest).length=cap'*e.size∧Fr w (fun _ _=>False) w'∧
   (∀j,j<cap'*e.size→w'.cell? ⟨w.heap.size,j,none⟩=((olds++cells)++rest)[j]? ∧w'.frozen? ⟨w.heap.size,j,none⟩=false)∧(e= .int .u8→ ∃n,w'.shape? w.heap.size=some (5,n))∧
   (execOp a.eval o).run K.P w= .ok (.value (.slice (some ⟨w.heap.size,0,none⟩) (ys++xs).length cap')) w':=by
  intro xs cells base cap ys olds hsrc hcl hsv hys hold hlt hbd
  rw [←g6]at hsrc
  have hn:ys.length+xs.length≤140737488355328:=by
   have:(ys.length+xs.length)*1≤(ys.length+xs.length)*b:=Nat.mul_le_mul_left _ g5
   omega
  have hge:=grownCap_ge w (ys.length+xs.length) cap te
  have hr:=run_append_grow_src (P:=K.P) w ty tx o.type te i _ g0 g3 g7 base ys.length cap olds hold xv xs.length cells hsrc hlt (by omega) (by rw [g4];exact growslice_fits hlt hbd)
  rw [←hsv]at hr
  refine⟨_,(Builtin.zeroCells (jm e.cts ag).cells (grownCap w (ys.length+xs.length) cap te-(ys.length+xs.length))).toList,_,by simpa using hge, ?_,Qh w _,fun j hj=> ?_,fun he=> ?_,hrun' (by rw [List.length_append];exact hr)⟩
  ·have e1:(Builtin.zeroCells (jm e.cts ag).cells (grownCap w (ys.length+xs.length) cap te-(ys.length+xs.length))).toList.length=(grownCap w (ys.length+xs.length) cap te-(ys.length+xs.length))*e.size:=by
    rw [Array.length_toList,size_zeroCells,g9]
   rw [List.length_append,List.length_append,hys,hcl,e1,←Nat.add_mul,←Nat.add_mul]
   congr 1;omega
  ·have:=Fj w ((olds++cells).toArray++Builtin.zeroCells (jm e.cts ag).cells (grownCap w (ys.length+xs.length) cap te-(ys.length+xs.length))) te j
   rw [Array.toList_append]at this
   exact this
  ·subst he;rw [hK.u8 _ _ _ hel]
   exact⟨_,fk w.drew _ 5⟩
 cases he0:e.hasSlice with
 |false=>
  simp only [he0]at he1
  obtain⟨xs,t2,cells,he2,hrow,hsrc'⟩:=MT hK R hx he1
  clear he1
  have hsrc:=hsrc'
  rw [←g6]at hsrc
  cases s with
  |nil e'=>
   simp only at he2
   split at he2
   case isFalse=>exact(ab he2).elim
   rename_i hee
   subst hee
   obtain⟨q1,he3⟩:=bw he2
   simp only [decide_eq_true_eq]at q1
   obtain⟨q2,he4⟩:=cW he3
   have hs':=fi hs
   by_cases hx0:xs=[]
   ·subst hx0
    have hcells:cells=[]:=by have:=hrow.1;simpa using this
    subst hcells
    refine⟨_,_,_,he4,MR hK R q2 (hrun' ?_)⟩
    rw [hs']
    exact run_append_nothing (P:=K.P) w ty tx o.type te i g0 g3 none 0 0 (Nat.le_refl _) xv hsrc
   ·have hpos:0<xs.length:=List.length_pos_iff.2 hx0
    obtain⟨cap',rest,w',p1,p3,p4,p5,p5',p6⟩:=grow hsrc' hrow.1 (base:=none) (cap:=0) (ys:=[]) (olds:=[]) hs' (by simp) (run_firstCells_none w.drew _ _ _ _) (by simpa using hpos) (by simpa using q1)
    exact⟨_,_,_,he4,tV hK R q2 he0 (xs:=xs) (by simpa using hrow) p1 p3 p4 p5 p5' p6⟩
  |ref j ver=>
   obtain⟨z,q1,he3⟩:=br he2
   cases z with
   |var _=>exact(ab he3).elim
   |map _ _ _ _=>exact(ab he3).elim
   |arr e' v' z ys=>
    cases z with
    |true=>exact(ab he3).elim
    |false=>
    simp only at he3
    split at he3
    case isFalse=>exact(ab he3).elim
    rename_i hee
    subst hee
    split at he3
    case isFalse=>exact(ab he3).elim
    rename_i hver
    obtain⟨q2,he4⟩:=bw he3
    simp only [decide_eq_true_eq]at q2
    obtain⟨_,he5⟩:=cj he4
    simp only [rel]at hs
    obtain⟨l0,e',cur,z',xs',p,m,cc,h4,h5,h6,h7⟩:=hs
    have hob:=R.ob j
    rw [q1,h4]at hob
    simp only [Option.map_some,Option.some.injEq,Ob.arr.injEq]at hob
    obtain⟨rfl,rfl,rfl,hxs⟩:=hob
    have hxs:=eq_of_heq hxs
    subst hxs
    obtain⟨rfl,rfl,rfl⟩:=h7 hver
    subst hver
    refine⟨_,_,_,he5, ?_⟩
    rcases R.ro.ok j _ h4 with⟨h8,h9,h10,h10d⟩|⟨b',o0,h8,h9,h10,h11,_⟩
    ·replace h8:l0.base=none:=h8
     replace h10:l0.cap=0:=h10
     subst h9
     by_cases hx0:xs=[]
     ·subst hx0
      have hcells:cells=[]:=by have:=hrow.1;simpa using this
      subst hcells
      have hT:=Turn.arr (l':=l0) (v':=ver+1) (z':=false) (xs':=([]:List (Den e'))) h4 (by omega)
      obtain⟨p1,p2⟩:=R.ro.put hK h4 (p':=(l0,.arr e' (ver+1) false [])) (w':=w) (Fr.refl w _) hT (fun _=>.inl ⟨h8,rfl,h10,h10d⟩) (fun b o hr=>by obtain⟨_,e1,_⟩:=cg h10d hr;rw [h8]at e1;cases e1)
      have hr:=run_append_nothing (P:=K.P) w ty tx o.type te i g0 g3 l0.addr 0 l0.cap (by omega) xv hsrc
      refine Does.val (hrun' (by rw [h6];exact hr)) p1 (ey R j _ _) hT p2 ?_
      simp only [rel]
      exact⟨_,_,_,_,_,_,_,_,av _ _ _,Nat.le_refl _,rfl,fun _=>⟨rfl,rfl,rfl⟩⟩
     ·have hpos:0<xs.length:=List.length_pos_iff.2 hx0
      obtain⟨cap',rest,w',p1,p3,p4,p5,p5',p6⟩:=grow hsrc' hrow.1 (base:=l0.addr) (cap:=l0.cap) (ys:=[]) (olds:=[]) h6 (by simp) (by simp only [Loc.addr,h8];exact run_firstCells_none w.drew _ _ _ _) (by rw [h10];simpa using hpos) (by simpa using q2)
      exact HT hK R he0 h4 (by simpa using hrow) p1 p3 p4 p5 p5' p6
    ·replace h8:l0.base=some (b',o0):=h8
     replace h9:ys.length≤l0.cap:=h9
     have ha:l0.addr=some ⟨b',o0,none⟩:=by simp [Loc.addr,h8]
     by_cases hroom:ys.length+xs.length≤l0.cap
     ·have hc: ∀j,j<cells.length→(∃u,w.cell? ⟨b',o0+ys.length*e'.size+j,none⟩=some u)∧w.frozen? ⟨b',o0+ys.length*e'.size+j,none⟩=false:=fun j hj=>by
       have hle:(ys.length+xs.length)*e'.size≤l0.cap*e'.size:=Nat.mul_le_mul_right _ hroom
       rw [Nat.add_mul,←hrow.1]at hle
       have:=h11 rfl (ys.length*e'.size+j) (by show _<l0.cap*e'.size;omega)
       rwa [←Nat.add_assoc]at this
      have hr:=run_append_room_src (P:=K.P) w ty tx o.type te i g0 g3 b' o0 ys.length l0.cap xv xs.length cells hsrc hroom (fun j hj=>by
       obtain⟨⟨u,hu⟩,_⟩:=hc j hj;rw [g6,hu];rfl) (fun j hj=>by rw [g6];exact(hc j hj).2)
      rw [g6]at hr
      exact MU hK R he0 h4 h8 hrow hroom (hrun' (by rw [h6,ha];exact hr))
     ·obtain⟨cs,h12,h13⟩:=vW (l:=ys) (b:=b') (o:=o0) (w:=w) (M:=Mut L) (by rw [←f_ (L:=L) (l:=l0) (z:=false) (e:=e') (by simp [he0])];exact h10)
      obtain⟨cap',rest,w',p1,p3,p4,p5,p5',p6⟩:=grow hsrc' hrow.1 (base:=l0.addr) (cap:=l0.cap) (ys:=ys) (olds:=cs) h6 h12.1 (by
       rw [ha]
       refine run_firstCells_some w.drew _ _ _ _ _ cs (by rw [h12.1,g6]) fun q u hu=> ?_
       have hq:=(List.getElem?_eq_some_iff.1 hu).1
       rw [←hu,←h13 q hq];simp [Addr.add_lit]) (by omega) q2
      exact HT hK R he0 h4 (h12.append hrow) p1 p3 p4 p5 p5' p6
  |_=>exact(ab he2).elim
 |true=>
  simp only [he0]at he1
  obtain⟨xs,jx,vx,lx,t2,cells,rs1,he2,hLx,hrow,hh,hsrc'⟩:=MS hK R he0 hx he1
  have hsrc:=hsrc'
  rw [←g6]at hsrc
  have hx1:([jx]:List Nat).Nodup:=by simp
  cases s with
  |nil e'=>
   simp only at he2
   split at he2
   case isFalse=>exact(ab he2).elim
   rename_i hee
   subst hee
   obtain⟨q1,he3⟩:=bw he2
   simp only [decide_eq_true_eq]at q1
   obtain⟨objs,t3,he4,hob⟩:=nM [jx] he3 hx1
   obtain⟨q2,he5⟩:=cW he4
   have hLi:L (64* (d+1))=none:=by
    have h3:=hob (64* (d+1))
    rw [q2]at h3
    have h4:=R.ob (64* (d+1))
    cases hL:L (64* (d+1))with
    |none=>rfl
    |some q=>
     rw [hL]at h4
     rw [h4]at h3
     split at h3<;>simp at h3
   have hs':=fi hs
   by_cases hx0:xs=[]
   ·subst hx0
    have hcells:cells=[]:=by have:=hrow.1;simpa using this
    subst hcells
    have him:64* (d+1) ∉ [jx]:=fun hm=>by rw [List.mem_singleton.1 hm,hLx]at hLi;cases hLi
    have hTi:Turn L (upd L (64* (d+1)) ((⟨none,0,[]⟩:Loc),.arr e' 0 false [])):=by
     intro j l x hj
     have hne:j≠64* (d+1):=by intro e;subst e;rw [hLi]at hj;cases hj
     obtain⟨l',x',h1,h2⟩:=Turn.refl L j l x hj
     exact⟨l',x',by rw [aG L _ hne];exact h1,h2⟩
    obtain⟨p1,p2,p3⟩:=R.ro.take hK (ms:=[jx]) (i:=64* (d+1)) (p':=((⟨none,0,[]⟩:Loc),.arr e' 0 false [])) (w':=w) hh.own him (Fr.refl w _) hTi (fun _=>.inl ⟨rfl,rfl,rfl,rfl⟩)
     (fun b o hr=>by obtain⟨_,e1,_⟩:=cg rfl hr;cases e1)
    refine⟨_,_,_,he5,Does.val (hrun' (v':=.slice none 0 0) (w':=w) ?_) p1 (nN R hob _ _ _) p3 p2 ?_⟩
    ·rw [hs']
     exact run_append_nothing (P:=K.P) w ty tx o.type te i g0 g3 none 0 0 (Nat.le_refl _) xv hsrc
    ·simp only [rel]
     exact⟨_,_,_,_,_,_,_,_,av _ _ _,Nat.le_refl _,rfl,fun _=>⟨rfl,rfl,rfl⟩⟩
   ·have hpos:0<xs.length:=List.length_pos_iff.2 hx0
    obtain⟨cap',rest,w',p1,p3,p4,p5,p5',p6⟩:=grow hsrc' hrow.1 (base:=none) (cap:=0) (ys:=[]) (olds:=[]) hs' (by simp) (run_firstCells_none w.drew _ _ _ _) (by simpa using hpos) (by simpa using q1)
    exact⟨_,_,_,he5,tW hK R hLi he0 (xs:=xs) (by simpa using hrow) hh p1 p3 p4 p5 hob p6⟩
  |ref j ver=>
   obtain⟨z,q1,he3⟩:=br he2
   cases z with
   |var _=>exact(ab he3).elim
   |map _ _ _ _=>exact(ab he3).elim
   |arr e' v' z ys=>
    cases z with
    |true=>exact(ab he3).elim
    |false=>
    simp only at he3
    split at he3
    case isFalse=>exact(ab he3).elim
    rename_i hee
    subst hee
    split at he3
    case isFalse=>exact(ab he3).elim
    rename_i hver
    obtain⟨hver,hne⟩:=hver
    obtain⟨q2,he4⟩:=bw he3
    simp only [decide_eq_true_eq]at q2
    obtain⟨objs,t3,he4,hob2⟩:=nM [jx] he4 hx1
    obtain⟨_,he5⟩:=cj he4
    simp only [rel]at hs
    obtain⟨l0,e',cur,z',xs',p,m,cc,h4,h5,h6,h7⟩:=hs
    have hob:=R.ob j
    rw [q1,h4]at hob
    simp only [Option.map_some,Option.some.injEq,Ob.arr.injEq]at hob
    obtain⟨rfl,rfl,rfl,hxs⟩:=hob
    have hxs:=eq_of_heq hxs
    subst hxs
    obtain⟨rfl,rfl,rfl⟩:=h7 hver
    subst hver
    have him:j ∉ [jx]:=fun hm=>hne (List.mem_singleton.1 hm)
    refine⟨_,_,_,he5, ?_⟩
    rcases R.ro.ok j _ h4 with⟨h8,h9,h10,h10d⟩|⟨b',o0,h8,h9,h10,h11,_,_,hq⟩
    ·replace h8:l0.base=none:=h8
     replace h10:l0.cap=0:=h10
     subst h9
     by_cases hx0:xs=[]
     ·subst hx0
      have hcells:cells=[]:=by have:=hrow.1;simpa using this
      subst hcells
      have hT:=Turn.arr (l':=l0) (v':=ver+1) (z':=false) (xs':=([]:List (Den e'))) h4 (by omega)
      obtain⟨p1,p2,p3⟩:=R.ro.take hK (ms:=[jx]) (i:=j) (p':=(l0,.arr e' (ver+1) false [])) (w':=w) hh.own him (Fr.refl w _) hT (fun _=>.inl ⟨h8,rfl,h10,h10d⟩)
       (fun b o hr=>by obtain⟨_,e1,_⟩:=cg h10d hr;rw [h8]at e1;cases e1)
      have hr:=run_append_nothing (P:=K.P) w ty tx o.type te i g0 g3 l0.addr 0 l0.cap (by omega) xv hsrc
      refine Does.val (hrun' (by rw [h6];exact hr)) p1 (nN R hob2 j _ _) p3 p2 ?_
      simp only [rel]
      exact⟨_,_,_,_,_,_,_,_,av _ _ _,Nat.le_refl _,rfl,fun _=>⟨rfl,rfl,rfl⟩⟩
     ·have hpos:0<xs.length:=List.length_pos_iff.2 hx0
      obtain⟨cap',rest,w',p1,p3,p4,p5,p5',p6⟩:=grow hsrc' hrow.1 (base:=l0.addr) (cap:=l0.cap) (ys:=[]) (olds:=[]) h6 (by simp) (by simp only [Loc.addr,h8];exact run_firstCells_none w.drew _ _ _ _) (by rw [h10];simpa using hpos) (by simpa using q2)
      exact ra hK R he0 h4 him (hh.more h4) (by simpa using hrow) p1 p3 p4 p5 hob2 p6
    ·replace h8:l0.base=some (b',o0):=h8
     replace h9:ys.length≤l0.cap:=h9
     have ha:l0.addr=some ⟨b',o0,none⟩:=by simp [Loc.addr,h8]
     replace hq:Dq w l0 b' o0 e' ys:=hq rfl
     obtain⟨rs0,hrss,cs,h12,h13,hh0⟩:=Qg R.ro he0 h4 h8 h10 hq
     by_cases hroom:ys.length+xs.length≤l0.cap
     ·have hc: ∀j,j<cells.length→(∃u,w.cell? ⟨b',o0+ys.length*e'.size+j,none⟩=some u)∧w.frozen? ⟨b',o0+ys.length*e'.size+j,none⟩=false:=fun j hj=>by
       have hle:(ys.length+xs.length)*e'.size≤l0.cap*e'.size:=Nat.mul_le_mul_right _ hroom
       rw [Nat.add_mul,←hrow.1]at hle
       have:=h11 rfl (ys.length*e'.size+j) (by show _<l0.cap*e'.size;omega)
       rwa [←Nat.add_assoc]at this
      have hr:=run_append_room_src (P:=K.P) w ty tx o.type te i g0 g3 b' o0 ys.length l0.cap xv xs.length cells hsrc hroom (fun j hj=>by
       obtain⟨⟨u,hu⟩,_⟩:=hc j hj;rw [g6,hu];rfl) (fun j hj=>by rw [g6];exact(hc j hj).2)
      rw [g6]at hr
      exact Ab hK R he0 h4 h8 him hrss hh0 hh h12 h13 hrow hroom (h11 rfl) hq hob2 (hrun' (by rw [h6,ha];exact hr))
     ·obtain⟨cap',rest,w',p1,p3,p4,p5,p5',p6⟩:=grow hsrc' hrow.1 (base:=l0.addr) (cap:=l0.cap) (ys:=ys) (olds:=cs) h6 h12.1 (by
       rw [ha]
       refine run_firstCells_some w.drew _ _ _ _ _ cs (by rw [h12.1,g6]) fun q u hu=> ?_
       have hq:=(List.getElem?_eq_some_iff.1 hu).1
       rw [←hu,←h13 q hq];simp [Addr.add_lit]) (by omega) q2
      exact ra hK R he0 h4 him (hh0.join R.ro him hh) (h12.append hrow) p1 p3 p4 p5 hob2 p6
  |_=>exact(ab he2).elim
end Go.Proofs.YtihabpimbfmhhaaGreatDoor.Ev
namespace Go.Proofs.YtihabpimbfmhhaaGreatDoor.Ev
open Go Go.RowKit
set_option linter.unusedSimpArgs false
set_option linter.unusedVariables false
variable {K:Ctx} {w0:World} {M0:Bd} {L L':Lk} {st:St} {a:Act} {w:World} {o:Oper} {M:Nat→Nat→Prop}
theorem HV {m n v:Nat} (hn:n<m) (h:Rn m n v=0):v=0:=by
 unfold Rn at h;rw [if_pos hn]at h;cases v with
 |zero=>rfl
 |succ v=>simp at h
def Ad (objs:List (Nat×Ob)) (L:Lk):Prop:= ∀i x,getO objs i=some x→ ∃l,L i=some (l,x)
def OQ (m:Nat) (ρ:List (Nat×Nat)) (objs:List (Nat×Ob)) (L L':Lk):Prop:= ∀o n,mv o ρ=some n→ ∀l x,L o=some (l,x)→L' n=some (l,qY m ρ objs n x)
theorem lz {objs:List (Nat×Ob)} {o ver:Nat} (h:kE objs o ver=true): ∃e z xs,getO objs o=some (.arr e ver z xs):=by
 unfold kE at h
 split at h
 ·rename_i e v z xs hg
  simp only [decide_eq_true_eq]at h
  subst h
  exact⟨_,_,_,hg⟩
 ·cases h
mutual
theorem Ch {m:Nat} {ρ:List (Nat×Nat)} {objs:List (Nat×Ob)} {w':World} {M':Nat→Nat→Prop} (hs:Ad objs L) (hS:OQ m ρ objs L L') (ht:Tr w M w' M'): ∀(x:AV) {v:Value},rel L w M x v→rel L' w' M' (mw m ρ objs x) v
 | .undef,_,_=>by simp [mw,rel]
 | .int _ _,_,h=>by simpa [mw,rel]using h
 | .bool _,_,h=>by simpa [mw,rel]using h
 | .str _,_,h=>by simpa [mw,rel]using h
 | .sh e l,_,h=>by simp only [mw,rel]at h⊢;exact iH ht h
 | .nil _,_,h=>by simpa [mw,rel]using h
 | .sel e x off,_,h=>by
   simp only [mw,rel]at h⊢
   obtain⟨b,o,ds,h1,h2,h3,h4⟩:=h
   refine⟨b,o,ds,h1,h2,fW ht e h3,fun j hj=> ?_⟩
   obtain⟨h5,h6⟩:=h4 j hj
   have:ds[j]? =some (ds[j]'(by omega)):=by simp [h2,hj]
   rw [this]at h5⊢
   exact⟨(ht _ _ _ h6 h5).2,(ht _ _ _ h6 h5).1⟩
 | .ref i ver,_,h=>by
   simp only [mw]
   split
   ·rename_i hc
    split
    ·rename_i n hn
     simp only [rel]at h⊢
     obtain⟨l,e,cur,z,xs,p,n',c,h1,h2,hp,h3⟩:=h
     obtain⟨e',z',xs',hg⟩:=lz hc
     obtain⟨l',hl⟩:=hs _ _ hg
     rw [h1]at hl
     simp only [Option.some.injEq,Prod.mk.injEq,Ob.arr.injEq]at hl
     obtain⟨rfl,rfl,rfl,rfl,_⟩:=hl
     have:=hS _ _ hn _ _ h1
     exact⟨l,e,_,z,xs,p,n',c,this,Nat.le_refl _,hp,fun _=>h3 rfl⟩
    ·simp [rel]
   ·simp [rel]
 | .ptr i off,_,h=>by
   simp only [mw]
   split
   ·rename_i n hn
    simp only [rel]at h⊢
    obtain⟨b,o,cap,cs,h1,h2⟩:=h
    exact⟨b,o,cap,_,hS _ _ hn _ _ h1,h2⟩
   ·simp [rel]
 | .eptr i ver k off,_,h=>by
   simp only [mw]
   split
   ·rename_i hc
    split
    ·rename_i n hn
     simp only [rel]at h⊢
     obtain⟨l,e,cur,z,xs,p,h1,h2,hp,h3⟩:=h
     obtain⟨e',z',xs',hg⟩:=lz hc
     obtain⟨l',hl⟩:=hs _ _ hg
     rw [h1]at hl
     simp only [Option.some.injEq,Prod.mk.injEq,Ob.arr.injEq]at hl
     obtain⟨rfl,rfl,rfl,rfl,_⟩:=hl
     exact⟨l,e,_,z,xs,p,hS _ _ hn _ _ h1,Nat.le_refl _,hp,fun _=>h3 rfl⟩
    ·simp [rel]
   ·simp [rel]
 | .nilp,_,h=>by simpa [mw,rel]using h
 | .fn f cap,_,h=>by
   simp only [mw,rel]at h⊢
   obtain⟨cs,h1,h2⟩:=h
   exact⟨cs,h1,dQ hs hS ht cap h2⟩
 | .nilfn,_,h=>by simpa [mw,rel]using h
 | .noerr,_,h=>by simpa [mw,rel]using h
 | .err,_,h=>by simpa [mw,rel]using h
 | .bz _,_,_=>by simp [mw,rel]
 | .mp i,_,h=>by
   simp only [mw]
   split
   ·rename_i n hn
    simp only [rel]at h⊢
    obtain⟨b,cap,kt,vt,ag,xs,h1,h2⟩:=h
    exact⟨b,cap,kt,vt,ag,xs,hS _ _ hn _ _ h1,h2⟩
   ·simp [rel]
 | .wref i e m c k,_,h=>by
   simp only [mw]
   split
   ·rename_i n hn
    simp only [rel]at h⊢
    obtain⟨b,o,cap,cs,h1,h2⟩:=h
    exact⟨b,o,cap,_,hS _ _ hn _ _ h1,h2⟩
   ·simp [rel]
 | .agg vs,_,h=>by
   simp only [mw,rel]at h⊢
   obtain⟨cs,h1,h2,h3⟩:=h
   exact⟨cs,h1,dQ hs hS ht vs h2,h3⟩
 | .tup vs,_,h=>by
   simp only [mw,rel]at h⊢
   obtain⟨cs,h1,h2⟩:=h
   exact⟨cs,h1,dQ hs hS ht vs h2⟩
theorem dQ {m:Nat} {ρ:List (Nat×Nat)} {objs:List (Nat×Ob)} {w':World} {M':Nat→Nat→Prop} (hs:Ad objs L) (hS:OQ m ρ objs L L') (ht:Tr w M w' M'): ∀(xs:List AV) {vs:List Value},aK L w M xs vs→aK L' w' M' (iD m ρ objs xs) vs
 | [],_,h=>by simpa [iD,aK]using h
 |x::xs,_,h=>by
  simp only [iD,aK]at h⊢
  obtain⟨c,cs',h1,h2,h3⟩:=h
  exact⟨c,cs',h1,Ch hs hS ht x h2,dQ hs hS ht xs h3⟩
end
theorem MV (m:Nat) (ρ:List (Nat×Nat)) (objs:List (Nat×Ob)) (n:Nat) (l:Loc) (x:Ob):ext (l,qY m ρ objs n x)=ext (l,x):=by
 have hl: ∀(cs:List AV),(iD m ρ objs cs).length=cs.length:=by
  intro cs;induction cs with
  |nil=>rfl
  |cons c cs ih=>simp [iD,ih]
 cases x with
 |var cs=>simp [qY,ext,hl]
 |arr e v z xs=>simp [qY,ext]
 |map kt vt ag xs=>simp [qY,ext]
theorem inR_mapO {m:Nat} {ρ:List (Nat×Nat)} {objs:List (Nat×Ob)} {n:Nat} {l:Loc} {x:Ob} {b o:Nat}:inR (l,qY m ρ objs n x) b o↔inR (l,x) b o:=by
 unfold inR;rw [MV]
 have:kH (qY m ρ objs n x)=kH x:=by cases x<;>rfl
 rw [this]
theorem gi (m:Nat) (ρ:List (Nat×Nat)) (objs:List (Nat×Ob)): ∀(cs:List AV),(iD m ρ objs cs).length=cs.length
 | []=>rfl
 |c::cs=>by simp [iD,gi m ρ objs cs]
theorem Ci {m:Nat} {ρ:List (Nat×Nat)} {objs:List (Nat×Ob)} {n:Nat} {l:Loc} {x:Ob} (hs:Ad objs L) (hS:OQ m ρ objs L L') (ht:Tr w (Mut L) w (Mut L')) (h:okO L w (l,x)):okO L' w (l,qY m ρ objs n x):=by
 cases x with
 |var cs=>
  obtain⟨b,o,vs,h1,h2,h3,h4,hbz⟩:=h
  refine⟨b,o,vs,h1,dQ hs hS ht cs h2,h3,fun j hj=>h4 j (by rwa [gi]at hj),fun t r e=> ?_⟩
  cases cs with
  |nil=>cases e
  |cons c cs=>
   have hc:c= .bz t:=by
    simp only [iD,List.cons.injEq]at e
    cases c<;>simp only [mw]at e<;>first|(cases e.1;rfl)|(split at e<;>first|(split at e<;>cases e.1)|cases e.1)|cases e.1
   subst hc
   obtain⟨g1,g2,g3⟩:=hbz t cs rfl
   exact⟨g1,by rw [gi];exact g2,g3⟩
 |map kt vt ag xs=>
  obtain⟨b,es,h1,h2,h3⟩:=h
  exact⟨b,es,h1,h2,Ents.mono (fun i x e=>tM ht) _ _ _ h3⟩
 |arr e v z xs=>
  rcases h with h|⟨b,o,h1,h2,h3,h4,h5,h6⟩
  ·exact .inl h
  ·refine .inr ⟨b,o,h1,h2,fun i hi=> ?_,h4,fun hz j hj=> ?_,h6⟩
   ·obtain⟨ds,h6,h7,h8⟩:=h3 i hi
    exact⟨ds,h6,fW (Mz.tr ht) e h7,h8⟩
   ·have hn:=h5 hz j hj
    have hes:0<e.size:=by
     rcases Nat.eq_zero_or_pos e.size with h|h
     ·rw [h]at hj;simp at hj
     ·exact h
    obtain⟨ds,h6,_,h8⟩:=h3 (j/e.size) (Nat.div_lt_of_lt_mul (by rw [Nat.mul_comm];exact hj))
    have h9:=h8 (j % e.size) (Nat.mod_lt _ hes)
    have e1:o+j/e.size*e.size+j % e.size=o+j:=by
     have:=Nat.div_add_mod j e.size
     rw [Nat.mul_comm]at this;omega
    rw [e1,List.getElem?_eq_getElem (by rw [h6];exact Nat.mod_lt _ hes)]at h9
    exact(ht _ _ _ hn h9).1
theorem Tr.sub {M M':Nat→Nat→Prop} (h: ∀b o,M' b o→M b o):Tr w M w M':=fun b o v hn hv=>⟨fun h'=>hn (h b o h'),hv⟩
theorem RelO.ren {m:Nat} {ρ:List (Nat×Nat)} {objs:List (Nat×Ob)} (h:RelO K w0 M0 L w) (hs:Ad objs L) (hS:OQ m ρ objs L L') (hF:L'.F=L.F)
 (hb: ∀n p',L' n=some p'→ ∃o l x,mv o ρ=some n∧L o=some (l,x)∧p'=(l,qY m ρ objs n x)) (hfun: ∀o n n',mv o ρ=some n→mv o ρ=some n'→n=n'):
 RelO K w0 M0 L' w∧Tr w (Mut L) w (Mut L'):=by
 have hmO: ∀b o,eq L' b o→eq L b o:=by
  rintro b o ⟨n,p',hp,hr⟩
  obtain⟨i,l,x,_,h2,rfl⟩:=hb n p' hp
  exact⟨i,_,h2,inR_mapO.1 hr⟩
 have ht:Tr w (Mut L) w (Mut L'):=Tr.sub fun b o hm=>hm.imp (fun hf=>by rw [hF]at hf;exact hf) (hmO b o)
 refine⟨⟨h.fr, ?_, ?_,fun b o hm=>h.own b o (hmO b o hm),hF.trans h.ff,h.fs,fun b o hm=>h.fo b o (hmO b o hm),h.g,h.gs,fun b o hm=>h.gb b o (hmO b o hm)⟩,ht⟩
 ·intro n p' hp
  obtain⟨i,l,x,h1,h2,rfl⟩:=hb n p' hp
  exact Ci hs hS ht (h.ok _ _ h2)
 ·intro n n' p q b o hp hq hr hr'
  obtain⟨i,l,x,h1,h2,rfl⟩:=hb n p hp
  obtain⟨j,l',x',h3,h4,rfl⟩:=hb n' q hq
  have:=h.sep i j _ _ b o h2 h4 (inR_mapO.1 hr) (inR_mapO.1 hr')
  subst this
  exact hfun _ _ _ h1 h3
def Kept (m:Nat) (L0 L:Lk):Prop:= ∀i,i<m→ ∀l x,L0 i=some (l,x)→ ∃l' x',L i=some (l',x')∧
 match x with
 | .var _=>l'=l∧ ∃cs',x'= .var cs'
 | .arr e _ _ xs=> ∃cur' z' xs',x'= .arr e cur' z' xs'∧(cur'=0→(l'.base=l.base∧l'.cap=l.cap)∧xs'.length=xs.length)
 | .map kt vt ag _=>l'=l∧ ∃xs',x'= .map kt vt ag xs'
theorem Kept.turn {m:Nat} {L0:Lk} (h:Kept m L0 L) (hT:Turn L L'):Kept m L0 L':=by
 intro i hi l x hx
 obtain⟨l',x',h1,h2⟩:=h i hi l x hx
 obtain⟨l'',x'',h3,h4⟩:=hT i l' x' h1
 refine⟨l'',x'',h3, ?_⟩
 cases x with
 |var cs=>
  obtain⟨rfl,cs',rfl⟩:=h2
  exact h4
 |map kt vt ag xs=>
  obtain⟨rfl,xs',rfl⟩:=h2
  exact h4
 |arr e v z xs=>
  obtain⟨cur',z',xs',rfl,h5⟩:=h2
  obtain⟨cur'',z'',xs'',rfl,h6,h7⟩:=h4
  refine⟨cur'',z'',xs'',rfl,fun h0=> ?_⟩
  obtain⟨h8,h9⟩:=h7 (by omega)
  obtain⟨h10,h11⟩:=h5 (by omega)
  exact⟨⟨h8.1.trans h10.1,h8.2.trans h10.2⟩,h9.trans h11⟩
theorem Kept.ren {m:Nat} {L0:Lk} {ρ:List (Nat×Nat)} {objs:List (Nat×Ob)} (h:Kept m L0 L) (hS:OQ m ρ objs L L') (hfix: ∀i,i<m→mv i ρ=some i):Kept m L0 L':=by
 intro i hi l x hx
 obtain⟨l',x',h1,h2⟩:=h i hi l x hx
 refine⟨l',_,hS i i (hfix i hi) _ _ h1, ?_⟩
 cases x with
 |var cs=>
  obtain⟨rfl,cs',rfl⟩:=h2
  exact⟨rfl,_,rfl⟩
 |map kt vt ag xs=>
  obtain⟨rfl,xs',rfl⟩:=h2
  exact⟨rfl,xs',rfl⟩
 |arr e v z xs=>
  obtain⟨cur',z',xs',rfl,h5⟩:=h2
  exact⟨_,z',xs',rfl,fun h0=>h5 (HV hi h0)⟩
theorem kM {ρ:List (Nat×Nat)}: ∀{m:Nat},Hz ρ m=true→ ∀i,i<m→mv i ρ=some i
 |0,_,i,hi=>by omega
 |m+1,h,i,hi=>by
  simp only [Hz,Bool.and_eq_true]at h
  by_cases he:i=m
  ·subst he
   obtain⟨h1,_⟩:=h
   split at h1
   ·rename_i k hk;simp only [decide_eq_true_eq]at h1;rw [hk,h1]
   ·cases h1
  ·exact kM h.2 i (by omega)
theorem hasN_spec {n:Nat}: ∀{l:List Nat},zV n l=true↔n∈l
 | []=>by simp [zV]
 |a::l=>by
  simp only [zV,List.mem_cons]
  by_cases h:a=n
  ·simp [h]
  ·simp only [h,if_false,hasN_spec (l:=l)]
   constructor
   ·exact .inr
   ·rintro(rfl|h')
    ·exact absurd rfl h
    ·exact h'
theorem gA: ∀{l:List Nat},E6 l=true→l.Nodup
 | [],_=>List.nodup_nil
 |a::l,h=>by
  simp only [E6,Bool.and_eq_true,Bool.not_eq_true']at h
  refine List.nodup_cons.2 ⟨fun hm=> ?_,gA h.2⟩
  rw [hasN_spec.2 hm]at h;exact absurd h.1 (by simp)
theorem Cj {o n:Nat}: ∀{ρ:List (Nat×Nat)},mv o ρ=some n→(o,n)∈ρ
 | [],h=>by simp [mv]at h
 |(a,k)::l,h=>by
  simp only [mv]at h
  split at h
  ·rename_i he;cases h;subst he;exact List.mem_cons_self ..
  ·exact List.mem_cons_of_mem _ (Cj h)
theorem Ck {o n:Nat}: ∀{ρ:List (Nat×Nat)},(ρ.map (·.1)).Nodup→(o,n)∈ρ→mv o ρ=some n
 | [],_,h=>by simp at h
 |(a,k)::l,hn,h=>by
  simp only [List.map_cons,List.nodup_cons]at hn
  simp only [mv]
  rcases List.mem_cons.1 h with h|h
  ·simp only [Prod.mk.injEq]at h;obtain⟨rfl,rfl⟩:=h;simp
  ·have:a≠o:=by intro e;subst e;exact hn.1 (List.mem_map.2 ⟨_,h,rfl⟩)
   rw [if_neg this];exact Ck hn.2 h
def iL (n:Nat):List (Nat×Nat)→Option Nat
 | []=>none
 |(o,k)::l=>if k=n then some o else iL n l
theorem nP {o n:Nat}: ∀{ρ:List (Nat×Nat)},iL n ρ=some o→(o,n)∈ρ
 | [],h=>by simp [iL]at h
 |(a,k)::l,h=>by
  simp only [iL]at h
  split at h
  ·rename_i he;cases h;subst he;exact List.mem_cons_self ..
  ·exact List.mem_cons_of_mem _ (nP h)
theorem nQ {m:Nat} {ρ:List (Nat×Nat)} {objs:List (Nat×Ob)}: ∀{l:List (Nat×Nat)} {acc r:List (Nat×Ob)},vM m ρ objs l acc=some r→
 (∀n,getO r n=match iL n l with|some o=>(getO objs o).map (qY m ρ objs n)|none=>getO acc n)∧(∀o n,(o,n)∈l→getO acc n=none∧iL n l=some o)
 | [],acc,r,h=>by simp only [vM,Option.some.injEq]at h;subst h;exact⟨fun n=>by simp [iL],fun o n h=>by simp at h⟩
 |(o,n)::l,acc,r,h=>by
  simp only [vM]at h
  split at h
  case h_2=>cases h
  rename_i x hx
  split at h
  case h_1=>cases h
  rename_i hacc
  obtain⟨h1,h2⟩:=nQ h
  have hnl: ∀o',(o',n) ∉ l:=fun o' hm=>by
   have:=(h2 o' n hm).1
   rw [aV]at this;simp at this
  refine⟨fun k=> ?_,fun o' n' hm=> ?_⟩
  ·rw [h1 k]
   simp only [iL]
   by_cases hk:n=k
   ·subst hk
    have hnone:iL n l=none:=by
     cases hf:iL n l with
     |none=>rfl
     |some o'=>exact absurd (nP hf) (hnl o')
    rw [hnone]
    simp [aV,hx]
   ·rw [if_neg hk]
    cases iL k l with
    |some o'=>rfl
    |none=>simp only [aV];rw [if_neg (fun e=>hk e.symm)]
  ·rcases List.mem_cons.1 hm with e|hm
   ·simp only [Prod.mk.injEq]at e;obtain⟨rfl,rfl⟩:=e
    exact⟨hacc,by simp [iL]⟩
   ·obtain⟨h3,h4⟩:=h2 o' n' hm
    have hne:n≠n':=by intro e;subst e;exact hnl _ hm
    rw [aV,if_neg (fun e=>hne e.symm)]at h3
    exact⟨h3,by simp only [iL];rw [if_neg hne];exact h4⟩
def lkR (m:Nat) (ρ:List (Nat×Nat)) (objs:List (Nat×Ob)) (L:Lk):Lk:=
 ⟨fun n=>match iL n ρ with|some o=>(L o).map fun p=>(p.1,qY m ρ objs n p.2)|none=>none,L.F⟩
theorem Rl.shows (R:Rl K w0 M0 L st a w):Ad st.objs L:=by
 intro i x h
 have:=R.ob i
 rw [h]at this
 cases hL:L i with
 |none=>rw [hL]at this;simp at this
 |some p=>rw [hL]at this;simp only [Option.map_some,Option.some.injEq]at this;exact⟨p.1,by rw [this]⟩
theorem HW {m:Nat} {ρ:List (Nat×Nat)} {st':St} (R:Rl K w0 M0 L st a w) (h:HA m ρ st=some st'):
 ∃L',Rl K w0 M0 L' st' a w∧ ∀L0,Kept m L0 L→Kept m L0 L':=by
 unfold HA at h
 split at h
 case h_2=>cases h
 rename_i hc
 simp only [Bool.and_eq_true]at hc
 split at h
 case h_2=>cases h
 rename_i objs hl
 cases h
 obtain⟨h1,h2⟩:=nQ hl
 have hnd:=gA hc.1
 have hS:OQ m ρ st.objs L (lkR m ρ st.objs L):=by
  intro o n hf l x hx
  have:=(h2 o n (Cj hf)).2
  simp only [lkR,this,hx,Option.map_some]
 obtain⟨q1,q2⟩:=R.ro.ren (L':=lkR m ρ st.objs L) (m:=m) (ρ:=ρ) R.shows hS rfl (fun n p' hp=>by
  simp only [lkR]at hp
  split at hp
  ·rename_i o hfo
   cases hLo:L o with
   |none=>rw [hLo]at hp;simp at hp
   |some p=>
    rw [hLo]at hp;simp only [Option.map_some,Option.some.injEq]at hp
    exact⟨o,p.1,p.2,Ck hnd (nP hfo),hLo,hp.symm⟩
  ·cases hp) (fun o n n' e1 e2=>by rw [e1]at e2;exact Option.some.inj e2)
 refine⟨_,⟨q1,fun n=> ?_,dQ R.shows hS q2 st.env R.env,R.df⟩,fun L0 hk=>hk.ren hS (kM hc.2)⟩
 rw [h1 n]
 simp only [lkR]
 cases iL n ρ with
 |none=>simp [getO]
 |some o=>simp only [R.ob o,Option.map_map];rfl
end Go.Proofs.YtihabpimbfmhhaaGreatDoor.Ev
namespace Go.Proofs.YtihabpimbfmhhaaGreatDoor.Ev
open Go Go.RowKit
set_option linter.unusedSimpArgs false
set_option linter.unusedVariables false
variable {K:Ctx} {w0:World} {M0:Bd} {L L':Lk} {st:St} {a:Act} {w:World} {o:Oper} {M:Nat→Nat→Prop}
def More (L L':Lk):Prop:= ∀k p,L k=some p→L' k=some p
theorem More.turn (h:More L L'):Turn L L':=by
 intro i l x hx
 obtain⟨l',x',h1,h2⟩:=Turn.refl L i l x hx
 exact⟨l',x',h _ _ h1,h2⟩
theorem vZ: ∀(s:List AV) {env:List AV} {vs:List Value},aK L w M env vs→aK L w M (OK s env) vs
 | [],env,vs,h=>by cases env<;>simpa [OK]using h
 |x::s,[],vs,h=>by simpa [OK]using h
 |x::s,y::env,vs,h=>by
  obtain⟨c,cs,rfl,h1,h2⟩:=aL h
  have ih:=vZ s h2
  cases x<;>simp only [OK,aK]<;>first|exact⟨c,cs,rfl,h1,ih⟩|exact⟨c,cs,rfl,by simp [rel],ih⟩
theorem jy (l:List Nat): ∀(i:Nat) {env:List AV} {vs:List Value},aK L w M env vs→aK L w M (only l i env) vs
 |i,[],vs,h=>by simpa [only]using h
 |i,y::env,vs,h=>by
  obtain⟨c,cs,rfl,h1,h2⟩:=aL h
  simp only [only,aK]
  refine⟨c,cs,rfl, ?_,jy l (i+1) h2⟩
  split
  ·exact h1
  ·simp [rel]
theorem Fk {b:Bool} {a:AV} {v:Value} (h:rel L w M a v):rel L w M (HB b a) v:=by
 unfold HB
 split
 ·simp only [rel]at h
  subst h
  simp only [rel,rd]
  exact⟨none,0,0,rfl,rfl,Nat.le_refl _,.inl trivial⟩
 ·exact h
theorem nR (l:List Nat): ∀(i:Nat) {env:List AV} {vs:List Value},aK L w M env vs→aK L w M (vN l i env) vs
 |i,[],vs,h=>by simpa [vN]using h
 |i,y::env,vs,h=>by
  obtain⟨c,cs,rfl,h1,h2⟩:=aL h
  simp only [vN,aK]
  exact⟨c,cs,rfl,Fk h1,nR l (i+1) h2⟩
theorem Fl (l:List Nat) (i:Nat) {env:List AV} {vs:List Value} (h:aK L w M env vs):aK L w M (P4 l i env) vs:=by
 unfold P4
 split
 ·exact h
 ·exact nR _ _ h
theorem HX {O:Opt} {b:Code} {env:List AV} {vs:List Value} (h:aK L w M env vs):aK L w M (P5 O b env) vs:=by
 unfold P5
 split
 ·exact Fl _ _ (jy _ _ h)
 ·exact h
theorem Qi {f:Nat→Nat} {t:Nat} {r:List AV}: ∀{cs:List AV} {i:Nat} {objs:List (Nat×Ob)},(nx f cs i objs).1= .bz t::r→ ∃r',cs= .bz t::r'
 | [],i,objs,e=>by simp [nx]at e
 |c::cs,i,objs,e=>by
  cases c with
  |nil y=>
   simp only [nx]at e
   split at e<;>simp at e
  |bz u=>simp only [nx,List.cons.injEq]at e;cases e.1;exact⟨cs,rfl⟩
  |_=>simp only [nx,List.cons.injEq]at e;cases e.1
theorem t_ (hK:K.Ok) (f:Nat→Nat): ∀(l:List AV) (i:Nat) (objs:List (Nat×Ob)) {L:Lk} {vs:List Value},RelO K w0 M0 L w→(∀k,getO objs k=(L k).map (·.2))→aK L w (Mut L) l vs→
 ∃L',RelO K w0 M0 L' w∧(∀k,getO (nx f l i objs).2 k=(L' k).map (·.2))∧More L L'∧Tr w (Mut L) w (Mut L')∧aK L' w (Mut L') (nx f l i objs).1 vs
 | [],i,objs,L,vs,h,ho,hr=>⟨L,h,by simpa [nx]using ho,fun _ _=>id,Tr.refl _ _,by simpa [nx]using hr⟩
 |x::l,i,objs,L,vs,h,ho,hr=>by
  obtain⟨c,cs,rfl,h1,h2⟩:=aL hr
  have gen: ∀y:AV,rel L w (Mut L) y c→(∃L',RelO K w0 M0 L' w∧(∀k,getO (nx f l (i+1) objs).2 k=(L' k).map (·.2))∧More L L'∧Tr w (Mut L) w (Mut L')∧aK L' w (Mut L') (y::(nx f l (i+1) objs).1) (c::cs)):=fun y hy=>by
   obtain⟨L',q1,q2,q3,q4,q5⟩:=t_ hK f l (i+1) objs h ho h2
   exact⟨L',q1,q2,q3,q4,by simp only [aK];exact⟨c,cs,rfl,im q3.turn q4 y hy,q5⟩⟩
  cases x with
  |nil e=>
   simp only [nx]
   split
   ·rename_i hn
    have hL:L (f i)=none:=by
     have:=ho (f i);rw [hn]at this
     cases hLi:L (f i)with
     |none=>rfl
     |some p=>rw [hLi]at this;simp at this
    obtain⟨q1,q2,q3⟩:=h.new hK hL (p:=(⟨none,0,[]⟩,.arr e 0 false [])) (w':=w) (Fr.refl w _) (fun _=>.inl ⟨rfl,rfl,rfl,rfl⟩) (fun b o' hr'=>by obtain⟨o0,e1,_,_⟩:=cg rfl hr';cases e1)
    have hmore:More L (upd L (f i) (⟨none,0,[]⟩,.arr e 0 false [])):=fun k p hk=>by
     have:k≠f i:=by intro e;subst e;rw [hL]at hk;cases hk
     rw [aG L _ this];exact hk
    have ho': ∀k,getO (putO objs (f i) (.arr e 0 false [])) k=((upd L (f i) (⟨none,0,[]⟩,.arr e 0 false [])) k).map (·.2):=fun k=>by
     rw [aV]
     by_cases hk:k=f i
     ·subst hk;simp [upd]
     ·rw [if_neg hk,aG L _ hk];exact ho k
    obtain⟨L',r1,r2,r3,r4,r5⟩:=t_ hK f l (i+1) _ q1 ho' (ci q3 q2 l h2)
    refine⟨L',r1,r2,fun k p hk=>r3 _ _ (hmore _ _ hk),q2.trans r4, ?_⟩
    simp only [aK]
    refine⟨c,cs,rfl, ?_,r5⟩
    have hc:=fi h1
    subst hc
    simp only [rel]
    exact⟨_,_,_,_,_,_,_,_,r3 _ _ (av _ _ _),Nat.le_refl _,rfl,fun _=>⟨rfl,rfl,rfl⟩⟩
   ·exact gen _ h1
  |_=>exact gen _ h1
theorem Ae (hK:K.Ok): ∀(l:List Nat) (objs:List (Nat×Ob)) {L:Lk},RelO K w0 M0 L w→(∀k,getO objs k=(L k).map (·.2))→
 ∃L',RelO K w0 M0 L' w∧(∀k,getO (Rh l objs) k=(L' k).map (·.2))∧Turn L L'∧Tr w (Mut L) w (Mut L')
 | [],objs,L,h,ho=>⟨L,h,by simpa [Rh]using ho,Turn.refl L,Tr.refl _ _⟩
 |n::l,objs,L,h,ho=>by
  simp only [Rh]
  split
  ·rename_i cs hcs
   have hn:=ho n
   rw [hcs]at hn
   cases hL:L n with
   |none=>rw [hL]at hn;simp at hn
   |some p=>
    rw [hL]at hn
    obtain⟨loc,x⟩:=p
    simp only [Option.map_some,Option.some.injEq]at hn
    subst hn
    obtain⟨b,o,vs,h1,h2,h3,h4,hbz⟩:=h.ok n _ hL
    obtain⟨L1,q1,q2,q3,q4,q5⟩:=t_ hK (fun j=>n+1+j) cs 0 objs h ho h2
    have hL1:=q3 _ _ hL
    have hlen:(nx (fun j=>n+1+j) cs 0 objs).1.length=cs.length:=by rw [←bp q5,bp h2]
    have hT:Turn L1 (upd L1 n (loc,.var (nx (fun j=>n+1+j) cs 0 objs).1)):=by
     intro j l y hj
     by_cases hji:j=n
     ·subst hji
      rw [hL1]at hj;cases hj
      exact⟨_,_,av _ _ _,rfl,_,rfl⟩
     ·obtain⟨l',x',h1,h2⟩:=Turn.refl L1 j l y hj
      exact⟨l',x',by rw [aG L1 _ hji];exact h1,h2⟩
    obtain⟨r1,r2⟩:=q1.put hK hL1 (p':=(loc,.var (nx (fun j=>n+1+j) cs 0 objs).1)) (w':=w) (Fr.refl w _) hT
     (fun ht=>⟨b,o,vs,h1,ci hT ht _ q5,h3,fun j hj=>h4 j (by rwa [hlen]at hj),fun t r e=>by
      obtain⟨r',er⟩:=Qi e
      obtain⟨g1,g2,g3⟩:=hbz t r' er
      exact⟨g1,by rw [hlen];exact g2,g3⟩⟩)
     (fun b o hr=>.inl (by obtain⟨x0,e1,e2,e3⟩:=q8 rfl hr;exact .inl ⟨x0,e1,e2,by simpa only [ext,hlen]using e3⟩))
    obtain⟨L',s1,s2,s3,s4⟩:=Ae hK l (putO (nx (fun j=>n+1+j) cs 0 objs).2 n (.var (nx (fun j=>n+1+j) cs 0 objs).1)) r1 (fun k=>by
     rw [aV]
     by_cases hk:k=n
     ·subst hk;simp [upd]
     ·rw [if_neg hk,aG L1 _ hk];exact q2 k)
    exact⟨L',s1,s2,(q3.turn.trans hT).trans s3,(q4.trans r2).trans s4⟩
  ·exact Ae hK l objs h ho
theorem RL (hK:K.Ok) (R:Rl K w0 M0 L st a w): ∃L',Rl K w0 M0 L' (pro st) a w∧Turn L L':=by
 obtain⟨L1,q1,q2,q3,q4,q5⟩:=t_ hK (fun i=>64* (i+1)) st.env 0 st.objs R.ro R.ob R.env
 obtain⟨L2,r1,r2,r3,r4⟩:=Ae hK ((nx (fun i=>64* (i+1)) st.env 0 st.objs).2.map (·.1)) _ q1 q2
 exact⟨L2,⟨r1,r2,ci r3 r4 _ q5,R.df⟩,q3.turn.trans r3⟩
theorem Af (hK:K.Ok) {m:Nat} {shape:List AV} {s:St} (R:Rl K w0 M0 L st a w) (h:OL m shape st=some s):
 ∃L',Rl K w0 M0 L' s a w∧ ∀L0,Kept m L0 L→Kept m L0 L':=by
 unfold OL at h
 simp only at h
 split at h
 case h_2=>cases h
 rename_i s1 hw
 cases h
 have R1:Rl K w0 M0 L ⟨OK shape st.env,st.objs⟩ a w:=⟨R.ro,R.ob,vZ shape R.env,R.df⟩
 obtain⟨L1,R2,hk⟩:=HW R1 hw
 obtain⟨L2,R3,hT⟩:=RL hK R2
 exact⟨L2,R3,fun L0 h0=>(hk L0 h0).turn hT⟩
end Go.Proofs.YtihabpimbfmhhaaGreatDoor.Ev
namespace Go.Proofs.YtihabpimbfmhhaaGreatDoor.Ev
open Go Go.RowKit
set_option linter.unusedSimpArgs false
set_option linter.unusedVariables false
variable {K:Ctx} {w0:World} {M0:Bd} {L L':Lk} {st:St} {a:Act} {w:World} {o:Oper} {M:Nat→Nat→Prop}
def Goes (P:Program) (fn:Nat) (args:Array Value) (w:World) (Post:Value→World→Prop):Prop:=
 Calls P fn args w (fun | .returned v,w'=>Post v w'|_,_=>False)∧(∃f c,P.funcs[fn]? =some f∧(f.name== "runtime.NumGoroutine")=false∧f.body=some c)∨
 ∃v w',(callFunc fn args).run P w= .ok (.value v) w'∧Post v w'
def Sound (K:Ctx) (fn:Nat) (φ:List AV→List Ob→Br):Prop:=
 ∀(args:List AV) (objs:List Ob) (res:AV) (objs':List Ob),(φ args objs).val=some (res,objs')→
 ∀(w:World) (L:Lk) (vs:List Value),RelO K w ⟨eq L,L.F⟩ L w→(∀i,objs[i]? =(L i).map (·.2))→aK L w (Mut L) args vs→
  Goes K.P fn vs.toArray w fun v w'=> ∃L',RelO K w ⟨eq L,L.F⟩ L' w'∧(∀i,objs'[i]? =(L' i).map (·.2))∧Kept objs.length L L'∧rel L' w' (Mut L') res v
theorem Cl {objs:List (Nat×Ob)} {o:Nat} {x:Ob} (h:getO objs o=some x):(o,x)∈objs:=by
 induction objs with
 |nil=>simp [getO]at h
 |cons p l ih=>
  obtain⟨k,y⟩:=p
  simp only [getO]at h
  split at h
  ·rename_i hk;cases h;subst hk;exact List.mem_cons_self ..
  ·exact List.mem_cons_of_mem _ (ih h)
theorem HY: ∀(f:Nat) (todo:List Nat) (acc:List (Nat×Ob)) {k:List (Nat×Ob)→Cmd} {t:List Ac} {r:Rz},(gat f todo acc k).ex st t=some r→(∀o x,(o,x)∈acc→getO st.objs o=some x)→
 ∃objs t',(k objs).ex st t'=some r∧ ∀o x,(o,x)∈objs→getO st.objs o=some x
 |f,[],acc,k,t,r,h,ha=>⟨acc,t,by cases f<;>simpa [gat]using h,ha⟩
 |0,o::todo,acc,k,t,r,h,ha=>(ab (by simpa [gat]using h)).elim
 |f+1,o::todo,acc,k,t,r,h,ha=>by
  simp only [gat]at h
  split at h
  ·exact HY f todo acc h ha
  ·obtain⟨x,h1,h2⟩:=br h
   refine HY f _ _ h2 fun o' x' hm=> ?_
   rcases List.mem_append.1 hm with hm|hm
   ·exact ha _ _ hm
   ·simp only [List.mem_singleton,Prod.mk.injEq]at hm
    obtain⟨rfl,rfl⟩:=hm;exact h1
theorem gj (m:Nat) (ρ:List (Nat×Nat)) (objs:List (Nat×Ob)): ∀(l:List (Nat×Ob)) (k i:Nat),(my m ρ objs k l)[i]? =(l[i]?).map fun p=>qY m ρ objs (k+i) p.2
 | [],k,i=>by simp [my]
 |(_,x)::l,k,0=>by simp [my]
 |(_,x)::l,k,i+1=>by
  simp only [my,List.getElem?_cons_succ]
  rw [gj m ρ objs l (k+1) i,show k+1+i=k+(i+1) by omega]
theorem v6 {o n:Nat}: ∀{os:List Nat} {k:Nat},mv o (jl k os)=some n→k≤n∧os[n-k]? =some o
 | [],k,h=>by simp [jl,mv]at h
 |a::os,k,h=>by
  simp only [jl,mv]at h
  split at h
  ·rename_i he;cases h;subst he;simp
  ·obtain⟨h1,h2⟩:=v6 h
   refine⟨by omega, ?_⟩
   rw [show n-k=(n-(k+1))+1 by omega];simpa using h2
theorem nS {o:Nat}: ∀{os:List Nat} {k i:Nat},os.Nodup→os[i]? =some o→mv o (jl k os)=some (k+i)
 | [],k,i,_,h=>by simp at h
 |a::os,k,0,_,h=>by simp at h;subst h;simp [jl,mv]
 |a::os,k,i+1,hn,h=>by
  simp only [List.getElem?_cons_succ]at h
  obtain⟨h1,h2⟩:=List.nodup_cons.1 hn
  have:a≠o:=by intro e;subst e;exact h1 (List.mem_of_getElem? h)
  simp only [jl,mv]
  rw [if_neg this,nS h2 h];congr 1;omega
def lkL (m:Nat) (ρ:List (Nat×Nat)) (objs:List (Nat×Ob)) (os:List Nat) (L:Lk) (F:Nat→Nat→Prop):Lk:=
 ⟨fun n=>match os[n]? with|some o=>(L o).map fun p=>(p.1,qY m ρ objs n p.2)|none=>none,F⟩
theorem jz {m:Nat} {ρ:List (Nat×Nat)} {objs:List (Nat×Ob)} {os:List Nat} {F:Nat→Nat→Prop} {n:Nat} {p:Loc×Ob} (h:lkL m ρ objs os L F n=some p):
 ∃o l x,os[n]? =some o∧L o=some (l,x)∧p=(l,qY m ρ objs n x):=by
 simp only [lkL]at h
 split at h
 ·rename_i o ho
  cases hL:L o with
  |none=>rw [hL]at h;simp at h
  |some q=>rw [hL]at h;simp only [Option.map_some,Option.some.injEq]at h;exact⟨o,q.1,q.2,ho,hL,h.symm⟩
 ·cases h
theorem jA {m:Nat} {objs:List (Nat×Ob)} {os:List Nat} {F:Nat→Nat→Prop}:OQ m (jl 0 os) objs L (lkL m (jl 0 os) objs os L F):=by
 intro o n hf l x hL
 obtain⟨_,h2⟩:=v6 hf
 simp only [Nat.sub_zero]at h2
 simp only [lkL,h2,hL,Option.map_some]
theorem RelO.enter (h:RelO K w0 M0 L w) {objs:List (Nat×Ob)} (ho: ∀o x,(o,x)∈objs→ ∃l,L o=some (l,x)) (hnd:(objs.map (·.1)).Nodup) (F:Nat→Nat→Prop)
 (hF: ∀b o,F b o→L.F b o∨ ∃i p,i ∉ objs.map (·.1)∧L i=some p∧inR p b o) {Lc:Lk} (hLc:Lc=lkL 0 (jl 0 (objs.map (·.1))) objs (objs.map (·.1)) L F):
 RelO K w ⟨eq Lc,Lc.F⟩ Lc w∧(∀i,(my 0 (jl 0 (objs.map (·.1))) objs 0 objs)[i]? =(Lc i).map (·.2))∧(∀b o,eq Lc b o↔ ∃i p,i∈objs.map (·.1)∧L i=some p∧inR p b o)∧(∀b o,Mut Lc b o→Mut L b o):=by
 subst hLc
 have hsh:Ad objs L:=fun i x hg=>ho i x (Cl hg)
 have hm1: ∀b o,eq (lkL 0 (jl 0 (objs.map (·.1))) objs (objs.map (·.1)) L F) b o→ ∃i p,i∈objs.map (·.1)∧L i=some p∧inR p b o:=by
  rintro b o ⟨n,p,hp,hr⟩
  obtain⟨i,l,x,h1,h2,rfl⟩:=jz hp
  exact⟨i,_,List.mem_of_getElem? h1,h2,inR_mapO.1 hr⟩
 have hm2: ∀b o,(∃i p,i∈objs.map (·.1)∧L i=some p∧inR p b o)→eq (lkL 0 (jl 0 (objs.map (·.1))) objs (objs.map (·.1)) L F) b o:=by
  rintro b o ⟨i,⟨l,x⟩,hi,hL,hr⟩
  obtain⟨n,hn,rfl⟩:=List.mem_iff_getElem.1 hi
  refine⟨n,(l,qY 0 (jl 0 (objs.map (·.1))) objs n x), ?_,inR_mapO.2 hr⟩
  simp only [lkL,List.getElem?_eq_getElem hn,hL,Option.map_some]
 have hmO: ∀b o,eq (lkL 0 (jl 0 (objs.map (·.1))) objs (objs.map (·.1)) L F) b o→eq L b o:=fun b o hm=>by
  obtain⟨i,p,_,h2,h3⟩:=hm1 b o hm;exact⟨i,p,h2,h3⟩
 have hmm: ∀b o,Mut (lkL 0 (jl 0 (objs.map (·.1))) objs (objs.map (·.1)) L F) b o→Mut L b o:=by
  rintro b o (hf|hm)
  ·rcases hF b o hf with h1|⟨i,p,_,h2,h3⟩
   ·exact .inl h1
   ·exact .inr ⟨i,p,h2,h3⟩
  ·exact .inr (hmO b o hm)
 have ht:=Tr.sub (w:=w) hmm
 refine⟨⟨Fr.refl w _, ?_, ?_,fun b o hm _=>hm,rfl, ?_, ?_,h.g,h.gs,fun b o hm=>h.gb b o (hmO b o hm)⟩,fun i=> ?_,fun b o=>⟨hm1 b o,hm2 b o⟩,hmm⟩
 ·intro n p hp
  obtain⟨i,l,x,h1,h2,rfl⟩:=jz hp
  exact Ci hsh jA ht (h.ok _ _ h2)
 ·intro n n' p q b o hp hq hr hr'
  obtain⟨i,l,x,h1,h2,rfl⟩:=jz hp
  obtain⟨j,l',x',h3,h4,rfl⟩:=jz hq
  have:=h.sep i j _ _ b o h2 h4 (inR_mapO.1 hr) (inR_mapO.1 hr')
  subst this
  obtain⟨hn,e1⟩:=List.getElem?_eq_some_iff.1 h1
  obtain⟨hn',e2⟩:=List.getElem?_eq_some_iff.1 h3
  exact(List.getElem_inj hnd).1 (e1.trans e2.symm)
 ·intro b o hf
  rcases hF b o hf with h1|⟨i,p,_,h2,h3⟩
  ·rw [h.ff]at h1;exact Nat.lt_of_lt_of_le (h.fs b o h1) h.fr.size
  ·exact ew (h.ok _ _ h2) h3
 ·intro b o hm hf
  obtain⟨i,p,hi,h2,h3⟩:=hm1 b o hm
  rcases hF b o hf with h1|⟨j,q,hj,h4,h5⟩
  ·rw [h.ff]at h1;exact h.fo b o ⟨i,p,h2,h3⟩ h1
  ·have:=h.sep i j p q b o h2 h4 h3 h5
   subst this;exact hj hi
 ·rw [gj]
  simp only [lkL,List.getElem?_map]
  cases hi:objs[i]? with
  |none=>simp
  |some p=>
   obtain⟨l,hl⟩:=ho p.1 p.2 (List.mem_of_getElem? hi)
   simp [hl]
def Out (L:Lk) (bs:List Nat) (M':Nat→Nat→Prop):Prop:= ∀b o,M' b o→Mut L b o∧ ∀i∈bs,∀p,L i=some p→ ¬inR p b o
theorem Out.tr {bs:List Nat} (h:Out L bs M):Tr w (Mut L) w M:=Tr.sub fun b o hm=>(h b o hm).1
theorem Cm (R:Rl K w0 M0 L st a w) {x:AV} {v:Value} (hv:rel L w (Mut L) x v) {bs:List Nat} {k:AV→List Nat→Cmd} {t:List Ac} {r:Rz} (h:(PX x bs k).ex st t=some r):
 ∃x' bs' t',(k x' bs').ex st t'=some r∧(∀i∈bs,i∈bs')∧(∀i∈bs',i∈bs∨ ∃e v z l,getO st.objs i=some (.arr e v z l))∧ ∀M',Out L bs' M'→rel L w M' x' v:=by
 have same: ∀{y:AV} {ts:List Ac},(k y bs).ex st ts=some r→rel L w (Mut L) y v→ ∃x' bs' t',(k x' bs').ex st t'=some r∧(∀i∈bs,i∈bs')∧(∀i∈bs',i∈bs∨ ∃e v z l,getO st.objs i=some (.arr e v z l))∧ ∀M',Out L bs' M'→rel L w M' x' v:=
  fun h hy=>⟨_,bs,_,h,fun _=>id,fun _=>.inl,fun M' ho=>im (Turn.refl L) ho.tr _ hy⟩
 cases x with
 |ref j ver=>
  obtain⟨z,h2,h3⟩:=br h
  cases z with
  |var _=>exact(ab h3).elim
  |map _ _ _ _=>exact(ab h3).elim
  |arr e v' z xs=>
   simp only at h3
   split at h3
   case isFalse=>exact(ab h3).elim
   rename_i hver
   refine⟨_,_,_,h3,fun i hi=>List.mem_cons_of_mem _ hi,fun i hi=> ?_,fun M' ho=> ?_⟩
   ·rcases List.mem_cons.1 hi with rfl|hi
    ·exact .inr ⟨_,_,_,_,h2⟩
    ·exact .inl hi
   ·simp only [rel]at hv
    obtain⟨l0,e',cur,z',xs',p,m,cc,h4,h5,h6,h7⟩:=hv
    have hob:=R.ob j
    rw [h2,h4]at hob
    simp only [Option.map_some,Option.some.injEq,Ob.arr.injEq]at hob
    obtain⟨rfl,rfl,rfl,hxs⟩:=hob
    have hxs:=eq_of_heq hxs
    subst hxs
    obtain⟨rfl,rfl,rfl⟩:=h7 hver
    simp only [rel,rd]
    rcases R.ro.ok j _ h4 with⟨h8,h9,h10⟩|⟨b,o0,h8,h9,h10,h11,h12,_⟩
    ·subst h9
     exact⟨_,_,_,by rw [h6],rfl,Nat.zero_le _,.inl rfl⟩
    ·replace h8:l0.base=some (b,o0):=h8
     refine⟨_,_,_,by rw [h6],rfl,h9,.inr ⟨b,o0,by simp [Loc.addr,h8],fun i hi=> ?_⟩⟩
     obtain⟨ds,k1,k2,k3⟩:=h10 i hi
     have hmz:Tr w (Mz L l0 z e) w M':=by
      cases hez:(z|| !e.hasSlice)with
      |true=>rw [f_ hez];exact ho.tr
      |false=>
       obtain⟨rfl,he⟩:z=false∧e.hasSlice=true:=by cases z<;>cases hh:e.hasSlice<;>simp_all
       rw [iJ he]
       exact fun b' o' v hn hv=>⟨fun hM=>(ho _ _ hM).2 j (List.mem_cons_self ..) _ h4 (.inr ⟨rfl,Classical.not_not.1 hn⟩),hv⟩
     refine⟨ds,k1,fW hmz e k2,fun q hq=>⟨k3 q hq,fun hM=> ?_⟩⟩
     obtain⟨o1,o2⟩:=ho _ _ hM
     have hlt:=bY hi hq
     cases z with
     |true=>exact h12 rfl _ hlt (by rw [←Nat.add_assoc];exact o1)
     |false=>
      refine o2 j (List.mem_cons_self ..) _ h4 (.inl ⟨o0,h8,by omega, ?_⟩)
      have:xs.length*e.size≤l0.cap*e.size:=Nat.mul_le_mul_right _ h9
      simp only [ext,Bool.false_eq_true,if_false];omega
 |nil e=>
  refine⟨_,bs,_,h,fun _=>id,fun _=>.inl,fun M' ho=> ?_⟩
  simp only [rel,rd]
  exact⟨none,0,0,by rw [fi hv],rfl,Nat.le_refl _,.inl trivial⟩
 |_=>exact same h hv
theorem Cn (R:Rl K w0 M0 L st a w): ∀(xs:List AV) {vs:List Value} (hv:aK L w (Mut L) xs vs) {bs:List Nat} {k:List AV→List Nat→Cmd} {t:List Ac} {r:Rz} (h:(Mv xs bs k).ex st t=some r),
 ∃xs' bs' t',(k xs' bs').ex st t'=some r∧(∀i∈bs,i∈bs')∧(∀i∈bs',i∈bs∨ ∃e v z l,getO st.objs i=some (.arr e v z l))∧ ∀M',Out L bs' M'→aK L w M' xs' vs
 | [],vs,hv,bs,k,t,r,h=>⟨[],bs,t,h,fun _=>id,fun _=>.inl,fun M' _=>by simpa [aK]using hv⟩
 |x::xs,vs,hv,bs,k,t,r,h=>by
  obtain⟨c,cs,rfl,h1,h2⟩:=aL hv
  simp only [Mv]at h
  obtain⟨x',bs1,t1,e1,e2,e3,e4⟩:=Cm R h1 h
  obtain⟨xs',bs2,t2,f1,f2,f3,f4⟩:=Cn R xs h2 e1
  refine⟨_,bs2,t2,f1,fun i hi=>f2 i (e2 i hi),fun i hi=> ?_,fun M' ho=> ?_⟩
  ·rcases f3 i hi with h|h
   ·exact e3 i h
   ·exact .inr h
  ·simp only [aK]
   exact⟨c,cs,rfl,e4 M' fun b o hm=>⟨(ho b o hm).1,fun i hi=>(ho b o hm).2 i (f2 i hi)⟩,f4 M' ho⟩
theorem Qj (R:Rl K w0 M0 L st a w) {x:AV} {v:Value} (hv:rel L w (Mut L) x v) {bs:List Nat} {k:AV→List Nat→Cmd} {t:List Ac} {r:Rz} (h:(TM x bs k).ex st t=some r):
 ∃x' bs' t',(k x' bs').ex st t'=some r∧(∀i∈bs,i∈bs')∧(∀i∈bs',i∈bs∨ ∃e v z l,getO st.objs i=some (.arr e v z l))∧ ∀M',Out L bs' M'→rel L w M' x' v:=by
 cases x with
 |agg vs=>
  simp only [TM]at h
  simp only [rel]at hv
  obtain⟨cs,rfl,h1,h2⟩:=hv
  obtain⟨xs',bs',t',e1,e2,e3,e4⟩:=Cn R vs h1 h
  exact⟨_,bs',t',e1,e2,e3,fun M' ho=>by simp only [rel];exact⟨cs,rfl,e4 M' ho,h2⟩⟩
 |_=>exact Cm R hv (by simpa only [TM]using h)
theorem rb (R:Rl K w0 M0 L st a w): ∀(xs:List AV) {vs:List Value} (hv:aK L w (Mut L) xs vs) {bs:List Nat} {k:List AV→List Nat→Cmd} {t:List Ac} {r:Rz} (h:(tI xs bs k).ex st t=some r),
 ∃xs' bs' t',(k xs' bs').ex st t'=some r∧(∀i∈bs,i∈bs')∧(∀i∈bs',i∈bs∨ ∃e v z l,getO st.objs i=some (.arr e v z l))∧ ∀M',Out L bs' M'→aK L w M' xs' vs
 | [],vs,hv,bs,k,t,r,h=>⟨[],bs,t,h,fun _=>id,fun _=>.inl,fun M' _=>by simpa [aK]using hv⟩
 |x::xs,vs,hv,bs,k,t,r,h=>by
  obtain⟨c,cs,rfl,h1,h2⟩:=aL hv
  simp only [tI]at h
  obtain⟨x',bs1,t1,e1,e2,e3,e4⟩:=Qj R h1 h
  obtain⟨xs',bs2,t2,f1,f2,f3,f4⟩:=rb R xs h2 e1
  refine⟨_,bs2,t2,f1,fun i hi=>f2 i (e2 i hi),fun i hi=> ?_,fun M' ho=> ?_⟩
  ·rcases f3 i hi with h|h
   ·exact e3 i h
   ·exact .inr h
  ·simp only [aK]
   exact⟨c,cs,rfl,e4 M' fun b o hm=>⟨(ho b o hm).1,fun i hi=>(ho b o hm).2 i (f2 i hi)⟩,f4 M' ho⟩
end Go.Proofs.YtihabpimbfmhhaaGreatDoor.Ev
namespace Go.Proofs.YtihabpimbfmhhaaGreatDoor.Ev
open Go Go.RowKit
set_option linter.unusedSimpArgs false
set_option linter.unusedVariables false
variable {K:Ctx} {w0:World} {M0:Bd} {L L':Lk} {st:St} {a:Act} {w:World} {o:Oper} {M M':Nat→Nat→Prop}
theorem nT: ∀(e:Ty) {x:Den e} {ds:List Value},e.hasSlice=false→rd w M e x ds→rd w M' e x ds
 | .int _,_,_,_,h=>h
 | .bool,_,_,_,h=>h
 | .str,_,_,_,h=>h
 | .slice _,_,_,he,_=>by simp [Ty.hasSlice]at he
 | .pair a b,_,_,he,h=>by
   simp only [Ty.hasSlice,Bool.or_eq_false_iff]at he
   obtain⟨c,d,h1,h2,h3⟩:=h
   exact⟨c,d,h1,nT a he.1 h2,nT b he.2 h3⟩
 | .unit,_,_,_,h=>h
def Ups (f g:Nat→Nat) (L L':Lk):Prop:= ∀q l x,L q=some (l,x)→L' (f q)=some (l,x.up f g q)
mutual
theorem OR {f g:Nat→Nat} (hU:Ups f g L L'): ∀(x:AV) {v:Value},(x.hasSh=false∨Tr w M w M')→rel L w M x v→rel L' w M' (x.up f g) v
 | .undef,_,_,_=>by simp [AV.up,rel]
 | .int _ _,_,_,h=>by simpa [AV.up,rel]using h
 | .bool _,_,_,h=>by simpa [AV.up,rel]using h
 | .str _,_,_,h=>by simpa [AV.up,rel]using h
 | .sh e l,_,hd,h=>by
   rcases hd with hd|ht
   ·simp [AV.hasSh]at hd
   ·simp only [AV.up,rel]at h⊢;exact iH ht h
 | .nil _,_,_,h=>by simpa [AV.up,rel]using h
 | .sel e x off,_,hd,h=>by
   rcases hd with hd|ht
   ·simp [AV.hasSh]at hd
   simp only [AV.up,rel]at h⊢
   obtain⟨b,o,ds,h1,h2,h3,h4⟩:=h
   refine⟨b,o,ds,h1,h2,fW ht e h3,fun j hj=> ?_⟩
   obtain⟨h5,h6⟩:=h4 j hj
   have:ds[j]? =some (ds[j]'(by omega)):=by simp [h2,hj]
   rw [this]at h5⊢
   exact⟨(ht _ _ _ h6 h5).2,(ht _ _ _ h6 h5).1⟩
 | .ref i ver,_,_,h=>by
   simp only [AV.up,rel]at h⊢
   obtain⟨l,e,cur,z,xs,p,n',c,h1,h2,hp,h3⟩:=h
   exact⟨l,e,_,z,xs,p,n',c,hU _ _ _ h1,by omega,hp,fun hv=>h3 (by omega)⟩
 | .ptr i off,_,_,h=>by
   simp only [AV.up,rel]at h⊢
   obtain⟨b,o,cap,cs,h1,h2⟩:=h
   exact⟨b,o,cap,_,hU _ _ _ h1,h2⟩
 | .eptr i ver k off,_,_,h=>by
   simp only [AV.up,rel]at h⊢
   obtain⟨l,e,cur,z,xs,p,h1,h2,hp,h3⟩:=h
   exact⟨l,e,_,z,xs,p,hU _ _ _ h1,by omega,hp,fun hv=>h3 (by omega)⟩
 | .nilp,_,_,h=>by simpa [AV.up,rel]using h
 | .fn f' cap,_,hd,h=>by
   simp only [AV.up,rel]at h⊢
   obtain⟨cs,h1,h2⟩:=h
   exact⟨cs,h1,nU hU cap (by simpa only [AV.hasSh]using hd) h2⟩
 | .nilfn,_,_,h=>by simpa [AV.up,rel]using h
 | .noerr,_,_,h=>by simpa [AV.up,rel]using h
 | .err,_,_,h=>by simpa [AV.up,rel]using h
 | .bz _,_,_,_=>by simp [AV.up,rel]
 | .mp i,_,_,h=>by
   simp only [AV.up,rel]at h⊢
   obtain⟨b,cap,kt,vt,ag,xs,h1,h2⟩:=h
   exact⟨b,cap,kt,vt,ag,xs,hU _ _ _ h1,h2⟩
 | .wref i e m c k,_,_,h=>by
   simp only [AV.up,rel]at h⊢
   obtain⟨b,o,cap,cs,h1,h2⟩:=h
   exact⟨b,o,cap,_,hU _ _ _ h1,h2⟩
 | .agg vs,_,hd,h=>by
   simp only [AV.up,rel]at h⊢
   obtain⟨cs,h1,h2,h3⟩:=h
   exact⟨cs,h1,nU hU vs (by simpa only [AV.hasSh]using hd) h2,h3⟩
 | .tup vs,_,hd,h=>by
   simp only [AV.up,rel]at h⊢
   obtain⟨cs,h1,h2⟩:=h
   exact⟨cs,h1,nU hU vs (by simpa only [AV.hasSh]using hd) h2⟩
theorem nU {f g:Nat→Nat} (hU:Ups f g L L'): ∀(xs:List AV) {vs:List Value},(AV.hasShs xs=false∨Tr w M w M')→aK L w M xs vs→aK L' w M' (AV.ups f g xs) vs
 | [],_,_,h=>by simpa [AV.ups,aK]using h
 |x::xs,_,hd,h=>by
  simp only [AV.ups,aK]at h⊢
  obtain⟨c,cs',h1,h2,h3⟩:=h
  have hd1:x.hasSh=false∨Tr w M w M':=hd.imp (fun h=>by simp only [AV.hasShs,Bool.or_eq_false_iff]at h;exact h.1) id
  have hd2:AV.hasShs xs=false∨Tr w M w M':=hd.imp (fun h=>by simp only [AV.hasShs,Bool.or_eq_false_iff]at h;exact h.2) id
  exact⟨c,cs',h1,OR hU x hd1 h2,nU hU xs hd2 h3⟩
end
theorem gB (f g:Nat→Nat): ∀(cs:List AV),(AV.ups f g cs).length=cs.length
 | []=>rfl
 |c::cs=>by simp [AV.ups,gB f g cs]
theorem RM (f g:Nat→Nat) (q:Nat) (l:Loc) (x:Ob):ext (l,x.up f g q)=ext (l,x):=by
 cases x with
 |var cs=>simp [Ob.up,ext,gB]
 |arr e v z xs=>simp [Ob.up,ext]
 |map kt vt ag xs=>simp [Ob.up,ext]
theorem inR_up {f g:Nat→Nat} {q:Nat} {l:Loc} {x:Ob} {b o:Nat}:inR (l,x.up f g q) b o↔inR (l,x) b o:=by
 unfold inR;rw [RM]
 have:kH (x.up f g q)=kH x:=by cases x<;>rfl
 rw [this]
theorem RN {f g:Nat→Nat} {q:Nat} {l:Loc} {x:Ob} (hU:Ups f g L L') (hd:x.hasSh=false∨Tr w (Mut L) w (Mut L')) (h:okO L w (l,x)):okO L' w (l,x.up f g q):=by
 cases x with
 |var cs=>
  obtain⟨b,o,vs,h1,h2,h3,h4,hbz⟩:=h
  refine⟨b,o,vs,h1,nU hU cs (by simpa only [Ob.hasSh]using hd) h2,h3,fun j hj=>h4 j (by rwa [gB]at hj),fun t r e=> ?_⟩
  cases cs with
  |nil=>cases e
  |cons c cs=>
   have hc:c= .bz t:=by
    simp only [AV.ups,List.cons.injEq]at e
    cases c<;>simp only [AV.up]at e<;>cases e.1;rfl
   subst hc
   obtain⟨g1,g2,g3⟩:=hbz t cs rfl
   exact⟨g1,by rw [gB];exact g2,g3⟩
 |map kt vt ag xs=>
  obtain⟨b,es,h1,h2,h3⟩:=h
  refine⟨b,es,h1,h2,Ents.mono (fun i x e hm=> ?_) _ _ _ h3⟩
  rcases hd with hd|ht
  ·simp only [Ob.hasSh,Bool.or_eq_false_iff]at hd
   obtain⟨h6,h7,ds,h8,h9⟩:=hm
   exact⟨h6,nT kt hd.1 h7,ds,nT vt hd.2 h8,h9⟩
  ·exact tM ht hm
 |arr e v z xs=>
  rcases h with h|⟨b,o,h1,h2,h3,h4,h5,h6⟩
  ·exact .inl h
  ·refine .inr ⟨b,o,h1,h2,fun i hi=> ?_,h4,fun hz j hj=> ?_,h6⟩
   ·obtain⟨ds,h6,h7,h8⟩:=h3 i hi
    refine⟨ds,h6, ?_,h8⟩
    rcases hd with hd|ht
    ·simp only [Ob.hasSh]at hd
     subst hd
     cases he:e.hasSlice with
     |true=>rw [iJ he]at h7⊢;exact h7
     |false=>exact nT e he h7
    ·exact fW (Mz.tr ht) e h7
   ·rcases hd with hd|ht
    ·simp only [Ob.hasSh]at hd
     rw [hd]at hz;cases hz
    have hn:=h5 hz j hj
    have hes:0<e.size:=by
     rcases Nat.eq_zero_or_pos e.size with h|h
     ·rw [h]at hj;simp at hj
     ·exact h
    obtain⟨ds,h6,_,h8⟩:=h3 (j/e.size) (Nat.div_lt_of_lt_mul (by rw [Nat.mul_comm];exact hj))
    have h9:=h8 (j % e.size) (Nat.mod_lt _ hes)
    have e1:o+j/e.size*e.size+j % e.size=o+j:=by
     have:=Nat.div_add_mod j e.size
     rw [Nat.mul_comm]at this;omega
    rw [e1,List.getElem?_eq_getElem (by rw [h6];exact Nat.mod_lt _ hes)]at h9
    exact(ht _ _ _ hn h9).1
def tgt (os:List Nat) (n q:Nat):Nat:=if q<os.length then os.getD q 0 else n+(q-os.length)
theorem Ag {f g:Nat→Nat}: ∀(l:List Ob) (j:Nat) (os:List Nat) (n:Nat) {c:Cmd} {st:St} {t:List Ac} {r:Rz},(PY f g j os n l c).ex st t=some r→os.length≤l.length→os.Nodup→
 ∃objs t',c.ex ⟨st.env,objs⟩ t'=some r∧(∀q x,l[q]? =some x→getO objs (tgt os n q)=some (x.up f g (j+q)))∧(∀i,(∀q,q<l.length→tgt os n q≠i)→getO objs i=getO st.objs i)∧
  (∀q,os.length≤q→q<l.length→getO st.objs (tgt os n q)=none)∧ ∀i∈os,∃y,getO st.objs i=some y
 | [],j,os,n,c,st,t,r,h,hl,hn=>by
   have:os=[]:=by simpa using hl
   subst this
   exact⟨st.objs,t,by simpa [PY]using h,fun q x hx=>by simp at hx,fun i _=>rfl,fun q _ hq=>by simp at hq,fun i hi=>by simp at hi⟩
 |x::l,j,o::os,n,c,st,t,r,h,hl,hn=>by
  simp only [PY]at h
  obtain⟨⟨y,hy⟩,h1⟩:=cj h
  obtain⟨hn1,hn2⟩:=List.nodup_cons.1 hn
  obtain⟨objs,t',e1,e2,e3,e4,e5⟩:=Ag l (j+1) os n h1 (by simpa using hl) hn2
  have htg: ∀q,tgt (o::os) n (q+1)=tgt os n q:=fun q=>by simp [tgt]
  have hne: ∀q,q<l.length→tgt os n q≠o:=fun q hq he=>by
   by_cases hqo:q<os.length
   ·simp only [tgt,if_pos hqo]at he
    have:os[q]'hqo=o:=by simpa [List.getD,hqo]using he
    exact hn1 (this▸List.getElem_mem _)
   ·have:=e4 q (by omega) hq
    rw [he]at this;simp [aV]at this
  refine⟨objs,t',e1,fun q z hz=> ?_,fun i hi=> ?_,fun q hq1 hq2=> ?_,fun i hi=> ?_⟩
  ·cases q with
   |zero=>
    simp only [List.getElem?_cons_zero,Option.some.injEq]at hz
    subst hz
    rw [show tgt (o::os) n 0=o by simp [tgt],e3 o hne]
    simp [aV]
   |succ q=>
    rw [htg,show j+(q+1)=j+1+q by omega]
    exact e2 q z (by simpa using hz)
  ·rw [e3 i fun q hq=>by rw [←htg];exact hi (q+1) (by simpa using hq)]
   rw [aV,if_neg]
   intro he;subst he
   exact hi 0 (by simp) (by simp [tgt])
  ·cases q with
   |zero=>simp at hq1
   |succ q=>
    have:=e4 q (by simpa using hq1) (by simpa using hq2)
    rw [htg]
    rw [aV]at this
    split at this
    ·cases this
    ·exact this
  ·rcases List.mem_cons.1 hi with rfl|hi
   ·exact⟨y,hy⟩
   ·obtain⟨y',hy'⟩:=e5 i hi
    rw [aV]at hy'
    split at hy'
    ·rename_i he;subst he;exact⟨y,hy⟩
    ·exact⟨y',hy'⟩
 |x::l,j,[],n,c,st,t,r,h,hl,hn=>by
  simp only [PY]at h
  obtain⟨hy,h1⟩:=cW h
  obtain⟨objs,t',e1,e2,e3,e4,e5⟩:=Ag l (j+1) [] (n+1) h1 (by simp) List.nodup_nil
  have htg: ∀q,tgt [] n (q+1)=tgt [] (n+1) q:=fun q=>by simp [tgt];omega
  have hne: ∀q,q<l.length→tgt [] (n+1) q≠n:=fun q hq he=>by simp [tgt]at he;omega
  refine⟨objs,t',e1,fun q z hz=> ?_,fun i hi=> ?_,fun q hq1 hq2=> ?_,fun i hi=>by simp at hi⟩
  ·cases q with
   |zero=>
    simp only [List.getElem?_cons_zero,Option.some.injEq]at hz
    subst hz
    rw [show tgt [] n 0=n by simp [tgt],e3 n hne]
    simp [aV]
   |succ q=>
    rw [htg,show j+(q+1)=j+1+q by omega]
    exact e2 q z (by simpa using hz)
  ·rw [e3 i fun q hq=>by rw [←htg];exact hi (q+1) (by simpa using hq)]
   rw [aV,if_neg]
   intro he;subst he
   exact hi 0 (by simp) (by simp [tgt])
  ·cases q with
   |zero=>rw [show tgt [] n 0=n by simp [tgt]];exact hy
   |succ q=>
    have:=e4 q (by simp) (by simpa using hq2)
    rw [htg]
    rw [aV]at this
    split at this
    ·cases this
    ·exact this
def Qk:Ob→Ob
 | .arr e v _ l=>.arr e v true l
 | .var cs=>.var cs
 | .map kt vt ag l=>.map kt vt ag l
theorem rc: ∀(bs:List Nat) {c:Cmd} {st:St} {t:List Ac} {r:Rz},(nv bs c).ex st t=some r→
 ∃objs t',c.ex ⟨st.env,objs⟩ t'=some r∧ ∀i,getO objs i=if i∈bs then(getO st.objs i).map Qk else getO st.objs i
 | [],c,st,t,r,h=>⟨st.objs,t,by simpa [nv]using h,fun i=>by simp⟩
 |o::bs,c,st,t,r,h=>by
  simp only [nv]at h
  obtain⟨y,hy,h1⟩:=br h
  cases y with
  |var _=>exact(ab h1).elim
  |map _ _ _ _=>exact(ab h1).elim
  |arr e v z l=>
   obtain⟨_,h2⟩:=cj h1
   obtain⟨objs,t',e1,e2⟩:=rc bs h2
   refine⟨objs,t',e1,fun i=> ?_⟩
   rw [e2 i,aV]
   by_cases hi:i=o
   ·subst hi
    by_cases hb:i∈bs<;>simp [hb,hy,Qk]
   ·by_cases hb:i∈bs<;>simp [hb,hi]
def lkF (bs:List Nat) (L:Lk):Lk:=⟨fun i=>open Classical in if i∈bs then(L i).map fun p=>(p.1,Qk p.2)else L i,L.F⟩
theorem RelO.freezeAll (hK:K.Ok): ∀(bs:List Nat) {L:Lk},RelO K w0 M0 L w→(∀i∈bs,∃l e v z xs,L i=some (l,.arr e v z xs))→
 RelO K w0 M0 (lkF bs L) w∧Tr w (Mut L) w (Mut (lkF bs L))∧Turn L (lkF bs L)
 | [],L,h,_=>by
   have:lkF [] L=L:=by cases L;simp [lkF]
   rw [this];exact⟨h,Tr.refl _ _,Turn.refl L⟩
 |o::bs,L,h,hb=>by
  obtain⟨l,e,v,z,xs,hL⟩:=hb o (List.mem_cons_self ..)
  obtain⟨q1,q2,q3⟩:=h.freeze hK hL
  obtain⟨r1,r2,r3⟩:=RelO.freezeAll hK bs q1 fun i hi=>by
   by_cases hio:i=o
   ·subst hio;exact⟨_,_,_,_,_,av _ _ _⟩
   ·rw [aG L _ hio];exact hb i (List.mem_cons_of_mem _ hi)
  have:lkF bs (upd L o (l,.arr e v true xs))=lkF (o::bs) L:=by
   simp only [lkF,upd]
   congr 1
   funext i
   by_cases hio:i=o
   ·subst hio
    by_cases hb:i∈bs<;>simp [hb,hL,Qk]
   ·by_cases hb:i∈bs<;>simp [hb,hio]
  rw [this]at r1 r2 r3
  exact⟨r1,q2.trans r2,q3.trans r3⟩
theorem HZ {bs:List Nat} {i:Nat} {p:Loc×Ob} {b o:Nat} (h:lkF bs L i=some p) (hr:inR p b o): ∃q,L i=some q∧inR q b o:=by
 simp only [lkF]at h
 split at h
 ·cases hL:L i with
  |none=>rw [hL]at h;simp at h
  |some q=>
   rw [hL]at h;simp only [Option.map_some,Option.some.injEq]at h
   subst h
   refine⟨q,rfl, ?_⟩
   obtain⟨l,x⟩:=q
   cases x with
   |var cs=>exact hr
   |map kt vt ag xs=>exact hr
   |arr e v z xs=>obtain⟨o0,e1,e2,e3⟩:=q8 rfl hr;simp [Qk,ext]at e3;omega
 ·exact⟨p,h,hr⟩
end Go.Proofs.YtihabpimbfmhhaaGreatDoor.Ev
namespace Go.Proofs.YtihabpimbfmhhaaGreatDoor.Ev
open Go Go.RowKit
set_option linter.unusedSimpArgs false
set_option linter.unusedVariables false
variable {K:Ctx} {w0:World} {M0:Bd} {L L':Lk} {st:St} {a:Act} {w:World} {o:Oper} {M M':Nat→Nat→Prop}
theorem Ah {k:AV→List Ob→Cmd} {t:List Ac} {r:Rz}: ∀{b:Br},(b.bind k).ex st t=some r→ ∃res os,b.val=some (res,os)∧(k res os).ex st t=some r
 | .ret res os,h=>⟨res,os,rfl,h⟩
 | .fail,h=>(ab h).elim
 | .ite true x y,h=>Ah (b:=x) (by simpa only [Br.bind,Cmd.ex]using h)
 | .ite false x y,h=>Ah (b:=y) (by simpa only [Br.bind,Cmd.ex]using h)
theorem Goes.wp {P:Program} {fn:Nat} {args:Array Value} {Post:Value→World→Prop} {next:Act→World→Prop} {Q:Exit→Act→World→Prop} (h:Goes P fn args w Post)
 (hrun:(execOp a.eval o).run P w=(callFunc fn args).run P w) (hn: ∀v w',Post v w'→next (a.put o.dst v) w'):o.wp P a w next Q:=by
 show o.upon P a next Q ((execOp a.eval o).run P w)
 rw [hrun]
 rcases h with⟨h,f,c,hf,hname,hb⟩|⟨v,w',hr,hp⟩
 ·have:(callFunc fn args).run P w= .ok (.enter fn args) w:=by
   have hname': ¬f.name= "runtime.NumGoroutine" :=by simpa using hname
   simp [callFunc,hf,hname',hb,Sem.run_bind]
  rw [this,Oper.upon_enter]
  refine Calls.mono h fun e w' he=> ?_
  cases e with
  |returned v=>exact hn v w' he
  |panicked c=>exact he.elim
  |outgrown=>exact he.elim
 ·rw [hr];exact hn v w' hp
theorem rf: ∀{l:List Ob},vJ l=false→ ∀x∈l,x.hasSh=false
 | [],_,x,hx=>by simp at hx
 |y::l,h,x,hx=>by
  simp only [vJ,Bool.or_eq_false_iff]at h
  rcases List.mem_cons.1 hx with rfl|hx
  ·exact h.1
  ·exact rf h.2 x hx
theorem v7 {os:List Nat}: ∀{bs:List Nat},TL os bs=true→ ∀i∈bs,i ∉ os
 | [],_,i,hi=>by simp at hi
 |b::bs,h,i,hi=>by
  simp only [TL,Bool.and_eq_true,Bool.not_eq_true']at h
  rcases List.mem_cons.1 hi with rfl|hi
  ·intro hm;rw [hasN_spec.2 hm]at h;exact absurd h.1 (by simp)
  ·exact v7 h.2 i hi
noncomputable def lkC (os:List Nat) (id n:Nat) (f g:Nat→Nat) (L1 Lc:Lk):Lk:=
 ⟨fun i=>open Classical in if h: ∃q,q<n∧tgt os id q=i then(Lc (Classical.choose h)).map fun p=>(p.1,p.2.up f g (Classical.choose h))else L1 i,L1.F⟩
theorem Co {C:cy} (hK:K.Ok) (hC: ∀fn,Sound K fn (C fn)) (R:Rl K w0 M0 L st a w) {id fn:Nat} {bs:List Nat} {args:List AV} {vs:List Value} (hargs: ∀M',Out L bs M'→aK L w M' args vs)
 (hbs: ∀i∈bs,∃e v z l,getO st.objs i=some (.arr e v z l)) {k:AV→Cmd} {t:List Ac} {r:Rz} (h:(Mw C id fn bs args k).ex st t=some r) (hrun:(execOp a.eval o).run K.P w=(callFunc fn vs.toArray).run K.P w):
 ∃v objs t',(k v).ex ⟨st.env,objs⟩ t'=some r∧Does K w0 M0 o a w L objs v:=by
 unfold Mw at h
 obtain⟨objs,t1,h1,hob⟩:=HY _ _ _ h (by simp)
 clear h
 simp only at h1
 split at h1
 case h_2=>exact(ab h1).elim
 rename_i hc
 simp only [Bool.and_eq_true]at hc
 obtain⟨hnd0,hdj⟩:=hc
 have hnd:=gA hnd0
 have hdis:=v7 hdj
 obtain⟨res,objs',hval,h2⟩:=Ah h1
 clear h1
 generalize hos:objs.map (·.1)=os at *
 split at h2
 case isFalse=>exact(ab h2).elim
 rename_i hlen
 generalize hf:(fun j=>if j<os.length then os.getD j 0 else id+(j-os.length))=f at *
 generalize hg:(fun j=>(objs.map fun p=>Mu p.2).getD j 0)=g at *
 have hft: ∀q,f q=tgt os id q:=fun q=>by rw [←hf];rfl
 -- what is laid back
 obtain⟨objs1,t2,h3,hA,hB,hNew,hOld⟩:=Ag _ _ _ _ h2 hlen hnd
 clear h2
 simp only [Nat.zero_add]at hA
 obtain⟨bs',hbs',hbe',objs2,t3,h4,hC2⟩: ∃bs':List Nat,(∀i∈bs',i∈bs)∧((res.hasSh||vJ objs')=true→bs'=bs)∧ ∃objs2 t3,(k (res.up f g)).ex ⟨st.env,objs2⟩ t3=some r∧ ∀i,getO objs2 i=if i∈bs' then(getO objs1 i).map Qk else getO objs1 i:=by
  split at h3
  ·obtain⟨o2,t3,e1,e2⟩:=rc bs h3;exact⟨bs,fun _ h=>h,fun _=>rfl,o2,t3,e1,e2⟩
  ·rename_i hs;refine⟨[],by simp,fun h=> ?_,objs1,t2,h3,fun i=>by simp⟩;rw [hs]at h;cases h
 clear h3
 refine⟨_,objs2,t3,h4, ?_⟩
 clear h4
 -- the objects at hand
 have hL: ∀i x,getO st.objs i=some x→ ∃l,L i=some (l,x):=R.shows
 have hLn: ∀i,getO st.objs i=none→L i=none:=fun i hi=>nF R hi
 have hbL: ∀i∈bs,∃l e v z xs,L i=some (l,.arr e v z xs):=fun i hi=>by
  obtain⟨e,v,z,l,h1⟩:=hbs i hi
  obtain⟨l',h2⟩:=hL _ _ h1
  exact⟨l',e,v,z,l,h2⟩
 obtain⟨f1,f2,f3⟩:=R.ro.freezeAll hK bs' fun i hi=>hbL i (hbs' i hi)
 -- what goes in
 let Fc:Nat→Nat→Prop:=fun b o=>L.F b o∨ ∃i p,i ∉ os∧i ∉ bs∧L i=some p∧inR p b o
 obtain⟨e1,e2,e3,e4⟩:=R.ro.enter (objs:=objs) (fun o x hm=>hL _ _ (hob _ _ hm)) (by rw [hos];exact hnd) Fc
  (fun b o hb=>hb.imp (fun h=>h) fun⟨i,p,h1,_,h2,h3⟩=>⟨i,p,by rw [hos];exact h1,h2,h3⟩) (Lc:=lkL 0 (jl 0 os) objs os L Fc) (by rw [hos])
 rw [hos]at e2 e3
 generalize hLc:lkL 0 (jl 0 os) objs os L Fc=Lc at *
 have hLcF:Lc.F=Fc:=by rw [←hLc];rfl
 have hout:Out L bs (Mut Lc):=fun b o hm=>⟨e4 b o hm,fun i hi p hp hr=>by
  rcases hm with hm|hm
  ·rw [hLcF]at hm
   rcases hm with hm|⟨j,q,j1,j2,j3,j4⟩
   ·rw [R.ro.ff]at hm;exact R.ro.fo b o ⟨i,p,hp,hr⟩ hm
   ·have:=R.ro.sep i j p q b o hp j3 hr j4
    subst this;exact j2 hi
  ·obtain⟨j,q,j1,j2,j3⟩:=(e3 b o).1 hm
   have:=R.ro.sep i j p q b o hp j2 hr j3
   subst this;exact hdis i hi j1⟩
 have hsees:OQ 0 (jl 0 os) objs L Lc:=by rw [←hLc];exact jA
 have hin:=dQ (m:=0) (fun i x hg=>hL i x (hob _ _ (Cl hg))) hsees (Tr.refl w (Mut Lc)) args (hargs _ hout)
 have hgo:=hC fn _ _ res objs' hval w Lc vs e1 e2 hin
 have hlenc:(my 0 (jl 0 os) objs 0 objs).length=os.length:=by
  rw [←hos,List.length_map]
  apply Nat.le_antisymm
  ·refine Nat.le_of_not_lt fun hlt=> ?_
   have:=gj 0 (jl 0 (objs.map (·.1))) objs objs 0 objs.length
   rw [List.getElem?_eq_getElem hlt,List.getElem?_eq_none (Nat.le_refl _)]at this
   simp at this
  ·refine Nat.le_of_not_lt fun hlt=> ?_
   have:=gj 0 (jl 0 (objs.map (·.1))) objs objs 0 (my 0 (jl 0 (objs.map (·.1))) objs 0 objs).length
   rw [List.getElem?_eq_none (Nat.le_refl _),List.getElem?_eq_getElem hlt]at this
   simp at this
 -- places
 have hinj: ∀q q',q<objs'.length→q'<objs'.length→tgt os id q=tgt os id q'→q=q':=by
  intro q q' hq hq' he
  by_cases h1:q<os.length
  ·by_cases h2:q'<os.length
   ·simp only [tgt,if_pos h1,if_pos h2]at he
    have e1:os[q]=os[q']:=by simpa [List.getD,h1,h2]using he
    exact(List.getElem_inj hnd).1 e1
   ·have:=hNew q' (by omega) hq'
    rw [←he]at this
    obtain⟨y,hy⟩:=hOld (tgt os id q) (by simp only [tgt,if_pos h1];simp [List.getD,h1])
    rw [this]at hy;cases hy
  ·by_cases h2:q'<os.length
   ·have:=hNew q (by omega) hq
    rw [he]at this
    obtain⟨y,hy⟩:=hOld (tgt os id q') (by simp only [tgt,if_pos h2];simp [List.getD,h2])
    rw [this]at hy;cases hy
   ·simp only [tgt,if_neg h1,if_neg h2]at he;omega
 have hosD: ∀i∈os,∃q,q<os.length∧tgt os id q=i:=fun i hi=>by
  obtain⟨q,hq,rfl⟩:=List.mem_iff_getElem.1 hi
  exact⟨q,hq,by simp [tgt,hq,List.getD]⟩
 have hDbs: ∀q,q<objs'.length→tgt os id q ∉ bs:=fun q hq hb=>by
  by_cases h1:q<os.length
  ·exact hdis _ hb (by simp only [tgt,if_pos h1];simp [List.getD,h1])
  ·obtain⟨e,v,z,l,h2⟩:=hbs _ hb
   rw [hNew q (by omega) hq]at h2;cases h2
 intro next Q hnext
 refine hgo.wp hrun fun v w' ⟨Lc',g1,g2,g3,g4⟩=> ?_
 have hl1: ∀i,i ∉ bs'→lkF bs' L i=L i:=fun i hi=>by simp [lkF,hi]
 have hat: ∀q,q<objs'.length→lkC os id objs'.length f g (lkF bs' L) Lc' (tgt os id q)=(Lc' q).map fun p=>(p.1,p.2.up f g q):=fun q hq=>by
  have hex: ∃q',q'<objs'.length∧tgt os id q'=tgt os id q:=⟨q,hq,rfl⟩
  have hch:=Classical.choose_spec hex
  have:=hinj _ _ hch.1 hq hch.2
  simp only [lkC]
  rw [dif_pos hex,this]
 have hoff: ∀i,(∀q,q<objs'.length→tgt os id q≠i)→lkC os id objs'.length f g (lkF bs' L) Lc' i=lkF bs' L i:=fun i hi=>by
  simp only [lkC]
  rw [dif_neg]
  rintro⟨q,h1,h2⟩
  exact hi q h1 h2
 have hlast: ∀q p,Lc' q=some p→q<objs'.length:=fun q p hp=>by
  have:=g2 q
  rw [hp]at this
  exact(List.getElem?_eq_some_iff.1 this).1
 have hU:Ups f g Lc' (lkC os id objs'.length f g (lkF bs' L) Lc'):=fun q l x hq=>by
  rw [hft,hat q (hlast q _ hq),hq];rfl
 have hT:Turn (lkF bs' L) (lkC os id objs'.length f g (lkF bs' L) Lc'):=by
  intro i l x hi
  by_cases hD: ∃q,q<objs'.length∧tgt os id q=i
  ·obtain⟨q,hq,rfl⟩:=hD
   have hqb:tgt os id q ∉ bs':=fun hb=>hDbs q hq (hbs' _ hb)
   rw [hl1 _ hqb]at hi
   have hqo:q<os.length:=by
    refine Nat.lt_of_not_le fun hle=> ?_
    rw [hLn _ (hNew q hle hq)]at hi;cases hi
   have hqo':q<objs.length:=by rw [←hos]at hqo;simpa using hqo
   have hobq:objs[q]? =some (objs[q]):=List.getElem?_eq_getElem hqo'
   have hfst:os[q]? =some (tgt os id q):=by simp [tgt,hqo,List.getD]
   have hfst':objs[q].1=tgt os id q:=by
    rw [←hos]at hfst
    simp only [List.getElem?_map,hobq,Option.map_some,Option.some.injEq]at hfst
    rw [hfst,hos]
   obtain⟨l0,hl0⟩:=hL _ _ (hob objs[q].1 objs[q].2 (List.mem_of_getElem? hobq))
   rw [hfst',hi]at hl0
   simp only [Option.some.injEq,Prod.mk.injEq]at hl0
   obtain⟨rfl,hx⟩:=hl0
   have hlc:=hsees _ _ (nS (k:=0) hnd hfst) _ _ hi
   rw [Nat.zero_add]at hlc
   obtain⟨l',x',k1,k2⟩:=g3 q (by rw [hlenc];exact hqo) _ _ hlc
   refine⟨l',x'.up f g q,by rw [hat q hq,k1];rfl, ?_⟩
   have hgq:g q=Mu x:=by rw [←hg];simp [List.getD,hobq,hx]
   cases x with
   |var cs=>
    simp only [qY]at k2
    obtain⟨rfl,cs',rfl⟩:=k2
    exact⟨rfl,_,rfl⟩
   |map kt vt ag xs=>
    simp only [qY]at k2
    obtain⟨rfl,xs',rfl⟩:=k2
    exact⟨rfl,_,rfl⟩
   |arr e v z xs=>
    simp only [qY]at k2
    obtain⟨cur',z',xs',rfl,k3⟩:=k2
    simp only [Mu]at hgq
    exact⟨_,z',xs',rfl,by omega,fun hv=>k3 (by omega)⟩
  ·obtain⟨l',x',k1,k2⟩:=Turn.refl (lkF bs' L) i l x hi
   exact⟨l',x',by rw [hoff i fun q hq he=>hD ⟨q,hq,he⟩];exact k1,k2⟩
 have hmut:(res.hasSh||vJ objs')=true→ ∀b o,Mut (lkC os id objs'.length f g (lkF bs' L) Lc') b o→Mut Lc' b o:=by
  intro hs b o hm
  have hbe:bs'=bs:=hbe' hs
  rcases hm with hm|⟨i,p,hp,hr⟩
  ·refine .inl ?_
   have:=g1.ff
   rw [this]
   show Lc.F b o
   rw [hLcF]
   exact .inl hm
  ·by_cases hD: ∃q,q<objs'.length∧tgt os id q=i
   ·obtain⟨q,hq,rfl⟩:=hD
    rw [hat q hq]at hp
    cases hcq:Lc' q with
    |none=>rw [hcq]at hp;cases hp
    |some y=>
     rw [hcq]at hp;simp only [Option.map_some,Option.some.injEq]at hp
     subst hp
     exact .inr ⟨q,y,hcq,inR_up.1 hr⟩
   ·rw [hoff i fun q hq he=>hD ⟨q,hq,he⟩]at hp
    refine .inl ?_
    rw [g1.ff]
    show Lc.F b o
    rw [hLcF]
    have hio:i ∉ os:=fun hm=>by
     obtain⟨q,h1,h2⟩:=hosD i hm
     exact hD ⟨q,by omega,h2⟩
    by_cases hib:i∈bs
    ·exfalso
     obtain⟨l,e,v,z,xs,hl⟩:=hbL i hib
     rw [hbe]at hp
     simp only [lkF,hib,if_true,hl,Option.map_some,Option.some.injEq]at hp
     subst hp
     obtain⟨o0,q1,q2,q3⟩:=q8 rfl hr
     simp [Qk,ext]at q3;omega
    ·obtain⟨q,hq,hrq⟩:=HZ hp hr
     exact .inr ⟨i,q,hio,hib,hq,hrq⟩
 have hdy: ∀x:Ob,x∈objs'→x.hasSh=false∨Tr w' (Mut Lc') w' (Mut (lkC os id objs'.length f g (lkF bs' L) Lc')):=fun x hx=>by
  by_cases hs:(res.hasSh||vJ objs')=true
  ·exact .inr (Tr.sub (hmut hs))
  ·simp only [Bool.not_eq_true,Bool.or_eq_false_iff]at hs
   exact .inl (rf hs.2 x hx)
 have hdr:res.hasSh=false∨Tr w' (Mut Lc') w' (Mut (lkC os id objs'.length f g (lkF bs' L) Lc')):=by
  by_cases hs:(res.hasSh||vJ objs')=true
  ·exact .inr (Tr.sub (hmut hs))
  ·simp only [Bool.not_eq_true,Bool.or_eq_false_iff]at hs
   exact .inl hs.1
 obtain⟨r1,r2⟩:=f1.chg hK (L':=lkC os id objs'.length f g (lkF bs' L) Lc') (w':=w') (N:=eq Lc) (fun i=> ∃q,q<objs'.length∧tgt os id q=i) g1.fr
  (fun b o hm=>by
   obtain⟨i,p,h1,h2,h3⟩:=(e3 b o).1 hm
   exact⟨i,p,by rw [hl1 i fun hb=>hdis i (hbs' i hb) h1];exact h2,h3⟩) rfl hT
  (fun i p hp hD=>by
   rw [hoff i fun q hq he=>hD ⟨q,hq,he⟩]at hp
   refine⟨hp,fun b o hr hm=> ?_⟩
   obtain⟨j,q,h1,h2,h3⟩:=(e3 b o).1 hm
   obtain⟨p',hp',hr'⟩:=HZ hp hr
   have:=R.ro.sep i j p' q b o hp' h2 hr' h3
   subst this
   obtain⟨q',h4,h5⟩:=hosD _ h1
   exact hD ⟨q',by omega,h5⟩)
  (fun i p hp hD=>by
   obtain⟨q,hq,rfl⟩:=hD
   rw [hat q hq]at hp
   cases hcq:Lc' q with
   |none=>rw [hcq]at hp;cases hp
   |some y=>
    rw [hcq]at hp;simp only [Option.map_some,Option.some.injEq]at hp
    subst hp
    obtain⟨l,x⟩:=y
    have hx:x∈objs':=by
     have:=g2 q
     rw [hcq]at this
     exact List.mem_of_getElem? this
    refine⟨fun _=>RN hU (hdy x hx) (g1.ok q _ hcq),fun b o hr=> ?_⟩
    by_cases hb:b<w.heap.size
    ·exact .inl (g1.own b o ⟨q,_,hcq,inR_up.1 hr⟩ hb)
    ·exact .inr (by omega))
  (fun i j p p' b o hp hp' hD hD' hr hr'=>by
   obtain⟨q,hq,rfl⟩:=hD
   obtain⟨q',hq',rfl⟩:=hD'
   rw [hat q hq]at hp
   rw [hat q' hq']at hp'
   cases hcq:Lc' q with
   |none=>rw [hcq]at hp;cases hp
   |some y=>
    cases hcq':Lc' q' with
    |none=>rw [hcq']at hp';cases hp'
    |some y'=>
     rw [hcq]at hp;simp only [Option.map_some,Option.some.injEq]at hp
     rw [hcq']at hp';simp only [Option.map_some,Option.some.injEq]at hp'
     subst hp;subst hp'
     rw [g1.sep q q' y y' b o hcq hcq' (inR_up.1 hr) (inR_up.1 hr')])
 refine hnext (lkC os id objs'.length f g (lkF bs' L) Lc') w' v r1 (fun i=> ?_) (f3.trans hT) (f2.trans r2) (OR hU res hdr g4)
 by_cases hD: ∃q,q<objs'.length∧tgt os id q=i
 ·obtain⟨q,hq,rfl⟩:=hD
  rw [hC2,if_neg (fun hb=>hDbs q hq (hbs' _ hb)),hA q _ (List.getElem?_eq_getElem hq),hat q hq]
  have:=g2 q
  rw [List.getElem?_eq_getElem hq]at this
  cases hcq:Lc' q with
  |none=>rw [hcq]at this;cases this
  |some y=>
   rw [hcq]at this
   simp only [Option.map_some,Option.some.injEq]at this⊢
   rw [this]
 ·have hD': ∀q,q<objs'.length→tgt os id q≠i:=fun q hq he=>hD ⟨q,hq,he⟩
  rw [hoff i hD',hC2,hB i hD']
  have hob':=R.ob i
  rw [hob']
  simp only [lkF]
  by_cases hb:i∈bs'
  ·simp only [hb,if_true,Option.map_map]
   cases L i<;>rfl
  ·simp only [hb,if_false]
theorem Ql {C:cy} {O:Opt} (hK:K.Ok) (hC: ∀fn,Sound K fn (C fn)) {c:Call} {f:Operand} (h:o.op= .call c) (hf:c.callee= .value f):ic K C O o:=by
 intro w0 M0 L st a w d k t r R he
 rw [h]at he
 simp only [op1,hf]at he
 obtain⟨v,t1,he1,hv⟩:=a7 R he
 cases v<;>try exact(ab he1).elim
 rename_i fn cap
 obtain⟨vs,t2,he2,hvs⟩:=ga R he1
 simp only [rel]at hv
 obtain⟨cs,hv1,hv2⟩:=hv
 have hall:=fg hvs hv2
 have hrun:(execOp a.eval o).run K.P w=(callFunc fn (c.args.toList.map a.eval++cs.toList).toArray).run K.P w:=by
  have e1:c.args.map a.eval++cs=(c.args.toList.map a.eval++cs.toList).toArray:=by apply Array.ext';simp
  simp [execOp,h,resolve,hf,hv1,Deferred.ofValue,invoke,e1]
 unfold Rp at he2
 split at he2
 ·exact Co hK hC R (fun M' ho=>ci (Turn.refl L) ho.tr _ hall) (by simp) he2 hrun
 ·obtain⟨xs',bs',t',e1,e2,e3,e4⟩:=rb R _ hall he2
  exact Co hK hC R e4 (fun i hi=>(e3 i hi).elim (by simp) id) e1 hrun
end Go.Proofs.YtihabpimbfmhhaaGreatDoor.Ev
