/- The texts Ev31, Ev22, Ev23, Ev24, one behind the other. -/
import Derived.Test.YtihabpimbfmhhaaGreatDoorK8
import Derived.MapKept
namespace Go.Proofs.YtihabpimbfmhhaaGreatDoor.Ev
open Go Go.RowKit
set_option linter.unusedSimpArgs false
set_option linter.unusedVariables false
variable {K:Ctx} {w0:World} {M0:Bd} {L L':Lk} {st:St} {a:Act} {w:World} {o:Oper} {M:Nat→Nat→Prop}
def Ri (kt:Ty) (d:TypeDesc):Prop:=(∃k,kt= .int k∧d= .int k)∨(kt= .str∧d= .string)
theorem H0 {kt:Ty} {d:TypeDesc} (hk:Ri kt d) {x:Den kt} {u:Value} (h:rd w M kt x [u]):MapKept.IsKey d u:=by
 rcases hk with⟨k,rfl,rfl⟩|⟨rfl,rfl⟩
 ·cases h;simp [MapKept.IsKey]
 ·cases h;simp [MapKept.IsKey]
theorem MW {kt:Ty} {d:TypeDesc} (hk:Ri kt d) {x y:Den kt} {u v:Value} (h:rd w M kt x [u]) (h':rd w M kt y [v]):Instr.sameNow d u v=some (keq kt x y)∧(keq kt x y=true→u=v):=by
 rcases hk with⟨k,rfl,rfl⟩|⟨rfl,rfl⟩
 ·cases h;cases h'
  simp only [Instr.sameNow,if_true,keq]
  exact⟨rfl,fun h=>by rw [of_decide_eq_true h]⟩
 ·cases h;cases h'
  simp only [Instr.sameNow,keq]
  have key:((⟨List.toArray x⟩:ByteArray)==⟨List.toArray y⟩)=decide (x=y):=by
   rw [Bool.eq_iff_iff,MapKept.bytes_beq,decide_eq_true_eq]
   simp
  refine⟨by rw [key],fun h=>by rw [of_decide_eq_true h]⟩
theorem jB {kt vt:Ty} {ag:Bool} {d:TypeDesc} (hk:Ri kt d) {key:Den kt} {kv:Value} (hkv:rd w M kt key [kv]):
 ∀{i:Nat} (j:Nat) {xs:List (Den kt×Den vt)} {es:List MapEntry},Ents w M kt vt ag i xs es→
 (E8 key xs=false∧qx key xs=xs.length∧Instr.findNow d kv es j=some none)∨
 (E8 key xs=true∧qx key xs<xs.length∧ ∃e,es[qx key xs]? =some e∧Instr.findNow d kv es j=some (some (j+qx key xs,e.val))∧e.key=kv∧MG w M kt vt ag (i+qx key xs) (key,MA key xs) e)
 |i,j,[],es,h=>by
  rw [show es=[]from h]
  exact .inl ⟨rfl,rfl,rfl⟩
 |i,j,(x,y)::xs,es,h=>by
  obtain⟨e,es',rfl,h1,h2⟩:=h
  obtain⟨h3,h4,h5⟩:=id h1
  obtain⟨s1,s2⟩:=MW hk hkv h4
  simp only [E8,qx,MA,Instr.findNow,s1]
  cases hq:keq kt key x with
  |true=>
   simp only [cond_true]
   have hkey:=s2 hq
   refine .inr ⟨trivial,by simp,e,rfl,rfl,hkey.symm,h3, ?_,h5⟩
   rw [←hkey];exact hkv
  |false=>
   simp only [cond_false]
   rcases jB hk hkv (j+1) h2 with⟨q1,q0,q2⟩|⟨q1,q0,e',q2,q3,q4,q5⟩
   ·exact .inl ⟨q1,by simp [q0],q2⟩
   ·refine .inr ⟨q1,by simp [q0],e',by simpa using q2,by rw [q3];congr 3;omega,q4, ?_⟩
    rw [show i+(qx key xs+1)=i+1+qx key xs by omega];exact q5
theorem ua {kt vt:Ty} {ag:Bool} {d:TypeDesc} (hk:Ri kt d) {key:Den kt} {v:Den vt} {f:MapEntry→MapEntry}:
 ∀{i:Nat} {xs:List (Den kt×Den vt)} {es:List MapEntry},Ents w M kt vt ag i xs es→E8 key xs=true→
 (∀e,es[qx key xs]? =some e→e.born=i+qx key xs→MG w M kt vt ag (i+qx key xs) (key,v) (f e))→
 Ents w M kt vt ag i (MB key v xs) (es.modify (qx key xs) f)∧(MB key v xs).length=xs.length
 |i,[],es,h,hh,_=>by simp [E8]at hh
 |i,(x,y)::xs,es,h,hh,hf=>by
  obtain⟨e,es',rfl,h1,h2⟩:=h
  simp only [E8,qx,MB]at hh hf⊢
  cases hq:keq kt key x with
  |true=>
   simp only [hq,cond_true]at hf⊢
   refine⟨⟨f e,es',by simp,by simpa using hf e rfl h1.1,h2⟩,rfl⟩
  |false=>
   simp only [hq,cond_false]at hh hf⊢
   obtain⟨q1,q2⟩:=ua hk (f:=f) (v:=v) h2 hh (fun e' he hb=>by
    have:=hf e' (by simpa using he) (by omega)
    rwa [show i+(qx key xs+1)=i+1+qx key xs by omega]at this)
   exact⟨⟨e,_,by simp,h1,q1⟩,by simp [q2]⟩
theorem nV {kt vt:Ty} {ag:Bool} {key:Den kt} {v:Den vt} {e0:MapEntry}:
 ∀{i:Nat} {xs:List (Den kt×Den vt)} {es:List MapEntry},Ents w M kt vt ag i xs es→E8 key xs=false→MG w M kt vt ag (i+xs.length) (key,v) e0→
 Ents w M kt vt ag i (MB key v xs) (es++[e0])∧(MB key v xs).length=xs.length+1
 |i,[],es,h,_,h0=>by
  rw [show es=[]from h]
  exact⟨⟨e0,[],rfl,h0,rfl⟩,rfl⟩
 |i,(x,y)::xs,es,h,hh,h0=>by
  obtain⟨e,es',rfl,h1,h2⟩:=h
  simp only [E8,MB]at hh⊢
  cases hq:keq kt key x with
  |true=>simp only [hq,cond_true]at hh;cases hh
  |false=>
   simp only [hq,cond_false]at hh⊢
   obtain⟨q1,q2⟩:=nV (key:=key) (v:=v) h2 hh (by rw [List.length_cons]at h0;rwa [show i+(xs.length+1)=i+1+xs.length by omega]at h0)
   exact⟨⟨e,_,rfl,h1,q1⟩,by simp [q2]⟩
theorem H1 {kt vt:Ty} {ag:Bool} {v:Den vt} {f:MapEntry→MapEntry}:
 ∀{i:Nat} (n:Nat) {xs:List (Den kt×Den vt)} {es:List MapEntry},Ents w M kt vt ag i xs es→n<xs.length→
 (∀e x,rd w M kt x [e.key]→e.born=i+n→MG w M kt vt ag (i+n) (x,v) (f e))→
 Ents w M kt vt ag i (Hx v xs n) (es.modify n f)∧(Hx v xs n).length=xs.length∧es.findIdx? (fun e=>(e.born:Int)==((i+n:Nat):Int))=some n
 |i,n,[],es,h,hn,_=>by simp at hn
 |i,0,(x,y)::xs,es,h,hn,hf=>by
  obtain⟨e,es',rfl,h1,h2⟩:=h
  exact⟨⟨f e,es',by simp,hf e x h1.2.1 h1.1,h2⟩,rfl,by rw [List.findIdx?_cons];simp [h1.1]⟩
 |i,n+1,(x,y)::xs,es,h,hn,hf=>by
  obtain⟨e,es',rfl,h1,h2⟩:=h
  have e1:i+(n+1)=i+1+n:=by omega
  obtain⟨q1,q2,q3⟩:=H1 n (f:=f) (v:=v) h2 (by simpa using hn) (fun e' x' hx hb=>by
   have:=hf e' x' hx (by omega)
   rwa [e1]at this)
  refine⟨⟨e,_,by simp,h1,q1⟩,by simp [Hx,q2], ?_⟩
  rw [List.findIdx?_cons]
  have hne:((e.born:Int)==((i+(n+1):Nat):Int))=false:=by
   rw [h1.1,beq_eq_false_iff_ne];omega
  rw [hne,e1,q3]
  rfl
theorem nW (hK:K.Ok) (R:Rl K w0 M0 L st a w) {i:Nat} {b cap:Nat} {kt vt:Ty} {ag:Bool} {xs ys:List (Den kt×Den vt)} {es es':Array MapEntry} {n n':Nat}
 (hi:L i=some (⟨some (b,0),cap,[]⟩,.map kt vt ag xs)) (hes:w.heap[b]? =some (.map es n)) (hn:n'=ys.length)
 (hE:Ents w (Mut L) kt vt ag 0 ys es'.toList):
 ∃L',RelO K w0 M0 L' {w with heap:=w.heap.setIfInBounds b (.map es' n')}∧(∀j,getO (putO st.objs i (.map kt vt ag ys)) j=(L' j).map (·.2))∧Turn L L'∧Tr w (Mut L) {w with heap:=w.heap.setIfInBounds b (.map es' n')} (Mut L'):=by
 subst hn
 obtain⟨s1,s2⟩:=MapKept.heap_set (o':=.map es' ys.length) hes
 have hin:inR (⟨some (b,0),cap,[]⟩,Ob.map kt vt ag xs) b 0:=.inl ⟨0,rfl,Nat.le_refl _,by simp [ext]⟩
 have hF:Fr w (inR (⟨some (b,0),cap,[]⟩,Ob.map kt vt ag xs)) {w with heap:=w.heap.setIfInBounds b (.map es' ys.length)}:=by
  refine⟨rfl,rfl,rfl,by simp,fun b' hb hn=> ?_,fun b' o' hb hn=> ?_,fun b' o' hb hn=> ?_,fun b' hb=> ?_⟩
  ·exact s2 b' fun e=>by subst e;exact hn 0 hin
  ·by_cases e:b'=b
   ·subst e;simp only [World.cell?,s1,hes]
   ·simp only [World.cell?,s2 b' e]
  ·by_cases e:b'=b
   ·subst e;simp only [World.frozen?,s1,hes]
   ·simp only [World.frozen?,s2 b' e]
  ·by_cases e:b'=b
   ·subst e;simp only [World.shape?,s1,hes]
   ·simp only [World.shape?,s2 b' e]
 have hT:Turn L (upd L i (⟨some (b,0),cap,[]⟩,.map kt vt ag ys)):=by
  intro j l x hj
  by_cases hji:j=i
  ·subst hji
   rw [hi]at hj;cases hj
   exact⟨_,_,av _ _ _,rfl,ys,rfl⟩
  ·obtain⟨l',x',h1,h2⟩:=Turn.refl L j l x hj
   exact⟨l',x',by rw [aG L _ hji];exact h1,h2⟩
 obtain⟨h2,h3⟩:=R.ro.put hK hi (p':=(⟨some (b,0),cap,[]⟩,.map kt vt ag ys)) hF hT
  (fun ht=>⟨b,es',rfl,s1,Ents.mono (fun i x e=>tM ht) _ _ _ hE⟩) (fun b' o' hr=>.inl (by obtain⟨x0,e1,e2,e3⟩:=q8 rfl hr;exact .inl ⟨x0,e1,e2,e3⟩))
 exact⟨_,h2,ey R i _ _,hT,h3⟩
theorem Fm {C:cy} {O:Opt} (hK:K.Ok) {ty:TypeId} (h:o.op= .makeMap ty none):ic K C O o:=by
 intro w0 M0 L st a w d k t r R he
 rw [h]at he
 simp only [op1]at he
 split at he
 case h_2=>exact(ab he).elim
 rename_i tk tv kt vt ag hm
 obtain⟨h1,h2⟩:=cW he
 obtain⟨s1,s2⟩:=MapKept.heap_alloc w (.map #[] 0)
 obtain⟨q1,q2,q3⟩:=R.ro.new hK (nF R h1) (p:=(⟨some (w.heap.size,0),0,[]⟩,.map kt vt ag [])) (Fr.alloc w _ (.map #[] 0)) (fun _=>⟨w.heap.size, #[],rfl,s1,rfl⟩)
  (fun b o' hr'=>by obtain⟨o0,e1,_,_⟩:=cg rfl hr';simp only [Option.some.injEq,Prod.mk.injEq]at e1;omega)
 refine⟨_,_,_,h2,Does.val (v':=.map (some w.heap.size)) (by simp [execOp,h,Instr.makeMap]) q1 (ey R _ _ _) q3 q2 ?_⟩
 simp only [rel]
 exact⟨_,_,_,_,_,_,av _ _ _,rfl⟩
theorem ub (R:Rl K w0 M0 L st a w) {kt vt:Ty} {ag:Bool} {x:AV} {v:Value} (hv:rel L w (Mut L) x v) {k:Nat→List (Den kt×Den vt)→Cmd} {t:List Ac} {r:Rz} (h:(Rf kt vt ag x k).ex st t=some r):
 ∃i xs t' b cap es,(k i xs).ex st t'=some r∧L i=some (⟨some (b,0),cap,[]⟩,.map kt vt ag xs)∧v= .map (some b)∧w.heap[b]? =some (.map es xs.length)∧Ents w (Mut L) kt vt ag 0 xs es.toList:=by
 unfold Rf at h
 split at h
 case h_2=>exact(ab h).elim
 rename_i i
 obtain⟨y,h1,h2⟩:=br h
 cases y with
 |var _=>exact(ab h2).elim
 |arr _ _ _ _=>exact(ab h2).elim
 |map kt' vt' ag' l=>
  simp only at h2
  split at h2
  case isFalse=>exact(ab h2).elim
  rename_i hh
  obtain⟨rfl,rfl,rfl⟩:=hh
  simp only [rel]at hv
  obtain⟨b,cap,kt1,vt1,ag1,xs,h3,h4⟩:=hv
  have hob:=R.ob i
  rw [h1,h3]at hob
  simp only [Option.map_some,Option.some.injEq,Ob.map.injEq]at hob
  obtain⟨rfl,rfl,rfl,hx⟩:=hob
  have hx:=eq_of_heq hx
  subst hx
  obtain⟨b',es,h5,h6,h7⟩:=R.ro.ok i _ h3
  simp only [Option.some.injEq,Prod.mk.injEq]at h5
  obtain⟨rfl,_⟩:=h5
  exact⟨i,l,_,b,cap,es,h2,h3,h4,h6,h7⟩
theorem uc (hK:K.Ok) {t tk tv:TypeId} {kt vt:Ty} {ag:Bool} (h:K.mpt t=some (tk,tv,kt,vt,ag)):
 K.P.underlying t=some (.map tk tv)∧K.lay tv=some (vt.cts,ag)∧ ∃d,Ri kt d∧K.P.underlying tk=some d:=by
 obtain⟨h1,h2,h3⟩:=hK.mpt _ _ _ _ _ _ h
 rcases h3 with⟨k,h3,h4⟩|⟨h3,h4⟩
 ·exact⟨h1,h2,_,.inl ⟨k,h3,rfl⟩,h4⟩
 ·exact⟨h1,h2,_,.inr ⟨h3,rfl⟩,h4⟩
theorem Ai {kt:Ty} {d:TypeDesc} (hk:Ri kt d) {j:AV} {key:Den kt} {v:Value} (hv:rel L w M j v) (hkey:Re kt j=some key):rd w M kt key [v]:=by
 rcases hk with⟨k,rfl,rfl⟩|⟨rfl,rfl⟩
 ·cases j<;>simp only [Re]at hkey<;>first|(cases hkey;done)|skip
  split at hkey
  ·rename_i e;cases hkey;subst e;simp only [rel]at hv;subst hv;rfl
  ·cases hkey
 ·cases j<;>simp only [Re]at hkey<;>first|(cases hkey;done)|skip
  cases hkey;simp only [rel]at hv;subst hv;rfl
theorem H2 {vt:Ty} {ag:Bool} {y:AV} {val:Den vt} {v:Value} (hv:rel L w M y v) (h:Rq vt ag y=some val): ∃ds,rd w M vt val ds∧MF ag v ds:=by
 cases ag with
 |true=>
  cases y<;>simp only [Rq]at h<;>first|(cases h;done)|skip
  simp only [rel]at hv
  obtain⟨cs,rfl,h1,_⟩:=hv
  exact⟨cs.toList,fj h1 h,by simp [MF]⟩
 |false=>
  have gen: ∀{vs:List AV},dg vt vs=some val→vs=[y]→ ∃ds,rd w M vt val ds∧MF false v ds:=by
   intro vs h2 h3
   subst h3
   exact⟨[v],fj (L:=L) (by simp only [aK];exact⟨v,[],rfl,hv,rfl⟩) h2,rfl⟩
  cases y<;>simp only [Rq,lvs]at h<;>first|(cases h;done)|exact gen h rfl
theorem mN {vt:Ty} {ag:Bool} {x:Den vt} {v:AV} {ds:List Value} {u:Value} (hd:rd w M vt x ds) (hu:MF ag u ds) (hm:mkv ag (cL vt x)=some v):rel L w M v u:=by
 have h1:=nB (L:=L) (cN vt hd) (ny vt hd) hm
 cases ag with
 |true=>simp only [MF]at hu;rw [hu];simpa [ie]using h1
 |false=>simp only [MF]at hu;rw [hu]at h1;simpa [ie]using h1
theorem RO {cs:List CT} {ag:Bool} (h:ag=false→ ∃c,cs=[c]):MF ag (jm cs ag) (cs.map zv):=by
 cases ag with
 |true=>rfl
 |false=>obtain⟨c,rfl⟩:=h rfl;rfl
theorem OS {vt:Ty} {ag:Bool} (hK:K.Ok) {tv:TypeId} (hl:K.lay tv=some (vt.cts,ag)):rd w M vt (Den.zero vt) (vt.cts.map zv)∧MF ag (jm vt.cts ag) (vt.cts.map zv):=
 ⟨tX w M vt,RO fun e=>by subst e;exact z_ hK hl⟩
theorem Aj {kt vt:Ty} {key:Den kt}: ∀{xs:List (Den kt×Den vt)},E8 key xs=false→MA key xs=Den.zero vt
 | [],_=>rfl
 |(x,y)::xs,h=>by
  simp only [E8,MA]at h⊢
  cases hq:keq kt key x with
  |true=>rw [hq]at h;cases h
  |false=>rw [hq]at h;simp only [cond_false]at h⊢;exact Aj h
theorem H3 {C:cy} {O:Opt} (hK:K.Ok) {ty:TypeId} {x i:Operand} {ok:Bool} (h:o.op= .lookup ty x i ok):ic K C O o:=by
 intro w0 M0 L st a w d k t r R he
 rw [h]at he
 simp only [op1]at he
 split at he
 case h_2=>exact(ab he).elim
 rename_i tk tv kt vt ag hm
 obtain⟨h1,h2,dk,hk,hdk⟩:=uc hK hm
 obtain⟨xv,t1,he1,hx⟩:=a7 R he
 obtain⟨iv,t2,he2,hi⟩:=a7 R he1
 obtain⟨n,xs,t3,b,cap,es,he3,h3,h4,h5,h6⟩:=ub R hx he2
 clear he he1 he2
 split at he3
 case h_2=>exact(ab he3).elim
 rename_i key hkey
 split at he3
 case h_2=>exact(ab he3).elim
 rename_i v hmv
 have hkv:=Ai hk hi hkey
 obtain⟨hz1,hz2⟩:=OS (w:=w) (M:=Mut L) hK h2
 have hzr:=jv hK h2 w
 have fin: ∀{u:Value} {bo:Bool},rel L w (Mut L) v u→bo=E8 key xs→(execOp a.eval o).run K.P w= .ok (.value (if ok then .tuple #[u,.bool bo]else u)) w→
  ∃v objs t',(k v).ex ⟨st.env,objs⟩ t'=some r∧Does K w0 M0 o a w L objs v:=by
  intro u bo hu hbo hrun
  cases ok with
  |true=>
   refine⟨_,st.objs,_,he3,Does.same R hrun ?_⟩
   simp only [rel,if_true]
   refine⟨_,rfl, ?_⟩
   simp only [aK]
   exact⟨_,_,rfl,hu,_,_,rfl,by simp only [rel,hbo],rfl⟩
  |false=>exact⟨_,st.objs,_,he3,Does.same R hrun hu⟩
 have hks:=MapKept.run_checkKey (w:=w) hdk (H0 hk hkv) es.isEmpty 9999
 rcases jB hk hkv 0 h6 with⟨q1,q0,q2⟩|⟨q1,q0,e,q2,q3,q4,q5⟩
 ·have hg:=Aj q1
  rw [hg]at hmv
  refine fin (u:=jm vt.cts ag) (bo:=false) (mN hz1 hz2 hmv) q1.symm ?_
  cases ok<;>simp [execOp,h,h4,Instr.lookup,run_underlying h1,MapKept.run_getObj_map h5,hks,MapKept.run_findKey hdk q2,hzr,Result.andThen]
 ·obtain⟨_,_,ds,hd1,hd2⟩:=q5
  refine fin (u:=e.val) (bo:=true) (mN hd1 hd2 hmv) q1.symm ?_
  cases ok<;>simp [execOp,h,h4,Instr.lookup,run_underlying h1,MapKept.run_getObj_map h5,hks,MapKept.run_findKey hdk q3,Result.andThen]
theorem ei (es:Array MapEntry) (i:Nat) (f:MapEntry→MapEntry):(es.modify i f).toList=es.toList.modify i f:=by simp
theorem v8 {C:cy} {O:Opt} (hK:K.Ok) {ty:TypeId} {x i y:Operand} (h:o.op= .mapUpdate ty x i y):ic K C O o:=by
 intro w0 M0 L st a w d k t r R he
 rw [h]at he
 simp only [op1]at he
 split at he
 case h_2=>exact(ab he).elim
 rename_i tk tv kt vt ag hm
 obtain⟨h1,h2,dk,hk,hdk⟩:=uc hK hm
 obtain⟨xv,t1,he1,hx⟩:=a7 R he
 obtain⟨iv,t2,he2,hi⟩:=a7 R he1
 obtain⟨yv,t3,he3,hy⟩:=a7 R he2
 obtain⟨n,xs,t4,b,cap,es,he4,h3,h4,h5,h6⟩:=ub R hx he3
 clear he he1 he2 he3
 split at he4
 case h_2=>exact(ab he4).elim
 rename_i key val hkey hval
 obtain⟨_,he5⟩:=cj he4
 have hkv:=Ai hk hi hkey
 obtain⟨ds,hd1,hd2⟩:=H2 hy hval
 have hki:=H0 hk hkv
 have hks:=MapKept.run_checkKey (w:=w) hdk hki false 9999
 rcases jB hk hkv 0 h6 with⟨q1,q0,q2⟩|⟨q1,q0,e,q2,q3,q4,q5⟩
 ·obtain⟨g1,g2⟩:=nV (key:=key) (v:=val) (e0:={key:=a.eval i,val:=a.eval y,born:=xs.length}) h6 q1 ⟨by simp,hkv,ds,hd1,hd2⟩
  obtain⟨L',r1,r2,r3,r4⟩:=nW hK R (es':=es.push {key:=a.eval i,val:=a.eval y,born:=xs.length}) (n':=xs.length+1) h3 h5 g2.symm (by simpa using g1)
  refine⟨_,_,_,he5,Does.skip ?_ r1 r2 r3 r4⟩
  simp [execOp,h,h4,Instr.mapUpdate,run_underlying h1,MapKept.run_getObj_map h5,hks,MapKept.run_findKey hdk q2,MapKept.run_setObj_map _ h5,Result.andThen]
 ·obtain⟨g1,g2⟩:=ua hk (key:=key) (v:=val) (f:=fun e=>{e with key:=a.eval i,val:=a.eval y}) h6 q1 (fun e _ hb=>⟨hb,hkv,ds,hd1,hd2⟩)
  obtain⟨L',r1,r2,r3,r4⟩:=nW hK R (es':=es.modify (qx key xs) fun e=>{e with key:=a.eval i,val:=a.eval y}) (n':=xs.length) h3 h5 g2.symm (by rw [ei];exact g1)
  refine⟨_,_,_,he5,Does.skip ?_ r1 r2 r3 r4⟩
  have hj:es[qx key xs]? =some e:=by simpa using q2
  rw [Nat.zero_add]at q3
  simp [execOp,h,h4,Instr.mapUpdate,run_underlying h1,MapKept.run_getObj_map h5,hks,MapKept.run_findKey hdk q3,hj,q4,MapKept.run_keyThatStays hki,MapKept.run_setObj_map _ h5,Result.andThen]
theorem Ak {C:cy} {O:Opt} (hK:K.Ok) {ty:TypeId} {x i:Operand} (h:o.op= .mapEntry ty x i):ic K C O o:=by
 intro w0 M0 L st a w d k t r R he
 rw [h]at he
 simp only [op1]at he
 split at he
 case h_2=>exact(ab he).elim
 rename_i tk tv kt vt ag hm
 obtain⟨h1,h2,dk,hk,hdk⟩:=uc hK hm
 obtain⟨xv,t1,he1,hx⟩:=a7 R he
 obtain⟨iv,t2,he2,hi⟩:=a7 R he1
 obtain⟨n,xs,t4,b,cap,es,he4,h3,h4,h5,h6⟩:=ub R hx he2
 clear he he1 he2
 split at he4
 case h_2=>exact(ab he4).elim
 rename_i key hkey
 split at he4
 case h_2=>exact(ab he4).elim
 rename_i v hmv
 obtain⟨_,he5⟩:=cj he4
 have hkv:=Ai hk hi hkey
 have hki:=H0 hk hkv
 have hks:=MapKept.run_checkKey (w:=w) hdk hki false 9999
 obtain⟨hz1,hz2⟩:=OS (w:=w) (M:=Mut L) hK h2
 have hzr:=jv hK h2 w
 rcases jB hk hkv 0 h6 with⟨q1,q0,q2⟩|⟨q1,q0,e,q2,q3,q4,q5⟩
 ·have hg:=Aj q1
  rw [hg]at hmv he5
  obtain⟨g1,g2⟩:=nV (key:=key) (v:=Den.zero vt) (e0:={key:=a.eval i,val:=jm vt.cts ag,born:=xs.length}) h6 q1 ⟨by simp,hkv,_,hz1,hz2⟩
  obtain⟨L',r1,r2,r3,r4⟩:=nW hK R (es':=es.push {key:=a.eval i,val:=jm vt.cts ag,born:=xs.length}) (n':=xs.length+1) h3 h5 g2.symm (by simpa using g1)
  refine⟨_,_,_,he5,Does.val (v':=.tuple #[jm vt.cts ag,.int .i64 xs.length]) ?_ r1 r2 r3 r4 ?_⟩
  ·simp [execOp,h,h4,Instr.mapEntry,run_underlying h1,MapKept.run_getObj_map h5,hks,MapKept.run_findKey hdk q2,MapKept.run_setObj_map _ h5,hzr,Result.andThen,goInt]
  ·simp only [rel]
   refine⟨_,rfl, ?_⟩
   simp only [aK]
   exact⟨_,_,rfl,im r3 r4 v (mN hz1 hz2 hmv),_,_,rfl,by simp only [rel,q0],rfl⟩
 ·obtain⟨e1,e2,ds,hd1,hd2⟩:=q5
  obtain⟨g1,g2⟩:=ua hk (key:=key) (v:=MA key xs) (f:=fun e=>{e with key:=a.eval i}) h6 q1 (fun e' he' hb=>by
   rw [q2]at he';cases he';exact⟨hb,hkv,ds,hd1,hd2⟩)
  obtain⟨L',r1,r2,r3,r4⟩:=nW hK R (es':=es.modify (qx key xs) fun e=>{e with key:=a.eval i}) (n':=xs.length) h3 h5 g2.symm (by rw [ei];exact g1)
  have hj:es[qx key xs]? =some e:=by simpa using q2
  rw [Nat.zero_add]at q3 e1
  refine⟨_,_,_,he5,Does.val (v':=.tuple #[e.val,.int .i64 (qx key xs)]) ?_ r1 r2 r3 r4 ?_⟩
  ·simp [execOp,h,h4,Instr.mapEntry,run_underlying h1,MapKept.run_getObj_map h5,hks,MapKept.run_findKey hdk q3,hj,q4,MapKept.run_keyThatStays hki,MapKept.run_setObj_map _ h5,Result.andThen,goInt,e1]
  ·simp only [rel]
   refine⟨_,rfl, ?_⟩
   simp only [aK]
   exact⟨_,_,rfl,im r3 r4 v (mN hd1 hd2 hmv),_,_,rfl,by simp only [rel],rfl⟩
theorem ue {C:cy} {O:Opt} (hK:K.Ok) {ty:TypeId} {x s y:Operand} (h:o.op= .entryStore ty x s y):ic K C O o:=by
 intro w0 M0 L st a w d k t r R he
 rw [h]at he
 simp only [op1]at he
 split at he
 case h_2=>exact(ab he).elim
 rename_i tk tv kt vt ag hm
 obtain⟨h1,h2,dk,hk,hdk⟩:=uc hK hm
 obtain⟨xv,t1,he1,hx⟩:=a7 R he
 obtain⟨sv,t2,he2,hs⟩:=a7 R he1
 obtain⟨yv,t3,he3,hy⟩:=a7 R he2
 obtain⟨n,xs,t4,b,cap,es,he4,h3,h4,h5,h6⟩:=ub R hx he3
 clear he he1 he2 he3
 split at he4
 case h_2=>exact(ab he4).elim
 rename_i ki m val hval
 obtain⟨c1,he5⟩:=bw he4
 obtain⟨c2,he6⟩:=bw he5
 obtain⟨_,he7⟩:=cj he6
 simp only [decide_eq_true_eq]at c1 c2
 simp only [rel]at hs
 obtain⟨ds,hd1,hd2⟩:=H2 hy hval
 have hlt:m.toNat<xs.length:=by omega
 obtain⟨g1,g2,g3⟩:=H1 m.toNat (v:=val) (f:=fun e=>{e with val:=a.eval y}) h6 hlt (fun e x hx hb=>⟨hb,hx,ds,hd1,hd2⟩)
 obtain⟨L',r1,r2,r3,r4⟩:=nW hK R (es':=es.modify m.toNat fun e=>{e with val:=a.eval y}) (n':=xs.length) h3 h5 g2.symm (by rw [ei];exact g1)
 refine⟨_,_,_,he7,Does.skip ?_ r1 r2 r3 r4⟩
 have hfi:es.findIdx? (fun e=>(e.born:Int)==m)=some m.toNat:=by
  have ea:es.findIdx? (fun e=>(e.born:Int)==m)=es.toList.findIdx? (fun e=>(e.born:Int)==m):=by rw [←List.findIdx?_toArray]
  rw [ea]
  have e0:((0+m.toNat:Nat):Int)=m:=by omega
  rw [e0]at g3;exact g3
 simp [execOp,h,h4,Instr.entryStore,MapKept.run_getObj_map h5,hs,asInt,asIntOf,hfi,MapKept.run_setObj_map _ h5,Result.andThen]
end Go.Proofs.YtihabpimbfmhhaaGreatDoor.Ev
namespace Go.Proofs.YtihabpimbfmhhaaGreatDoor.Ev
open Go Go.RowKit
set_option linter.unusedSimpArgs false
set_option linter.unusedVariables false
variable {K:Ctx} {w0:World} {M0:Bd} {L L':Lk} {st:St} {a:Act} {w:World} {o:Oper} {M M':Nat→Nat→Prop}
theorem T5 {C:cy} {O:Opt} (hK:K.Ok) (hC: ∀fn,Sound K fn (C fn)) (o:Oper):ic K C O o:=by
 have no:(∀d k,op1 K C O d o.type o.op k= .fail)→ic K C O o:=fun h w0 M0 L st a w d k t r R he=>by
  rw [h]at he;exact(ab he).elim
 cases h:o.op with
 |move x=>exact Qa h
 |assign x=>exact HQ hK h
 |pick c x y=>exact Qb h
 |alloc t=>exact MJ hK h
 |box t x=>exact RC hK h
 |build t ps=>exact MQ hK h
 |buildSlice t n ps=>exact tZ hK h
 |load t x=>exact Qc hK h
 |store t p x=>exact MO hK h
 |nilCheck x=>exact z7 h
 |binOp op xt x y yt=>exact MM hK h
 |unOp op t x=>exact Qd h
 |convert s d x=>exact Fi hK h
 |fieldAddr s x f=>exact vT hK h
 |field s x f=>exact MK hK h
 |indexAddr t x i=>exact vU hK h
 |index t x i=>exact ML hK h
 |extract x i=>exact Fb h
 |makeFunc f xs ys=>exact Aa h
 |makeSlice t n c=>exact vX hK h
 |slice t x lo hi mx=>
  cases mx with
  |none=>exact MN hK h
  |some mx=>exact no fun d k=>by rw [h];rfl
 |call c=>
  cases hc:c.callee with
  |value f=>exact Ql hK hC h hc
  |invoke r n=>exact no fun d k=>by rw [h];simp only [op1,hc]
  |builtin b=>
   cases b with
   |len=>exact RG hK h hc
   |min=>exact RH h hc
   |max=>exact RI h hc
   |append=>exact HU hK h hc
   |_=>exact no fun d k=>by rw [h];simp only [op1,hc]
 |makeMap t r=>
  cases r with
  |none=>exact Fm hK h
  |some r=>exact no fun d k=>by rw [h];rfl
 |lookup t x i ok=>exact H3 hK h
 |mapUpdate t x i y=>exact v8 hK h
 |mapEntry t x i=>exact Ak hK h
 |entryStore t x s y=>exact ue hK h
 |_=>exact no fun d k=>by rw [h];rfl
theorem Rl.put (R:Rl K w0 M0 L st a w) {w':World} {objs:List (Nat×Ob)} {v:AV} {v':Value} (ro:RelO K w0 M0 L' w') (ob: ∀i,getO objs i=(L' i).map (·.2)) (hT:Turn L L') (ht:Tr w (Mut L) w' (Mut L')) (hv:rel L' w' (Mut L') v v') (d:Option Tmp):
 Rl K w0 M0 L' ⟨match d with|some d=>putS st.env d v|none=>st.env,objs⟩ (a.put d v') w':=by
 have he:=ci hT ht st.env R.env
 cases d with
 |none=>exact⟨ro,ob,he,R.df⟩
 |some d=>
  refine⟨ro,ob, ?_,R.df⟩
  show aK L' w' (Mut L') (putS st.env d v) (a.tmps.setIfInBounds d v').toList
  rw [Array.toList_setIfInBounds]
  exact js he d hv
theorem Cp {b:Bool} {n:Nat} (R:Rl K w0 M0 L st a w) (h:getS st.env n= .bool b):a.tmps[n]? =some (.bool b):=by
 have:=dn R.env n
 rw [h]at this
 simp only [rel]at this
 rw [List.getD_eq_getElem?_getD]at this
 cases hn:a.tmps.toList[n]? with
 |none=>rw [hn]at this;simp [undef]at this
 |some v=>rw [hn]at this;simp at this;rw [←Array.getElem?_toList,hn,this]
theorem H4 {C:cy} {O:Opt} (hK:K.Ok) (hC: ∀fn,Sound K fn (C fn)) {lit:Bool} {ops:Array Oper} {o:Oper} {t:List Ac} {st':St} {t':List Ac} (R:Rl K w0 M0 L st a w) (h:(Mm K C O lit ops.toList o).ex st t=some (st',t'))
 {next:Act→World→Prop} {Q:Exit→Act→World→Prop} (hn: ∀L' a' w',Rl K w0 M0 L' st' a' w'→Turn L L'→next a' w'):
 if Region.wanted o (yielded ops a.tmps)then o.wp K.P a w next Q∨(o.asks K.P a w∧LetsOut Q)else next (a.put o.dst undef) w:=by
 have put_ex: ∀{s:St} {ts:List Ac} {v:AV},Cmd.ex (match o.dst with|some d=>.putS d v .done|none=>.done) s ts=some (st',t')→st'=⟨match o.dst with|some d=>putS s.env d v|none=>s.env,s.objs⟩:=by
  intro s ts v h
  cases hd:o.dst with
  |none=>rw [hd]at h;simp only [Cmd.ex,Option.some.injEq,Prod.mk.injEq]at h;exact h.1.symm
  |some d=>rw [hd]at h;simp only [Cmd.ex,Option.some.injEq,Prod.mk.injEq]at h;exact h.1.symm
 have yes: ∀{s:St} {ts:List Ac},Rl K w0 M0 L s a w→(op1 K C O (o.dst.getD 0) o.type o.op fun v=>match o.dst with|some d=>.putS d v .done|none=>.done).ex s ts=some (st',t')→o.wp K.P a w next Q:=by
  intro s ts R h
  obtain⟨v,objs,t1,h1,h2⟩:=T5 hK hC o w0 M0 L s a w _ _ _ _ R h
  have:=put_ex h1
  subst this
  refine h2 next Q fun L' w' v' ro ob hT ht hv=>hn L' _ _ ?_ hT
  exact R.put ro ob hT ht hv o.dst
 have skip: ∀{s:St} {ts:List Ac},Rl K w0 M0 L s a w→Cmd.ex (match o.dst with|some d=>.putS d (.tup []) .done|none=>.done) s ts=some (st',t')→next (a.put o.dst undef) w:=by
  intro s ts R h
  have:=put_ex h
  subst this
  exact hn L _ _ (R.put R.ro R.ob (Turn.refl L) (Tr.refl _ _) (by simp only [rel];exact⟨#[],rfl,rfl⟩) o.dst) (Turn.refl L)
 unfold Mm at h
 simp only at h
 cases hg:o.guard with
 |none=>
  rw [hg]at h
  simp only [Region.wanted,hg,if_true]
  exact .inl (yes R h)
 |some q=>
  obtain⟨j,HG⟩:=q
  rw [hg]at h
  simp only at h
  split at h
  case h_2=>exact(ab h).elim
  rename_i p hp
  split at h
  case h_2=>exact(ab h).elim
  rename_i d hd
  simp only [Cmd.ex]at h
  split at h
  case h_3=>exact(ab h).elim
  case h_2=>
   rename_i hb
   have hu:=(show rel L w (Mut L) (.tup []) (a.tmps.toList.getD d undef)from by rw [←hb];exact dn R.env d)
   have hp':ops[j]? =some p:=by simpa using hp
   have hy:yielded ops a.tmps j=none:=by
    simp only [rel]at hu
    obtain⟨cs,hu,_⟩:=hu
    unfold yielded
    simp only [hp',Option.bind_some,hd]
    rw [List.getD_eq_getElem?_getD,Array.getElem?_toList]at hu
    cases hn':a.tmps[d]? with
    |none=>rfl
    |some v=>rw [hn']at hu;simp only [Option.getD_some]at hu;rw [hu]
   have hw:Region.wanted o (yielded ops a.tmps)=false:=by
    simp only [Region.wanted,hg,hy]
    cases HG<;>rfl
   rw [hw]
   exact skip R h
  rename_i b hb
  have hb':=Cp R hb
  have hy:yielded ops a.tmps j=some b:=by
   have hp':ops[j]? =some p:=by simpa using hp
   simp only [yielded,hp',Option.bind_some,hd,hb']
  have hnote:Rl K w0 M0 L ⟨putS st.env d (.bool b),st.objs⟩ a w:=by
   refine⟨R.ro,R.ob, ?_,R.df⟩
   have:=js R.env d (a:=.bool b) (c:=.bool b) (by simp [rel])
   have e1:a.tmps.toList.set d (.bool b)=a.tmps.toList:=by
    apply List.ext_getElem?
    intro i
    rw [List.getElem?_set]
    split
    ·rename_i he
     subst he
     rw [←Array.getElem?_toList]at hb'
     rw [hb']
     rw [if_pos (List.getElem?_eq_some_iff.1 hb').1]
    ·rfl
   rwa [e1]at this
  have hw:Region.wanted o (yielded ops a.tmps)=(b==HG):=by
   simp only [Region.wanted,hg,hy]
   cases b<;>cases HG<;>rfl
  rw [hw]
  cases b<;>cases HG<;>cases lit<;>simp only [Cmd.ex,beq_self_eq_true,if_true,Bool.false_eq_true,if_false,Bool.true_beq,Bool.false_beq,Bool.not_true,Bool.not_false]at h⊢ <;>
   first|exact .inl (yes R h)|exact .inl (yes hnote h)|exact skip R h|exact skip hnote h
theorem H5 {C:cy} {O:Opt} (hK:K.Ok) (hC: ∀fn,Sound K fn (C fn)) {ops:Array Oper} {R':Type} {res:R'} {k:St→Option R'} {Q:Exit→Act→World→Prop}:
 ∀(l:List Oper) (j:Nat) {L:Lk} {st:St} {a:Act} {w:World},ops.toList.drop j=l→Rl K w0 M0 L st a w→OJ K C O ops.toList l st k=some res→
 (∀L' st' a' w',Rl K w0 M0 L' st' a' w'→Turn L L'→k st'=some res→Q .normal a' w')→wpOps K.P ops Q ((List.range' j l.length)) a w
 | [],j,L,st,a,w,hl,R,h,hQ=>by
   simp only [List.length_nil,List.range'_zero,wpOps]
   exact hQ L st a w R (Turn.refl L) h
 |o::l,j,L,st,a,w,hl,R,h,hQ=>by
  simp only [OJ]at h
  rw [jt _ _ [] _]at h
  split at h
  case h_2=>cases h
  rename_i st' t' he
  have hj:ops.toList[j]? =some o:=by
   have:(ops.toList.drop j)[0]? =some o:=by rw [hl];rfl
   simpa using this
  have hj':ops[j]? =some o:=by simpa using hj
  simp only [List.length_cons,List.range'_succ,wpOps,hj']
  refine H4 hK hC R he fun L' a' w' R' hT=> ?_
  refine H5 hK hC l (j+1) ?_ R' h fun L'' st'' a'' w'' R'' hT' hk=>hQ _ _ _ _ R'' (hT.trans hT') hk
  have:ops.toList.drop (j+1)=(ops.toList.drop j).drop 1:=by rw [List.drop_drop]
  rw [this,hl];rfl
end Go.Proofs.YtihabpimbfmhhaaGreatDoor.Ev
namespace Go.Proofs.YtihabpimbfmhhaaGreatDoor.Ev
open Go Go.RowKit
set_option linter.unusedSimpArgs false
set_option linter.unusedVariables false
theorem v_ (l:List AV) (n m:Nat) (v:AV):getS (putS l n v) m=if n=m∧n<l.length then v else getS l m:=by
 rw [kI,kI,tL]
 simp only [List.getD_eq_getElem?_getD,List.getElem?_set]
 by_cases h:n=m
 ·subst h
  by_cases hl:n<l.length
  ·simp [hl]
  ·simp [hl]
 ·simp [h]
theorem nX (l:List AV) (n:Nat) (v:AV):(putS l n v).length=l.length:=by rw [tL];simp
theorem H6: ∀{a b:AV},vH a b=true→a=b
 | .ref i v,.ref j u,h=>by simp only [vH,Bool.and_eq_true,decide_eq_true_eq]at h;rw [h.1,h.2]
 | .ptr i v,.ptr j u,h=>by simp only [vH,Bool.and_eq_true,decide_eq_true_eq]at h;rw [h.1,h.2]
 | .mp i,.mp j,h=>by simp only [vH,decide_eq_true_eq]at h;rw [h]
theorem Cq: ∀{l m:List AV},Mt l m=true→l=m
 | [],[],_=>rfl
 |a::l,b::m,h=>by
  simp only [Mt]at h
  split at h
  ·rename_i e;rw [H6 e,Cq h]
  ·cases h
theorem H7: ∀{x y:Ob},Hu x y=true→x=y
 | .var l,.var m,h=>by rw [Cq (l:=l) (m:=m) h]
theorem OT {l:List (Nat×Ob)} {o:Nat} {x y:Ob} (h:getO l o=some y):(acS l o x= .rO o∧y=x)∨acS l o x= .wO o:=by
 unfold acS acP
 rw [h]
 cases e:Hu y x
 ·exact .inr (by simp only [e])
 ·exact .inl ⟨by simp only [e],H7 e⟩
theorem b_: ∀(c:Cmd) {st st':St} {t t':List Ac},c.ex st t=some (st',t')→ ∃n,t'=n++t
 | .done,st,st',t,t',h=>by simp only [Cmd.ex,Option.some.injEq,Prod.mk.injEq]at h;exact⟨[],h.2.symm⟩
 | .fail,st,st',t,t',h=>(ab h).elim
 | .getS n c,st,st',t,t',h=>by
   simp only [Cmd.ex]at h
   obtain⟨l,hl⟩:=b_ _ h;exact⟨l++[.rS n],by simp [hl]⟩
 | .putS n v c,st,st',t,t',h=>by
   simp only [Cmd.ex]at h
   obtain⟨l,hl⟩:=b_ _ h;exact⟨l++[.wS n],by simp [hl]⟩
 | .getO o c,st,st',t,t',h=>by
   obtain⟨x,_,h⟩:=br h
   obtain⟨l,hl⟩:=b_ _ h;exact⟨l++[.rO o],by simp [hl]⟩
 | .putO o x c,st,st',t,t',h=>by
   obtain⟨_,h⟩:=cj h
   obtain⟨l,hl⟩:=b_ _ h;exact⟨l++[acS st.objs o x],by simp [hl]⟩
 | .newO o x c,st,st',t,t',h=>by
   obtain⟨_,h⟩:=cW h
   obtain⟨l,hl⟩:=b_ _ h;exact⟨l++[.wO o],by simp [hl]⟩
 | .ite true x y,st,st',t,t',h=>b_ x (by simpa only [Cmd.ex]using h)
 | .ite false x y,st,st',t,t',h=>b_ y (by simpa only [Cmd.ex]using h)
theorem cl: ∀(c:Cmd) {st st':St} {t t':List Ac},c.ex st t=some (st',t')→
 st'.env.length=st.env.length∧(∀n,Ac.wS n ∉ t'→getS st'.env n=getS st.env n)∧ ∀o,Ac.wO o ∉ t'→getO st'.objs o=getO st.objs o
 | .done,st,st',t,t',h=>by
   simp only [Cmd.ex,Option.some.injEq,Prod.mk.injEq]at h
   obtain⟨rfl,rfl⟩:=h;exact⟨rfl,fun _ _=>rfl,fun _ _=>rfl⟩
 | .fail,st,st',t,t',h=>(ab h).elim
 | .getS n c,st,st',t,t',h=>by simp only [Cmd.ex]at h;exact cl _ h
 | .putS n v c,st,st',t,t',h=>by
   simp only [Cmd.ex]at h
   obtain⟨l,hl⟩:=b_ _ h
   obtain⟨h1,h2,h3⟩:=cl _ h
   refine⟨h1.trans (nX _ _ _),fun m hm=> ?_,h3⟩
   rw [h2 m hm]
   simp only
   rw [v_,if_neg]
   rintro⟨rfl,_⟩
   exact hm (by rw [hl];simp)
 | .getO o c,st,st',t,t',h=>by
   obtain⟨x,_,h⟩:=br h
   exact cl _ h
 | .putO o x c,st,st',t,t',h=>by
   obtain⟨⟨y,hy⟩,h⟩:=cj h
   obtain⟨l,hl⟩:=b_ _ h
   obtain⟨h1,h2,h3⟩:=cl _ h
   refine⟨h1,h2,fun m hm=> ?_⟩
   rw [h3 m hm]
   simp only
   rw [aV]
   split
   ·rename_i e
    subst e
    rcases OT hy (x:=x)with⟨_,rfl⟩|e
    ·exact hy.symm
    ·exact absurd (by rw [hl,e];simp) hm
   ·rfl
 | .newO o x c,st,st',t,t',h=>by
   obtain⟨_,h⟩:=cW h
   obtain⟨l,hl⟩:=b_ _ h
   obtain⟨h1,h2,h3⟩:=cl _ h
   refine⟨h1,h2,fun m hm=> ?_⟩
   rw [h3 m hm]
   simp only
   rw [aV,if_neg]
   rintro rfl
   exact hm (by rw [hl];simp)
 | .ite true x y,st,st',t,t',h=>cl x (by simpa only [Cmd.ex]using h)
 | .ite false x y,st,st',t,t',h=>cl y (by simpa only [Cmd.ex]using h)
structure Agree (t:List Ac) (s s':St):Prop where
 len:s.env.length=s'.env.length
 env: ∀n,(Ac.rS n∈t∨Ac.wS n∈t)→getS s.env n=getS s'.env n
 obj: ∀o,(Ac.rO o∈t∨Ac.wO o∈t)→getO s.objs o=getO s'.objs o
theorem di: ∀(c:Cmd) {st st' s2:St} {t t':List Ac},c.ex st t=some (st',t')→Agree t' st s2→ ∃s2',c.ex s2 t=some (s2',t')∧Agree t' st' s2'
 | .done,st,st',s2,t,t',h,ha=>by
   simp only [Cmd.ex,Option.some.injEq,Prod.mk.injEq]at h
   obtain⟨rfl,rfl⟩:=h;exact⟨s2,rfl,ha⟩
 | .fail,st,st',s2,t,t',h,ha=>(ab h).elim
 | .getS n c,st,st',s2,t,t',h,ha=>by
   simp only [Cmd.ex]at h⊢
   obtain⟨l,hl⟩:=b_ _ h
   have:getS st.env n=getS s2.env n:=ha.env n (.inl (by rw [hl];simp))
   rw [←this];exact di _ h ha
 | .putS n v c,st,st',s2,t,t',h,ha=>by
   simp only [Cmd.ex]at h⊢
   refine di _ h ⟨by simp only [nX];exact ha.len,fun m hm=> ?_,ha.obj⟩
   simp only [v_,ha.len]
   split
   ·rfl
   ·exact ha.env m hm
 | .getO o c,st,st',s2,t,t',h,ha=>by
   obtain⟨x,hx,h⟩:=br h
   obtain⟨l,hl⟩:=b_ _ h
   have:getO st.objs o=getO s2.objs o:=ha.obj o (.inl (by rw [hl];simp))
   simp only [Cmd.ex,←this,hx];exact di _ h ha
 | .putO o x c,st,st',s2,t,t',h,ha=>by
   obtain⟨⟨y,hy⟩,h⟩:=cj h
   obtain⟨l,hl⟩:=b_ _ h
   have:getO st.objs o=getO s2.objs o:=ha.obj o (by
    rcases OT hy (x:=x)with⟨e,_⟩|e
    ·exact .inl (by rw [hl,e];simp)
    ·exact .inr (by rw [hl,e];simp))
   have ea:acS st.objs o x=acP o y x:=by unfold acS;rw [hy]
   rw [ea]at h
   simp only [Cmd.ex,←this,hy]
   refine di _ h ⟨ha.len,ha.env,fun m hm=> ?_⟩
   simp only [aV]
   split
   ·rfl
   ·exact ha.obj m hm
 | .newO o x c,st,st',s2,t,t',h,ha=>by
   obtain⟨hy,h⟩:=cW h
   obtain⟨l,hl⟩:=b_ _ h
   have:getO st.objs o=getO s2.objs o:=ha.obj o (.inr (by rw [hl];simp))
   simp only [Cmd.ex,←this,hy]
   refine di _ h ⟨ha.len,ha.env,fun m hm=> ?_⟩
   simp only [aV]
   split
   ·rfl
   ·exact ha.obj m hm
 | .ite true x y,st,st',s2,t,t',h,ha=>by simp only [Cmd.ex]at h⊢;exact di x h ha
 | .ite false x y,st,st',s2,t,t',h,ha=>by simp only [Cmd.ex]at h⊢;exact di y h ha
structure Eqv (s s':St):Prop where
 env:s.env=s'.env
 obj: ∀o,getO s.objs o=getO s'.objs o
theorem Eqv.refl (s:St):Eqv s s:=⟨rfl,fun _=>rfl⟩
theorem Eqv.symm {s s':St} (h:Eqv s s'):Eqv s' s:=⟨h.env.symm,fun o=>(h.obj o).symm⟩
theorem Eqv.trans {s s' s'':St} (h:Eqv s s') (h':Eqv s' s''):Eqv s s'':=⟨h.env.trans h'.env,fun o=>(h.obj o).trans (h'.obj o)⟩
theorem Eqv.agree {s s':St} (h:Eqv s s') (t:List Ac):Agree t s s':=⟨by rw [h.env],fun n _=>by rw [h.env],fun o _=>h.obj o⟩
theorem rg {l l':List AV} (hl:l.length=l'.length) (h: ∀n,getS l n=getS l' n):l=l':=by
 apply List.ext_getElem hl
 intro n h1 h2
 have:=h n
 simp only [kI,List.getD_eq_getElem?_getD,List.getElem?_eq_getElem h1,List.getElem?_eq_getElem h2,Option.getD_some]at this
 exact this
theorem RP {c:Cmd} {st st' s2:St} {t t':List Ac} (h:c.ex st t=some (st',t')) (he:Eqv st s2): ∃s2',c.ex s2 t=some (s2',t')∧Eqv st' s2':=by
 obtain⟨s2',h1,h2⟩:=di c h (he.agree t')
 obtain⟨a1,a2,a3⟩:=cl c h
 obtain⟨b1,b2,b3⟩:=cl c h1
 refine⟨s2',h1,rg h2.len fun n=> ?_,fun o=> ?_⟩
 ·by_cases hn:Ac.wS n∈t'
  ·exact h2.env n (.inr hn)
  ·rw [a2 n hn,b2 n hn,he.env]
 ·by_cases hn:Ac.wO o∈t'
  ·exact h2.obj o (.inr hn)
  ·rw [a3 o hn,b3 o hn,he.obj]
theorem Fo {s t:List Ac} (h:iE s t=true): ∀a∈s,∀b∈t,a.clash b=false:=by
 intro a ha b hb
 have h1:=List.all_eq_true.1 h a ha
 have h2:=List.all_eq_true.1 h1 b hb
 simpa using h2
theorem Qm {x y:Cmd} {st s1 s2:St} {tx ty:List Ac} (hy:y.ex st []=some (s1,ty)) (hx:x.ex s1 []=some (s2,tx)) (hap:iE ty tx=true):
 ∃s1' s2',x.ex st []=some (s1',tx)∧y.ex s1' []=some (s2',ty)∧Eqv s2 s2':=by
 have hc:=Fo hap
 obtain⟨a1,a2,a3⟩:=cl y hy
 obtain⟨b1,b2,b3⟩:=cl x hx
 have hnyS: ∀n,(Ac.rS n∈tx∨Ac.wS n∈tx)→Ac.wS n ∉ ty:=fun n h hw=>by
  rcases h with h|h<;>have:=hc _ hw _ h<;>simp [Ac.clash]at this
 have hnyO: ∀n,(Ac.rO n∈tx∨Ac.wO n∈tx)→Ac.wO n ∉ ty:=fun n h hw=>by
  rcases h with h|h<;>have:=hc _ hw _ h<;>simp [Ac.clash]at this
 have hnxS: ∀n,(Ac.rS n∈ty∨Ac.wS n∈ty)→Ac.wS n ∉ tx:=fun n h hw=>by
  rcases h with h|h<;>have:=hc _ h _ hw<;>simp [Ac.clash]at this
 have hnxO: ∀n,(Ac.rO n∈ty∨Ac.wO n∈ty)→Ac.wO n ∉ tx:=fun n h hw=>by
  rcases h with h|h<;>have:=hc _ h _ hw<;>simp [Ac.clash]at this
 obtain⟨s1',h1,h2⟩:=di x (s2:=st) hx ⟨a1,fun n hn=>a2 n (hnyS n hn),fun o ho=>a3 o (hnyO o ho)⟩
 obtain⟨c1,c2,c3⟩:=cl x h1
 obtain⟨s2',h3,h4⟩:=di y (s2:=s1') hy ⟨c1.symm,fun n hn=>(c2 n (hnxS n hn)).symm,fun o ho=>(c3 o (hnxO o ho)).symm⟩
 obtain⟨d1,d2,d3⟩:=cl y h3
 refine⟨s1',s2',h1,h3,rg (by rw [b1,a1,d1,c1]) fun n=> ?_,fun o=> ?_⟩
 ·by_cases hx:Ac.wS n∈tx
  ·rw [d2 n (hnyS n (.inr hx)),h2.env n (.inr hx)]
  ·by_cases hy:Ac.wS n∈ty
   ·rw [b2 n hx,h4.env n (.inr hy)]
   ·rw [b2 n hx,a2 n hy,d2 n hy,c2 n hx]
 ·by_cases hx:Ac.wO o∈tx
  ·rw [d3 o (hnyO o (.inr hx)),h2.obj o (.inr hx)]
  ·by_cases hy:Ac.wO o∈ty
   ·rw [b3 o hx,h4.obj o (.inr hy)]
   ·rw [b3 o hx,a3 o hy,d3 o hy,c3 o hx]
def exC:List Cmd→St→Option (St×List (List Ac))
 | [],st=>some (st,[])
 |c::l,st=>match c.ex st []with
  |some (st',t)=>match exC l st' with
   |some (st'',ts)=>some (st'',t::ts)
   |none=>none
  |none=>none
theorem mO {c:Cmd} {l:List Cmd} {st sF:St} {ts:List (List Ac)} (h:exC (c::l) st=some (sF,ts)): ∃s1 t ts',c.ex st []=some (s1,t)∧exC l s1=some (sF,ts')∧ts=t::ts':=by
 simp only [exC]at h
 split at h
 case h_2=>cases h
 rename_i s1 t h1
 split at h
 case h_2=>cases h
 rename_i s2 ts' h2
 simp only [Option.some.injEq,Prod.mk.injEq]at h
 obtain⟨rfl,rfl⟩:=h
 exact⟨s1,t,ts',h1,h2,rfl⟩
theorem OU {c:Cmd} {l:List Cmd} {st s1 sF:St} {t:List Ac} {ts:List (List Ac)} (h1:c.ex st []=some (s1,t)) (h2:exC l s1=some (sF,ts)):exC (c::l) st=some (sF,t::ts):=by
 simp only [exC,h1,h2]
theorem H8: ∀{l:List Cmd} {st sF s2:St} {ts:List (List Ac)},exC l st=some (sF,ts)→Eqv st s2→ ∃sF',exC l s2=some (sF',ts)∧Eqv sF sF'
 | [],st,sF,s2,ts,h,he=>by simp only [exC,Option.some.injEq,Prod.mk.injEq]at h;obtain⟨rfl,rfl⟩:=h;exact⟨s2,rfl,he⟩
 |c::l,st,sF,s2,ts,h,he=>by
  obtain⟨s1,t,ts',h1,h2,rfl⟩:=mO h
  obtain⟨s1',h3,h4⟩:=RP h1 he
  obtain⟨sF',h5,h6⟩:=H8 h2 h4
  exact⟨sF',OU h3 h5,h6⟩
theorem H9: ∀{l:List Cmd} {st sF:St} {ts:List (List Ac)},exC l st=some (sF,ts)→ts.length=l.length
 | [],st,sF,ts,h=>by simp only [exC,Option.some.injEq,Prod.mk.injEq]at h;obtain⟨rfl,rfl⟩:=h;rfl
 |c::l,st,sF,ts,h=>by
  obtain⟨s1,t,ts',h1,h2,rfl⟩:=mO h
  simp [H9 h2]
theorem wa: ∀{pre:List Cmd} {x:Cmd} {post:List Cmd} {st sF:St} {ts:List (List Ac)},exC (pre++x::post) st=some (sF,ts)→
 (∀p,p<pre.length→iE (ts.getD p []) (ts.getD pre.length [])=true)→ ∃s1 sF',x.ex st []=some (s1,ts.getD pre.length [])∧exC (pre++post) s1=some (sF',ts.eraseIdx pre.length)∧Eqv sF sF'
 | [],x,post,st,sF,ts,h,_=>by
   obtain⟨s1,t,ts',h1,h2,rfl⟩:=mO h
   exact⟨s1,sF,by simpa using h1,by simpa using h2,Eqv.refl sF⟩
 |y::pre,x,post,st,sF,ts,h,hap=>by
  obtain⟨s1,t,ts',h1,h2,rfl⟩:=mO h
  obtain⟨s2,sF1,h3,h4,h5⟩:=wa h2 fun p hp=>by simpa using hap (p+1) (by simpa using hp)
  obtain⟨s1',s2',h6,h7,h8⟩:=Qm h1 h3 (by simpa using hap 0 (by simp))
  obtain⟨sF2,h9,h10⟩:=H8 h4 h8
  refine⟨s1',sF2,by simpa using h6, ?_,h5.trans h10⟩
  simp only [List.length_cons,List.eraseIdx_cons_succ,List.cons_append]
  exact OU h7 h9
end Go.Proofs.YtihabpimbfmhhaaGreatDoor.Ev
namespace Go.Proofs.YtihabpimbfmhhaaGreatDoor.Ev
open Go Go.RowKit
set_option linter.unusedSimpArgs false
set_option linter.unusedVariables false
variable {K:Ctx} {w0:World} {M0:Bd} {L L':Lk} {st:St} {a:Act} {w:World} {o:Oper} {M M':Nat→Nat→Prop}
theorem Rl.eqv (R:Rl K w0 M0 L st a w) {s:St} (h:Eqv st s):Rl K w0 M0 L s a w:=⟨R.ro,fun i=>by rw [←h.obj i];exact R.ob i,by rw [←h.env];exact R.env,R.df⟩
theorem Rl.drew (hK:K.Ok) (R:Rl K w0 M0 L st a w):Rl K w0 M0 L st a {w with drawn:=w.drawn+1}:=by
 obtain⟨h1,h2⟩:=R.ro.chg hK (L':=L) (w':=w.drew) (N:=fun _ _=>False) (fun _=>False) (Fr.refl w _).drew (fun _ _=>False.elim) rfl (Turn.refl L) (fun i p hp _=>⟨hp,fun _ _ _=>_root_.id⟩) (fun i p _ h=>h.elim) (fun i j p q b o _ _ h=>h.elim)
 exact⟨h1,R.ob,ci (Turn.refl L) h2 _ R.env,R.df⟩
theorem wb {l:List AV} {n:Nat} {v:AV} (h:getS l n=v) (hv:v≠ .undef):putS l n v=l:=by
 rw [kI]at h
 rw [tL]
 apply List.ext_getElem?
 intro i
 rw [List.getElem?_set]
 split
 ·rename_i e
  subst e
  rw [List.getD_eq_getElem?_getD]at h
  cases hn:l[n]? with
  |none=>rw [hn]at h;exact absurd h.symm hv
  |some u=>
   rw [hn]at h
   simp only [Option.getD_some]at h
   rw [if_pos (List.getElem?_eq_some_iff.1 hn).1,h]
 ·rfl
theorem H_ {R:Type} (O:Opt) (d:Option Nat) (st:St) (k:St→Option R):splitB O d st k=k st:=by
 unfold splitB
 split
 ·split
  ·rename_i b hb
   cases b
   ·simp only [wb hb (by simp)]
   ·simp only [wb hb (by simp)]
  ·rfl
 ·rfl
theorem nY {R:Type} (C:cy) (O:Opt) (all:List Oper): ∀(l:List Oper) (st:St) (ts:List (List Ac)) (k:St→List (List Ac)→Option R),
 MC K C O all l st ts k=match exC (l.map (Mm K C O false all)) st with|some (sF,tr)=>k sF (ts++tr)|none=>none
 | [],st,ts,k=>by simp [MC,exC]
 |o::l,st,ts,k=>by
  simp only [MC,H_,List.map_cons,exC,iK]
  cases (Mm K C O false all o).ex st []with
  |none=>rfl
  |some p=>
   simp only
   rw [nY C O all l p.1 _ k]
   cases exC (l.map (Mm K C O false all)) p.1 with
   |none=>rfl
   |some q=>simp
theorem rh: ∀{l:List Oper} {acc b:List (List Nat)},vK l acc=some b→(∃r,b=acc++r)∧ ∀j o,l[j]? =some o→(∀e∈jr o,e<acc.length+j)∧b.getD (acc.length+j) []=(jr o).flatMap fun e=>e::b.getD e []
 | [],acc,b,h=>by simp only [vK,Option.some.injEq]at h;subst h;exact⟨⟨[],by simp⟩,fun j o h=>by simp at h⟩
 |x::l,acc,b,h=>by
  simp only [vK]at h
  split at h
  case h_2=>cases h
  rename_i hc
  obtain⟨⟨r,hr⟩,h2⟩:=rh h
  have hlt: ∀e∈jr x,e<acc.length:=fun e he=>by simpa using List.all_eq_true.1 hc e he
  have hget: ∀e,e<acc.length→b.getD e []=acc.getD e []:=fun e he=>by
   rw [hr];simp [List.getD,List.append_assoc,List.getElem?_append_left he]
  refine⟨⟨E9 acc x::r,by rw [hr];simp⟩,fun j o hj=> ?_⟩
  cases j with
  |zero=>
   simp only [List.getElem?_cons_zero,Option.some.injEq]at hj
   subst hj
   refine⟨by simpa using hlt, ?_⟩
   have e1:b.getD acc.length []=E9 acc x:=by rw [hr];simp [List.getD]
   rw [Nat.add_zero,e1]
   unfold E9
   have: ∀(es:List Nat),(∀e∈es,e<acc.length)→(es.flatMap fun j=>j::acc.getD j [])=es.flatMap fun e=>e::b.getD e []:=by
    intro es
    induction es with
    |nil=>intro _;rfl
    |cons e es ih=>
     intro h
     simp only [List.flatMap_cons]
     rw [ih fun e' he'=>h e' (List.mem_cons_of_mem _ he'),hget e (h e (List.mem_cons_self ..))]
   exact this _ hlt
  |succ j=>
   have:=h2 j o (by simpa using hj)
   simp only [List.length_append,List.length_cons,List.length_nil]at this
   rw [show acc.length+(j+1)=acc.length+(0+1)+j by omega]
   exact this
theorem Ia {o:Oper} {e:Edge} (he:e∈o.after.toList) (hb:Region.binds .any e=true):e.on∈jr o:=by
 unfold jr
 refine List.mem_filterMap.2 ⟨e,he, ?_⟩
 unfold Region.binds at hb
 cases hg:e.ground<;>simp [hg]at hb⊢
theorem Ib {o:Oper} {n:Nat} (h:n∈jr o): ∃e∈o.after.toList,Region.binds .any e=true∧e.on=n:=by
 unfold jr at h
 obtain⟨e,he,h1⟩:=List.mem_filterMap.1 h
 refine⟨e,he, ?_⟩
 unfold Region.binds
 cases hg:e.ground<;>simp [hg]at h1⊢ <;>exact h1
theorem mem_ready {ops:Array Oper} {listed:Array Bool} {i:Nat}:i∈Region.ready .any ops listed↔ ∃o,ops[i]? =some o∧listed.getD i true=false∧ ∀e∈jr o,listed.getD e false=true:=by
 unfold Region.ready
 simp only [List.mem_filter,List.mem_range,Bool.and_eq_true,Bool.not_eq_true']
 constructor
 ·rintro⟨h1,h2,h3⟩
  refine⟨ops[i],by simp [h1],h2,fun n hn=> ?_⟩
  obtain⟨e,he,hb,rfl⟩:=Ib hn
  simp only [h1,Array.getElem?_eq_getElem,Option.map_some,Option.getD_some]at h3
  have:=Array.all_eq_true'.1 h3 e (by simpa using he)
  simpa [hb]using this
 ·rintro⟨o,h1,h2,h3⟩
  refine⟨(Array.getElem?_eq_some_iff.1 h1).1,h2, ?_⟩
  simp only [h1,Option.map_some,Option.getD_some]
  refine Array.all_eq_true'.2 fun e he=> ?_
  by_cases hb:Region.binds .any e=true
  ·have:=h3 _ (Ia (by simpa using he) hb)
   simp [this]
  ·simp [hb]
theorem ri {listed:Array Bool} {i j:Nat} (d:Bool) (hi:i<listed.size):(listed.setIfInBounds i true).getD j d=if j=i then true else listed.getD j d:=by
 simp only [Array.getD_eq_getD_getElem?,Array.getElem?_setIfInBounds]
 by_cases h:i=j
 ·subst h;simp [hi]
 ·simp [h,Ne.symm h]
theorem Cr {C:cy} {O:Opt} (hK:K.Ok) (hC: ∀fn,Sound K fn (C fn)) {ops:Array Oper} {b:List (List Nat)} (hb:vK ops.toList []=some b) {Q:Exit→Act→World→Prop} {sF:St}:
 ∀(z:List (Nat×List Ac)) (listed:Array Bool) {L:Lk} {st:St} {a:Act} {w:World} {s:St},listed.size=ops.size→(∀i,i∈z.map (·.1)↔i<ops.size∧listed.getD i true=false)→
 z.Pairwise (fun p q=>p.1<q.1∧(p.1∈b.getD q.1 []∨iE p.2 q.2=true))→(∀j i,listed.getD j false=true→i∈b.getD j []→listed.getD i false=true)→
 exC (z.map fun p=>match ops[p.1]? with|some o=>Mm K C O false ops.toList o|none=>.fail) st=some (s,z.map (·.2))→Eqv s sF→Rl K w0 M0 L st a w→
 (∀L' a' w',Rl K w0 M0 L' sF a' w'→Turn L L'→Q .normal a' w')→wpAny K.P .any ops Q z.length listed a w
 | [],listed,L,st,a,w,s,hsz,hmem,hpw,hdn,hex,heq,R,hQ=>by
   simp only [List.map_nil,exC,Option.some.injEq,Prod.mk.injEq]at hex
   obtain⟨rfl,_⟩:=hex
   refine⟨?_,hQ L a w (R.eqv heq) (Turn.refl L)⟩
   cases hr:Region.ready .any ops listed with
   |nil=>rfl
   |cons i l=>
    have hi:i∈Region.ready .any ops listed:=by rw [hr];exact List.mem_cons_self ..
    obtain⟨o,h1,h2,_⟩:=mem_ready.1 hi
    have:=(hmem i).2 ⟨(Array.getElem?_eq_some_iff.1 h1).1,h2⟩
    simp at this
 |p::z,listed,L,st,a,w,s,hsz,hmem,hpw,hdn,hex,heq,R,hQ=>by
  have hws:=(rh hb).2
  simp only [List.length_nil,Nat.zero_add]at hws
  have hop: ∀i,i<ops.size→ ∃o,ops[i]? =some o∧ops.toList[i]? =some o:=fun i hi=>⟨ops[i],by simp [hi],by simp [hi]⟩
  have hgd: ∀i,i<ops.size→listed.getD i true=listed.getD i false:=fun i hi=>by
   rw [Array.getD_eq_getD_getElem?,Array.getD_eq_getD_getElem?,Array.getElem?_eq_getElem (by omega)];rfl
  constructor
  ·intro hnil
   exfalso
   obtain⟨hp1,hp2⟩:=(hmem p.1).1 (by simp)
   obtain⟨o,ho,ho'⟩:=hop _ hp1
   have:p.1∈Region.ready .any ops listed:=by
    refine mem_ready.2 ⟨o,ho,hp2,fun e he=> ?_⟩
    have hlt:=(hws _ o ho').1 e he
    cases hl:listed.getD e false with
    |true=>rfl
    |false=>
     have:=(hmem e).2 ⟨by omega,by rw [hgd e (by omega)];exact hl⟩
     simp only [List.map_cons,List.mem_cons]at this
     rcases this with h|h
     ·omega
     ·obtain⟨q,hq,rfl⟩:=List.mem_map.1 h
      have:=((List.pairwise_cons.1 hpw).1 q hq).1
      omega
   rw [hnil]at this;simp at this
  ·intro i hi
   obtain⟨o,ho,hl,hwt⟩:=mem_ready.1 hi
   have hisz:=(Array.getElem?_eq_some_iff.1 ho).1
   have hiz:=(hmem i).2 ⟨hisz,hl⟩
   obtain⟨⟨i',t⟩,hq,rfl⟩:=List.mem_map.1 hiz
   obtain⟨pre,post,hz⟩:=List.append_of_mem hq
   simp only at ho hl hwt hisz hi
   have hW: ∀j∈b.getD i' [],listed.getD j false=true:=fun j hj=>by
    rw [(hws i' o (by simpa using ho)).2]at hj
    obtain⟨e,he,hj⟩:=List.mem_flatMap.1 hj
    rcases List.mem_cons.1 hj with rfl|hj
    ·exact hwt _ he
    ·exact hdn e j (hwt e he) hj
   rw [hz]at hex hpw hmem
   have hpw':=List.pairwise_append.1 hpw
   rw [List.map_append,List.map_cons,List.map_append,List.map_cons]at hex
   obtain⟨s1,sF',h1,h2,h3⟩:=wa hex (by
    intro q hq
    simp only [List.length_map]at hq⊢
    have e1:(pre.map (·.2)++t::post.map (·.2)).getD q []=pre[q].2:=by
     simp [List.getD,List.getElem?_append_left,hq]
    have e2:(pre.map (·.2)++t::post.map (·.2)).getD pre.length []=t:=by
     simp [List.getD]
    rw [e1,e2]
    obtain⟨_,h5⟩:=hpw'.2.2 pre[q] (List.getElem_mem _) (i',t) (List.mem_cons_self ..)
    rcases h5 with h5|h5
    ·exfalso
     have h6:=hW _ h5
     have h7:=((hmem pre[q].1).1 (by rw [List.map_append];exact List.mem_append_left _ (List.mem_map_of_mem (List.getElem_mem _))))
     rw [hgd _ h7.1,h6]at h7
     cases h7.2
    ·exact h5)
   have e2:(pre.map (·.2)++t::post.map (·.2)).getD (pre.map fun p=>match ops[p.1]? with|some o=>Mm K C O false ops.toList o|none=>.fail).length []=t:=by
    simp [List.getD]
   rw [e2]at h1
   simp only [ho]at h1
   unfold wpOp
   simp only [ho]
   have hlen:z.length=(pre++post).length:=by
    have:=congrArg List.length hz
    simp at this⊢;omega
   rw [hlen]
   refine H4 hK hC R h1 fun L' a' w' R' hT=> ?_
   refine Cr (O:=O) hK hC hb (pre++post) (listed.setIfInBounds i' true) (by simpa using hsz) (fun j=> ?_) ?_ (fun j k hj hk=> ?_) (s:=sF') ?_ (h3.symm.trans heq) R' fun L'' a'' w'' R'' hT'=>hQ L'' a'' w'' R'' (hT.trans hT')
   ·rw [ri true (by omega)]
    have hne:j∈(pre++post).map (·.1)↔j≠i'∧j∈(pre++(i',t)::post).map (·.1):=by
     simp only [List.map_append,List.map_cons,List.mem_append,List.mem_cons]
     constructor
     ·rintro(h|h)
      ·obtain⟨q,hq,rfl⟩:=List.mem_map.1 h
       have:=(hpw'.2.2 q hq (i',t) (List.mem_cons_self ..)).1
       exact⟨by simp only at this;omega,.inl h⟩
      ·obtain⟨q,hq,rfl⟩:=List.mem_map.1 h
       have:=((List.pairwise_cons.1 hpw'.2.1).1 q hq).1
       exact⟨by simp only at this;omega,.inr (.inr h)⟩
     ·rintro⟨h0,h|h|h⟩
      ·exact .inl h
      ·exact absurd h h0
      ·exact .inr h
    rw [hne,hmem j]
    by_cases hji:j=i'<;>simp [hji]
   ·refine List.pairwise_append.2 ⟨hpw'.1,(List.pairwise_cons.1 hpw'.2.1).2,fun x hx y hy=>hpw'.2.2 x hx y (List.mem_cons_of_mem _ hy)⟩
   ·rw [ri false (by omega)]at hj⊢
    by_cases hji:j=i'
    ·subst hji
     rw [hW k hk];simp
    ·rw [if_neg hji]at hj
     rw [hdn j k hj hk];simp
   ·rw [List.map_append]
    have e3:(pre.map (·.2)++t::post.map (·.2)).eraseIdx (pre.map fun p=>match ops[p.1]? with|some o=>Mm K C O false ops.toList o|none=>.fail).length=(pre++post).map (·.2):=by
     rw [List.eraseIdx_append_of_length_le (by simp)]
     simp
    rw [e3]at h2
    exact h2
 termination_by z=>z.length
 decreasing_by all_goals (have:=congrArg List.length hz;simp at this⊢;omega)
end Go.Proofs.YtihabpimbfmhhaaGreatDoor.Ev
