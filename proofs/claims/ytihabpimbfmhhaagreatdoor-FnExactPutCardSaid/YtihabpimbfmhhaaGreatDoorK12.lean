/- The texts Ev27, Ev28, one behind the other. -/
import Derived.Test.YtihabpimbfmhhaaGreatDoorK11
import Derived.OpenShut
import Derived.ShutString
import Derived.ChangeOld
import Derived.Below
namespace Go.Proofs.YtihabpimbfmhhaaGreatDoor.Ev
open Go Go.RowKit
set_option linter.unusedSimpArgs false
set_option linter.unusedVariables false
def lk0:Lk:=⟨fun _=>none,fun _ _=>False⟩
theorem T6: ∀b o,¬Mut lk0 b o:=by
 rintro b o (h|⟨i,p,h,_⟩)
 ·exact h
 ·cases h
def avA (t:Ty) (ag:Bool) (x:Den t):AV:=
 match ag with
 |true=>.agg (cL t x)
 |false=>match cL t x with| [a]=>a|_=>.undef
def mP (P:Program) (t:TypeId):Bool:=match P.underlying t with|some (.struct _)=>true|_=>false
def MY (P:Program) (t:TypeId):Option (Ty×Bool):=(OV P 9 t).map fun y=>(y,mP P t)
def T7:List (Ty×Bool)→List AV→Prop
 | [],as=>as=[]
 |(y,ag)::r,as=> ∃x a',wj y x∧as=avA y ag x::a'∧T7 r a'
section
variable {H:Type} {enc:TypeId×Value→H} {P:Program} {w:World} {base:Nat} {spare:Nat→Bool} {held:Bool}
theorem MZ {r:Reach} {b0:Nat} {t:TypeId} {y:Ty} {ag:Bool} (hv:MY P t=some (y,ag)) {v:Value} {d:DataW H} {ps:List MemPlace} (hval:Value.okWide P w r b0 t v) (hd:DataW.Trod enc P w base spare held t v d ps)
 (hz: ∀m∈d.weights P t,m≤reachBytes): ∃x:Den y,wj y x∧rel lk0 w (Mut lk0) (avA y ag x) v:=by
 obtain⟨n,hd⟩:=hd
 unfold MY at hv
 cases hy:OV P 9 t with
 |none=>rw [hy]at hv;cases hv
 |some y'=>
  rw [hy]at hv
  simp only [Option.map_some,Option.some.injEq,Prod.mk.injEq]at hv
  obtain⟨rfl,rfl⟩:=hv
  obtain⟨x,hx,hg⟩:=n7 9 hy hd hz
  have hx':rd w (Mut lk0) y' x v.cells.toList:=fW (fun b o v _ h=>⟨T6 b o,h⟩) y' hx
  refine⟨x,hg, ?_⟩
  have hl:=cN (L:=lk0) y' hx'
  by_cases hs:mP P t=true
  ·rw [hs]
   unfold mP at hs
   split at hs
   case h_2=>cases hs
   rename_i fs hu
   unfold Value.okWide at hval
   rw [hu]at hval
   obtain⟨cs,rfl,_,_⟩:=hval
   simp only [avA,rel]
   exact⟨cs,rfl,by simpa [Value.cells]using hl,fun c hc=>ny y' hx' c (by simpa [Value.cells]using hc)⟩
  ·simp only [Bool.not_eq_true]at hs
   rw [hs]
   have hone:v.cells.toList=[v]:=by
    simp only [OV]at hy
    split at hy
    ·rename_i q hu;obtain⟨n,rfl⟩:=WideShapes.okWide_int hu hval;rfl
    ·rename_i hu;obtain⟨n,rfl⟩:=WideShapes.okWide_bool hu hval;rfl
    ·rename_i hu;obtain⟨n,rfl⟩:=WideShapes.okWide_string hu hval;rfl
    ·rename_i e hu;obtain⟨_,_,_,rfl⟩:=WideShapes.okWide_slice hu hval;rfl
    ·rename_i fs hu;simp [mP,hu]at hs
    ·cases hy
   rw [hone]at hl
   have hlen:=bp hl
   simp only [avA]
   match hle:cL y' x,hlen with
   | [c],_=>
     rw [hle]at hl
     obtain⟨c',hc',hr⟩:=tR hl
     simp only [List.cons.injEq,and_true]at hc'
     subst hc'
     exact hr
theorem wk {r:Reach} {b0:Nat}: ∀(ts:List TypeId) {tys:List (Ty×Bool)},ts.map (MY P)=tys.map some→ ∀{vs:List Value} {ds:List (DataW H)} {ps:List MemPlace},DataW.TrodAll enc P w base spare held ts vs ds ps→
 (∀(j:Nat) t v,ts[j]? =some t→vs[j]? =some v→Value.okWide P w r b0 t v)→(∀m∈DataW.weightsEach P ts ds,m≤reachBytes)→ ∃as,T7 tys as∧aK lk0 w (Mut lk0) as vs
 | [],tys,hv,vs,ds,ps,h,hval,hz=>by
   obtain⟨rfl,rfl,rfl⟩:=ChangeShapes.trodAll_nil h
   have:tys=[]:=by cases tys<;>simp_all
   subst this
   exact⟨[],rfl,by simp [aK]⟩
 |t::ts,tys,hv,vs,ds,ps,h,hval,hz=>by
  obtain⟨v,vs',d,ds',p,q,rfl,rfl,rfl,h1,h2⟩:=ChangeShapes.trodAll_cons h
  cases tys with
  |nil=>simp at hv
  |cons y tys=>
   obtain⟨y,ag⟩:=y
   simp only [List.map_cons,List.cons.injEq]at hv
   simp only [DataW.weightsEach,List.mem_append]at hz
   obtain⟨x,g,hr⟩:=MZ hv.1 (hval 0 t v rfl rfl) h1 fun m hm=>hz m (.inl hm)
   obtain⟨as,ha,hrs⟩:=wk ts hv.2 h2 (fun j t' v' ht hv'=>hval (j+1) t' v' (by simpa using ht) (by simpa using hv')) fun m hm=>hz m (.inr hm)
   exact⟨_,⟨x,as,g,rfl,ha⟩,by simp only [aK];exact⟨v,vs',rfl,hr,hrs⟩⟩
end
theorem T8 {K:Ctx} {W:World} (hg:K.G W) (hg0:K.g0≤W.heap.size):RelO K W ⟨eq lk0,lk0.F⟩ lk0 W:=
 {fr:=Fr.refl W _,ok:=fun i p h=>(by cases h),sep:=fun i j p q b o h=>(by cases h),own:=fun b o h _=>h,ff:=rfl,fs:=fun b o h=>False.elim h,fo:=fun b o _ h=>h,g:=hg,gs:=hg0,gb:=fun b o h=>absurd (.inr h) (T6 b o)}
theorem Ig {K:Ctx} {fn:Nat} {f:Func} {c:Code} (hf:K.P.funcs[fn]? =some f) (hb:f.body=some c) (hname:(f.name== "runtime.NumGoroutine")=false) {φ:List AV→List Ob→Br} (hS:Sound K fn φ) {as:List AV} {vs:List Value} {W:World}
 (hg:K.G W) (hg0:K.g0≤W.heap.size) (hr:aK lk0 W (Mut lk0) as vs) (hφ:(φ as []).val=some (.bool true,[])):Calls K.P fn vs.toArray W fun e w'=>e= .returned (.bool true)∧Below W.heap.size W w':=by
 have:=hS as [] _ _ hφ W lk0 vs (T8 hg hg0) (fun i=>by simp [lk0]) hr
 rcases this with⟨h,_⟩|⟨v,w',h,_⟩
 ·refine Calls.mono h fun e w' he=> ?_
  cases e with
  |returned v=>
   obtain⟨L',h1,h2,h3,h4⟩:=he
   simp only [rel]at h4
   subst h4
   exact⟨rfl,(h1.fr.mono (N':=fun _ _=>False) fun b o _ hm=>T6 b o (.inr hm)).below⟩
  |panicked ch=>exact he.elim
  |outgrown=>exact he.elim
 ·exfalso
  have hname': ¬f.name= "runtime.NumGoroutine" :=by simpa using hname
  have e1:(callFunc fn vs.toArray).run K.P W= .ok (.enter fn vs.toArray) W:=by
   simp [callFunc,hf,hname',hb,Sem.run_bind]
  rw [e1]at h;cases h
end Go.Proofs.YtihabpimbfmhhaaGreatDoor.Ev
namespace Go.Proofs.YtihabpimbfmhhaaGreatDoor.Ev
open Go Go.RowKit
noncomputable section
set_option linter.unusedSimpArgs false
set_option linter.unusedVariables false
def KLe {R:Type} (k k':Ex→St→Option R):Prop:= ∀e st r,k e st=some r→k' e st=some r
theorem wl {K:Ctx} {C:cy} {O:Opt} {all:List Oper} {R:Type} {k k':St→Option R} (h: ∀st r,k st=some r→k' st=some r): ∀(l:List Oper) {st:St} {r:R},OJ K C O all l st k=some r→OJ K C O all l st k'=some r
 | [],st,r,hr=>h st r hr
 |o::l,st,r,hr=>by
  simp only [OJ]at hr⊢
  rw [jt _ _ [] _]at hr⊢
  split at hr
  ·exact wl h l hr
  ·cases hr
theorem Ih {K:Ctx} {C:cy} {O:Opt} {all l:List Oper} {R:Type} {k k':St→List (List Ac)→Option R} {st:St} {ts:List (List Ac)} {r:R} (h: ∀st ts r,k st ts=some r→k' st ts=some r) (hr:MC K C O all l st ts k=some r):MC K C O all l st ts k'=some r:=by
 rw [nY]at hr⊢
 split at hr
 ·exact h _ _ _ hr
 ·cases hr
theorem rm {m:Nat} {R:Type} {f f':St→(Ex→St→Option R)→Option R} (hf: ∀st k k' r,KLe k k'→f st k=some r→f' st k'=some r) {shape:List AV}: ∀(n:Nat) {st:St} {k k':Ex→St→Option R} {r:R},KLe k k'→iF m f shape n st k=some r→iF m f' shape n st k'=some r
 |0,st,k,k',r,hk,h=>by simp [iF]at h
 |n+1,st,k,k',r,hk,h=>by
  simp only [iF]at h⊢
  refine hf _ _ _ _ (fun e st' r' h'=> ?_) h
  cases e with
  |normal=>
   simp only at h'⊢
   split at h'
   ·exact rm hf n hk h'
   ·cases h'
  |exit i=>exact hk _ _ _ h'
  |ret=>exact hk _ _ _ h'
abbrev Lam:=Nat→St→(Ex→St→Option (AV×List Ob))→Option (AV×List Ob)
def evL (K:Ctx) (C:cy) (O:Opt) (m:Nat) (Λ:Lam):Code→St→(Ex→St→Option (AV×List Ob))→Option (AV×List Ob)
 | .skip,st,k=>k .normal st
 | .region _ ops false,st,k=>OJ K C O ops.toList ops.toList st (k .normal)
 | .region _ ops true,st,k=>MC K C O ops.toList ops.toList st [] fun st ts=>if nw ops.toList ts then k .normal st else none
 | .seq a b,st,k=>evL K C O m Λ a st fun e st'=>match e with
   | .normal=>evL K C O m Λ b st' k
   | .exit i=>k (.exit i) st'
   | .ret=>k .ret st'
 | .cond c a b,st,k=>match c with
   | .tmp s=>match getS st.env s with
     | .bool v=>(match v with
       |true=>evL K C O m Λ a ⟨putS st.env s (.bool true),st.objs⟩ k
       |false=>evL K C O m Λ b ⟨putS st.env s (.bool false),st.objs⟩ k)
     |_=>none
   | .const (.bool v)=>(match v with|true=>evL K C O m Λ a st k|false=>evL K C O m Λ b st k)
   |_=>none
 | .block id b,st,k=>evL K C O m Λ b st fun e st'=>match e with
   | .normal=>k .normal st'
   | .exit i=>if i=id then k .normal st' else k (.exit i) st'
   | .ret=>k .ret st'
 | .loop b,st,k=>match OL m (P5 O b st.env) ⟨P5 O b st.env,st.objs⟩with
   |some s=>Λ (lid b) s k
   |none=>none
 | .exit id,st,k=>k (.exit id) st
 | .ret,st,k=>k .ret st
 |_,_,_=>none
theorem Ii {O:Opt} {m:Nat} {b:Code} {R:Type} {k k':Ex→St→Option R} (h:KLe k k'):KLe (Hr O m b k) (Hr O m b k'):=by
 intro e st r hr
 unfold Hr at hr⊢
 cases hf:MD (lid b) O.outs with
 |none=>rw [hf]at hr;exact h _ _ _ hr
 |some l=>
  rw [hf]at hr
  simp only at hr⊢
  cases hs:OL m (only l 0 st.env) ⟨only l 0 st.env,st.objs⟩with
  |none=>rw [hs]at hr;cases hr
  |some s=>rw [hs]at hr;exact h _ _ _ hr
def loops:Code→List Code
 | .seq a b=>loops a++loops b
 | .cond _ a b=>loops a++loops b
 | .block _ b=>loops b
 | .loop b=>b::loops b
 |_=>[]
def OkL (K:Ctx) (C:cy) (O:Opt) (m n:Nat) (Λ:Lam) (b:Code):Prop:=
 ∀s k k' r,KLe k k'→Λ (lid b) s k=some r→iF m (fun st k=>evK K C O m n b st k) s.env n s (Hr O m b k')=some r
theorem fw {K:Ctx} {C:cy} {O:Opt} {m n:Nat} {Λ:Lam}: ∀(c:Code),(∀b∈loops c,OkL K C O m n Λ b)→
 ∀{st:St} {k k':Ex→St→Option (AV×List Ob)} {r:AV×List Ob},KLe k k'→evL K C O m Λ c st k=some r→evK K C O m n c st k'=some r
 | .skip,hΛ,st,k,k',r,hk,h=>hk _ _ _ h
 | .region _ ops false,hΛ,st,k,k',r,hk,h=>by
   simp only [evL,evK]at h⊢
   exact wl (fun st r h=>hk _ _ _ h) _ h
 | .region _ ops true,hΛ,st,k,k',r,hk,h=>by
   simp only [evL,evK]at h⊢
   refine Ih (fun st ts r h=> ?_) h
   split at h
   ·rename_i ho;rw [if_pos ho];exact hk _ _ _ h
   ·cases h
 | .seq a b,hΛ,st,k,k',r,hk,h=>by
   simp only [evL,evK]at h⊢
   refine fw a (fun x hx=>hΛ x (List.mem_append_left _ hx)) (fun e st' r' h'=> ?_) h
   cases e with
   |normal=>exact fw b (fun x hx=>hΛ x (List.mem_append_right _ hx)) hk h'
   |exit i=>exact hk _ _ _ h'
   |ret=>exact hk _ _ _ h'
 | .cond c a b,hΛ,st,k,k',r,hk,h=>by
   simp only [evL,evK]at h⊢
   split at h
   ·rename_i s
    split at h
    ·rename_i v hv
     simp only [hv]
     split at h
     ·exact fw a (fun x hx=>hΛ x (List.mem_append_left _ hx)) hk h
     ·exact fw b (fun x hx=>hΛ x (List.mem_append_right _ hx)) hk h
    ·cases h
   ·split at h
    ·exact fw a (fun x hx=>hΛ x (List.mem_append_left _ hx)) hk h
    ·exact fw b (fun x hx=>hΛ x (List.mem_append_right _ hx)) hk h
   ·cases h
 | .block id b,hΛ,st,k,k',r,hk,h=>by
   simp only [evL,evK]at h⊢
   refine fw b hΛ (fun e st' r' h'=> ?_) h
   cases e with
   |normal=>exact hk _ _ _ h'
   |exit i=>
    simp only at h'⊢
    split at h'
    ·rename_i hi;rw [if_pos hi];exact hk _ _ _ h'
    ·rename_i hi;rw [if_neg hi];exact hk _ _ _ h'
   |ret=>exact hk _ _ _ h'
 | .loop b,hΛ,st,k,k',r,hk,h=>by
   simp only [evL,evK]at h⊢
   split at h
   ·rename_i s hs
    rw [hs]
    exact hΛ b (List.mem_cons_self ..) _ _ _ _ hk h
   ·cases h
 | .exit id,hΛ,st,k,k',r,hk,h=>by simp only [evL,evK]at h⊢;exact hk _ _ _ h
 | .ret,hΛ,st,k,k',r,hk,h=>by simp only [evL,evK]at h⊢;exact hk _ _ _ h
 | .rangeFunc ..,hΛ,st,k,k',r,hk,h=>by simp [evL]at h
 | .scope _,hΛ,st,k,k',r,hk,h=>by simp [evL]at h
 | .label _,hΛ,st,k,k',r,hk,h=>by simp [evL]at h
 | .goto _,hΛ,st,k,k',r,hk,h=>by simp [evL]at h
 | .refuse _,hΛ,st,k,k',r,hk,h=>by simp [evL]at h
theorem T9 {K:Ctx} {C:cy} {O:Opt} {m n:Nat} {Λ:Lam} (b:Code) (hΛ: ∀x∈loops b,OkL K C O m n Λ x)
 {shape:List AV} (q:Nat) {s:St} {k k':Ex→St→Option (AV×List Ob)} {r:AV×List Ob} (hk:KLe k k') (h:iF m (fun st k=>evL K C O m Λ b st k) shape q s (Hr O m b k)=some r):iF m (fun st k=>evK K C O m n b st k) shape q s (Hr O m b k')=some r:=
 rm (f:=fun st k=>evL K C O m Λ b st k) (f':=fun st k=>evK K C O m n b st k) (fun st k k' r hk h=>fw b hΛ hk h) q (Ii hk) h
def T_ (K:Ctx) (C:cy) (O:Opt) (Λ:Lam) (fn:Func) (args:List AV) (objs:List Ob):Option (AV×List Ob):=
 match fn.body with
 |some c=>evL K C O objs.length Λ c (start fn args objs) fun e st=>match e with
  | .exit _=>none
  |_=>Rr K O objs.length fn st
 |none=>none
theorem Ij {K:Ctx} {C:cy} {O:Opt} {Λ:Lam} {n:Nat} {fn:Func} {c:Code} (hb:fn.body=some c) {args:List AV} {objs:List Ob} {r:AV×List Ob}
 (hΛ: ∀b∈loops c,OkL K C O objs.length n Λ b) (h:T_ K C O Λ fn args objs=some r):OM K C O n fn args objs=some r:=by
 unfold T_ at h
 unfold OM
 simp only [hb]at h⊢
 refine fw c hΛ (fun e st r h=> ?_) h
 cases e<;>exact h
def OW {R:Type} (m:Nat) (body:St→(Ex→St→Option R)→Option R) (shape:List AV) (again:St→Option R) (st:St) (k:Ex→St→Option R):Option R:=
 body st fun e st'=>match e with
  | .normal=>match OL m shape st' with
    |some s=>again s
    |none=>none
  | .exit i=>k (.exit i) st'
  | .ret=>k .ret st'
theorem Fq {R:Type} (m:Nat) (body:St→(Ex→St→Option R)→Option R) (shape:List AV) (n:Nat) (st:St) (k:Ex→St→Option R):iF m body shape (n+1) st k=OW m body shape (fun s=>iF m body shape n s k) st k:=rfl
def aw (i n:Nat) (l:List (Nat×AV)):List AV:=
 match n with
 |0=>[]
 |n+1=>match l with
  | []=>.undef::aw (i+1) n []
  |(k,v)::r=>if k=i then v::aw (i+1) n r else .undef::aw (i+1) n l
def mz:List Nat→Nat→Nat→List AV→Option (List AV)
 | [],_,0,[]=>some []
 | [],i,n+1,.undef::l=>mz [] (i+1) n l
 |k::ks,i,n+1,v::l=>if k=i then(match mz ks (i+1) n l with|some vs=>some (v::vs)|none=>none)else(match v with
  | .undef=>mz (k::ks) (i+1) n l
  |_=>none)
 |_,_,_,_=>none
theorem fx: ∀(ks:List Nat) (i n:Nat) (env:List AV) {vs:List AV},mz ks i n env=some vs→env=aw i n (ks.zip vs)
 | [],i,0,env,vs,h=>by
   cases env with
   |nil=>simp [aw]
   |cons v l=>simp [mz]at h
 | [],i,n+1,env,vs,h=>by
   cases env with
   |nil=>simp [mz]at h
   |cons v l=>cases v with
    |undef=>simp only [mz]at h;rw [fx [] (i+1) n l h];simp [aw]
    |_=>simp [mz]at h
 |k::ks,i,0,env,vs,h=>by simp [mz]at h
 |k::ks,i,n+1,env,vs,h=>by
  cases env with
  |nil=>simp [mz]at h
  |cons v l=>
   simp only [mz]at h
   split at h
   ·rename_i hk
    split at h
    ·rename_i us hu
     cases h
     have:=fx ks (i+1) n l hu
     simp [aw,hk,this]
    ·cases h
   ·rename_i hk
    split at h
    ·have h1:=fx (k::ks) (i+1) n l h
     cases vs with
     |nil=>rw [h1];simp [aw]
     |cons u us=>rw [h1];simp [aw,hk]
    ·cases h
def aD (f:Func):Code:=match f.body with|some c=>c|none=>.skip
def ax:Code→List Nat→Code
 |c,[]=>c
 | .seq a _,0::p=>ax a p
 | .seq _ b,_::p=>ax b p
 | .cond _ a _,0::p=>ax a p
 | .cond _ _ b,_::p=>ax b p
 | .block _ b,_::p=>ax b p
 | .loop b,_::p=>ax b p
 |_,_=>.skip
end
end Go.Proofs.YtihabpimbfmhhaaGreatDoor.Ev
