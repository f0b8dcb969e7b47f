/- The texts Ev10, Ev32, one behind the other. -/
import Derived.Test.YtihabpimbfmhhaaGreatDoorK5
import Derived.Deep.AppendSrc
namespace Go.Proofs.YtihabpimbfmhhaaGreatDoor.Ev
open Go Go.RowKit
set_option linter.unusedSimpArgs false
variable {K:Ctx} {w0:World} {M0:Bd} {L:Lk} {st:St} {a:Act} {w:World} {o:Oper} {M:Nat→Nat→Prop}
theorem nH (ρ:Operand→Value) {c:Call} {b:Builtin} (t:TypeId) (hb:c.callee= .builtin b):
 ∃cons,resolve ρ c t=pure {target:=.builtin b c.argTypes t cons,args:=c.args.map ρ}:=by
 unfold resolve
 rw [hb]
 exact⟨_,rfl⟩
theorem fq {c:Call} {b:Builtin} (h:o.op= .call c) (hb:c.callee= .builtin b):
 ∃cons,(execOp a.eval o).run K.P w=(builtin b c.argTypes o.type cons (c.args.map a.eval)).run K.P w:=by
 obtain⟨cons,hc⟩:=nH a.eval o.type hb
 refine⟨cons, ?_⟩
 simp only [execOp,h,hc,Sem.run_bind,Sem.run_pure,Result.andThen_ok,invoke]
theorem mL {x y:AV} {cs:List Value} (h:aK L w M [x,y] cs): ∃c d,cs=[c,d]∧rel L w M x c∧rel L w M y d:=by
 obtain⟨c,cs',rfl,h1,h2⟩:=aL h
 obtain⟨d,ds,rfl,h3,h4⟩:=aL h2
 have:=dh h4
 subst this
 exact⟨c,d,rfl,h1,h3⟩
theorem tR {x:AV} {cs:List Value} (h:aK L w M [x] cs): ∃c,cs=[c]∧rel L w M x c:=by
 obtain⟨c,cs',rfl,h1,h2⟩:=aL h
 have:=dh h2
 subst this
 exact⟨c,rfl,h1⟩
theorem nI {xs:Array Operand} {a:Act} {cs:List Value} (h:xs.toList.map a.eval=cs):xs.map a.eval=cs.toArray:=by
 apply Array.ext';simp [h]
theorem RG {C:cy} {O:Opt} (hK:K.Ok) {c:Call} (h:o.op= .call c) (hb:c.callee= .builtin .len):ic K C O o:=by
 intro w0 M0 L st a w d k t r R he
 rw [h]at he
 simp only [op1,hb]at he
 split at he
 case h_2=>exact(ab he).elim
 rename_i ty tys hty
 obtain⟨vs,t1,he1,hvs⟩:=ga R he
 split at he1
 case h_2=>exact(ab he1).elim
 rename_i x
 obtain⟨v,hv1,hv⟩:=tR hvs
 obtain⟨cons,hrun⟩:=fq (K:=K) (a:=a) (w:=w) h hb
 have ht0:c.argTypes[0]? =some ty:=by
  have:c.argTypes.toList[0]? =some ty:=by rw [hty];rfl
  simpa using this
 rw [nI hv1]at hrun
 have fin: ∀{n:Nat} {t':List Ac},(k (.int .i64 n)).ex st t'=some r→(Builtin.len_ c.argTypes o.type #[v]).run K.P w= .ok (goInt n) w→ ∃v objs t',(k v).ex ⟨st.env,objs⟩ t'=some r∧Does K w0 M0 o a w L objs v:=by
  intro n t' h1 h2
  refine⟨_,st.objs,t',h1,Does.same R (v':=.int .i64 n) ?_ (by simp [rel])⟩
  rw [hrun]
  simp [builtin,h2,goInt]
 have slc: ∀{y:AV},(T0 K ty y fun n=>k (.int .i64 n)).ex st t1=some r→rel L w (Mut L) y v→ ∃v objs t',(k v).ex ⟨st.env,objs⟩ t'=some r∧Does K w0 M0 o a w L objs v:=by
  intro y hy hv
  unfold T0 at hy
  split at hy
  case h_2=>exact(ab hy).elim
  rename_i te hel
  obtain⟨g0,_⟩:=hK.elt ty te.1 te.2.1 te.2.2 hel
  cases y with
  |sh e l=>
   simp only [rel]at hv
   obtain⟨p,m,cc,h2,rfl,h3,h4⟩:=hv
   simp only [List.cons.injEq,and_true]at h2
   subst h2
   exact fin hy (by simp [Builtin.len_,ht0,run_underlying g0])
  |nil e=>
   have:=fi hv
   subst this
   exact fin hy (by simp [Builtin.len_,ht0,run_underlying g0])
  |wref j e n c q=>
   simp only [rel]at hv
   obtain⟨b,o',cap,cs,h2,rfl⟩:=hv
   exact fin hy (by simp [Builtin.len_,ht0,run_underlying g0])
  |ref j ver=>
   obtain⟨z,h2,h3⟩:=br hy
   cases z with
   |var _=>exact(ab h3).elim
   |map _ _ _ _=>exact(ab h3).elim
   |arr e v' z xs=>
    simp only at h3
    split at h3
    case isFalse=>exact(ab h3).elim
    rename_i hver
    simp only [rel]at hv
    obtain⟨l,e',cur,z',xs',p,m,cc,h4,h5,h6,h7⟩:=hv
    have hob:=R.ob j
    rw [h2,h4]at hob
    simp only [Option.map_some,Option.some.injEq,Ob.arr.injEq]at hob
    obtain⟨rfl,rfl,rfl,hxs⟩:=hob
    have hxs:=eq_of_heq hxs
    subst hxs
    obtain⟨rfl,rfl,rfl⟩:=h7 hver
    subst h6
    exact fin h3 (by simp [Builtin.len_,ht0,run_underlying g0])
  |_=>exact(ab hy).elim
 cases x with
 |str s=>
  simp only [T1]at he1
  split at he1
  case h_2=>exact(ab he1).elim
  rename_i hl
  simp only [rel]at hv
  subst hv
  exact fin he1 (by simp [Builtin.len_,ht0,run_underlying (gd hK hl rfl),mK])
 |_=>simp only [T1]at he1;exact slc he1 hv
theorem RH {C:cy} {O:Opt} {c:Call} (h:o.op= .call c) (hb:c.callee= .builtin .min):ic K C O o:=by
 intro w0 M0 L st a w d k t r R he
 rw [h]at he
 simp only [op1,hb]at he
 obtain⟨vs,t1,he1,hvs⟩:=ga R he
 obtain⟨cons,hrun⟩:=fq (K:=K) (a:=a) (w:=w) h hb
 split at he1
 case h_2=>exact(ab he1).elim
 rename_i ki p kj q
 obtain⟨x,y,hv1,hx,hy⟩:=mL hvs
 rw [nI hv1]at hrun
 simp only [rel]at hx hy
 subst hx;subst hy
 refine⟨_,st.objs,_,he1,Does.same R (v':=.int ki (if q<p then q else p)) ?_ (by simp [rel])⟩
 rw [hrun]
 simp [builtin,Builtin.min_,Builtin.min2]
theorem RI {C:cy} {O:Opt} {c:Call} (h:o.op= .call c) (hb:c.callee= .builtin .max):ic K C O o:=by
 intro w0 M0 L st a w d k t r R he
 rw [h]at he
 simp only [op1,hb]at he
 obtain⟨vs,t1,he1,hvs⟩:=ga R he
 obtain⟨cons,hrun⟩:=fq (K:=K) (a:=a) (w:=w) h hb
 split at he1
 ·rename_i ki p kj q
  obtain⟨x,y,hv1,hx,hy⟩:=mL hvs
  rw [nI hv1]at hrun
  simp only [rel]at hx hy
  subst hx;subst hy
  refine⟨_,st.objs,_,he1,Does.same R (v':=.int ki (if p<q then q else p)) ?_ (by simp [rel])⟩
  rw [hrun]
  simp [builtin,Builtin.max_,Builtin.max2]
 ·rename_i ki p kj q kl s
  obtain⟨x,ys,hv1,hx,hys⟩:=aL hvs
  obtain⟨y,z,rfl,hy,hz⟩:=mL hys
  rw [nI hv1]at hrun
  simp only [rel]at hx hy hz
  subst hx;subst hy;subst hz
  refine⟨_,st.objs,_,he1,Does.same R (v':=.int ki (if(if p<q then q else p)<s then s else(if p<q then q else p))) ?_ (by simp [rel])⟩
  rw [hrun]
  simp [builtin,Builtin.max_,Builtin.max2]
 ·exact(ab he1).elim
theorem Aa {C:cy} {O:Opt} {f:Fn} {xs ys:Array Operand} (h:o.op= .makeFunc f xs ys):ic K C O o:=by
 intro w0 M0 L st a w d k t r R he
 rw [h]at he
 cases f with
 |func g=>
  simp only [op1]at he
  split at he
  case h_2=>exact(ab he).elim
  rename_i hx
  obtain⟨vs,t1,he1,hvs⟩:=ga R he
  refine⟨_,st.objs,t1,he1,Does.same R (v':=.func (.func g) #[] (ys.map a.eval)) ?_ ?_⟩
  ·have:xs= #[]:=by apply Array.ext';simpa using hx
   simp [execOp,h,this,Instr.makeFunc]
  ·simp only [rel]
   exact⟨_,rfl,by simpa using hvs⟩
 |_=>exact(ab he).elim
end Go.Proofs.YtihabpimbfmhhaaGreatDoor.Ev
namespace Go.Proofs.YtihabpimbfmhhaaGreatDoor.Ev
open Go Go.RowKit
set_option linter.unusedSimpArgs false
set_option linter.unusedVariables false
variable {K:Ctx} {w0:World} {M0:Bd} {L:Lk} {st:St} {a:Act} {w:World} {o:Oper} {M:Nat→Nat→Prop}
def gf:Ob→Bool
 | .arr e _ z _=> !z&& !e.hasSlice
 |_=>false
theorem nJ {x:Ob} (h:gf x=true):kH x=true:=by
 cases x<;>simp_all [gf,kH]
def RJ (L:Lk) (w:World):AV→Value→List Rg→List Nat→Prop
 | .int k n,v,rs,ids=>v= .int k n∧rs=[]∧ids=[]
 | .bool b,v,rs,ids=>v= .bool b∧rs=[]∧ids=[]
 | .str s,v,rs,ids=>v= .string ⟨s.toArray⟩∧rs=[]∧ids=[]
 | .nil _,v,rs,ids=>v= .slice none 0 0∧rs=[]∧ids=[]
 | .sh e l,v,rs,ids=> ∃j p,ids=[j]∧L j=some p∧gf p.2=true∧rdO w (.slice e) l [v] rs∧(∀b o,cov rs b o→inR p b o)∧rs.Pairwise dj
 |_,_,rs,ids=>rs=[]∧ids=[]
def qC (L:Lk) (w:World):List AV→List Value→List Rg→List Nat→Prop
 | [],cs,rs,ids=>cs=[]∧rs=[]∧ids=[]
 |a::as,cs,rs,ids=> ∃c cs' r1 r2 i1 i2,cs=c::cs'∧rs=r1++r2∧ids=i1++i2∧RJ L w a c r1 i1∧qC L w as cs' r2 i2
theorem mM: ∀(vs:List AV) {ms:List Nat} {k:List AV→List Nat→Cmd} {ts:List Ac} {r:Rz},Rl K w0 M0 L st a w→(kF vs ms k).ex st ts=some r→
 ∃vs' ms' ts',(k vs' ms').ex st ts'=some r∧(ms.Nodup→ms'.Nodup)∧vs'.length=vs.length∧ ∀cs,aK L w (Mut L) vs cs→ ∃rs ids,qC L w vs' cs rs ids∧ms'=ids.reverse++ms
 | [],ms,k,ts,r,R,h=>⟨[],ms,ts,h,id,rfl,fun cs hc=>⟨[],[],by simp only [aK]at hc;exact⟨hc,rfl,rfl⟩,rfl⟩⟩
 |x::vs,ms,k,ts,r,R,h=>by
  have plain:(∀c,rel L w (Mut L) x c→RJ L w x c [] [])→(kF vs ms fun as ms=>k (x::as) ms).ex st ts=some r→
   ∃vs' ms' ts',(k vs' ms').ex st ts'=some r∧(ms.Nodup→ms'.Nodup)∧vs'.length=(x::vs).length∧ ∀cs,aK L w (Mut L) (x::vs) cs→ ∃rs ids,qC L w vs' cs rs ids∧ms'=ids.reverse++ms:=by
   intro hx h
   obtain⟨vs',ms',ts',h1,h2,h0,h3⟩:=mM vs R h
   refine⟨x::vs',ms',ts',h1,h2,by simp [h0],fun cs hc=> ?_⟩
   obtain⟨c,cs',rfl,h4,h5⟩:=aL hc
   obtain⟨rs,ids,h6,h7⟩:=h3 _ h5
   exact⟨rs,ids,⟨c,cs',[],rs,[],ids,rfl,rfl,rfl,hx _ h4,h6⟩,h7⟩
  cases x with
  |ref j ver=>
   simp only [kF]at h
   obtain⟨z,h2,h3⟩:=br h
   cases z with
   |var _=>exact(ab h3).elim
   |map _ _ _ _=>exact(ab h3).elim
   |arr e v' z l=>
    cases z with
    |true=>exact(ab h3).elim
    |false=>
    simp only at h3
    split at h3
    case isFalse=>exact(ab h3).elim
    rename_i hver
    split at h3
    case h_1=>exact(ab h3).elim
    rename_i hg
    simp only [Bool.or_eq_false_iff]at hg
    obtain⟨he,hn⟩:=hg
    obtain⟨vs',ms',ts',g1,g2,g0,g3⟩:=mM vs R h3
    refine⟨.sh e l::vs',ms',ts',g1,fun hms=>g2 (List.nodup_cons.2 ⟨fun hm=> ?_,hms⟩),by simp [g0],fun cs hc=> ?_⟩
    ·have: ∀(n:Nat) (q:List Nat),n∈q→zV n q=true:=by
      intro n q
      induction q with
      |nil=>intro h;cases h
      |cons b q ih=>intro h;simp only [zV];split;rfl;rename_i hne;exact ih ((List.mem_cons.1 h).resolve_left fun e=>hne (by simp [e]))
     rw [this _ _ hm]at hn;cases hn
    ·obtain⟨c,cs',rfl,h4,h5⟩:=aL hc
     obtain⟨rs,ids,h6,h7⟩:=g3 _ h5
     simp only [rel]at h4
     obtain⟨l0,e',cur,z',xs',p,m,cc,k1,k2,rfl,k3⟩:=h4
     have hob:=R.ob j
     rw [h2,k1]at hob
     simp only [Option.map_some,Option.some.injEq,Ob.arr.injEq]at hob
     obtain⟨rfl,rfl,rfl,hxs⟩:=hob
     have hxs:=eq_of_heq hxs
     subst hxs
     obtain⟨rfl,rfl,rfl⟩:=k3 hver
     have hok:=R.ro.ok j _ k1
     obtain⟨r1,q1,q2,q3⟩: ∃r1:List Rg,rdO w (.slice e) l [.slice l0.addr l.length l0.cap] r1∧(∀b o,cov r1 b o→inR (l0,Ob.arr e v' false l) b o)∧r1.Pairwise dj:=by
      rcases hok with⟨h8,h9,h10,_⟩|⟨b,o0,h8,h9,h10,_⟩
      ·refine⟨[],⟨_,_,_,rfl,rfl, ?_,.inl ⟨by simp only at h8;simp only [Loc.addr,h8];rfl,h10,h9,rfl⟩⟩,fun b o hc=>(bS hc).elim,List.Pairwise.nil⟩
       replace h9:l=[]:=h9
       rw [h9];simp
      ·simp only at h8 h9 h10
       refine⟨[(b,o0,l0.cap*e.size)],⟨_,_,_,rfl,rfl,h9,.inr ⟨he,b,o0,by simp only [Loc.addr,h8];rfl,rfl,fun i hi=> ?_⟩⟩,fun b' o' hc=> ?_,List.pairwise_singleton _ _⟩
       ·obtain⟨ds,m1,m2,m3⟩:=h10 i hi
        exact⟨ds,m1,bT e he m2,m3⟩
       ·obtain⟨r,hr,e1,e2,e3⟩:=hc
        rw [List.mem_singleton.1 hr]at e1 e2 e3
        simp only at e1 e2 e3
        subst e1
        refine .inl ⟨o0,h8,e2, ?_⟩
        simp only [ext,Bool.false_eq_true,if_false];omega
     exact⟨r1++rs,j::ids,⟨_,cs',r1,rs,[j],ids,rfl,rfl,rfl,⟨j,_,rfl,k1,by simp [gf,he],q1,q2,q3⟩,h6⟩,by rw [h7];simp⟩
  |sh _ _=>exact(ab (by simpa only [kF]using h)).elim
  |int _ _=>exact plain (fun c hc=>⟨by simpa only [rel]using hc,rfl,rfl⟩) (by simpa only [kF]using h)
  |bool _=>exact plain (fun c hc=>⟨by simpa only [rel]using hc,rfl,rfl⟩) (by simpa only [kF]using h)
  |str _=>exact plain (fun c hc=>⟨by simpa only [rel]using hc,rfl,rfl⟩) (by simpa only [kF]using h)
  |nil _=>exact plain (fun c hc=>⟨by simpa only [rel]using hc,rfl,rfl⟩) (by simpa only [kF]using h)
  |_=>exact plain (fun c hc=>⟨rfl,rfl⟩) (by simpa only [kF]using h)
theorem nK: ∀(t:Ty) {vs rest:List AV} {x:Den t} {cs:List Value} {rs:List Rg} {ids:List Nat},qC L w vs cs rs ids→cM t vs=some (x,rest)→
 ∃c d r1 r2 i1 i2,cs=c++d∧rs=r1++r2∧ids=i1++i2∧rdO w t x c r1∧qC L w rest d r2 i2
 | .int k,vs,rest,x,cs,rs,ids,h,hp=>by
   cases vs with
   |nil=>simp [cM]at hp
   |cons v vs=>
    cases v<;>simp [cM]at hp
    obtain⟨rfl,rfl,rfl⟩:=hp
    obtain⟨c,cs',r1,r2,i1,i2,rfl,rfl,rfl,⟨rfl,rfl,rfl⟩,h2⟩:=h
    exact⟨[_],cs',[],r2,[],i2,rfl,rfl,rfl,⟨rfl,rfl⟩,h2⟩
 | .bool,vs,rest,x,cs,rs,ids,h,hp=>by
   cases vs with
   |nil=>simp [cM]at hp
   |cons v vs=>
    cases v<;>simp [cM]at hp
    obtain⟨rfl,rfl⟩:=hp
    obtain⟨c,cs',r1,r2,i1,i2,rfl,rfl,rfl,⟨rfl,rfl,rfl⟩,h2⟩:=h
    exact⟨[_],cs',[],r2,[],i2,rfl,rfl,rfl,⟨rfl,rfl⟩,h2⟩
 | .str,vs,rest,x,cs,rs,ids,h,hp=>by
   cases vs with
   |nil=>simp [cM]at hp
   |cons v vs=>
    cases v<;>simp [cM]at hp
    obtain⟨rfl,rfl⟩:=hp
    obtain⟨c,cs',r1,r2,i1,i2,rfl,rfl,rfl,⟨rfl,rfl,rfl⟩,h2⟩:=h
    exact⟨[_],cs',[],r2,[],i2,rfl,rfl,rfl,⟨rfl,rfl⟩,h2⟩
 | .slice e,vs,rest,x,cs,rs,ids,h,hp=>by
   cases vs with
   |nil=>simp [cM]at hp
   |cons v vs=>
    cases v with
    |sh e' l=>
     simp only [cM]at hp
     split at hp
     ·rename_i he
      subst he
      simp only [Option.some.injEq,Prod.mk.injEq]at hp
      obtain⟨rfl,rfl⟩:=hp
      obtain⟨c,cs',r1,r2,i1,i2,rfl,rfl,rfl,⟨j,p,rfl,_,_,h1,_⟩,h2⟩:=h
      exact⟨[_],cs',r1,r2,[j],i2,rfl,rfl,rfl,h1,h2⟩
     ·cases hp
    |nil e'=>
     simp only [cM]at hp
     split at hp
     ·simp only [Option.some.injEq,Prod.mk.injEq]at hp
      obtain⟨rfl,rfl⟩:=hp
      obtain⟨c,cs',r1,r2,i1,i2,rfl,rfl,rfl,⟨rfl,rfl,rfl⟩,h2⟩:=h
      exact⟨[_],cs',[],r2,[],i2,rfl,rfl,rfl,⟨none,0,0,rfl,rfl,Nat.le_refl _,.inl ⟨rfl,rfl,rfl,rfl⟩⟩,h2⟩
     ·cases hp
    |_=>simp [cM]at hp
 | .pair p q,vs,rest,x,cs,rs,ids,h,hp=>by
   unfold cM at hp
   split at hp
   ·rename_i x1 cs1 h1
    split at hp
    ·rename_i y r h2
     simp only [Option.some.injEq,Prod.mk.injEq]at hp
     obtain⟨rfl,rfl⟩:=hp
     obtain⟨c,d,r1,r2,i1,i2,rfl,rfl,rfl,h3,h4⟩:=nK p h h1
     obtain⟨c',d',r1',r2',i1',i2',rfl,rfl,rfl,h5,h6⟩:=nK q h4 h2
     exact⟨c++c',d',r1++r1',r2',i1++i1',i2',by simp,by simp,by simp,⟨c,c',r1,r1',rfl,rfl,h3,h5⟩,h6⟩
    ·cases hp
   ·cases hp
 | .unit,vs,rest,x,cs,rs,ids,h,hp=>by
   simp only [cM,Option.some.injEq,Prod.mk.injEq]at hp
   obtain⟨_,rfl⟩:=hp
   exact⟨[],cs,[],rs,[],ids,rfl,rfl,rfl,⟨rfl,rfl⟩,h⟩
theorem ly {t:Ty} {vs:List AV} {x:Den t} {cs:List Value} {rs:List Rg} {ids:List Nat} (h:qC L w vs cs rs ids) (hp:dg t vs=some x):rdO w t x cs rs:=by
 unfold dg at hp
 split at hp
 ·rename_i y h1
  cases hp
  obtain⟨c,d,r1,r2,i1,i2,rfl,rfl,rfl,h2,h3⟩:=nK t h h1
  obtain⟨rfl,rfl,rfl⟩:=h3
  simpa using h2
 ·cases hp
theorem nL: ∀{vs:List AV} {cs:List Value} {rs:List Rg} {ids:List Nat},qC L w vs cs rs ids→ ∀j∈ids,∃p,L j=some p∧gf p.2=true
 | [],_,_,_,⟨_,_,rfl⟩,j,hj=>by cases hj
 |a::as,_,_,_,⟨c,cs',r1,r2,i1,i2,rfl,rfl,rfl,h1,h2⟩,j,hj=>by
  rcases List.mem_append.1 hj with hj|hj
  ·cases a<;>simp only [RJ]at h1
   case sh e l=>
    obtain⟨j',p,rfl,g1,g2,_⟩:=h1
    rw [List.mem_singleton.1 hj];exact⟨p,g1,g2⟩
   all_goals (first|(rw [h1.2.2]at hj;cases hj)|(rw [h1.2]at hj;cases hj))
  ·exact nL h2 j hj
theorem ez: ∀{vs:List AV} {cs:List Value} {rs:List Rg} {ids:List Nat},qC L w vs cs rs ids→ ∀b o,cov rs b o→ ∃j∈ids,∃p,L j=some p∧inR p b o
 | [],_,_,_,⟨_,rfl,_⟩,b,o,hc=>(bS hc).elim
 |a::as,_,_,_,⟨c,cs',r1,r2,i1,i2,rfl,rfl,rfl,h1,h2⟩,b,o,hc=>by
  rcases cov_append.1 hc with hc|hc
  ·cases a<;>simp only [RJ]at h1
   case sh e l=>
    obtain⟨j',p,rfl,g1,g2,g3,g4,_⟩:=h1
    exact⟨j',by simp,p,g1,g4 b o hc⟩
   all_goals (first|(rw [h1.2.1]at hc;exact(bS hc).elim)|(rw [h1.1]at hc;exact(bS hc).elim))
  ·obtain⟨j,h3,h4⟩:=ez h2 b o hc
   exact⟨j,List.mem_append_right _ h3,h4⟩
theorem tS (h:RelO K w0 M0 L w): ∀{vs:List AV} {cs:List Value} {rs:List Rg} {ids:List Nat},qC L w vs cs rs ids→ids.Nodup→rs.Pairwise dj
 | [],_,_,_,⟨_,rfl,_⟩,_=>List.Pairwise.nil
 |a::as,_,_,_,⟨c,cs',r1,r2,i1,i2,rfl,rfl,rfl,h1,h2⟩,hn=>by
  obtain⟨n1,n2,n3⟩:=List.nodup_append.1 hn
  refine List.pairwise_append.2 ⟨?_,tS h h2 n2,fun x hx y hy b o hb hb'=> ?_⟩
  ·cases a<;>simp only [RJ]at h1
   case sh e l=>obtain⟨j',p,rfl,g1,g2,g3,g4,g5⟩:=h1;exact g5
   all_goals (first|(rw [h1.2.1];exact List.Pairwise.nil)|(rw [h1.1];exact List.Pairwise.nil))
  ·have hx':cov r1 b o:=by obtain⟨r,hr,hc⟩:=hb;rw [List.mem_singleton.1 hr]at hc;exact⟨x,hx,hc⟩
   have hy':cov r2 b o:=by obtain⟨r,hr,hc⟩:=hb';rw [List.mem_singleton.1 hr]at hc;exact⟨y,hy,hc⟩
   obtain⟨j,hj,p,hp,hr⟩:=ez (vs:=[a]) (cs:=[c]) (rs:=r1) (ids:=i1) ⟨c,[],r1,[],i1,[],rfl,by simp,by simp,h1,rfl,rfl,rfl⟩ b o hx'
   obtain⟨j',hj',p',hp',hr'⟩:=ez h2 b o hy'
   exact n3 j hj j' hj' (h.sep j j' p p' b o hp hp' hr hr')
def gOb:Ob→Ob
 | .arr e v _ _=>.arr e (v+1) true []
 |x=>x
theorem nM: ∀(ms:List Nat) {c:Cmd} {st:St} {ts:List Ac} {r:Rz},(OI ms c).ex st ts=some r→ms.Nodup→
 ∃objs ts',c.ex ⟨st.env,objs⟩ ts'=some r∧ ∀i,getO objs i=if i∈ms then(getO st.objs i).map gOb else getO st.objs i
 | [],c,st,ts,r,h,_=>⟨st.objs,ts,h,fun i=>by simp⟩
 |m::ms,c,st,ts,r,h,hn=>by
  obtain⟨n1,n2⟩:=List.nodup_cons.1 hn
  simp only [OI]at h
  obtain⟨x,h1,h2⟩:=br h
  cases x with
  |var _=>exact(ab h2).elim
  |map _ _ _ _=>exact(ab h2).elim
  |arr e v z l=>
   obtain⟨_,h3⟩:=cj h2
   obtain⟨objs,ts',h4,h5⟩:=nM ms h3 n2
   refine⟨objs,ts',h4,fun i=> ?_⟩
   rw [h5 i,aV]
   by_cases him:i=m
   ·subst him
    rw [if_neg n1,if_pos rfl,if_pos (List.mem_cons_self ..),h1];rfl
   ·rw [if_neg him]
    by_cases hi:i∈ms
    ·rw [if_pos hi,if_pos (List.mem_cons_of_mem _ hi)]
    ·rw [if_neg hi,if_neg (fun hh=>(List.mem_cons.1 hh).elim him hi)]
def lkG (ms:List Nat) (L:Lk):Lk:=⟨fun i=>open Classical in if i∈ms then(L i).map fun p=>(⟨none,0,[]⟩,gOb p.2)else L i,L.F⟩
theorem RelO.take (h:RelO K w0 M0 L w) (hK:K.Ok) {ms:List Nat} {i:Nat} {p':Loc×Ob} {w':World} (hms: ∀j∈ms,∃p,L j=some p∧kH p.2=true) (hi:i ∉ ms)
 (hF:Fr w (fun b o=>(∃p,L i=some p∧inR p b o)∨ ∃j∈ms,∃q,L j=some q∧inR q b o) w') (hTi:Turn L (upd L i p'))
 (hp:Tr w (Mut L) w' (Mut (upd (lkG ms L) i p'))→okO (upd (lkG ms L) i p') w' p')
 (hr: ∀b o,inR p' b o→((∃p,L i=some p∧inR p b o)∨ ∃j∈ms,∃q,L j=some q∧inR q b o)∨w.heap.size≤b):
 RelO K w0 M0 (upd (lkG ms L) i p') w'∧Tr w (Mut L) w' (Mut (upd (lkG ms L) i p'))∧Turn L (upd (lkG ms L) i p'):=by
 have hm: ∀j∈ms,∀q,upd (lkG ms L) i p' j=some q→ ∃e v l,q=((⟨none,0,[]⟩:Loc),Ob.arr e v true l)∧l=[]:=by
  intro j hj q hq
  have hne:j≠i:=fun e=>hi (e▸hj)
  rw [aG _ _ hne]at hq
  obtain⟨p,h1,h2⟩:=hms j hj
  simp only [lkG,if_pos hj,h1,Option.map_some,Option.some.injEq]at hq
  obtain⟨l,x⟩:=p
  cases x with
  |var _=>cases h2
  |map _ _ _ _=>cases h2
  |arr e v z xs=>subst hq;exact⟨e,v+1,[],rfl,rfl⟩
 have hmr: ∀j∈ms,∀q,upd (lkG ms L) i p' j=some q→ ∀b o,¬inR q b o:=by
  intro j hj q hq b o hr'
  obtain⟨e,v,l,rfl,rfl⟩:=hm j hj q hq
  obtain⟨o0,e1,_⟩:=cg rfl hr'
  cases e1
 have ho: ∀j,j≠i→j ∉ ms→upd (lkG ms L) i p' j=L j:=fun j h1 h2=>by rw [aG _ _ h1];simp only [lkG,if_neg h2]
 have hT:Turn L (upd (lkG ms L) i p'):=by
  intro j l x hj
  by_cases hji:j=i
  ·subst hji
   obtain⟨l',x',h1,h2⟩:=hTi j l x hj
   rw [av]at h1
   exact⟨l',x',by rw [av];exact h1,h2⟩
  ·by_cases hjm:j∈ms
   ·obtain⟨p,h1,h2⟩:=hms j hjm
    rw [hj]at h1;cases h1
    cases x with
    |var _=>cases h2
    |map _ _ _ _=>cases h2
    |arr e v z xs=>
     refine⟨⟨none,0,[]⟩,.arr e (v+1) true [],by rw [aG _ _ hji];simp only [lkG,if_pos hjm,hj];rfl,v+1,true,[],rfl,by omega,fun hc=>by omega⟩
   ·obtain⟨l',x',h1,h2⟩:=Turn.refl L j l x hj
    exact⟨l',x',by rw [ho j hji hjm];exact h1,h2⟩
 obtain⟨g1,g2⟩:=h.chg hK (L':=upd (lkG ms L) i p') (D:=fun j=>j=i∨j∈ms) hF
  (fun b o hb=>by
   rcases hb with⟨p,h1,h2⟩|⟨j,_,q,h1,h2⟩
   ·exact⟨i,p,h1,h2⟩
   ·exact⟨j,q,h1,h2⟩) rfl hT
  (fun j q hq hj=>by
   have h1:j≠i:=fun e=>hj (.inl e)
   have h2:j ∉ ms:=fun e=>hj (.inr e)
   rw [ho j h1 h2]at hq
   refine⟨hq,fun b o hr' hn=> ?_⟩
   rcases hn with⟨p,k1,k2⟩|⟨j',k0,q',k1,k2⟩
   ·exact h1 (h.sep j i q p b o hq k1 hr' k2)
   ·exact h2 (h.sep j j' q q' b o hq k1 hr' k2▸k0))
  (fun j q hq hj=>by
   by_cases hji:j=i
   ·subst hji
    rw [av]at hq;cases hq
    exact⟨hp,hr⟩
   ·have hjm:=hj.resolve_left hji
    refine⟨fun _=> ?_,fun b o hr'=>(hmr j hjm q hq b o hr').elim⟩
    obtain⟨e,v,l,rfl,rfl⟩:=hm j hjm q hq
    exact .inl ⟨rfl,rfl,rfl,rfl⟩)
  (fun j k q q' b o hq hq' hj hk hr1 hr2=>by
   have e1:j=i:=hj.resolve_right fun hjm=>hmr j hjm q hq b o hr1
   have e2:k=i:=hk.resolve_right fun hkm=>hmr k hkm q' hq' b o hr2
   rw [e1,e2])
 exact⟨g1,g2,hT⟩
theorem nN (R:Rl K w0 M0 L st a w) {ms:List Nat} {objs:List (Nat×Ob)} (h: ∀i,getO objs i=if i∈ms then(getO st.objs i).map gOb else getO st.objs i) (i:Nat) (l:Loc) (x:Ob):
 ∀j,getO (putO objs i x) j=((upd (lkG ms L) i (l,x)) j).map (·.2):=by
 intro j
 rw [aV]
 by_cases hj:j=i
 ·subst hj;rw [if_pos rfl,av];rfl
 ·rw [if_neg hj,aG _ _ hj,h j,R.ob j]
  by_cases hm:j∈ms
  ·rw [if_pos hm];simp only [lkG,if_pos hm];cases L j<;>rfl
  ·rw [if_neg hm];simp only [lkG,if_neg hm]
theorem Qf {x y:Rg} (h:dj x y):dj y x:=fun b o h1 h2=>h b o h2 h1
theorem gg: ∀{rss:List (List Rg)} {n:Nat} {rs:List Rg} {x:Rg},x∈(rss.set n rs).flatten→x∈rss.flatten∨x∈rs:=by
 intro rss n rs x hx
 obtain⟨q,h1,h2⟩:=List.mem_flatten.1 hx
 rcases List.mem_or_eq_of_mem_set h1 with h|h
 ·exact .inl (List.mem_flatten.2 ⟨q,h,h2⟩)
 ·subst h;exact .inr h2
theorem HO: ∀{rss:List (List Rg)} {n:Nat} {rs:List Rg},rss.flatten.Pairwise dj→rs.Pairwise dj→(∀x∈rss.flatten,∀y∈rs,dj x y)→(rss.set n rs).flatten.Pairwise dj
 | [],n,rs,h1,h2,h3=>by simp
 |q::rss,0,rs,h1,h2,h3=>by
  simp only [List.set_cons_zero,List.flatten_cons]at h1 h3⊢
  obtain⟨k1,k2,k3⟩:=List.pairwise_append.1 h1
  exact List.pairwise_append.2 ⟨h2,k2,fun x hx y hy=>Qf (h3 y (List.mem_append_right _ hy) x hx)⟩
 |q::rss,n+1,rs,h1,h2,h3=>by
  simp only [List.set_cons_succ,List.flatten_cons]at h1 h3⊢
  obtain⟨k1,k2,k3⟩:=List.pairwise_append.1 h1
  refine List.pairwise_append.2 ⟨k1,HO k2 h2 fun x hx=>h3 x (List.mem_append_right _ hx),fun x hx y hy=> ?_⟩
  rcases gg hy with hy|hy
  ·exact k3 x hx y hy
  ·exact h3 x (List.mem_append_left _ hx) y hy
theorem kL {x:Rg} {b o:Nat} (h:cov [x] b o) {rs:List Rg} (hx:x∈rs):cov rs b o:=by
 obtain⟨r,hr,hc⟩:=h
 rw [List.mem_singleton.1 hr]at hc
 exact⟨x,hx,hc⟩
theorem Ff (hK:K.Ok) (R:Rl K w0 M0 L st a w) {i ver:Nat} {l:Loc} {e:Ty} {xs:List (Den e)} (he:e.hasSlice=true) (hL:L i=some (l,.arr e ver false xs)) {n b o0:Nat} (hb:l.base=some (b,o0)) (hn:n<xs.length)
 {vs:List AV} {cs:List Value} {rs:List Rg} {ms ids:List Nat} {y:Den e} (ho:qC L w vs cs rs ids) (hms:ms=ids.reverse) (hnd:ms.Nodup) (hy:rdO w e y cs rs) (hlen:cs.length=e.size)
 {objs:List (Nat×Ob)} (hob: ∀i,getO objs i=if i∈ms then(getO st.objs i).map gOb else getO st.objs i)
 (hrun:(execOp a.eval o).run K.P w= .ok .skip (w.setCells b (o0+n*e.size) cs)):
 Does K w0 M0 o a w L (putO objs i (.arr e ver false (xs.set n y))) .undef:=by
 have hids:ids.Nodup:=by rw [hms]at hnd;exact(List.pairwise_reverse.1 hnd).imp fun h e=>h e.symm
 have hown: ∀j∈ms,∃p,L j=some p∧gf p.2=true:=fun j hj=>nL ho j (by rw [hms]at hj;exact List.mem_reverse.1 hj)
 have him:i ∉ ms:=fun hi=>by
  obtain⟨p,h1,h2⟩:=hown i hi
  rw [hL]at h1;cases h1
  simp [gf,he]at h2
 have hrs: ∀b' o',cov rs b' o'→ ∃j∈ms,∃p,L j=some p∧inR p b' o':=fun b' o' hc=>by
  obtain⟨j,h1,h2⟩:=ez ho b' o' hc
  exact⟨j,by rw [hms];exact List.mem_reverse.2 h1,h2⟩
 have hdj:=tS R.ro ho hids
 rcases R.ro.ok i _ hL with⟨h8,_⟩|⟨b',o',h8,h9,_,h11,_,_,hq⟩
 ·simp only at h8;rw [hb]at h8;cases h8
 simp only at h8
 rw [hb]at h8
 simp only [Option.some.injEq,Prod.mk.injEq]at h8
 obtain⟨rfl,rfl⟩:=h8
 replace h11: ∀j,j<l.cap*e.size→(∃u,w.cell? ⟨b,o0+j,none⟩=some u)∧w.frozen? ⟨b,o0+j,none⟩=false:=h11 rfl
 replace h9:xs.length≤l.cap:=h9
 replace hq:Dq w l b o0 e xs:=hq rfl
 unfold Dq at hq
 rw [he]at hq
 obtain⟨q1,q2,rss,q3,q4,q5⟩:=hq
 have hroom: ∀j,j<e.size→n*e.size+j<l.cap*e.size:=fun j hj=>bY (by omega) hj
 have hcell: ∀j,j<cs.length→ ∃u,w.cell? ⟨b,o0+n*e.size+j,none⟩=some u:=fun j hj=>by
  have:=(h11 (n*e.size+j) (hroom _ (by omega))).1
  rwa [←Nat.add_assoc]at this
 have hself: ∀b' o',cov l.dp b' o'→inR (l,Ob.arr e ver false xs) b' o':=fun b' o' hc=>.inr ⟨rfl,hc⟩
 have hnew: ∀b' o',cov rs b' o'→ ¬inR (l,Ob.arr e ver false xs) b' o':=fun b' o' hc hi=>by
  obtain⟨j,h1,p,h2,h3⟩:=hrs b' o' hc
  exact him (R.ro.sep j i p _ b' o' h2 hL h3 hi▸h1)
 have hout: ∀b' o',(cov l.dp b' o'∨cov rs b' o')→ ¬(b'=b∧o0≤o'∧o'<o0+l.cap*e.size):=fun b' o' hc hh=>by
  rcases hc with hc|hc
  ·exact(q1 b' o' hc).2 hh
  ·refine hnew b' o' hc (.inl ⟨o0,by rw [hh.1];exact hb,hh.2.1, ?_⟩)
   simpa only [ext,Bool.false_eq_true,if_false]using hh.2.2
 have hsame: ∀b' o',¬(b'=b∧o0≤o'∧o'<o0+l.cap*e.size)→(w.setCells b (o0+n*e.size) cs).cell? ⟨b',o',none⟩=w.cell? ⟨b',o',none⟩:=fun b' o' hh=>by
  refine World.cell?_setCells_out b cs (o0+n*e.size) w ⟨b',o',none⟩ fun e1 _=> ?_
  simp only at e1⊢
  have e2:(n+1)*e.size≤l.cap*e.size:=Nat.mul_le_mul_right _ (by omega)
  rw [Nat.add_mul]at e2
  rcases Nat.lt_or_ge o' (o0+n*e.size)with h|h
  ·exact .inl h
  ·refine .inr (Nat.le_of_not_lt fun h2=>hh ⟨e1,by omega,by omega⟩)
 have hpw:(rss.set n rs).flatten.Pairwise dj:=HO (by rw [←q3];exact q2) hdj fun x hx z hz b' o' h1 h2=>hnew b' o' (kL h2 hz) (hself b' o' (by rw [q3];exact kL h1 hx))
 have hcovs: ∀b' o',cov (rss.set n rs).flatten b' o'→cov l.dp b' o'∨cov rs b' o':=fun b' o' hc=>by
  obtain⟨x,hx,hc⟩:=hc
  rcases gg hx with h|h
  ·exact .inl (by rw [q3];exact⟨x,h,hc⟩)
  ·exact .inr ⟨x,h,hc⟩
 have hTi:Turn L (upd L i ((⟨l.base,l.cap,(rss.set n rs).flatten⟩:Loc),.arr e ver false (xs.set n y))):=by
  intro j l1 y1 hj
  by_cases hji:j=i
  ·subst hji
   rw [hL]at hj;cases hj
   exact⟨_,_,av _ _ _,ver,false,_,rfl,Nat.le_refl _,fun _=>⟨⟨rfl,rfl⟩,by simp⟩⟩
  ·obtain⟨l',x',h1,h2⟩:=Turn.refl L j l1 y1 hj
   exact⟨l',x',by rw [aG L _ hji];exact h1,h2⟩
 obtain⟨g1,g2,g3⟩:=R.ro.take hK (ms:=ms) (i:=i) (p':=((⟨l.base,l.cap,(rss.set n rs).flatten⟩:Loc),.arr e ver false (xs.set n y))) (w':=w.setCells b (o0+n*e.size) cs)
  (fun j hj=>(hown j hj).imp fun p h=>⟨h.1,nJ h.2⟩) him
  (Fr.setCells b _ _ w fun j hj=>.inl ⟨_,hL,.inl ⟨o0,hb,by omega,by
   have:=hroom j (by omega)
   simp only [ext,Bool.false_eq_true,if_false];omega⟩⟩) hTi
  (fun ht=>eu he hb (by simpa using h9) (fun j hj=>by
   obtain⟨⟨u,k1⟩,k2⟩:=h11 j hj
   refine⟨?_,by rw [World.frozen?_setCells];exact k2⟩
   rw [bC hcell]
   split
   ·exact⟨_,List.getElem?_eq_getElem (by omega)⟩
   ·exact⟨u,k1⟩) (by
   unfold Dq
   rw [he]
   refine⟨fun b' o' hc=>⟨?_,hout b' o' (hcovs b' o' hc)⟩,hpw,rss.set n rs,rfl,by simp [q4],fun j hj=> ?_⟩
   ·rw [hsame b' o' (hout b' o' (hcovs b' o' hc)),World.frozen?_setCells]
    rcases hcovs b' o' hc with hc|hc
    ·exact(q1 b' o' hc).1
    ·obtain⟨j,h1,p,h2,h3⟩:=hrs b' o' hc
     obtain⟨p',h4,h5⟩:=hown j h1
     rw [h2]at h4;cases h4
     exact d7 (R.ro.ok j p h2) (by obtain⟨_,x⟩:=p;cases x<;>simp_all [gf,nz]) h3
   ·have hj':j<xs.length:=by simpa using hj
    by_cases hjn:j=n
    ·subst hjn
     refine⟨cs,hlen, ?_,fun q hq=> ?_⟩
     ·rw [List.getD_eq_getElem?_getD,List.getElem?_set_self (by omega)]
      simp only [List.getElem_set_self,Option.getD_some]
      exact lw e hy fun b' o' hc=>hsame b' o' (hout b' o' (.inr hc))
     ·rw [bC hcell,if_pos (by omega)]
      congr 1;omega
    ·obtain⟨ds,k1,k2,k3⟩:=q5 j hj'
     refine⟨ds,k1, ?_,fun q hq=> ?_⟩
     ·rw [List.getD_eq_getElem?_getD,List.getElem?_set_ne (by omega),←List.getD_eq_getElem?_getD,List.getElem_set_ne (by omega)]
      refine lw e k2 fun b' o' hc=>hsame b' o' (hout b' o' (.inl ?_))
      rw [q3];exact kJ (by omega) hc
     ·rw [World.cell?_setCells_out b _ _ w _ (fun _ _=>by
       simp only
       rcases Nat.lt_or_gt_of_ne hjn with hlt'|hlt'
       ·left
        have:(j+1)*e.size≤n*e.size:=Nat.mul_le_mul_right _ hlt'
        rw [Nat.add_mul]at this;omega
       ·right
        have:(n+1)*e.size≤j*e.size:=Nat.mul_le_mul_right _ hlt'
        rw [Nat.add_mul]at this;omega)]
      exact k3 q hq))
  (fun b' o' hr=>by
   rcases hr with⟨x0,e1,e2,e3⟩|⟨_,hc⟩
   ·exact .inl (.inl ⟨_,hL,.inl ⟨x0,e1,e2,e3⟩⟩)
   ·rcases hcovs b' o' hc with hc|hc
    ·exact .inl (.inl ⟨_,hL,hself b' o' hc⟩)
    ·exact .inl (.inr (hrs b' o' hc)))
 exact Does.skip hrun g1 (nN R hob i _ _) g3 g2
end Go.Proofs.YtihabpimbfmhhaaGreatDoor.Ev
