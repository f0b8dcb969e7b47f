/- The texts Ev10, one behind the other. -/
import Derived.Test.YtgknmoadpgpdeaaGreatDoorK5
import Derived.Deep.AppendSrc
namespace Go.Proofs.YtgknmoadpgpdeaaGreatDoor.Ev
open Go Go.RowKit
set_option linter.unusedSimpArgs false
variable {K: Ctx} {w0: World} {M0: Bd} {L: Lk} {st: St} {a: Act} {w: World} {o: Oper} {M: Nat→Nat→Prop}
theorem su (ρ: Operand→Value) {c: Call} {b: Builtin} (t: TypeId) (hb: c.callee= .builtin b):
 ∃ cons,resolve ρ c t=pure { target:= .builtin b c.argTypes t cons,args:=c.args.map ρ }:=by
 unfold resolve
 rw [hb]
 exact ⟨_,rfl⟩
theorem jl {c: Call} {b: Builtin} (h: o.op= .call c) (hb: c.callee= .builtin b):
 ∃ cons,(execOp a.eval o).run K.P w=(builtin b c.argTypes o.type cons (c.args.map a.eval)).run K.P w:=by
 obtain ⟨cons,hc⟩:=su a.eval o.type hb
 refine ⟨cons,?_⟩
 simp only [execOp,h,hc,Sem.run_bind,Sem.run_pure,Result.andThen_ok,invoke]
theorem rp {x y: AV} {cs: List Value} (h: aX L w M [x,y] cs): ∃ c d,cs=[c,d]∧rel L w M x c∧rel L w M y d:=by
 obtain ⟨c,cs',rfl,h1,h2⟩:=aY h
 obtain ⟨d,ds,rfl,h3,h4⟩:=aY h2
 have:=fE h4
 subst this
 exact ⟨c,d,rfl,h1,h3⟩
theorem yd {x: AV} {cs: List Value} (h: aX L w M [x] cs): ∃ c,cs=[c]∧rel L w M x c:=by
 obtain ⟨c,cs',rfl,h1,h2⟩:=aY h
 have:=fE h2
 subst this
 exact ⟨c,rfl,h1⟩
theorem sw {xs: Array Operand} {a: Act} {cs: List Value} (h: xs.toList.map a.eval=cs): xs.map a.eval=cs.toArray:=by
 apply Array.ext';simp [h]
theorem ado {C: ek} {O: Opt} (hK: K.Ok) {c: Call} (h: o.op= .call c) (hb: c.callee= .builtin .len): lu K C O o:=by
 intro w0 M0 L st a w d k t r R he
 rw [h] at he
 simp only [op1,hb] at he
 split at he
 case h_2=>exact (ac he).elim
 rename_i ty tys hty
 obtain ⟨vs,t1,he1,hvs⟩:=km R he
 split at he1
 case h_2=>exact (ac he1).elim
 rename_i x
 obtain ⟨v,hv1,hv⟩:=yd hvs
 obtain ⟨cons,hrun⟩:=jl (K:=K) (a:=a) (w:=w) h hb
 have ht0: c.argTypes[0]? =some ty:=by
  have: c.argTypes.toList[0]? =some ty:=by rw [hty];rfl
  simpa using this
 rw [sw hv1] at hrun
 have fin: ∀ {n: Nat} {t': List Ac},(k (.int .i64 n)).ex st t'=some r→(Builtin.len_ c.argTypes o.type #[v]).run K.P w= .ok (goInt n) w→∃ v objs t',(k v).ex ⟨st.env,objs⟩ t'=some r∧Does K w0 M0 o a w L objs v:=by
  intro n t' h1 h2
  refine ⟨_,st.objs,t',h1,Does.same R (v':= .int .i64 n) ?_ (by simp [rel])⟩
  rw [hrun]
  simp [builtin,h2,goInt]
 have slc: ∀ {y: AV},(agq K ty y fun n=>k (.int .i64 n)).ex st t1=some r→rel L w (Mut L) y v→∃ v objs t',(k v).ex ⟨st.env,objs⟩ t'=some r∧Does K w0 M0 o a w L objs v:=by
  intro y hy hv
  unfold agq at hy
  split at hy
  case h_2=>exact (ac hy).elim
  rename_i te hel
  obtain ⟨g0,_⟩:=hK.elt ty te.1 te.2.1 te.2.2 hel
  cases y with
  | sh e l=>
    simp only [rel] at hv
    obtain ⟨p,m,cc,h2,rfl,h3,h4⟩:=hv
    simp only [List.cons.injEq,and_true] at h2
    subst h2
    exact fin hy (by simp [Builtin.len_,ht0,run_underlying g0])
  | nil e=>
    have:=kn hv
    subst this
    exact fin hy (by simp [Builtin.len_,ht0,run_underlying g0])
  | ref j ver=>
    obtain ⟨z,h2,h3⟩:=cN hy
    cases z with
    | var _=>exact (ac h3).elim
    | map _ _ _ _=>exact (ac h3).elim
    | arr e v' z xs=>
      simp only at h3
      split at h3
      case isFalse=>exact (ac h3).elim
      rename_i hver
      simp only [rel] at hv
      obtain ⟨l,e',cur,z',xs',p,m,cc,h4,h5,h6,h7⟩:=hv
      have hob:=R.ob j
      rw [h2,h4] at hob
      simp only [Option.map_some,Option.some.injEq,Ob.arr.injEq] at hob
      obtain ⟨rfl,rfl,rfl,hxs⟩:=hob
      have hxs:=eq_of_heq hxs
      subst hxs
      obtain ⟨rfl,rfl,rfl⟩:=h7 hver
      subst h6
      exact fin h3 (by simp [Builtin.len_,ht0,run_underlying g0])
  | _=>exact (ac hy).elim
 cases x with
 | str s=>
   simp only [agr] at he1
   split at he1
   case h_2=>exact (ac he1).elim
   rename_i hl
   simp only [rel] at hv
   subst hv
   exact fin he1 (by simp [Builtin.len_,ht0,run_underlying (kp hK hl rfl),rn])
 | _=>simp only [agr] at he1;exact slc he1 hv
theorem adp {C: ek} {O: Opt} {c: Call} (h: o.op= .call c) (hb: c.callee= .builtin .min): lu K C O o:=by
 intro w0 M0 L st a w d k t r R he
 rw [h] at he
 simp only [op1,hb] at he
 obtain ⟨vs,t1,he1,hvs⟩:=km R he
 obtain ⟨cons,hrun⟩:=jl (K:=K) (a:=a) (w:=w) h hb
 split at he1
 case h_2=>exact (ac he1).elim
 rename_i ki p kj q
 obtain ⟨x,y,hv1,hx,hy⟩:=rp hvs
 rw [sw hv1] at hrun
 simp only [rel] at hx hy
 subst hx;subst hy
 refine ⟨_,st.objs,_,he1,Does.same R (v':= .int ki (if q < p then q else p)) ?_ (by simp [rel])⟩
 rw [hrun]
 simp [builtin,Builtin.min_,Builtin.min2]
theorem adq {C: ek} {O: Opt} {c: Call} (h: o.op= .call c) (hb: c.callee= .builtin .max): lu K C O o:=by
 intro w0 M0 L st a w d k t r R he
 rw [h] at he
 simp only [op1,hb] at he
 obtain ⟨vs,t1,he1,hvs⟩:=km R he
 obtain ⟨cons,hrun⟩:=jl (K:=K) (a:=a) (w:=w) h hb
 split at he1
 · rename_i ki p kj q
   obtain ⟨x,y,hv1,hx,hy⟩:=rp hvs
   rw [sw hv1] at hrun
   simp only [rel] at hx hy
   subst hx;subst hy
   refine ⟨_,st.objs,_,he1,Does.same R (v':= .int ki (if p < q then q else p)) ?_ (by simp [rel])⟩
   rw [hrun]
   simp [builtin,Builtin.max_,Builtin.max2]
 · rename_i ki p kj q kl s
   obtain ⟨x,ys,hv1,hx,hys⟩:=aY hvs
   obtain ⟨y,z,rfl,hy,hz⟩:=rp hys
   rw [sw hv1] at hrun
   simp only [rel] at hx hy hz
   subst hx;subst hy;subst hz
   refine ⟨_,st.objs,_,he1,Does.same R (v':= .int ki (if (if p < q then q else p) < s then s else (if p < q then q else p))) ?_ (by simp [rel])⟩
   rw [hrun]
   simp [builtin,Builtin.max_,Builtin.max2]
 · exact (ac he1).elim
theorem EY {C: ek} {O: Opt} {f: Fn} {xs ys: Array Operand} (h: o.op= .makeFunc f xs ys): lu K C O o:=by
 intro w0 M0 L st a w d k t r R he
 rw [h] at he
 cases f with
 | func g=>
   simp only [op1] at he
   split at he
   case h_2=>exact (ac he).elim
   rename_i hx
   obtain ⟨vs,t1,he1,hvs⟩:=km R he
   refine ⟨_,st.objs,t1,he1,Does.same R (v':= .func (.func g) #[] (ys.map a.eval)) ?_ ?_⟩
   · have: xs=#[]:=by apply Array.ext';simpa using hx
     simp [execOp,h,this,Instr.makeFunc]
   · simp only [rel]
     exact ⟨_,rfl,by simpa using hvs⟩
 | _=>exact (ac he).elim
end Go.Proofs.YtgknmoadpgpdeaaGreatDoor.Ev
