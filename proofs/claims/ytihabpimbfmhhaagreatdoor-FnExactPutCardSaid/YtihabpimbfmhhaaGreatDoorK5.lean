/- The texts Ev9, one behind the other. -/
import Derived.Test.YtihabpimbfmhhaaGreatDoorK4
import Derived.Laws.Concat
import Derived.Laws.IdiomStrings
import Derived.Laws.BytesString
import Derived.Laws.Slices
import Derived.WideLaws
namespace Go.Proofs.YtihabpimbfmhhaaGreatDoor.Ev
open Go Go.RowKit
set_option linter.unusedSimpArgs false
variable {K:Ctx} {w0:World} {M0:Bd} {L:Lk} {st:St} {a:Act} {w:World} {o:Oper} {M:Nat→Nat→Prop}
theorem fp (a b:List UInt8):(a==b)=decide (a=b):=by
 rw [Bool.eq_iff_iff];simp
theorem Qe {P:Program} (d:Nat) {t:TypeId} {c:CT} (hp:vO P t c=true) {x y:AV} {u v:Value} {r:Bool} (hx:rel L w M x u) (hy:rel L w M y v) (h:leq c x y=some r):
 (isAgg t).run P w= .ok false w∧(Op.equalIn (d+1) t u v).run P w= .ok r w:=by
 unfold leq at h
 split at h
 ·simp only [rel]at hx hy
  subst hx;subst hy
  split at h
  case isFalse=>cases h
  rename_i hk
  subst hk
  cases h
  simp only [vO]at hp
  split at hp
  ·rename_i hu;exact⟨by simp [isAgg,run_underlying hu],by rw [run_equalIn_int w d _ _ _ _ _ hu];rfl⟩
  ·cases hp
 ·simp only [rel]at hx hy
  subst hx;subst hy
  cases h
  simp only [vO]at hp
  split at hp
  ·rename_i hu;exact⟨by simp [isAgg,run_underlying hu],run_equalIn_bool w d _ _ _ hu⟩
  ·cases hp
 ·simp only [rel]at hx hy
  subst hx;subst hy
  cases h
  simp only [vO]at hp
  split at hp
  ·rename_i hu
   refine⟨by simp [isAgg,run_underlying hu], ?_⟩
   rw [run_equalIn_string w d _ _ _ hu,ByteArray.toList_mk,ByteArray.toList_mk,fp]
  ·cases hp
 ·cases h
theorem Cb {P:Program} (d:Nat): ∀(fs:List Field) (cs:List CT) (n:Nat),Fa P n fs cs=true→ ∀{xs ys:List AV} {us vs:Array Value} {r:Bool},
 aK L w M xs (us.toList.drop n)→aK L w M ys (vs.toList.drop n)→Rd cs xs ys=some r→(Op.eqFields (d+1) us vs fs).run P w= .ok r w
 | [],[],n,hf,xs,ys,us,vs,r,hx,hy,hr=>by
   match xs,ys,hr with
   | [],[],hr=>simp [Rd]at hr;subst hr;simp [Op.eqFields]
 | [],_::_,n,hf,xs,ys,us,vs,r,hx,hy,hr=>by simp [Fa]at hf
 |_::_,[],n,hf,xs,ys,us,vs,r,hx,hy,hr=>by simp [Fa]at hf
 |f::fs,c::cs,n,hf,xs,ys,us,vs,r,hx,hy,hr=>by
  match xs,ys,hr with
  |x::xs,y::ys,hr=>
    simp only [Rd]at hr
    split at hr
    case h_2=>cases hr
    rename_i r1 r2 h1 h2
    simp only [Option.some.injEq]at hr
    subst hr
    obtain⟨u,us',hu,hx1,hx2⟩:=aL hx
    obtain⟨v,vs',hv,hy1,hy2⟩:=aL hy
    simp only [Fa,Bool.and_eq_true,bne_iff_ne,ne_eq,beq_iff_eq]at hf
    obtain⟨⟨⟨hn,ho⟩,hp⟩,hf'⟩:=hf
    have hul:us[n]? =some u:=by
     have:=congrArg (·[0]?) hu
     simpa using this
    have hvl:vs[n]? =some v:=by
     have:=congrArg (·[0]?) hv
     simpa using this
    have hus:us'=us.toList.drop (n+1):=by
     have:=congrArg List.tail hu
     simpa using this.symm
    have hvs:vs'=vs.toList.drop (n+1):=by
     have:=congrArg List.tail hv
     simpa using this.symm
    subst hus
    subst hvs
    have ih:=Cb d fs cs (n+1) hf' hx2 hy2 h2
    obtain⟨hagg,heq⟩:=Qe d hp hx1 hy1 h1
    have hpu:(part f.type us f.offset).run P w= .ok u w:=by simp [part,hagg,ho,hul]
    have hpv:(part f.type vs f.offset).run P w= .ok v w:=by simp [part,hagg,ho,hvl]
    simp only [Op.eqFields,hn,if_true,ne_eq,not_false_eq_true,Sem.run_bind,hpu,hpv,heq,Result.andThen_ok]
    cases r1 with
    |true=>simpa using ih
    |false=>simp
theorem Fe (hK:K.Ok) {t:TypeId} {cs:List CT} (hf:K.flat t=some cs) {xs ys:List AV} {us vs:Array Value} {r:Bool} (hx:aK L w M xs us.toList) (hy:aK L w M ys vs.toList) (hr:Rd cs xs ys=some r):
 (Op.equalIn 10000 t (.agg us) (.agg vs)).run K.P w= .ok r w∧K.P.eqGuardType K.P.depth t=false:=by
 have h:=hK.flat t cs hf
 unfold HH at h
 simp only [Bool.and_eq_true,Bool.not_eq_true']at h
 obtain⟨⟨h1,h2⟩,h3⟩:=h
 split at h1
 case h_2=>cases h1
 rename_i fs hu
 have hfo:K.P.fieldsOf t=fs:=by simp [Program.fieldsOf,hu]
 refine⟨?_,h3⟩
 rw [run_equalIn_struct w 9999 t us vs (by rw [hfo];exact hu) h2,hfo]
 exact Cb 9998 fs.toList cs 0 h1 (by simpa using hx) (by simpa using hy) hr
theorem RE (P:Program) (d:Nat) {t:TypeId} {ms:Array (String×TypeId)} (h:P.underlying t=some (.interface ms)):(Op.equalIn (d+1) t .nilIface .nilIface).run P w= .ok true w:=by
 simp [Op.equalIn,run_underlying h]
theorem RF (P:Program) (d:Nat) {t u:TypeId} {x:Value} {ms:Array (String×TypeId)} (h:P.underlying t=some (.interface ms)):(Op.equalIn (d+1) t (.iface u x) .nilIface).run P w= .ok false w:=by
 simp [Op.equalIn,run_underlying h]
theorem OO (P:Program) (d:Nat) {t e:TypeId} (p:Option Addr) (h:P.underlying t=some (.pointer e)):(Op.equalIn (d+1) t (.pointer p) (.pointer none)).run P w= .ok p.isNone w:=by
 cases p<;>simp [Op.equalIn,run_underlying h]
theorem OP (P:Program) (d:Nat) {t e:TypeId} (p:Option Addr) (n c:Nat) (h:P.underlying t=some (.slice e)):(Op.equalIn (d+1) t (.slice p n c) (.slice none 0 0)).run P w= .ok p.isNone w:=by
 cases p<;>simp [Op.equalIn,run_underlying h]
theorem MM {C:cy} {O:Opt} (hK:K.Ok) {op:BinOp} {xt yt:TypeId} {x y:Operand} (h:o.op= .binOp op xt x y yt):ic K C O o:=by
 intro w0 M0 L st a w d k t r R he
 rw [h]at he
 simp only [op1]at he
 obtain⟨v,t1,he1,hv⟩:=a7 R he
 obtain⟨u,t2,he2,hu⟩:=a7 R he1
 clear he he1
 have fin: ∀{b:AV} {v':Value} {t':List Ac},(k b).ex st t'=some r→(eqGuard op xt x y (a.eval x) (a.eval y)).run K.P w= .ok () w→(binOp op xt (a.eval x) (a.eval y)).run K.P w= .ok v' w→rel L w (Mut L) b v'→
  ∃v objs t',(k v).ex ⟨st.env,objs⟩ t'=some r∧Does K w0 M0 o a w L objs v:=by
  intro b v' t' h1 h2 h2' h3
  refine⟨b,st.objs,t',h1,Does.same R (v':=v') ?_ h3⟩
  simp [execOp,h,h2,h2']
 have feq: ∀{b:Bool} {t':List Ac},(eqv op b k).ex st t'=some r→(eqGuard op xt x y (a.eval x) (a.eval y)).run K.P w= .ok () w→(Op.equalIn 10000 xt (a.eval x) (a.eval y)).run K.P w= .ok b w→
  (binOp .eql xt (a.eval x) (a.eval y)=(do pure (.bool (←Op.equal xt (a.eval x) (a.eval y))))∧binOp .neq xt (a.eval x) (a.eval y)=(do pure (.bool (!(←Op.equal xt (a.eval x) (a.eval y))))))→
  ∃v objs t',(k v).ex ⟨st.env,objs⟩ t'=some r∧Does K w0 M0 o a w L objs v:=by
  intro b t' h1 h2 h3 h4
  obtain⟨h5,h6⟩:=h4
  cases op with
  |eql=>exact fin h1 h2 (v':=.bool b) (by rw [h5];simp [Op.equal,Op.maxDepth,h3]) (by simp [rel])
  |neq=>exact fin h1 h2 (v':=.bool (!b)) (by rw [h6];simp [Op.equal,Op.maxDepth,h3]) (by simp [rel])
  |_=>exact(ab h1).elim
 have rest:(TZ K xt (isC x||isC y) op v u k).ex st t2=some r→ ∃v objs t',(k v).ex ⟨st.env,objs⟩ t'=some r∧Does K w0 M0 o a w L objs v:=by
  intro he
  unfold TZ at he
  split at he
  ·rename_i hl
   obtain⟨i,d',g1,g2,_,_,g5,g6⟩:=hK.lay xt _ _ hl
   have hu':K.P.underlying xt=some .bool:=by rw [g2];cases d'<;>simp [sm,iI,HI]at g5 g6;rfl
   split at he
   ·simp only [rel]at hv hu
    refine feq he (by rw [hv,eqGuard_at_bool];rfl) (by rw [hv,hu];exact run_equalIn_bool w 9999 _ _ _ hu') ⟨?_, ?_⟩<;>rw [hv,hu]<;>rfl
   ·exact(ab he).elim
  ·rename_i hl
   obtain⟨i,d',g1,g2,_,_,g5,g6⟩:=hK.lay xt _ _ hl
   obtain⟨ms,hu'⟩: ∃ms,K.P.underlying xt=some (.interface ms):=by rw [g2];cases d'<;>simp [sm,iI,HI]at g5 g6;exact⟨_,rfl⟩
   split at he
   ·rename_i hc
    simp only [rel]at hv hu
    refine feq he ?_ (by rw [hv,hu];exact RE _ 9999 hu') ⟨?_, ?_⟩
    ·rw [hv,hu]
     simp only [Bool.or_eq_true]at hc
     rcases hc with hc|hc
     ·cases x<;>simp [isC]at hc;rw [eqGuard_nil_constL];rfl
     ·cases y<;>simp [isC]at hc;rw [eqGuard_nil_constR];rfl
    ·rw [hv,hu];rfl
    ·rw [hv,hu];rfl
   ·simp only [rel]at hv hu
    obtain⟨t',x',hv⟩:=hv
    refine feq he (by rw [hv,eqGuard_at_iface];rfl) (by rw [hv,hu];exact RF _ 9999 hu') ⟨?_, ?_⟩<;>rw [hv,hu]<;>rfl
   ·exact(ab he).elim
  ·rename_i hl
   obtain⟨i,d',g1,g2,_,_,g5,g6⟩:=hK.lay xt _ _ hl
   obtain⟨ms,hu'⟩: ∃ms,K.P.underlying xt=some (.pointer ms):=by rw [g2];cases d'<;>simp [sm,iI,HI]at g5 g6;exact⟨_,rfl⟩
   split at he
   ·simp only [rel]at hv hu
    refine feq he (by rw [hv,eqGuard_at_pointer];rfl) (by rw [hv,hu];exact OO _ 9999 _ hu') ⟨?_, ?_⟩<;>rw [hv,hu]<;>rfl
   ·simp only [rel]at hv hu
    obtain⟨_,_,_,_,_,hv⟩:=hv
    refine feq he (by rw [hv,eqGuard_at_pointer];rfl) (by rw [hv,hu];exact OO _ 9999 _ hu') ⟨?_, ?_⟩<;>rw [hv,hu]<;>rfl
   ·exact(ab he).elim
  ·rename_i e' hl
   obtain⟨i,d',g1,g2,_,_,g5,g6⟩:=hK.lay xt _ _ hl
   obtain⟨te,hu'⟩: ∃te,K.P.underlying xt=some (.slice te):=by rw [g2];cases d'<;>simp [sm,iI,HI]at g5 g6;exact⟨_,rfl⟩
   split at he
   ·simp only [rel]at hv hu
    refine feq he (by rw [hv,eqGuard_at_slice];rfl) (by rw [hv,hu];exact OP _ 9999 _ _ _ hu') ⟨?_, ?_⟩<;>rw [hv,hu]<;>rfl
   ·rename_i j ver _
    obtain⟨y',k1,k2⟩:=br he
    split at k2
    ·split at k2
     case isFalse=>exact(ab k2).elim
     rename_i hver
     simp only [rel]at hv hu
     obtain⟨l,e,cur,z,xs,p,m,c,h4,h5,h6,h7⟩:=hv
     have hob:=R.ob j
     rw [k1,h4]at hob
     simp only [Option.map_some,Option.some.injEq,Ob.arr.injEq]at hob
     obtain⟨rfl,rfl,rfl,hxs⟩:=hob
     have hxs:=eq_of_heq hxs
     subst hxs
     obtain⟨rfl,rfl,rfl⟩:=h7 hver
     rcases R.ro.ok j _ h4 with⟨_,h8,_⟩|⟨b,o0,h8,_⟩
     ·cases h8
     ·simp only at h8
      obtain⟨m,h6'⟩: ∃m,a.eval x= .slice (some ⟨b,o0,none⟩) m l.cap:=⟨_,h6.trans (by rw [show l.addr=some ⟨b,o0,none⟩ by simp only [Loc.addr,h8,Option.map_some]])⟩
      refine feq k2 (by rw [h6',eqGuard_at_slice];rfl) (by rw [h6',hu];exact OP _ 9999 _ _ _ hu') ⟨?_, ?_⟩<;>rw [h6',hu]<;>rfl
    ·exact(ab k2).elim
   ·exact(ab he).elim
  ·exact(ab he).elim
 cases v with
 |int ki p=>
  cases u with
  |int kj q=>
   simp only [rel]at hv hu
   have hg:(eqGuard op xt x y (a.eval x) (a.eval y)).run K.P w= .ok () w:=by rw [hv,eqGuard_at_int];rfl
   cases op with
   |shl=>
    obtain⟨h0,he2⟩:=bw he2
    simp only [Bool.not_eq_true',decide_eq_false_iff_not]at h0
    exact fin he2 hg (v':=.int ki (ib ki (p*2^(min q.toNat ki.bits)))) (by rw [hv,hu,binOp_shl];simp [Op.shift,h0,fm]) (by simp [rel])
   |shr=>
    obtain⟨h0,he2⟩:=bw he2
    simp only [Bool.not_eq_true',decide_eq_false_iff_not]at h0
    exact fin he2 hg (v':=.int ki (p.fdiv (2^(min q.toNat ki.bits)))) (by rw [hv,hu,binOp_shr];simp [Op.shift,h0]) (by simp [rel])
   |add=>
    simp only [vI]at he2;split at he2
    case isFalse=>exact(ab he2).elim
    rename_i hk;subst hk
    exact fin he2 hg (v':=.int ki (ib ki (p+q))) (by rw [hv,hu,binOp_add];simp [Op.intArith,fm]) (by simp [rel])
   |sub=>
    simp only [vI]at he2;split at he2
    case isFalse=>exact(ab he2).elim
    rename_i hk;subst hk
    exact fin he2 hg (v':=.int ki (ib ki (p-q))) (by rw [hv,hu,binOp_sub];simp [Op.intArith,fm]) (by simp [rel])
   |mul=>
    simp only [vI]at he2;split at he2
    case isFalse=>exact(ab he2).elim
    rename_i hk;subst hk
    exact fin he2 hg (v':=.int ki (ib ki (p*q))) (by rw [hv,hu,binOp_mul];simp [Op.intArith,fm]) (by simp [rel])
   |quo=>
    simp only [vI]at he2;split at he2
    case isFalse=>exact(ab he2).elim
    rename_i hk;subst hk
    obtain⟨h0,he2⟩:=bw he2
    simp only [Bool.not_eq_true',decide_eq_false_iff_not]at h0
    exact fin he2 hg (v':=.int ki (ib ki (p.tdiv q))) (by rw [hv,hu,binOp_quo];simp [Op.intDiv,h0,fm]) (by simp [rel])
   |rem=>
    simp only [vI]at he2;split at he2
    case isFalse=>exact(ab he2).elim
    rename_i hk;subst hk
    obtain⟨h0,he2⟩:=bw he2
    simp only [Bool.not_eq_true',decide_eq_false_iff_not]at h0
    exact fin he2 hg (v':=.int ki (p.tmod q)) (by rw [hv,hu,binOp_rem];simp [Op.intDiv,h0]) (by simp [rel])
   |eql=>
    simp only [vI]at he2;split at he2
    case isFalse=>exact(ab he2).elim
    rename_i hk;subst hk
    exact fin he2 hg (v':=.bool (decide (p=q))) (by rw [hv,hu,binOp_eql];rfl) (by simp [rel])
   |neq=>
    simp only [vI]at he2;split at he2
    case isFalse=>exact(ab he2).elim
    rename_i hk;subst hk
    exact fin he2 hg (v':=.bool (!decide (p=q))) (by rw [hv,hu,binOp_neq];rfl) (by simp [rel])
   |lss=>
    simp only [vI]at he2;split at he2
    case isFalse=>exact(ab he2).elim
    rename_i hk;subst hk
    exact fin he2 hg (v':=.bool (decide (p<q))) (by rw [hv,hu,binOp_lss];rfl) (by simp [rel])
   |leq=>
    simp only [vI]at he2;split at he2
    case isFalse=>exact(ab he2).elim
    rename_i hk;subst hk
    exact fin he2 hg (v':=.bool (decide (p≤q))) (by rw [hv,hu,binOp_leq];rfl) (by simp [rel])
   |gtr=>
    simp only [vI]at he2;split at he2
    case isFalse=>exact(ab he2).elim
    rename_i hk;subst hk
    exact fin he2 hg (v':=.bool (decide (q<p))) (by rw [hv,hu,binOp_gtr];rfl) (by simp [rel])
   |geq=>
    simp only [vI]at he2;split at he2
    case isFalse=>exact(ab he2).elim
    rename_i hk;subst hk
    exact fin he2 hg (v':=.bool (decide (q≤p))) (by rw [hv,hu,binOp_geq];rfl) (by simp [rel])
   |and=>
    simp only [vI]at he2;split at he2
    case isFalse=>exact(ab he2).elim
    rename_i hk;subst hk
    exact fin he2 hg (v':=.int ki (wkk ki (BitVec.ofInt ki.bits p&&& BitVec.ofInt ki.bits q).toNat)) (by rw [hv,hu,binOp_and,nt];rfl) (by simp [rel])
   |or=>
    simp only [vI]at he2;split at he2
    case isFalse=>exact(ab he2).elim
    rename_i hk;subst hk
    exact fin he2 hg (v':=.int ki (wkk ki (BitVec.ofInt ki.bits p|||BitVec.ofInt ki.bits q).toNat)) (by rw [hv,hu,binOp_or,nt];rfl) (by simp [rel])
   |xor=>
    simp only [vI]at he2;split at he2
    case isFalse=>exact(ab he2).elim
    rename_i hk;subst hk
    exact fin he2 hg (v':=.int ki (wkk ki (BitVec.ofInt ki.bits p^^^BitVec.ofInt ki.bits q).toNat)) (by rw [hv,hu,binOp_xor,nt];rfl) (by simp [rel])
   |andNot=>
    simp only [vI]at he2;split at he2
    case isFalse=>exact(ab he2).elim
    rename_i hk;subst hk
    exact fin he2 hg (v':=.int ki (wkk ki (BitVec.ofInt ki.bits p&&& ~~~BitVec.ofInt ki.bits q).toNat)) (by rw [hv,hu,binOp_andNot,nt];rfl) (by simp [rel])
  |_=>exact rest he2
 |str p=>
  cases u with
  |str q=>
   simp only [rel]at hv hu
   have hg:(eqGuard op xt x y (a.eval x) (a.eval y)).run K.P w= .ok () w:=by rw [hv,eqGuard_at_string];rfl
   have hb:binOp op xt (a.eval x) (a.eval y)=Op.stringOp op ⟨p.toArray⟩ ⟨q.toArray⟩:=by rw [hv,hu];cases op<;>rfl
   cases op with
   |add=>
    obtain⟨h0,he2⟩:=bw he2
    simp only [decide_eq_true_eq]at h0
    exact fin he2 hg (v':=.string ⟨(p++q).toArray⟩) (by rw [hb,run_string_add_sum w _ _ (by simp only [mK];omega),ByteArray.mk_append_mk]) (by simp [rel])
   |eql=>exact fin he2 hg (v':=.bool (decide (p=q))) (by rw [hb];simp only [Op.stringOp,ByteArray.toList_mk,fp];rfl) (by simp [rel])
   |neq=>exact fin he2 hg (v':=.bool (!decide (p=q))) (by rw [hb];simp only [Op.stringOp,ByteArray.toList_mk,fp];rfl) (by simp [rel])
   |lss=>exact fin he2 hg (v':=.bool (Op.bytesLess p q)) (by rw [hb];simp only [Op.stringOp,ByteArray.toList_mk,fp];rfl) (by simp [rel])
   |leq=>exact fin he2 hg (v':=.bool (Op.bytesLess p q||decide (p=q))) (by rw [hb];simp only [Op.stringOp,ByteArray.toList_mk,fp];rfl) (by simp [rel])
   |gtr=>exact fin he2 hg (v':=.bool (!(Op.bytesLess p q||decide (p=q)))) (by rw [hb];simp only [Op.stringOp,ByteArray.toList_mk,fp];rfl) (by simp [rel])
   |geq=>exact fin he2 hg (v':=.bool (!Op.bytesLess p q)) (by rw [hb];simp only [Op.stringOp,ByteArray.toList_mk,fp];rfl) (by simp [rel])
   |_=>exact(ab he2).elim
  |_=>exact rest he2
 |agg p=>
  cases u with
  |agg q=>
   simp only [vI]at he2
   split at he2
   case h_2=>exact(ab he2).elim
   rename_i cs hf
   simp only [rel]at hv hu
   obtain⟨us,hv,hx,_⟩:=hv
   obtain⟨vs,hu,hy,_⟩:=hu
   split at he2
   case h_2=>exact(ab he2).elim
   rename_i r1 hr
   obtain⟨h1,h2⟩:=Fe hK hf hx hy hr
   have hg:(eqGuard op xt x y (a.eval x) (a.eval y)).run K.P w= .ok () w:=by rw [hv,hu];exact run_eqGuard_agg w _ _ _ _ _ _ h2
   cases op with
   |eql=>exact fin he2 hg (v':=.bool r1) (by rw [hv,hu,run_eql_struct,h1];rfl) (by simp [rel])
   |neq=>exact fin he2 hg (v':=.bool (!r1)) (by rw [hv,hu,run_neq_struct,h1];rfl) (by simp [rel])
   |_=>exact(ab he2).elim
  |_=>exact rest he2
 |_=>exact rest he2
end Go.Proofs.YtihabpimbfmhhaaGreatDoor.Ev
