/- The texts Ev8, one behind the other. -/
import Derived.Test.YtihabpimbfmhhaaGreatDoorK2
import Derived.WalkLawsBesides
import Derived.WalkSpells
namespace Go.Proofs.YtihabpimbfmhhaaGreatDoor.Ev
open Go Go.RowKit
set_option linter.unusedSimpArgs false
variable {K:Ctx} {w0:World} {M0:Bd} {L:Lk} {st:St} {a:Act} {w:World} {o:Oper} {M:Nat→Nat→Prop}
theorem nG (hK:K.Ok) {s:TypeId} {f n:Nat} {t:TypeId} (h:K.fld s f=some (n,t)) (b off:Nat) (w:World):
 (Instr.fieldAt s (.pointer (some ⟨b,off,none⟩)) f).run K.P w= .ok (.pointer (some ⟨b,off+n,none⟩)) w:=by
 obtain⟨fs,fl,h1,h2,h3,h4,cs,ag,h5,h6⟩:=hK.fld s f n t h
 have hz:cs.length≠0:=by omega
 have:=dz hK h5 w
 simp [Instr.fieldAt,run_underlying h1,h2,Instr.sureAddr,fieldPlace,h4,this,hz,h3,add_lit]
theorem vT {C:cy} {O:Opt} (hK:K.Ok) {s:TypeId} {x:Operand} {f:Nat} (h:o.op= .fieldAddr s x f):ic K C O o:=by
 intro w0 M0 L st a w d k t r R he
 rw [h]at he
 simp only [op1]at he
 split at he
 case h_2=>exact(ab he).elim
 rename_i n ft hf
 obtain⟨v,t1,he,hv⟩:=a7 R he
 cases v with
 |ptr i off=>
  have hv':=hv
  simp only [rel]at hv'
  obtain⟨b,o0,cap,cs,h1,h2⟩:=hv'
  refine⟨_,st.objs,t1,he,Does.same R (v':=.pointer (some ⟨b,o0+off+n,none⟩)) ?_ ?_⟩
  ·simp [execOp,h,h2,nG hK hf]
  ·simp only [rel];exact⟨b,o0,cap,cs,h1,by rw [Nat.add_assoc]⟩
 |eptr i ver j off=>
  obtain⟨y,g1,g2⟩:=br he
  cases y with
  |var _=>exact(ab g2).elim
  |map _ _ _ _=>exact(ab g2).elim
  |arr e' v' z' xs'=>
   simp only at g2
   split at g2
   case isFalse=>exact(ab g2).elim
   rename_i hvv
   have hv':=hv
   simp only [rel]at hv'
   obtain⟨l,e,cur,z,xs,p,h1,h2,h3,h4⟩:=hv'
   have hob:=R.ob i
   rw [g1,h1]at hob
   simp only [Option.map_some,Option.some.injEq,Ob.arr.injEq]at hob
   obtain⟨rfl,rfl,rfl,hxs⟩:=hob
   obtain⟨b,o0,hb,h5,h6,rfl⟩:=h4 hvv
   refine⟨_,st.objs,_,g2,Does.same R (v':=.pointer (some ⟨b,o0+j.toNat*e'.size+off+n,none⟩)) ?_ ?_⟩
   ·simp [execOp,h,h3,nG hK hf]
   ·simp only [rel];exact⟨l,e',v',z',xs,_,h1,h2,rfl,fun _=>⟨b,o0,hb,h5,h6,by rw [Nat.add_assoc]⟩⟩
 |sel e y off=>
  have hv':=hv
  simp only [rel]at hv'
  obtain⟨b,o0,ds,h1,h2,h3,h4⟩:=hv'
  refine⟨_,st.objs,t1,he,Does.same R (v':=.pointer (some ⟨b,o0+off+n,none⟩)) ?_ ?_⟩
  ·simp [execOp,h,h1,nG hK hf]
  ·simp only [rel];exact⟨b,o0,ds,by rw [Nat.add_assoc],h2,h3,h4⟩
 |_=>exact(ab he).elim
theorem Ca (hK:K.Ok) {t:TypeId} {cs:List CT} {ag:Bool} (hl:K.lay t=some (cs,ag)) (xs:Array Value) (off:Nat) (hle:off+cs.length≤xs.toList.length) (w:World):
 (part t xs off).run K.P w= .ok (ie ag (sub xs.toList off cs.length)) w:=by
 cases ag with
 |true=>
  simp [part,HN hK hl,dz hK hl,ie,sub]
  apply Array.ext'
  simp [List.extract_eq_take_drop]
 |false=>
  obtain⟨c,rfl⟩:=z_ hK hl
  have hlt:off<xs.size:=by simp at hle;omega
  have:sub xs.toList off 1=[xs[off]]:=by
   apply List.ext_getElem?
   intro j
   cases j with
   |zero=>simp [sub,hlt]
   |succ j=>simp [sub];omega
  simp [part,HN hK hl,ie,this,hlt]
theorem MK {C:cy} {O:Opt} (hK:K.Ok) {s:TypeId} {x:Operand} {f:Nat} (h:o.op= .field s x f):ic K C O o:=by
 intro w0 M0 L st a w d k t r R he
 rw [h]at he
 simp only [op1]at he
 split at he
 case h_2=>exact(ab he).elim
 rename_i n ft hf
 split at he
 case h_2=>exact(ab he).elim
 rename_i cs ag hl
 obtain⟨v,t1,he,hv⟩:=a7 R he
 cases v with
 |agg xs=>
  simp only at he
  split at he
  case isFalse=>exact(ab he).elim
  rename_i hle
  split at he
  case h_2=>exact(ab he).elim
  rename_i u hm
  simp only [rel]at hv
  obtain⟨ys,hye,h1,h2⟩:=hv
  have hlen:=bp h1
  refine⟨u,st.objs,t1,he,Does.same R (v':=ie ag (sub ys.toList n cs.length)) ?_ (nB (mI h1 n _) (fun c hc=>h2 c (tO hc)) hm)⟩
  obtain⟨fs,fl,g1,g2,g3,g4,_⟩:=hK.fld s f n ft hf
  have:=Ca hK hl ys n (by omega) w
  simp [execOp,h,hye,Instr.field,run_underlying g1,g2,g4,g3,asAgg,this]
 |_=>exact(ab he).elim
theorem Fb {C:cy} {O:Opt} {x:Operand} {i:Nat} (h:o.op= .extract x i):ic K C O o:=by
 intro w0 M0 L st a w d k t r R he
 rw [h]at he
 simp only [op1]at he
 obtain⟨v,t1,he,hv⟩:=a7 R he
 cases v with
 |tup vs=>
  simp only at he
  split at he
  case h_2=>exact(ab he).elim
  rename_i u hu
  simp only [rel]at hv
  obtain⟨ys,hye,h1⟩:=hv
  obtain⟨c,h2,h3⟩:=tK h1 i u hu
  refine⟨u,st.objs,t1,he,Does.same R (v':=c) ?_ h3⟩
  have h2':ys[i]? =some c:=by simpa using h2
  simp [execOp,h,hye,Instr.extract,h2']
 |_=>exact(ab he).elim
theorem mK (s:List UInt8):(ByteArray.mk s.toArray).size=s.length:=by simp [ByteArray.size]
theorem gd (hK:K.Ok) {t:TypeId} {ag:Bool} (h:K.lay t=some ([.str],ag)) (hag:ag=false):K.P.underlying t=some .string:=by
 obtain⟨i,d,h1,h2,h3,h4,h5,h6⟩:=hK.lay t _ ag h
 subst hag
 rw [h2]
 cases d<;>simp [sm,iI,HI]at h5 h6<;>rfl
theorem tQ (hK:K.Ok) {t:TypeId} {k:IntKind} (h:K.lay t=some ([.int k],false)):K.P.underlying t=some (.int k):=by
 obtain⟨i,d,h1,h2,h3,h4,h5,h6⟩:=hK.lay t _ _ h
 rw [h2]
 cases d<;>simp [sm,iI,HI]at h5 h6
 rw [h6]
theorem ML {C:cy} {O:Opt} (hK:K.Ok) {ty:TypeId} {x i:Operand} (h:o.op= .index ty x i):ic K C O o:=by
 intro w0 M0 L st a w d k t r R he
 rw [h]at he
 simp only [op1]at he
 obtain⟨v,t1,he,hv⟩:=a7 R he
 obtain⟨u,t2,he,hu⟩:=a7 R he
 cases u with
 |int ki n=>
  simp only [rel]at hu
  cases v with
  |str s=>
   simp only at he
   split at he
   case h_2=>exact(ab he).elim
   rename_i hty
   obtain⟨h0,he⟩:=bw he
   obtain⟨h1,he⟩:=bw he
   simp only [decide_eq_true_eq]at h0 h1
   simp only [rel]at hv
   have hlt:n.toNat<s.length:=by omega
   refine⟨_,st.objs,t2,he,Does.same R (v':=.int .u8 (au s n)) ?_ (by simp [rel])⟩
   have hs:(ByteArray.mk s.toArray)[n.toNat]? =some s[n.toNat]:=by
    have:n.toNat< (ByteArray.mk s.toArray).size:=by rw [mK];exact hlt
    exact(getElem?_pos (ByteArray.mk s.toArray) n.toNat this).trans rfl
   simp [execOp,h,hv,hu,Instr.index,asIntOf,run_underlying (gd hK hty rfl),h0,hs,au,List.getD,hlt]
  |agg xs=>
   simp only at he
   split at he
   case h_2=>exact(ab he).elim
   rename_i len te hty
   split at he
   case h_2=>exact(ab he).elim
   rename_i cs ag hl
   obtain⟨h0,he⟩:=bw he
   obtain⟨h1,he⟩:=bw he
   simp only [decide_eq_true_eq]at h0 h1
   split at he
   case isFalse=>exact(ab he).elim
   rename_i hle
   split at he
   case h_2=>exact(ab he).elim
   rename_i y hm
   simp only [rel]at hv
   obtain⟨ys,hye,g1,g2⟩:=hv
   have hlen:=bp g1
   obtain⟨g3,_⟩:=hK.arr ty len te hty
   refine⟨y,st.objs,t2,he,Does.same R (v':=ie ag (sub ys.toList (n.toNat*cs.length) cs.length)) ?_ (nB (mI g1 _ _) (fun c hc=>g2 c (tO hc)) hm)⟩
   have:=Ca hK hl ys (n.toNat*cs.length) (by omega) w
   simp [execOp,h,hye,hu,Instr.index,asIntOf,run_underlying g3,h0,h1,dz hK hl,this]
  |_=>exact(ab he).elim
 |_=>exact(ab he).elim
theorem vU {C:cy} {O:Opt} (hK:K.Ok) {ty:TypeId} {x i:Operand} (h:o.op= .indexAddr ty x i):ic K C O o:=by
 intro w0 M0 L st a w d k t r R he
 rw [h]at he
 simp only [op1]at he
 split at he
 · -- a slice
   rename_i te e0 b0 hel
   obtain⟨g0,⟨ag,g1⟩,g2,_⟩:=hK.elt ty te e0 b0 hel
   obtain⟨v,t1,he1,hv⟩:=a7 R he
   obtain⟨u,t2,he2,hu⟩:=a7 R he1
   clear he he1
   cases u with
   |int ki n=>
    simp only [rel]at hu
    have run: ∀{b off len cap:Nat},a.eval x= .slice (some ⟨b,off,none⟩) len cap→0≤n→n< (len:Int)→
     (execOp a.eval o).run K.P w= .ok (.value (.pointer (some ⟨b,off+n.toNat*e0.size,none⟩))) w:=by
     intro b off len cap hx h0 h1
     have hsz:=dz hK g1 w
     simp [execOp,h,hx,hu,Instr.indexAt,asIntOf,run_underlying g0,h0,h1,hsz,add_lit,Ty.size]
    cases v with
    |sh e l=>
     simp only at he2
     split at he2
     case isFalse=>exact(ab he2).elim
     rename_i hee
     subst hee
     obtain⟨h0,he2⟩:=bw he2
     obtain⟨h1,he2⟩:=bw he2
     simp only [decide_eq_true_eq]at h0 h1
     simp only [rel]at hv
     obtain⟨p,m,c,h2,rfl,h3,h4⟩:=hv
     simp only [List.cons.injEq,and_true]at h2
     have hlt:n.toNat<l.length:=by omega
     rcases h4 with h4|⟨b,off,hp,hr⟩
     ·subst h4;simp at hlt
     ·subst hp
      obtain⟨ds,h5,h6,h7⟩:=hr n.toNat hlt
      refine⟨_,st.objs,t2,he2,Does.same R (run h2 h0 h1) ?_⟩
      simp only [rel]
      refine⟨b,off+n.toNat*e.size,ds,rfl,h5, ?_,h7⟩
      simpa [List.getD,hlt]using h6
    |wref j e m c q=>
     simp only at he2
     split at he2
     case isFalse=>exact(ab he2).elim
     rename_i hee
     subst hee
     obtain⟨h0,g3⟩:=bw he2
     obtain⟨h1,g4⟩:=bw g3
     obtain⟨h2,g5⟩:=bw g4
     simp only [decide_eq_true_eq]at h0 h1 h2
     clear he2 g3 g4
     subst h2
     simp only [rel]at hv
     obtain⟨b,off,cap,cs,h3,h4⟩:=hv
     refine⟨_,st.objs,t2,g5,Does.same R (run h4 h0 h1) ?_⟩
     simp only [rel]
     exact⟨b,_,cap,cs,h3,rfl⟩
    |ref j ver=>
     simp only at he2
     obtain⟨y,h2,h3⟩:=br he2
     cases y with
     |var _=>exact(ab h3).elim
     |map _ _ _ _=>exact(ab h3).elim
     |arr e v' z xs=>
      simp only at h3
      split at h3
      case isFalse=>exact(ab h3).elim
      rename_i hee
      subst hee
      split at h3
      case isFalse=>exact(ab h3).elim
      rename_i hver
      obtain⟨h0,h3⟩:=bw h3
      obtain⟨h1,h3⟩:=bw h3
      simp only [decide_eq_true_eq]at h0 h1
      simp only [rel]at hv
      obtain⟨l,e',cur,z',xs',p,m,c,h4,h5,h6,h7⟩:=hv
      have hob:=R.ob j
      rw [h2,h4]at hob
      simp only [Option.map_some,Option.some.injEq,Ob.arr.injEq]at hob
      obtain⟨rfl,rfl,rfl,hxs⟩:=hob
      have hxs:=eq_of_heq hxs
      subst hxs
      obtain⟨rfl,rfl,rfl⟩:=h7 hver
      have hlt:n.toNat<xs.length:=by omega
      rcases R.ro.ok j _ h4 with⟨_,h8,_⟩|⟨b,o0,h8,h9,h10,_,h11,_⟩
      ·subst h8;simp at hlt
      ·simp only at h8
       have hx:a.eval x= .slice (some ⟨b,o0,none⟩) xs.length l.cap:=by rw [h6];simp [Loc.addr,h8]
       cases z with
       |true=>
        obtain⟨ds,k1,k2,k3⟩:=h10 n.toNat hlt
        rw [f_ rfl]at k2
        refine⟨_,st.objs,_,h3,Does.same R (run hx h0 h1) ?_⟩
        simp only [rel]
        refine⟨b,o0+n.toNat*e.size,ds,rfl,k1, ?_,fun q hq=>⟨k3 q hq, ?_⟩⟩
        ·simpa [List.getD,hlt]using k2
        ·have:=h11 rfl (n.toNat*e.size+q) (bY hlt hq)
         rwa [←Nat.add_assoc]at this
       |false=>
        refine⟨_,st.objs,_,h3,Does.same R (run hx h0 h1) ?_⟩
        simp only [rel]
        exact⟨l,e,v',false,xs,_,h4,h5,rfl,fun _=>⟨b,o0,h8,h0,h1,rfl⟩⟩
    |_=>exact(ab he2).elim
   |_=>exact(ab he2).elim
 · -- an array
   split at he
   case h_2=>exact(ab he).elim
   rename_i len te hty
   split at he
   case h_2=>exact(ab he).elim
   rename_i cs ag hl
   obtain⟨v,t1,he,hv⟩:=a7 R he
   obtain⟨u,t2,he,hu⟩:=a7 R he
   cases u with
   |int ki n=>
    simp only [rel]at hu
    cases v with
    |ptr j off=>
     simp only at he
     obtain⟨h0,he⟩:=bw he
     obtain⟨h1,he⟩:=bw he
     simp only [decide_eq_true_eq]at h0 h1
     simp only [rel]at hv
     obtain⟨b,o0,cap,xs,h2,h3⟩:=hv
     obtain⟨g3,_⟩:=hK.arr ty len te hty
     refine⟨_,st.objs,t2,he,Does.same R (v':=.pointer (some ⟨b,o0+off+n.toNat*cs.length,none⟩)) ?_ ?_⟩
     ·simp [execOp,h,h3,hu,Instr.indexAt,asIntOf,run_underlying g3,Instr.sureAddr,h0,h1,dz hK hl,add_lit]
     ·simp only [rel];exact⟨b,o0,cap,xs,h2,by rw [Nat.add_assoc]⟩
    |_=>exact(ab he).elim
   |_=>exact(ab he).elim
theorem fm (k:IntKind) (n:Int):ib k n=k.wrap n:=by
 cases k<;>simp only [ib,Hv,OH,nt]
 ·unfold wrap64;exact(IntKind.wrap_i64 n).symm
 ·exact(IntKind.wrap_u8 n).symm
theorem Qd {C:cy} {O:Opt} {op:UnOp} {ty:TypeId} {x:Operand} (h:o.op= .unOp op ty x):ic K C O o:=by
 intro w0 M0 L st a w d k t r R he
 rw [h]at he
 simp only [op1]at he
 obtain⟨v,t1,he1,hv⟩:=a7 R he
 clear he
 cases op with
 |not=>
  cases v with
  |bool b=>
   simp only [rel]at hv
   exact⟨_,st.objs,t1,he1,Does.same R (v':=.bool (!b)) (by simp [execOp,h,hv,Op.unary]) (by simp [rel])⟩
  |_=>exact(ab he1).elim
 |neg=>
  cases v with
  |int ki n=>
   simp only [rel]at hv
   exact⟨_,st.objs,t1,he1,Does.same R (v':=.int ki (ib ki (0-n))) (by simp [execOp,h,hv,Op.unary,Op.intArith,fm]) (by simp [rel])⟩
  |_=>exact(ab he1).elim
 |xor=>
  cases v with
  |int ki n=>
   simp only [rel]at hv
   exact⟨_,st.objs,t1,he1,Does.same R (v':=.int ki (cpl ki n)) (by simp [execOp,h,hv,Op.unary,Op.intBits,cpl,nt]) (by simp [rel])⟩
  |_=>exact(ab he1).elim
 |_=>exact(ab he1).elim
end Go.Proofs.YtihabpimbfmhhaaGreatDoor.Ev
