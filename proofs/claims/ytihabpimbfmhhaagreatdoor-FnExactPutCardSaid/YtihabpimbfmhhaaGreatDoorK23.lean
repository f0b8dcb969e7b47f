/- The texts Ne, Nf, Ng, Nh, Ni, Nj, Nk, Nl, one behind the other. -/
import Derived.Test.YtihabpimbfmhhaaGreatDoorK14
import Derived.Test.YtihabpimbfmhhaaGreatDoorK20
import Derived.Test.YtihabpimbfmhhaaGreatDoorK22
import Derived.Test.YtihabpimbfmhhaaGreatDoorK13
namespace Go.Proofs.YtihabpimbfmhhaaGreatDoor.Ev
open Go Go.RowKit
set_option linter.unusedVariables false
set_option linter.unusedSimpArgs false
noncomputable section
def Jw:SC:=[⟨164,_,oV⟩,⟨262,_,Dz⟩]
def kY (l:List Fd) (name:aa):Br:=(Br.ite (isM name) (Br.ite ((decide ((List.length (uD l name))≤1000000))&&(decide ((List.length (dZ (uD l name) ([44,32]:aa)))≤1000000))) (Br.ret (AV.str (dZ (uD l name) ([44,32]:aa))) []) Br.fail) Br.fail)
def xX:List AV→List Ob→Br
 | [.sh (.pair .str .str) l,.str name],[]=>kY l name
 |_,_=>.fail
theorem iJoined_ok:Sound Kx 202 xX:=ae (C:=Jw) (O:=O0) Tryz.func202 (by kernel_rfl) fun args objs=>by
 unfold xX;split
 ·exact .inr (by kernel_rfl)
 ·exact .inl rfl
theorem Pi {a b:Nat} (h:a≤b):decide (a≤b)=true:=dT' h
theorem uS (l:List Fd) (name:aa):(uD l name).length≤20∧ ∀x∈uD l name,x.length≤190:=by
 unfold uD
 cases h:b9 l
 ·simp
 ·rw [cond_true]
  obtain⟨h1,h2⟩:=cO h
  refine⟨?_,fun x hx=> ?_⟩
  ·unfold mD;rw [List.length_map];exact Nat.le_trans (List.length_filter_le _ _) h1
  ·unfold mD at hx
   obtain⟨f,hf,rfl⟩:=List.mem_map.1 hx
   exact(fF (h2 f (List.mem_filter.1 hf).1)).2
def sepC:aa:=[44,32]
theorem xY (x:aa) (r:List aa):Lib.joinTail sepC (x::r)=sepC++x++Lib.joinTail sepC r:=by simp [Lib.joinTail]
theorem DA: ∀(r:List aa),(∀x∈r,x.length≤190)→(Lib.joinTail sepC r).length≤192*r.length
 | [],_=>by simp [Lib.joinTail]
 |x::r,h=>by
  have h1:=h x (List.mem_cons_self ..)
  have h2:=DA r fun y hy=>h y (List.mem_cons_of_mem _ hy)
  have h3:sepC.length=2:=rfl
  rw [xY]
  simp only [List.length_append,List.length_cons,h3];omega
theorem xZ (x:aa) (r:List aa):dZ (x::r) sepC=x++Lib.joinTail sepC r:=Lib.join_cons x r sepC
def ej (l:List Fd) (name:aa):aa:=dZ (uD l name) sepC
theorem Gm (l:List Fd) (name:aa):(ej l name).length≤4000:=by
 unfold ej
 obtain⟨h1,h2⟩:=uS l name
 cases hv:uD l name with
 |nil=>simp [dZ,Lib.join_nil]
 |cons x r=>
  rw [hv]at h1 h2
  have:=h2 x (List.mem_cons_self ..)
  have:=DA r fun y hy=>h2 y (List.mem_cons_of_mem _ hy)
  rw [xZ,List.length_append]
  simp only [List.length_cons]at h1;omega
def TR (p:List Fd→aa→AV):List AV→List Ob→Br
 | [.sh (.pair .str .str) l,.str name],[]=>.ite (isM name) (.ret (p l name) []) .fail
 |_,_=>.fail
theorem A7:Sound Kx 202 (TR fun l name=>.str (ej l name)):=iJoined_ok.of fun args objs r h=>by
 unfold TR at h
 split at h
 case h_2=>cases h
 rename_i l name
 obtain⟨h1,h2⟩:=af h
 cases h2
 show(kY l name).val=_
 unfold kY
 have g1:=(uS l name).1
 have g2:=Gm l name
 unfold ej sepC at g2
 refine(aR h1).trans ((aR ?_).trans rfl)
 rw [dT' (by omega),dT' (by omega)];rfl
theorem x3 (v:List aa) (hl:v.length≤20) (k:aa→OR'): ∀(r:List aa) (i:Int) (n:Nat) (s:aa),At v i r→1≤i→r.length<n→(∀x∈r,x.length≤190)→s.length+192*r.length≤100000→
 c8 n s i v k=k (s++Lib.joinTail sepC r):=by
 intro r;induction r with
 |nil=>intro i n s h hi hn hf hs;obtain⟨n,rfl⟩:=bh hn;unfold c8 eI;simp only [h.dge,cond_false,Lib.joinTail,List.map_nil,List.flatten_nil,List.append_nil]
 |cons a r ih=>
  intro i n s h hi hn hf hs;obtain⟨n,rfl⟩:=bh hn
  have ha:=hf a (List.mem_cons_self ..)
  have hr:=fun x h=>hf x (List.mem_cons_of_mem _ h)
  simp only [List.length_cons]at hn hs
  have hp:decide ((0:Int)<i)=true:=dT' (by omega)
  unfold c8 eI
  simp (disch:=(first|omega|(simp only [List.length_append,List.length_cons,List.length_nil];omega))) only [h.dlt,h.dnn,h.get,h.next (by omega),hp,cond_true,Pi]
  rw [ih (i+1) n _ h.step (by omega) (by omega) hr (by simp only [List.length_append,List.length_cons,List.length_nil];omega),xY]
  simp only [sepC,List.append_assoc]
theorem A8:Sound Kx 189 (TR fun l name=>.str (ej l name)):=by
 refine(xI (φ:=fun l name=>.ite (isM name) (.ret (.str (ej l name)) []) .fail) (fun l name=>(uD l name).length+1) fun l name r h=> ?_).of fun args objs r h=> ?_
 ·obtain⟨h1,h2⟩:=af h
  cases h2
  unfold oY ej
  rw [h1,cond_true]
  obtain⟨g1,g2⟩:=uS l name
  revert g1 g2
  generalize uD l name=v
  intro g1 g2
  cases v with
  |nil=>rfl
  |cons x r=>
   have hx:=g2 x (List.mem_cons_self ..)
   have hat:At (x::r) 0 (x::r):=At.start _
   simp only [List.length_cons]at g1
   unfold c8 eI
   have h0:decide ((0:Int)<0)=false:=rfl
   simp (disch:=(first|omega|(simp only [List.length_append,List.length_cons,List.length_nil];omega))) only [hat.dlt,hat.dnn,hat.get,hat.next (by simp only [List.length_cons];omega),h0,cond_true,cond_false,Pi]
   rw [List.nil_append,show(0:Int)+1=1 by rfl,List.length_cons,x3 (x::r) (by simp only [List.length_cons];omega) _ r 1 (r.length+1) _ hat.step (by omega) (by omega) (fun y hy=>g2 y (List.mem_cons_of_mem _ hy)) (by omega),xZ]
 ·unfold TR at h;split at h
  ·exact h
  ·cases h
def bytesLess (a b:aa):Bool:=Op.bytesLess a b
def inP (l:List aa) (s:aa):Bool:=l.any fun x=>decide (x=s)
theorem Gn (l:List aa) (hl:l.length≤4611686018427387904) (s:aa) (k0 k1:OR'): ∀(r:List aa) (i:Int) (n:Nat),At l i r→r.length<n→gO n l s i k0 k1=bif inP r s then k0 else k1:=by
 intro r;induction r with
 |nil=>intro i n h hn;obtain⟨n,rfl⟩:=bh hn;unfold gO mY;simp only [h.dge,cond_false,inP,List.any_nil]
 |cons a r ih=>
  intro i n h hn;obtain⟨n,rfl⟩:=bh hn
  have hs:=ih (i+1) n h.step (by simp at hn;omega)
  unfold gO mY
  simp only [h.dlt,h.dnn,h.get,cond_true,h.next hl,hs,inP,List.any_cons]
  cases decide (a=s)<;>rfl
def UC:List AV→List Ob→Br
 | [.sh .str l,.str s],[]=>.ite (decide (l.length≤1000000)) (.ret (.bool (inP l s)) []) .fail
 |_,_=>.fail
theorem Jx:Sound Kx 148 UC:=by
 refine(Gf (φ:=fun l s=>.ite (decide (l.length≤1000000)) (.ret (.bool (inP l s)) []) .fail) (fun l _=>l.length+1) fun l s r h=> ?_).of fun args objs r h=> ?_
 ·obtain⟨h1,h2⟩:=af h
  cases h2
  rw [decide_eq_true_eq]at h1
  unfold xJ
  rw [Gn l (by omega) s _ _ l 0 _ (At.start l) (by omega)]
  cases inP l s<;>rfl
 ·unfold UC at h;split at h
  ·exact h
  ·cases h
def mtP (k:Int):aa:=109::Lib.decDigits k.toNat
theorem Jy (d:Int) (h0:0≤d) (h:d<10):bx (List.set (List.replicate 1 (0:Int)) 0 (wk8 (ac (48+d))))=[UInt8.ofNat (48+d.toNat)]:=by
 rw [w64 (by omega) (by omega),w8 (by omega) (by omega),be]
 show [UInt8.ofNat (48+d).toNat]=_
 rw [show(48+d).toNat=48+d.toNat by omega]
theorem uT (K:aa→OR'): ∀(n:Nat) (k:Int) (out:aa),0<k→k≤1000000000→k< (n:Int)→out.length+k.toNat≤2000000000→
 c_ (n+1) k out K=K (Lib.decDigits k.toNat++out):=by
 intro n;induction n with
 |zero=>intro k out h0 h1 h2;omega
 |succ n ih=>
  intro k out h0 h1 h2 h3
  have e1:ac (Int.tdiv k 10)=((k.toNat/10:Nat):Int):=by
   rw [Int.tdiv_eq_ediv_of_nonneg (by omega),w64 (by omega) (by omega)];omega
  have e2:Int.tmod k 10=((k.toNat % 10:Nat):Int):=by
   rw [Int.tmod_eq_emod_of_nonneg (by omega)];omega
  have hd:bx (List.set (List.replicate 1 (0:Int)) 0 (wk8 (ac (48+((k.toNat % 10:Nat):Int)))))=[UInt8.ofNat (48+k.toNat % 10)]:=by
   rw [Jy _ (by omega) (by omega)];simp only [Int.toNat_natCast]
  unfold c_ fK
  have hp:decide ((0:Int)<k)=true:=dT' h0
  simp only [hp,e1,e2,hd,cond_true,List.length_singleton,Pi (show 1+out.length≤9223372036854775807 by omega)]
  by_cases c:k.toNat<10
  ·have e3:k.toNat/10=0:=by omega
   have e4:k.toNat % 10=k.toNat:=by omega
   rw [e3]
   unfold c_ fK
   simp only [Int.ofNat_eq_natCast,Int.cast_ofNat_Int,Int.lt_irrefl,decide_false,cond_false]
   rw [Lib.decDigits_one c,e4]
  ·rw [ih _ _ (by omega) (by omega) (by omega) (by simp only [List.length_append,List.length_singleton];omega),Int.toNat_natCast,Lib.decDigits.eq_1 k.toNat,dif_neg c,List.append_assoc]
def Uj:List AV→List Ob→Br
 | [.int .i64 k],[]=>.ite (decide (0<k)&&decide (k≤100000000)) (.ret (.str (mtP k)) []) .fail
 |_,_=>.fail
theorem x4 (n:Nat):(Lib.decDigits n).length≤n+1:=by
 induction n using Nat.strongRecOn with
 |_ n ih=>
  by_cases c:n<10
  ·rw [Lib.decDigits_one c];simp
  ·rw [Lib.decDigits.eq_1,dif_neg c]
   have:=ih (n/10) (by omega)
   simp only [List.length_append,List.length_singleton];omega
theorem ee:Sound Kx 64 Uj:=by
 refine(uK (φ:=fun k=>.ite (decide (0<k)&&decide (k≤100000000)) (.ret (.str (mtP k)) []) .fail) (fun k=>k.toNat+2) fun k r h=> ?_).of fun args objs r h=> ?_
 ·obtain⟨h1,h2⟩:=af h
  cases h2
  rw [Bool.and_eq_true,decide_eq_true_eq,decide_eq_true_eq]at h1
  have hl:=x4 k.toNat
  unfold lW
  rw [dF' (by omega),cond_false,uT _ (k.toNat+1) k [] h1.1 (by omega) (by omega) (by simp;omega)]
  simp only [List.append_nil]
  rw [Pi (by omega),cond_true];rfl
 ·unfold Uj at h;split at h
  ·exact h
  ·cases h
def Nv:SC:=[⟨202,_,A7⟩,⟨201,_,uN⟩]
def Jz (l:List Fd) (name:aa):Br:=(Br.ite (isM name) (Br.ret (AV.ref 0 0) ((Ob.arr Ty.str 0 false (mE (ej l name)))::[])) Br.fail)
def DB:List AV→List Ob→Br
 | [.sh (.pair .str .str) l,.str name],[]=>Jz l name
 |_,_=>.fail
theorem iWords_ok:Sound Kx 144 DB:=ae (C:=Nv) (O:=O0) Tryz.func144 (by kernel_rfl) fun args objs=>by
 unfold DB;split
 ·exact .inr (by kernel_rfl)
 ·exact .inl rfl
def Nw:SC:=[⟨189,_,A8⟩,⟨188,_,uM⟩]
def JA (l:List Fd) (name:aa):Br:=(Br.ite (isM name) (Br.ret (AV.ref 0 0) ((Ob.arr Ty.str 0 false (mE (ej l name)))::[])) Br.fail)
def DC:List AV→List Ob→Br
 | [.sh (.pair .str .str) l,.str name],[]=>JA l name
 |_,_=>.fail
theorem sWords_ok:Sound Kx 132 DC:=ae (C:=Nw) (O:=O0) Tryz.func132 (by kernel_rfl) fun args objs=>by
 unfold DC;split
 ·exact .inr (by kernel_rfl)
 ·exact .inl rfl
def DD:Opt:={live:=[(6,[0,1,5,6,7])],outs:=[(6,[1,4,5,6])]}
def sl5put_C:SC:=[⟨148,_,Jx⟩]
def jT (iA:(List aa)) (kw:aa) (qV:Bool) (et:Int) (ij:(List aa)) (Va:(List aa)→aa→Bool→Int→(List aa)→OR') (OD:aa→Bool→(List aa)→OR'):OR':=
 (bif(decide (et< (iA.length:Int)))then(bif(!qV)then(bif(decide (0≤et))then(bif(decide (et< (iA.length:Int)))then(bif(bytesLess kw (List.getD iA (Int.toNat et) ([]:aa)))then(bif(decide (((ij.length+(List.length (List.set (List.replicate 1 ([]:aa)) 0 kw)))*16)≤140737488355328))then(bif(decide (0≤et))then(bif(decide (et< (iA.length:Int)))then(bif(decide ((((List.length (ij++(List.set (List.replicate 1 ([]:aa)) 0 kw)))+(List.length (List.set (List.replicate 1 ([]:aa)) 0 (List.getD iA (Int.toNat et) ([]:aa)))))*16)≤140737488355328))then(Va iA kw true (ac (et+1)) ((ij++(List.set (List.replicate 1 ([]:aa)) 0 kw))++(List.set (List.replicate 1 ([]:aa)) 0 (List.getD iA (Int.toNat et) ([]:aa)))))else(none))else(none))else(none))else(none))else(bif(decide (0≤et))then(bif(decide (et< (iA.length:Int)))then(bif(decide (((ij.length+(List.length (List.set (List.replicate 1 ([]:aa)) 0 (List.getD iA (Int.toNat et) ([]:aa)))))*16)≤140737488355328))then(Va iA kw qV (ac (et+1)) (ij++(List.set (List.replicate 1 ([]:aa)) 0 (List.getD iA (Int.toNat et) ([]:aa)))))else(none))else(none))else(none)))else(none))else(none))else(bif(decide (0≤et))then(bif(decide (et< (iA.length:Int)))then(bif(decide (((ij.length+(List.length (List.set (List.replicate 1 ([]:aa)) 0 (List.getD iA (Int.toNat et) ([]:aa)))))*16)≤140737488355328))then(Va iA kw qV (ac (et+1)) (ij++(List.set (List.replicate 1 ([]:aa)) 0 (List.getD iA (Int.toNat et) ([]:aa)))))else(none))else(none))else(none)))else(OD kw qV ij))
def eM:Nat→(List aa)→aa→Bool→Int→(List aa)→(aa→Bool→(List aa)→OR')→OR'
 |0,_,_,_,_,_,_=>none
 |n+1,iA,kw,qV,et,ij,OD=>jT iA kw qV et ij (fun iA kw qV et ij=>eM n iA kw qV et ij OD) OD
abbrev sl5put_p6:SP:=⟨46,[0,1,5,6,7],[(.v (.sh Ty.str)),(.v .s),(.v (.ref 384 0)),(.v .b),(.v (.i .i64))],[(384,.arr Ty.str 0 false)]⟩
noncomputable def x6:Code:=ax (aD Tryz.f187) [1,1,1,1,0,1,0,0]
def x7 (f:(aa→Bool→(List aa)→OR')→OR') (k:KT):OR':=f (fun eg cH zR=>k (Ex.exit 0) ((St.mk (aw 0 46 [(1,(AV.str eg)),(5,(AV.ref 384 0)),(6,(AV.bool cH))]) ((384,(Ob.arr Ty.str 0 false zR))::([]:(List (Nat×(Ob))))))))
def x8 (n:Nat) (d:sl5put_p6.D):KT→OR':=x7 (eM n d.1.1 d.1.2.1 d.1.2.2.2.1 d.1.2.2.2.2.1 d.2.1)
def DE (N:Nat):Lam:=bf [⟨6,sl5put_p6,x8 N⟩]
theorem Gp (N:Nat):OkL Kx sl5put_C.s DD 0 N (DE N) x6:=okL sl5put_p6 (x8) (fun d kR=>x7 (jT d.1.1 d.1.2.1 d.1.2.2.2.1 d.1.2.2.2.2.1 d.2.1 (fun iA kw qV et ij=>kR ((iA,kw,(),qV,et,()),(ij,()))))) (fun _ _=>by kernel_rfl) (fun _ _ _=>by kernel_rfl) (fun _ _=>by kernel_rfl) (fun _ _ _ _=>by kernel_rfl) (ah (l':=[]) (by kernel_rfl) trivial)
def sp (N:Nat) (l:List aa) (s:aa):OR':=(bif(decide (l.length≤1000000))then(bif(inP l s)then(some ((AV.sh Ty.str l),[]))else(eM N l s false 0 ([]:(List aa)) (fun eg=>(fun cH=>(fun zR=>(bif(!cH)then(bif(decide (((zR.length+(List.length (List.set (List.replicate 1 ([]:aa)) 0 eg)))*16)≤140737488355328))then(some ((AV.ref 0 0),((Ob.arr Ty.str 0 false (zR++(List.set (List.replicate 1 ([]:aa)) 0 eg)))::[])))else(none))else(some ((AV.ref 0 0),((Ob.arr Ty.str 0 false zR)::[])))))))))else(none))
def kZ (φ:(List aa)→aa→Br):List AV→List Ob→Br
 | [.sh .str l,.str s],[]=>φ l s
 |_,_=>.fail
theorem A9 {φ:(List aa)→aa→Br} (fu:(List aa)→aa→Nat) (hv: ∀l s res_,(φ l s).val=some res_→sp (fu l s) l s=some res_):Sound Kx 187 (kZ φ):=aj (C:=sl5put_C) (O:=DD) Tryz.func187 (by kernel_rfl) fun args objs=>by
 unfold kZ;split
 ·rename_i l s;exact .inr fun _ hyp_=>aO (Λ:=DE (fu l s)) (by kernel_rfl) (ah (l':=[x6]) (by kernel_rfl) ⟨Gp _,trivial⟩) (by kernel_rfl) (hv l s _ hyp_)
 ·exact .inl rfl
def l6:Opt:={live:=[(2,[0,1,5])],outs:=[(2,[1,4])]}
def markFieldS_C:SC:=[⟨64,_,ee⟩]
def dC (an aq:Int) (aP:(List Fd)) (U5:Int→Int→(List Fd)→OR') (bK:Int→(List Fd)→OR'):OR':=
 (bif(decide (aq< (aP.length:Int)))then(bif((decide (0<an))&&(decide (an≤100000000)))then(bif(decide (0≤aq))then(bif(decide (aq< (aP.length:Int)))then(bif((decide (0< (ac (an+1))))&&(decide ((ac (an+1))≤100000000)))then(bif(decide (0≤aq))then(bif(decide (aq< ((List.length (List.set aP (Int.toNat aq) ((mtP an),(List.getD aP (Int.toNat aq) (([]:aa),([]:aa))).2))):Int)))then(U5 (ac ((ac (an+1))+1)) (ac (aq+1)) (List.set (List.set aP (Int.toNat aq) ((mtP an),(List.getD aP (Int.toNat aq) (([]:aa),([]:aa))).2)) (Int.toNat aq) ((List.getD (List.set aP (Int.toNat aq) ((mtP an),(List.getD aP (Int.toNat aq) (([]:aa),([]:aa))).2)) (Int.toNat aq) (([]:aa),([]:aa))).1,(mtP (ac (an+1))))))else(none))else(none))else(none))else(none))else(none))else(none))else(bK an aP))
def cn:Nat→Int→Int→(List Fd)→(Int→(List Fd)→OR')→OR'
 |0,_,_,_,_=>none
 |n+1,an,aq,aP,bK=>dC an aq aP (fun an aq aP=>cn n an aq aP bK) bK
abbrev markFieldS_p2:SP:=⟨29,[0,1,5],[(.v (.ref 0 0)),(.v (.i .i64)),(.v (.i .i64))],[(0,.arr (Ty.pair Ty.str Ty.str) 0 false)]⟩
noncomputable def jU:Code:=ax (aD Tryz.f54) [1,0,1,0,0]
def jV (f:(Int→(List Fd)→OR')→OR') (k:KT):OR':=f (fun bP eU=>k (Ex.exit 0) ((St.mk (aw 0 29 [(1,(AV.int .i64 bP))]) ((0,(Ob.arr (Ty.pair Ty.str Ty.str) 0 false eU))::([]:(List (Nat×(Ob))))))))
def jW (n:Nat) (d:markFieldS_p2.D):KT→OR':=jV (cn n d.1.2.1 d.1.2.2.1 d.2.1)
def l7 (N:Nat):Lam:=bf [⟨2,markFieldS_p2,jW N⟩]
theorem qN (N:Nat):OkL Kx markFieldS_C.s l6 1 N (l7 N) jU:=okL markFieldS_p2 (jW) (fun d kR=>jV (dC d.1.2.1 d.1.2.2.1 d.2.1 (fun an aq aP=>kR (((),an,aq,()),(aP,()))))) (fun _ _=>by kernel_rfl) (fun _ _ _=>by kernel_rfl) (fun _ _=>by kernel_rfl) (fun _ _ _ _=>by kernel_rfl) (ah (l':=[]) (by kernel_rfl) trivial)
def ir (N:Nat) (l:List Fd) (k:Int):OR':=(cn N k 0 l (fun bP=>(fun eU=>(some ((AV.int .i64 bP),((Ob.arr (Ty.pair Ty.str Ty.str) 0 false eU)::[]))))))
def it (φ:(List Fd)→Int→Br):List AV→List Ob→Br
 | [.ref 0 0,.int .i64 k],[.arr (.pair .str .str) 0 false l]=>φ l k
 |_,_=>.fail
theorem pi {φ:(List Fd)→Int→Br} (fu:(List Fd)→Int→Nat) (hv: ∀l k res_,(φ l k).val=some res_→ir (fu l k) l k=some res_):Sound Kx 54 (it φ):=aj (C:=markFieldS_C) (O:=l6) Tryz.func54 (by kernel_rfl) fun args objs=>by
 unfold it;split
 ·rename_i k l;exact .inr fun _ hyp_=>aO (Λ:=l7 (fu l k)) (by kernel_rfl) (ah (l':=[jU]) (by kernel_rfl) ⟨qN _,trivial⟩) (by kernel_rfl) (hv l k _ hyp_)
 ·exact .inl rfl
def bJ (l:List Fd) (name:aa):List aa:=mE (ej l name)
def TS:List AV→List Ob→Br
 | [.sh (.pair .str .str) l,.str name],[]=>.ite (isM name) (.ret (.ref 0 0) [.arr .str 0 false (bJ l name)]) .fail
 |_,_=>.fail
theorem sq:Sound Kx 144 TS:=iWords_ok.of fun args objs r h=>by
 unfold TS at h
 split at h
 ·exact h
 ·cases h
theorem sr:Sound Kx 132 TS:=sWords_ok.of fun args objs r h=>by
 unfold TS at h
 split at h
 ·exact h
 ·cases h
def vB:List aa→aa→List aa
 | [],s=>[s]
 |x::r,s=>bif bytesLess s x then s::x::r else x::vB r s
def su (l:List aa) (s:aa):List aa:=bif inP l s then l else vB l s
theorem ap1 (out:List aa) (x:aa) (h:out.length≤5000000):decide ((out.length+(List.set (List.replicate 1 ([]:aa)) 0 x).length)*16≤140737488355328)=true:=dT' (by rw [be,List.length_singleton];omega)
theorem A_ (l:List aa) (hl:l.length≤1000000) (s:aa) (k:aa→Bool→List aa→OR') (K:List aa→OR') (hk: ∀d o,o.length≤2000000→k s d o=K (bif d then o else o++[s])): ∀(r:List aa) (i:Int) (n:Nat) (d:Bool) (out:List aa),At l i r→r.length<n→out.length+r.length+1≤2000000-(bif d then 0 else 1)→
 eM n l s d i out k=K (out++bif d then r else vB r s):=by
 intro r;induction r with
 |nil=>
  intro i n d out h hn ho;obtain⟨n,rfl⟩:=bh hn
  simp only [List.length_nil]at ho
  unfold eM jT
  rw [h.dge,cond_false,hk d out (by omega)]
  cases d<;>simp [vB]
 |cons a r ih=>
  intro i n d out h hn ho;obtain⟨n,rfl⟩:=bh hn
  simp only [List.length_cons]at hn ho
  unfold eM jT
  simp only [h.dlt,h.dnn,h.get,h.next (by omega),cond_true]
  cases d
  ·simp only [Bool.not_false,cond_true,cond_false,vB]at ho⊢
   cases hb:bytesLess s a
   ·simp (disch:=(first|omega|(simp only [List.length_append,be,List.length_cons,List.length_nil];omega))) only [cond_true,cond_false,ap1]
    simp only [be]
    rw [ih (i+1) n false _ h.step (by omega) (by simp only [List.length_append,List.length_singleton,cond_false];omega)]
    simp
   ·simp (disch:=(first|omega|(simp only [List.length_append,be,List.length_cons,List.length_nil];omega))) only [cond_true,cond_false,ap1]
    simp only [be]
    rw [ih (i+1) n true _ h.step (by omega) (by simp only [List.length_append,List.length_singleton,cond_true];omega)]
    simp
  ·simp only [Bool.not_true,cond_true,cond_false]at ho⊢
   simp (disch:=(first|omega|(simp only [List.length_append,be,List.length_cons,List.length_nil];omega))) only [cond_true,cond_false,ap1]
   simp only [be]
   rw [ih (i+1) n true _ h.step (by omega) (by simp only [List.length_append,List.length_singleton,cond_true];omega)]
   simp
def SA:List AV→List Ob→Br
 | [.sh .str l,.str s],[]=>.ite (decide (l.length≤900000)) (.ret (.sh .str (su l s)) []) .fail
 |_,_=>.fail
theorem Gq:Sound Kx 187 SA:=by
 have h0:Sound Kx 187 (kZ fun l s=>.ite (decide (l.length≤900000)) (bif inP l s then .ret (.sh .str l) []else .ret (.ref 0 0) [.arr .str 0 false (vB l s)]) .fail):=by
  refine A9 (fun l _=>l.length+1) fun l s r h=> ?_
  obtain⟨h1,h2⟩:=af h
  rw [decide_eq_true_eq]at h1
  unfold sp
  rw [Pi (show l.length≤1000000 by omega),cond_true]
  cases c:inP l s
  ·rw [c]at h2
   cases h2
   rw [cond_false,A_ l (by omega) s _ (fun o=>some (.ref 0 0,[.arr .str 0 false o])) ?_ l 0 _ false [] (At.start l) (by omega) (by simp only [List.length_nil,cond_false];omega)]
   ·rfl
   ·intro d o ho
    rw [ap1 o s (by omega)]
    cases d
    ·rw [Bool.not_false,cond_true,cond_false,cond_true,be]
    ·rfl
  ·rw [c]at h2
   cases h2
   rfl
 refine M5 h0 fun args objs res objs' hv=> ?_
 unfold SA at hv
 split at hv
 case h_2=>cases hv
 rename_i l s
 obtain⟨h1,h2⟩:=af hv
 cases h2
 refine⟨rfl,rfl,_,_,rfl, ?_⟩
 unfold su
 cases c:inP l s
 ·right
  refine⟨0,false, ?_⟩
  show(Br.ite _ _ _).val=_
  rw [c];exact aR h1
 ·left
  show(Br.ite _ _ _).val=_
  rw [c];exact aR h1
def b5:Nat→Int→List Fd
 |0,_=>[]
 |n+1,k=>(mtP k,mtP (k+1))::b5 n (k+1+1)
theorem pj (K:Int→List Fd→OR'): ∀(r pre:List Fd) (k i:Int) (n:Nat),i=(pre.length:Int)→r.length<n→pre.length+r.length≤100000000→0<k→k+2*r.length≤100000000→
 cn n k i (pre++r) K=K (k+2*r.length) (pre++b5 r.length k):=by
 intro r;induction r with
 |nil=>
  intro pre k i n hi hn hp h0 h1;obtain⟨n,rfl⟩:=bh hn
  have e:decide (i< ((pre++([]:List Fd)).length:Int))=false:=dF' (by rw [hi];simp)
  unfold cn dC
  rw [e,cond_false];simp [b5]
 |cons a r ih=>
  intro pre k i n hi hn hp h0 h1;obtain⟨n,rfl⟩:=bh hn
  simp only [List.length_cons]at hn hp h1
  have ha:At (pre++a::r) i (a::r):=⟨pre,rfl,hi⟩
  have hw:ac (k+1)=k+1:=w64 (by omega) (by omega)
  have hw2:ac (k+1+1)=k+1+1:=w64 (by omega) (by omega)
  have hg:(decide (0<k)&&decide (k≤100000000))=true:=by rw [dT' h0,dT' (by omega)];rfl
  have hg2:(decide (0<k+1)&&decide (k+1≤100000000))=true:=by rw [dT' (by omega),dT' (by omega)];rfl
  have hset: ∀x,(pre++a::r).set i.toNat x=pre++x::r:=fun x=>by rw [hi,Int.toNat_natCast,iM]
  have hset2: ∀x y,(pre++x::r).set i.toNat y=(pre++[y])++r:=fun x y=>by rw [hi,Int.toNat_natCast,iM,Iq]
  have hget: ∀x d,(pre++x::r).getD i.toNat d=x:=fun x d=>by rw [hi,Int.toNat_natCast,Cy]
  have hlt: ∀x,decide (i< ((pre++x::r).length:Int))=true:=fun x=>dT' (by rw [hi];simp only [List.length_append,List.length_cons];omega)
  unfold cn dC
  simp only [hlt,ha.dnn,hg,hg2,hw,hw2,hset,hset2,hget,ha.next (by simp only [List.length_append,List.length_cons];omega),cond_true]
  rw [ih (pre++[(mtP k,mtP (k+1))]) (k+1+1) (i+1) n (by rw [hi];simp) (by omega) (by simp only [List.length_append,List.length_singleton];omega) (by omega) (by omega)]
  congr 1
  ·simp only [List.length_cons];omega
  ·simp [b5]
def QJ:List AV→List Ob→Br
 | [.ref 0 0,.int .i64 k],[.arr (.pair .str .str) 0 false l]=>.ite (decide (0<k)&&decide (k+2*l.length≤100000000)) (.ret (.int .i64 (k+2*l.length)) [.arr (.pair .str .str) 0 false (b5 l.length k)]) .fail
 |_,_=>.fail
theorem ek:Sound Kx 54 QJ:=by
 refine(pi (φ:=fun l k=>.ite (decide (0<k)&&decide (k+2*l.length≤100000000)) (.ret (.int .i64 (k+2*l.length)) [.arr (.pair .str .str) 0 false (b5 l.length k)]) .fail) (fun l _=>l.length+1) fun l k r h=> ?_).of fun args objs r h=> ?_
 ·obtain⟨h1,h2⟩:=af h
  cases h2
  rw [Bool.and_eq_true,decide_eq_true_eq,decide_eq_true_eq]at h1
  unfold ir
  exact pj _ l [] k 0 _ rfl (by omega) (by simp only [List.length_nil];omega) h1.1 h1.2
 ·unfold QJ at h;split at h
  ·exact h
  ·cases h
def JB:Opt:={mutF:=[199,200],live:=[(3,[3,7,8,9])],outs:=[(3,[2,3])]}
def iVary_C:SC:=[⟨171,_,oo⟩,⟨144,_,sq⟩,⟨199,_,Nt⟩,⟨200,_,Nu⟩]
def m9 (ai al:Int) (ap cR:(List aa)) (U6:Int→Int→(List aa)→(List aa)→OR') (cI:(List aa)→OR'):OR':=
 (bif(decide (al<ai))then(bif(decide (0≤al))then(bif(decide (al< (cR.length:Int)))then(bif(isM (List.getD cR (Int.toNat al) ([]:aa)))then(bif(decide (((ap.length+(List.length (List.set (List.replicate 1 ([]:aa)) 0 (aJ (List.getD cR (Int.toNat al) ([]:aa))))))*16)≤140737488355328))then(U6 ai (ac (al+1)) (ap++(List.set (List.replicate 1 ([]:aa)) 0 (aJ (List.getD cR (Int.toNat al) ([]:aa))))) cR)else(none))else(none))else(none))else(none))else(cI ap))
def gQ:Nat→Int→Int→(List aa)→(List aa)→((List aa)→OR')→OR'
 |0,_,_,_,_,_=>none
 |n+1,ai,al,ap,cR,cI=>m9 ai al ap cR (fun ai al ap cR=>gQ n ai al ap cR cI) cI
abbrev iVary_p3:SP:=⟨23,[3,7,8,9],[(.v (.ref 256 0)),(.v (.ref 512 0)),(.v (.i .i64)),(.v (.i .i64))],[(256,.arr Ty.str 0 false),(512,.arr Ty.str 0 false)]⟩
noncomputable def DF:Code:=ax (aD Tryz.f142) [1,1,0,1,0,0]
def DG (f:((List aa)→OR')→OR') (k:KT):OR':=f (fun aQ=>k (Ex.exit 0) ((St.mk (aw 0 23 [(3,(AV.ref 256 0))]) ((256,(Ob.arr Ty.str 0 false aQ))::([]:(List (Nat×(Ob))))))))
def DH (n:Nat) (d:iVary_p3.D):KT→OR':=DG (gQ n d.1.2.2.1 d.1.2.2.2.1 d.2.1 d.2.2.1)
def JC (N:Nat):Lam:=bf [⟨3,iVary_p3,DH N⟩]
theorem JD (N:Nat):OkL Kx iVary_C.s JB 0 N (JC N) DF:=okL iVary_p3 (DH) (fun d kR=>DG (m9 d.1.2.2.1 d.1.2.2.2.1 d.2.1 d.2.2.1 (fun ai al ap cR=>kR (((),(),ai,al,()),(ap,cR,()))))) (fun _ _=>by kernel_rfl) (fun _ _ _=>by kernel_rfl) (fun _ _=>by kernel_rfl) (fun _ _ _ _=>by kernel_rfl) (ah (l':=[]) (by kernel_rfl) trivial)
def x9 (N:Nat) (l:List Fd):OR':=(gQ N ((List.length (bJ l ([118,97,114,121]:aa))):Int) 0 ([]:(List aa)) (bJ l ([118,97,114,121]:aa)) (fun aQ=>(bif(decide (aQ.length≤1000000))then(bif(decide ((List.length (f5 aQ))≤1000000))then(some ((AV.ref 0 0),((Ob.arr Ty.str 0 false (ig (f5 aQ)))::[])))else(none))else(none))))
def x_ (φ:(List Fd)→Br):List AV→List Ob→Br
 | [.sh (.pair .str .str) l],[]=>φ l
 |_,_=>.fail
theorem Gr {φ:(List Fd)→Br} (fu:(List Fd)→Nat) (hv: ∀l res_,(φ l).val=some res_→x9 (fu l) l=some res_):Sound Kx 142 (x_ φ):=aj (C:=iVary_C) (O:=JB) Tryz.func142 (by kernel_rfl) fun args objs=>by
 unfold x_;split
 ·rename_i l;exact .inr fun _ hyp_=>aO (Λ:=JC (fu l)) (by kernel_rfl) (ah (l':=[DF]) (by kernel_rfl) ⟨JD _,trivial⟩) (by kernel_rfl) (hv l _ hyp_)
 ·exact .inl rfl
def JE:Opt:={live:=[(4,[3,4,5])],outs:=[(4,[2,3])],shn:=[3]}
def sVary_C:SC:=[⟨157,_,jG⟩,⟨132,_,sr⟩,⟨187,_,Gq⟩]
def m_ (ar:(List aa)) (aE:Int) (ay:(List aa)) (U9:(List aa)→Int→(List aa)→OR') (bQ:(List aa)→OR'):OR':=
 (bif(decide (aE< (ay.length:Int)))then(bif(decide (0≤aE))then(bif(decide (aE< (ay.length:Int)))then(bif(isM (List.getD ay (Int.toNat aE) ([]:aa)))then(bif(decide (ar.length≤900000))then(U9 (su ar (aJ (List.getD ay (Int.toNat aE) ([]:aa)))) (ac (aE+1)) ay)else(none))else(none))else(none))else(none))else(bQ ar))
def gR:Nat→(List aa)→Int→(List aa)→((List aa)→OR')→OR'
 |0,_,_,_,_=>none
 |n+1,ar,aE,ay,bQ=>m_ ar aE ay (fun ar aE ay=>gR n ar aE ay bQ) bQ
abbrev sVary_p4:SP:=⟨22,[3,4,5],[(.v (.sh Ty.str)),(.v (.ref 320 0)),(.v (.i .i64))],[(320,.arr Ty.str 0 false)]⟩
noncomputable def DI:Code:=ax (aD Tryz.f130) [1,1,1,0,1,0,0]
def DJ (f:((List aa)→OR')→OR') (k:KT):OR':=f (fun bN=>k (Ex.exit 0) ((St.mk (aw 0 22 [(3,(AV.sh Ty.str bN))]) ([]:(List (Nat×(Ob)))))))
def DK (n:Nat) (d:sVary_p4.D):KT→OR':=DJ (gR n d.1.1 d.1.2.2.1 d.2.1)
def JF (N:Nat):Lam:=bf [⟨4,sVary_p4,DK N⟩]
theorem JG (N:Nat):OkL Kx sVary_C.s JE 0 N (JF N) DI:=okL sVary_p4 (DK) (fun d kR=>DJ (m_ d.1.1 d.1.2.2.1 d.2.1 (fun ar aE ay=>kR ((ar,(),aE,()),(ay,()))))) (fun _ _=>by kernel_rfl) (fun _ _ _=>by kernel_rfl) (fun _ _=>by kernel_rfl) (fun _ _ _ _=>by kernel_rfl) (ah (l':=[]) (by kernel_rfl) trivial)
def ya (N:Nat) (l:List Fd):OR':=(gR N ([]:(List aa)) 0 (bJ l ([118,97,114,121]:aa)) (fun bN=>(some ((AV.sh Ty.str bN),[]))))
def yb (φ:(List Fd)→Br):List AV→List Ob→Br
 | [.sh (.pair .str .str) l],[]=>φ l
 |_,_=>.fail
theorem Gs {φ:(List Fd)→Br} (fu:(List Fd)→Nat) (hv: ∀l res_,(φ l).val=some res_→ya (fu l) l=some res_):Sound Kx 130 (yb φ):=aj (C:=sVary_C) (O:=JE) Tryz.func130 (by kernel_rfl) fun args objs=>by
 unfold yb;split
 ·rename_i l;exact .inr fun _ hyp_=>aO (Λ:=JF (fu l)) (by kernel_rfl) (ah (l':=[DI]) (by kernel_rfl) ⟨JG _,trivial⟩) (by kernel_rfl) (hv l _ hyp_)
 ·exact .inl rfl
end
end Go.Proofs.YtihabpimbfmhhaaGreatDoor.Ev
namespace Go.Proofs.YtihabpimbfmhhaaGreatDoor.Ev
open Go Go.RowKit
set_option linter.unusedVariables false
set_option linter.unusedSimpArgs false
abbrev Asc (l:List aa):Prop:=l.Pairwise fun a b=>a<b
theorem Pj: ∀{l m:List aa},Asc l→Asc m→(∀x,x∈l↔x∈m)→l=m
 | [],[],_,_,_=>rfl
 | [],b::m,_,_,h=>by have:=(h b).2 (List.mem_cons_self ..);cases this
 |a::l,[],_,_,h=>by have:=(h a).1 (List.mem_cons_self ..);cases this
 |a::l,b::m,h1,h2,h=>by
  obtain⟨g1,g2⟩:=List.pairwise_cons.1 h1
  obtain⟨k1,k2⟩:=List.pairwise_cons.1 h2
  have hab:a=b:=by
   rcases List.mem_cons.1 ((h a).1 (List.mem_cons_self ..))with e|e
   ·exact e
   ·rcases List.mem_cons.1 ((h b).2 (List.mem_cons_self ..))with e'|e'
    ·exact e'.symm
    ·exact absurd (k1 a e) (List.lt_asymm (g1 b e'))
  subst hab
  congr 1
  refine Pj g2 k2 fun x=>⟨fun hx=> ?_,fun hx=> ?_⟩
  ·rcases List.mem_cons.1 ((h x).1 (List.mem_cons_of_mem _ hx))with e|e
   ·subst e;exact absurd (g1 x hx) (List.lt_irrefl x)
   ·exact e
  ·rcases List.mem_cons.1 ((h x).2 (List.mem_cons_of_mem _ hx))with e|e
   ·subst e;exact absurd (k1 x hx) (List.lt_irrefl x)
   ·exact e
theorem JH (a b:aa):bytesLess a b=decide (a<b):=bytesLess_eq a b
theorem pl {a b:aa} (h1: ¬a<b) (h2:b≠a):b<a:=by
 rcases Classical.em (b<a)with h|h
 ·exact h
 ·exact absurd (List.le_antisymm (List.not_lt.1 h1) (List.not_lt.1 h)) h2
theorem Ba (s x:aa): ∀l:List aa,x∈vB l s↔x∈l∨x=s
 | []=>by simp [vB]
 |a::l=>by
  unfold vB
  cases bytesLess s a
  ·simp only [cond_false,List.mem_cons,Ba s x l,or_assoc]
  ·simp only [cond_true,List.mem_cons]
   constructor
   ·rintro(h|h|h)
    ·exact .inr h
    ·exact .inl (.inl h)
    ·exact .inl (.inr h)
   ·rintro((h|h)|h)
    ·exact .inr (.inl h)
    ·exact .inr (.inr h)
    ·exact .inl h
theorem JI (s:aa): ∀{l:List aa},Asc l→s ∉ l→Asc (vB l s)
 | [],_,_=>by simp [vB]
 |a::l,h,hs=>by
  obtain⟨g1,g2⟩:=List.pairwise_cons.1 h
  unfold vB
  cases hb:bytesLess s a
  ·rw [JH]at hb
   have hab:a<s:=pl (of_decide_eq_false hb) fun e=>hs (by rw [e];exact List.mem_cons_self ..)
   rw [cond_false]
   refine List.pairwise_cons.2 ⟨fun y hy=> ?_,JI s g2 fun e=>hs (List.mem_cons_of_mem _ e)⟩
   rcases(Ba s y l).1 hy with e|e
   ·exact g1 y e
   ·subst e;exact hab
  ·rw [JH]at hb
   have hab:=of_decide_eq_true hb
   rw [cond_true]
   refine List.pairwise_cons.2 ⟨fun y hy=> ?_,h⟩
   rcases List.mem_cons.1 hy with e|e
   ·subst e;exact hab
   ·exact List.lt_trans hab (g1 y e)
theorem JJ (l:List aa) (s:aa):inP l s=true↔s∈l:=by
 unfold inP
 simp
theorem QK (l:List aa) (s x:aa):x∈su l s↔x∈l∨x=s:=by
 unfold su
 cases h:inP l s
 ·exact Ba s x l
 ·rw [cond_true]
  refine⟨.inl,fun h2=> ?_⟩
  rcases h2 with e|e
  ·exact e
  ·subst e;exact(JJ l x).1 h
theorem QL {l:List aa} (hl:Asc l) (s:aa):Asc (su l s):=by
 unfold su
 cases h:inP l s
 ·exact JI s hl fun e=>by rw [(JJ l s).2 e]at h;cases h
 ·exact hl
theorem yc: ∀(xs l:List aa),Asc l→Asc (xs.foldl su l)∧ ∀x,x∈xs.foldl su l↔x∈l∨x∈xs
 | [],l,h=>⟨h,fun x=>by simp⟩
 |a::xs,l,h=>by
  obtain⟨h1,h2⟩:=yc xs (su l a) (QL h a)
  refine⟨h1,fun x=> ?_⟩
  show x∈xs.foldl su (su l a)↔_
  rw [h2,QK,List.mem_cons,or_assoc]
theorem JK (xs:List aa):(f5 xs).Pairwise fun a b=>a≤b:=by
 have:=List.pairwise_mergeSort (le:=fun x y:aa=>decide (x≤y)) (fun a b c h1 h2=>by simp only [decide_eq_true_eq]at *;exact List.le_trans h1 h2) (fun a b=>by simp only [Bool.or_eq_true,decide_eq_true_eq];exact List.le_total a b) xs
 exact this.imp fun h=>by simpa using h
theorem Nx (xs:List aa) (x:aa):x∈f5 xs↔x∈xs:=(List.mergeSort_perm xs _).mem_iff
theorem Ny {zs:List aa} (h:zs.Pairwise fun a b=>a≤b):Asc (ig zs)∧ ∀x,x∈ig zs↔x∈zs:=by
 have hle: ∀i j,i≤j→j<zs.length→zs.toArray[i]! ≤zs.toArray[j]! :=fun i j hij hj=>by
  rw [getElem!_pos _ i (by simpa using Nat.lt_of_le_of_lt hij hj),getElem!_pos _ j (by simpa using hj)]
  rcases Nat.lt_or_ge i j with h'|h'
  ·simpa using List.pairwise_iff_getElem.1 h i j (by omega) hj h'
  ·obtain rfl:i=j:=by omega
   exact List.le_refl _
 unfold ig Lib.compact Lib.compactUpTo
 refine⟨?_,fun x=>⟨fun hx=> ?_,fun hx=> ?_⟩⟩
 ·refine List.pairwise_map.2 ?_
  have h1:((List.range zs.length).filter (Lib.keeps zs.toArray)).Pairwise (· < ·):=List.pairwise_lt_range.filter _
  refine h1.imp_of_mem fun{i j} hi hj hij=> ?_
  obtain⟨hj1,hj2⟩:=List.mem_filter.1 hj
  have hj1:=List.mem_range.1 hj1
  have hne:zs.toArray[j]! ≠zs.toArray[j-1]! :=by
   have:=of_decide_eq_true hj2
   rcases this with e|e
   ·omega
   ·exact e
  have g1:=hle i (j-1) (by omega) (by omega)
  have g2:=hle (j-1) j (by omega) hj1
  have g3:zs.toArray[j-1]! <zs.toArray[j]! :=pl (fun hlt=>hne (List.le_antisymm (List.le_of_lt hlt) g2)) (Ne.symm hne)
  rcases Classical.em (zs.toArray[i]! =zs.toArray[j-1]!)with e|e
  ·rw [e];exact g3
  ·exact List.lt_trans (pl (fun hlt=>e (List.le_antisymm g1 (List.le_of_lt hlt))) e) g3
 ·obtain⟨i,hi,rfl⟩:=List.mem_map.1 hx
  have hi':i<zs.length:=List.mem_range.1 (List.mem_filter.1 hi).1
  simp [getElem!_pos,hi']
 ·obtain⟨i,hi,rfl⟩:=List.mem_iff_getElem.1 hx
  clear hx
  induction i with
  |zero=>exact List.mem_map.2 ⟨0,List.mem_filter.2 ⟨List.mem_range.2 hi,by simp [Lib.keeps]⟩,by simp [getElem!_pos,hi]⟩
  |succ i ih=>
   rcases Classical.em (zs[i+1]=zs[i])with e|e
   ·rw [e];exact ih (by omega)
   ·refine List.mem_map.2 ⟨i+1,List.mem_filter.2 ⟨List.mem_range.2 hi, ?_⟩,by simp [getElem!_pos,hi]⟩
    refine dT' (.inr ?_)
    rw [getElem!_pos _ (i+1) (by simpa using hi),getElem!_pos _ (i+1-1) (by simp;omega)]
    simpa using e
theorem JL (xs:List aa):ig (f5 xs)=xs.foldl su []:=by
 obtain⟨h1,h2⟩:=Ny (JK xs)
 obtain⟨h3,h4⟩:=yc xs [] (by simp)
 exact Pj h1 h3 fun x=>by rw [h2,Nx,h4];simp
end Go.Proofs.YtihabpimbfmhhaaGreatDoor.Ev
namespace Go.Proofs.YtihabpimbfmhhaaGreatDoor.Ev
open Go Go.RowKit
set_option linter.unusedVariables false
set_option linter.unusedSimpArgs false
noncomputable section
theorem Nz: ∀(n:Nat) (r cur:aa) (q:Bool),r.length≤n→(dY cur q r).length≤r.length+1∧ ∀x∈dY cur q r,x.length≤cur.length+r.length:=by
 intro n;induction n with
 |zero=>
  intro r cur q h
  obtain rfl:r=[]:=List.length_eq_zero_iff.1 (by omega)
  simp [gp]
 |succ n ih=>
  intro r cur q h
  cases r with
  |nil=>simp [gp]
  |cons c r=>
   simp only [List.length_cons]at h
   have step: ∀(cur':aa) (q':Bool),cur'.length≤cur.length+1→(dY cur' q' r).length≤(c::r).length+1∧ ∀x∈dY cur' q' r,x.length≤cur.length+(c::r).length:=fun cur' q' hc=>by
    obtain⟨h1,h2⟩:=ih r cur' q' (by omega)
    refine⟨by simp only [List.length_cons];omega,fun x hx=> ?_⟩
    have:=h2 x hx
    simp only [List.length_cons];omega
   rw [kW]
   cases decide (by8 c=34)
   ·rw [cond_false]
    cases q&&decide (by8 c=92)
    ·rw [cond_false]
     cases !q&&decide (by8 c=44)
     ·rw [cond_false];exact step _ _ (by simp)
     ·rw [cond_true]
      obtain⟨h1,h2⟩:=ih r [] q (by omega)
      refine⟨by simp only [List.length_cons];omega,fun x hx=> ?_⟩
      rcases List.mem_cons.1 hx with e|e
      ·subst e;omega
      ·have:=h2 x e
       simp only [List.length_cons,List.length_nil]at this⊢;omega
    ·rw [cond_true]
     cases r with
     |nil=>simp
     |cons d r=>
      simp only [List.length_cons]at h
      obtain⟨h1,h2⟩:=ih r (cur++[c,d]) q (by omega)
      refine⟨by simp only [List.length_cons];omega,fun x hx=> ?_⟩
      have:=h2 x hx
      simp only [List.length_cons,List.length_append,List.length_nil]at this⊢;omega
   ·rw [cond_true];exact step _ _ (by simp)
theorem fL (p:UInt8→Bool): ∀s:aa,(s.dropWhile p).length≤s.length
 | []=>by simp
 |a::s=>by
  rw [List.dropWhile_cons]
  split
  ·have:=fL p s;simp only [List.length_cons];omega
  ·exact Nat.le_refl _
theorem NA (s:aa):(bH s).length≤s.length:=by
 unfold bH kQ iP
 rw [List.length_reverse]
 refine Nat.le_trans (fL _ _) ?_
 rw [List.length_reverse]
 exact fL _ _
theorem DL: ∀(l:List aa) (n:Nat),(∀x∈l,x.length≤n)→(fZ l).length≤l.length∧ ∀x∈fZ l,x.length≤n
 | [],_,_=>by simp [fZ]
 |a::l,n,h=>by
  obtain⟨h1,h2⟩:=DL l n fun x hx=>h x (List.mem_cons_of_mem _ hx)
  have ha:=h a (List.mem_cons_self ..)
  have:=NA a
  rw [gq]
  cases decide (bH a=[])
  ·rw [cond_false]
   refine⟨by simp only [List.length_cons];omega,fun x hx=> ?_⟩
   rcases List.mem_cons.1 hx with e|e
   ·subst e;omega
   ·exact h2 x e
  ·rw [cond_true]
   exact⟨by simp only [List.length_cons];omega,h2⟩
theorem Bb (s:aa):(mE s).length≤4001∧ ∀x∈mE s,x.length≤4000:=by
 unfold mE
 cases c:decide (4000< (s.length:Int))
 ·have hl:=of_decide_eq_false c
  rw [cond_false]
  obtain⟨h1,h2⟩:=Nz s.length s [] false (Nat.le_refl _)
  obtain⟨h3,h4⟩:=DL (dY [] false s) 4000 fun x hx=>by have:=h2 x hx;simp only [List.length_nil]at this;omega
  exact⟨by omega,h4⟩
 ·simp
theorem nc (l:List Fd) (name:aa):(bJ l name).length≤4001∧ ∀x∈bJ l name,isM x=true:=
 ⟨(Bb _).1,fun x hx=>aW ((Bb _).2 x hx)⟩
def k9:aa:=[118,97,114,121]
def en (l:List Fd):List aa:=(bJ l k9).foldl (fun o w=>su o (aJ w)) []
theorem JM (l:List Fd):ig (f5 ((bJ l k9).map aJ))=en l:=by
 rw [JL,List.foldl_map];rfl
theorem Gt (k:List aa→OR') (ws:List aa) (hl:ws.length≤100000): ∀(r:List aa) (i:Int) (n:Nat) (out:List aa),At ws i r→r.length<n→(∀x∈r,isM x=true)→out.length+r.length≤200000→
 gQ n (ws.length:Int) i out ws k=k (out++r.map aJ):=by
 intro r;induction r with
 |nil=>intro i n out h hn hf ho;obtain⟨n,rfl⟩:=bh hn;unfold gQ m9;rw [h.dge,cond_false];simp
 |cons a r ih=>
  intro i n out h hn hf ho;obtain⟨n,rfl⟩:=bh hn
  have ha:=hf a (List.mem_cons_self ..)
  have hr:=fun x h=>hf x (List.mem_cons_of_mem _ h)
  simp only [List.length_cons]at hn ho
  unfold gQ m9
  simp (disch:=omega) only [h.dlt,h.dnn,h.get,h.next (by omega),ha,cond_true,ap1]
  rw [be,ih (i+1) n _ h.step (by omega) hr (by simp only [List.length_append,List.length_singleton];omega)]
  simp
theorem JN (s:aa): ∀l:List aa,(vB l s).length≤l.length+1
 | []=>by simp [vB]
 |a::l=>by
  have:=JN s l
  unfold vB
  cases bytesLess s a
  ·rw [cond_false];simp only [List.length_cons];omega
  ·rw [cond_true];simp only [List.length_cons];omega
theorem QM (l:List aa) (s:aa):(su l s).length≤l.length+1:=by
 unfold su
 cases inP l s
 ·rw [cond_false];exact JN s l
 ·rw [cond_true];omega
theorem Gu (k:List aa→OR') (ws:List aa) (hl:ws.length≤100000): ∀(r:List aa) (i:Int) (n:Nat) (out:List aa),At ws i r→r.length<n→(∀x∈r,isM x=true)→out.length+r.length≤200000→
 gR n out i ws k=k (r.foldl (fun o w=>su o (aJ w)) out):=by
 intro r;induction r with
 |nil=>intro i n out h hn hf ho;obtain⟨n,rfl⟩:=bh hn;unfold gR m_;rw [h.dge,cond_false];rfl
 |cons a r ih=>
  intro i n out h hn hf ho;obtain⟨n,rfl⟩:=bh hn
  have ha:=hf a (List.mem_cons_self ..)
  have hr:=fun x h=>hf x (List.mem_cons_of_mem _ h)
  simp only [List.length_cons]at hn ho
  have hp:=QM out (aJ a)
  unfold gR m_
  simp (disch:=omega) only [h.dlt,h.dnn,h.get,h.next (by omega),ha,cond_true,Pi]
  rw [ih (i+1) n _ h.step (by omega) hr (by omega)]
  rfl
def SB:List AV→List Ob→Br
 | [.sh (.pair .str .str) l],[]=>.ret (.ref 0 0) [.arr .str 0 false (en l)]
 |_,_=>.fail
def SD:List AV→List Ob→Br
 | [.sh (.pair .str .str) l],[]=>.ret (.sh .str (en l)) []
 |_,_=>.fail
theorem JO:Sound Kx 142 SB:=by
 refine(Gr (φ:=fun l=>.ret (.ref 0 0) [.arr .str 0 false (en l)]) (fun l=>(bJ l k9).length+1) fun l r h=> ?_).of fun args objs r h=> ?_
 ·cases h
  obtain⟨h1,h2⟩:=nc l k9
  rw [←JM]
  have hs:(f5 ((bJ l k9).map aJ)).length=(bJ l k9).length:=by simp [f5]
  unfold x9
  refine(Gt _ (bJ l k9) (by omega) _ 0 _ [] (At.start _) (by omega) h2 (by simp only [List.length_nil];omega)).trans ?_
  simp only [List.nil_append]
  rw [Pi (by rw [List.length_map];omega),Pi (by rw [hs];omega)];rfl
 ·unfold SB at h;split at h
  ·exact h
  ·cases h
theorem JP:Sound Kx 130 SD:=by
 refine(Gs (φ:=fun l=>.ret (.sh .str (en l)) []) (fun l=>(bJ l k9).length+1) fun l r h=> ?_).of fun args objs r h=> ?_
 ·cases h
  obtain⟨h1,h2⟩:=nc l k9
  unfold ya
  exact Gu _ (bJ l k9) (by omega) _ 0 _ [] (At.start _) (by omega) h2 (by simp only [List.length_nil];omega)
 ·unfold SD at h;split at h
  ·exact h
  ·cases h
theorem DM (l:List Fd):(en l).length≤4001:=by
 rw [←JM]
 refine Nat.le_trans (Dy _) ?_
 have hs:(f5 ((bJ l k9).map aJ)).length=(bJ l k9).length:=by simp [f5]
 rw [hs];exact(nc l k9).1
end
end Go.Proofs.YtihabpimbfmhhaaGreatDoor.Ev
