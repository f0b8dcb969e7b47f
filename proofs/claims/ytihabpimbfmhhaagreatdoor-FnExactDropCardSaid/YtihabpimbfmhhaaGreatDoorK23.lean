/- The texts Ne, Nf, Ng, Nh, Ni, Nj, Nk, Nl, one behind the other. -/
import Derived.Test.YtihabpimbfmhhaaGreatDoorK14
import Derived.Test.YtihabpimbfmhhaaGreatDoorK20
import Derived.Test.YtihabpimbfmhhaaGreatDoorK22
import Derived.Test.YtihabpimbfmhhaaGreatDoorK13
namespace Go.Proofs.YtihabpimbfmhhaaGreatDoor.Ev
open Go Go.RowKit
set_option linter.unusedVariables false
set_option linter.unusedSimpArgs false
noncomputable section
theorem OH {a b:Nat} (h:a≤b):decide (a≤b)=true:=dT' h
def bytesLess (a b:aa):Bool:=Op.bytesLess a b
def inP (l:List aa) (s:aa):Bool:=l.any fun x=>decide (x=s)
def mtP (k:Int):aa:=109::Lib.decDigits k.toNat
theorem EY (d:Int) (h0:0≤d) (h:d<10):br (List.set (List.replicate 1 (0:Int)) 0 (wk8 (ac (48+d))))=[UInt8.ofNat (48+d.toNat)]:=by
 rw [w64 (by omega) (by omega),w8 (by omega) (by omega),cy]
 show [UInt8.ofNat (48+d).toNat]=_
 rw [show(48+d).toNat=48+d.toNat by omega]
theorem ry (K:aa→OR'): ∀(n:Nat) (k:Int) (out:aa),0<k→k≤1000000000→k< (n:Int)→out.length+k.toNat≤2000000000→
 cK (n+1) k out K=K (Lib.decDigits k.toNat++out):=by
 intro n;induction n with
 |zero=>intro k out h0 h1 h2;omega
 |succ n ih=>
  intro k out h0 h1 h2 h3
  have e1:ac (Int.tdiv k 10)=((k.toNat/10:Nat):Int):=by
   rw [Int.tdiv_eq_ediv_of_nonneg (by omega),w64 (by omega) (by omega)];omega
  have e2:Int.tmod k 10=((k.toNat % 10:Nat):Int):=by
   rw [Int.tmod_eq_emod_of_nonneg (by omega)];omega
  have hd:br (List.set (List.replicate 1 (0:Int)) 0 (wk8 (ac (48+((k.toNat % 10:Nat):Int)))))=[UInt8.ofNat (48+k.toNat % 10)]:=by
   rw [EY _ (by omega) (by omega)];simp only [Int.toNat_natCast]
  unfold cK eK
  have hp:decide ((0:Int)<k)=true:=dT' h0
  simp only [hp,e1,e2,hd,cond_true,List.length_singleton,OH (show 1+out.length≤9223372036854775807 by omega)]
  by_cases c:k.toNat<10
  ·have e3:k.toNat/10=0:=by omega
   have e4:k.toNat % 10=k.toNat:=by omega
   rw [e3]
   unfold cK eK
   simp only [Int.ofNat_eq_natCast,Int.cast_ofNat_Int,Int.lt_irrefl,decide_false,cond_false]
   rw [Lib.decDigits_one c,e4]
  ·rw [ih _ _ (by omega) (by omega) (by omega) (by simp only [List.length_append,List.length_singleton];omega),Int.toNat_natCast,Lib.decDigits.eq_1 k.toNat,dif_neg c,List.append_assoc]
def Oo:List AV→List Ob→Br
 | [.int .i64 k],[]=>.ite (decide (0<k)&&decide (k≤100000000)) (.ret (.str (mtP k)) []) .fail
 |_,_=>.fail
theorem uC (n:Nat):(Lib.decDigits n).length≤n+1:=by
 induction n using Nat.strongRecOn with
 |_ n ih=>
  by_cases c:n<10
  ·rw [Lib.decDigits_one c];simp
  ·rw [Lib.decDigits.eq_1,dif_neg c]
   have:=ih (n/10) (by omega)
   simp only [List.length_append,List.length_singleton];omega
theorem dH:Sound Kx 64 Oo:=by
 refine(rt (φ:=fun k=>.ite (decide (0<k)&&decide (k≤100000000)) (.ret (.str (mtP k)) []) .fail) (fun k=>k.toNat+2) fun k r h=> ?_).of fun args objs r h=> ?_
 ·obtain⟨h1,h2⟩:=af h
  cases h2
  rw [Bool.and_eq_true,decide_eq_true_eq,decide_eq_true_eq]at h1
  have hl:=uC k.toNat
  unfold jR
  rw [dF' (by omega),cond_false,ry _ (k.toNat+1) k [] h1.1 (by omega) (by omega) (by simp;omega)]
  simp only [List.append_nil]
  rw [OH (by omega),cond_true];rfl
 ·unfold Oo at h;split at h
  ·exact h
  ·cases h
def jT:Opt:={live:=[(2,[0,1,5])],outs:=[(2,[1,4])]}
def markFieldS_C:SC:=[⟨64,_,dH⟩]
def db (al ap:Int) (aN:(List Fd)) (O_:Int→Int→(List Fd)→OR') (bG:Int→(List Fd)→OR'):OR':=
 (bif(decide (ap< (aN.length:Int)))then(bif((decide (0<al))&&(decide (al≤100000000)))then(bif(decide (0≤ap))then(bif(decide (ap< (aN.length:Int)))then(bif((decide (0< (ac (al+1))))&&(decide ((ac (al+1))≤100000000)))then(bif(decide (0≤ap))then(bif(decide (ap< ((List.length (List.set aN (Int.toNat ap) ((mtP al),(List.getD aN (Int.toNat ap) (([]:aa),([]:aa))).2))):Int)))then(O_ (ac ((ac (al+1))+1)) (ac (ap+1)) (List.set (List.set aN (Int.toNat ap) ((mtP al),(List.getD aN (Int.toNat ap) (([]:aa),([]:aa))).2)) (Int.toNat ap) ((List.getD (List.set aN (Int.toNat ap) ((mtP al),(List.getD aN (Int.toNat ap) (([]:aa),([]:aa))).2)) (Int.toNat ap) (([]:aa),([]:aa))).1,(mtP (ac (al+1))))))else(none))else(none))else(none))else(none))else(none))else(none))else(bG al aN))
def b5:Nat→Int→Int→(List Fd)→(Int→(List Fd)→OR')→OR'
 |0,_,_,_,_=>none
 |n+1,al,ap,aN,bG=>db al ap aN (fun al ap aN=>b5 n al ap aN bG) bG
abbrev markFieldS_p2:SP:=⟨29,[0,1,5],[(.v (.ref 0 0)),(.v (.i .i64)),(.v (.i .i64))],[(0,.arr (Ty.pair Ty.str Ty.str) 0 false)]⟩
noncomputable def iz:Code:=aG (aI Tryz.f54) [1,0,1,0,0]
def iA (f:(Int→(List Fd)→OR')→OR') (k:KT):OR':=f (fun bH ee=>k (Ex.exit 0) ((St.mk (aE 0 29 [(1,(AV.int .i64 bH))]) ((0,(Ob.arr (Ty.pair Ty.str Ty.str) 0 false ee))::([]:(List (Nat×(Ob))))))))
def iB (n:Nat) (d:markFieldS_p2.D):KT→OR':=iA (b5 n d.1.2.1 d.1.2.2.1 d.2.1)
def jU (N:Nat):Lam:=bD [⟨2,markFieldS_p2,iB N⟩]
theorem oh (N:Nat):OkL Kx markFieldS_C.s jT 1 N (jU N) iz:=okL markFieldS_p2 (iB) (fun d kR=>iA (db d.1.2.1 d.1.2.2.1 d.2.1 (fun al ap aN=>kR (((),al,ap,()),(aN,()))))) (fun _ _=>by kernel_rfl) (fun _ _ _=>by kernel_rfl) (fun _ _=>by kernel_rfl) (fun _ _ _ _=>by kernel_rfl) (ah (l':=[]) (by kernel_rfl) trivial)
def gh (N:Nat) (l:List Fd) (k:Int):OR':=(b5 N k 0 l (fun bH=>(fun ee=>(some ((AV.int .i64 bH),((Ob.arr (Ty.pair Ty.str Ty.str) 0 false ee)::[]))))))
def gi (φ:(List Fd)→Int→Br):List AV→List Ob→Br
 | [.ref 0 0,.int .i64 k],[.arr (.pair .str .str) 0 false l]=>φ l k
 |_,_=>.fail
theorem m9 {φ:(List Fd)→Int→Br} (fu:(List Fd)→Int→Nat) (hv: ∀l k res_,(φ l k).val=some res_→gh (fu l k) l k=some res_):Sound Kx 54 (gi φ):=an (C:=markFieldS_C) (O:=jT) Tryz.func54 (by kernel_rfl) fun args objs=>by
 unfold gi;split
 ·rename_i k l;exact .inr fun _ hyp_=>aV (Λ:=jU (fu l k)) (by kernel_rfl) (ah (l':=[iz]) (by kernel_rfl) ⟨oh _,trivial⟩) (by kernel_rfl) (hv l k _ hyp_)
 ·exact .inl rfl
def cn:Nat→Int→List Fd
 |0,_=>[]
 |n+1,k=>(mtP k,mtP (k+1))::cn n (k+1+1)
theorem m_ (K:Int→List Fd→OR'): ∀(r pre:List Fd) (k i:Int) (n:Nat),i=(pre.length:Int)→r.length<n→pre.length+r.length≤100000000→0<k→k+2*r.length≤100000000→
 b5 n k i (pre++r) K=K (k+2*r.length) (pre++cn r.length k):=by
 intro r;induction r with
 |nil=>
  intro pre k i n hi hn hp h0 h1;obtain⟨n,rfl⟩:=bC hn
  have e:decide (i< ((pre++([]:List Fd)).length:Int))=false:=dF' (by rw [hi];simp)
  unfold b5 db
  rw [e,cond_false];simp [cn]
 |cons a r ih=>
  intro pre k i n hi hn hp h0 h1;obtain⟨n,rfl⟩:=bC hn
  simp only [List.length_cons]at hn hp h1
  have ha:At (pre++a::r) i (a::r):=⟨pre,rfl,hi⟩
  have hw:ac (k+1)=k+1:=w64 (by omega) (by omega)
  have hw2:ac (k+1+1)=k+1+1:=w64 (by omega) (by omega)
  have hg:(decide (0<k)&&decide (k≤100000000))=true:=by rw [dT' h0,dT' (by omega)];rfl
  have hg2:(decide (0<k+1)&&decide (k+1≤100000000))=true:=by rw [dT' (by omega),dT' (by omega)];rfl
  have hset: ∀x,(pre++a::r).set i.toNat x=pre++x::r:=fun x=>by rw [hi,Int.toNat_natCast,gz]
  have hset2: ∀x y,(pre++x::r).set i.toNat y=(pre++[y])++r:=fun x y=>by rw [hi,Int.toNat_natCast,gz,DT]
  have hget: ∀x d,(pre++x::r).getD i.toNat d=x:=fun x d=>by rw [hi,Int.toNat_natCast,yw]
  have hlt: ∀x,decide (i< ((pre++x::r).length:Int))=true:=fun x=>dT' (by rw [hi];simp only [List.length_append,List.length_cons];omega)
  unfold b5 db
  simp only [hlt,ha.dnn,hg,hg2,hw,hw2,hset,hset2,hget,ha.next (by simp only [List.length_append,List.length_cons];omega),cond_true]
  rw [ih (pre++[(mtP k,mtP (k+1))]) (k+1+1) (i+1) n (by rw [hi];simp) (by omega) (by simp only [List.length_append,List.length_singleton];omega) (by omega) (by omega)]
  congr 1
  ·simp only [List.length_cons];omega
  ·simp [cn]
def K2:List AV→List Ob→Br
 | [.ref 0 0,.int .i64 k],[.arr (.pair .str .str) 0 false l]=>.ite (decide (0<k)&&decide (k+2*l.length≤100000000)) (.ret (.int .i64 (k+2*l.length)) [.arr (.pair .str .str) 0 false (cn l.length k)]) .fail
 |_,_=>.fail
theorem oi:Sound Kx 54 K2:=by
 refine(m9 (φ:=fun l k=>.ite (decide (0<k)&&decide (k+2*l.length≤100000000)) (.ret (.int .i64 (k+2*l.length)) [.arr (.pair .str .str) 0 false (cn l.length k)]) .fail) (fun l _=>l.length+1) fun l k r h=> ?_).of fun args objs r h=> ?_
 ·obtain⟨h1,h2⟩:=af h
  cases h2
  rw [Bool.and_eq_true,decide_eq_true_eq,decide_eq_true_eq]at h1
  unfold gh
  exact m_ _ l [] k 0 _ rfl (by omega) (by simp only [List.length_nil];omega) h1.1 h1.2
 ·unfold K2 at h;split at h
  ·exact h
  ·cases h
end
end Go.Proofs.YtihabpimbfmhhaaGreatDoor.Ev
namespace Go.Proofs.YtihabpimbfmhhaaGreatDoor.Ev
open Go Go.RowKit
set_option linter.unusedVariables false
set_option linter.unusedSimpArgs false
end Go.Proofs.YtihabpimbfmhhaaGreatDoor.Ev
namespace Go.Proofs.YtihabpimbfmhhaaGreatDoor.Ev
open Go Go.RowKit
set_option linter.unusedVariables false
set_option linter.unusedSimpArgs false
noncomputable section
end
end Go.Proofs.YtihabpimbfmhhaaGreatDoor.Ev
