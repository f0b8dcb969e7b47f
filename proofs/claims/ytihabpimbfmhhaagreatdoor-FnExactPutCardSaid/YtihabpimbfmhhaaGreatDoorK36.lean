/- The texts Vi, Vj, Vk, Vl, Vm, Vn, Wa, Wb, Vo, Xe, Xf, Xg, Xh, Xi, Xj, one behind the other. -/
import Derived.Test.YtihabpimbfmhhaaGreatDoorK32
import Derived.Test.YtihabpimbfmhhaaGreatDoorK13
namespace Go.Proofs.YtihabpimbfmhhaaGreatDoor.Ev
open Go Go.RowKit
set_option linter.unusedVariables false
set_option linter.unusedSimpArgs false
noncomputable section
theorem j6 (a:En):(a.1,a.2.1,a.2.2.1,a.2.2.2.1,a.2.2.2.2.1,a.2.2.2.2.2.1,a.2.2.2.2.2.2.1,a.2.2.2.2.2.2.2.1,a.2.2.2.2.2.2.2.2.1,a.2.2.2.2.2.2.2.2.2.1,a.2.2.2.2.2.2.2.2.2.2)=a:=rfl
def nq:List En→Int
 | []=>0
 |e::r=>fO e+nq r
def jn (l:List En):Bool:=decide (l.length≤1048576)&&l.all fun e=>decide (e.1.length≤1048576)
theorem EJ (e:En) (h:e.1.length≤1048576):0≤fO e∧fO e≤1050676:=by
 have:=pS e.2.2.2.2
 unfold fO;omega
theorem hY {l:List En} (h:jn l=true):l.length≤1048576∧ ∀e∈l,e.1.length≤1048576:=by
 unfold jn at h
 simp only [Bool.and_eq_true,decide_eq_true_eq,List.all_eq_true]at h
 exact h
theorem Ll (l:List En) (hl:l.length≤1048576) (k:Int→OR'): ∀(r:List En) (acc i:Int) (n:Nat),At l i r→r.length<n→(∀e∈r,e.1.length≤1048576)→0≤acc→acc+1050676*r.length≤2000000000000→
 lk n acc l (l.length:Int) i k=k (acc+nq r):=by
 intro r;induction r with
 |nil=>intro acc i n h hn hm ha hb;obtain⟨n,rfl⟩:=bh hn;unfold lk vd;simp only [h.dge,cond_false,nq,Int.add_zero]
 |cons e r ih=>
  intro acc i n h hn hm ha hb;obtain⟨n,rfl⟩:=bh hn
  simp only [List.length_cons]at hn hb
  have he:=hm e (List.mem_cons_self ..)
  have hs:=EJ e he
  have hM:isM e.1=true:=aW (n:=1048576) he
  have hr:=ih (acc+fO e) (i+1) n h.step (by omega) (fun x hx=>hm x (List.mem_cons_of_mem _ hx)) (by omega) (by omega)
  unfold lk vd
  simp only [h.dlt,h.dnn,h.get,cond_true,h.next (show l.length≤4611686018427387904 by omega),hM,j6]
  rw [w64 (by omega) (by omega),hr]
  simp only [nq]
  rw [Int.add_assoc]
theorem Lm (l:List En) (hl:l.length≤1048576) (k:Int→OR'): ∀(r:List En) (acc i:Int) (n:Nat),At l i r→r.length<n→(∀e∈r,e.1.length≤1048576)→0≤acc→acc+1050676*r.length≤2000000000000→
 ll n l acc i k=k (acc+nq r):=by
 intro r;induction r with
 |nil=>intro acc i n h hn hm ha hb;obtain⟨n,rfl⟩:=bh hn;unfold ll ve;simp only [h.dge,cond_false,nq,Int.add_zero]
 |cons e r ih=>
  intro acc i n h hn hm ha hb;obtain⟨n,rfl⟩:=bh hn
  simp only [List.length_cons]at hn hb
  have he:=hm e (List.mem_cons_self ..)
  have hs:=EJ e he
  have hM:isM e.1=true:=aW (n:=1048576) he
  have hr:=ih (acc+fO e) (i+1) n h.step (by omega) (fun x hx=>hm x (List.mem_cons_of_mem _ hx)) (by omega) (by omega)
  unfold ll ve
  simp only [h.dlt,h.dnn,h.get,cond_true,h.next (show l.length≤4611686018427387904 by omega),hM,j6]
  rw [w64 (by omega) (by omega),hr]
  simp only [nq]
  rw [Int.add_assoc]
def Rk (p:Int→List En→AV):List AV→List Ob→Br
 | [.agg [.int .i64 bu,.sh (.pair .str (.pair (.int .i64) (.pair (.int .i64) (.pair (.slice (.pair .str .str)) (.pair .str (.pair .str (.pair (.int .i64) (.pair .str (.pair .bool (.pair (.slice (.pair .str .str)) .str)))))))))) l]],[]=>.ite (jn l) (.ret (p bu l) []) .fail
 |_,_=>.fail
def UR (p:List En→AV):List AV→List Ob→Br
 | [.sh (.pair .str (.pair (.int .i64) (.pair (.int .i64) (.pair (.slice (.pair .str .str)) (.pair .str (.pair .str (.pair (.int .i64) (.pair .str (.pair .bool (.pair (.slice (.pair .str .str)) .str)))))))))) l],[]=>.ite (jn l) (.ret (p l) []) .fail
 |_,_=>.fail
theorem EK:Sound Kx 76 (Rk fun _ l=>.int .i64 (nq l)):=by
 refine(K5 (φ:=fun bu l=>.ite (jn l) (.ret (.int .i64 (nq l)) []) .fail) (fun _ l=>l.length+1) fun bu l r h=> ?_).of fun args objs r h=> ?_
 ·obtain⟨h1,h2⟩:=af h
  cases h2
  obtain⟨g1,g2⟩:=hY h1
  unfold Ey
  rw [Ll l g1 _ l 0 0 (l.length+1) (At.start l) (by omega) g2 (by omega) (by omega),Int.zero_add]
 ·unfold Rk at h;split at h
  ·exact h
  ·cases h
theorem EL:Sound Kx 73 (UR fun l=>.int .i64 (nq l)):=by
 refine(K9 (φ:=fun l=>.ite (jn l) (.ret (.int .i64 (nq l)) []) .fail) (fun l=>l.length+1) fun l r h=> ?_).of fun args objs r h=> ?_
 ·obtain⟨h1,h2⟩:=af h
  cases h2
  obtain⟨g1,g2⟩:=hY h1
  unfold EA
  rw [Lm l g1 _ l 0 0 (l.length+1) (At.start l) (by omega) g2 (by omega) (by omega),Int.zero_add]
 ·unfold UR at h;split at h
  ·exact h
  ·cases h
def jo:List En→Int
 | []=>0
 |e::r=>enW e+jo r
theorem Ln (e:En):0≤enW e:=by
 have h1:=fJ e.2.2.2.1
 have h2:=KV e.2.2.2.2.1 e.2.2.2.2.2.1 e.2.2.2.2.2.2.2.1 e.2.2.2.2.2.2.2.2.2.1 e.2.2.2.2.2.2.2.2.2.2
 unfold enW;omega
theorem jh: ∀l,0≤jo l
 | []=>Int.le_refl 0
 |e::r=>by have:=jh r;have:=Ln e;simp only [jo];omega
def Od (l:List En):Bool:=decide (l.length≤4611686018427387904)&&l.all smE
def vj (l:List En) (left:Int):Int:=bif decide ((l.length:Int)+jo l≤left)then left-((l.length:Int)+jo l)else-1
theorem vk (l:List En) (hl:l.length≤4611686018427387904) (ka kb:Int→OR'): ∀(r:List En) (i left:Int) (n:Nat),At l i r→r.length<n→(∀e∈r,smE e=true)→0≤left→left≤1048576→
 db n l left i ka kb=bif decide (jo r≤left)then kb (left-jo r)else ka (-1):=by
 intro r;induction r with
 |nil=>
  intro i left n h hn hf h0 h1;obtain⟨n,rfl⟩:=bh hn;unfold db fP
  have e:decide (jo []≤left)=true:=dT' h0
  simp only [h.dge,cond_false,e,cond_true];simp only [jo,Int.sub_zero]
 |cons e r ih=>
  intro i left n h hn hf h0 h1;obtain⟨n,rfl⟩:=bh hn
  have hs:=hf e (List.mem_cons_self ..)
  have hk:bZ left=true:=by simp only [bZ,Bool.and_eq_true,decide_eq_true_eq];omega
  have hw:=Ln e
  have ht:=jh r
  simp only [List.length_cons]at hn
  unfold db fP
  simp only [h.dlt,h.dnn,h.get,cond_true,h.next hl,j6,hs,hk,Bool.and_self]
  unfold szM
  by_cases c:enW e≤left
  ·simp only [dT' c,cond_true]
   rw [dF' (show ¬left-enW e<0 by omega),cond_false,ih (i+1) _ n h.step (by omega) (fun x hx=>hf x (List.mem_cons_of_mem _ hx)) (by omega) (by omega)]
   simp only [jo]
   have e1:decide (jo r≤left-enW e)=decide (enW e+jo r≤left):=by rw [Bool.eq_iff_iff,decide_eq_true_eq,decide_eq_true_eq];omega
   rw [e1,show left-enW e-jo r=left-(enW e+jo r) by omega]
   rfl
  ·simp only [dF' c,cond_false]
   rw [show decide ((-1:Int)<0)=true from rfl,cond_true,dF' (show ¬jo (e::r)≤left by simp only [jo];omega),cond_false]
def SW:List AV→List Ob→Br
 | [.sh (.pair .str (.pair (.int .i64) (.pair (.int .i64) (.pair (.slice (.pair .str .str)) (.pair .str (.pair .str (.pair (.int .i64) (.pair .str (.pair .bool (.pair (.slice (.pair .str .str)) .str)))))))))) l,.int .i64 left],[]=>.ite (Od l&&bZ left) (.ret (.int .i64 (vj l left)) []) .fail
 |_,_=>.fail
theorem Oe {l:List En} (h:Od l=true):l.length≤4611686018427387904∧ ∀e∈l,smE e=true:=by
 unfold Od at h
 simp only [Bool.and_eq_true,decide_eq_true_eq,List.all_eq_true]at h
 exact h
theorem zn:Sound Kx 35 SW:=by
 refine(vf (φ:=fun l left=>.ite (Od l&&bZ left) (.ret (.int .i64 (vj l left)) []) .fail) (fun l _=>l.length+1) fun l left r h=> ?_).of fun args objs r h=> ?_
 ·obtain⟨h1,h2⟩:=af h
  cases h2
  rw [Bool.and_eq_true]at h1
  obtain⟨g1,g2⟩:=Oe h1.1
  have h0:=h1.2
  simp only [bZ,Bool.and_eq_true,decide_eq_true_eq]at h0
  have ht:=jh l
  unfold mf vj
  rw [w64 (by omega) (by omega)]
  by_cases c:left-(l.length:Int)<0
  ·rw [dT' c,dF' (by omega)];rfl
  ·rw [dF' c,cond_false,vk l g1 _ _ l 0 _ _ (At.start l) (by omega) g2 (by omega) (by omega)]
   have e1:decide (jo l≤left-(l.length:Int))=decide ((l.length:Int)+jo l≤left):=by rw [Bool.eq_iff_iff,decide_eq_true_eq,decide_eq_true_eq];omega
   rw [e1,show left-(l.length:Int)-jo l=left-((l.length:Int)+jo l) by omega]
   cases decide ((l.length:Int)+jo l≤left)<;>rfl
 ·unfold SW at h;split at h
  ·exact h
  ·cases h
def gw:List En→List En→Bool
 | [],[]=>true
 |a::r,b::s=>N8 a b&&gw r s
 |_,_=>false
theorem tu: ∀l:List En,gw l l=true
 | []=>rfl
 |a::r=>by unfold gw;rw [pU,tu r];rfl
theorem Q5 {a b:En} (h:N8 a b=true):a=b:=by
 obtain⟨ur,t1,t2,ak,me,ta,st,re,ba,fs,bo⟩:=a
 obtain⟨ur',t1',t2',ak',me',ta',st',re',ba',fs',bo'⟩:=b
 simp only [N8,Bool.and_eq_true,decide_eq_true_eq]at h
 obtain⟨⟨⟨⟨⟨⟨⟨⟨⟨⟨rfl,rfl⟩,rfl⟩,rfl⟩,rfl⟩,rfl⟩,rfl⟩,rfl⟩,rfl⟩,rfl⟩,rfl⟩:=h
 rfl
theorem vl: ∀(a b:List En),gw a b=true→a=b
 | [],[],_=>rfl
 | [],_::_,h=>by cases h
 |_::_,[],h=>by cases h
 |a::r,b::s,h=>by
  unfold gw at h
  rw [Bool.and_eq_true]at h
  rw [Q5 h.1,vl r s h.2]
def shE (e:En):Bool:=decide (e.2.2.2.1.length≤1048576)&&decide (e.2.2.2.2.2.2.2.2.2.1.length≤1048576)
def j7 (l:List En):Bool:=decide (l.length≤1048576)&&l.all shE
theorem hZ {l:List En} (h:j7 l=true):l.length≤1048576∧ ∀e∈l,shE e=true:=by
 unfold j7 at h
 simp only [Bool.and_eq_true,decide_eq_true_eq,List.all_eq_true]at h
 exact h
theorem vm (l:List En) (hl:l.length≤1048576) (k:OR'): ∀(r:List En) (i:Int) (n:Nat),At l i r→r.length<n→(∀e∈r,shE e=true)→
 de n l l i k=k:=by
 intro r;induction r with
 |nil=>intro i n h hn hf;obtain⟨n,rfl⟩:=bh hn;unfold de fR;simp only [h.dge,cond_false]
 |cons e r ih=>
  intro i n h hn hf;obtain⟨n,rfl⟩:=bh hn
  have he:=hf e (List.mem_cons_self ..)
  unfold shE at he
  rw [Bool.and_eq_true]at he
  simp only [List.length_cons]at hn
  have hr:=ih (i+1) n h.step (by omega) (fun x hx=>hf x (List.mem_cons_of_mem _ hx))
  unfold de fR
  simp only [h.dlt,h.dnn,h.get,cond_true,h.next (show l.length≤4611686018427387904 by omega),j6,pU,he.1,he.2,Bool.and_self,Bool.not_true,cond_false,hr]
def SX:List AV→List Ob→Br
 | [.sh (.pair .str (.pair (.int .i64) (.pair (.int .i64) (.pair (.slice (.pair .str .str)) (.pair .str (.pair .str (.pair (.int .i64) (.pair .str (.pair .bool (.pair (.slice (.pair .str .str)) .str)))))))))) a,.sh (.pair .str (.pair (.int .i64) (.pair (.int .i64) (.pair (.slice (.pair .str .str)) (.pair .str (.pair .str (.pair (.int .i64) (.pair .str (.pair .bool (.pair (.slice (.pair .str .str)) .str)))))))))) b],[]=>.ite (gw a b&&j7 a) (.ret (.bool true) []) .fail
 |_,_=>.fail
theorem zo:Sound Kx 41 SX:=by
 refine(vh (φ:=fun a b=>.ite (gw a b&&j7 a) (.ret (.bool true) []) .fail) (fun a _=>a.length+1) fun a b r h=> ?_).of fun args objs r h=> ?_
 ·obtain⟨h1,h2⟩:=af h
  cases h2
  rw [Bool.and_eq_true]at h1
  obtain rfl:=vl a b h1.1
  obtain⟨g1,g2⟩:=hZ h1.2
  unfold mj
  rw [dT' rfl]
  simp only [Bool.not_true,cond_false]
  exact vm a g1 _ a 0 _ (At.start a) (by omega) g2
 ·unfold SX at h;split at h
  ·exact h
  ·cases h
theorem vn (l:List En) (hl:l.length≤4611686018427387904) (k:List En→OR'): ∀(r pre:List En) (i:Int) (n:Nat),l=pre++r→i=pre.length→r.length<n→(∀e∈r,shE e=true)→
 dc n l i (pre++List.replicate r.length ([],0,0,[],[],[],0,[],false,[],[])) k=k l:=by
 intro r;induction r with
 |nil=>
  intro pre i n h hi hn hf;obtain⟨n,rfl⟩:=bh hn;subst h;subst hi
  have e:decide ((pre.length:Int)< ((pre++([]:List En)).length:Int))=false:=by simp
  unfold dc fQ;simp only [e,cond_false];rfl
 |cons a r ih=>
  intro pre i n h hi hn hf;obtain⟨n,rfl⟩:=bh hn
  have ha:At l i (a::r):=⟨pre,h,hi⟩
  have he:=hf a (List.mem_cons_self ..)
  unfold shE at he
  rw [Bool.and_eq_true]at he
  have e1:decide (i< ((pre++List.replicate (a::r).length (([],0,0,[],[],[],0,[],false,[],[]):En)).length:Int))=true:=dT' (by rw [hi];simp;omega)
  unfold dc fQ;simp only [ha.dlt,ha.dnn,ha.get,cond_true,ha.next hl,e1,he.1,he.2,j6,Bool.and_self]
  have:=ih (pre++[a]) (i+1) n (by rw [h];simp) (by rw [hi];simp) (by simp at hn;omega) (fun x hx=>hf x (List.mem_cons_of_mem _ hx))
  rw [←this]
  congr 1
  rw [hi]
  simp only [List.length_cons,List.replicate_succ,Int.toNat_natCast,iM]
  simp
def SY:List AV→List Ob→Br
 | [.sh (.pair .str (.pair (.int .i64) (.pair (.int .i64) (.pair (.slice (.pair .str .str)) (.pair .str (.pair .str (.pair (.int .i64) (.pair .str (.pair .bool (.pair (.slice (.pair .str .str)) .str)))))))))) l],[]=>.ite (j7 l) (.ret (.ref 0 0) [.arr (.pair .str (.pair (.int .i64) (.pair (.int .i64) (.pair (.slice (.pair .str .str)) (.pair .str (.pair .str (.pair (.int .i64) (.pair .str (.pair .bool (.pair (.slice (.pair .str .str)) .str)))))))))) 0 false l]) .fail
 |_,_=>.fail
theorem zp:Sound Kx 38 SY:=by
 refine(vg (φ:=fun l=>.ite (j7 l) (.ret (.ref 0 0) [.arr (.pair .str (.pair (.int .i64) (.pair (.int .i64) (.pair (.slice (.pair .str .str)) (.pair .str (.pair .str (.pair (.int .i64) (.pair .str (.pair .bool (.pair (.slice (.pair .str .str)) .str)))))))))) 0 false l]) .fail) (fun l=>l.length+1) fun l r h=> ?_).of fun args objs r h=> ?_
 ·obtain⟨h1,h2⟩:=af h
  cases h2
  obtain⟨g1,g2⟩:=hZ h1
  unfold mh
  have e1:decide ((0:Int)≤(l.length:Int))=true:=by simp
  have e2:decide ((l.length:Int)*160≤140737488355328)=true:=dT' (by omega)
  simp only [e1,e2,decide_true,cond_true,Int.toNat_natCast]
  exact vn l (by omega) _ l [] 0 _ rfl rfl (by omega) g2
 ·unfold SY at h;split at h
  ·exact h
  ·cases h
def Lo:SC:=[⟨124,_,cm⟩]
def G_ (n:Int):Br:=(Br.ite (decide (0≤n)) (Br.ret (AV.bool (decide (n≤20000))) []) (Br.ret (AV.bool false) []))
def zq:List AV→List Ob→Br
 | [.int .i64 n],[]=>G_ n
 |_,_=>.fail
theorem Ha:Sound Kx 75 zq:=ae (C:=Lo) (O:=O0) Tryz.func75 (by kernel_rfl) fun args objs=>by
 unfold zq;split
 ·exact .inr (by kernel_rfl)
 ·exact .inl rfl
def PB:Opt:={live:=[(4,[1,16,17,18])],outs:=[(4,[1,2])]}
def iCOk_C:SC:=[⟨75,_,Ha⟩,⟨50,_,gu⟩,⟨76,_,EK⟩]
def vo (ar:(List En)) (aE ay cx:Int) (fe:(List En)) (U9:(List En)→Int→Int→Int→(List En)→OR') (bQ dm:Int→(List En)→OR'):OR':=
 (bif(decide (ay<aE))then(bif(decide (0≤ay))then(bif(decide (ay< (ar.length:Int)))then(bif(isM (List.getD ar (Int.toNat ay) en0).1)then(bif(!(gt ((List.getD ar (Int.toNat ay) en0).1,((List.getD ar (Int.toNat ay) en0).2.1,((List.getD ar (Int.toNat ay) en0).2.2.1,((List.getD ar (Int.toNat ay) en0).2.2.2.1,((List.getD ar (Int.toNat ay) en0).2.2.2.2.1,((List.getD ar (Int.toNat ay) en0).2.2.2.2.2.1,((List.getD ar (Int.toNat ay) en0).2.2.2.2.2.2.1,((List.getD ar (Int.toNat ay) en0).2.2.2.2.2.2.2.1,((List.getD ar (Int.toNat ay) en0).2.2.2.2.2.2.2.2.1,((List.getD ar (Int.toNat ay) en0).2.2.2.2.2.2.2.2.2.1,(List.getD ar (Int.toNat ay) en0).2.2.2.2.2.2.2.2.2.2))))))))))))then(bQ cx fe)else(U9 ar aE (ac (ay+1)) cx fe))else(none))else(none))else(none))else(dm cx fe))
def ln:Nat→(List En)→Int→Int→Int→(List En)→(Int→(List En)→OR')→(Int→(List En)→OR')→OR'
 |0,_,_,_,_,_,_,_=>none
 |n+1,ar,aE,ay,cx,fe,bQ,dm=>vo ar aE ay cx fe (fun ar aE ay cx fe=>ln n ar aE ay cx fe bQ dm) bQ dm
abbrev iCOk_p4:SP:=⟨31,[1,16,17,18],[(.v (.ptr 128 0)),(.v (.sh EnT)),(.v (.i .i64)),(.v (.i .i64))],[(128,.var [(.i .i64),(.sh EnT)])]⟩
noncomputable def Lp:Code:=ax (aD Tryz.f39) [1,1,0,1,0,0]
def Lq (f:(Int→(List En)→OR')→(Int→(List En)→OR')→OR') (k:KT):OR':=f (fun bN mu=>k Ex.ret ((St.mk (aw 0 31 [(1,(AV.ptr 128 0)),(2,(AV.bool false))]) ((128,(Ob.var ((AV.int .i64 bN)::((AV.sh EnT mu)::[]))))::([]:(List (Nat×(Ob)))))))) (fun bE ce=>k (Ex.exit 0) ((St.mk (aw 0 31 [(1,(AV.ptr 128 0))]) ((128,(Ob.var ((AV.int .i64 bE)::((AV.sh EnT ce)::[]))))::([]:(List (Nat×(Ob))))))))
def Lr (n:Nat) (d:iCOk_p4.D):KT→OR':=Lq (ln n d.1.2.1 d.1.2.2.1 d.1.2.2.2.1 d.2.1.1 d.2.1.2.1)
def PC (N:Nat):Lam:=bf [⟨4,iCOk_p4,Lr N⟩]
theorem Of (N:Nat):OkL Kx iCOk_C.s PB 0 N (PC N) Lp:=okL iCOk_p4 (Lr) (fun d kR=>Lq (vo d.1.2.1 d.1.2.2.1 d.1.2.2.2.1 d.2.1.1 d.2.1.2.1 (fun ar aE ay cx fe=>kR (((),ar,aE,ay,()),((cx,fe,()),()))))) (fun _ _=>by kernel_rfl) (fun _ _ _=>by kernel_rfl) (fun _ _=>by kernel_rfl) (fun _ _ _ _=>by kernel_rfl) (ah (l':=[]) (by kernel_rfl) trivial)
def EM (N:Nat) (bu:Int) (l:List En):OR':=(bif(decide (0≤bu))then(bif(!(decide (bu≤20000)))then(some ((AV.bool false),[]))else(bif(decide (30< (l.length:Int)))then(some ((AV.bool false),[]))else(ln N l (l.length:Int) 0 bu l (fun bN=>(fun mu=>(some ((AV.bool false),[])))) (fun bE=>(fun ce=>(bif(jn ce)then(some ((AV.bool (decide ((nq ce)≤bE))),[]))else(none)))))))else(some ((AV.bool false),[])))
def EN (φ:Int→(List En)→Br):List AV→List Ob→Br
 | [.agg [.int .i64 bu,.sh EnT l]],[]=>φ bu l
 |_,_=>.fail
theorem Ls {φ:Int→(List En)→Br} (fu:Int→(List En)→Nat) (hv: ∀bu l res_,(φ bu l).val=some res_→EM (fu bu l) bu l=some res_):Sound Kx 39 (EN φ):=aj (C:=iCOk_C) (O:=PB) Tryz.func39 (by kernel_rfl) fun args objs=>by
 unfold EN;split
 ·rename_i bu l;exact .inr fun _ hyp_=>aO (Λ:=PC (fu bu l)) (by kernel_rfl) (ah (l':=[Lp]) (by kernel_rfl) ⟨Of _,trivial⟩) (by kernel_rfl) (hv bu l _ hyp_)
 ·exact .inl rfl
def PD:Opt:={live:=[(4,[1,3])],outs:=[(4,[1,2])]}
def sCOk_C:SC:=[⟨46,_,gv⟩,⟨73,_,EL⟩]
def vp (ar aE:Int) (ay:(List En)) (U9:Int→Int→(List En)→OR') (bQ dm:Int→(List En)→OR'):OR':=
 (bif(decide (ar< (ay.length:Int)))then(bif(decide (0≤ar))then(bif(decide (ar< (ay.length:Int)))then(bif(isM (List.getD ay (Int.toNat ar) en0).1)then(bif(!(gt ((List.getD ay (Int.toNat ar) en0).1,((List.getD ay (Int.toNat ar) en0).2.1,((List.getD ay (Int.toNat ar) en0).2.2.1,((List.getD ay (Int.toNat ar) en0).2.2.2.1,((List.getD ay (Int.toNat ar) en0).2.2.2.2.1,((List.getD ay (Int.toNat ar) en0).2.2.2.2.2.1,((List.getD ay (Int.toNat ar) en0).2.2.2.2.2.2.1,((List.getD ay (Int.toNat ar) en0).2.2.2.2.2.2.2.1,((List.getD ay (Int.toNat ar) en0).2.2.2.2.2.2.2.2.1,((List.getD ay (Int.toNat ar) en0).2.2.2.2.2.2.2.2.2.1,(List.getD ay (Int.toNat ar) en0).2.2.2.2.2.2.2.2.2.2))))))))))))then(bQ aE ay)else(U9 (ac (ar+1)) aE ay))else(none))else(none))else(none))else(dm aE ay))
def lp:Nat→Int→Int→(List En)→(Int→(List En)→OR')→(Int→(List En)→OR')→OR'
 |0,_,_,_,_,_=>none
 |n+1,ar,aE,ay,bQ,dm=>vp ar aE ay (fun ar aE ay=>lp n ar aE ay bQ dm) bQ dm
abbrev sCOk_p4:SP:=⟨38,[1,3],[(.v (.ptr 128 0)),(.v (.i .i64))],[(128,.var [(.i .i64),(.sh EnT)])]⟩
noncomputable def Lt:Code:=ax (aD Tryz.f36) [1,1,0,1,0,0]
def Lu (f:(Int→(List En)→OR')→(Int→(List En)→OR')→OR') (k:KT):OR':=f (fun bN mu=>k Ex.ret ((St.mk (aw 0 38 [(1,(AV.ptr 128 0)),(2,(AV.bool false))]) ((128,(Ob.var ((AV.int .i64 bN)::((AV.sh EnT mu)::[]))))::([]:(List (Nat×(Ob)))))))) (fun bE ce=>k (Ex.exit 0) ((St.mk (aw 0 38 [(1,(AV.ptr 128 0))]) ((128,(Ob.var ((AV.int .i64 bE)::((AV.sh EnT ce)::[]))))::([]:(List (Nat×(Ob))))))))
def Lv (n:Nat) (d:sCOk_p4.D):KT→OR':=Lu (lp n d.1.2.1 d.2.1.1 d.2.1.2.1)
def PE (N:Nat):Lam:=bf [⟨4,sCOk_p4,Lv N⟩]
theorem Og (N:Nat):OkL Kx sCOk_C.s PD 0 N (PE N) Lt:=okL sCOk_p4 (Lv) (fun d kR=>Lu (vp d.1.2.1 d.2.1.1 d.2.1.2.1 (fun ar aE ay=>kR (((),ar,()),((aE,ay,()),()))))) (fun _ _=>by kernel_rfl) (fun _ _ _=>by kernel_rfl) (fun _ _=>by kernel_rfl) (fun _ _ _ _=>by kernel_rfl) (ah (l':=[]) (by kernel_rfl) trivial)
def EO (N:Nat) (bu:Int) (l:List En):OR':=(bif(decide (bu<0))then(some ((AV.bool false),[]))else(bif(decide (20000<bu))then(some ((AV.bool false),[]))else(bif(decide (30< (l.length:Int)))then(some ((AV.bool false),[]))else(lp N 0 bu l (fun bN=>(fun mu=>(some ((AV.bool false),[])))) (fun bE=>(fun ce=>(bif(jn ce)then(some ((AV.bool (decide ((nq ce)≤bE))),[]))else(none))))))))
def EP (φ:Int→(List En)→Br):List AV→List Ob→Br
 | [.agg [.int .i64 bu,.sh EnT l]],[]=>φ bu l
 |_,_=>.fail
theorem Lw {φ:Int→(List En)→Br} (fu:Int→(List En)→Nat) (hv: ∀bu l res_,(φ bu l).val=some res_→EO (fu bu l) bu l=some res_):Sound Kx 36 (EP φ):=aj (C:=sCOk_C) (O:=PD) Tryz.func36 (by kernel_rfl) fun args objs=>by
 unfold EP;split
 ·rename_i bu l;exact .inr fun _ hyp_=>aO (Λ:=PE (fu bu l)) (by kernel_rfl) (ah (l':=[Lt]) (by kernel_rfl) ⟨Og _,trivial⟩) (by kernel_rfl) (hv bu l _ hyp_)
 ·exact .inl rfl
def Lx:SC:=[⟨35,_,zn⟩]
def Hb (bu:Int) (l:List En) (left:Int):Br:=(Br.ite ((Od l)&&(bZ left)) (Br.ite (decide ((vj l left)<0)) (Br.ret (AV.int .i64 (-1)) []) (Br.ret (AV.int .i64 (vj l left)) [])) Br.fail)
def zr:List AV→List Ob→Br
 | [.agg [.int .i64 bu,.sh EnT l],.int .i64 left],[]=>Hb bu l left
 |_,_=>.fail
theorem Hc:Sound Kx 8 zr:=ae (C:=Lx) (O:=O0) Tryz.func8 (by kernel_rfl) fun args objs=>by
 unfold zr;split
 ·exact .inr (by kernel_rfl)
 ·exact .inl rfl
def Ly:SC:=[⟨38,_,zp⟩]
def Hd (bu:Int) (l:List En):Br:=(Br.ite (j7 l) (Br.ret (AV.agg ((AV.int .i64 bu)::((AV.ref 0 0)::[]))) ((Ob.arr EnT 0 false l)::[])) Br.fail)
def zt:List AV→List Ob→Br
 | [.agg [.int .i64 bu,.sh EnT l]],[]=>Hd bu l
 |_,_=>.fail
theorem He:Sound Kx 10 zt:=ae (C:=Ly) (O:=O0) Tryz.func10 (by kernel_rfl) fun args objs=>by
 unfold zt;split
 ·exact .inr (by kernel_rfl)
 ·exact .inl rfl
def Lz:SC:=[⟨41,_,zo⟩]
def Hf (bu:Int) (l:List En) (bu':Int) (l':List En):Br:=(Br.ite (!(decide (bu=bu'))) (Br.ret (AV.bool false) []) (Br.ite ((gw l l')&&(j7 l)) (Br.ret (AV.bool true) []) Br.fail))
def zu:List AV→List Ob→Br
 | [.agg [.int .i64 bu,.sh EnT l],.agg [.int .i64 bu',.sh EnT l']],[]=>Hf bu l bu' l'
 |_,_=>.fail
theorem Hg:Sound Kx 12 zu:=ae (C:=Lz) (O:=O0) Tryz.func12 (by kernel_rfl) fun args objs=>by
 unfold zu;split
 ·exact .inr (by kernel_rfl)
 ·exact .inl rfl
def dr (bu:Int) (l:List En):Bool:=decide (0≤bu)&&decide (bu≤20000)&&decide (l.length≤30)&&l.all gt&&decide (nq l≤bu)
theorem LA (l:List En) (hl:l.length≤1048576) (bu:Int) (k0 k1:Int→List En→OR'): ∀(r:List En) (i:Int) (n:Nat),At l i r→r.length<n→(∀e∈r,e.1.length≤1048576)→
 ln n l (l.length:Int) i bu l k0 k1=bif r.all gt then k1 bu l else k0 bu l:=by
 intro r;induction r with
 |nil=>intro i n h hn hm;obtain⟨n,rfl⟩:=bh hn;unfold ln vo;simp only [h.dge,cond_false,List.all_nil,cond_true]
 |cons e r ih=>
  intro i n h hn hm;obtain⟨n,rfl⟩:=bh hn
  simp only [List.length_cons]at hn
  have hM:isM e.1=true:=aW (n:=1048576) (hm e (List.mem_cons_self ..))
  have hr:=ih (i+1) n h.step (by omega) (fun x hx=>hm x (List.mem_cons_of_mem _ hx))
  unfold ln vo
  simp only [h.dlt,h.dnn,h.get,cond_true,h.next (show l.length≤4611686018427387904 by omega),hM,j6,hr,List.all_cons]
  cases gt e<;>rfl
theorem LB (l:List En) (hl:l.length≤1048576) (bu:Int) (k0 k1:Int→List En→OR'): ∀(r:List En) (i:Int) (n:Nat),At l i r→r.length<n→(∀e∈r,e.1.length≤1048576)→
 lp n i bu l k0 k1=bif r.all gt then k1 bu l else k0 bu l:=by
 intro r;induction r with
 |nil=>intro i n h hn hm;obtain⟨n,rfl⟩:=bh hn;unfold lp vp;simp only [h.dge,cond_false,List.all_nil,cond_true]
 |cons e r ih=>
  intro i n h hn hm;obtain⟨n,rfl⟩:=bh hn
  simp only [List.length_cons]at hn
  have hM:isM e.1=true:=aW (n:=1048576) (hm e (List.mem_cons_self ..))
  have hr:=ih (i+1) n h.step (by omega) (fun x hx=>hm x (List.mem_cons_of_mem _ hx))
  unfold lp vp
  simp only [h.dlt,h.dnn,h.get,cond_true,h.next (show l.length≤4611686018427387904 by omega),hM,j6,hr,List.all_cons]
  cases gt e<;>rfl
theorem Oh:Sound Kx 39 (Rk fun bu l=>.bool (dr bu l)):=by
 refine(Ls (φ:=fun bu l=>.ite (jn l) (.ret (.bool (dr bu l)) []) .fail) (fun _ l=>l.length+1) fun bu l r h=> ?_).of fun args objs r h=> ?_
 ·obtain⟨h1,h2⟩:=af h
  cases h2
  obtain⟨g1,g2⟩:=hY h1
  unfold EM dr
  rw [LA l g1 bu _ _ l 0 (l.length+1) (At.start l) (by omega) g2]
  by_cases c1:0≤bu
  ·rw [dT' c1]
   by_cases c2:bu≤20000
   ·rw [dT' c2]
    by_cases c3:l.length≤30
    ·rw [dT' c3,dF' (show ¬(30:Int)< (l.length:Int) by omega)]
     simp only [h1]
     cases l.all gt<;>rfl
    ·rw [dF' c3,dT' (show(30:Int)< (l.length:Int) by omega)];rfl
   ·rw [dF' c2];rfl
  ·rw [dF' c1];rfl
 ·unfold Rk at h;split at h
  ·exact h
  ·cases h
theorem Oi:Sound Kx 36 (Rk fun bu l=>.bool (dr bu l)):=by
 refine(Lw (φ:=fun bu l=>.ite (jn l) (.ret (.bool (dr bu l)) []) .fail) (fun _ l=>l.length+1) fun bu l r h=> ?_).of fun args objs r h=> ?_
 ·obtain⟨h1,h2⟩:=af h
  cases h2
  obtain⟨g1,g2⟩:=hY h1
  unfold EO dr
  rw [LB l g1 bu _ _ l 0 (l.length+1) (At.start l) (by omega) g2]
  by_cases c1:0≤bu
  ·rw [dT' c1,dF' (show ¬bu<0 by omega)]
   by_cases c2:bu≤20000
   ·rw [dT' c2,dF' (show ¬20000<bu by omega)]
    by_cases c3:l.length≤30
    ·rw [dT' c3,dF' (show ¬(30:Int)< (l.length:Int) by omega)]
     simp only [h1]
     cases l.all gt<;>rfl
    ·rw [dF' c3,dT' (show(30:Int)< (l.length:Int) by omega)];rfl
   ·rw [dF' c2,dT' (show 20000<bu by omega)];rfl
  ·rw [dF' c1,dT' (show bu<0 by omega)];rfl
 ·unfold Rk at h;split at h
  ·exact h
  ·cases h
end
end Go.Proofs.YtihabpimbfmhhaaGreatDoor.Ev
namespace Go.Proofs.YtihabpimbfmhhaaGreatDoor.Ev
open Go Go.RowKit
set_option linter.unusedVariables false
set_option linter.unusedSimpArgs false
abbrev LC:Ty:=.pair .str (.pair .str (.pair (.int .i64) (.pair .str (.pair .bool (.pair (.slice (.pair .str .str)) .str)))))
abbrev LE:Ty:=.pair .str (.pair (.int .i64) (.pair (.int .i64) (.pair (.slice (.pair .str .str)) LC)))
theorem ji {s:aa} (h:s.length≤reachBytes):isM s=true:=aW h (by decide)
theorem zw {fs:List Fd} (h:wj (.slice (.pair .str .str)) fs):smF fs=true:=by
 simp only [wj]at h
 unfold smF
 rw [dT' (Nat.le_trans h.1 (by decide)),Bool.true_and,List.all_eq_true]
 intro f hf
 obtain⟨h1,h2⟩:=h.2 f hf
 unfold TP
 rw [ji h1,ji h2];rfl
theorem LF {me ta re bo:aa} {st:Int} {ba:Bool} {fs:List Fd} (h:wj LC (me,ta,st,re,ba,fs,bo)):smM me ta re fs bo=true:=by
 simp only [LC,wj]at h
 obtain⟨h1,h2,_,h4,_,h6,h7⟩:=h
 unfold smM
 rw [ji h1,ji h2,ji h4,ji h7,zw (by simp only [wj];exact h6)];rfl
theorem EQ {e:En} (h:wj LE e):smE e=true:=by
 obtain⟨ur,t1,t2,ak,me,ta,st,re,ba,fs,bo⟩:=e
 obtain⟨h1,_,_,h4,h5⟩:=h
 unfold smE
 rw [ji h1,zw h4,LF h5];rfl
abbrev LG:Ty:=.pair (.int .i64) (.slice LE)
theorem LH {l:List En} (h:wj (.slice LE) l):Od l=true:=by
 obtain⟨h1,h2⟩:=h
 unfold Od
 rw [dT' (Nat.le_trans h1 (by decide)),Bool.true_and,List.all_eq_true]
 exact fun e he=>EQ (h2 e he)
theorem ER: ∀(l:List En) (e:En),e∈l→enW e≤jo l
 | [],e,h=>by cases h
 |a::r,e,h=>by
  have h1:=Ln a
  have h2:=jh r
  rcases List.mem_cons.1 h with rfl|h
  ·simp only [jo];omega
  ·have:=ER r e h
   simp only [jo];omega
theorem j8 (e:En):(e.1.length:Int)≤enW e∧(e.2.2.2.1.length:Int)≤enW e∧(e.2.2.2.2.2.2.2.2.2.1.length:Int)≤enW e:=by
 have h1:=fJ e.2.2.2.1
 have h2:=fJ e.2.2.2.2.2.2.2.2.2.1
 unfold enW Jm
 omega
theorem Hh {l:List En} (h: ¬vj l 1048576<0):j7 l=true∧jn l=true:=by
 unfold vj at h
 cases hc:decide ((l.length:Int)+jo l≤1048576)
 ·rw [hc,cond_false]at h;omega
 ·have hc:=of_decide_eq_true hc
  have ht:=jh l
  have hl:l.length≤1048576:=by omega
  have hw: ∀e∈l,enW e≤1048576:=fun e he=>by have:=ER l e he;omega
  constructor
  ·unfold j7
   rw [dT' hl,Bool.true_and,List.all_eq_true]
   intro e he
   obtain⟨_,h2,h3⟩:=j8 e
   have h0:=hw e he
   unfold shE
   rw [dT' (by omega),dT' (by omega)];rfl
  ·unfold jn
   rw [dT' hl,Bool.true_and,List.all_eq_true]
   intro e he
   obtain⟨h1,_,_⟩:=j8 e
   have h0:=hw e he
   exact dT' (by omega)
end Go.Proofs.YtihabpimbfmhhaaGreatDoor.Ev
namespace Go.Proofs.YtihabpimbfmhhaaGreatDoor.Ev
open Go Go.RowKit
set_option linter.unusedVariables false
set_option linter.unusedSimpArgs false
noncomputable section
end
end Go.Proofs.YtihabpimbfmhhaaGreatDoor.Ev
namespace Go.Proofs.YtihabpimbfmhhaaGreatDoor.Ev
open Go Go.RowKit
set_option linter.unusedVariables false
set_option linter.unusedSimpArgs false
theorem LI {x:Int} (h:0≤x) (h1:x≤1048576):bZ x=true:=by
 unfold bZ;rw [dT' h,dT' h1];rfl
end Go.Proofs.YtihabpimbfmhhaaGreatDoor.Ev
