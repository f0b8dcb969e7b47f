/- The texts Sd, Cc, Cd, Cg, Ch, Ci, Cj, one behind the other. -/
import Derived.Test.YtihabpimbfmhhaaGreatDoorK38
import Derived.Test.YtihabpimbfmhhaaGreatDoorK39
import Derived.Test.YtihabpimbfmhhaaGreatDoorK13
import Derived.Test.YtihabpimbfmhhaaGreatDoorK35
import Derived.Test.YtihabpimbfmhhaaGreatDoorK32
namespace Go.Proofs.YtihabpimbfmhhaaGreatDoor.Ev
open Go Go.RowKit
set_option linter.unusedVariables false
set_option linter.unusedSimpArgs false
noncomputable section
def Nj:SC:=[⟨145,_,GJ⟩]
def Lq (ur:aa) (t1 t2:Int) (ak:List Fd) (me ta:aa) (st:Int) (re:aa) (ba:Bool) (fs:List Fd) (bo:aa):Br:=(Br.ite (decide (ak.length≤1000000)) (Br.ite (decide (fs.length≤1000000)) (Br.ret (AV.agg ((AV.str ur)::((AV.int .i64 t1)::((AV.int .i64 t2)::((AV.ref 0 0)::((AV.str me)::((AV.str ta)::((AV.int .i64 st)::((AV.str re)::((AV.bool ba)::((AV.ref 1 0)::((AV.str bo)::[])))))))))))) ((Ob.arr (Ty.pair Ty.str Ty.str) 0 false ak)::((Ob.arr (Ty.pair Ty.str Ty.str) 0 false fs)::[]))) Br.fail) Br.fail)
def J6:List AV→List Ob→Br
 | [.agg [.str ur,.int .i64 t1,.int .i64 t2,.sh (.pair .str .str) ak,.str me,.str ta,.int .i64 st,.str re,.bool ba,.sh (.pair .str .str) fs,.str bo]],[]=>Lq ur t1 t2 ak me ta st re ba fs bo
 |_,_=>.fail
theorem Lr:Sound Kx 94 J6:=ae (C:=Nj) (O:=O0) Tryz.func94 (by kernel_rfl) fun args objs=>by
 unfold J6;split
 ·exact .inr (by kernel_rfl)
 ·exact .inl rfl
def IW (ur:aa) (t1 t2:Int) (ak:List Fd) (me ta:aa) (st:Int) (re:aa) (ba:Bool) (fs:List Fd) (bo:aa) (url:aa):Br:=(Br.ret (AV.bool (!(decide (ur=url)))) ((Ob.var ((AV.str url)::[]))::[]))
def GK:List AV→List Ob→Br
 | [.agg [.str ur,.int .i64 t1,.int .i64 t2,.sh (.pair .str .str) ak,.str me,.str ta,.int .i64 st,.str re,.bool ba,.sh (.pair .str .str) fs,.str bo],.ptr 0 0],[.var [.str url]]=>IW ur t1 t2 ak me ta st re ba fs bo url
 |_,_=>.fail
theorem IX:Sound Kx 77 GK:=ae (C:=[]) (O:=O0) Tryz.func77 (by kernel_rfl) fun args objs=>by
 unfold GK;split
 ·exact .inr (by kernel_rfl)
 ·exact .inl rfl
def J7:Opt:={live:=[(3,[1,4,5,12,13,14])],outs:=[(3,[4,5])]}
def ownD_C:SC:=[⟨94,_,Lr⟩,⟨77,_,IX⟩]
def r8 (aj:(List En)) (ai aM:Int) (bX:aa) (sd:Int) (se:(List En)) (sf:Int) (ow:(List En)) (Pa:(List En)→Int→Int→aa→Int→(List En)→Int→(List En)→OR') (cP:aa→Int→(List En)→Int→(List En)→OR'):OR':=
 (bif(decide (aM<ai))then(bif(decide (0≤aM))then(bif(decide (aM< (aj.length:Int)))then(bif(!(decide ((List.getD aj (Int.toNat aM) en0).1=bX)))then(bif(decide ((List.length (List.getD aj (Int.toNat aM) en0).2.2.2.1)≤1000000))then(bif(decide ((List.length (List.getD aj (Int.toNat aM) en0).2.2.2.2.2.2.2.2.2.1)≤1000000))then(bif(decide (((ow.length+(List.length (List.set (List.replicate 1 en0) 0 ((List.getD aj (Int.toNat aM) en0).1,((List.getD aj (Int.toNat aM) en0).2.1,((List.getD aj (Int.toNat aM) en0).2.2.1,((List.getD aj (Int.toNat aM) en0).2.2.2.1,((List.getD aj (Int.toNat aM) en0).2.2.2.2.1,((List.getD aj (Int.toNat aM) en0).2.2.2.2.2.1,((List.getD aj (Int.toNat aM) en0).2.2.2.2.2.2.1,((List.getD aj (Int.toNat aM) en0).2.2.2.2.2.2.2.1,((List.getD aj (Int.toNat aM) en0).2.2.2.2.2.2.2.2.1,((List.getD aj (Int.toNat aM) en0).2.2.2.2.2.2.2.2.2.1,(List.getD aj (Int.toNat aM) en0).2.2.2.2.2.2.2.2.2.2)))))))))))))*160)≤140737488355328))then(Pa aj ai (ac (aM+1)) bX sd se sf (ow++(List.set (List.replicate 1 en0) 0 ((List.getD aj (Int.toNat aM) en0).1,((List.getD aj (Int.toNat aM) en0).2.1,((List.getD aj (Int.toNat aM) en0).2.2.1,((List.getD aj (Int.toNat aM) en0).2.2.2.1,((List.getD aj (Int.toNat aM) en0).2.2.2.2.1,((List.getD aj (Int.toNat aM) en0).2.2.2.2.2.1,((List.getD aj (Int.toNat aM) en0).2.2.2.2.2.2.1,((List.getD aj (Int.toNat aM) en0).2.2.2.2.2.2.2.1,((List.getD aj (Int.toNat aM) en0).2.2.2.2.2.2.2.2.1,((List.getD aj (Int.toNat aM) en0).2.2.2.2.2.2.2.2.2.1,(List.getD aj (Int.toNat aM) en0).2.2.2.2.2.2.2.2.2.2)))))))))))))else(none))else(none))else(none))else(Pa aj ai (ac (aM+1)) bX sd se sf ow))else(none))else(none))else(cP bX sd se sf ow))
def ju:Nat→(List En)→Int→Int→aa→Int→(List En)→Int→(List En)→(aa→Int→(List En)→Int→(List En)→OR')→OR'
 |0,_,_,_,_,_,_,_,_,_=>none
 |n+1,aj,ai,aM,bX,sd,se,sf,ow,cP=>r8 aj ai aM bX sd se sf ow (fun aj ai aM bX sd se sf ow=>ju n aj ai aM bX sd se sf ow cP) cP
abbrev ownD_p3:SP:=⟨30,[1,4,5,12,13,14],[(.v (.fn 77 [(0,0)])),(.v (.ptr 320 0)),(.v (.ptr 384 0)),(.v (.sh EnT)),(.v (.i .i64)),(.v (.i .i64))],[(0,.var [.s]),(320,.var [(.i .i64),(.ref 322 0)]),(322,.arr EnT 0 false),(384,.var [(.i .i64),(.ref 386 0)]),(386,.arr EnT 0 false)]⟩
noncomputable def GL:Code:=aG (aI Tryz.f58) [1,1,0,1,0,0]
def GM (f:(aa→Int→(List En)→Int→(List En)→OR')→OR') (k:KT):OR':=f (fun aW vU qy n6 Hb=>k (Ex.exit 0) ((St.mk (aE 0 30 [(4,(AV.ptr 320 0)),(5,(AV.ptr 384 0))]) ((0,(Ob.var ((AV.str aW)::[])))::((320,(Ob.var ((AV.int .i64 vU)::((AV.ref 322 0)::[]))))::((322,(Ob.arr EnT 0 false qy))::((384,(Ob.var ((AV.int .i64 n6)::((AV.ref 386 0)::[]))))::((386,(Ob.arr EnT 0 false Hb))::([]:(List (Nat×(Ob))))))))))))
def GN (n:Nat) (d:ownD_p3.D):KT→OR':=GM (ju n d.1.2.2.2.1 d.1.2.2.2.2.1 d.1.2.2.2.2.2.1 d.2.1.1 d.2.2.1.1 d.2.2.2.1 d.2.2.2.2.1.1 d.2.2.2.2.2.1)
def J8 (N:Nat):Lam:=bD [⟨3,ownD_p3,GN N⟩]
theorem IY (N:Nat):OkL Kx ownD_C.s J7 1 N (J8 N) GL:=okL ownD_p3 (GN) (fun d kR=>GM (r8 d.1.2.2.2.1 d.1.2.2.2.2.1 d.1.2.2.2.2.2.1 d.2.1.1 d.2.2.1.1 d.2.2.2.1 d.2.2.2.2.1.1 d.2.2.2.2.2.1 (fun aj ai aM bX sd se sf ow=>kR (((),(),(),aj,ai,aM,()),((bX,()),(sd,(),()),se,(sf,(),()),ow,()))))) (fun _ _=>by kernel_rfl) (fun _ _ _=>by kernel_rfl) (fun _ _=>by kernel_rfl) (fun _ _ _ _=>by kernel_rfl) (ah (l':=[]) (by kernel_rfl) trivial)
def AE (N:Nat) (bu:Int) (l:List En) (url:aa):OR':=(ju N l (l.length:Int) 0 url 0 ([]:(List En)) bu ([]:(List En)) (fun aW=>(fun vU=>(fun qy=>(fun n6=>(fun Hb=>(some ((AV.agg ((AV.int .i64 n6)::((AV.ref 1 0)::[]))),((Ob.var ((AV.str aW)::[]))::((Ob.arr EnT 0 false Hb)::[]))))))))))
def AF (φ:Int→(List En)→aa→Br):List AV→List Ob→Br
 | [.agg [.int .i64 bu,.sh EnT l],.fn 77 [.ptr 0 0]],[.var [.str url]]=>φ bu l url
 |_,_=>.fail
theorem GO {φ:Int→(List En)→aa→Br} (fu:Int→(List En)→aa→Nat) (hv: ∀bu l url res_,(φ bu l url).val=some res_→AE (fu bu l url) bu l url=some res_):Sound Kx 58 (AF φ):=an (C:=ownD_C) (O:=J7) Tryz.func58 (by kernel_rfl) fun args objs=>by
 unfold AF;split
 ·rename_i bu l url;exact .inr fun _ hyp_=>aV (Λ:=J8 (fu bu l url)) (by kernel_rfl) (ah (l':=[GL]) (by kernel_rfl) ⟨IY _,trivial⟩) (by kernel_rfl) (hv bu l url _ hyp_)
 ·exact .inl rfl
def IZ (ur:aa) (t1 t2:Int) (ak:List Fd) (me ta:aa) (st:Int) (re:aa) (ba:Bool) (fs:List Fd) (bo:aa):Br:=(Br.ite (decide (((0+ak.length)*32)≤140737488355328)) (Br.ite (decide (((0+fs.length)*32)≤140737488355328)) (Br.ret (AV.agg ((AV.str ur)::((AV.int .i64 t1)::((AV.int .i64 t2)::((AV.ref 0 0)::((AV.str me)::((AV.str ta)::((AV.int .i64 st)::((AV.str re)::((AV.bool ba)::((AV.ref 1 0)::((AV.str bo)::[])))))))))))) ((Ob.arr (Ty.pair Ty.str Ty.str) 0 false ak)::((Ob.arr (Ty.pair Ty.str Ty.str) 0 false fs)::[]))) Br.fail) Br.fail)
def GP:List AV→List Ob→Br
 | [.agg [.str ur,.int .i64 t1,.int .i64 t2,.sh (.pair .str .str) ak,.str me,.str ta,.int .i64 st,.str re,.bool ba,.sh (.pair .str .str) fs,.str bo]],[]=>IZ ur t1 t2 ak me ta st re ba fs bo
 |_,_=>.fail
theorem I0:Sound Kx 74 GP:=ae (C:=[]) (O:=O0) Tryz.func74 (by kernel_rfl) fun args objs=>by
 unfold GP;split
 ·exact .inr (by kernel_rfl)
 ·exact .inl rfl
def AG:Opt:={live:=[(3,[1,2,4,5,6])],outs:=[(3,[4,5])]}
def sDropc_C:SC:=[⟨74,_,I0⟩]
def iR (aj:aa) (ai aM:Int) (bX:(List En)) (sd:Int) (se:(List En)) (sf:Int) (ow:(List En)) (Pa:aa→Int→Int→(List En)→Int→(List En)→Int→(List En)→OR') (cP:Int→(List En)→Int→(List En)→OR'):OR':=
 (bif(decide (ai< (bX.length:Int)))then(bif(decide (0≤ai))then(bif(decide (ai< (bX.length:Int)))then(bif(!(decide ((List.getD bX (Int.toNat ai) en0).1=aj)))then(bif(decide (0≤ai))then(bif(decide (ai< (bX.length:Int)))then(bif(decide (((0+(List.length (List.getD bX (Int.toNat ai) en0).2.2.2.1))*32)≤140737488355328))then(bif(decide (((0+(List.length (List.getD bX (Int.toNat ai) en0).2.2.2.2.2.2.2.2.2.1))*32)≤140737488355328))then(bif(decide (((ow.length+(List.length (List.set (List.replicate 1 en0) 0 ((List.getD bX (Int.toNat ai) en0).1,((List.getD bX (Int.toNat ai) en0).2.1,((List.getD bX (Int.toNat ai) en0).2.2.1,((List.getD bX (Int.toNat ai) en0).2.2.2.1,((List.getD bX (Int.toNat ai) en0).2.2.2.2.1,((List.getD bX (Int.toNat ai) en0).2.2.2.2.2.1,((List.getD bX (Int.toNat ai) en0).2.2.2.2.2.2.1,((List.getD bX (Int.toNat ai) en0).2.2.2.2.2.2.2.1,((List.getD bX (Int.toNat ai) en0).2.2.2.2.2.2.2.2.1,((List.getD bX (Int.toNat ai) en0).2.2.2.2.2.2.2.2.2.1,(List.getD bX (Int.toNat ai) en0).2.2.2.2.2.2.2.2.2.2)))))))))))))*160)≤140737488355328))then(Pa aj (ac (ai+1)) aM bX sd se sf (ow++(List.set (List.replicate 1 en0) 0 ((List.getD bX (Int.toNat ai) en0).1,((List.getD bX (Int.toNat ai) en0).2.1,((List.getD bX (Int.toNat ai) en0).2.2.1,((List.getD bX (Int.toNat ai) en0).2.2.2.1,((List.getD bX (Int.toNat ai) en0).2.2.2.2.1,((List.getD bX (Int.toNat ai) en0).2.2.2.2.2.1,((List.getD bX (Int.toNat ai) en0).2.2.2.2.2.2.1,((List.getD bX (Int.toNat ai) en0).2.2.2.2.2.2.2.1,((List.getD bX (Int.toNat ai) en0).2.2.2.2.2.2.2.2.1,((List.getD bX (Int.toNat ai) en0).2.2.2.2.2.2.2.2.2.1,(List.getD bX (Int.toNat ai) en0).2.2.2.2.2.2.2.2.2.2)))))))))))))else(none))else(none))else(none))else(none))else(none))else(Pa aj (ac (ai+1)) aM bX sd se sf ow))else(none))else(none))else(cP sd se sf ow))
def ed:Nat→aa→Int→Int→(List En)→Int→(List En)→Int→(List En)→(Int→(List En)→Int→(List En)→OR')→OR'
 |0,_,_,_,_,_,_,_,_,_=>none
 |n+1,aj,ai,aM,bX,sd,se,sf,ow,cP=>iR aj ai aM bX sd se sf ow (fun aj ai aM bX sd se sf ow=>ed n aj ai aM bX sd se sf ow cP) cP
abbrev sDropc_p3:SP:=⟨37,[1,2,4,5,6],[(.v .s),(.v (.ptr 192 0)),(.v (.ptr 320 0)),(.v (.ptr 384 0)),(.v (.i .i64))],[(192,.var [(.i .i64),(.sh EnT)]),(320,.var [(.i .i64),(.ref 322 0)]),(322,.arr EnT 0 false),(384,.var [(.i .i64),(.ref 386 0)]),(386,.arr EnT 0 false)]⟩
noncomputable def vM:Code:=aG (aI Tryz.f37) [1,1,0,1,0,0]
def vN (f:(Int→(List En)→Int→(List En)→OR')→OR') (k:KT):OR':=f (fun aW vU qy n6=>k (Ex.exit 0) ((St.mk (aE 0 37 [(4,(AV.ptr 320 0)),(5,(AV.ptr 384 0))]) ((320,(Ob.var ((AV.int .i64 aW)::((AV.ref 322 0)::[]))))::((322,(Ob.arr EnT 0 false vU))::((384,(Ob.var ((AV.int .i64 qy)::((AV.ref 386 0)::[]))))::((386,(Ob.arr EnT 0 false n6))::([]:(List (Nat×(Ob)))))))))))
def vO (n:Nat) (d:sDropc_p3.D):KT→OR':=vN (ed n d.1.1 d.1.2.2.2.2.1 d.2.1.1 d.2.1.2.1 d.2.2.1.1 d.2.2.2.1 d.2.2.2.2.1.1 d.2.2.2.2.2.1)
def AH (N:Nat):Lam:=bD [⟨3,sDropc_p3,vO N⟩]
theorem CP (N:Nat):OkL Kx sDropc_C.s AG 0 N (AH N) vM:=okL sDropc_p3 (vO) (fun d kR=>vN (iR d.1.1 d.1.2.2.2.2.1 d.2.1.1 d.2.1.2.1 d.2.2.1.1 d.2.2.2.1 d.2.2.2.2.1.1 d.2.2.2.2.2.1 (fun aj ai aM bX sd se sf ow=>kR ((aj,(),(),(),ai,()),((aM,bX,()),(sd,(),()),se,(sf,(),()),ow,()))))) (fun _ _=>by kernel_rfl) (fun _ _ _=>by kernel_rfl) (fun _ _=>by kernel_rfl) (fun _ _ _ _=>by kernel_rfl) (ah (l':=[]) (by kernel_rfl) trivial)
def qv (N:Nat) (bu:Int) (l:List En) (url:aa):OR':=(ed N url 0 bu l 0 ([]:(List En)) bu ([]:(List En)) (fun aW=>(fun vU=>(fun qy=>(fun n6=>(some ((AV.agg ((AV.int .i64 qy)::((AV.ref 0 0)::[]))),((Ob.arr EnT 0 false n6)::[]))))))))
def qw (φ:Int→(List En)→aa→Br):List AV→List Ob→Br
 | [.agg [.int .i64 bu,.sh EnT l],.str url],[]=>φ bu l url
 |_,_=>.fail
theorem xR {φ:Int→(List En)→aa→Br} (fu:Int→(List En)→aa→Nat) (hv: ∀bu l url res_,(φ bu l url).val=some res_→qv (fu bu l url) bu l url=some res_):Sound Kx 37 (qw φ):=an (C:=sDropc_C) (O:=AG) Tryz.func37 (by kernel_rfl) fun args objs=>by
 unfold qw;split
 ·rename_i bu l url;exact .inr fun _ hyp_=>aV (Λ:=AH (fu bu l url)) (by kernel_rfl) (ah (l':=[vM]) (by kernel_rfl) ⟨CP _,trivial⟩) (by kernel_rfl) (hv bu l url _ hyp_)
 ·exact .inl rfl
theorem apE (out:List En) (d x:En) (h:out.length≤1000000):decide ((out.length+(List.set (List.replicate 1 d) 0 x).length)*160≤140737488355328)=true:=dT' (by rw [cy,List.length_singleton];omega)
theorem ap0 {n:Nat} (h:n≤1000000):decide ((0+n)*32≤140737488355328)=true:=dT' (by omega)
def GQ (l:List En):Bool:=decide (l.length≤30)&&l.all qh
theorem AI {l:List En} (h:GQ l=true):l.length≤30∧ ∀e∈l,qh e=true:=by
 unfold GQ at h
 simp only [Bool.and_eq_true,decide_eq_true_eq,List.all_eq_true]at h
 exact h
theorem vP {e:En} (h:qh e=true):e.2.2.2.1.length≤20∧e.2.2.2.2.2.2.2.2.2.1.length≤20:=by
 unfold qh at h
 simp only [Bool.and_eq_true]at h
 obtain⟨⟨⟨⟨_,h1⟩,h2⟩,_⟩,_⟩:=h
 obtain⟨h3,_⟩:=fX h2
 unfold hdG at h3
 simp only [Bool.and_eq_true]at h3
 exact⟨(dw h1).1,(dw h3.1.2).1⟩
def f8 (url:aa) (l:List En):List En:=l.filter fun e=> !decide (e.1=url)
theorem GR (l:List En) (hl:l.length≤30) (url:aa) (a bu:Int) (z:List En) (k:aa→Int→List En→Int→List En→OR'): ∀(r:List En) (i:Int) (n:Nat) (out:List En),At l i r→r.length<n→(∀e∈r,qh e=true)→out.length+r.length≤30→
 ju n l (l.length:Int) i url a z bu out k=k url a z bu (out++f8 url r):=by
 intro r;induction r with
 |nil=>intro i n out h hn hf ho;obtain⟨n,rfl⟩:=bC hn;unfold ju r8;rw [h.dge,cond_false];simp [f8]
 |cons e r ih=>
  intro i n out h hn hf ho;obtain⟨n,rfl⟩:=bC hn
  obtain⟨s1,s2⟩:=vP (hf e (List.mem_cons_self ..))
  have hr:=fun x h=>hf x (List.mem_cons_of_mem _ h)
  simp only [List.length_cons]at hn ho
  have d1:decide (e.2.2.2.1.length≤1000000)=true:=dT' (by omega)
  have d2:decide (e.2.2.2.2.2.2.2.2.2.1.length≤1000000)=true:=dT' (by omega)
  unfold ju r8
  simp (disch:=omega) only [h.dlt,h.dnn,h.get,h.next (show l.length≤4611686018427387904 by omega),d1,d2,apE,iH,cond_true]
  unfold f8
  rw [List.filter_cons]
  cases decide (e.1=url)
  ·simp only [Bool.not_false,cond_true,if_true,cy]
   rw [ih (i+1) n _ h.step (by omega) hr (by simp only [List.length_append,List.length_singleton];omega)]
   simp [f8]
  ·simp only [Bool.not_true,cond_false]
   exact ih (i+1) n _ h.step (by omega) hr (by omega)
theorem xS (l:List En) (hl:l.length≤30) (url:aa) (a bu cu:Int) (z:List En) (k:Int→List En→Int→List En→OR'): ∀(r:List En) (i:Int) (n:Nat) (out:List En),At l i r→r.length<n→(∀e∈r,qh e=true)→out.length+r.length≤30→
 ed n url i cu l a z bu out k=k a z bu (out++f8 url r):=by
 intro r;induction r with
 |nil=>intro i n out h hn hf ho;obtain⟨n,rfl⟩:=bC hn;unfold ed iR;rw [h.dge,cond_false];simp [f8]
 |cons e r ih=>
  intro i n out h hn hf ho;obtain⟨n,rfl⟩:=bC hn
  obtain⟨s1,s2⟩:=vP (hf e (List.mem_cons_self ..))
  have hr:=fun x h=>hf x (List.mem_cons_of_mem _ h)
  simp only [List.length_cons]at hn ho
  have d1:=ap0 (show e.2.2.2.1.length≤1000000 by omega)
  have d2:=ap0 (show e.2.2.2.2.2.2.2.2.2.1.length≤1000000 by omega)
  unfold ed iR
  simp (disch:=omega) only [h.dlt,h.dnn,h.get,h.next (show l.length≤4611686018427387904 by omega),d1,d2,apE,iH,cond_true]
  unfold f8
  rw [List.filter_cons]
  cases decide (e.1=url)
  ·simp only [Bool.not_false,cond_true,if_true,cy]
   rw [ih (i+1) n _ h.step (by omega) hr (by simp only [List.length_append,List.length_singleton];omega)]
   simp [f8]
  ·simp only [Bool.not_true,cond_false]
   exact ih (i+1) n _ h.step (by omega) hr (by omega)
def caA (bu:Int):AV:=.agg [.int .i64 bu,.ref 0 0]
def caO (l:List En):List Ob:=[.arr EnT 0 false l]
def Nk:List AV→List Ob→Br
 | [.agg [.int .i64 bu,.sh (.pair .str (.pair (.int .i64) (.pair (.int .i64) (.pair (.slice (.pair .str .str)) (.pair .str (.pair .str (.pair (.int .i64) (.pair .str (.pair .bool (.pair (.slice (.pair .str .str)) .str)))))))))) l],.str url],[]=>.ite (GQ l) (.ret (caA bu) (caO (f8 url l))) .fail
 |_,_=>.fail
def OY:List AV→List Ob→Br
 | [.agg [.int .i64 bu,.sh (.pair .str (.pair (.int .i64) (.pair (.int .i64) (.pair (.slice (.pair .str .str)) (.pair .str (.pair .str (.pair (.int .i64) (.pair .str (.pair .bool (.pair (.slice (.pair .str .str)) .str)))))))))) l],.fn 77 [.ptr 0 0]],[.var [.str url]]=>.ite (GQ l) (.ret (.agg [.int .i64 bu,.ref 1 0]) [.var [.str url],.arr EnT 0 false (f8 url l)]) .fail
 |_,_=>.fail
theorem I1:Sound Kx 58 OY:=by
 refine(GO (φ:=fun bu l url=>.ite (GQ l) (.ret (.agg [.int .i64 bu,.ref 1 0]) [.var [.str url],.arr EnT 0 false (f8 url l)]) .fail) (fun bu l url=>l.length+1) fun bu l url r h=> ?_).of fun args objs r h=> ?_
 ·obtain⟨h1,h2⟩:=af h
  cases h2
  obtain⟨g1,g2⟩:=AI h1
  unfold AE
  rw [GR l g1 url 0 bu [] _ l 0 _ [] (At.start l) (by omega) g2 (by simpa using g1)]
  rfl
 ·unfold OY at h;split at h
  ·exact h
  ·cases h
theorem CQ:Sound Kx 37 Nk:=by
 refine(xR (φ:=fun bu l url=>.ite (GQ l) (.ret (caA bu) (caO (f8 url l))) .fail) (fun bu l url=>l.length+1) fun bu l url r h=> ?_).of fun args objs r h=> ?_
 ·obtain⟨h1,h2⟩:=af h
  cases h2
  obtain⟨g1,g2⟩:=AI h1
  unfold qv
  rw [xS l g1 url 0 bu bu [] _ l 0 _ [] (At.start l) (by omega) g2 (by simpa using g1)]
  rfl
 ·unfold Nk at h;split at h
  ·exact h
  ·cases h
def I2:SC:=[⟨58,_,I1⟩]
def GS (bu:Int) (l:List En) (url:aa):Br:=(Br.ite (GQ l) (Br.ret (AV.agg ((AV.int .i64 bu)::((AV.ref 0 0)::[]))) ((Ob.arr EnT 0 false (f8 url l))::[])) Br.fail)
def AJ:List AV→List Ob→Br
 | [.agg [.int .i64 bu,.sh EnT l],.str url],[]=>GS bu l url
 |_,_=>.fail
theorem GT:Sound Kx 40 AJ:=ae (C:=I2) (O:=O0) Tryz.func40 (by kernel_rfl) fun args objs=>by
 unfold AJ;split
 ·exact .inr (by kernel_rfl)
 ·exact .inl rfl
def Ls:SC:=[⟨39,_,IS⟩,⟨40,_,GT⟩]
def r9 (bu:Int) (l:List En) (url:aa):Br:=(Br.ite (sg l) (Br.ite (!(dA bu l)) (Br.ret (AV.agg ((AV.int .i64 0)::((AV.ref 0 0)::[]))) ((Ob.arr EnT 0 false ([]:(List En)))::[])) (Br.ite (GQ l) (Br.ret (AV.agg ((AV.int .i64 bu)::((AV.ref 0 0)::[]))) ((Ob.arr EnT 0 false (f8 url l))::[])) Br.fail)) Br.fail)
def GU:List AV→List Ob→Br
 | [.agg [.int .i64 bu,.sh EnT l],.str url],[]=>r9 bu l url
 |_,_=>.fail
theorem iDrop_ok:Sound Kx 11 GU:=ae (C:=Ls) (O:=O0) Tryz.func11 (by kernel_rfl) fun args objs=>by
 unfold GU;split
 ·exact .inr (by kernel_rfl)
 ·exact .inl rfl
def Lt:SC:=[⟨36,_,IT⟩,⟨37,_,CQ⟩]
def r_ (bu:Int) (l:List En) (url:aa):Br:=(Br.ite (sg l) (Br.ite (!(dA bu l)) (Br.ret (AV.agg ((AV.int .i64 0)::((AV.ref 0 0)::[]))) ((Ob.arr EnT 0 false ([]:(List En)))::[])) (Br.ite (GQ l) (Br.ret (AV.agg ((AV.int .i64 bu)::((AV.ref 0 0)::[]))) ((Ob.arr EnT 0 false (f8 url l))::[])) Br.fail)) Br.fail)
def GV:List AV→List Ob→Br
 | [.agg [.int .i64 bu,.sh EnT l],.str url],[]=>r_ bu l url
 |_,_=>.fail
theorem sDrop_ok:Sound Kx 9 GV:=ae (C:=Lt) (O:=O0) Tryz.func9 (by kernel_rfl) fun args objs=>by
 unfold GV;split
 ·exact .inr (by kernel_rfl)
 ·exact .inl rfl
def xT:SC:=[⟨43,_,ot⟩]
def vQ (bu:Int) (l:List En) (k:Int):Br:=(Br.ite ((((decide (0<k))&&(decide ((k+(bq l))≤100000000)))&&(decide (l.length≤10000000)))&&(fA l (bj l k))) (Br.ite (decide ((k+(bq l))<0)) (Br.ret (AV.int .i64 (-1)) []) (Br.ret (AV.int .i64 (k+(bq l))) [])) Br.fail)
def nZ:List AV→List Ob→Br
 | [.agg [.int .i64 bu,.sh EnT l],.int .i64 k],[]=>vQ bu l k
 |_,_=>.fail
theorem vR:Sound Kx 14 nZ:=ae (C:=xT) (O:=O0) Tryz.func14 (by kernel_rfl) fun args objs=>by
 unfold nZ;split
 ·exact .inr (by kernel_rfl)
 ·exact .inl rfl
theorem vS {bu:Int} {l:List En} (h:dA bu l=true):GQ l=true:=by
 unfold dA at h
 simp only [Bool.and_eq_true,decide_eq_true_eq]at h
 unfold GQ
 rw [dT' h.1.1.2,h.1.2];rfl
def caB (bu:Int) (l:List En):Int:=bif dA bu l then bu else 0
def f9 (bu:Int) (l:List En) (url:aa):List En:=bif dA bu l then f8 url l else []
def I3:List AV→List Ob→Br
 | [.agg [.int .i64 bu,.sh (.pair .str (.pair (.int .i64) (.pair (.int .i64) (.pair (.slice (.pair .str .str)) (.pair .str (.pair .str (.pair (.int .i64) (.pair .str (.pair .bool (.pair (.slice (.pair .str .str)) .str)))))))))) l],.str url],[]=>.ite (sg l) (.ret (caA (caB bu l)) (caO (f9 bu l url))) .fail
 |_,_=>.fail
theorem GW:Sound Kx 11 I3:=iDrop_ok.of fun args objs r h=>by
 unfold I3 at h;split at h
 case h_2=>cases h
 rename_i bu l url
 obtain⟨h1,h2⟩:=af h
 cases h2
 show(r9 bu l url).val=_
 unfold r9 caB f9
 refine(aZ h1).trans ?_
 cases c:dA bu l
 ·rfl
 ·exact(bp rfl).trans ((aZ (vS c)).trans rfl)
theorem GX:Sound Kx 9 I3:=sDrop_ok.of fun args objs r h=>by
 unfold I3 at h;split at h
 case h_2=>cases h
 rename_i bu l url
 obtain⟨h1,h2⟩:=af h
 cases h2
 show(r_ bu l url).val=_
 unfold r_ caB f9
 refine(aZ h1).trans ?_
 cases c:dA bu l
 ·rfl
 ·exact(bp rfl).trans ((aZ (vS c)).trans rfl)
def Lu:Opt:={mutF:=[42,13]}
def Lv:SC:=[⟨8,_,CI⟩,⟨10,_,CK⟩,⟨12,_,CM⟩,⟨13,_,vL⟩,⟨14,_,vR⟩,⟨11,_,GW⟩,⟨9,_,GX⟩]
def sa (bu:Int) (l:List En) (url:aa):Br:=(Br.ite (decide (1048576< (url.length:Int))) (Br.ret (AV.bool true) []) (Br.ite ((IO l)&&true) (Br.ite (decide ((CV l 1048576)<0)) (Br.ret (AV.bool true) []) (Br.ite (decide ((CV l 1048576)<0)) (Br.ret (AV.bool true) []) (Br.ite (nR l) (Br.ite (sg l) (Br.ite (nR l) (Br.ite (sg l) (Br.ite (!(decide ((caB bu l)=(caB bu l)))) (Br.ret (AV.bool false) []) (Br.ite ((fA (f9 bu l url) (f9 bu l url))&&(nR (f9 bu l url))) (Br.ite (nR l) (Br.ite (!(decide (bu=bu))) (Br.ret (AV.bool false) []) (Br.ite ((fA l l)&&(nR l)) (Br.ite ((true&&(decide ((1+(bq l))≤100000000)))&&(decide (l.length≤10000000))) (Br.ite (decide ((1+(bq l))<0)) (Br.ret (AV.bool false) []) (Br.ite (!(decide ((caB bu l)=(caB bu l)))) (Br.ret (AV.bool false) []) (Br.ite ((fA (f9 bu l url) (f9 bu l url))&&(nR (f9 bu l url))) (Br.ite ((true&&(decide ((1+(bq (f9 bu l url)))≤100000000)))&&(decide ((List.length (f9 bu l url))≤10000000))) (Br.ite (((true&&(decide ((1+(bq (bj (f9 bu l url) 1)))≤100000000)))&&(decide ((List.length (bj (f9 bu l url) 1))≤10000000)))&&(fA (bj (f9 bu l url) 1) (bj (bj (f9 bu l url) 1) 1))) (Br.ite (decide ((1+(bq (bj (f9 bu l url) 1)))<0)) (Br.ret (AV.bool false) []) (Br.ite (decide ((1+(bq (bj (f9 bu l url) 1)))<0)) (Br.ret (AV.bool false) []) (Br.ite (!(decide ((1+(bq (bj (f9 bu l url) 1)))=(1+(bq (f9 bu l url)))))) (Br.ret (AV.bool false) []) (Br.ite (nR l) (Br.ite (sg l) (Br.ite (!(decide ((caB bu l)=(caB bu l)))) (Br.ret (AV.bool false) []) (Br.ite ((fA (f9 bu l url) (f9 bu l url))&&(nR (f9 bu l url))) (Br.ite (((true&&(decide ((1+(bq (bj (f9 bu l url) 1)))≤100000000)))&&(decide ((List.length (bj (f9 bu l url) 1))≤10000000)))&&(fA (bj (f9 bu l url) 1) (bj (bj (f9 bu l url) 1) 1))) (Br.ite (decide ((1+(bq (bj (f9 bu l url) 1)))<0)) (Br.ret (AV.bool false) []) (Br.ite (decide ((1+(bq (bj (f9 bu l url) 1)))<0)) (Br.ret (AV.bool false) []) (Br.ite (!(decide ((1+(bq (bj (f9 bu l url) 1)))=(1+(bq (f9 bu l url)))))) (Br.ret (AV.bool false) []) (Br.ret (AV.bool true) [])))) Br.fail) Br.fail)) Br.fail) Br.fail)))) Br.fail) Br.fail) Br.fail))) Br.fail) Br.fail)) Br.fail) Br.fail)) Br.fail) Br.fail) Br.fail) Br.fail))) Br.fail))
def xU:List AV→List Ob→Br
 | [.agg [.int .i64 bu,.sh EnT l],.str url],[]=>sa bu l url
 |_,_=>.fail
theorem I4:Sound Kx 3 xU:=ae (C:=Lv) (O:=Lu) Tryz.func3 (by kernel_rfl) fun args objs=>by
 unfold xU;split
 ·exact .inr (by kernel_rfl)
 ·exact .inl rfl
end
end Go.Proofs.YtihabpimbfmhhaaGreatDoor.Ev
namespace Go.Proofs.YtihabpimbfmhhaaGreatDoor.Ev
open Go Go.RowKit
set_option linter.unusedVariables false
set_option linter.unusedSimpArgs false
theorem GY: ∀l:List En,bq l≤9*l.length+4*iI l
 | []=>by simp [bq,iI]
 |e::r=>by
  obtain⟨_,h1,h2⟩:=nS e
  have h3:=GY r
  simp only [bq,xK,iI,List.length_cons]
  omega
theorem I5 {l:List En} (h: ¬CV l 1048576<0):bq l≤20000000:=by
 have hc:=GY l
 unfold CV at h
 cases hd:decide ((l.length:Int)+iI l≤1048576)
 ·rw [hd,cond_false]at h;omega
 ·have:=of_decide_eq_true hd
  have:=jr l
  omega
theorem qx (p:En→Bool): ∀l:List En,bq (l.filter p)≤bq l
 | []=>Int.le_refl _
 |e::r=>by
  have h1:=qx p r
  have h2:=lj e
  rw [List.filter_cons]
  split
  ·simp only [bq];omega
  ·simp only [bq];omega
theorem GZ {l:List En} (p:En→Bool) (h:nR l=true):nR (l.filter p)=true:=by
 obtain⟨h1,h2⟩:=li h
 unfold nR
 rw [dT' (Nat.le_trans (List.length_filter_le ..) h1),Bool.true_and,List.all_eq_true]
 exact fun e he=>h2 e (List.mem_filter.1 he).1
structure Mk (x:List En):Prop where
 sh:nR x=true
 c:decide (1+bq x≤100000000)=true
 l:decide (x.length≤10000000)=true
 n:decide (1+bq x<0)=false
theorem Lw {x:List En} (h1:nR x=true) (h2:bq x≤90000000):Mk x:=by
 have h3:=lk x
 have h4:=(li h1).1
 exact⟨h1,dT' (by omega),dT' (by omega),dF' (by omega)⟩
theorem G0 (bu:Int) (l:List En) (url:aa) (h:IO l=true):(sa bu l url).val=some (.bool true,[]):=by
 unfold sa
 by_cases c0:(1048576:Int)< (url.length:Int)
 ·exact aZ (dT' c0)
 refine(bp (dF' c0)).trans ?_
 refine(aZ (by rw [h];rfl)).trans ?_
 by_cases c:CV l 1048576<0
 ·exact aZ (dT' c)
 obtain⟨h1,h2⟩:=CN c
 have h3:=I5 c
 refine(bp (dF' c)).trans ?_
 have hl:=Lw h1 (by omega)
 have hx:Mk (f9 bu l url):=by
  unfold f9
  cases dA bu l
  ·exact Lw rfl (show bq []≤90000000 by decide)
  ·exact Lw (GZ _ h1) (Int.le_trans (qx _ l) (by omega))
 generalize f9 bu l url=x at hx
 generalize caB bu l=b
 obtain⟨m1,m2⟩:=qu x 1
 simp only [Br.val,dF' c,h1,h2,hl.c,hl.l,hl.n,hx.sh,hx.c,hx.l,hx.n,m1,m2,kn,qq,decide_true,Bool.not_true,Bool.and_self,Bool.true_and,cond_true,cond_false,beq_self_eq_true]
theorem kB (xs:List AV) (h:N_ [(GD,true),(.str,false)] xs):(xU xs []).val=some (.bool true,[]):=by
 obtain⟨⟨bu,l⟩,a',g,rfl,url,b',g',rfl,rfl⟩:=h
 exact G0 bu l url (GE g.2)
end Go.Proofs.YtihabpimbfmhhaaGreatDoor.Ev
