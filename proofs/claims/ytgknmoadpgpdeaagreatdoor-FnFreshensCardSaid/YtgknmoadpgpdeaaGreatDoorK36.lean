/- The texts Sd, Se, Sf, Sg, Sh, Si, Sj, Qp, Sk, Sl, Qq, Qr, Qu, Qv, Qw, Qs, Qt, Qx, Sm, Qy, Qz, Ga, Gb, one behind the other. -/
import Derived.Test.YtgknmoadpgpdeaaGreatDoorK34
import Derived.Test.YtgknmoadpgpdeaaGreatDoorK35
import Derived.Test.YtgknmoadpgpdeaaGreatDoorK13
import Derived.Test.YtgknmoadpgpdeaaGreatDoorK29
import Derived.Test.YtgknmoadpgpdeaaGreatDoorK31
import Derived.Test.YtgknmoadpgpdeaaGreatDoorK17
namespace Go.Proofs.YtgknmoadpgpdeaaGreatDoor.Ev
open Go Go.RowKit
set_option linter.unusedVariables false
set_option linter.unusedSimpArgs false
noncomputable section
def afj: SC:=[⟨194,_,Yi⟩,⟨120,_,TW⟩]
def G6 (l: List Fd): Br:=(.ite (decide ((List.length (Yg l))≤1000000)) (.ret (AV.ref 0 0) [.arr (Ty.pair Ty.str Ty.str) 0 false (bif (bd l) then (VF l (Yg l)) else ([]: (List Fd)))]) .fail)
def Z_: List AV→List Ob→Br
 | [.sh (.pair .str .str) l],[]=>G6 l
 | _,_=> .fail
theorem iE2E_ok: Sound Kx 116 Z_:=ah (C:=afj) (O:=O0) Tryz.func116 (by kernel_rfl) fun args objs=>by
 unfold Z_;split
 · exact .inr (by kernel_rfl)
 · exact .inl rfl
def aaa: Opt:={ live:=[(6,[0,3,4,5])],outs:=[(6,[2,3])] }
def sE2E_C: SC:=[⟨127,_,Yj⟩,⟨105,_,CY⟩,⟨91,_,iG⟩]
def z6 (dU: (List Fd)) (ec: (List aa)) (ej: Int) (eJ: (List Fd)) (kR6: (List Fd)→(List aa)→Int→(List Fd)→OR') (sd: (List Fd)→OR'): OR':=
 (bif (decide (ej < (dU.length: Int))) then (bif (decide (0≤ej)) then (bif (decide (ej < (dU.length: Int))) then (bif (isM (List.getD dU (Int.toNat ej) (([]: aa),([]: aa))).1) then (bif (decide (ec.length≤1000000)) then (bif (!(inP ec (ay (List.getD dU (Int.toNat ej) (([]: aa),([]: aa))).1))) then (bif (decide (0≤ej)) then (bif (decide (ej < (dU.length: Int))) then (bif (decide (((eJ.length + (List.length (List.set (List.replicate 1 (([]: aa),([]: aa))) 0 ((List.getD dU (Int.toNat ej) (([]: aa),([]: aa))).1,(List.getD dU (Int.toNat ej) (([]: aa),([]: aa))).2)))) * 32)≤140737488355328)) then (kR6 dU ec (ai (ej + 1)) (eJ++(List.set (List.replicate 1 (([]: aa),([]: aa))) 0 ((List.getD dU (Int.toNat ej) (([]: aa),([]: aa))).1,(List.getD dU (Int.toNat ej) (([]: aa),([]: aa))).2)))) else none) else none) else none) else (kR6 dU ec (ai (ej + 1)) eJ)) else none) else none) else none) else none) else (sd eJ))
def pf: Nat→(List Fd)→(List aa)→Int→(List Fd)→((List Fd)→OR')→OR'
 | 0,_,_,_,_,_=>none
 | n + 1,dU,ec,ej,eJ,sd=>z6 dU ec ej eJ (fun dU ec ej eJ=>pf n dU ec ej eJ sd) sd
abbrev sE2E_p6: SP:=⟨34,[0,3,4,5],[(.v (.sh (Ty.pair Ty.str Ty.str))),(.v (.ref 256 0)),(.v (.sh Ty.str)),(.v (.i .i64))],[(256, .arr (Ty.pair Ty.str Ty.str) 0 false)]⟩
noncomputable def TZ: Code:=aD (aG Tryz.f45) [1,1,1,1,0,1,0,0]
def T0 (f: ((List Fd)→OR')→OR') (k: KT): OR':=f (fun de=>k (Ex.exit 0) ((St.mk (aH 0 34 [(3,(AV.ref 256 0))]) ((256,(Ob.arr (Ty.pair Ty.str Ty.str) 0 false de))::([]: (List (Nat×(Ob))))))))
def T1 (n: Nat) (d: sE2E_p6.D): KT→OR':=T0 (pf n d.1.1 d.1.2.2.1 d.1.2.2.2.1 d.2.1)
def aab (N: Nat): Lam:=bw [⟨6,sE2E_p6,T1 N⟩]
theorem Yk (N: Nat): OkL Kx sE2E_C.s aaa 0 N (aab N) TZ:=okL sE2E_p6 (T1) (fun d kR=>T0 (z6 d.1.1 d.1.2.2.1 d.1.2.2.2.1 d.2.1 (fun dU ec ej eJ=>kR ((dU,(),ec,ej,()),(eJ,()))))) (fun _ _=>by kernel_rfl) (fun _ _ _=>by kernel_rfl) (fun _ _=>by kernel_rfl) (fun _ _ _ _=>by kernel_rfl) (am (l':=[]) (by kernel_rfl) trivial)
def KY (N: Nat) (l: List Fd): OR':=(bif (bd l) then (bif (decide (((List.length (VE l)): Int)=0)) then (some ((AV.ref 0 0),[.arr (Ty.pair Ty.str Ty.str) 0 false ([]: (List Fd))])) else (pf N l (VE l) 0 ([]: (List Fd)) (fun de=>(some ((AV.ref 0 0),[.arr (Ty.pair Ty.str Ty.str) 0 false de]))))) else (some ((AV.ref 0 0),[.arr (Ty.pair Ty.str Ty.str) 0 false ([]: (List Fd))])))
def KZ (φ: (List Fd)→Br): List AV→List Ob→Br
 | [.sh (.pair .str .str) l],[]=>φ l
 | _,_=> .fail
theorem T2 {φ: (List Fd)→Br} (fu: (List Fd)→Nat) (hv: ∀ l res_,(φ l).val=some res_→KY (fu l) l=some res_): Sound Kx 45 (KZ φ):=ar (C:=sE2E_C) (O:=aaa) Tryz.func45 (by kernel_rfl) fun args objs=>by
 unfold KZ;split
 · rename_i l;exact .inr fun _ hyp_=>aS (Λ:=aab (fu l)) (by kernel_rfl) (am (l':=[TZ]) (by kernel_rfl) ⟨Yk _,trivial⟩) (by kernel_rfl) (hv l _ hyp_)
 · exact .inl rfl
def afk: SC:=[⟨198,_,TY⟩]
def acJ (ur: aa) (t1 t2: Int) (ak: List Fd) (me ta: aa) (st: Int) (re: aa) (ba: Bool) (fs: List Fd) (bo: aa): Br:=(.ite (decide (ak.length≤1000000)) (.ite (decide (fs.length≤1000000)) (.ret (AV.agg [.str ur,.int .i64 t1,.int .i64 t2,.ref 0 0,.str me,.str ta,.int .i64 st,.str re,.bool ba,.ref 1 0,.str bo]) [.arr (Ty.pair Ty.str Ty.str) 0 false ak,.arr (Ty.pair Ty.str Ty.str) 0 false fs]) .fail) .fail)
def aac: List AV→List Ob→Br
 | [.agg [.str ur, .int .i64 t1, .int .i64 t2, .sh (.pair .str .str) ak, .str me, .str ta, .int .i64 st, .str re, .bool ba, .sh (.pair .str .str) fs, .str bo]],[]=>acJ ur t1 t2 ak me ta st re ba fs bo
 | _,_=> .fail
theorem acK: Sound Kx 119 aac:=ah (C:=afk) (O:=O0) Tryz.func119 (by kernel_rfl) fun args objs=>by
 unfold aac;split
 · exact .inr (by kernel_rfl)
 · exact .inl rfl
def afl: SC:=[⟨124,_,Ca⟩]
def acL (f1 f2: aa) (nm: aa): Br:=(.ite ((isM f1)&&(isM nm)) (.ret (AV.bool (ga f1 nm)) [.var [.str nm]]) .fail)
def aad: List AV→List Ob→Br
 | [.agg [.str f1, .str f2], .ptr 0 0],[.var [.str nm]]=>acL f1 f2 nm
 | _,_=> .fail
theorem acM: Sound Kx 123 aad:=ah (C:=afl) (O:=O0) Tryz.func123 (by kernel_rfl) fun args objs=>by
 unfold aad;split
 · exact .inr (by kernel_rfl)
 · exact .inl rfl
def aae: Opt:={ live:=[(2,[0,1,7,8])],outs:=[(2,[4])] }
def ixFF_C: SC:=[⟨123,_,acM⟩]
def z7 (aK: (List Fd)) (aM cr: Int) (gV: aa) (kR2: (List Fd)→Int→Int→aa→OR') (cu: Int→aa→OR') (dn: aa→OR'): OR':=
 (bif (decide (cr < aM)) then (bif (decide (0≤cr)) then (bif (decide (cr < (aK.length: Int))) then (bif ((isM (List.getD aK (Int.toNat cr) (([]: aa),([]: aa))).1)&&(isM gV)) then (bif (ga (List.getD aK (Int.toNat cr) (([]: aa),([]: aa))).1 gV) then (cu cr gV) else (kR2 aK aM (ai (cr + 1)) gV)) else none) else none) else none) else (dn gV))
def pg: Nat→(List Fd)→Int→Int→aa→(Int→aa→OR')→(aa→OR')→OR'
 | 0,_,_,_,_,_,_=>none
 | n + 1,aK,aM,cr,gV,cu,dn=>z7 aK aM cr gV (fun aK aM cr gV=>pg n aK aM cr gV cu dn) cu dn
abbrev ixFF_p2: SP:=⟨19,[0,1,7,8],[(.v (.sh (Ty.pair Ty.str Ty.str))),(.v (.fn 123 [(0,0)])),(.v (.i .i64)),(.v (.i .i64))],[(0, .var [.s])]⟩
noncomputable def T3: Code:=aD (aG Tryz.f199) [1,0,1,0,0]
def T4 (f: (Int→aa→OR')→(aa→OR')→OR') (k: KT): OR':=f (fun bS fO=>k Ex.ret ((St.mk (aH 0 19 [(4,(AV.int .i64 bS))]) ((0,(Ob.var [.str fO]))::([]: (List (Nat×(Ob)))))))) (fun gI=>k (Ex.exit 0) ((St.mk (aH 0 19 []) ((0,(Ob.var [.str gI]))::([]: (List (Nat×(Ob))))))))
def T5 (n: Nat) (d: ixFF_p2.D): KT→OR':=T4 (pg n d.1.1 d.1.2.2.1 d.1.2.2.2.1 d.2.1.1)
def aaf (N: Nat): Lam:=bw [⟨2,ixFF_p2,T5 N⟩]
theorem Yl (N: Nat): OkL Kx ixFF_C.s aae 1 N (aaf N) T3:=okL ixFF_p2 (T5) (fun d kR=>T4 (z7 d.1.1 d.1.2.2.1 d.1.2.2.2.1 d.2.1.1 (fun aK aM cr gV=>kR ((aK,(),aM,cr,()),((gV,()),()))))) (fun _ _=>by kernel_rfl) (fun _ _ _=>by kernel_rfl) (fun _ _=>by kernel_rfl) (fun _ _ _ _=>by kernel_rfl) (am (l':=[]) (by kernel_rfl) trivial)
def K2 (N: Nat) (l: List Fd) (nm: aa): OR':=(pg N l (l.length: Int) 0 nm (fun bS fO=>(some ((AV.int .i64 bS),[.var [.str fO]]))) (fun gI=>(some ((AV.int .i64 (-1)),[.var [.str gI]]))))
def K3 (φ: (List Fd)→aa→Br): List AV→List Ob→Br
 | [.sh (.pair .str .str) l, .fn 123 [.ptr 0 0]],[.var [.str nm]]=>φ l nm
 | _,_=> .fail
theorem T6 {φ: (List Fd)→aa→Br} (fu: (List Fd)→aa→Nat) (hv: ∀ l nm res_,(φ l nm).val=some res_→K2 (fu l nm) l nm=some res_): Sound Kx 199 (K3 φ):=ar (C:=ixFF_C) (O:=aae) Tryz.func199 (by kernel_rfl) fun args objs=>by
 unfold K3;split
 · rename_i l nm;exact .inr fun _ hyp_=>aS (Λ:=aaf (fu l nm)) (by kernel_rfl) (am (l':=[T3]) (by kernel_rfl) ⟨Yl _,trivial⟩) (by kernel_rfl) (hv l nm _ hyp_)
 · exact .inl rfl
def acN: SC:=[⟨91,_,iG⟩,⟨117,_,Ql⟩]
def z8 (s: aa): Br:=(.ite (isM s) (.ite (decide (8≤((List.length (ay s)): Int))) (.ite (decide (8≤((List.length (ay s)): Int))) (.ret (AV.bool (decide ((cut (ay s) 0 8)=([99,111,110,116,101,110,116,45]: aa)))) []) .fail) (.ret (AV.bool false) [])) .fail)
def T7: List AV→List Ob→Br
 | [.str s],[]=>z8 s
 | _,_=> .fail
theorem sCont_ok: Sound Kx 125 T7:=ah (C:=acN) (O:=O0) Tryz.func125 (by kernel_rfl) fun args objs=>by
 unfold T7;split
 · exact .inr (by kernel_rfl)
 · exact .inl rfl
theorem K4 (s: aa): ∀ l: List aa,l.length≤(w5 l s).length
 | []=>Nat.zero_le _
 | a::l=>by
   have:=K4 s l
   unfold w5
   cases bytesLess s a
   · rw [cond_false];simp only [List.length_cons];omega
   · rw [cond_true];simp only [List.length_cons];omega
theorem Ym (l: List aa) (s: aa): l.length≤(q_ l s).length:=by
 unfold q_
 cases inP l s
 · exact K4 s l
 · exact Nat.le_refl _
theorem K5: ∀ (xs out: List aa),out.length≤(xs.foldl (fun o w=>q_ o (ay w)) out).length
 | [],_=>Nat.le_refl _
 | a::xs,out=>Nat.le_trans (Ym out (ay a)) (K5 xs _)
theorem acO (l: List Fd): 7≤(VE l).length:=K5 _ hopB
def j7 (l: List Fd): List Fd:=bif bd l then VF l (VE l) else []
def Yn: List AV→List Ob→Br
 | [.sh (.pair .str .str) l],[]=> .ret (.ref 0 0) [.arr (.pair .str .str) 0 false (j7 l)]
 | _,_=> .fail
theorem Yo: Sound Kx 116 Yn:=iE2E_ok.of fun args objs r h=>by
 unfold Yn at h;split at h
 · refine Eq.trans ?_ h
   rename_i l
   show (G6 l).val=_
   unfold G6 j7
   refine (bX (dT' (Nat.le_trans (TV l) (by decide)))).trans ?_
   unfold Yg
   cases bd l <;> rfl
 · cases h
theorem T8 (l: List Fd) (hl: l.length≤20) (hops: List aa) (hh: hops.length≤1000000) (k: List Fd→OR'): ∀ (r: List Fd) (i: Int) (n: Nat) (out: List Fd),At l i r→r.length < n→(∀ f ∈ r,jW f=true)→out.length + r.length≤20→
 pf n l hops i out k=k (out++VF r hops):=by
 intro r;induction r with
 | nil=>intro i n out h hn hf ho;obtain ⟨n,rfl⟩:=bF hn;unfold pf z6;rw [h.dge,cond_false];simp [VF]
 | cons f r ih=>
   intro i n out h hn hf ho;obtain ⟨n,rfl⟩:=bF hn
   simp only [List.length_cons] at hn ho
   have hm1:=(fG (hf f (List.mem_cons_self ..))).1
   have hr:=fun x hx=>hf x (List.mem_cons_of_mem _ hx)
   have hd: decide (hops.length≤1000000)=true:=dT' hh
   unfold pf z6
   simp only [h.dlt,h.dnn,h.get,h.next (by omega),hm1,hd,cond_true]
   unfold VF at ih ⊢
   rw [List.filter_cons]
   cases inP hops (ay f.1)
   · simp only [Bool.not_false,cond_true,if_true]
     rw [apF out _ (by omega),cond_true,ih (i + 1) n _ h.step (by omega) hr (by rw [List.length_append,List.length_set,List.length_replicate];omega)]
     simp
   · simp only [Bool.not_true,cond_false]
     exact ih (i + 1) n _ h.step (by omega) hr (by omega)
theorem K6: Sound Kx 45 Yn:=by
 refine (T2 (φ:=fun l=> .ret (.ref 0 0) [.arr (.pair .str .str) 0 false (j7 l)]) (fun l=>l.length + 1) fun l r h=>?_).of fun args objs r h=>?_
 · cases h
   unfold KY j7
   cases hf: bd l
   · rfl
   · obtain ⟨g1,g2⟩:=b_ hf
     have hp:=acO l
     have hq:=TV l
     unfold Yg at hq;rw [hf,cond_true] at hq
     rw [cond_true,show decide (((VE l).length: Int)=0)=false from dF' (by omega),cond_false,cond_true]
     exact T8 l g1 (VE l) (by omega) _ l 0 _ [] (At.start l) (by omega) g2 (by rw [List.length_nil];omega)
 · unfold Yn at h;split at h
   · exact h
   · cases h
def ph (s: aa): Bool:=decide (8≤((ay s).length: Int))&&decide (cut (ay s) 0 8=[99,111,110,116,101,110,116,45])
theorem T9: Sound Kx 125 (oy fun s=> .bool (ph s)):=sCont_ok.of fun args objs r h=>by
 unfold oy at h
 split at h
 case h_2=>cases h
 rename_i s
 obtain ⟨hM,h2⟩:=al h
 cases h2
 show (z8 s).val=some (.bool (ph s),[])
 unfold z8 ph
 refine (bX hM).trans ?_
 cases c: decide (8≤((ay s).length: Int)) <;> rfl
def Oc (nm: aa): List Fd→Int→Int
 | [],_=> -1
 | f::r,i=>bif ga f.1 nm then i else Oc nm r (i + 1)
def T_ (l: List Fd) (nm: aa): Bool:=l.any fun f=>ga f.1 nm
theorem K7 (nm: aa): ∀ (l: List Fd) (i: Int),0≤i→decide (0≤Oc nm l i)=T_ l nm
 | [],i,h=>rfl
 | f::r,i,h=>by
   unfold Oc T_
   rw [List.any_cons]
   cases ga f.1 nm
   · rw [cond_false,Bool.false_or];exact K7 nm r (i + 1) (by omega)
   · rw [cond_true,Bool.true_or];exact dT' h
theorem Ua {l: List Fd} (h: smF l=true): l.length≤4611686018427387904∧∀ f ∈ l,isM f.1=true∧isM f.2=true:=by
 unfold smF at h
 simp only [Bool.and_eq_true,List.all_eq_true,decide_eq_true_eq] at h
 refine ⟨Nat.le_trans h.1 (by decide),fun f hf=>?_⟩
 have:=h.2 f hf
 unfold agG at this
 simpa only [Bool.and_eq_true] using this
theorem Ub (l: List Fd) (hl: l.length≤4611686018427387904) (nm: aa) (hnm: isM nm=true) (k0: Int→aa→OR') (k1: aa→OR'): ∀ (r: List Fd) (i: Int) (n: Nat),At l i r→(∀ f ∈ r,isM f.1=true∧isM f.2=true)→r.length < n→
 pg n l (l.length: Int) i nm k0 k1=bif T_ r nm then k0 (Oc nm r i) nm else k1 nm:=by
 intro r;induction r with
 | nil=>intro i n h hm hn;obtain ⟨n,rfl⟩:=bF hn;unfold pg z7;simp only [h.dge,cond_false];rfl
 | cons f r ih=>
   intro i n h hm hn;obtain ⟨n,rfl⟩:=bF hn
   simp only [List.length_cons] at hn
   have hr:=ih (i + 1) n h.step (fun x hx=>hm x (List.mem_cons_of_mem _ hx)) (by omega)
   have ha:=(hm f (List.mem_cons_self ..)).1
   unfold pg z7
   simp only [h.dlt,h.dnn,h.get,cond_true,h.next hl,hr,Oc,ha,hnm,Bool.and_self,T_,List.any_cons]
   cases hs: ga f.1 nm
   · simp [hs]
   · simp [hs]
def afm: List AV→List Ob→Br
 | [.sh (.pair .str .str) l, .fn 123 [.ptr 0 0]],[.var [.str nm]]=> .ite (smF l&&isM nm) (.ret (.int .i64 (Oc nm l 0)) [.var [.str nm]]) .fail
 | _,_=> .fail
theorem Uc (nm: aa): ∀ (l: List Fd) (i: Int),T_ l nm=false→Oc nm l i= -1
 | [],i,_=>rfl
 | f::r,i,h=>by
   unfold T_ at h
   rw [List.any_cons,Bool.or_eq_false_iff] at h
   unfold Oc
   rw [h.1,cond_false];exact Uc nm r (i + 1) h.2
theorem Yp: Sound Kx 199 afm:=by
 refine (T6 (φ:=fun l nm=> .ite (smF l&&isM nm) (.ret (.int .i64 (Oc nm l 0)) [.var [.str nm]]) .fail) (fun l _=>l.length + 1) fun l nm r h=>?_).of fun args objs r h=>?_
 · obtain ⟨h1,h2⟩:=al h
   cases h2
   rw [Bool.and_eq_true] at h1
   obtain ⟨g1,g2⟩:=Ua h1.1
   unfold K2
   refine (Ub l g1 nm h1.2 _ _ l 0 _ (At.start l) g2 (by omega)).trans ?_
   cases c: T_ l nm
   · rw [Uc nm l 0 c];rfl
   · rfl
 · unfold afm at h;split at h
   · exact h
   · cases h
def ag9: SC:=[⟨199,_,Yp⟩]
def afn (l: List Fd) (nm: aa): Br:=(.ite ((smF l)&&(isM nm)) (.ret (AV.bool (decide (0≤(Oc nm l 0)))) [.var [.str nm]]) .fail)
def afo: List AV→List Ob→Br
 | [.sh (.pair .str .str) l, .fn 123 [.ptr 0 0]],[.var [.str nm]]=>afn l nm
 | _,_=> .fail
theorem afp: Sound Kx 122 afo:=ah (C:=ag9) (O:=O0) Tryz.func122 (by kernel_rfl) fun args objs=>by
 unfold afo;split
 · exact .inr (by kernel_rfl)
 · exact .inl rfl
def ag_: SC:=[⟨122,_,afp⟩]
def afq (news: List Fd) (nm: aa): Br:=(.ite ((smF news)&&(isM nm)) (.ret (AV.bool (!(decide (0≤(Oc nm news 0))))) [.var [.ref 1 0],.arr (Ty.pair Ty.str Ty.str) 0 false news]) .fail)
def afr: List AV→List Ob→Br
 | [.str nm, .ptr 0 0],[.var [.ref 1 0], .arr (.pair .str .str) 0 false news]=>afq news nm
 | _,_=> .fail
theorem afs: Sound Kx 121 afr:=ah (C:=ag_) (O:=O0) Tryz.func121 (by kernel_rfl) fun args objs=>by
 unfold afr;split
 · exact .inr (by kernel_rfl)
 · exact .inl rfl
def Ud: Opt:={ live:=[(5,[1,5,11,12,13])],outs:=[(5,[4,5])] }
def keptF_C: SC:=[⟨84,_,cK⟩,⟨121,_,afs⟩]
def r_ (aI: (List Fd)) (aR aF: Int) (a7 ck: (List Fd)) (kR5: (List Fd)→Int→Int→(List Fd)→(List Fd)→OR') (cR: (List Fd)→(List Fd)→OR'): OR':=
 (bif (decide (aF < aR)) then (bif (decide (0≤aF)) then (bif (decide (aF < (aI.length: Int))) then (bif ((smF a7)&&(isM (List.getD aI (Int.toNat aF) (([]: aa),([]: aa))).1)) then (bif (!(decide (0≤(Oc (List.getD aI (Int.toNat aF) (([]: aa),([]: aa))).1 a7 0)))) then (bif (decide (((ck.length + (List.length (List.set (List.replicate 1 (([]: aa),([]: aa))) 0 ((List.getD aI (Int.toNat aF) (([]: aa),([]: aa))).1,(List.getD aI (Int.toNat aF) (([]: aa),([]: aa))).2)))) * 32)≤140737488355328)) then (kR5 aI aR (ai (aF + 1)) a7 (ck++(List.set (List.replicate 1 (([]: aa),([]: aa))) 0 ((List.getD aI (Int.toNat aF) (([]: aa),([]: aa))).1,(List.getD aI (Int.toNat aF) (([]: aa),([]: aa))).2)))) else none) else (kR5 aI aR (ai (aF + 1)) a7 ck)) else none) else none) else none) else (cR a7 ck))
def lk: Nat→(List Fd)→Int→Int→(List Fd)→(List Fd)→((List Fd)→(List Fd)→OR')→OR'
 | 0,_,_,_,_,_,_=>none
 | n + 1,aI,aR,aF,a7,ck,cR=>r_ aI aR aF a7 ck (fun aI aR aF a7 ck=>lk n aI aR aF a7 ck cR) cR
abbrev keptF_p5: SP:=⟨27,[1,5,11,12,13],[(.v (.fn 121 [(0,0)])),(.v (.ref 384 0)),(.v (.sh (Ty.pair Ty.str Ty.str))),(.v (.i .i64)),(.v (.i .i64))],[(0, .var [(.ref 1 0)]),(1, .arr (Ty.pair Ty.str Ty.str) 0 false),(384, .arr (Ty.pair Ty.str Ty.str) 0 false)]⟩
noncomputable def K8: Code:=aD (aG Tryz.f120) [1,1,1,0,1,0,0]
def K9 (f: ((List Fd)→(List Fd)→OR')→OR') (k: KT): OR':=f (fun ap a_=>k (Ex.exit 0) ((St.mk (aH 0 27 [(5,(AV.ref 384 0))]) ((0,(Ob.var [.ref 1 0]))::((1,(Ob.arr (Ty.pair Ty.str Ty.str) 0 false ap))::((384,(Ob.arr (Ty.pair Ty.str Ty.str) 0 false a_))::([]: (List (Nat×(Ob))))))))))
def K_ (n: Nat) (d: keptF_p5.D): KT→OR':=K9 (lk n d.1.2.2.1 d.1.2.2.2.1 d.1.2.2.2.2.1 d.2.2.1 d.2.2.2.1)
def Ue (N: Nat): Lam:=bw [⟨5,keptF_p5,K_ N⟩]
theorem Uf (N: Nat): OkL Kx keptF_C.s Ud 2 N (Ue N) K8:=okL keptF_p5 (K_) (fun d kR=>K9 (r_ d.1.2.2.1 d.1.2.2.2.1 d.1.2.2.2.2.1 d.2.2.1 d.2.2.2.1 (fun aI aR aF a7 ck=>kR (((),(),aI,aR,aF,()),(((),()),a7,ck,()))))) (fun _ _=>by kernel_rfl) (fun _ _ _=>by kernel_rfl) (fun _ _=>by kernel_rfl) (fun _ _ _ _=>by kernel_rfl) (am (l':=[]) (by kernel_rfl) trivial)
def ED (N: Nat) (l news: List Fd): OR':=(bif (!(bd l)) then (some ((AV.ref (List.length [Ob.var [.ref 1 0],.arr (Ty.pair Ty.str Ty.str) 0 false news]) 0),[.var [.ref 1 0],.arr (Ty.pair Ty.str Ty.str) 0 false news,.arr (Ty.pair Ty.str Ty.str) 0 false ([]: (List Fd))])) else (lk N l (l.length: Int) 0 news ([]: (List Fd)) (fun ap a_=>(some ((AV.ref 2 0),[.var [.ref 1 0],.arr (Ty.pair Ty.str Ty.str) 0 false ap,.arr (Ty.pair Ty.str Ty.str) 0 false a_])))))
def EE (φ: (List Fd)→(List Fd)→Br): List AV→List Ob→Br
 | [.sh (.pair .str .str) l, .fn 121 [.ptr 0 0]],[.var [.ref 1 0], .arr (.pair .str .str) 0 false news]=>φ l news
 | _,_=> .fail
theorem NX {φ: (List Fd)→(List Fd)→Br} (fu: (List Fd)→(List Fd)→Nat) (hv: ∀ l news res_,(φ l news).val=some res_→ED (fu l news) l news=some res_): Sound Kx 120 (EE φ):=ar (C:=keptF_C) (O:=Ud) Tryz.func120 (by kernel_rfl) fun args objs=>by
 unfold EE;split
 · rename_i l news;exact .inr fun _ hyp_=>aS (Λ:=Ue (fu l news)) (by kernel_rfl) (am (l':=[K8]) (by kernel_rfl) ⟨Uf _,trivial⟩) (by kernel_rfl) (hv l news _ hyp_)
 · exact .inl rfl
def gf (l news: List Fd): List Fd:=l.filter fun f=> !T_ news f.1
theorem NY (l: List Fd) (hl: l.length≤20) (news: List Fd) (hh: smF news=true) (k: List Fd→List Fd→OR'): ∀ (r: List Fd) (i: Int) (n: Nat) (out: List Fd),At l i r→r.length < n→(∀ f ∈ r,jW f=true)→out.length + r.length≤20→
 lk n l (l.length: Int) i news out k=k news (out++gf r news):=by
 intro r;induction r with
 | nil=>intro i n out h hn hf ho;obtain ⟨n,rfl⟩:=bF hn;unfold lk r_;rw [h.dge,cond_false];simp [gf]
 | cons f r ih=>
   intro i n out h hn hf ho;obtain ⟨n,rfl⟩:=bF hn
   simp only [List.length_cons] at hn ho
   have hm1:=(fG (hf f (List.mem_cons_self ..))).1
   have hr:=fun x hx=>hf x (List.mem_cons_of_mem _ hx)
   unfold lk r_
   simp only [h.dlt,h.dnn,h.get,h.next (by omega),hm1,hh,cond_true,Bool.and_self,K7 _ _ 0 (Int.le_refl 0)]
   unfold gf at ih ⊢
   rw [List.filter_cons]
   cases T_ news f.1
   · simp only [Bool.not_false,cond_true,if_true]
     rw [apF out _ (by omega),cond_true,ih (i + 1) n _ h.step (by omega) hr (by rw [List.length_append,List.length_set,List.length_replicate];omega)]
     simp
   · simp only [Bool.not_true,cond_false]
     exact ih (i + 1) n _ h.step (by omega) hr (by omega)
def aft: List AV→List Ob→Br
 | [.sh (.pair .str .str) l, .fn 121 [.ptr 0 0]],[.var [.ref 1 0], .arr (.pair .str .str) 0 false news]=> .ite (smF news) (.ret (.ref 2 0) [.var [.ref 1 0], .arr (.pair .str .str) 0 false news, .arr (.pair .str .str) 0 false (bif bd l then gf l news else [])]) .fail
 | _,_=> .fail
theorem Ug: Sound Kx 120 aft:=by
 refine (NX (φ:=fun l news=> .ite (smF news) (.ret (.ref 2 0) [.var [.ref 1 0], .arr (.pair .str .str) 0 false news, .arr (.pair .str .str) 0 false (bif bd l then gf l news else [])]) .fail) (fun l _=>l.length + 1) fun l news r h=>?_).of fun args objs r h=>?_
 · obtain ⟨h1,h2⟩:=al h
   cases h2
   unfold ED
   cases hf: bd l
   · rfl
   · obtain ⟨g1,g2⟩:=b_ hf
     exact NY l g1 news h1 _ l 0 _ [] (At.start l) (by omega) g2 (by rw [List.length_nil];omega)
 · unfold aft at h;split at h
   · exact h
   · cases h
def aag: Opt:={ live:=[(5,[2,3,4,8,10,30,31,32])],outs:=[(5,[2,3,4,8,9,10])] }
def iFre_C: SC:=[⟨49,_,fN⟩,⟨101,_,wW⟩,⟨116,_,Yo⟩,⟨118,_,iF⟩,⟨117,_,Ql⟩,⟨119,_,acK⟩,⟨120,_,Ug⟩]
def z_ (aI aR aF a7: Int) (ck: aa) (eg eh: Int) (cZ: (List Fd)) (fe gJ: aa) (cC: Int) (cD: aa) (cE: Bool) (dp: (List Fd)) (dq dr: aa) (dt du: Int) (dv cv: aa) (cS: Int) (da: aa) (dw: Bool) (dx: aa) (dy dz cX dN: (List Fd)) (kR5: Int→Int→Int→Int→aa→Int→Int→(List Fd)→aa→aa→Int→aa→Bool→(List Fd)→aa→aa→Int→Int→aa→aa→Int→aa→Bool→aa→(List Fd)→(List Fd)→(List Fd)→(List Fd)→OR') (cR: Int→Int→aa→Int→Int→(List Fd)→aa→aa→Int→aa→Bool→(List Fd)→aa→aa→Int→Int→aa→aa→Int→aa→Bool→aa→(List Fd)→(List Fd)→(List Fd)→OR'): OR':=
 (bif (decide (a7 < aF)) then (bif (decide (0≤a7)) then (bif (decide (a7 < (dN.length: Int))) then (bif (isM (List.getD dN (Int.toNat a7) (([]: aa),([]: aa))).1) then (bif (decide (8≤((List.length (ay (List.getD dN (Int.toNat a7) (([]: aa),([]: aa))).1)): Int))) then (bif (decide (8≤((List.length (ay (List.getD dN (Int.toNat a7) (([]: aa),([]: aa))).1)): Int))) then (bif (!(decide ((cut (ay (List.getD dN (Int.toNat a7) (([]: aa),([]: aa))).1) 0 8)=([99,111,110,116,101,110,116,45]: aa)))) then (bif (decide (((cX.length + (List.length (List.set (List.replicate 1 (([]: aa),([]: aa))) 0 ((List.getD dN (Int.toNat a7) (([]: aa),([]: aa))).1,(List.getD dN (Int.toNat a7) (([]: aa),([]: aa))).2)))) * 32)≤140737488355328)) then (kR5 aI aR aF (ai (a7 + 1)) ck eg eh cZ fe gJ cC cD cE dp dq dr dt du dv cv cS da dw dx dy dz (cX++(List.set (List.replicate 1 (([]: aa),([]: aa))) 0 ((List.getD dN (Int.toNat a7) (([]: aa),([]: aa))).1,(List.getD dN (Int.toNat a7) (([]: aa),([]: aa))).2))) dN) else none) else (kR5 aI aR aF (ai (a7 + 1)) ck eg eh cZ fe gJ cC cD cE dp dq dr dt du dv cv cS da dw dx dy dz cX dN)) else none) else (bif (decide (((cX.length + (List.length (List.set (List.replicate 1 (([]: aa),([]: aa))) 0 ((List.getD dN (Int.toNat a7) (([]: aa),([]: aa))).1,(List.getD dN (Int.toNat a7) (([]: aa),([]: aa))).2)))) * 32)≤140737488355328)) then (kR5 aI aR aF (ai (a7 + 1)) ck eg eh cZ fe gJ cC cD cE dp dq dr dt du dv cv cS da dw dx dy dz (cX++(List.set (List.replicate 1 (([]: aa),([]: aa))) 0 ((List.getD dN (Int.toNat a7) (([]: aa),([]: aa))).1,(List.getD dN (Int.toNat a7) (([]: aa),([]: aa))).2))) dN) else none)) else none) else none) else none) else (cR aI aR ck eg eh cZ fe gJ cC cD cE dp dq dr dt du dv cv cS da dw dx dy dz cX))
def pi: Nat→Int→Int→Int→Int→aa→Int→Int→(List Fd)→aa→aa→Int→aa→Bool→(List Fd)→aa→aa→Int→Int→aa→aa→Int→aa→Bool→aa→(List Fd)→(List Fd)→(List Fd)→(List Fd)→(Int→Int→aa→Int→Int→(List Fd)→aa→aa→Int→aa→Bool→(List Fd)→aa→aa→Int→Int→aa→aa→Int→aa→Bool→aa→(List Fd)→(List Fd)→(List Fd)→OR')→OR'
 | 0,_,_,_,_,_,_,_,_,_,_,_,_,_,_,_,_,_,_,_,_,_,_,_,_,_,_,_,_,_=>none
 | n + 1,aI,aR,aF,a7,ck,eg,eh,cZ,fe,gJ,cC,cD,cE,dp,dq,dr,dt,du,dv,cv,cS,da,dw,dx,dy,dz,cX,dN,cR=>z_ aI aR aF a7 ck eg eh cZ fe gJ cC cD cE dp dq dr dt du dv cv cS da dw dx dy dz cX dN (fun aI aR aF a7 ck eg eh cZ fe gJ cC cD cE dp dq dr dt du dv cv cS da dw dx dy dz cX dN=>pi n aI aR aF a7 ck eg eh cZ fe gJ cC cD cE dp dq dr dt du dv cv cS da dw dx dy dz cX dN cR) cR
abbrev iFre_p5: SP:=⟨66,[2,3,4,8,10,30,31,32],[(.v (.i .i64)),(.v (.i .i64)),(.v (.ptr 320 0)),(.v (.ptr 576 0)),(.v (.ptr 704 0)),(.v (.ref 1984 0)),(.v (.i .i64)),(.v (.i .i64))],[(320, .var [.s,(.i .i64),(.i .i64),(.sh (Ty.pair Ty.str Ty.str)), .s, .s,(.i .i64), .s, .b,(.sh (Ty.pair Ty.str Ty.str)), .s]),(576, .var [.s,(.i .i64),(.i .i64),(.ref 580 0), .s, .s,(.i .i64), .s, .b,(.ref 586 0), .s]),(580, .arr (Ty.pair Ty.str Ty.str) 0 false),(586, .arr (Ty.pair Ty.str Ty.str) 0 false),(704, .var [(.ref 705 0)]),(705, .arr (Ty.pair Ty.str Ty.str) 0 false),(1984, .arr (Ty.pair Ty.str Ty.str) 0 false)]⟩
noncomputable def Uh: Code:=aD (aG Tryz.f43) [1,1,1,0,1,0,0]
def Ui (f: (Int→Int→aa→Int→Int→(List Fd)→aa→aa→Int→aa→Bool→(List Fd)→aa→aa→Int→Int→aa→aa→Int→aa→Bool→aa→(List Fd)→(List Fd)→(List Fd)→OR')→OR') (k: KT): OR':=f (fun ap a_ cg eI ei cV dS bb gK gL ey c_ ez jK jL jM jN jO aj aw aE fx fy cT db=>k (Ex.exit 0) ((St.mk (aH 0 66 [(2,(AV.int .i64 ap)),(3,(AV.int .i64 a_)),(4,(AV.ptr 320 0)),(8,(AV.ptr 576 0)),(10,(AV.ptr 704 0))]) ((320,(Ob.var [.str cg,.int .i64 eI,.int .i64 ei,.sh (Ty.pair Ty.str Ty.str) cV,.str dS,.str bb,.int .i64 gK,.str gL,.bool ey,.sh (Ty.pair Ty.str Ty.str) c_,.str ez]))::((576,(Ob.var [.str jK,.int .i64 jL,.int .i64 jM,.ref 580 0,.str jN,.str jO,.int .i64 aj,.str aw,.bool aE,.ref 586 0,.str fx]))::((580,(Ob.arr (Ty.pair Ty.str Ty.str) 0 false fy))::((586,(Ob.arr (Ty.pair Ty.str Ty.str) 0 false cT))::((704,(Ob.var [.ref 705 0]))::((705,(Ob.arr (Ty.pair Ty.str Ty.str) 0 false db))::([]: (List (Nat×(Ob)))))))))))))
def Uj (n: Nat) (d: iFre_p5.D): KT→OR':=Ui (pi n d.1.1 d.1.2.1 d.1.2.2.2.2.2.2.1 d.1.2.2.2.2.2.2.2.1 d.2.1.1 d.2.1.2.1 d.2.1.2.2.1 d.2.1.2.2.2.1 d.2.1.2.2.2.2.1 d.2.1.2.2.2.2.2.1 d.2.1.2.2.2.2.2.2.1 d.2.1.2.2.2.2.2.2.2.1 d.2.1.2.2.2.2.2.2.2.2.1 d.2.1.2.2.2.2.2.2.2.2.2.1 d.2.1.2.2.2.2.2.2.2.2.2.2.1 d.2.2.1.1 d.2.2.1.2.1 d.2.2.1.2.2.1 d.2.2.1.2.2.2.2.1 d.2.2.1.2.2.2.2.2.1 d.2.2.1.2.2.2.2.2.2.1 d.2.2.1.2.2.2.2.2.2.2.1 d.2.2.1.2.2.2.2.2.2.2.2.1 d.2.2.1.2.2.2.2.2.2.2.2.2.2.1 d.2.2.2.1 d.2.2.2.2.1 d.2.2.2.2.2.2.1 d.2.2.2.2.2.2.2.1)
def aah (N: Nat): Lam:=bw [⟨5,iFre_p5,Uj N⟩]
theorem Yq (N: Nat): OkL Kx iFre_C.s aag 0 N (aah N) Uh:=okL iFre_p5 (Uj) (fun d kR=>Ui (z_ d.1.1 d.1.2.1 d.1.2.2.2.2.2.2.1 d.1.2.2.2.2.2.2.2.1 d.2.1.1 d.2.1.2.1 d.2.1.2.2.1 d.2.1.2.2.2.1 d.2.1.2.2.2.2.1 d.2.1.2.2.2.2.2.1 d.2.1.2.2.2.2.2.2.1 d.2.1.2.2.2.2.2.2.2.1 d.2.1.2.2.2.2.2.2.2.2.1 d.2.1.2.2.2.2.2.2.2.2.2.1 d.2.1.2.2.2.2.2.2.2.2.2.2.1 d.2.2.1.1 d.2.2.1.2.1 d.2.2.1.2.2.1 d.2.2.1.2.2.2.2.1 d.2.2.1.2.2.2.2.2.1 d.2.2.1.2.2.2.2.2.2.1 d.2.2.1.2.2.2.2.2.2.2.1 d.2.2.1.2.2.2.2.2.2.2.2.1 d.2.2.1.2.2.2.2.2.2.2.2.2.2.1 d.2.2.2.1 d.2.2.2.2.1 d.2.2.2.2.2.2.1 d.2.2.2.2.2.2.2.1 (fun aI aR aF a7 ck eg eh cZ fe gJ cC cD cE dp dq dr dt du dv cv cS da dw dx dy dz cX dN=>kR ((aI,aR,(),(),(),(),aF,a7,()),((ck,eg,eh,cZ,fe,gJ,cC,cD,cE,dp,dq,()),(dr,dt,du,(),dv,cv,cS,da,dw,(),dx,()),dy,dz,((),()),cX,dN,()))))) (fun _ _=>by kernel_rfl) (fun _ _ _=>by kernel_rfl) (fun _ _=>by kernel_rfl) (fun _ _ _ _=>by kernel_rfl) (am (l':=[]) (by kernel_rfl) trivial)
def La (N: Nat) (ur: aa) (t1 t2: Int) (ak: List Fd) (me ta: aa) (st: Int) (re: aa) (ba: Bool) (fs: List Fd) (bo: aa) (me2 ta2: aa) (st2: Int) (re2: aa) (ba2: Bool) (fs2: List Fd) (bo2: aa) (n1 n2: Int): OR':=(bif (isM ur) then (bif (!(lz (ur,(t1,(t2,(ak,(me,(ta,(st,(re,(ba,(fs,bo)))))))))))) then (some ((AV.tup [.agg [.str ([]: aa),.int .i64 0,.int .i64 0,.ref 0 0,.str ([]: aa),.str ([]: aa),.int .i64 0,.str ([]: aa),.bool false,.ref 1 0,.str ([]: aa)],.bool false]),[.arr (Ty.pair Ty.str Ty.str) 0 false ([]: (List Fd)),.arr (Ty.pair Ty.str Ty.str) 0 false ([]: (List Fd))])) else (bif (!(eF me2 ta2 st2 re2 ba2 fs2 bo2)) then (some ((AV.tup [.agg [.str ([]: aa),.int .i64 0,.int .i64 0,.ref 0 0,.str ([]: aa),.str ([]: aa),.int .i64 0,.str ([]: aa),.bool false,.ref 1 0,.str ([]: aa)],.bool false]),[.arr (Ty.pair Ty.str Ty.str) 0 false ([]: (List Fd)),.arr (Ty.pair Ty.str Ty.str) 0 false ([]: (List Fd))])) else (bif (!(decide (st2=304))) then (some ((AV.tup [.agg [.str ([]: aa),.int .i64 0,.int .i64 0,.ref 0 0,.str ([]: aa),.str ([]: aa),.int .i64 0,.str ([]: aa),.bool false,.ref 1 0,.str ([]: aa)],.bool false]),[.arr (Ty.pair Ty.str Ty.str) 0 false ([]: (List Fd)),.arr (Ty.pair Ty.str Ty.str) 0 false ([]: (List Fd))])) else (pi N n1 n2 ((List.length (j7 fs2)): Int) 0 ur t1 t2 ak me ta st re ba fs bo ([]: aa) 0 0 ([]: aa) ([]: aa) 0 ([]: aa) false ([]: aa) ([]: (List Fd)) ([]: (List Fd)) ([]: (List Fd)) (j7 fs2) (fun ap a_ cg eI ei cV dS bb gK gL ey c_ ez jK jL jM jN jO aj aw aE fx fy cT db=>(bif (decide (cV.length≤1000000)) then (bif (decide (c_.length≤1000000)) then (bif (smF db) then (bif (decide ((((List.length (bif (bd c_) then (gf c_ db) else ([]: (List Fd)))) + db.length) * 32)≤140737488355328)) then (bif (isM cg) then (bif (!(lz (cg,(ap,(a_,(cV,(dS,(bb,(gK,(gL,(ey,(((bif (bd c_) then (gf c_ db) else ([]: (List Fd)))++db),ez)))))))))))) then (some ((AV.tup [.agg [.str ([]: aa),.int .i64 0,.int .i64 0,.ref 0 0,.str ([]: aa),.str ([]: aa),.int .i64 0,.str ([]: aa),.bool false,.ref 1 0,.str ([]: aa)],.bool false]),[.arr (Ty.pair Ty.str Ty.str) 0 false ([]: (List Fd)),.arr (Ty.pair Ty.str Ty.str) 0 false ([]: (List Fd))])) else (some ((AV.tup [.agg [.str cg,.int .i64 ap,.int .i64 a_,.ref 0 0,.str dS,.str bb,.int .i64 gK,.str gL,.bool ey,.ref 1 0,.str ez],.bool true]),[.arr (Ty.pair Ty.str Ty.str) 0 false cV,.arr (Ty.pair Ty.str Ty.str) 0 false ((bif (bd c_) then (gf c_ db) else ([]: (List Fd)))++db)]))) else none) else none) else none) else none) else none)))))) else none)
def Lb (φ: aa→Int→Int→(List Fd)→aa→aa→Int→aa→Bool→(List Fd)→aa→aa→aa→Int→aa→Bool→(List Fd)→aa→Int→Int→Br): List AV→List Ob→Br
 | [.agg [.str ur, .int .i64 t1, .int .i64 t2, .sh (.pair .str .str) ak, .str me, .str ta, .int .i64 st, .str re, .bool ba, .sh (.pair .str .str) fs, .str bo], .agg [.str me2, .str ta2, .int .i64 st2, .str re2, .bool ba2, .sh (.pair .str .str) fs2, .str bo2], .int .i64 n1, .int .i64 n2],[]=>φ ur t1 t2 ak me ta st re ba fs bo me2 ta2 st2 re2 ba2 fs2 bo2 n1 n2
 | _,_=> .fail
theorem Uk {φ: aa→Int→Int→(List Fd)→aa→aa→Int→aa→Bool→(List Fd)→aa→aa→aa→Int→aa→Bool→(List Fd)→aa→Int→Int→Br} (fu: aa→Int→Int→(List Fd)→aa→aa→Int→aa→Bool→(List Fd)→aa→aa→aa→Int→aa→Bool→(List Fd)→aa→Int→Int→Nat) (hv: ∀ ur t1 t2 ak me ta st re ba fs bo me2 ta2 st2 re2 ba2 fs2 bo2 n1 n2 res_,(φ ur t1 t2 ak me ta st re ba fs bo me2 ta2 st2 re2 ba2 fs2 bo2 n1 n2).val=some res_→La (fu ur t1 t2 ak me ta st re ba fs bo me2 ta2 st2 re2 ba2 fs2 bo2 n1 n2) ur t1 t2 ak me ta st re ba fs bo me2 ta2 st2 re2 ba2 fs2 bo2 n1 n2=some res_): Sound Kx 43 (Lb φ):=ar (C:=iFre_C) (O:=aag) Tryz.func43 (by kernel_rfl) fun args objs=>by
 unfold Lb;split
 · rename_i ur t1 t2 ak me ta st re ba fs bo me2 ta2 st2 re2 ba2 fs2 bo2 n1 n2;exact .inr fun _ hyp_=>aS (Λ:=aah (fu ur t1 t2 ak me ta st re ba fs bo me2 ta2 st2 re2 ba2 fs2 bo2 n1 n2)) (by kernel_rfl) (am (l':=[Uh]) (by kernel_rfl) ⟨Yq _,trivial⟩) (by kernel_rfl) (hv ur t1 t2 ak me ta st re ba fs bo me2 ta2 st2 re2 ba2 fs2 bo2 n1 n2 _ hyp_)
 · exact .inl rfl
def aai: Opt:={ live:=[(7,[2,3,4,8,10,11,12,13])],outs:=[(7,[2,3,4,8,9,10,11])] }
def sFre_C: SC:=[⟨36,_,DV⟩,⟨41,_,wY⟩,⟨45,_,K6⟩,⟨125,_,T9⟩,⟨126,_,EC⟩]
def Aa (ca dI cU: Int) (bN: aa) (eq YH: Int) (YI: (List Fd)) (YJ YK: aa) (YL: Int) (Au: aa) (Av: Bool) (Aw: (List Fd)) (Ax Ay: aa) (Az AA: Int) (AB AC: aa) (AD: Int) (AE: aa) (AF: Bool) (AG: aa) (AH AI AJ vM jd: (List Fd)) (kR7: Int→Int→Int→aa→Int→Int→(List Fd)→aa→aa→Int→aa→Bool→(List Fd)→aa→aa→Int→Int→aa→aa→Int→aa→Bool→aa→(List Fd)→(List Fd)→(List Fd)→(List Fd)→(List Fd)→OR') (vK: Int→Int→aa→Int→Int→(List Fd)→aa→aa→Int→aa→Bool→(List Fd)→aa→aa→Int→Int→aa→aa→Int→aa→Bool→aa→(List Fd)→(List Fd)→(List Fd)→(List Fd)→OR'): OR':=
 (bif (decide (cU < (jd.length: Int))) then (bif (decide (0≤cU)) then (bif (decide (cU < (jd.length: Int))) then (bif (isM (List.getD jd (Int.toNat cU) (([]: aa),([]: aa))).1) then (bif (!(ph (List.getD jd (Int.toNat cU) (([]: aa),([]: aa))).1)) then (bif (decide (0≤cU)) then (bif (decide (cU < (jd.length: Int))) then (bif (decide (((vM.length + (List.length (List.set (List.replicate 1 (([]: aa),([]: aa))) 0 ((List.getD jd (Int.toNat cU) (([]: aa),([]: aa))).1,(List.getD jd (Int.toNat cU) (([]: aa),([]: aa))).2)))) * 32)≤140737488355328)) then (bif (decide (0≤cU)) then (bif (decide (cU < (jd.length: Int))) then (bif (isM (List.getD jd (Int.toNat cU) (([]: aa),([]: aa))).1) then (kR7 ca dI (ai (cU + 1)) bN eq YH YI YJ YK YL Au Av Aw Ax Ay Az AA AB AC AD AE AF AG AH AI (vI AJ (List.getD jd (Int.toNat cU) (([]: aa),([]: aa))).1) (vM++(List.set (List.replicate 1 (([]: aa),([]: aa))) 0 ((List.getD jd (Int.toNat cU) (([]: aa),([]: aa))).1,(List.getD jd (Int.toNat cU) (([]: aa),([]: aa))).2))) jd) else none) else none) else none) else none) else none) else none) else (kR7 ca dI (ai (cU + 1)) bN eq YH YI YJ YK YL Au Av Aw Ax Ay Az AA AB AC AD AE AF AG AH AI AJ vM jd)) else none) else none) else none) else (vK ca dI bN eq YH YI YJ YK YL Au Av Aw Ax Ay Az AA AB AC AD AE AF AG AH AI AJ vM))
def pj: Nat→Int→Int→Int→aa→Int→Int→(List Fd)→aa→aa→Int→aa→Bool→(List Fd)→aa→aa→Int→Int→aa→aa→Int→aa→Bool→aa→(List Fd)→(List Fd)→(List Fd)→(List Fd)→(List Fd)→(Int→Int→aa→Int→Int→(List Fd)→aa→aa→Int→aa→Bool→(List Fd)→aa→aa→Int→Int→aa→aa→Int→aa→Bool→aa→(List Fd)→(List Fd)→(List Fd)→(List Fd)→OR')→OR'
 | 0,_,_,_,_,_,_,_,_,_,_,_,_,_,_,_,_,_,_,_,_,_,_,_,_,_,_,_,_,_=>none
 | n + 1,ca,dI,cU,bN,eq,YH,YI,YJ,YK,YL,Au,Av,Aw,Ax,Ay,Az,AA,AB,AC,AD,AE,AF,AG,AH,AI,AJ,vM,jd,vK=>Aa ca dI cU bN eq YH YI YJ YK YL Au Av Aw Ax Ay Az AA AB AC AD AE AF AG AH AI AJ vM jd (fun ca dI cU bN eq YH YI YJ YK YL Au Av Aw Ax Ay Az AA AB AC AD AE AF AG AH AI AJ vM jd=>pj n ca dI cU bN eq YH YI YJ YK YL Au Av Aw Ax Ay Az AA AB AC AD AE AF AG AH AI AJ vM jd vK) vK
abbrev sFre_p7: SP:=⟨84,[2,3,4,8,10,11,12,13],[(.v (.i .i64)),(.v (.i .i64)),(.v (.ptr 320 0)),(.v (.ptr 576 0)),(.v (.ref 704 0)),(.v (.ref 768 0)),(.v (.ref 832 0)),(.v (.i .i64))],[(320, .var [.s,(.i .i64),(.i .i64),(.sh (Ty.pair Ty.str Ty.str)), .s, .s,(.i .i64), .s, .b,(.sh (Ty.pair Ty.str Ty.str)), .s]),(576, .var [.s,(.i .i64),(.i .i64),(.ref 580 0), .s, .s,(.i .i64), .s, .b,(.ref 586 0), .s]),(580, .arr (Ty.pair Ty.str Ty.str) 0 false),(586, .arr (Ty.pair Ty.str Ty.str) 0 false),(704, .arr (Ty.pair Ty.str Ty.str) 0 false),(768, .arr (Ty.pair Ty.str Ty.str) 0 false),(832, .arr (Ty.pair Ty.str Ty.str) 0 false)]⟩
noncomputable def Ul: Code:=aD (aG Tryz.f44) [1,1,1,1,1,0,1,0,0]
def Um (f: (Int→Int→aa→Int→Int→(List Fd)→aa→aa→Int→aa→Bool→(List Fd)→aa→aa→Int→Int→aa→aa→Int→aa→Bool→aa→(List Fd)→(List Fd)→(List Fd)→(List Fd)→OR')→OR') (k: KT): OR':=f (fun dR fP f5 vc qQ EO Ls Lt Lu Lv AK U7 AL U8 U9 U_ Va Vb Vc Vd Ve Vf Vg Vh vk vl=>k (Ex.exit 0) ((St.mk (aH 0 84 [(2,(AV.int .i64 dR)),(3,(AV.int .i64 fP)),(4,(AV.ptr 320 0)),(8,(AV.ptr 576 0)),(10,(AV.ref 704 0)),(11,(AV.ref 768 0))]) ((320,(Ob.var [.str f5,.int .i64 vc,.int .i64 qQ,.sh (Ty.pair Ty.str Ty.str) EO,.str Ls,.str Lt,.int .i64 Lu,.str Lv,.bool AK,.sh (Ty.pair Ty.str Ty.str) U7,.str AL]))::((576,(Ob.var [.str U8,.int .i64 U9,.int .i64 U_,.ref 580 0,.str Va,.str Vb,.int .i64 Vc,.str Vd,.bool Ve,.ref 586 0,.str Vf]))::((580,(Ob.arr (Ty.pair Ty.str Ty.str) 0 false Vg))::((586,(Ob.arr (Ty.pair Ty.str Ty.str) 0 false Vh))::((704,(Ob.arr (Ty.pair Ty.str Ty.str) 0 false vk))::((768,(Ob.arr (Ty.pair Ty.str Ty.str) 0 false vl))::([]: (List (Nat×(Ob)))))))))))))
def Un (n: Nat) (d: sFre_p7.D): KT→OR':=Um (pj n d.1.1 d.1.2.1 d.1.2.2.2.2.2.2.2.1 d.2.1.1 d.2.1.2.1 d.2.1.2.2.1 d.2.1.2.2.2.1 d.2.1.2.2.2.2.1 d.2.1.2.2.2.2.2.1 d.2.1.2.2.2.2.2.2.1 d.2.1.2.2.2.2.2.2.2.1 d.2.1.2.2.2.2.2.2.2.2.1 d.2.1.2.2.2.2.2.2.2.2.2.1 d.2.1.2.2.2.2.2.2.2.2.2.2.1 d.2.2.1.1 d.2.2.1.2.1 d.2.2.1.2.2.1 d.2.2.1.2.2.2.2.1 d.2.2.1.2.2.2.2.2.1 d.2.2.1.2.2.2.2.2.2.1 d.2.2.1.2.2.2.2.2.2.2.1 d.2.2.1.2.2.2.2.2.2.2.2.1 d.2.2.1.2.2.2.2.2.2.2.2.2.2.1 d.2.2.2.1 d.2.2.2.2.1 d.2.2.2.2.2.1 d.2.2.2.2.2.2.1 d.2.2.2.2.2.2.2.1)
def aaj (N: Nat): Lam:=bw [⟨7,sFre_p7,Un N⟩]
theorem Yr (N: Nat): OkL Kx sFre_C.s aai 0 N (aaj N) Ul:=okL sFre_p7 (Un) (fun d kR=>Um (Aa d.1.1 d.1.2.1 d.1.2.2.2.2.2.2.2.1 d.2.1.1 d.2.1.2.1 d.2.1.2.2.1 d.2.1.2.2.2.1 d.2.1.2.2.2.2.1 d.2.1.2.2.2.2.2.1 d.2.1.2.2.2.2.2.2.1 d.2.1.2.2.2.2.2.2.2.1 d.2.1.2.2.2.2.2.2.2.2.1 d.2.1.2.2.2.2.2.2.2.2.2.1 d.2.1.2.2.2.2.2.2.2.2.2.2.1 d.2.2.1.1 d.2.2.1.2.1 d.2.2.1.2.2.1 d.2.2.1.2.2.2.2.1 d.2.2.1.2.2.2.2.2.1 d.2.2.1.2.2.2.2.2.2.1 d.2.2.1.2.2.2.2.2.2.2.1 d.2.2.1.2.2.2.2.2.2.2.2.1 d.2.2.1.2.2.2.2.2.2.2.2.2.2.1 d.2.2.2.1 d.2.2.2.2.1 d.2.2.2.2.2.1 d.2.2.2.2.2.2.1 d.2.2.2.2.2.2.2.1 (fun ca dI cU bN eq YH YI YJ YK YL Au Av Aw Ax Ay Az AA AB AC AD AE AF AG AH AI AJ vM jd=>kR ((ca,dI,(),(),(),(),(),cU,()),((bN,eq,YH,YI,YJ,YK,YL,Au,Av,Aw,Ax,()),(Ay,Az,AA,(),AB,AC,AD,AE,AF,(),AG,()),AH,AI,AJ,vM,jd,()))))) (fun _ _=>by kernel_rfl) (fun _ _ _=>by kernel_rfl) (fun _ _=>by kernel_rfl) (fun _ _ _ _=>by kernel_rfl) (am (l':=[]) (by kernel_rfl) trivial)
def Ld (N: Nat) (ur: aa) (t1 t2: Int) (ak: List Fd) (me ta: aa) (st: Int) (re: aa) (ba: Bool) (fs: List Fd) (bo: aa) (me2 ta2: aa) (st2: Int) (re2: aa) (ba2: Bool) (fs2: List Fd) (bo2: aa) (n1 n2: Int): OR':=(bif (isM ur) then (bif (!(lz (ur,(t1,(t2,(ak,(me,(ta,(st,(re,(ba,(fs,bo)))))))))))) then (some ((AV.tup [.agg [.str ([]: aa),.int .i64 0,.int .i64 0,.ref 0 0,.str ([]: aa),.str ([]: aa),.int .i64 0,.str ([]: aa),.bool false,.ref 1 0,.str ([]: aa)],.bool false]),[.arr (Ty.pair Ty.str Ty.str) 0 false ([]: (List Fd)),.arr (Ty.pair Ty.str Ty.str) 0 false ([]: (List Fd))])) else (bif (!(eF me2 ta2 st2 re2 ba2 fs2 bo2)) then (some ((AV.tup [.agg [.str ([]: aa),.int .i64 0,.int .i64 0,.ref 0 0,.str ([]: aa),.str ([]: aa),.int .i64 0,.str ([]: aa),.bool false,.ref 1 0,.str ([]: aa)],.bool false]),[.arr (Ty.pair Ty.str Ty.str) 0 false ([]: (List Fd)),.arr (Ty.pair Ty.str Ty.str) 0 false ([]: (List Fd))])) else (bif (!(decide (st2=304))) then (some ((AV.tup [.agg [.str ([]: aa),.int .i64 0,.int .i64 0,.ref 0 0,.str ([]: aa),.str ([]: aa),.int .i64 0,.str ([]: aa),.bool false,.ref 1 0,.str ([]: aa)],.bool false]),[.arr (Ty.pair Ty.str Ty.str) 0 false ([]: (List Fd)),.arr (Ty.pair Ty.str Ty.str) 0 false ([]: (List Fd))])) else (bif (decide (((0 + fs.length) * 32)≤140737488355328)) then (pj N n1 n2 0 ur t1 t2 ak me ta st re ba fs bo ([]: aa) 0 0 ([]: aa) ([]: aa) 0 ([]: aa) false ([]: aa) ([]: (List Fd)) ([]: (List Fd)) fs ([]: (List Fd)) (j7 fs2) (fun dR fP f5 vc qQ EO Ls Lt Lu Lv AK U7 AL U8 U9 U_ Va Vb Vc Vd Ve Vf Vg Vh vk vl=>(bif (decide (((0 + EO.length) * 32)≤140737488355328)) then (bif (decide (((vk.length + vl.length) * 32)≤140737488355328)) then (bif (isM f5) then (bif (!(lz (f5,(dR,(fP,(EO,(Ls,(Lt,(Lu,(Lv,(AK,((vk++vl),AL)))))))))))) then (some ((AV.tup [.agg [.str ([]: aa),.int .i64 0,.int .i64 0,.ref 0 0,.str ([]: aa),.str ([]: aa),.int .i64 0,.str ([]: aa),.bool false,.ref 1 0,.str ([]: aa)],.bool false]),[.arr (Ty.pair Ty.str Ty.str) 0 false ([]: (List Fd)),.arr (Ty.pair Ty.str Ty.str) 0 false ([]: (List Fd))])) else (some ((AV.tup [.agg [.str f5,.int .i64 dR,.int .i64 fP,.ref 0 0,.str Ls,.str Lt,.int .i64 Lu,.str Lv,.bool AK,.ref 1 0,.str AL],.bool true]),[.arr (Ty.pair Ty.str Ty.str) 0 false EO,.arr (Ty.pair Ty.str Ty.str) 0 false (vk++vl)]))) else none) else none) else none))) else none)))) else none)
def Le (φ: aa→Int→Int→(List Fd)→aa→aa→Int→aa→Bool→(List Fd)→aa→aa→aa→Int→aa→Bool→(List Fd)→aa→Int→Int→Br): List AV→List Ob→Br
 | [.agg [.str ur, .int .i64 t1, .int .i64 t2, .sh (.pair .str .str) ak, .str me, .str ta, .int .i64 st, .str re, .bool ba, .sh (.pair .str .str) fs, .str bo], .agg [.str me2, .str ta2, .int .i64 st2, .str re2, .bool ba2, .sh (.pair .str .str) fs2, .str bo2], .int .i64 n1, .int .i64 n2],[]=>φ ur t1 t2 ak me ta st re ba fs bo me2 ta2 st2 re2 ba2 fs2 bo2 n1 n2
 | _,_=> .fail
theorem Uo {φ: aa→Int→Int→(List Fd)→aa→aa→Int→aa→Bool→(List Fd)→aa→aa→aa→Int→aa→Bool→(List Fd)→aa→Int→Int→Br} (fu: aa→Int→Int→(List Fd)→aa→aa→Int→aa→Bool→(List Fd)→aa→aa→aa→Int→aa→Bool→(List Fd)→aa→Int→Int→Nat) (hv: ∀ ur t1 t2 ak me ta st re ba fs bo me2 ta2 st2 re2 ba2 fs2 bo2 n1 n2 res_,(φ ur t1 t2 ak me ta st re ba fs bo me2 ta2 st2 re2 ba2 fs2 bo2 n1 n2).val=some res_→Ld (fu ur t1 t2 ak me ta st re ba fs bo me2 ta2 st2 re2 ba2 fs2 bo2 n1 n2) ur t1 t2 ak me ta st re ba fs bo me2 ta2 st2 re2 ba2 fs2 bo2 n1 n2=some res_): Sound Kx 44 (Le φ):=ar (C:=sFre_C) (O:=aai) Tryz.func44 (by kernel_rfl) fun args objs=>by
 unfold Le;split
 · rename_i ur t1 t2 ak me ta st re ba fs bo me2 ta2 st2 re2 ba2 fs2 bo2 n1 n2;exact .inr fun _ hyp_=>aS (Λ:=aaj (fu ur t1 t2 ak me ta st re ba fs bo me2 ta2 st2 re2 ba2 fs2 bo2 n1 n2)) (by kernel_rfl) (am (l':=[Ul]) (by kernel_rfl) ⟨Yr _,trivial⟩) (by kernel_rfl) (hv ur t1 t2 ak me ta st re ba fs bo me2 ta2 st2 re2 ba2 fs2 bo2 n1 n2 _ hyp_)
 · exact .inl rfl
def ll (l: List Fd): List Fd:=l.filter fun f=> !ph f.1
theorem Up (v0 v1: Int) (v4: aa) (v5: Int) (v6: Int) (v7: List Fd) (v8: aa) (v9: aa) (v10: Int) (v11: aa) (v12: Bool) (v13: List Fd) (v14: aa) (v15: aa) (v16: Int) (v17: Int) (v18: aa) (v19: aa) (v20: Int) (v21: aa) (v22: Bool) (v23: aa) (v24: List Fd) (v25: List Fd) (l: List Fd) (hl: l.length≤20) (k): ∀ (r: List Fd) (i: Int) (n: Nat) (out: List Fd),At l i r→r.length < n→(∀ f ∈ r,jW f=true)→out.length + r.length≤20→
 pi n v0 v1 (l.length: Int) i v4 v5 v6 v7 v8 v9 v10 v11 v12 v13 v14 v15 v16 v17 v18 v19 v20 v21 v22 v23 v24 v25 out l k=k v0 v1 v4 v5 v6 v7 v8 v9 v10 v11 v12 v13 v14 v15 v16 v17 v18 v19 v20 v21 v22 v23 v24 v25 (out++ll r):=by
 intro r;induction r with
 | nil=>intro i n out h hn hf ho;obtain ⟨n,rfl⟩:=bF hn;unfold pi z_;rw [h.dge,cond_false];simp [ll]
 | cons f r ih=>
   intro i n out h hn hf ho;obtain ⟨n,rfl⟩:=bF hn
   simp only [List.length_cons] at hn ho
   have hm1:=(fG (hf f (List.mem_cons_self ..))).1
   have hr:=fun x hx=>hf x (List.mem_cons_of_mem _ hx)
   unfold pi z_
   simp only [h.dlt,h.dnn,h.get,h.next (by omega),hm1,cond_true]
   unfold ll at ih ⊢
   rw [List.filter_cons]
   unfold ph at ih ⊢
   cases decide (8≤((ay f.1).length: Int))
   · simp only [cond_false,Bool.false_and,Bool.not_false,if_true]
     rw [apF out _ (by omega),cond_true,ih (i + 1) n _ h.step (by omega) hr (by rw [List.length_append,List.length_set,List.length_replicate];omega)]
     simp
   · simp only [cond_true,Bool.true_and]
     cases decide (cut (ay f.1) 0 8=[99,111,110,116,101,110,116,45])
     · simp only [Bool.not_false,cond_true,if_true]
       rw [apF out _ (by omega),cond_true,ih (i + 1) n _ h.step (by omega) hr (by rw [List.length_append,List.length_set,List.length_replicate];omega)]
       simp
     · simp only [Bool.not_true,cond_false]
       exact ih (i + 1) n _ h.step (by omega) hr (by omega)
theorem Uq (v0 v1: Int) (v3: aa) (v4: Int) (v5: Int) (v6: List Fd) (v7: aa) (v8: aa) (v9: Int) (v10: aa) (v11: Bool) (v12: List Fd) (v13: aa) (v14: aa) (v15: Int) (v16: Int) (v17: aa) (v18: aa) (v19: Int) (v20: aa) (v21: Bool) (v22: aa) (v23: List Fd) (v24: List Fd) (l: List Fd) (hl: l.length≤20) (k): ∀ (r: List Fd) (i: Int) (n: Nat) (fd out: List Fd),At l i r→r.length < n→(∀ f ∈ r,jW f=true)→out.length + r.length≤20→
 pj n v0 v1 i v3 v4 v5 v6 v7 v8 v9 v10 v11 v12 v13 v14 v15 v16 v17 v18 v19 v20 v21 v22 v23 v24 fd out l k=k v0 v1 v3 v4 v5 v6 v7 v8 v9 v10 v11 v12 v13 v14 v15 v16 v17 v18 v19 v20 v21 v22 v23 v24 ((ll r).foldl (fun a f=>vI a f.1) fd) (out++ll r):=by
 intro r;induction r with
 | nil=>intro i n fd out h hn hf ho;obtain ⟨n,rfl⟩:=bF hn;unfold pj Aa;rw [h.dge,cond_false];simp [ll]
 | cons f r ih=>
   intro i n fd out h hn hf ho;obtain ⟨n,rfl⟩:=bF hn
   simp only [List.length_cons] at hn ho
   have hm1:=(fG (hf f (List.mem_cons_self ..))).1
   have hr:=fun x hx=>hf x (List.mem_cons_of_mem _ hx)
   unfold pj Aa
   simp only [h.dlt,h.dnn,h.get,h.next (by omega),hm1,cond_true]
   unfold ll at ih ⊢
   rw [List.filter_cons]
   cases ph f.1
   · simp only [Bool.not_false,cond_true,if_true]
     rw [apF out _ (by omega),cond_true,ih (i + 1) n _ _ h.step (by omega) hr (by rw [List.length_append,List.length_set,List.length_replicate];omega)]
     simp
   · simp only [Bool.not_true,cond_false]
     exact ih (i + 1) n _ _ h.step (by omega) hr (by omega)
theorem Us (l: List Fd) (f: Fd) (ns: List Fd): gf (l.filter fun g=> !ga g.1 f.1) ns=gf l (f::ns):=by
 unfold gf
 rw [List.filter_filter]
 congr 1
 funext g
 unfold T_
 rw [List.any_cons]
 unfold ga
 rw [show decide (ay f.1=ay g.1)=decide (ay g.1=ay f.1) from by rw [decide_eq_decide];exact eq_comm]
 cases decide (ay g.1=ay f.1) <;> simp
theorem EF: ∀ (ns l: List Fd),bd l=true→ns.foldl (fun a f=>vI a f.1) l=gf l ns
 | [],l,_=>(List.filter_eq_self.2 fun f _=>rfl).symm
 | f::ns,l,h=>by
   show ns.foldl (fun a f=>vI a f.1) (vI l f.1)=_
   have e: vI l f.1=l.filter fun g=> !ga g.1 f.1:=by unfold vI;rw [h];rfl
   rw [e,EF ns _ (KX h _),Us]
theorem Ab (l: List Fd): (j7 l).length≤20∧∀ f ∈ j7 l,jW f=true:=by
 unfold j7
 cases h: bd l
 · exact ⟨Nat.zero_le _,fun f hf=>by cases hf⟩
 · exact b_ (KX h _)
theorem Ut (l: List Fd): (ll (j7 l)).length≤20∧smF (ll (j7 l))=true:=by
 obtain ⟨h1,h2⟩:=Ab l
 have hl: (ll (j7 l)).length≤20:=Nat.le_trans (List.length_filter_le ..) h1
 refine ⟨hl,?_⟩
 unfold smF
 rw [Bool.and_eq_true,decide_eq_true_eq,List.all_eq_true]
 refine ⟨by omega,fun f hf=>?_⟩
 have:=fG (h2 f ((List.mem_filter.1 hf).1))
 unfold agG;rw [this.1,this.2];rfl
def Ys (e: En) (m: Mg) (n1 n2: Int): En:=(e.1,n1,n2,e.2.2.2.1,e.2.2.2.2.1,e.2.2.2.2.2.1,e.2.2.2.2.2.2.1,e.2.2.2.2.2.2.2.1,e.2.2.2.2.2.2.2.2.1,gf e.2.2.2.2.2.2.2.2.2.1 (ll (j7 m.2.2.2.2.2.1))++ll (j7 m.2.2.2.2.2.1),e.2.2.2.2.2.2.2.2.2.2)
def G7 (e: En) (m: Mg) (n1 n2: Int): Bool:=lz e&&(eF m.1 m.2.1 m.2.2.1 m.2.2.2.1 m.2.2.2.2.1 m.2.2.2.2.2.1 m.2.2.2.2.2.2&&(decide (m.2.2.1=304)&&lz (Ys e m n1 n2)))
def acQ (e: En) (m: Mg) (n1 n2: Int): En:=bif G7 e m n1 n2 then Ys e m n1 n2 else en0
def enA (e: En): AV:= .agg [.str e.1, .int .i64 e.2.1, .int .i64 e.2.2.1, .ref 0 0, .str e.2.2.2.2.1, .str e.2.2.2.2.2.1, .int .i64 e.2.2.2.2.2.2.1, .str e.2.2.2.2.2.2.2.1, .bool e.2.2.2.2.2.2.2.2.1, .ref 1 0, .str e.2.2.2.2.2.2.2.2.2.2]
def enO (e: En): List Ob:=[.arr (.pair .str .str) 0 false e.2.2.2.1, .arr (.pair .str .str) 0 false e.2.2.2.2.2.2.2.2.2.1]
def EG: List AV→List Ob→Br
 | [.agg [.str ur, .int .i64 t1, .int .i64 t2, .sh (.pair .str .str) ak, .str me, .str ta, .int .i64 st, .str re, .bool ba, .sh (.pair .str .str) fs, .str bo], .agg [.str me2, .str ta2, .int .i64 st2, .str re2, .bool ba2, .sh (.pair .str .str) fs2, .str bo2], .int .i64 n1, .int .i64 n2],[]=>
   .ite (isM ur) (.ret (.tup [enA (acQ (ur,t1,t2,ak,me,ta,st,re,ba,fs,bo) (me2,ta2,st2,re2,ba2,fs2,bo2) n1 n2), .bool (G7 (ur,t1,t2,ak,me,ta,st,re,ba,fs,bo) (me2,ta2,st2,re2,ba2,fs2,bo2) n1 n2)]) (enO (acQ (ur,t1,t2,ak,me,ta,st,re,ba,fs,bo) (me2,ta2,st2,re2,ba2,fs2,bo2) n1 n2))) .fail
 | _,_=> .fail
theorem G8 {e: En} (h: lz e=true): bd e.2.2.2.1=true∧bd e.2.2.2.2.2.2.2.2.2.1=true:=by
 unfold lz at h
 simp only [Bool.and_eq_true] at h
 obtain ⟨⟨⟨⟨_,h1⟩,h2⟩,_⟩,_⟩:=h
 obtain ⟨h3,_⟩:=Nt h2
 unfold hdG at h3
 simp only [Bool.and_eq_true] at h3
 exact ⟨h1,h3.1.2⟩
theorem Yt: Sound Kx 43 EG:=by
 refine (Uk (φ:=fun ur t1 t2 ak me ta st re ba fs bo me2 ta2 st2 re2 ba2 fs2 bo2 n1 n2=>EG [.agg [.str ur, .int .i64 t1, .int .i64 t2, .sh (.pair .str .str) ak, .str me, .str ta, .int .i64 st, .str re, .bool ba, .sh (.pair .str .str) fs, .str bo], .agg [.str me2, .str ta2, .int .i64 st2, .str re2, .bool ba2, .sh (.pair .str .str) fs2, .str bo2], .int .i64 n1, .int .i64 n2] []) (fun ur t1 t2 ak me ta st re ba fs bo me2 ta2 st2 re2 ba2 fs2 bo2 n1 n2=>(j7 fs2).length + 1) fun ur t1 t2 ak me ta st re ba fs bo me2 ta2 st2 re2 ba2 fs2 bo2 n1 n2 r h=>?_).of fun args objs r h=>?_
 · unfold EG at h;obtain ⟨h1,h2⟩:=al h
   cases h2
   unfold La
   rw [h1,cond_true]
   unfold acQ G7
   cases c1: lz (ur,t1,t2,ak,me,ta,st,re,ba,fs,bo)
   · rfl
   cases c2: eF me2 ta2 st2 re2 ba2 fs2 bo2
   · rfl
   by_cases c3: st2=304
   case neg=>rw [dF' c3];rfl
   rw [dT' c3]
   obtain ⟨g1,g2⟩:=Ab fs2
   obtain ⟨g3,g4⟩:=Ut fs2
   obtain ⟨g5,g6⟩:=G8 c1
   have g5':=(b_ g5).1
   have g6':=(b_ g6).1
   simp only at g5' g6' g6
   have g7: (gf fs (ll (j7 fs2))).length≤20:=Nat.le_trans (List.length_filter_le ..) g6'
   refine (Up _ _ _ _ _ _ _ _ _ _ _ _ _ _ _ _ _ _ _ _ _ _ _ _ (j7 fs2) g1 _ (j7 fs2) 0 _ [] (At.start _) (by omega) g2 (by rw [List.length_nil];omega)).trans ?_
   rw [List.nil_append]
   rw [show decide (ak.length≤1000000)=true from dT' (by omega),show decide (fs.length≤1000000)=true from dT' (by omega),g4,g6]
   simp only [cond_true]
   rw [show decide (((gf fs (ll (j7 fs2))).length + (ll (j7 fs2)).length) * 32≤140737488355328)=true from dT' (by omega),h1]
   simp only [cond_true]
   show (bif (!lz (Ys (ur,t1,t2,ak,me,ta,st,re,ba,fs,bo) (me2,ta2,st2,re2,ba2,fs2,bo2) n1 n2)) then _ else _)=_
   cases lz (Ys (ur,t1,t2,ak,me,ta,st,re,ba,fs,bo) (me2,ta2,st2,re2,ba2,fs2,bo2) n1 n2) <;> rfl
 · unfold EG at h;split at h
   · exact h
   · cases h
theorem Yu: Sound Kx 44 EG:=by
 refine (Uo (φ:=fun ur t1 t2 ak me ta st re ba fs bo me2 ta2 st2 re2 ba2 fs2 bo2 n1 n2=>EG [.agg [.str ur, .int .i64 t1, .int .i64 t2, .sh (.pair .str .str) ak, .str me, .str ta, .int .i64 st, .str re, .bool ba, .sh (.pair .str .str) fs, .str bo], .agg [.str me2, .str ta2, .int .i64 st2, .str re2, .bool ba2, .sh (.pair .str .str) fs2, .str bo2], .int .i64 n1, .int .i64 n2] []) (fun ur t1 t2 ak me ta st re ba fs bo me2 ta2 st2 re2 ba2 fs2 bo2 n1 n2=>(j7 fs2).length + 1) fun ur t1 t2 ak me ta st re ba fs bo me2 ta2 st2 re2 ba2 fs2 bo2 n1 n2 r h=>?_).of fun args objs r h=>?_
 · unfold EG at h;obtain ⟨h1,h2⟩:=al h
   cases h2
   unfold Ld
   rw [h1,cond_true]
   unfold acQ G7
   cases c1: lz (ur,t1,t2,ak,me,ta,st,re,ba,fs,bo)
   · rfl
   cases c2: eF me2 ta2 st2 re2 ba2 fs2 bo2
   · rfl
   by_cases c3: st2=304
   case neg=>rw [dF' c3];rfl
   rw [dT' c3]
   obtain ⟨g1,g2⟩:=Ab fs2
   obtain ⟨g3,g4⟩:=Ut fs2
   obtain ⟨g5,g6⟩:=G8 c1
   have g5':=(b_ g5).1
   have g6':=(b_ g6).1
   simp only at g5' g6' g6
   have g7: (gf fs (ll (j7 fs2))).length≤20:=Nat.le_trans (List.length_filter_le ..) g6'
   simp only [Bool.not_true,cond_false]
   rw [show decide ((0 + fs.length) * 32≤140737488355328)=true from dT' (by omega),cond_true]
   refine (Uq _ _ _ _ _ _ _ _ _ _ _ _ _ _ _ _ _ _ _ _ _ _ _ _ (j7 fs2) g1 _ (j7 fs2) 0 ((j7 fs2).length + 1) fs [] (At.start _) (by omega) g2 (by rw [List.length_nil];omega)).trans ?_
   rw [List.nil_append]
   rw [EF _ _ g6,show decide ((0 + ak.length) * 32≤140737488355328)=true from dT' (by omega),show decide (((gf fs (ll (j7 fs2))).length + (ll (j7 fs2)).length) * 32≤140737488355328)=true from dT' (by omega),h1]
   simp only [cond_true]
   show (bif (!lz (Ys (ur,t1,t2,ak,me,ta,st,re,ba,fs,bo) (me2,ta2,st2,re2,ba2,fs2,bo2) n1 n2)) then _ else _)=_
   cases lz (Ys (ur,t1,t2,ak,me,ta,st,re,ba,fs,bo) (me2,ta2,st2,re2,ba2,fs2,bo2) n1 n2) <;> rfl
 · unfold EG at h;split at h
   · exact h
   · cases h
end
end Go.Proofs.YtgknmoadpgpdeaaGreatDoor.Ev
namespace Go.Proofs.YtgknmoadpgpdeaaGreatDoor.Ev
open Go Go.RowKit
set_option linter.unusedVariables false
set_option linter.unusedSimpArgs false
set_option linter.defProp false
set_option maxRecDepth 20000
noncomputable section
def cdQ {α: Type} (ra: α→AV) (ro: α→List Ob) (D: List Int→α): List AV→List Ob→Br
 | [.sh (.int .u8) code],[]=> .ite (decide (code.length≤281474976710656)) (.ret (ra (D code)) (ro (D code))) .fail
 | _,_=> .fail
theorem aha {α: Type} {n: Nat} {s: List AV→List Ob→Br} (hs: Sound Kx n s) (ra: α→AV) (ro: α→List Ob) (d0: α) (P: α→Prop)
 (h: ∀ code,code.length≤281474976710656→∃ v,(s [.sh (.int .u8) code] []).val=some (ra v,ro v)∧P v): ∃ D: List Int→α,(∀ code,code.length≤281474976710656→P (D code))∧Sound Kx n (cdQ ra ro D):=by
 open Classical in
 refine ⟨fun code=>if hl: code.length≤281474976710656 then (h code hl).choose else d0,fun code hl=>?_,hs.of fun args objs r hv=>?_⟩
 · simp only [dif_pos hl];exact (h code hl).choose_spec.2
 · unfold cdQ at hv
   split at hv
   · rename_i code
     obtain ⟨h1,h2⟩:=al hv
     have h3:=of_decide_eq_true h1
     rw [← h2]
     simp only [dif_pos h3]
     exact (h code h3).choose_spec.1
   · cases hv
def aig (m: Mg) (k: Nat): AV:= .agg [.str m.1, .str m.2.1, .int .i64 m.2.2.1, .str m.2.2.2.1, .bool m.2.2.2.2.1, .ref k 0, .str m.2.2.2.2.2.2]
theorem Yv (aR: (List UInt8)) (aF: Int) (a7: Int) (ck: (List UInt8)) (eg: (List UInt8)) (eh: Int) (cZ: (List UInt8)) (fe: Bool) (gJ: (List UInt8)) (cC: (List ((List UInt8)×(List UInt8)))) (cD: (List ((List UInt8)×(List UInt8)))) (cE: (List UInt8)) (dp: (List UInt8)) (dq: Int) (dr: (List UInt8)) (dt: Bool) (du: (List UInt8)) (dv: (List ((List UInt8)×(List UInt8)))) (cv: (List Int)) (dw: (List UInt8)) (dx: Int) (dy: Int) (dz: (List UInt8)) (cX: (List UInt8)) (dN: Int) (pI: (List UInt8)) (pJ: Bool) (pK: (List UInt8)) (pL: (List ((List UInt8)×(List UInt8)))) (pM: (List ((List UInt8)×(List UInt8)))) (pN: (List UInt8)) (pO: (List UInt8)) (pP: Int) (pQ: (List UInt8)) (pR: Bool) (pS: (List UInt8)) (K: (List UInt8)→Int→Int→(List UInt8)→(List UInt8)→Int→(List UInt8)→Bool→(List UInt8)→(List ((List UInt8)×(List UInt8)))→(List ((List UInt8)×(List UInt8)))→(List UInt8)→(List UInt8)→Int→(List UInt8)→Bool→(List UInt8)→(List ((List UInt8)×(List UInt8)))→(List Int)→Int→Int→(List UInt8)→Int→Int→(List UInt8)→(List UInt8)→Int→(List UInt8)→Bool→(List UInt8)→(List ((List UInt8)×(List UInt8)))→(List ((List UInt8)×(List UInt8)))→(List UInt8)→(List UInt8)→Int→(List UInt8)→Bool→(List UInt8)→(List ((List UInt8)×(List UInt8)))→OR') (R: OR'→Prop) (k N: Nat) (aI cS da: Int) (mW: List Fd) (hN: k < N) (hn: aI=(k: Int)) (hc: okC cv cS=true) (hl: mW.length + k≤1000) (hq: ∀ f ∈ mW,cq f)
 (hK: ∀ i' h' l,okC cv i'=true→l.length≤mW.length + k→(∀ f ∈ l,cq f)→R (K aR aF a7 ck eg eh cZ fe gJ cC cD cE dp dq dr dt du dv cv i' h' dw dx dy dz cX dN pI pJ pK pL pM pN pO pP pQ pR pS l)): R (uX N aI aR aF a7 ck eg eh cZ fe gJ cC cD cE dp dq dr dt du dv cv cS da dw dx dy dz cX dN pI pJ pK pL pM pN pO pP pQ pR pS mW K):=
 iZ (code:=cv) (D:=fun i h=>Ea 1000050 cv i h) (fun i h hc=>ZR 1000050 h hc) (F:=fun N n i h acc=>uX N n aR aF a7 ck eg eh cZ fe gJ cC cD cE dp dq dr dt du dv cv i h dw dx dy dz cX dN pI pJ pK pL pM pN pO pP pQ pR pS acc K) (fun i' h' l=>K aR aF a7 ck eg eh cZ fe gJ cC cD cE dp dq dr dt du dv cv i' h' dw dx dy dz cX dN pI pJ pK pL pM pN pO pP pQ pR pS l) (fun _ _ _ _ _=>rfl) R k N aI cS da mW hN hn hc hl hq hK
def dfA (p: En×Mg×Int×Int): AV:= .tup [enA p.1,aig p.2.1 2, .int .i64 p.2.2.1, .int .i64 p.2.2.2]
def dfO (p: En×Mg×Int×Int): List Ob:=[.arr (.pair .str .str) 0 false p.1.2.2.2.1, .arr (.pair .str .str) 0 false p.1.2.2.2.2.2.2.2.2.2.1, .arr (.pair .str .str) 0 false p.2.1.2.2.2.2.2.1]
def Vo (Q: OR'→Prop) (o: OR'): Prop:=Q o
theorem afu {Q: OR'→Prop} {c: Bool} {x: OR'} (h0: c=true) (h1: Vo Q x): Vo Q (bif c then x else none):=by subst h0;exact h1
theorem afv {Q: OR'→Prop} {c: Bool} {x y: OR'} (h1: c=true→Vo Q x) (h2: c=false→Vo Q y): Vo Q (bif c then x else y):=by
 cases c
 · exact h2 rfl
 · exact h1 rfl
theorem Lf {e: En} {m: Mg} {n1 n2: Int} (h1: VC e) (h2: m.2.2.2.2.2.1.length≤200): Vo (fun o=>∃ v: En×Mg×Int×Int,o=some (dfA v,dfO v)∧VC v.1∧v.2.1.2.2.2.2.2.1.length≤200)
 (some (.tup [.agg [.str e.1, .int .i64 e.2.1, .int .i64 e.2.2.1, .ref 0 0, .str e.2.2.2.2.1, .str e.2.2.2.2.2.1, .int .i64 e.2.2.2.2.2.2.1, .str e.2.2.2.2.2.2.2.1, .bool e.2.2.2.2.2.2.2.2.1, .ref 1 0, .str e.2.2.2.2.2.2.2.2.2.2], .agg [.str m.1, .str m.2.1, .int .i64 m.2.2.1, .str m.2.2.2.1, .bool m.2.2.2.2.1, .ref 2 0, .str m.2.2.2.2.2.2], .int .i64 n1, .int .i64 n2],
  [.arr (.pair .str .str) 0 false e.2.2.2.1, .arr (.pair .str .str) 0 false e.2.2.2.2.2.2.2.2.2.1, .arr (.pair .str .str) 0 false m.2.2.2.2.2.1])):=⟨(e,m,n1,n2),rfl,h1,h2⟩
def fre_ex:=aha (Tu (φ:=fun code=>match nW 100 code with | some r=>Br.ret r.1 r.2 | none=> .fail) (fun _=>100) fun code r hv=>KH hv) dfA dfO (en0,([],[],0,[],false,[],[]),0,0) (fun p=>VC p.1∧p.2.1.2.2.2.2.2.1.length≤200) fun code hl=>by
 have key: ∃ v: En×Mg×Int×Int,nW 100 code=some (dfA v,dfO v)∧VC v.1∧v.2.1.2.2.2.2.2.1.length≤200:=by
  have hc:=ahH hl
  obtain ⟨c1,qe⟩:=X3 (lI code) hc
  unfold nW dQ jG bg
  generalize Eo () code 0 (lI code)=x at *
  obtain ⟨⟨ur,t1,t2,ak,me,ta,st,re,ba,fs,bo⟩,i1,h1⟩:=x
  simp only at c1 ⊢
  rw [dT' hl,cond_true,hc,Bool.and_true,cond_true,c1,cond_true]
  refine Yv _ _ _ _ _ _ _ _ _ _ _ _ _ _ _ _ _ _ _ _ _ _ _ _ _ _ _ _ _ _ _ _ _ _ _ _ _ (fun o=>∃ v: En×Mg×Int×Int,o=some (dfA v,dfO v)∧VC v.1∧v.2.1.2.2.2.2.2.1.length≤200) _ 100 _ _ _ [] (Nat.lt_of_le_of_lt (d9 (by omega) ..) (by decide)) (nV ..) (aq c1) (Nat.le_trans (Nat.add_le_add_left (d9 (by omega) ..) _) (by decide)) (fun _ hf=>absurd hf (List.not_mem_nil)) (fun i' h' l q1 q2 q3=>?_)
  have q4: l.length≤40:=Nat.le_trans q2 (Nat.le_trans (Nat.add_le_add_left (d9 (by omega) ..) _) (by decide))
  have r4: ∀ i h,okC code i=true→acp (xU () code i h).1:=fun i h hc=>(KI h hc).2
  have c4: ∀ i h,okC code i=true→okC code (xU () code i h).2.1=true:=fun i h hc=>(KI h hc).1
  refine (show Vo (fun o=>∃ v: En×Mg×Int×Int,o=some (dfA v,dfO v)∧VC v.1∧v.2.1.2.2.2.2.2.1.length≤200) _ from ?_)
  repeat' (first | with_reducible refine afu ?_ ?_ | with_reducible refine afv (fun _=>?_) (fun _=>?_))
  all_goals first
   | ((repeat (first | exact hc | exact c1 | exact c2 | exact c3 | exact q1 | with_reducible apply aq | with_reducible apply be | with_reducible apply av));done)
   | (simp only [Bool.and_true,List.length_cons,List.length_nil,List.length_set,List.length_replicate];(repeat (first | exact hc | exact c1 | exact c2 | exact c3 | exact q1 | with_reducible apply aq | with_reducible apply be | with_reducible apply av));done)
   | (simp only [Bool.and_true];apply c4;(repeat (first | exact hc | exact c1 | exact c2 | exact c3 | exact q1 | with_reducible apply aq | with_reducible apply be | with_reducible apply av));done)
   | (apply aq;apply c4;(repeat (first | exact hc | exact c1 | exact c2 | exact c3 | exact q1 | with_reducible apply aq | with_reducible apply be | with_reducible apply av));done)
   | (apply aq;apply aq;apply c4;(repeat (first | exact hc | exact c1 | exact c2 | exact c3 | exact q1 | with_reducible apply aq | with_reducible apply be | with_reducible apply av));done)
   | (simp only [Bool.and_true];apply aq;apply c4;(repeat (first | exact hc | exact c1 | exact c2 | exact c3 | exact q1 | with_reducible apply aq | with_reducible apply be | with_reducible apply av));done)
   | (simp only [Bool.and_true];apply aq;apply aq;apply c4;(repeat (first | exact hc | exact c1 | exact c2 | exact c3 | exact q1 | with_reducible apply aq | with_reducible apply be | with_reducible apply av));done)
   | (rw [decide_eq_true_eq];omega)
   | (rw [decide_eq_true_eq];simp only [List.length_append,List.length_cons,List.length_nil,List.length_set,List.length_replicate];omega)
   | (simp only [Bool.and_eq_true,decide_eq_true_eq,and_true,List.length_cons,List.length_nil,List.length_set,List.length_replicate];refine ⟨?_,by omega⟩;first | ((repeat (first | exact hc | exact c1 | exact c2 | exact c3 | exact q1 | with_reducible apply aq | with_reducible apply be | with_reducible apply av));done) | (apply c4;(repeat (first | exact hc | exact c1 | exact c2 | exact c3 | exact q1 | with_reducible apply aq | with_reducible apply be | with_reducible apply av));done) | (apply aq;apply c4;(repeat (first | exact hc | exact c1 | exact c2 | exact c3 | exact q1 | with_reducible apply aq | with_reducible apply be | with_reducible apply av));done) | (apply aq;apply aq;apply c4;(repeat (first | exact hc | exact c1 | exact c2 | exact c3 | exact q1 | with_reducible apply aq | with_reducible apply be | with_reducible apply av));done))
   | (refine Lf (e:=(ur,t1,t2,ak,me,ta,st,re,ba,fs,bo)) qe ?_;refine Nat.le_trans (r4 _ _ ?_).2 (by decide);(repeat (first | exact hc | exact c1 | exact c2 | exact c3 | exact q1 | with_reducible apply aq | with_reducible apply be | with_reducible apply av));done)
   | (refine Lf (e:=(ur,t1,t2,ak,me,ta,st,re,ba,fs,bo)) (m:=(_,_,_,_,_,_,_)) qe ?_;show List.length _≤200;(try simp only [List.length_append,List.length_cons,List.length_nil,List.length_set,List.length_replicate]);omega)
   | skip
  all_goals trace_state
 obtain ⟨v,e,q⟩:=key
 exact ⟨v,by show (Br.val (match nW 100 code with | some r=>Br.ret r.1 r.2 | none=> .fail))=_;rw [e];rfl,q⟩
def bL:=fre_ex.choose
def afw: List AV→List Ob→Br:=cdQ dfA dfO bL
theorem Yw: Sound Kx 42 afw:=fre_ex.choose_spec.2
theorem acR {code: List Int} (h: code.length≤281474976710656): VC (bL code).1∧(bL code).2.1.2.2.2.2.2.1.length≤200:=fre_ex.choose_spec.1 code h
end
end Go.Proofs.YtgknmoadpgpdeaaGreatDoor.Ev
namespace Go.Proofs.YtgknmoadpgpdeaaGreatDoor.Ev
open Go Go.RowKit
set_option linter.unusedVariables false
set_option linter.unusedSimpArgs false
end Go.Proofs.YtgknmoadpgpdeaaGreatDoor.Ev
namespace Go.Proofs.YtgknmoadpgpdeaaGreatDoor.Ev
open Go Go.RowKit
set_option linter.unusedVariables false
set_option linter.unusedSimpArgs false
noncomputable section
def acT: Br:=(.ret (AV.agg [.str ([104,116,116,112,58,47,47,97,46,98,47]: aa),.int .i64 100,.int .i64 101,.ref 1 0,.str ([]: aa),.str ([]: aa),.int .i64 200,.str ([79,75]: aa),.bool false,.ref 0 0,.str ([111,110,101]: aa)]) [.arr (Ty.pair Ty.str Ty.str) 0 false (List.set (List.set (List.replicate 2 (([]: aa),([]: aa))) 0 (([69,84,97,103]: aa),([34,116,34]: aa))) 1 (([67,97,99,104,101,45,67,111,110,116,114,111,108]: aa),([109,97,120,45,97,103,101,61,49,48]: aa))),.arr (Ty.pair Ty.str Ty.str) 0 false ([]: (List Fd))])
def aak: List AV→List Ob→Br
 | [],[]=>acT
 | _,_=> .fail
theorem acU: Sound Kx 77 aak:=ah (C:=[]) (O:=O0) Tryz.func77 (by kernel_rfl) fun args objs=>by
 unfold aak;split
 · exact .inr (by kernel_rfl)
 · exact .inl rfl
def Yx (m: aa): Br:=(.ite (decide (m=([71,69,84]: aa))) (.ret (AV.bool true) []) (.ite (decide (m=([72,69,65,68]: aa))) (.ret (AV.bool true) []) (.ite (decide (m=([79,80,84,73,79,78,83]: aa))) (.ret (AV.bool true) []) (.ret (AV.bool (decide (m=([84,82,65,67,69]: aa)))) []))))
def Uu: List AV→List Ob→Br
 | [.str m],[]=>Yx m
 | _,_=> .fail
theorem Yy: Sound Kx 78 Uu:=ah (C:=[]) (O:=O0) Tryz.func78 (by kernel_rfl) fun args objs=>by
 unfold Uu;split
 · exact .inr (by kernel_rfl)
 · exact .inl rfl
def acV: SC:=[⟨77,_,acU⟩,⟨30,_,TH⟩,⟨33,_,Yd⟩,⟨25,_,Ew⟩,⟨35,_,GA⟩,⟨78,_,Yy⟩]
def picks_br: Br:=(.ite (decide (((List.length (vdP (([104,116,116,112,58,47,47,97,46,98,47]: aa),(100,(101,(([]: (List Fd)),(([]: aa),(([]: aa),(200,(([79,75]: aa),(false,((List.set (List.set (List.replicate 2 (([]: aa),([]: aa))) 0 (([69,84,97,103]: aa),([34,116,34]: aa))) 1 (([67,97,99,104,101,45,67,111,110,116,114,111,108]: aa),([109,97,120,45,97,103,101,61,49,48]: aa))),([111,110,101]: aa))))))))))))): Int)=1)) (.ite (decide (0 < ((List.length (vdP (([104,116,116,112,58,47,47,97,46,98,47]: aa),(100,(101,(([]: (List Fd)),(([]: aa),(([]: aa),(200,(([79,75]: aa),(false,((List.set (List.set (List.replicate 2 (([]: aa),([]: aa))) 0 (([69,84,97,103]: aa),([34,116,34]: aa))) 1 (([67,97,99,104,101,45,67,111,110,116,114,111,108]: aa),([109,97,120,45,97,103,101,61,49,48]: aa))),([111,110,101]: aa))))))))))))): Int))) (.ite (decide ((List.getD (vdP (([104,116,116,112,58,47,47,97,46,98,47]: aa),(100,(101,(([]: (List Fd)),(([]: aa),(([]: aa),(200,(([79,75]: aa),(false,((List.set (List.set (List.replicate 2 (([]: aa),([]: aa))) 0 (([69,84,97,103]: aa),([34,116,34]: aa))) 1 (([67,97,99,104,101,45,67,111,110,116,114,111,108]: aa),([109,97,120,45,97,103,101,61,49,48]: aa))),([111,110,101]: aa)))))))))))) 0 (([]: aa),([]: aa))).2=([34,116,34]: aa))) (.ite (acD (vdP (([104,116,116,112,58,47,47,97,46,98,47]: aa),(100,(101,(([]: (List Fd)),(([]: aa),(([]: aa),(200,(([79,75]: aa),(false,((List.set (List.set (List.replicate 2 (([]: aa),([]: aa))) 0 (([69,84,97,103]: aa),([34,116,34]: aa))) 1 (([67,97,99,104,101,45,67,111,110,116,114,111,108]: aa),([109,97,120,45,97,103,101,61,49,48]: aa))),([111,110,101]: aa)))))))))))) (([104,116,116,112,58,47,47,97,46,98,47]: aa),(100,(101,(([]: (List Fd)),(([]: aa),(([]: aa),(200,(([79,75]: aa),(false,((List.set (List.set (List.replicate 2 (([]: aa),([]: aa))) 0 (([69,84,97,103]: aa),([34,116,34]: aa))) 1 (([67,97,99,104,101,45,67,111,110,116,114,111,108]: aa),([109,97,120,45,97,103,101,61,49,48]: aa))),([111,110,101]: aa)))))))))))) (.ite (mK (([104,116,116,112,58,47,47,97,46,98,47]: aa),(100,(101,(([]: (List Fd)),(([]: aa),(([]: aa),(200,(([79,75]: aa),(false,((List.set (List.set (List.replicate 2 (([]: aa),([]: aa))) 0 (([69,84,97,103]: aa),([34,116,34]: aa))) 1 (([67,97,99,104,101,45,67,111,110,116,114,111,108]: aa),([109,97,120,45,97,103,101,61,49,48]: aa))),([111,110,101]: aa))))))))))) ([]: (List Fd))) (.ret (AV.bool true) []) (.ret (AV.bool false) [])) (.ret (AV.bool false) [])) (.ret (AV.bool false) [])) .fail) (.ret (AV.bool false) []))
def Uv: List AV→List Ob→Br
 | [],[]=>picks_br
 | _,_=> .fail
theorem picks_ok: Sound Kx 28 Uv:=ah (C:=acV) (O:=O0) Tryz.func28 (by kernel_rfl) fun args objs=>by
 unfold Uv;split
 · exact .inr (by kernel_rfl)
 · exact .inl rfl
end
end Go.Proofs.YtgknmoadpgpdeaaGreatDoor.Ev
namespace Go.Proofs.YtgknmoadpgpdeaaGreatDoor.Ev
open Go Go.RowKit
set_option linter.unusedVariables false
set_option linter.unusedSimpArgs false
set_option maxRecDepth 20000
noncomputable section
theorem Uw: picks_br.val=some (.bool true,[]):=by
 unfold picks_br
 refine (bX (dT' (show ((List.length (vdP keE): Nat): Int)=1 from by rw [agm];rfl))).trans ?_
 refine (bX (dT' (show (0 : Int) < ((List.length (vdP keE): Nat): Int) from by rw [agm];decide))).trans ?_
 refine (bX (dT' (show (List.getD (vdP keE) 0 (([]: aa),([]: aa))).2=[34,116,34] from by rw [agm];rfl))).trans ?_
 refine (bX (show acD (vdP keE) keE=true from by rw [agm];exact aid)).trans ?_
 refine (bX (show mK keE []=true from aie)).trans ?_
 rfl
def ahT: List AV→List Ob→Br
 | [],[]=> .ret (.bool true) []
 | _,_=> .fail
theorem Ux: Sound Kx 28 ahT:=picks_ok.of fun args objs r h=>by
 unfold ahT at h
 split at h
 · rw [← h];exact Uw
 · cases h
end
end Go.Proofs.YtgknmoadpgpdeaaGreatDoor.Ev
namespace Go.Proofs.YtgknmoadpgpdeaaGreatDoor.Ev
open Go Go.RowKit
set_option linter.unusedVariables false
set_option linter.unusedSimpArgs false
set_option maxRecDepth 20000
noncomputable section
theorem acW {x: List Int} (h: O5 (.slice (.int .u8)) x): x.length≤281474976710656:=by
 have e: reachBytes=140737488351232:=rfl
 have:=h.1
 rw [e] at this
 omega
end
end Go.Proofs.YtgknmoadpgpdeaaGreatDoor.Ev
namespace Go.Proofs.YtgknmoadpgpdeaaGreatDoor.Ev
open Go Go.RowKit
set_option linter.unusedVariables false
set_option linter.unusedSimpArgs false
set_option maxRecDepth 20000
noncomputable section
theorem Uy {a b: aa} (h: ay a=ay b): ph a=ph b:=by unfold ph;rw [h]
theorem ahb (s: aa): (ay s).length=s.length:=by unfold ay bQ bytesOf;simp
theorem NZ {s: aa} (h: s.length < 8): ph s=false:=by
 unfold ph
 rw [dF' (by rw [ahb];omega),Bool.false_and]
theorem Yz (l: List Fd) (n: aa) (hn: ph n=false): ip (ll l) n=ip l n:=by
 unfold ip ll
 rw [List.filter_filter]
 congr 1
 refine List.filter_congr fun x _=>?_
 cases hs: ga x.1 n
 · rfl
 · have: ay x.1=ay n:=of_decide_eq_true hs
   rw [Uy this,hn];rfl
theorem Uz (fs l: List Fd) (f: Fd) (hf: f ∈ ll l): ip (gf fs (ll l)) f.1=[]:=by
 unfold ip
 rw [List.map_eq_nil_iff,List.filter_eq_nil_iff]
 intro g hg hs
 unfold gf at hg
 have h1:=(List.mem_filter.1 hg).2
 have h2: ay g.1=ay f.1:=of_decide_eq_true hs
 have h3: T_ (ll l) g.1=true:=List.any_eq_true.2 ⟨f,hf,dT' h2.symm⟩
 rw [h3] at h1;cases h1
theorem YA (fs l: List Fd) (hl: bd l=true) (h: bd (gf fs (ll l)++ll l)=true) (f: Fd) (hf: f ∈ l) (hc: f.1.length < 8): e_ (gf fs (ll l)++ll l) f.1=e_ l f.1:=by
 have hc':=NZ hc
 have hn: f ∈ ll l:=List.mem_filter.2 ⟨hf,by rw [hc'];rfl⟩
 have e: ip (gf fs (ll l)++ll l) f.1=ip (gf fs (ll l)) f.1++ip (ll l) f.1:=by unfold ip;rw [List.filter_append,List.map_append]
 unfold e_
 rw [h,hl,cond_true,cond_true,e,Uz fs l f hn,Yz l f.1 hc',List.nil_append]
def UA: Opt:={ live:=[(4,[0,1,5])],outs:=[(4,[4])] }
def sa (bI bK: (List aa)) (cz: Int) (kR4: (List aa)→(List aa)→Int→OR') (fU jI: OR'): OR':=
 (bif (decide (cz < (bI.length: Int))) then (bif (decide (0≤cz)) then (bif (decide (cz < (bI.length: Int))) then (bif (decide (0≤cz)) then (bif (decide (cz < (bK.length: Int))) then (bif (!(decide ((List.getD bI (Int.toNat cz) ([]: aa))=(List.getD bK (Int.toNat cz) ([]: aa))))) then fU else (kR4 bI bK (ai (cz + 1)))) else none) else none) else none) else none) else jI)
def lm: Nat→(List aa)→(List aa)→Int→(OR')→(OR')→OR'
 | 0,_,_,_,_,_=>none
 | n + 1,bI,bK,cz,fU,jI=>sa bI bK cz (fun bI bK cz=>lm n bI bK cz fU jI) fU jI
abbrev sameT_p4: SP:=⟨26,[0,1,5],[(.v (.sh Ty.str)),(.v (.sh Ty.str)),(.v (.i .i64))],[]⟩
noncomputable def Lg: Code:=aD (aG Tryz.f46) [1,1,0,1,0,0]
def Lh (f: (OR')→(OR')→OR') (k: KT): OR':=f (k Ex.ret ((St.mk (aH 0 26 [(4,(AV.bool false))]) ([]: (List (Nat×(Ob))))))) (k (Ex.exit 0) ((St.mk (aH 0 26 []) ([]: (List (Nat×(Ob)))))))
def Li (n: Nat) (d: sameT_p4.D): KT→OR':=Lh (lm n d.1.1 d.1.2.1 d.1.2.2.1)
def UB (N: Nat): Lam:=bw [⟨4,sameT_p4,Li N⟩]
theorem UC (N: Nat): OkL Kx noS UA 0 N (UB N) Lg:=okL sameT_p4 (Li) (fun d kR=>Lh (sa d.1.1 d.1.2.1 d.1.2.2.1 (fun bI bK cz=>kR ((bI,bK,cz,()),())))) (fun _ _=>by kernel_rfl) (fun _ _ _=>by kernel_rfl) (fun _ _=>by kernel_rfl) (fun _ _ _ _=>by kernel_rfl) (am (l':=[]) (by kernel_rfl) trivial)
def EH (N: Nat) (l l': List aa): OR':=(bif (!(decide ((l.length: Int)=((List.length l'): Int)))) then (some ((AV.bool false),[])) else (lm N l l' 0 (some ((AV.bool false),[])) (some ((AV.bool true),[]))))
def u6 (φ: (List aa)→(List aa)→Br): List AV→List Ob→Br
 | [.sh .str l, .sh .str l'],[]=>φ l l'
 | _,_=> .fail
theorem N0 {φ: (List aa)→(List aa)→Br} (fu: (List aa)→(List aa)→Nat) (hv: ∀ l l' res_,(φ l l').val=some res_→EH (fu l l') l l'=some res_): Sound Kx 46 (u6 φ):=ar (C:=[]) (O:=UA) Tryz.func46 (by kernel_rfl) fun args objs=>by
 unfold u6;split
 · rename_i l l';exact .inr fun _ hyp_=>aS (Λ:=UB (fu l l')) (by kernel_rfl) (am (l':=[Lg]) (by kernel_rfl) ⟨UC _,trivial⟩) (by kernel_rfl) (hv l l' _ hyp_)
 · exact .inl rfl
theorem N1 (l l': List aa) (hl: l.length≤4611686018427387904) (k0 k1: OR'): ∀ (r r': List aa) (i: Int) (n: Nat),At l i r→At l' i r'→r.length=r'.length→r.length < n→
 lm n l l' i k0 k1=bif decide (r=r') then k1 else k0:=by
 intro r;induction r with
 | nil=>
   intro r' i n h h' he hn;obtain ⟨n,rfl⟩:=bF hn
   have: r'=[]:=List.length_eq_zero_iff.1 he.symm
   subst this
   unfold lm sa;simp only [h.dge,cond_false,decide_true,cond_true]
 | cons a r ih=>
   intro r' i n h h' he hn;obtain ⟨n,rfl⟩:=bF hn
   cases r' with
   | nil=>cases he
   | cons b r'=>
     have hs:=ih r' (i + 1) n h.step h'.step (by simpa using he) (by simp at hn;omega)
     unfold lm sa;simp only [h.dlt,h'.dlt,h.dnn,h.get,h'.get,cond_true,h.next hl,hs]
     by_cases c1: a=b <;> by_cases c3: r=r' <;> simp [c1,c3]
theorem UD: Sound Kx 46 (u6 fun l l'=> .ite (decide (l.length≤4611686018427387904)) (.ret (.bool (decide (l=l'))) []) .fail):=by
 refine N0 (fun l _=>l.length + 1) fun l l' r h=>?_
 obtain ⟨h1,h2⟩:=al h
 cases h2
 rw [decide_eq_true_eq] at h1
 unfold EH
 by_cases c: l.length=l'.length
 · have c': (l.length: Int)=(l'.length: Int):=by omega
   simp only [c',decide_true,Bool.not_true,cond_false]
   rw [N1 l l' h1 _ _ l l' 0 _ (At.start l) (At.start l') c (by omega)]
   cases decide (l=l') <;> rfl
 · have c': ¬ (l.length: Int)=(l'.length: Int):=by omega
   have c2: ¬ l=l':=fun e=>c (by rw [e])
   simp only [c',c2,decide_false,Bool.not_false,cond_true]
def UE: Opt:={ live:=[(8,[3,5,6,7,11,12])],outs:=[(8,[2,3,5,6,7])],split:=true }
def lFres_C: SC:=[⟨42,_,Yw⟩,⟨43,_,Yt⟩,⟨44,_,Yu⟩,⟨45,_,K6⟩,⟨47,_,jt⟩,⟨48,_,tF⟩,⟨46,_,UD⟩,⟨49,_,fN⟩,⟨28,_,Ux⟩]
def sb (jR j9 il: Int) (j_: aa) (ka kb: Int) (kd je: aa) (jS: Int) (kf: aa) (dK: Bool) (dL: aa) (dM fA: (List Fd)) (fB: aa) (fC fD: Int) (eM p7: aa) (p8: Int) (p9: aa) (p_: Bool) (qa: aa) (qb j6 fR: (List Fd)) (kR8: Int→Int→Int→aa→Int→Int→aa→aa→Int→aa→Bool→aa→(List Fd)→(List Fd)→aa→Int→Int→aa→aa→Int→aa→Bool→aa→(List Fd)→(List Fd)→(List Fd)→OR') (Lr ago: Int→Int→aa→Int→Int→aa→aa→Int→aa→Bool→aa→(List Fd)→(List Fd)→aa→Int→Int→aa→aa→Int→aa→Bool→aa→(List Fd)→(List Fd)→OR'): OR':=
 (bif (decide (il < (fR.length: Int))) then (bif (decide (0≤il)) then (bif (decide (il < (fR.length: Int))) then (bif (decide (((List.length (List.getD fR (Int.toNat il) (([]: aa),([]: aa))).1): Int) < 8)) then (bif (decide (0≤il)) then (bif (decide (il < (fR.length: Int))) then (bif (isM (List.getD fR (Int.toNat il) (([]: aa),([]: aa))).1) then (bif (decide (0≤il)) then (bif (decide (il < (fR.length: Int))) then (bif (isM (List.getD fR (Int.toNat il) (([]: aa),([]: aa))).1) then (bif (decide ((List.length (e_ j6 (List.getD fR (Int.toNat il) (([]: aa),([]: aa))).1))≤4611686018427387904)) then (bif (decide ((e_ j6 (List.getD fR (Int.toNat il) (([]: aa),([]: aa))).1)=(e_ fR (List.getD fR (Int.toNat il) (([]: aa),([]: aa))).1))) then (kR8 jR j9 (ai (il + 1)) j_ ka kb kd je jS kf dK dL dM fA fB fC fD eM p7 p8 p9 p_ qa qb j6 fR) else (Lr jR j9 j_ ka kb kd je jS kf dK dL dM fA fB fC fD eM p7 p8 p9 p_ qa qb j6)) else none) else none) else none) else none) else none) else none) else none) else (kR8 jR j9 (ai (il + 1)) j_ ka kb kd je jS kf dK dL dM fA fB fC fD eM p7 p8 p9 p_ qa qb j6 fR)) else none) else none) else (ago jR j9 j_ ka kb kd je jS kf dK dL dM fA fB fC fD eM p7 p8 p9 p_ qa qb j6))
def ln: Nat→Int→Int→Int→aa→Int→Int→aa→aa→Int→aa→Bool→aa→(List Fd)→(List Fd)→aa→Int→Int→aa→aa→Int→aa→Bool→aa→(List Fd)→(List Fd)→(List Fd)→(Int→Int→aa→Int→Int→aa→aa→Int→aa→Bool→aa→(List Fd)→(List Fd)→aa→Int→Int→aa→aa→Int→aa→Bool→aa→(List Fd)→(List Fd)→OR')→(Int→Int→aa→Int→Int→aa→aa→Int→aa→Bool→aa→(List Fd)→(List Fd)→aa→Int→Int→aa→aa→Int→aa→Bool→aa→(List Fd)→(List Fd)→OR')→OR'
 | 0,_,_,_,_,_,_,_,_,_,_,_,_,_,_,_,_,_,_,_,_,_,_,_,_,_,_,_,_=>none
 | n + 1,jR,j9,il,j_,ka,kb,kd,je,jS,kf,dK,dL,dM,fA,fB,fC,fD,eM,p7,p8,p9,p_,qa,qb,j6,fR,Lr,ago=>sb jR j9 il j_ ka kb kd je jS kf dK dL dM fA fB fC fD eM p7 p8 p9 p_ qa qb j6 fR (fun jR j9 il j_ ka kb kd je jS kf dK dL dM fA fB fC fD eM p7 p8 p9 p_ qa qb j6 fR=>ln n jR j9 il j_ ka kb kd je jS kf dK dL dM fA fB fC fD eM p7 p8 p9 p_ qa qb j6 fR Lr ago) Lr ago
abbrev lFres_p8: SP:=⟨132,[3,5,6,7,11,12],[(.v (.ptr 256 0)),(.v (.i .i64)),(.v (.i .i64)),(.v (.ptr 512 0)),(.v (.ref 768 0)),(.v (.i .i64))],[(256, .var [.s,(.i .i64),(.i .i64),(.ref 260 0), .s, .s,(.i .i64), .s, .b,(.ref 266 0), .s]),(260, .arr (Ty.pair Ty.str Ty.str) 0 false),(266, .arr (Ty.pair Ty.str Ty.str) 0 false),(512, .var [.s,(.i .i64),(.i .i64),(.ref 516 0), .s, .s,(.i .i64), .s, .b,(.ref 522 0), .s]),(516, .arr (Ty.pair Ty.str Ty.str) 0 false),(522, .arr (Ty.pair Ty.str Ty.str) 0 false),(768, .arr (Ty.pair Ty.str Ty.str) 0 false)]⟩
noncomputable def Lj: Code:=aD (aG Tryz.f8) [1,1,1,1,1,1,0,1,0,0]
def Ll (f: (Int→Int→aa→Int→Int→aa→aa→Int→aa→Bool→aa→(List Fd)→(List Fd)→aa→Int→Int→aa→aa→Int→aa→Bool→aa→(List Fd)→(List Fd)→OR')→(Int→Int→aa→Int→Int→aa→aa→Int→aa→Bool→aa→(List Fd)→(List Fd)→aa→Int→Int→aa→aa→Int→aa→Bool→aa→(List Fd)→(List Fd)→OR')→OR') (k: KT): OR':=f (fun lN n7 n8 qR qS qT qU n9 n_ qV iu iw iy pD pE pF pG Vi Vj Vk Vl Vm Vn Vp=>k Ex.ret ((St.mk (aH 0 132 [(2,(AV.bool false)),(3,(AV.ptr 256 0)),(5,(AV.int .i64 lN)),(6,(AV.int .i64 n7)),(7,(AV.ptr 512 0))]) ((256,(Ob.var [.str n8,.int .i64 qR,.int .i64 qS,.ref 260 0,.str qT,.str qU,.int .i64 n9,.str n_,.bool qV,.ref 266 0,.str iu]))::((260,(Ob.arr (Ty.pair Ty.str Ty.str) 0 false iw))::((266,(Ob.arr (Ty.pair Ty.str Ty.str) 0 false iy))::((512,(Ob.var [.str pD,.int .i64 pE,.int .i64 pF,.ref 516 0,.str pG,.str Vi,.int .i64 Vj,.str Vk,.bool Vl,.ref 522 0,.str Vm]))::((516,(Ob.arr (Ty.pair Ty.str Ty.str) 0 false Vn))::((522,(Ob.arr (Ty.pair Ty.str Ty.str) 0 false Vp))::([]: (List (Nat×(Ob))))))))))))) (fun Vr Vs Vt aaG aaH aaI aaJ Vu aaK aaL Hx Vv Vw vm AM AN Hy Hz AO HA HB AP HC HD=>k (Ex.exit 0) ((St.mk (aH 0 132 [(3,(AV.ptr 256 0)),(5,(AV.int .i64 Vr)),(6,(AV.int .i64 Vs)),(7,(AV.ptr 512 0))]) ((256,(Ob.var [.str Vt,.int .i64 aaG,.int .i64 aaH,.ref 260 0,.str aaI,.str aaJ,.int .i64 Vu,.str aaK,.bool aaL,.ref 266 0,.str Hx]))::((260,(Ob.arr (Ty.pair Ty.str Ty.str) 0 false Vv))::((266,(Ob.arr (Ty.pair Ty.str Ty.str) 0 false Vw))::((512,(Ob.var [.str vm,.int .i64 AM,.int .i64 AN,.ref 516 0,.str Hy,.str Hz,.int .i64 AO,.str HA,.bool HB,.ref 522 0,.str AP]))::((516,(Ob.arr (Ty.pair Ty.str Ty.str) 0 false HC))::((522,(Ob.arr (Ty.pair Ty.str Ty.str) 0 false HD))::([]: (List (Nat×(Ob)))))))))))))
def Lm (n: Nat) (d: lFres_p8.D): KT→OR':=Ll (ln n d.1.2.1 d.1.2.2.1 d.1.2.2.2.2.2.1 d.2.1.1 d.2.1.2.1 d.2.1.2.2.1 d.2.1.2.2.2.2.1 d.2.1.2.2.2.2.2.1 d.2.1.2.2.2.2.2.2.1 d.2.1.2.2.2.2.2.2.2.1 d.2.1.2.2.2.2.2.2.2.2.1 d.2.1.2.2.2.2.2.2.2.2.2.2.1 d.2.2.1 d.2.2.2.1 d.2.2.2.2.1.1 d.2.2.2.2.1.2.1 d.2.2.2.2.1.2.2.1 d.2.2.2.2.1.2.2.2.2.1 d.2.2.2.2.1.2.2.2.2.2.1 d.2.2.2.2.1.2.2.2.2.2.2.1 d.2.2.2.2.1.2.2.2.2.2.2.2.1 d.2.2.2.2.1.2.2.2.2.2.2.2.2.1 d.2.2.2.2.1.2.2.2.2.2.2.2.2.2.2.1 d.2.2.2.2.2.1 d.2.2.2.2.2.2.1 d.2.2.2.2.2.2.2.1)
def UF (N: Nat): Lam:=bw [⟨8,lFres_p8,Lm N⟩]
theorem UG (N: Nat): OkL Kx lFres_C.s UE 0 N (UF N) Lj:=okL lFres_p8 (Lm) (fun d kR=>Ll (sb d.1.2.1 d.1.2.2.1 d.1.2.2.2.2.2.1 d.2.1.1 d.2.1.2.1 d.2.1.2.2.1 d.2.1.2.2.2.2.1 d.2.1.2.2.2.2.2.1 d.2.1.2.2.2.2.2.2.1 d.2.1.2.2.2.2.2.2.2.1 d.2.1.2.2.2.2.2.2.2.2.1 d.2.1.2.2.2.2.2.2.2.2.2.2.1 d.2.2.1 d.2.2.2.1 d.2.2.2.2.1.1 d.2.2.2.2.1.2.1 d.2.2.2.2.1.2.2.1 d.2.2.2.2.1.2.2.2.2.1 d.2.2.2.2.1.2.2.2.2.2.1 d.2.2.2.2.1.2.2.2.2.2.2.1 d.2.2.2.2.1.2.2.2.2.2.2.2.1 d.2.2.2.2.1.2.2.2.2.2.2.2.2.1 d.2.2.2.2.1.2.2.2.2.2.2.2.2.2.2.1 d.2.2.2.2.2.1 d.2.2.2.2.2.2.1 d.2.2.2.2.2.2.2.1 (fun jR j9 il j_ ka kb kd je jS kf dK dL dM fA fB fC fD eM p7 p8 p9 p_ qa qb j6 fR=>kR (((),jR,j9,(),(),il,()),((j_,ka,kb,(),kd,je,jS,kf,dK,(),dL,()),dM,fA,(fB,fC,fD,(),eM,p7,p8,p9,p_,(),qa,()),qb,j6,fR,()))))) (fun _ _=>by kernel_rfl) (fun _ _ _=>by kernel_rfl) (fun _ _=>by kernel_rfl) (fun _ _ _ _=>by kernel_rfl) (am (l':=[]) (by kernel_rfl) trivial)
abbrev dH (code):=(acQ ((bL code).1.1,((bL code).1.2.1,((bL code).1.2.2.1,((bL code).1.2.2.2.1,((bL code).1.2.2.2.2.1,((bL code).1.2.2.2.2.2.1,((bL code).1.2.2.2.2.2.2.1,((bL code).1.2.2.2.2.2.2.2.1,((bL code).1.2.2.2.2.2.2.2.2.1,((bL code).1.2.2.2.2.2.2.2.2.2.1,(bL code).1.2.2.2.2.2.2.2.2.2.2)))))))))) ((bL code).2.1.1,((bL code).2.1.2.1,((bL code).2.1.2.2.1,((bL code).2.1.2.2.2.1,((bL code).2.1.2.2.2.2.1,((bL code).2.1.2.2.2.2.2.1,(bL code).2.1.2.2.2.2.2.2)))))) (bL code).2.2.1 (bL code).2.2.2)
abbrev ig (code):=(G7 ((bL code).1.1,((bL code).1.2.1,((bL code).1.2.2.1,((bL code).1.2.2.2.1,((bL code).1.2.2.2.2.1,((bL code).1.2.2.2.2.2.1,((bL code).1.2.2.2.2.2.2.1,((bL code).1.2.2.2.2.2.2.2.1,((bL code).1.2.2.2.2.2.2.2.2.1,((bL code).1.2.2.2.2.2.2.2.2.2.1,(bL code).1.2.2.2.2.2.2.2.2.2.2)))))))))) ((bL code).2.1.1,((bL code).2.1.2.1,((bL code).2.1.2.2.1,((bL code).2.1.2.2.2.1,((bL code).2.1.2.2.2.2.1,((bL code).2.1.2.2.2.2.2.1,(bL code).2.1.2.2.2.2.2.2)))))) (bL code).2.2.1 (bL code).2.2.2)
def u7 (N: Nat) (code: List Int): OR':=(bif (decide (code.length≤281474976710656)) then (bif (isM (bL code).1.1) then (bif (isM (bL code).1.1) then (bif (!((ig code)==(ig code))) then (bif ((ig code)==(ig code)) then (bif (decide ((dH code).1=([]: aa))) then (some ((AV.bool true),[])) else (some ((AV.bool false),[]))) else (some ((AV.bool false),[]))) else (bif (!(ig code)) then (bif ((ig code)==(ig code)) then (bif (decide ((dH code).1=([]: aa))) then (some ((AV.bool true),[])) else (some ((AV.bool false),[]))) else (some ((AV.bool false),[]))) else (ln N (bL code).2.2.1 (bL code).2.2.2 0 (bL code).1.1 (bL code).1.2.1 (bL code).1.2.2.1 (bL code).1.2.2.2.2.1 (bL code).1.2.2.2.2.2.1 (bL code).1.2.2.2.2.2.2.1 (bL code).1.2.2.2.2.2.2.2.1 (bL code).1.2.2.2.2.2.2.2.2.1 (bL code).1.2.2.2.2.2.2.2.2.2.2 (bL code).1.2.2.2.1 (bL code).1.2.2.2.2.2.2.2.2.2.1 (dH code).1 (dH code).2.1 (dH code).2.2.1 (dH code).2.2.2.2.1 (dH code).2.2.2.2.2.1 (dH code).2.2.2.2.2.2.1 (dH code).2.2.2.2.2.2.2.1 (dH code).2.2.2.2.2.2.2.2.1 (dH code).2.2.2.2.2.2.2.2.2.2 (dH code).2.2.2.1 (dH code).2.2.2.2.2.2.2.2.2.1 (j7 (bL code).2.1.2.2.2.2.2.1) (fun lN n7 n8 qR qS qT qU n9 n_ qV iu iw iy pD pE pF pG Vi Vj Vk Vl Vm Vn Vp=>(some ((AV.bool false),[]))) (fun Vr Vs Vt aaG aaH aaI aaJ Vu aaK aaL Hx Vv Vw vm AM AN Hy Hz AO HA HB AP HC HD=>(bif (decide (vm=Vt)) then (bif (decide (AP=Hx)) then (bif (decide (AO=Vu)) then (bif (decide (AM=Vr)) then (bif (decide (AN=Vs)) then (bif (isM vm) then (bif (lz (vm,(AM,(AN,(HC,(Hy,(Hz,(AO,(HA,(HB,(HD,AP))))))))))) then (some ((AV.bool true),[])) else (some ((AV.bool false),[]))) else none) else (some ((AV.bool false),[]))) else (some ((AV.bool false),[]))) else (some ((AV.bool false),[]))) else (some ((AV.bool false),[]))) else (some ((AV.bool false),[]))))))) else none) else none) else none)
def u9 (φ: (List Int)→Br): List AV→List Ob→Br
 | [.sh (.int .u8) code],[]=>φ code
 | _,_=> .fail
theorem N2 {φ: (List Int)→Br} (fu: (List Int)→Nat) (hv: ∀ code res_,(φ code).val=some res_→u7 (fu code) code=some res_): Sound Kx 8 (u9 φ):=ar (C:=lFres_C) (O:=UE) Tryz.func8 (by kernel_rfl) fun args objs=>by
 unfold u9;split
 · rename_i code;exact .inr fun _ hyp_=>aS (Λ:=UF (fu code)) (by kernel_rfl) (am (l':=[Lj]) (by kernel_rfl) ⟨UG _,trivial⟩) (by kernel_rfl) (hv code _ hyp_)
 · exact .inl rfl
end
end Go.Proofs.YtgknmoadpgpdeaaGreatDoor.Ev
namespace Go.Proofs.YtgknmoadpgpdeaaGreatDoor.Ev
open Go Go.RowKit
set_option linter.unusedVariables false
set_option linter.unusedSimpArgs false
set_option maxRecDepth 20000
noncomputable section
theorem UH (jR: Int) (j9: Int) (j_: (List UInt8)) (ka: Int) (kb: Int) (kd: (List UInt8)) (je: (List UInt8)) (jS: Int) (kf: (List UInt8)) (dK: Bool) (dL: (List UInt8)) (dM: (List ((List UInt8)×(List UInt8)))) (fA: (List ((List UInt8)×(List UInt8)))) (fB: (List UInt8)) (fC: Int) (fD: Int) (eM: (List UInt8)) (p7: (List UInt8)) (p8: Int) (p9: (List UInt8)) (p_: Bool) (qa: (List UInt8)) (qb: (List ((List UInt8)×(List UInt8)))) (j6: (List ((List UInt8)×(List UInt8)))) (fR: (List ((List UInt8)×(List UInt8)))) (K0: Int→Int→(List UInt8)→Int→Int→(List UInt8)→(List UInt8)→Int→(List UInt8)→Bool→(List UInt8)→(List ((List UInt8)×(List UInt8)))→(List ((List UInt8)×(List UInt8)))→(List UInt8)→Int→Int→(List UInt8)→(List UInt8)→Int→(List UInt8)→Bool→(List UInt8)→(List ((List UInt8)×(List UInt8)))→(List ((List UInt8)×(List UInt8)))→OR') (K1: Int→Int→(List UInt8)→Int→Int→(List UInt8)→(List UInt8)→Int→(List UInt8)→Bool→(List UInt8)→(List ((List UInt8)×(List UInt8)))→(List ((List UInt8)×(List UInt8)))→(List UInt8)→Int→Int→(List UInt8)→(List UInt8)→Int→(List UInt8)→Bool→(List UInt8)→(List ((List UInt8)×(List UInt8)))→(List ((List UInt8)×(List UInt8)))→OR') (hl: fR.length≤20) (H: ∀ f ∈ fR,f.1.length < 8→e_ j6 f.1=e_ fR f.1): ∀ (r: List Fd) (i: Int) (n: Nat),At fR i r→r.length < n→(∀ f ∈ r,f ∈ fR)→
 ln n jR j9 i j_ ka kb kd je jS kf dK dL dM fA fB fC fD eM p7 p8 p9 p_ qa qb j6 fR K0 K1=K1 jR j9 j_ ka kb kd je jS kf dK dL dM fA fB fC fD eM p7 p8 p9 p_ qa qb j6:=by
 intro r;induction r with
 | nil=>
   intro i n h hn hr;obtain ⟨n,rfl⟩:=bF hn
   unfold ln sb;simp only [h.dge,cond_false]
 | cons a r ih=>
   intro i n h hn hr;obtain ⟨n,rfl⟩:=bF hn
   have hs:=ih (i + 1) n h.step (by simp at hn;omega) (fun f hf=>hr f (List.mem_cons_of_mem _ hf))
   have ha:=hr a (List.mem_cons_self ..)
   unfold ln sb
   by_cases c: (a.1.length: Int) < 8
   · have c': a.1.length < 8:=by omega
     have e1: isM a.1=true:=dT' (by omega)
     have e2: decide ((e_ j6 a.1).length≤4611686018427387904)=true:=dT' (by have:=(rH j6 a.1).1;omega)
     have e3:=H a ha c'
     simp only [h.dlt,h.dnn,h.get,cond_true,c,decide_true,e1,e2,e3,h.next (Nat.le_trans hl (by decide)),hs]
     rw [← e3];simp only [e2,cond_true]
   · simp only [h.dlt,h.dnn,h.get,cond_true,cond_false,c,decide_false,h.next (Nat.le_trans hl (by decide)),hs]
def sc (code: List Int): Br:= .ite (decide (code.length≤281474976710656)) (.ret (.bool true) []) .fail
def UI:=u9 sc
theorem UJ (code: List Int) (hl: code.length≤281474976710656): u7 100 code=some (.bool true,[]):=by
 obtain ⟨⟨q1,q2,q3⟩,q4⟩:=acR hl
 unfold u7 ig dH
 generalize bL code=x at *
 obtain ⟨⟨ur,t1,t2,ak,me,ta,st,re,ba,fs,bo⟩,⟨me2,ta2,st2,re2,ba2,fs2,bo2⟩,n1,n2⟩:=x
 simp only at q1 q2 q3 q4 ⊢
 have e1: isM ur=true:=dT' (by omega)
 obtain ⟨m1,m2⟩:=Ab fs2
 have hfd: bd (j7 fs2)=true:=by unfold bd;rw [Bool.and_eq_true,decide_eq_true_eq,List.all_eq_true];exact ⟨m1,m2⟩
 cases hb: G7 (ur,t1,t2,ak,me,ta,st,re,ba,fs,bo) (me2,ta2,st2,re2,ba2,fs2,bo2) n1 n2 with
 | false=>
   simp only [dT' hl,cond_true,e1,acQ,hb,cond_false,beq_self_eq_true,Bool.not_true,Bool.not_false]
   first | rfl | trace_state
 | true=>
   have hent: lz (Ys (ur,t1,t2,ak,me,ta,st,re,ba,fs,bo) (me2,ta2,st2,re2,ba2,fs2,bo2) n1 n2)=true:=by
    unfold G7 at hb;simp only [Bool.and_eq_true] at hb;exact hb.2.2.2
   obtain ⟨_,h2⟩:=G8 hent
   have H: ∀ f ∈ j7 fs2,f.1.length < 8→e_ (gf fs (ll (j7 fs2))++ll (j7 fs2)) f.1=e_ (j7 fs2) f.1:=fun f hf hc=>YA fs (j7 fs2) hfd h2 f hf hc
   simp only [dT' hl,cond_true,e1,acQ,hb,cond_false,beq_self_eq_true,Bool.not_true,Bool.not_false]
   unfold Ys at hent
   simp only [Ys]
   simp only at hent
   refine (UH _ _ _ _ _ _ _ _ _ _ _ _ _ _ _ _ _ _ _ _ _ _ _ _ _ _ _ (by omega) H (j7 fs2) 0 100 (At.start _) (by omega) (fun _ h=>h)).trans ?_
   simp only [decide_true,cond_true,e1,hent]
theorem YB: Sound Kx 8 UI:=N2 (fun _=>100) fun code r h=>by
 unfold sc at h
 obtain ⟨h1,h2⟩:=al h
 rw [← h2]
 exact UJ code (of_decide_eq_true h1)
theorem u_ (xs: List AV) (h: agx [(.slice (.int .u8),false)] xs): (UI xs []).val=some (.bool true,[]):=by
 obtain ⟨code,a',g,rfl,rfl⟩:=h
 show (sc code).val=_
 unfold sc
 rw [dT' (acW g)];rfl
end
end Go.Proofs.YtgknmoadpgpdeaaGreatDoor.Ev
