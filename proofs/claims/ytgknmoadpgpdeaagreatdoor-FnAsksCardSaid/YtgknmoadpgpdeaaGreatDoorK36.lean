/- The texts Sd, Se, Sf, Sg, Sh, Si, Sj, Qp, Sk, Sl, Qq, Qr, Qu, Qv, Qw, Qs, Qt, Qx, one behind the other. -/
import Derived.Test.YtgknmoadpgpdeaaGreatDoorK34
import Derived.Test.YtgknmoadpgpdeaaGreatDoorK35
import Derived.Test.YtgknmoadpgpdeaaGreatDoorK13
import Derived.Test.YtgknmoadpgpdeaaGreatDoorK29
import Derived.Test.YtgknmoadpgpdeaaGreatDoorK30
import Derived.Test.YtgknmoadpgpdeaaGreatDoorK31
import Derived.Test.YtgknmoadpgpdeaaGreatDoorK17
namespace Go.Proofs.YtgknmoadpgpdeaaGreatDoor.Ev
open Go Go.RowKit
set_option linter.unusedVariables false
set_option linter.unusedSimpArgs false
noncomputable section
def enA (e: En): AV:= .agg [.str e.1, .int .i64 e.2.1, .int .i64 e.2.2.1, .ref 0 0, .str e.2.2.2.2.1, .str e.2.2.2.2.2.1, .int .i64 e.2.2.2.2.2.2.1, .str e.2.2.2.2.2.2.2.1, .bool e.2.2.2.2.2.2.2.2.1, .ref 1 0, .str e.2.2.2.2.2.2.2.2.2.2]
def enO (e: En): List Ob:=[.arr (.pair .str .str) 0 false e.2.2.2.1, .arr (.pair .str .str) 0 false e.2.2.2.2.2.2.2.2.2.1]
end
end Go.Proofs.YtgknmoadpgpdeaaGreatDoor.Ev
namespace Go.Proofs.YtgknmoadpgpdeaaGreatDoor.Ev
open Go Go.RowKit
set_option linter.unusedVariables false
set_option linter.unusedSimpArgs false
set_option linter.defProp false
set_option maxRecDepth 20000
noncomputable section
theorem abv {Q: OR'→Prop} {r: AV} {os: List Ob} (h: Q (some (r,os))): Vq Q (.ret r os):=h
def cdQ {α: Type} (ra: α→AV) (ro: α→List Ob) (D: List Int→α): List AV→List Ob→Br
 | [.sh (.int .u8) code],[]=> .ite (decide (code.length≤281474976710656)) (.ret (ra (D code)) (ro (D code))) .fail
 | _,_=> .fail
theorem ac8 {α: Type} {n: Nat} {s: List AV→List Ob→Br} (hs: Sound Kx n s) (ra: α→AV) (ro: α→List Ob) (d0: α) (P: α→Prop)
 (h: ∀ code,code.length≤281474976710656→∃ v,(s [.sh (.int .u8) code] []).val=some (ra v,ro v)∧P v): ∃ D: List Int→α,(∀ code,code.length≤281474976710656→P (D code))∧Sound Kx n (cdQ ra ro D):=by
 open Classical in
 refine ⟨fun code=>if hl: code.length≤281474976710656 then (h code hl).choose else d0,fun code hl=>?_,hs.of fun args objs r hv=>?_⟩
 · simp only [dif_pos hl];exact (h code hl).choose_spec.2
 · unfold cdQ at hv
   split at hv
   · rename_i code
     obtain ⟨h1,h2⟩:=ae hv
     have h3:=of_decide_eq_true h1
     rw [← h2]
     simp only [dif_pos h3]
     exact (h code h3).choose_spec.1
   · cases hv
def vali_ex:=ac8 UC enA enO en0 Zi fun code hl=>by
 show Vq (fun o=>∃ v: En,o=some (enA v,enO v)∧Zi v) (xI code)
 have hc:=adD hl
 obtain ⟨c1,q⟩:=UA (gf code) hc
 unfold xI
 refine QR (dT' hl) (QR (by rw [hc];rfl) (abv ⟨_,rfl,q⟩))
def bY:=vali_ex.choose
def YV: List AV→List Ob→Br:=cdQ enA enO bY
theorem Rn: Sound Kx 29 YV:=vali_ex.choose_spec.2
theorem UR {code: List Int} (h: code.length≤281474976710656): Zi (bY code):=vali_ex.choose_spec.1 code h
end
end Go.Proofs.YtgknmoadpgpdeaaGreatDoor.Ev
namespace Go.Proofs.YtgknmoadpgpdeaaGreatDoor.Ev
open Go Go.RowKit
set_option linter.unusedVariables false
set_option linter.unusedSimpArgs false
end Go.Proofs.YtgknmoadpgpdeaaGreatDoor.Ev
namespace Go.Proofs.YtgknmoadpgpdeaaGreatDoor.Ev
open Go Go.RowKit
set_option linter.unusedVariables false
set_option linter.unusedSimpArgs false
noncomputable section
def YW: Br:=(.ret (AV.agg [.str ([104,116,116,112,58,47,47,97,46,98,47]: aa),.int .i64 100,.int .i64 101,.ref 1 0,.str ([]: aa),.str ([]: aa),.int .i64 200,.str ([79,75]: aa),.bool false,.ref 0 0,.str ([111,110,101]: aa)]) [.arr (Ty.pair Ty.str Ty.str) 0 false (List.set (List.set (List.replicate 2 (([]: aa),([]: aa))) 0 (([69,84,97,103]: aa),([34,116,34]: aa))) 1 (([67,97,99,104,101,45,67,111,110,116,114,111,108]: aa),([109,97,120,45,97,103,101,61,49,48]: aa))),.arr (Ty.pair Ty.str Ty.str) 0 false ([]: (List Fd))])
def Wq: List AV→List Ob→Br
 | [],[]=>YW
 | _,_=> .fail
theorem YX: Sound Kx 77 Wq:=ac (C:=[]) (O:=O0) Tryz.func77 (by kernel_rfl) fun args objs=>by
 unfold Wq;split
 · exact .inr (by kernel_rfl)
 · exact .inl rfl
def US (m: aa): Br:=(.ite (decide (m=([71,69,84]: aa))) (.ret (AV.bool true) []) (.ite (decide (m=([72,69,65,68]: aa))) (.ret (AV.bool true) []) (.ite (decide (m=([79,80,84,73,79,78,83]: aa))) (.ret (AV.bool true) []) (.ret (AV.bool (decide (m=([84,82,65,67,69]: aa)))) []))))
def Ro: List AV→List Ob→Br
 | [.str m],[]=>US m
 | _,_=> .fail
theorem UT: Sound Kx 78 Ro:=ac (C:=[]) (O:=O0) Tryz.func78 (by kernel_rfl) fun args objs=>by
 unfold Ro;split
 · exact .inr (by kernel_rfl)
 · exact .inl rfl
def YY: SC:=[⟨77,_,YX⟩,⟨30,_,Ca⟩,⟨33,_,IG⟩,⟨25,_,B9⟩,⟨35,_,r_⟩,⟨78,_,UT⟩]
def picks_br: Br:=(.ite (decide (((List.length (vdP (([104,116,116,112,58,47,47,97,46,98,47]: aa),(100,(101,(([]: (List Fd)),(([]: aa),(([]: aa),(200,(([79,75]: aa),(false,((List.set (List.set (List.replicate 2 (([]: aa),([]: aa))) 0 (([69,84,97,103]: aa),([34,116,34]: aa))) 1 (([67,97,99,104,101,45,67,111,110,116,114,111,108]: aa),([109,97,120,45,97,103,101,61,49,48]: aa))),([111,110,101]: aa))))))))))))): Int)=1)) (.ite (decide (0 < ((List.length (vdP (([104,116,116,112,58,47,47,97,46,98,47]: aa),(100,(101,(([]: (List Fd)),(([]: aa),(([]: aa),(200,(([79,75]: aa),(false,((List.set (List.set (List.replicate 2 (([]: aa),([]: aa))) 0 (([69,84,97,103]: aa),([34,116,34]: aa))) 1 (([67,97,99,104,101,45,67,111,110,116,114,111,108]: aa),([109,97,120,45,97,103,101,61,49,48]: aa))),([111,110,101]: aa))))))))))))): Int))) (.ite (decide ((List.getD (vdP (([104,116,116,112,58,47,47,97,46,98,47]: aa),(100,(101,(([]: (List Fd)),(([]: aa),(([]: aa),(200,(([79,75]: aa),(false,((List.set (List.set (List.replicate 2 (([]: aa),([]: aa))) 0 (([69,84,97,103]: aa),([34,116,34]: aa))) 1 (([67,97,99,104,101,45,67,111,110,116,114,111,108]: aa),([109,97,120,45,97,103,101,61,49,48]: aa))),([111,110,101]: aa)))))))))))) 0 (([]: aa),([]: aa))).2=([34,116,34]: aa))) (.ite (Rf (vdP (([104,116,116,112,58,47,47,97,46,98,47]: aa),(100,(101,(([]: (List Fd)),(([]: aa),(([]: aa),(200,(([79,75]: aa),(false,((List.set (List.set (List.replicate 2 (([]: aa),([]: aa))) 0 (([69,84,97,103]: aa),([34,116,34]: aa))) 1 (([67,97,99,104,101,45,67,111,110,116,114,111,108]: aa),([109,97,120,45,97,103,101,61,49,48]: aa))),([111,110,101]: aa)))))))))))) (([104,116,116,112,58,47,47,97,46,98,47]: aa),(100,(101,(([]: (List Fd)),(([]: aa),(([]: aa),(200,(([79,75]: aa),(false,((List.set (List.set (List.replicate 2 (([]: aa),([]: aa))) 0 (([69,84,97,103]: aa),([34,116,34]: aa))) 1 (([67,97,99,104,101,45,67,111,110,116,114,111,108]: aa),([109,97,120,45,97,103,101,61,49,48]: aa))),([111,110,101]: aa)))))))))))) (.ite (f8 (([104,116,116,112,58,47,47,97,46,98,47]: aa),(100,(101,(([]: (List Fd)),(([]: aa),(([]: aa),(200,(([79,75]: aa),(false,((List.set (List.set (List.replicate 2 (([]: aa),([]: aa))) 0 (([69,84,97,103]: aa),([34,116,34]: aa))) 1 (([67,97,99,104,101,45,67,111,110,116,114,111,108]: aa),([109,97,120,45,97,103,101,61,49,48]: aa))),([111,110,101]: aa))))))))))) ([]: (List Fd))) (.ret (AV.bool true) []) (.ret (AV.bool false) [])) (.ret (AV.bool false) [])) (.ret (AV.bool false) [])) .fail) (.ret (AV.bool false) []))
def Rp: List AV→List Ob→Br
 | [],[]=>picks_br
 | _,_=> .fail
theorem picks_ok: Sound Kx 28 Rp:=ac (C:=YY) (O:=O0) Tryz.func28 (by kernel_rfl) fun args objs=>by
 unfold Rp;split
 · exact .inr (by kernel_rfl)
 · exact .inl rfl
end
end Go.Proofs.YtgknmoadpgpdeaaGreatDoor.Ev
namespace Go.Proofs.YtgknmoadpgpdeaaGreatDoor.Ev
open Go Go.RowKit
set_option linter.unusedVariables false
set_option linter.unusedSimpArgs false
set_option maxRecDepth 20000
noncomputable section
theorem Rq: picks_br.val=some (.bool true,[]):=by
 unfold picks_br
 refine (bQ (dT' (show ((List.length (vdP keE): Nat): Int)=1 from by rw [aco];rfl))).trans ?_
 refine (bQ (dT' (show (0 : Int) < ((List.length (vdP keE): Nat): Int) from by rw [aco];decide))).trans ?_
 refine (bQ (dT' (show (List.getD (vdP keE) 0 (([]: aa),([]: aa))).2=[34,116,34] from by rw [aco];rfl))).trans ?_
 refine (bQ (show Rf (vdP keE) keE=true from by rw [aco];exact ad1)).trans ?_
 refine (bQ (show f8 keE []=true from ad2)).trans ?_
 rfl
def adK: List AV→List Ob→Br
 | [],[]=> .ret (.bool true) []
 | _,_=> .fail
theorem Rr: Sound Kx 28 adK:=picks_ok.of fun args objs r h=>by
 unfold adK at h
 split at h
 · rw [← h];exact Rq
 · cases h
def Rt: Opt:={ live:=[(4,[0,1,5])],outs:=[(4,[4])] }
def pI (bp bm: (List Fd)) (bW: Int) (kR4: (List Fd)→(List Fd)→Int→OR') (d_ ir: OR'): OR':=
 (bif (decide (bW < (bp.length: Int))) then (bif (decide (0≤bW)) then (bif (decide (bW < (bp.length: Int))) then (bif (decide (0≤bW)) then (bif (decide (bW < (bm.length: Int))) then (bif (!((decide ((List.getD bp (Int.toNat bW) (([]: aa),([]: aa))).1=(List.getD bm (Int.toNat bW) (([]: aa),([]: aa))).1))&&((decide ((List.getD bp (Int.toNat bW) (([]: aa),([]: aa))).2=(List.getD bm (Int.toNat bW) (([]: aa),([]: aa))).2))&&true))) then d_ else (kR4 bp bm (ad (bW + 1)))) else none) else none) else none) else none) else ir)
def jA: Nat→(List Fd)→(List Fd)→Int→(OR')→(OR')→OR'
 | 0,_,_,_,_,_=>none
 | n + 1,bp,bm,bW,d_,ir=>pI bp bm bW (fun bp bm bW=>jA n bp bm bW d_ ir) d_ ir
abbrev sameF_p4: SP:=⟨26,[0,1,5],[(.v (.sh (Ty.pair Ty.str Ty.str))),(.v (.sh (Ty.pair Ty.str Ty.str))),(.v (.i .i64))],[]⟩
noncomputable def II: Code:=ar (aC Tryz.f31) [1,1,0,1,0,0]
def IJ (f: (OR')→(OR')→OR') (k: KT): OR':=f (k Ex.ret ((St.mk (aA 0 26 [(4,(AV.bool false))]) ([]: (List (Nat×(Ob))))))) (k (Ex.exit 0) ((St.mk (aA 0 26 []) ([]: (List (Nat×(Ob)))))))
def IK (n: Nat) (d: sameF_p4.D): KT→OR':=IJ (jA n d.1.1 d.1.2.1 d.1.2.2.1)
def Ru (N: Nat): Lam:=bI [⟨4,sameF_p4,IK N⟩]
theorem Rv (N: Nat): OkL Kx noS Rt 0 N (Ru N) II:=okL sameF_p4 (IK) (fun d kR=>IJ (pI d.1.1 d.1.2.1 d.1.2.2.1 (fun bp bm bW=>kR ((bp,bm,bW,()),())))) (fun _ _=>by kernel_rfl) (fun _ _ _=>by kernel_rfl) (fun _ _=>by kernel_rfl) (fun _ _ _ _=>by kernel_rfl) (af (l':=[]) (by kernel_rfl) trivial)
def Cb (N: Nat) (l l': List Fd): OR':=(bif (!(decide ((l.length: Int)=((List.length l'): Int)))) then (some ((AV.bool false),[])) else (jA N l l' 0 (some ((AV.bool false),[])) (some ((AV.bool true),[]))))
def sz (φ: (List Fd)→(List Fd)→Br): List AV→List Ob→Br
 | [.sh (.pair .str .str) l, .sh (.pair .str .str) l'],[]=>φ l l'
 | _,_=> .fail
theorem Lg {φ: (List Fd)→(List Fd)→Br} (fu: (List Fd)→(List Fd)→Nat) (hv: ∀ l l' res_,(φ l l').val=some res_→Cb (fu l l') l l'=some res_): Sound Kx 31 (sz φ):=ah (C:=[]) (O:=Rt) Tryz.func31 (by kernel_rfl) fun args objs=>by
 unfold sz;split
 · rename_i l l';exact .inr fun _ hyp_=>aL (Λ:=Ru (fu l l')) (by kernel_rfl) (af (l':=[II]) (by kernel_rfl) ⟨Rv _,trivial⟩) (by kernel_rfl) (hv l l' _ hyp_)
 · exact .inl rfl
theorem Lh (l l': List Fd) (hl: l.length≤4611686018427387904) (k0 k1: OR'): ∀ (r r': List Fd) (i: Int) (n: Nat),At l i r→At l' i r'→r.length=r'.length→r.length < n→
 jA n l l' i k0 k1=bif decide (r=r') then k1 else k0:=by
 intro r;induction r with
 | nil=>
   intro r' i n h h' he hn;obtain ⟨n,rfl⟩:=bH hn
   have: r'=[]:=List.length_eq_zero_iff.1 he.symm
   subst this
   unfold jA pI;simp only [h.dge,cond_false,decide_true,cond_true]
 | cons a r ih=>
   intro r' i n h h' he hn;obtain ⟨n,rfl⟩:=bH hn
   cases r' with
   | nil=>cases he
   | cons b r'=>
     have hs:=ih r' (i + 1) n h.step h'.step (by simpa using he) (by simp at hn;omega)
     unfold jA pI;simp only [h.dlt,h'.dlt,h.dnn,h.get,h'.get,cond_true,h.next hl,hs]
     obtain ⟨a1,a2⟩:=a
     obtain ⟨b1,b2⟩:=b
     by_cases c1: a1=b1 <;> by_cases c2: a2=b2 <;> by_cases c3: r=r' <;> simp [c1,c2,c3]
theorem Rw: Sound Kx 31 (sz fun l l'=> .ite (decide (l.length≤4611686018427387904)) (.ret (.bool (decide (l=l'))) []) .fail):=by
 refine Lg (fun l _=>l.length + 1) fun l l' r h=>?_
 obtain ⟨h1,h2⟩:=ae h
 cases h2
 rw [decide_eq_true_eq] at h1
 unfold Cb
 by_cases c: l.length=l'.length
 · have c': (l.length: Int)=(l'.length: Int):=by omega
   simp only [c',decide_true,Bool.not_true,cond_false]
   rw [Lh l l' h1 _ _ l l' 0 _ (At.start l) (At.start l') c (by omega)]
   cases decide (l=l') <;> rfl
 · have c': ¬ (l.length: Int)=(l'.length: Int):=by omega
   have c2: ¬ l=l':=fun e=>c (by rw [e])
   simp only [c',c2,decide_false,Bool.not_false,cond_true]
def Rx: Opt:={ live:=[(10,[3,5,6,7])],outs:=[(10,[2,3,6])] }
def lAsks_C: SC:=[⟨29,_,Rn⟩,⟨30,_,Ca⟩,⟨32,_,Ri⟩,⟨31,_,Rw⟩,⟨33,_,IG⟩,⟨34,_,Ol⟩,⟨35,_,r_⟩,⟨36,_,oF⟩,⟨28,_,Rr⟩]
def mf (cQ: (List aa)) (dW: Bool) (cV: Int) (x5: aa) (x6 x7: Int) (x8 x9: aa) (x_: Int) (ya: aa) (mn: Bool) (mq: aa) (mt mu: (List Fd)) (Wx: (List aa)→Bool→Int→aa→Int→Int→aa→aa→Int→aa→Bool→aa→(List Fd)→(List Fd)→OR') (tm: Bool→aa→Int→Int→aa→aa→Int→aa→Bool→aa→(List Fd)→(List Fd)→OR'): OR':=
 (bif (decide (cV < (cQ.length: Int))) then (bif dW then (Wx cQ true (ad (cV + 1)) x5 x6 x7 x8 x9 x_ ya mn mq mt mu) else (bif (decide (0≤cV)) then (bif (decide (cV < (cQ.length: Int))) then (Wx cQ (decide ((List.getD cQ (Int.toNat cV) ([]: aa))=([42]: aa))) (ad (cV + 1)) x5 x6 x7 x8 x9 x_ ya mn mq mt mu) else none) else none)) else (tm dW x5 x6 x7 x8 x9 x_ ya mn mq mt mu))
def fG: Nat→(List aa)→Bool→Int→aa→Int→Int→aa→aa→Int→aa→Bool→aa→(List Fd)→(List Fd)→(Bool→aa→Int→Int→aa→aa→Int→aa→Bool→aa→(List Fd)→(List Fd)→OR')→OR'
 | 0,_,_,_,_,_,_,_,_,_,_,_,_,_,_,_=>none
 | n + 1,cQ,dW,cV,x5,x6,x7,x8,x9,x_,ya,mn,mq,mt,mu,tm=>mf cQ dW cV x5 x6 x7 x8 x9 x_ ya mn mq mt mu (fun cQ dW cV x5 x6 x7 x8 x9 x_ ya mn mq mt mu=>fG n cQ dW cV x5 x6 x7 x8 x9 x_ ya mn mq mt mu tm) tm
abbrev lAsks_p10: SP:=⟨58,[3,5,6,7],[(.v (.ptr 256 0)),(.v (.sh Ty.str)),(.v .b),(.v (.i .i64))],[(256, .var [.s,(.i .i64),(.i .i64),(.ref 260 0), .s, .s,(.i .i64), .s, .b,(.ref 266 0), .s]),(260, .arr (Ty.pair Ty.str Ty.str) 0 false),(266, .arr (Ty.pair Ty.str Ty.str) 0 true)]⟩
noncomputable def Cc: Code:=ar (aC Tryz.f6) [1,1,1,1,1,1,1,0,1,0,0]
def Cd (f: (Bool→aa→Int→Int→aa→aa→Int→aa→Bool→aa→(List Fd)→(List Fd)→OR')→OR') (k: KT): OR':=f (fun eN aG aO aP aQ aR aS aT aU aV au aw=>k (Ex.exit 0) ((St.mk (aA 0 58 [(3,(AV.ptr 256 0)),(6,(AV.bool eN))]) ((256,(Ob.var [.str aG,.int .i64 aO,.int .i64 aP,.ref 260 0,.str aQ,.str aR,.int .i64 aS,.str aT,.bool aU,.ref 266 0,.str aV]))::((260,(Ob.arr (Ty.pair Ty.str Ty.str) 0 false au))::((266,(Ob.arr (Ty.pair Ty.str Ty.str) 0 true aw))::([]: (List (Nat×(Ob))))))))))
def Ce (n: Nat) (d: lAsks_p10.D): KT→OR':=Cd (fG n d.1.2.1 d.1.2.2.1 d.1.2.2.2.1 d.2.1.1 d.2.1.2.1 d.2.1.2.2.1 d.2.1.2.2.2.2.1 d.2.1.2.2.2.2.2.1 d.2.1.2.2.2.2.2.2.1 d.2.1.2.2.2.2.2.2.2.1 d.2.1.2.2.2.2.2.2.2.2.1 d.2.1.2.2.2.2.2.2.2.2.2.2.1 d.2.2.1 d.2.2.2.1)
def Ry (N: Nat): Lam:=bI [⟨10,lAsks_p10,Ce N⟩]
theorem Li (N: Nat): OkL Kx lAsks_C.s Rx 0 N (Ry N) Cc:=okL lAsks_p10 (Ce) (fun d kR=>Cd (mf d.1.2.1 d.1.2.2.1 d.1.2.2.2.1 d.2.1.1 d.2.1.2.1 d.2.1.2.2.1 d.2.1.2.2.2.2.1 d.2.1.2.2.2.2.2.1 d.2.1.2.2.2.2.2.2.1 d.2.1.2.2.2.2.2.2.2.1 d.2.1.2.2.2.2.2.2.2.2.1 d.2.1.2.2.2.2.2.2.2.2.2.2.1 d.2.2.1 d.2.2.2.1 (fun cQ dW cV x5 x6 x7 x8 x9 x_ ya mn mq mt mu=>kR (((),cQ,dW,cV,()),((x5,x6,x7,(),x8,x9,x_,ya,mn,(),mq,()),mt,mu,()))))) (fun _ _=>by kernel_rfl) (fun _ _ _=>by kernel_rfl) (fun _ _=>by kernel_rfl) (fun _ _ _ _=>by kernel_rfl) (af (l':=[]) (by kernel_rfl) trivial)
abbrev jB (code):=(vdP ((bY code).1,((bY code).2.1,((bY code).2.2.1,((bY code).2.2.2.1,((bY code).2.2.2.2.1,((bY code).2.2.2.2.2.1,((bY code).2.2.2.2.2.2.1,((bY code).2.2.2.2.2.2.2.1,((bY code).2.2.2.2.2.2.2.2.1,((bY code).2.2.2.2.2.2.2.2.2.1,(bY code).2.2.2.2.2.2.2.2.2.2)))))))))))
abbrev bA (aG au aw aO aP aQ aR aS aT aU aV):=(f8 (aG,(aO,(aP,(au,(aQ,(aR,(aS,(aT,(aU,(aw,aV)))))))))) au)
abbrev de (aG au aw aO aP aQ aR aS aT aU aV):=(oR (aG,(aO,(aP,(au,(aQ,(aR,(aS,(aT,(aU,(aw,aV)))))))))))
def sA (N: Nat) (code: List Int): OR':=(bif (decide (code.length≤281474976710656)) then (bif (isM (bY code).1) then (bif (isM (bY code).1) then (bif (decide ((List.length (jB code))≤4611686018427387904)) then (bif (!(decide ((jB code)=(jB code)))) then (some ((AV.bool false),[])) else (bif (decide (0 < ((List.length (jB code)): Int))) then (bif (isM (bY code).1) then (bif (!(Rf (jB code) ((bY code).1,((bY code).2.1,((bY code).2.2.1,((bY code).2.2.2.1,((bY code).2.2.2.2.1,((bY code).2.2.2.2.2.1,((bY code).2.2.2.2.2.2.1,((bY code).2.2.2.2.2.2.2.1,((bY code).2.2.2.2.2.2.2.2.1,((bY code).2.2.2.2.2.2.2.2.2.1,(bY code).2.2.2.2.2.2.2.2.2.2)))))))))))) then (some ((AV.bool false),[])) else (fG N (gw (bY code).2.2.2.2.2.2.2.2.2.1) false 0 (bY code).1 (bY code).2.1 (bY code).2.2.1 (bY code).2.2.2.2.1 (bY code).2.2.2.2.2.1 (bY code).2.2.2.2.2.2.1 (bY code).2.2.2.2.2.2.2.1 (bY code).2.2.2.2.2.2.2.2.1 (bY code).2.2.2.2.2.2.2.2.2.2 (bY code).2.2.2.1 (bY code).2.2.2.2.2.2.2.2.2.1 (fun eN aG aO aP aQ aR aS aT aU aV au aw=>(bif (isM aG) then (bif (isM aG) then (bif (de aG au aw aO aP aQ aR aS aT aU aV) then (bif (de aG au aw aO aP aQ aR aS aT aU aV) then (bif (de aG au aw aO aP aQ aR aS aT aU aV) then (bif ((bA aG au aw aO aP aQ aR aS aT aU aV)==(!eN)) then (bif ((bA aG au aw aO aP aQ aR aS aT aU aV)==(!eN)) then (some ((AV.bool true),[])) else (some ((AV.bool false),[]))) else (bif ((bA aG au aw aO aP aQ aR aS aT aU aV)==(!eN)) then (some ((AV.tup []),[])) else (some ((AV.bool false),[])))) else (bif ((bA aG au aw aO aP aQ aR aS aT aU aV)==false) then (bif ((bA aG au aw aO aP aQ aR aS aT aU aV)==false) then (some ((AV.bool true),[])) else (some ((AV.bool false),[]))) else (bif ((bA aG au aw aO aP aQ aR aS aT aU aV)==false) then (some ((AV.tup []),[])) else (some ((AV.bool false),[]))))) else (bif (de aG au aw aO aP aQ aR aS aT aU aV) then none else (bif ((bA aG au aw aO aP aQ aR aS aT aU aV)==false) then (bif ((bA aG au aw aO aP aQ aR aS aT aU aV)==false) then (some ((AV.bool true),[])) else (some ((AV.bool false),[]))) else (bif ((bA aG au aw aO aP aQ aR aS aT aU aV)==false) then (some ((AV.tup []),[])) else (some ((AV.bool false),[])))))) else (bif (de aG au aw aO aP aQ aR aS aT aU aV) then none else (bif (de aG au aw aO aP aQ aR aS aT aU aV) then none else (bif ((bA aG au aw aO aP aQ aR aS aT aU aV)==false) then (bif ((bA aG au aw aO aP aQ aR aS aT aU aV)==false) then (some ((AV.bool true),[])) else (some ((AV.bool false),[]))) else (bif ((bA aG au aw aO aP aQ aR aS aT aU aV)==false) then (some ((AV.tup []),[])) else (some ((AV.bool false),[]))))))) else none) else none)))) else none) else (fG N (gw (bY code).2.2.2.2.2.2.2.2.2.1) false 0 (bY code).1 (bY code).2.1 (bY code).2.2.1 (bY code).2.2.2.2.1 (bY code).2.2.2.2.2.1 (bY code).2.2.2.2.2.2.1 (bY code).2.2.2.2.2.2.2.1 (bY code).2.2.2.2.2.2.2.2.1 (bY code).2.2.2.2.2.2.2.2.2.2 (bY code).2.2.2.1 (bY code).2.2.2.2.2.2.2.2.2.1 (fun eN aG aO aP aQ aR aS aT aU aV au aw=>(bif (isM aG) then (bif (isM aG) then (bif (de aG au aw aO aP aQ aR aS aT aU aV) then (bif (de aG au aw aO aP aQ aR aS aT aU aV) then (bif (de aG au aw aO aP aQ aR aS aT aU aV) then (bif ((bA aG au aw aO aP aQ aR aS aT aU aV)==(!eN)) then (bif ((bA aG au aw aO aP aQ aR aS aT aU aV)==(!eN)) then (some ((AV.bool true),[])) else (some ((AV.bool false),[]))) else (bif ((bA aG au aw aO aP aQ aR aS aT aU aV)==(!eN)) then (some ((AV.tup []),[])) else (some ((AV.bool false),[])))) else (bif ((bA aG au aw aO aP aQ aR aS aT aU aV)==false) then (bif ((bA aG au aw aO aP aQ aR aS aT aU aV)==false) then (some ((AV.bool true),[])) else (some ((AV.bool false),[]))) else (bif ((bA aG au aw aO aP aQ aR aS aT aU aV)==false) then (some ((AV.tup []),[])) else (some ((AV.bool false),[]))))) else (bif (de aG au aw aO aP aQ aR aS aT aU aV) then none else (bif ((bA aG au aw aO aP aQ aR aS aT aU aV)==false) then (bif ((bA aG au aw aO aP aQ aR aS aT aU aV)==false) then (some ((AV.bool true),[])) else (some ((AV.bool false),[]))) else (bif ((bA aG au aw aO aP aQ aR aS aT aU aV)==false) then (some ((AV.tup []),[])) else (some ((AV.bool false),[])))))) else (bif (de aG au aw aO aP aQ aR aS aT aU aV) then none else (bif (de aG au aw aO aP aQ aR aS aT aU aV) then none else (bif ((bA aG au aw aO aP aQ aR aS aT aU aV)==false) then (bif ((bA aG au aw aO aP aQ aR aS aT aU aV)==false) then (some ((AV.bool true),[])) else (some ((AV.bool false),[]))) else (bif ((bA aG au aw aO aP aQ aR aS aT aU aV)==false) then (some ((AV.tup []),[])) else (some ((AV.bool false),[]))))))) else none) else none))))) else none) else none) else none) else none)
def sB (φ: (List Int)→Br): List AV→List Ob→Br
 | [.sh (.int .u8) code],[]=>φ code
 | _,_=> .fail
theorem Lj {φ: (List Int)→Br} (fu: (List Int)→Nat) (hv: ∀ code res_,(φ code).val=some res_→sA (fu code) code=some res_): Sound Kx 6 (sB φ):=ah (C:=lAsks_C) (O:=Rx) Tryz.func6 (by kernel_rfl) fun args objs=>by
 unfold sB;split
 · rename_i code;exact .inr fun _ hyp_=>aL (Λ:=Ry (fu code)) (by kernel_rfl) (af (l':=[Cc]) (by kernel_rfl) ⟨Li _,trivial⟩) (by kernel_rfl) (hv code _ hyp_)
 · exact .inl rfl
end
end Go.Proofs.YtgknmoadpgpdeaaGreatDoor.Ev
namespace Go.Proofs.YtgknmoadpgpdeaaGreatDoor.Ev
open Go Go.RowKit
set_option linter.unusedVariables false
set_option linter.unusedSimpArgs false
set_option maxRecDepth 20000
noncomputable section
theorem YZ {x: List Int} (h: Ml (.slice (.int .u8)) x): x.length≤281474976710656:=by
 have e: reachBytes=140737488351232:=rfl
 have:=h.1
 rw [e] at this
 omega
end
end Go.Proofs.YtgknmoadpgpdeaaGreatDoor.Ev
namespace Go.Proofs.YtgknmoadpgpdeaaGreatDoor.Ev
open Go Go.RowKit
set_option linter.unusedVariables false
set_option linter.unusedSimpArgs false
set_option maxRecDepth 20000
noncomputable section
theorem UU (l: List aa) (hl: l.length≤4611686018427387904) (c3: aa) (c4 c5: Int) (c6 c7: aa) (c8: Int) (c9: aa) (c10: Bool) (c11: aa) (c12 c13: List Fd) (K): ∀ (r: List aa) (i: Int) (n: Nat) (b: Bool),At l i r→r.length < n→
 fG n l b i c3 c4 c5 c6 c7 c8 c9 c10 c11 c12 c13 K=K (b||r.any fun n=>decide (n=[42])) c3 c4 c5 c6 c7 c8 c9 c10 c11 c12 c13:=by
 intro r;induction r with
 | nil=>
   intro i n b h hn;obtain ⟨n,rfl⟩:=bH hn
   unfold fG mf;simp only [h.dge,cond_false,List.any_nil,Bool.or_false]
 | cons a r ih=>
   intro i n b h hn;obtain ⟨n,rfl⟩:=bH hn
   have hs:=fun b=>ih (i + 1) n b h.step (by simp at hn;omega)
   unfold fG mf
   cases b
   · simp only [h.dlt,h.dnn,h.get,cond_true,cond_false,h.next hl,hs,List.any_cons,Bool.false_or]
   · simp only [h.dlt,cond_true,h.next hl,hs,List.any_cons,Bool.true_or]
def pJ (code: List Int): Br:= .ite (decide (code.length≤281474976710656)) (.ret (.bool true) []) .fail
def RA:=sB pJ
theorem RB (N: Nat) (code: List Int) (hl: code.length≤281474976710656) (hN: (gw (bY code).2.2.2.2.2.2.2.2.2.1).length < N): sA N code=some (.bool true,[]):=by
 obtain ⟨q1,q2,q3⟩:=UR hl
 unfold sA de bA jB
 generalize bY code=x at *
 obtain ⟨ur,t1,t2,ak,me,ta,st,re,ba,fs,bo⟩:=x
 simp only at q1 q2 q3 hN ⊢
 have e1: isM ur=true:=dT' (by omega)
 have hu:=UQ (ur,t1,t2,ak,me,ta,st,re,ba,fs,bo)
 have hv: (vdP (ur,t1,t2,ak,me,ta,st,re,ba,fs,bo)).length≤2:=YT _
 have hc:=D_ (ur,t1,t2,ak,me,ta,st,re,ba,fs,bo)
 simp only at hc
 generalize vdP (ur,t1,t2,ak,me,ta,st,re,ba,fs,bo)=v at *
 rw [dT' hl,cond_true,e1,cond_true,cond_true,dT' (show v.length≤4611686018427387904 by omega)]
 rw [UU _ (Nat.le_trans (wG _) (by decide)) _ _ _ _ _ _ _ _ _ _ _ _ _ 0 N false (At.start _) hN]
 simp only [decide_true,Bool.not_true,cond_true,cond_false,e1,Bool.false_or,hc]
 have hu': (0 : Int) < (v.length: Int)→Rf v (ur,t1,t2,ak,me,ta,st,re,ba,fs,bo)=true:=fun h=>hu (by intro e;rw [e] at h;simp at h)
 generalize (gw fs).any (fun n=>decide (n=[42]))=sb at *
 generalize oR (ur,t1,t2,ak,me,ta,st,re,ba,fs,bo)=eb at *
 by_cases c: (0 : Int) < (v.length: Int)
 · rw [dT' c,hu' c]
   cases sb <;> cases eb <;> rfl
 · rw [dF' c]
   cases sb <;> cases eb <;> rfl
theorem UV: Sound Kx 6 RA:=Lj (fun _=>5000) fun code r h=>by
 unfold pJ at h
 obtain ⟨h1,h2⟩:=ae h
 rw [← h2]
 exact RB 5000 code (of_decide_eq_true h1) (Nat.lt_of_le_of_lt (wG _) (by decide))
theorem EG (xs: List AV) (h: acz [(.slice (.int .u8),false)] xs): (RA xs []).val=some (.bool true,[]):=by
 obtain ⟨code,a',g,rfl,rfl⟩:=h
 show (pJ code).val=_
 unfold pJ
 rw [dT' (YZ g)];rfl
end
end Go.Proofs.YtgknmoadpgpdeaaGreatDoor.Ev
