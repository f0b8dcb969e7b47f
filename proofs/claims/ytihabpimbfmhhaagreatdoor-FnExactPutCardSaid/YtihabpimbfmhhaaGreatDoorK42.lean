/- The texts Sd, Cc, Cd, Ce, Cf, Ck, Cl, Cg, Ch, Cm, Cn, Co, Cp, Cq, Ci, Cj, Se, Sf, Sg, Sh, Si, Sj, Sk, Sl, Cr, one behind the other. -/
import Derived.Test.YtihabpimbfmhhaaGreatDoorK40
import Derived.Test.YtihabpimbfmhhaaGreatDoorK41
import Derived.Test.YtihabpimbfmhhaaGreatDoorK13
import Derived.Test.YtihabpimbfmhhaaGreatDoorK37
import Derived.Test.YtihabpimbfmhhaaGreatDoorK36
import Derived.Test.YtihabpimbfmhhaaGreatDoorK32
namespace Go.Proofs.YtihabpimbfmhhaaGreatDoor.Ev
open Go Go.RowKit
set_option linter.unusedVariables false
set_option linter.unusedSimpArgs false
noncomputable section
def S5:SC:=[⟨145,_,LP⟩]
def Q7 (ur:aa) (t1 t2:Int) (ak:List Fd) (me ta:aa) (st:Int) (re:aa) (ba:Bool) (fs:List Fd) (bo:aa):Br:=(Br.ite (decide (ak.length≤1000000)) (Br.ite (decide (fs.length≤1000000)) (Br.ret (AV.agg ((AV.str ur)::((AV.int .i64 t1)::((AV.int .i64 t2)::((AV.ref 0 0)::((AV.str me)::((AV.str ta)::((AV.int .i64 st)::((AV.str re)::((AV.bool ba)::((AV.ref 1 0)::((AV.str bo)::[])))))))))))) ((Ob.arr (Ty.pair Ty.str Ty.str) 0 false ak)::((Ob.arr (Ty.pair Ty.str Ty.str) 0 false fs)::[]))) Br.fail) Br.fail)
def PI:List AV→List Ob→Br
 | [.agg [.str ur,.int .i64 t1,.int .i64 t2,.sh (.pair .str .str) ak,.str me,.str ta,.int .i64 st,.str re,.bool ba,.sh (.pair .str .str) fs,.str bo]],[]=>Q7 ur t1 t2 ak me ta st re ba fs bo
 |_,_=>.fail
theorem LQ:Sound Kx 94 PI:=ae (C:=S5) (O:=O0) Tryz.func94 (by kernel_rfl) fun args objs=>by
 unfold PI;split
 ·exact .inr (by kernel_rfl)
 ·exact .inl rfl
def Ol (ur:aa) (t1 t2:Int) (ak:List Fd) (me ta:aa) (st:Int) (re:aa) (ba:Bool) (fs:List Fd) (bo:aa):Br:=(Br.ite (decide (((0+ak.length)*32)≤140737488355328)) (Br.ite (decide (((0+fs.length)*32)≤140737488355328)) (Br.ret (AV.agg ((AV.str ur)::((AV.int .i64 t1)::((AV.int .i64 t2)::((AV.ref 0 0)::((AV.str me)::((AV.str ta)::((AV.int .i64 st)::((AV.str re)::((AV.bool ba)::((AV.ref 1 0)::((AV.str bo)::[])))))))))))) ((Ob.arr (Ty.pair Ty.str Ty.str) 0 false ak)::((Ob.arr (Ty.pair Ty.str Ty.str) 0 false fs)::[]))) Br.fail) Br.fail)
def LR:List AV→List Ob→Br
 | [.agg [.str ur,.int .i64 t1,.int .i64 t2,.sh (.pair .str .str) ak,.str me,.str ta,.int .i64 st,.str re,.bool ba,.sh (.pair .str .str) fs,.str bo]],[]=>Ol ur t1 t2 ak me ta st re ba fs bo
 |_,_=>.fail
theorem Om:Sound Kx 74 LR:=ae (C:=[]) (O:=O0) Tryz.func74 (by kernel_rfl) fun args objs=>by
 unfold LR;split
 ·exact .inr (by kernel_rfl)
 ·exact .inl rfl
theorem apE (out:List En) (d x:En) (h:out.length≤1000000):decide ((out.length+(List.set (List.replicate 1 d) 0 x).length)*160≤140737488355328)=true:=dT' (by rw [be,List.length_singleton];omega)
theorem ap0 {n:Nat} (h:n≤1000000):decide ((0+n)*32≤140737488355328)=true:=dT' (by omega)
def On (l:List En):Bool:=decide (l.length≤30)&&l.all gt
theorem vr {l:List En} (h:On l=true):l.length≤30∧ ∀e∈l,gt e=true:=by
 unfold On at h
 simp only [Bool.and_eq_true,decide_eq_true_eq,List.all_eq_true]at h
 exact h
theorem kq {e:En} (h:gt e=true):e.2.2.2.1.length≤20∧e.2.2.2.2.2.2.2.2.2.1.length≤20:=by
 unfold gt at h
 simp only [Bool.and_eq_true]at h
 obtain⟨⟨⟨⟨_,h1⟩,h2⟩,_⟩,_⟩:=h
 obtain⟨h3,_⟩:=gZ h2
 unfold hdG at h3
 simp only [Bool.and_eq_true]at h3
 exact⟨(cO h1).1,(cO h3.1.2).1⟩
def caA (bu:Int):AV:=.agg [.int .i64 bu,.ref 0 0]
def caO (l:List En):List Ob:=[.arr EnT 0 false l]
def S6:SC:=[⟨92,_,BD⟩]
def BN (ur:aa) (t1 t2:Int) (ak:List Fd) (me ta:aa) (st:Int) (re:aa) (ba:Bool) (fs:List Fd) (bo:aa) (ur':aa) (t1' t2':Int) (ak':List Fd) (me' ta':aa) (st':Int) (re':aa) (ba':Bool) (fs':List Fd) (bo':aa):Br:=(Br.ite (!(decide (ur=ur'))) (Br.ret (AV.bool true) ((Ob.var ((AV.str ur')::((AV.int .i64 t1')::((AV.int .i64 t2')::((AV.sh (Ty.pair Ty.str Ty.str) ak')::((AV.str me')::((AV.str ta')::((AV.int .i64 st')::((AV.str re')::((AV.bool ba')::((AV.sh (Ty.pair Ty.str Ty.str) fs')::((AV.str bo')::[]))))))))))))::[])) (Br.ite (isM ur) (Br.ret (AV.bool (!(fS (ur,(t1,(t2,(ak,(me,(ta,(st,(re,(ba,(fs,bo)))))))))) ak'))) ((Ob.var ((AV.str ur')::((AV.int .i64 t1')::((AV.int .i64 t2')::((AV.sh (Ty.pair Ty.str Ty.str) ak')::((AV.str me')::((AV.str ta')::((AV.int .i64 st')::((AV.str re')::((AV.bool ba')::((AV.sh (Ty.pair Ty.str Ty.str) fs')::((AV.str bo')::[]))))))))))))::[])) Br.fail))
def PJ:List AV→List Ob→Br
 | [.agg [.str ur,.int .i64 t1,.int .i64 t2,.sh (.pair .str .str) ak,.str me,.str ta,.int .i64 st,.str re,.bool ba,.sh (.pair .str .str) fs,.str bo],.ptr 0 0],[.var [.str ur',.int .i64 t1',.int .i64 t2',.sh (.pair .str .str) ak',.str me',.str ta',.int .i64 st',.str re',.bool ba',.sh (.pair .str .str) fs',.str bo']]=>BN ur t1 t2 ak me ta st re ba fs bo ur' t1' t2' ak' me' ta' st' re' ba' fs' bo'
 |_,_=>.fail
theorem putC_ok:Sound Kx 91 PJ:=ae (C:=S6) (O:=O0) Tryz.func91 (by kernel_rfl) fun args objs=>by
 unfold PJ;split
 ·exact .inr (by kernel_rfl)
 ·exact .inl rfl
def gx (x:En) (url:aa) (ak:List Fd):Bool:= !decide (x.1=url)|| !fS x ak
def UT:List AV→List Ob→Br
 | [.agg [.str ur,.int .i64 t1,.int .i64 t2,.sh (.pair .str .str) ak,.str me,.str ta,.int .i64 st,.str re,.bool ba,.sh (.pair .str .str) fs,.str bo],.ptr 0 0],[.var [.str ur',.int .i64 t1',.int .i64 t2',.sh (.pair .str .str) ak',.str me',.str ta',.int .i64 st',.str re',.bool ba',.sh (.pair .str .str) fs',.str bo']]=>
   .ite (isM ur) (.ret (.bool (gx (ur,t1,t2,ak,me,ta,st,re,ba,fs,bo) ur' ak')) [.var [.str ur',.int .i64 t1',.int .i64 t2',.sh (.pair .str .str) ak',.str me',.str ta',.int .i64 st',.str re',.bool ba',.sh (.pair .str .str) fs',.str bo']]) .fail
 |_,_=>.fail
theorem Oo:Sound Kx 91 UT:=putC_ok.of fun args objs r h=>by
 unfold UT at h;split at h
 case h_2=>cases h
 obtain⟨h1,h2⟩:=af h
 cases h2
 unfold gx
 show(BN _ _ _ _ _ _ _ _ _ _ _ _ _ _ _ _ _ _ _ _ _ _).val=_
 unfold BN
 rename_i ur _ _ _ _ _ _ _ _ _ _ ur' _ _ _ _ _ _ _ _ _ _
 simp only
 cases decide (ur=ur')
 ·rfl
 ·exact(bl rfl).trans ((aR h1).trans rfl)
def PK:Opt:={live:=[(3,[1,4,5,12,13,14])],outs:=[(3,[4,5])]}
def ownP_C:SC:=[⟨94,_,LQ⟩,⟨91,_,Oo⟩]
def vu (ai:(List En)) (al ap:Int) (cR:aa) (tD tE:Int) (qz:(List Fd)) (tF tG:aa) (tH:Int) (eY:aa) (eZ:Bool) (e_:(List Fd)) (fa:aa) (fb:Int) (fc:(List En)) (fd:Int) (dX:(List En)) (U6:(List En)→Int→Int→aa→Int→Int→(List Fd)→aa→aa→Int→aa→Bool→(List Fd)→aa→Int→(List En)→Int→(List En)→OR') (cI:aa→Int→Int→(List Fd)→aa→aa→Int→aa→Bool→(List Fd)→aa→Int→(List En)→Int→(List En)→OR'):OR':=
 (bif(decide (ap<al))then(bif(decide (0≤ap))then(bif(decide (ap< (ai.length:Int)))then(bif(isM (List.getD ai (Int.toNat ap) en0).1)then(bif(gx ((List.getD ai (Int.toNat ap) en0).1,((List.getD ai (Int.toNat ap) en0).2.1,((List.getD ai (Int.toNat ap) en0).2.2.1,((List.getD ai (Int.toNat ap) en0).2.2.2.1,((List.getD ai (Int.toNat ap) en0).2.2.2.2.1,((List.getD ai (Int.toNat ap) en0).2.2.2.2.2.1,((List.getD ai (Int.toNat ap) en0).2.2.2.2.2.2.1,((List.getD ai (Int.toNat ap) en0).2.2.2.2.2.2.2.1,((List.getD ai (Int.toNat ap) en0).2.2.2.2.2.2.2.2.1,((List.getD ai (Int.toNat ap) en0).2.2.2.2.2.2.2.2.2.1,(List.getD ai (Int.toNat ap) en0).2.2.2.2.2.2.2.2.2.2)))))))))) cR qz)then(bif(decide ((List.length (List.getD ai (Int.toNat ap) en0).2.2.2.1)≤1000000))then(bif(decide ((List.length (List.getD ai (Int.toNat ap) en0).2.2.2.2.2.2.2.2.2.1)≤1000000))then(bif(decide (((dX.length+(List.length (List.set (List.replicate 1 en0) 0 ((List.getD ai (Int.toNat ap) en0).1,((List.getD ai (Int.toNat ap) en0).2.1,((List.getD ai (Int.toNat ap) en0).2.2.1,((List.getD ai (Int.toNat ap) en0).2.2.2.1,((List.getD ai (Int.toNat ap) en0).2.2.2.2.1,((List.getD ai (Int.toNat ap) en0).2.2.2.2.2.1,((List.getD ai (Int.toNat ap) en0).2.2.2.2.2.2.1,((List.getD ai (Int.toNat ap) en0).2.2.2.2.2.2.2.1,((List.getD ai (Int.toNat ap) en0).2.2.2.2.2.2.2.2.1,((List.getD ai (Int.toNat ap) en0).2.2.2.2.2.2.2.2.2.1,(List.getD ai (Int.toNat ap) en0).2.2.2.2.2.2.2.2.2.2)))))))))))))*160)≤140737488355328))then(U6 ai al (ac (ap+1)) cR tD tE qz tF tG tH eY eZ e_ fa fb fc fd (dX++(List.set (List.replicate 1 en0) 0 ((List.getD ai (Int.toNat ap) en0).1,((List.getD ai (Int.toNat ap) en0).2.1,((List.getD ai (Int.toNat ap) en0).2.2.1,((List.getD ai (Int.toNat ap) en0).2.2.2.1,((List.getD ai (Int.toNat ap) en0).2.2.2.2.1,((List.getD ai (Int.toNat ap) en0).2.2.2.2.2.1,((List.getD ai (Int.toNat ap) en0).2.2.2.2.2.2.1,((List.getD ai (Int.toNat ap) en0).2.2.2.2.2.2.2.1,((List.getD ai (Int.toNat ap) en0).2.2.2.2.2.2.2.2.1,((List.getD ai (Int.toNat ap) en0).2.2.2.2.2.2.2.2.2.1,(List.getD ai (Int.toNat ap) en0).2.2.2.2.2.2.2.2.2.2)))))))))))))else(none))else(none))else(none))else(U6 ai al (ac (ap+1)) cR tD tE qz tF tG tH eY eZ e_ fa fb fc fd dX))else(none))else(none))else(none))else(cI cR tD tE qz tF tG tH eY eZ e_ fa fb fc fd dX))
def lq:Nat→(List En)→Int→Int→aa→Int→Int→(List Fd)→aa→aa→Int→aa→Bool→(List Fd)→aa→Int→(List En)→Int→(List En)→(aa→Int→Int→(List Fd)→aa→aa→Int→aa→Bool→(List Fd)→aa→Int→(List En)→Int→(List En)→OR')→OR'
 |0,_,_,_,_,_,_,_,_,_,_,_,_,_,_,_,_,_,_,_=>none
 |n+1,ai,al,ap,cR,tD,tE,qz,tF,tG,tH,eY,eZ,e_,fa,fb,fc,fd,dX,cI=>vu ai al ap cR tD tE qz tF tG tH eY eZ e_ fa fb fc fd dX (fun ai al ap cR tD tE qz tF tG tH eY eZ e_ fa fb fc fd dX=>lq n ai al ap cR tD tE qz tF tG tH eY eZ e_ fa fb fc fd dX cI) cI
abbrev ownP_p3:SP:=⟨30,[1,4,5,12,13,14],[(.v (.fn 91 [(0,0)])),(.v (.ptr 320 0)),(.v (.ptr 384 0)),(.v (.sh EnT)),(.v (.i .i64)),(.v (.i .i64))],[(0,.var [.s,(.i .i64),(.i .i64),(.sh (Ty.pair Ty.str Ty.str)),.s,.s,(.i .i64),.s,.b,(.sh (Ty.pair Ty.str Ty.str)),.s]),(320,.var [(.i .i64),(.ref 322 0)]),(322,.arr EnT 0 false),(384,.var [(.i .i64),(.ref 386 0)]),(386,.arr EnT 0 false)]⟩
noncomputable def LS:Code:=ax (aD Tryz.f58) [1,1,0,1,0,0]
def LT (f:(aa→Int→Int→(List Fd)→aa→aa→Int→aa→Bool→(List Fd)→aa→Int→(List En)→Int→(List En)→OR')→OR') (k:KT):OR':=f (fun aQ qv iB ky kz iC kA kB kC kD fT fU gz jj jk=>k (Ex.exit 0) ((St.mk (aw 0 30 [(4,(AV.ptr 320 0)),(5,(AV.ptr 384 0))]) ((0,(Ob.var ((AV.str aQ)::((AV.int .i64 qv)::((AV.int .i64 iB)::((AV.sh (Ty.pair Ty.str Ty.str) ky)::((AV.str kz)::((AV.str iC)::((AV.int .i64 kA)::((AV.str kB)::((AV.bool kC)::((AV.sh (Ty.pair Ty.str Ty.str) kD)::((AV.str fT)::[])))))))))))))::((320,(Ob.var ((AV.int .i64 fU)::((AV.ref 322 0)::[]))))::((322,(Ob.arr EnT 0 false gz))::((384,(Ob.var ((AV.int .i64 jj)::((AV.ref 386 0)::[]))))::((386,(Ob.arr EnT 0 false jk))::([]:(List (Nat×(Ob))))))))))))
def LU (n:Nat) (d:ownP_p3.D):KT→OR':=LT (lq n d.1.2.2.2.1 d.1.2.2.2.2.1 d.1.2.2.2.2.2.1 d.2.1.1 d.2.1.2.1 d.2.1.2.2.1 d.2.1.2.2.2.1 d.2.1.2.2.2.2.1 d.2.1.2.2.2.2.2.1 d.2.1.2.2.2.2.2.2.1 d.2.1.2.2.2.2.2.2.2.1 d.2.1.2.2.2.2.2.2.2.2.1 d.2.1.2.2.2.2.2.2.2.2.2.1 d.2.1.2.2.2.2.2.2.2.2.2.2.1 d.2.2.1.1 d.2.2.2.1 d.2.2.2.2.1.1 d.2.2.2.2.2.1)
def PL (N:Nat):Lam:=bf [⟨3,ownP_p3,LU N⟩]
theorem Oq (N:Nat):OkL Kx ownP_C.s PK 1 N (PL N) LS:=okL ownP_p3 (LU) (fun d kR=>LT (vu d.1.2.2.2.1 d.1.2.2.2.2.1 d.1.2.2.2.2.2.1 d.2.1.1 d.2.1.2.1 d.2.1.2.2.1 d.2.1.2.2.2.1 d.2.1.2.2.2.2.1 d.2.1.2.2.2.2.2.1 d.2.1.2.2.2.2.2.2.1 d.2.1.2.2.2.2.2.2.2.1 d.2.1.2.2.2.2.2.2.2.2.1 d.2.1.2.2.2.2.2.2.2.2.2.1 d.2.1.2.2.2.2.2.2.2.2.2.2.1 d.2.2.1.1 d.2.2.2.1 d.2.2.2.2.1.1 d.2.2.2.2.2.1 (fun ai al ap cR tD tE qz tF tG tH eY eZ e_ fa fb fc fd dX=>kR (((),(),(),ai,al,ap,()),((cR,tD,tE,qz,tF,tG,tH,eY,eZ,e_,fa,()),(fb,(),()),fc,(fd,(),()),dX,()))))) (fun _ _=>by kernel_rfl) (fun _ _ _=>by kernel_rfl) (fun _ _=>by kernel_rfl) (fun _ _ _ _=>by kernel_rfl) (ah (l':=[]) (by kernel_rfl) trivial)
def EU (N:Nat) (bu:Int) (l:List En) (ur:aa) (t1 t2:Int) (ak:List Fd) (me ta:aa) (st:Int) (re:aa) (ba:Bool) (fs:List Fd) (bo:aa):OR':=(lq N l (l.length:Int) 0 ur t1 t2 ak me ta st re ba fs bo 0 ([]:(List En)) bu ([]:(List En)) (fun aQ=>(fun qv=>(fun iB=>(fun ky=>(fun kz=>(fun iC=>(fun kA=>(fun kB=>(fun kC=>(fun kD=>(fun fT=>(fun fU=>(fun gz=>(fun jj=>(fun jk=>(some ((AV.agg ((AV.int .i64 jj)::((AV.ref 1 0)::[]))),((Ob.var ((AV.str aQ)::((AV.int .i64 qv)::((AV.int .i64 iB)::((AV.sh (Ty.pair Ty.str Ty.str) ky)::((AV.str kz)::((AV.str iC)::((AV.int .i64 kA)::((AV.str kB)::((AV.bool kC)::((AV.sh (Ty.pair Ty.str Ty.str) kD)::((AV.str fT)::[]))))))))))))::((Ob.arr EnT 0 false jk)::[]))))))))))))))))))))
def EV (φ:Int→(List En)→aa→Int→Int→(List Fd)→aa→aa→Int→aa→Bool→(List Fd)→aa→Br):List AV→List Ob→Br
 | [.agg [.int .i64 bu,.sh EnT l],.fn 91 [.ptr 0 0]],[.var [.str ur,.int .i64 t1,.int .i64 t2,.sh (.pair .str .str) ak,.str me,.str ta,.int .i64 st,.str re,.bool ba,.sh (.pair .str .str) fs,.str bo]]=>φ bu l ur t1 t2 ak me ta st re ba fs bo
 |_,_=>.fail
theorem LV {φ:Int→(List En)→aa→Int→Int→(List Fd)→aa→aa→Int→aa→Bool→(List Fd)→aa→Br} (fu:Int→(List En)→aa→Int→Int→(List Fd)→aa→aa→Int→aa→Bool→(List Fd)→aa→Nat) (hv: ∀bu l ur t1 t2 ak me ta st re ba fs bo res_,(φ bu l ur t1 t2 ak me ta st re ba fs bo).val=some res_→EU (fu bu l ur t1 t2 ak me ta st re ba fs bo) bu l ur t1 t2 ak me ta st re ba fs bo=some res_):Sound Kx 58 (EV φ):=aj (C:=ownP_C) (O:=PK) Tryz.func58 (by kernel_rfl) fun args objs=>by
 unfold EV;split
 ·rename_i bu l ur t1 t2 ak me ta st re ba fs bo;exact .inr fun _ hyp_=>aO (Λ:=PL (fu bu l ur t1 t2 ak me ta st re ba fs bo)) (by kernel_rfl) (ah (l':=[LS]) (by kernel_rfl) ⟨Oq _,trivial⟩) (by kernel_rfl) (hv bu l ur t1 t2 ak me ta st re ba fs bo _ hyp_)
 ·exact .inl rfl
def BO:Opt:={cons:=[75],live:=[(10,[2,4,5]),(3,[2,3,4,5,6])],outs:=[(10,[4,5]),(3,[2,3,4,5])],split:=true}
def sPutc_C:SC:=[⟨84,_,BE⟩,⟨85,_,K1⟩,⟨74,_,Om⟩,⟨73,_,EL⟩]
def nr (ai al:Int) (ap:(List En)) (cR:aa) (tD tE:Int) (qz:(List Fd)) (tF tG:aa) (tH:Int) (eY:aa) (eZ:Bool) (e_:(List Fd)) (fa:aa) (fb:Int) (fc:(List En)) (fd:Int) (dX:(List En)) (U6:Int→Int→(List En)→aa→Int→Int→(List Fd)→aa→aa→Int→aa→Bool→(List Fd)→aa→Int→(List En)→Int→(List En)→OR') (cI:Int→(List En)→aa→Int→Int→(List Fd)→aa→aa→Int→aa→Bool→(List Fd)→aa→Int→(List En)→Int→(List En)→OR'):OR':=
 (bif(decide (ai< (ap.length:Int)))then(bif(decide (0≤ai))then(bif(decide (ai< (ap.length:Int)))then(bif(!(decide ((List.getD ap (Int.toNat ai) en0).1=cR)))then(bif(decide (0≤ai))then(bif(decide (ai< (ap.length:Int)))then(bif(decide (((0+(List.length (List.getD ap (Int.toNat ai) en0).2.2.2.1))*32)≤140737488355328))then(bif(decide (((0+(List.length (List.getD ap (Int.toNat ai) en0).2.2.2.2.2.2.2.2.2.1))*32)≤140737488355328))then(bif(decide (((dX.length+(List.length (List.set (List.replicate 1 en0) 0 ((List.getD ap (Int.toNat ai) en0).1,((List.getD ap (Int.toNat ai) en0).2.1,((List.getD ap (Int.toNat ai) en0).2.2.1,((List.getD ap (Int.toNat ai) en0).2.2.2.1,((List.getD ap (Int.toNat ai) en0).2.2.2.2.1,((List.getD ap (Int.toNat ai) en0).2.2.2.2.2.1,((List.getD ap (Int.toNat ai) en0).2.2.2.2.2.2.1,((List.getD ap (Int.toNat ai) en0).2.2.2.2.2.2.2.1,((List.getD ap (Int.toNat ai) en0).2.2.2.2.2.2.2.2.1,((List.getD ap (Int.toNat ai) en0).2.2.2.2.2.2.2.2.2.1,(List.getD ap (Int.toNat ai) en0).2.2.2.2.2.2.2.2.2.2)))))))))))))*160)≤140737488355328))then(U6 (ac (ai+1)) al ap cR tD tE qz tF tG tH eY eZ e_ fa fb fc fd (dX++(List.set (List.replicate 1 en0) 0 ((List.getD ap (Int.toNat ai) en0).1,((List.getD ap (Int.toNat ai) en0).2.1,((List.getD ap (Int.toNat ai) en0).2.2.1,((List.getD ap (Int.toNat ai) en0).2.2.2.1,((List.getD ap (Int.toNat ai) en0).2.2.2.2.1,((List.getD ap (Int.toNat ai) en0).2.2.2.2.2.1,((List.getD ap (Int.toNat ai) en0).2.2.2.2.2.2.1,((List.getD ap (Int.toNat ai) en0).2.2.2.2.2.2.2.1,((List.getD ap (Int.toNat ai) en0).2.2.2.2.2.2.2.2.1,((List.getD ap (Int.toNat ai) en0).2.2.2.2.2.2.2.2.2.1,(List.getD ap (Int.toNat ai) en0).2.2.2.2.2.2.2.2.2.2)))))))))))))else(none))else(none))else(none))else(none))else(none))else(bif(decide (0≤ai))then(bif(decide (ai< (ap.length:Int)))then(bif(isM (List.getD ap (Int.toNat ai) en0).1)then(bif(fS ((List.getD ap (Int.toNat ai) en0).1,((List.getD ap (Int.toNat ai) en0).2.1,((List.getD ap (Int.toNat ai) en0).2.2.1,((List.getD ap (Int.toNat ai) en0).2.2.2.1,((List.getD ap (Int.toNat ai) en0).2.2.2.2.1,((List.getD ap (Int.toNat ai) en0).2.2.2.2.2.1,((List.getD ap (Int.toNat ai) en0).2.2.2.2.2.2.1,((List.getD ap (Int.toNat ai) en0).2.2.2.2.2.2.2.1,((List.getD ap (Int.toNat ai) en0).2.2.2.2.2.2.2.2.1,((List.getD ap (Int.toNat ai) en0).2.2.2.2.2.2.2.2.2.1,(List.getD ap (Int.toNat ai) en0).2.2.2.2.2.2.2.2.2.2)))))))))) qz)then(U6 (ac (ai+1)) al ap cR tD tE qz tF tG tH eY eZ e_ fa fb fc fd dX)else(bif(decide (0≤ai))then(bif(decide (ai< (ap.length:Int)))then(bif(decide (((0+(List.length (List.getD ap (Int.toNat ai) en0).2.2.2.1))*32)≤140737488355328))then(bif(decide (((0+(List.length (List.getD ap (Int.toNat ai) en0).2.2.2.2.2.2.2.2.2.1))*32)≤140737488355328))then(bif(decide (((dX.length+(List.length (List.set (List.replicate 1 en0) 0 ((List.getD ap (Int.toNat ai) en0).1,((List.getD ap (Int.toNat ai) en0).2.1,((List.getD ap (Int.toNat ai) en0).2.2.1,((List.getD ap (Int.toNat ai) en0).2.2.2.1,((List.getD ap (Int.toNat ai) en0).2.2.2.2.1,((List.getD ap (Int.toNat ai) en0).2.2.2.2.2.1,((List.getD ap (Int.toNat ai) en0).2.2.2.2.2.2.1,((List.getD ap (Int.toNat ai) en0).2.2.2.2.2.2.2.1,((List.getD ap (Int.toNat ai) en0).2.2.2.2.2.2.2.2.1,((List.getD ap (Int.toNat ai) en0).2.2.2.2.2.2.2.2.2.1,(List.getD ap (Int.toNat ai) en0).2.2.2.2.2.2.2.2.2.2)))))))))))))*160)≤140737488355328))then(U6 (ac (ai+1)) al ap cR tD tE qz tF tG tH eY eZ e_ fa fb fc fd (dX++(List.set (List.replicate 1 en0) 0 ((List.getD ap (Int.toNat ai) en0).1,((List.getD ap (Int.toNat ai) en0).2.1,((List.getD ap (Int.toNat ai) en0).2.2.1,((List.getD ap (Int.toNat ai) en0).2.2.2.1,((List.getD ap (Int.toNat ai) en0).2.2.2.2.1,((List.getD ap (Int.toNat ai) en0).2.2.2.2.2.1,((List.getD ap (Int.toNat ai) en0).2.2.2.2.2.2.1,((List.getD ap (Int.toNat ai) en0).2.2.2.2.2.2.2.1,((List.getD ap (Int.toNat ai) en0).2.2.2.2.2.2.2.2.1,((List.getD ap (Int.toNat ai) en0).2.2.2.2.2.2.2.2.2.1,(List.getD ap (Int.toNat ai) en0).2.2.2.2.2.2.2.2.2.2)))))))))))))else(none))else(none))else(none))else(none))else(none)))else(none))else(none))else(none)))else(none))else(none))else(cI al ap cR tD tE qz tF tG tH eY eZ e_ fa fb fc fd dX))
def ia:Nat→Int→Int→(List En)→aa→Int→Int→(List Fd)→aa→aa→Int→aa→Bool→(List Fd)→aa→Int→(List En)→Int→(List En)→(Int→(List En)→aa→Int→Int→(List Fd)→aa→aa→Int→aa→Bool→(List Fd)→aa→Int→(List En)→Int→(List En)→OR')→OR'
 |0,_,_,_,_,_,_,_,_,_,_,_,_,_,_,_,_,_,_,_=>none
 |n+1,ai,al,ap,cR,tD,tE,qz,tF,tG,tH,eY,eZ,e_,fa,fb,fc,fd,dX,cI=>nr ai al ap cR tD tE qz tF tG tH eY eZ e_ fa fb fc fd dX (fun ai al ap cR tD tE qz tF tG tH eY eZ e_ fa fb fc fd dX=>ia n ai al ap cR tD tE qz tF tG tH eY eZ e_ fa fb fc fd dX cI) cI
abbrev sPutc_p3:SP:=⟨78,[2,3,4,5,6],[(.v (.ptr 192 0)),(.v (.ptr 256 0)),(.v (.ptr 320 0)),(.v (.ptr 384 0)),(.v (.i .i64))],[(192,.var [(.i .i64),(.sh EnT)]),(256,.var [.s,(.i .i64),(.i .i64),(.sh (Ty.pair Ty.str Ty.str)),.s,.s,(.i .i64),.s,.b,(.sh (Ty.pair Ty.str Ty.str)),.s]),(320,.var [(.i .i64),(.ref 322 0)]),(322,.arr EnT 0 false),(384,.var [(.i .i64),(.ref 386 0)]),(386,.arr EnT 0 false)]⟩
noncomputable def EW:Code:=ax (aD Tryz.f47) [1,1,0,1,0,0]
def EX (f:(Int→(List En)→aa→Int→Int→(List Fd)→aa→aa→Int→aa→Bool→(List Fd)→aa→Int→(List En)→Int→(List En)→OR')→OR') (k:KT):OR':=f (fun aQ qv iB ky kz iC kA kB kC kD fT fU gz jj jk vy qw=>k (Ex.exit 0) ((St.mk (aw 0 78 [(2,(AV.ptr 192 0)),(3,(AV.ptr 256 0)),(4,(AV.ptr 320 0)),(5,(AV.ptr 384 0))]) ((192,(Ob.var ((AV.int .i64 aQ)::((AV.sh EnT qv)::[]))))::((256,(Ob.var ((AV.str iB)::((AV.int .i64 ky)::((AV.int .i64 kz)::((AV.sh (Ty.pair Ty.str Ty.str) iC)::((AV.str kA)::((AV.str kB)::((AV.int .i64 kC)::((AV.str kD)::((AV.bool fT)::((AV.sh (Ty.pair Ty.str Ty.str) fU)::((AV.str gz)::[])))))))))))))::((320,(Ob.var ((AV.int .i64 jj)::((AV.ref 322 0)::[]))))::((322,(Ob.arr EnT 0 false jk))::((384,(Ob.var ((AV.int .i64 vy)::((AV.ref 386 0)::[]))))::((386,(Ob.arr EnT 0 false qw))::([]:(List (Nat×(Ob)))))))))))))
def EY (n:Nat) (d:sPutc_p3.D):KT→OR':=EX (ia n d.1.2.2.2.2.1 d.2.1.1 d.2.1.2.1 d.2.2.1.1 d.2.2.1.2.1 d.2.2.1.2.2.1 d.2.2.1.2.2.2.1 d.2.2.1.2.2.2.2.1 d.2.2.1.2.2.2.2.2.1 d.2.2.1.2.2.2.2.2.2.1 d.2.2.1.2.2.2.2.2.2.2.1 d.2.2.1.2.2.2.2.2.2.2.2.1 d.2.2.1.2.2.2.2.2.2.2.2.2.1 d.2.2.1.2.2.2.2.2.2.2.2.2.2.1 d.2.2.2.1.1 d.2.2.2.2.1 d.2.2.2.2.2.1.1 d.2.2.2.2.2.2.1)
def zB (cf:Int) (cP:(List En)) (cr:Int) (vz:(List En)) (vA:Int) (ik:(List En)) (PU:Int→(List En)→Int→(List En)→Int→(List En)→OR') (qW:Int→(List En)→Int→(List En)→OR'):OR':=
 (bif(decide (30< (ik.length:Int)))then(bif(decide (1≤(ik.length:Int)))then(PU cf cP cr vz vA (cut ik 1 (ik.length:Int)))else(none))else(bif(jn ik)then(bif(decide (cf< (nq ik)))then(bif(decide (1≤(ik.length:Int)))then(PU cf cP cr vz vA (cut ik 1 (ik.length:Int)))else(none))else(qW cr vz vA ik))else(none)))
def kr:Nat→Int→(List En)→Int→(List En)→Int→(List En)→(Int→(List En)→Int→(List En)→OR')→OR'
 |0,_,_,_,_,_,_,_=>none
 |n+1,cf,cP,cr,vz,vA,ik,qW=>zB cf cP cr vz vA ik (fun cf cP cr vz vA ik=>kr n cf cP cr vz vA ik qW) qW
abbrev sPutc_p10:SP:=⟨78,[2,4,5],[(.v (.ptr 192 0)),(.v (.ptr 320 0)),(.v (.ptr 384 0))],[(192,.var [(.i .i64),(.sh EnT)]),(320,.var [(.i .i64),(.ref 322 0)]),(322,.arr EnT 0 false),(384,.var [(.i .i64),(.ref 386 0)]),(386,.arr EnT 0 false)]⟩
noncomputable def zC:Code:=ax (aD Tryz.f47) [1,1,1,1,1,0,0,0]
def zD (f:(Int→(List En)→Int→(List En)→OR')→OR') (k:KT):OR':=f (fun qr qt B6 B7=>k (Ex.exit 2) ((St.mk (aw 0 78 [(4,(AV.ptr 320 0)),(5,(AV.ptr 384 0))]) ((320,(Ob.var ((AV.int .i64 qr)::((AV.ref 322 0)::[]))))::((322,(Ob.arr EnT 0 false qt))::((384,(Ob.var ((AV.int .i64 B6)::((AV.ref 386 0)::[]))))::((386,(Ob.arr EnT 0 false B7))::([]:(List (Nat×(Ob)))))))))))
def zE (n:Nat) (d:sPutc_p10.D):KT→OR':=zD (kr n d.2.1.1 d.2.1.2.1 d.2.2.1.1 d.2.2.2.1 d.2.2.2.2.1.1 d.2.2.2.2.2.1)
def BP (N:Nat):Lam:=bf [⟨3,sPutc_p3,EY N⟩,⟨10,sPutc_p10,zE N⟩]
theorem LW (N:Nat):OkL Kx sPutc_C.s BO 0 N (BP N) EW:=okL sPutc_p3 (EY) (fun d kR=>EX (nr d.1.2.2.2.2.1 d.2.1.1 d.2.1.2.1 d.2.2.1.1 d.2.2.1.2.1 d.2.2.1.2.2.1 d.2.2.1.2.2.2.1 d.2.2.1.2.2.2.2.1 d.2.2.1.2.2.2.2.2.1 d.2.2.1.2.2.2.2.2.2.1 d.2.2.1.2.2.2.2.2.2.2.1 d.2.2.1.2.2.2.2.2.2.2.2.1 d.2.2.1.2.2.2.2.2.2.2.2.2.1 d.2.2.1.2.2.2.2.2.2.2.2.2.2.1 d.2.2.2.1.1 d.2.2.2.2.1 d.2.2.2.2.2.1.1 d.2.2.2.2.2.2.1 (fun ai al ap cR tD tE qz tF tG tH eY eZ e_ fa fb fc fd dX=>kR (((),(),(),(),ai,()),((al,ap,()),(cR,tD,tE,qz,tF,tG,tH,eY,eZ,e_,fa,()),(fb,(),()),fc,(fd,(),()),dX,()))))) (fun _ _=>by kernel_rfl) (fun _ _ _=>by kernel_rfl) (fun _ _=>by kernel_rfl) (fun _ _ _ _=>by kernel_rfl) (ah (l':=[]) (by kernel_rfl) trivial)
theorem Hl (N:Nat):OkL Kx sPutc_C.s BO 0 N (BP N) zC:=okL sPutc_p10 (zE) (fun d kR=>zD (zB d.2.1.1 d.2.1.2.1 d.2.2.1.1 d.2.2.2.1 d.2.2.2.2.1.1 d.2.2.2.2.2.1 (fun cf cP cr vz vA ik=>kR (((),(),(),()),((cf,cP,()),(cr,(),()),vz,(vA,(),()),ik,()))))) (fun _ _=>by kernel_rfl) (fun _ _ _=>by kernel_rfl) (fun _ _=>by kernel_rfl) (fun _ _ _ _=>by kernel_rfl) (ah (l':=[]) (by kernel_rfl) trivial)
def zF (N:Nat) (bu:Int) (l:List En) (ur:aa) (t1 t2:Int) (ak:List Fd) (me ta:aa) (st:Int) (re:aa) (ba:Bool) (fs:List Fd) (bo:aa):OR':=(ia N 0 bu l ur t1 t2 ak me ta st re ba fs bo 0 ([]:(List En)) bu ([]:(List En)) (fun aQ=>(fun qv=>(fun iB=>(fun ky=>(fun kz=>(fun iC=>(fun kA=>(fun kB=>(fun kC=>(fun kD=>(fun fT=>(fun fU=>(fun gz=>(fun jj=>(fun jk=>(fun vy=>(fun qw=>(bif(isM iB)then(bif(decide (aQ< (fO (iB,(ky,(kz,(iC,(kA,(kB,(kC,(kD,(fT,(fU,gz)))))))))))))then(some ((AV.agg ((AV.int .i64 vy)::((AV.ref 0 0)::[]))),((Ob.arr EnT 0 false qw)::[])))else(bif(decide (((0+iC.length)*32)≤140737488355328))then(bif(decide (((0+fU.length)*32)≤140737488355328))then(bif(decide (((qw.length+(List.length (List.set (List.replicate 1 en0) 0 (iB,(ky,(kz,(iC,(kA,(kB,(kC,(kD,(fT,(fU,gz)))))))))))))*160)≤140737488355328))then(kr N aQ qv jj jk vy (qw++(List.set (List.replicate 1 en0) 0 (iB,(ky,(kz,(iC,(kA,(kB,(kC,(kD,(fT,(fU,gz)))))))))))) (fun qr=>(fun qt=>(fun B6=>(fun B7=>(some ((AV.agg ((AV.int .i64 B6)::((AV.ref 0 0)::[]))),((Ob.arr EnT 0 false B7)::[]))))))))else(none))else(none))else(none)))else(none))))))))))))))))))))
def zG (φ:Int→(List En)→aa→Int→Int→(List Fd)→aa→aa→Int→aa→Bool→(List Fd)→aa→Br):List AV→List Ob→Br
 | [.agg [.int .i64 bu,.sh EnT l],.agg [.str ur,.int .i64 t1,.int .i64 t2,.sh (.pair .str .str) ak,.str me,.str ta,.int .i64 st,.str re,.bool ba,.sh (.pair .str .str) fs,.str bo]],[]=>φ bu l ur t1 t2 ak me ta st re ba fs bo
 |_,_=>.fail
theorem Hm {φ:Int→(List En)→aa→Int→Int→(List Fd)→aa→aa→Int→aa→Bool→(List Fd)→aa→Br} (fu:Int→(List En)→aa→Int→Int→(List Fd)→aa→aa→Int→aa→Bool→(List Fd)→aa→Nat) (hv: ∀bu l ur t1 t2 ak me ta st re ba fs bo res_,(φ bu l ur t1 t2 ak me ta st re ba fs bo).val=some res_→zF (fu bu l ur t1 t2 ak me ta st re ba fs bo) bu l ur t1 t2 ak me ta st re ba fs bo=some res_):Sound Kx 47 (zG φ):=aj (C:=sPutc_C) (O:=BO) Tryz.func47 (by kernel_rfl) fun args objs=>by
 unfold zG;split
 ·rename_i bu l ur t1 t2 ak me ta st re ba fs bo;exact .inr fun _ hyp_=>aO (Λ:=BP (fu bu l ur t1 t2 ak me ta st re ba fs bo)) (by kernel_rfl) (ah (l':=[EW,zC]) (by kernel_rfl) ⟨LW _,Hl _,trivial⟩) (by kernel_rfl) (hv bu l ur t1 t2 ak me ta st re ba fs bo _ hyp_)
 ·exact .inl rfl
theorem dnt {a:Nat} {b:Nat} (h:a≤b):decide (a≤b)=true:=dT' h
theorem Q8 {l:List En} (h:l.length≤1048576) (h2: ∀e∈l,e.1.length≤1048576):jn l=true:=by
 unfold jn
 rw [dT' h,Bool.true_and,List.all_eq_true]
 exact fun e he=>dT' (h2 e he)
def Mq (bu:Int):List En→List En
 | []=>[]
 |x::r=>bif decide ((30:Int)< ((x::r).length:Int))||decide (bu<nq (x::r))then Mq bu r else x::r
def Mr (bu:Int) (l:List En) (e:En):List En:=bif decide (bu<fO e)then l.filter (fun x=>gx x e.1 e.2.2.2.1)else Mq bu (l.filter (fun x=>gx x e.1 e.2.2.2.1)++[e])
def Ms (bu:Int) (l:List En) (e:En):Bool:=On l&&jn l&&gt e&&decide (e.1.length≤1048576)&&decide (0≤bu)
theorem LX {bu:Int} {l:List En} {e:En} (h:Ms bu l e=true):l.length≤30∧(∀e∈l,gt e=true)∧(∀e∈l,e.1.length≤1048576)∧gt e=true∧e.1.length≤1048576∧0≤bu:=by
 unfold Ms at h
 simp only [Bool.and_eq_true,decide_eq_true_eq]at h
 obtain⟨h1,h2⟩:=vr h.1.1.1.1
 exact⟨h1,h2,(hY h.1.1.1.2).2,h.1.1.2,h.1.2,h.2⟩
theorem Or {α:Type} (x:α) (r:List α):cut (x::r) 1 ((x::r).length:Int)=r:=by
 unfold cut
 rw [Int.toNat_natCast,List.take_length]
 rfl
theorem zH {R:Type} (bu:Int) (hb:0≤bu) (F:Nat→List En→Option R) (K:List En→Option R)
 (hF: ∀n o,F (n+1) o=bif decide ((30:Int)< (o.length:Int))then(bif decide ((1:Int)≤(o.length:Int))then F n (cut o 1 (o.length:Int))else none)else
  (bif jn o then(bif decide (bu<nq o)then(bif decide ((1:Int)≤(o.length:Int))then F n (cut o 1 (o.length:Int))else none)else K o)else none)):
 ∀(o:List En) (n:Nat),o.length<n→o.length≤100→(∀e∈o,e.1.length≤1048576)→F n o=K (Mq bu o):=by
 intro o;induction o with
 |nil=>
  intro n hn _ _;obtain⟨n,rfl⟩:=bh hn
  rw [hF]
  have e1:decide (bu<nq [])=false:=dF' (by simp only [nq];omega)
  rw [e1];rfl
 |cons x r ih=>
  intro n hn hl hm;obtain⟨n,rfl⟩:=bh hn
  have e1:jn (x::r)=true:=Q8 (by omega) hm
  have e2:decide ((1:Int)≤((x::r).length:Int))=true:=dT' (by simp only [List.length_cons];omega)
  have hr:=ih n (by simp only [List.length_cons]at hn;omega) (by simp only [List.length_cons]at hl;omega) fun e he=>hm e (List.mem_cons_of_mem _ he)
  have e3:Mq bu (x::r)=bif decide ((30:Int)< ((x::r).length:Int))||decide (bu<nq (x::r))then Mq bu r else x::r:=rfl
  rw [hF,e1,e2,Or,hr,e3]
  cases decide ((30:Int)< ((x::r).length:Int))<;>cases decide (bu<nq (x::r))<;>rfl
theorem LY (l:List En) (hl:l.length≤30) (ur:aa) (t1 t2:Int) (ak:List Fd) (me ta:aa) (st:Int) (re:aa) (ba:Bool) (fs:List Fd) (bo:aa) (a bu:Int) (z:List En) (k:aa→Int→Int→List Fd→aa→aa→Int→aa→Bool→List Fd→aa→Int→List En→Int→List En→OR'):
 ∀(r:List En) (i:Int) (n:Nat) (out:List En),At l i r→r.length<n→(∀e∈r,gt e=true)→(∀e∈r,e.1.length≤1048576)→out.length+r.length≤30→
 lq n l (l.length:Int) i ur t1 t2 ak me ta st re ba fs bo a z bu out k=k ur t1 t2 ak me ta st re ba fs bo a z bu (out++r.filter (fun x=>gx x ur ak)):=by
 intro r;induction r with
 |nil=>intro i n out h hn hf hm ho;obtain⟨n,rfl⟩:=bh hn;unfold lq vu;rw [h.dge,cond_false];simp
 |cons e r ih=>
  intro i n out h hn hf hm ho;obtain⟨n,rfl⟩:=bh hn
  obtain⟨s1,s2⟩:=kq (hf e (List.mem_cons_self ..))
  have hM:isM e.1=true:=aW (n:=1048576) (hm e (List.mem_cons_self ..))
  have hr:=fun x h=>hf x (List.mem_cons_of_mem _ h)
  have hr':=fun x h=>hm x (List.mem_cons_of_mem _ h)
  simp only [List.length_cons]at hn ho
  have d1:decide (e.2.2.2.1.length≤1000000)=true:=dT' (by omega)
  have d2:decide (e.2.2.2.2.2.2.2.2.2.1.length≤1000000)=true:=dT' (by omega)
  unfold lq vu
  simp (disch:=omega) only [h.dlt,h.dnn,h.get,h.next (show l.length≤4611686018427387904 by omega),d1,d2,hM,apE,j6,cond_true]
  rw [List.filter_cons]
  cases gx e ur ak
  ·simp only [cond_false]
   exact ih (i+1) n _ h.step (by omega) hr hr' (by omega)
  ·simp only [cond_true,if_true,be]
   rw [ih (i+1) n _ h.step (by omega) hr hr' (by simp only [List.length_append,List.length_singleton];omega)]
   simp
theorem Hn (l:List En) (hl:l.length≤30) (ur:aa) (t1 t2:Int) (ak:List Fd) (me ta:aa) (st:Int) (re:aa) (ba:Bool) (fs:List Fd) (bo:aa) (a bu cu:Int) (z:List En) (k:Int→List En→aa→Int→Int→List Fd→aa→aa→Int→aa→Bool→List Fd→aa→Int→List En→Int→List En→OR'):
 ∀(r:List En) (i:Int) (n:Nat) (out:List En),At l i r→r.length<n→(∀e∈r,gt e=true)→(∀e∈r,e.1.length≤1048576)→out.length+r.length≤30→
 ia n i cu l ur t1 t2 ak me ta st re ba fs bo a z bu out k=k cu l ur t1 t2 ak me ta st re ba fs bo a z bu (out++r.filter (fun x=>gx x ur ak)):=by
 intro r;induction r with
 |nil=>intro i n out h hn hf hm ho;obtain⟨n,rfl⟩:=bh hn;unfold ia nr;rw [h.dge,cond_false];simp
 |cons e r ih=>
  intro i n out h hn hf hm ho;obtain⟨n,rfl⟩:=bh hn
  obtain⟨s1,s2⟩:=kq (hf e (List.mem_cons_self ..))
  have hM:isM e.1=true:=aW (n:=1048576) (hm e (List.mem_cons_self ..))
  have hr:=fun x h=>hf x (List.mem_cons_of_mem _ h)
  have hr':=fun x h=>hm x (List.mem_cons_of_mem _ h)
  simp only [List.length_cons]at hn ho
  have d1:=ap0 (show e.2.2.2.1.length≤1000000 by omega)
  have d2:=ap0 (show e.2.2.2.2.2.2.2.2.2.1.length≤1000000 by omega)
  have h1:=ih (i+1) n (out++[e]) h.step (by omega) hr hr' (by simp only [List.length_append,List.length_singleton];omega)
  have h2:=ih (i+1) n out h.step (by omega) hr hr' (by omega)
  unfold ia nr
  simp (disch:=omega) only [h.dlt,h.dnn,h.get,h.next (show l.length≤4611686018427387904 by omega),d1,d2,hM,apE,j6,cond_true]
  rw [List.filter_cons]
  simp only [be,h1,h2]
  unfold gx
  cases decide (e.1=ur)<;>cases fS e ak<;>simp
def Ot:List AV→List Ob→Br
 | [.agg [.int .i64 bu,.sh (.pair .str (.pair (.int .i64) (.pair (.int .i64) (.pair (.slice (.pair .str .str)) (.pair .str (.pair .str (.pair (.int .i64) (.pair .str (.pair .bool (.pair (.slice (.pair .str .str)) .str)))))))))) l],.agg [.str ur,.int .i64 t1,.int .i64 t2,.sh (.pair .str .str) ak,.str me,.str ta,.int .i64 st,.str re,.bool ba,.sh (.pair .str .str) fs,.str bo]],[]=>
   .ite (Ms bu l (ur,t1,t2,ak,me,ta,st,re,ba,fs,bo)) (.ret (caA bu) (caO (Mr bu l (ur,t1,t2,ak,me,ta,st,re,ba,fs,bo)))) .fail
 |_,_=>.fail
def Rm (l:List En) (ur:aa) (ak:List Fd):List En:=l.filter fun x=>gx x ur ak
def UU:List AV→List Ob→Br
 | [.agg [.int .i64 bu,.sh (.pair .str (.pair (.int .i64) (.pair (.int .i64) (.pair (.slice (.pair .str .str)) (.pair .str (.pair .str (.pair (.int .i64) (.pair .str (.pair .bool (.pair (.slice (.pair .str .str)) .str)))))))))) l],.fn 91 [.ptr 0 0]],[.var [.str ur,.int .i64 t1,.int .i64 t2,.sh (.pair .str .str) ak,.str me,.str ta,.int .i64 st,.str re,.bool ba,.sh (.pair .str .str) fs,.str bo]]=>
   .ite (On l&&jn l) (.ret (.agg [.int .i64 bu,.ref 1 0]) [.var [.str ur,.int .i64 t1,.int .i64 t2,.sh (.pair .str .str) ak,.str me,.str ta,.int .i64 st,.str re,.bool ba,.sh (.pair .str .str) fs,.str bo],.arr EnT 0 false (Rm l ur ak)]) .fail
 |_,_=>.fail
theorem Ou:Sound Kx 58 UU:=by
 refine(LV (φ:=fun bu l ur t1 t2 ak me ta st re ba fs bo=>.ite (On l&&jn l) (.ret (.agg [.int .i64 bu,.ref 1 0]) [.var [.str ur,.int .i64 t1,.int .i64 t2,.sh (.pair .str .str) ak,.str me,.str ta,.int .i64 st,.str re,.bool ba,.sh (.pair .str .str) fs,.str bo],.arr EnT 0 false (Rm l ur ak)]) .fail) (fun _ l _ _ _ _ _ _ _ _ _ _ _=>l.length+1) fun bu l ur t1 t2 ak me ta st re ba fs bo r h=> ?_).of fun args objs r h=> ?_
 ·obtain⟨h1,h2⟩:=af h
  cases h2
  rw [Bool.and_eq_true]at h1
  obtain⟨g1,g2⟩:=vr h1.1
  unfold EU
  rw [LY l g1 ur t1 t2 ak me ta st re ba fs bo 0 bu [] _ l 0 _ [] (At.start l) (by omega) g2 (hY h1.2).2 (by simpa using g1)]
  rfl
 ·unfold UU at h;split at h
  ·exact h
  ·cases h
theorem LZ:Sound Kx 47 Ot:=by
 refine(Hm (φ:=fun bu l ur t1 t2 ak me ta st re ba fs bo=>.ite (Ms bu l (ur,t1,t2,ak,me,ta,st,re,ba,fs,bo)) (.ret (caA bu) (caO (Mr bu l (ur,t1,t2,ak,me,ta,st,re,ba,fs,bo)))) .fail) (fun _ l _ _ _ _ _ _ _ _ _ _ _=>l.length+2) fun bu l ur t1 t2 ak me ta st re ba fs bo r h=> ?_).of fun args objs r h=> ?_
 ·obtain⟨h1,h2⟩:=af h
  cases h2
  obtain⟨g1,g2,g3,g4,g5,g6⟩:=LX h1
  obtain⟨s1,s2⟩:=kq g4
  simp only at s1 s2 g5
  have hM:isM ur=true:=aW (n:=1048576) g5
  unfold zF
  rw [Hn l g1 ur t1 t2 ak me ta st re ba fs bo 0 bu bu [] _ l 0 _ [] (At.start l) (by omega) g2 g3 (by simpa using g1)]
  rw [List.nil_append,hM,cond_true]
  unfold Mr
  simp only
  have hfl:=List.length_filter_le (fun x=>gx x ur ak) l
  cases decide (bu<fO (ur,t1,t2,ak,me,ta,st,re,ba,fs,bo))
  ·rw [ap0 (show ak.length≤1000000 by omega),ap0 (show fs.length≤1000000 by omega),apE _ _ _ (by omega)]
   simp only [cond_true,cond_false,be]
   rw [zH bu g6 (fun n o=>kr n bu l 0 [] bu o fun _ _ x y=>some (.agg [.int .i64 x,.ref 0 0],[.arr EnT 0 false y])) (fun y=>some (.agg [.int .i64 bu,.ref 0 0],[.arr EnT 0 false y])) (fun n o=>by rfl) _ _ (by simp only [List.length_append,List.length_singleton];omega) (by simp only [List.length_append,List.length_singleton];omega) (fun e he=>by
    rcases List.mem_append.1 he with he|he
    ·exact g3 e (List.mem_filter.1 he).1
    ·rw [List.mem_singleton.1 he];exact g5)]
   rfl
  ·rfl
 ·unfold Ot at h;split at h
  ·exact h
  ·cases h
def BQ:SC:=[⟨43,_,qT⟩]
def zI (bu:Int) (l:List En) (k:Int):Br:=(Br.ite ((((decide (0<k))&&(decide ((k+(a_ l))≤100000000)))&&(decide (l.length≤10000000)))&&(gw l (bt l k))) (Br.ite (decide ((k+(a_ l))<0)) (Br.ret (AV.int .i64 (-1)) []) (Br.ret (AV.int .i64 (k+(a_ l))) [])) Br.fail)
def qm:List AV→List Ob→Br
 | [.agg [.int .i64 bu,.sh EnT l],.int .i64 k],[]=>zI bu l k
 |_,_=>.fail
theorem zJ:Sound Kx 14 qm:=ae (C:=BQ) (O:=O0) Tryz.func14 (by kernel_rfl) fun args objs=>by
 unfold qm;split
 ·exact .inr (by kernel_rfl)
 ·exact .inl rfl
theorem zK {bu:Int} {l:List En} (h:dr bu l=true):On l=true:=by
 unfold dr at h
 simp only [Bool.and_eq_true,decide_eq_true_eq]at h
 unfold On
 rw [dT' h.1.1.2,h.1.2];rfl
def L5:Opt:={cons:=[35],live:=[(5,[4,5])],outs:=[(5,[4,5])],split:=true}
def iPutc_C:SC:=[⟨58,_,Ou⟩,⟨93,_,KZ⟩,⟨94,_,LQ⟩,⟨76,_,EK⟩]
def EZ (aI:Int) (aU:(List En)) (aH:Int) (cK:(List En)) (U8 cJ:Int→(List En)→Int→(List En)→OR'):OR':=
 (bif(decide (30< (cK.length:Int)))then(bif(decide (1≤(cK.length:Int)))then(U8 aI aU aH (cut cK 1 (cK.length:Int)))else(none))else(bif(jn cK)then(bif(decide (aH< (nq cK)))then(bif(decide (1≤(cK.length:Int)))then(U8 aI aU aH (cut cK 1 (cK.length:Int)))else(none))else(cJ aI aU aH cK))else(none)))
def ns:Nat→Int→(List En)→Int→(List En)→(Int→(List En)→Int→(List En)→OR')→OR'
 |0,_,_,_,_,_=>none
 |n+1,aI,aU,aH,cK,cJ=>EZ aI aU aH cK (fun aI aU aH cK=>ns n aI aU aH cK cJ) cJ
abbrev iPutc_p5:SP:=⟨38,[4,5],[(.v (.ptr 320 0)),(.v (.ptr 384 0))],[(320,.var [(.i .i64),(.ref 322 0)]),(322,.arr EnT 0 false),(384,.var [(.i .i64),(.ref 386 0)]),(386,.arr EnT 0 false)]⟩
noncomputable def E0:Code:=ax (aD Tryz.f51) [1,1,1,1,0,0,0]
def E1 (f:(Int→(List En)→Int→(List En)→OR')→OR') (k:KT):OR':=f (fun am b6 dt qp=>k (Ex.exit 0) ((St.mk (aw 0 38 [(4,(AV.ptr 320 0)),(5,(AV.ptr 384 0))]) ((320,(Ob.var ((AV.int .i64 am)::((AV.ref 322 0)::[]))))::((322,(Ob.arr EnT 0 false b6))::((384,(Ob.var ((AV.int .i64 dt)::((AV.ref 386 0)::[]))))::((386,(Ob.arr EnT 0 false qp))::([]:(List (Nat×(Ob)))))))))))
def E2 (n:Nat) (d:iPutc_p5.D):KT→OR':=E1 (ns n d.2.1.1 d.2.2.1 d.2.2.2.1.1 d.2.2.2.2.1)
def L6 (N:Nat):Lam:=bf [⟨5,iPutc_p5,E2 N⟩]
theorem L7 (N:Nat):OkL Kx iPutc_C.s L5 0 N (L6 N) E0:=okL iPutc_p5 (E2) (fun d kR=>E1 (EZ d.2.1.1 d.2.2.1 d.2.2.2.1.1 d.2.2.2.2.1 (fun aI aU aH cK=>kR (((),(),()),((aI,(),()),aU,(aH,(),()),cK,()))))) (fun _ _=>by kernel_rfl) (fun _ _ _=>by kernel_rfl) (fun _ _=>by kernel_rfl) (fun _ _ _ _=>by kernel_rfl) (ah (l':=[]) (by kernel_rfl) trivial)
def zL (N:Nat) (bu:Int) (l:List En) (ur:aa) (t1 t2:Int) (ak:List Fd) (me ta:aa) (st:Int) (re:aa) (ba:Bool) (fs:List Fd) (bo:aa):OR':=(bif((On l)&&(jn l))then(bif(isM ur)then(bif(decide (bu< (fO (ur,(t1,(t2,(ak,(me,(ta,(st,(re,(ba,(fs,bo)))))))))))))then(some ((AV.agg ((AV.int .i64 bu)::((AV.ref 0 0)::[]))),((Ob.arr EnT 0 false (Rm l ur ak))::[])))else(bif(decide (ak.length≤1000000))then(bif(decide (fs.length≤1000000))then(bif(decide ((((List.length (Rm l ur ak))+(List.length (List.set (List.replicate 1 en0) 0 (ur,(t1,(t2,(ak,(me,(ta,(st,(re,(ba,(fs,bo)))))))))))))*160)≤140737488355328))then(ns N 0 ([]:(List En)) bu ((Rm l ur ak)++(List.set (List.replicate 1 en0) 0 (ur,(t1,(t2,(ak,(me,(ta,(st,(re,(ba,(fs,bo)))))))))))) (fun am=>(fun b6=>(fun dt=>(fun qp=>(some ((AV.agg ((AV.int .i64 dt)::((AV.ref 0 0)::[]))),((Ob.arr EnT 0 false qp)::[]))))))))else(none))else(none))else(none)))else(none))else(none))
def zM (φ:Int→(List En)→aa→Int→Int→(List Fd)→aa→aa→Int→aa→Bool→(List Fd)→aa→Br):List AV→List Ob→Br
 | [.agg [.int .i64 bu,.sh EnT l],.agg [.str ur,.int .i64 t1,.int .i64 t2,.sh (.pair .str .str) ak,.str me,.str ta,.int .i64 st,.str re,.bool ba,.sh (.pair .str .str) fs,.str bo]],[]=>φ bu l ur t1 t2 ak me ta st re ba fs bo
 |_,_=>.fail
theorem Ho {φ:Int→(List En)→aa→Int→Int→(List Fd)→aa→aa→Int→aa→Bool→(List Fd)→aa→Br} (fu:Int→(List En)→aa→Int→Int→(List Fd)→aa→aa→Int→aa→Bool→(List Fd)→aa→Nat) (hv: ∀bu l ur t1 t2 ak me ta st re ba fs bo res_,(φ bu l ur t1 t2 ak me ta st re ba fs bo).val=some res_→zL (fu bu l ur t1 t2 ak me ta st re ba fs bo) bu l ur t1 t2 ak me ta st re ba fs bo=some res_):Sound Kx 51 (zM φ):=aj (C:=iPutc_C) (O:=L5) Tryz.func51 (by kernel_rfl) fun args objs=>by
 unfold zM;split
 ·rename_i bu l ur t1 t2 ak me ta st re ba fs bo;exact .inr fun _ hyp_=>aO (Λ:=L6 (fu bu l ur t1 t2 ak me ta st re ba fs bo)) (by kernel_rfl) (ah (l':=[E0]) (by kernel_rfl) ⟨L7 _,trivial⟩) (by kernel_rfl) (hv bu l ur t1 t2 ak me ta st re ba fs bo _ hyp_)
 ·exact .inl rfl
theorem L8:Sound Kx 51 Ot:=by
 refine(Ho (φ:=fun bu l ur t1 t2 ak me ta st re ba fs bo=>.ite (Ms bu l (ur,t1,t2,ak,me,ta,st,re,ba,fs,bo)) (.ret (caA bu) (caO (Mr bu l (ur,t1,t2,ak,me,ta,st,re,ba,fs,bo)))) .fail) (fun _ l _ _ _ _ _ _ _ _ _ _ _=>l.length+2) fun bu l ur t1 t2 ak me ta st re ba fs bo r h=> ?_).of fun args objs r h=> ?_
 ·obtain⟨h1,h2⟩:=af h
  cases h2
  obtain⟨g1,g2,g3,g4,g5,g6⟩:=LX h1
  obtain⟨s1,s2⟩:=kq g4
  simp only at s1 s2 g5
  have hM:isM ur=true:=aW (n:=1048576) g5
  have hG:(On l&&jn l)=true:=by
   unfold Ms at h1
   simp only [Bool.and_eq_true]at h1
   rw [h1.1.1.1.1,h1.1.1.1.2];rfl
  unfold zL
  rw [hG,hM,cond_true,cond_true]
  unfold Mr Rm
  simp only
  have hfl:=List.length_filter_le (fun x=>gx x ur ak) l
  cases decide (bu<fO (ur,t1,t2,ak,me,ta,st,re,ba,fs,bo))
  ·rw [dnt (show ak.length≤1000000 by omega),dnt (show fs.length≤1000000 by omega),apE _ _ _ (by omega)]
   simp only [cond_true,cond_false,be]
   rw [zH bu g6 (fun n o=>ns n 0 [] bu o fun _ _ x y=>some (.agg [.int .i64 x,.ref 0 0],[.arr EnT 0 false y])) (fun y=>some (.agg [.int .i64 bu,.ref 0 0],[.arr EnT 0 false y])) (fun n o=>by rfl) _ _ (by simp only [List.length_append,List.length_singleton];omega) (by simp only [List.length_append,List.length_singleton];omega) (fun e he=>by
    rcases List.mem_append.1 he with he|he
    ·exact g3 e (List.mem_filter.1 he).1
    ·rw [List.mem_singleton.1 he];exact g5)]
   rfl
  ·rfl
 ·unfold Ot at h;split at h
  ·exact h
  ·cases h
def S7:SC:=[⟨39,_,Oh⟩,⟨50,_,gu⟩,⟨51,_,L8⟩]
def BR (bu:Int) (l:List En) (ur:aa) (t1 t2:Int) (ak:List Fd) (me ta:aa) (st:Int) (re:aa) (ba:Bool) (fs:List Fd) (bo:aa):Br:=(Br.ite (jn l) (Br.ite (!(dr bu l)) (Br.ret (AV.agg ((AV.int .i64 0)::((AV.ref 0 0)::[]))) ((Ob.arr EnT 0 false ([]:(List En)))::[])) (Br.ite (isM ur) (Br.ite (!(gt (ur,(t1,(t2,(ak,(me,(ta,(st,(re,(ba,(fs,bo)))))))))))) (Br.ret (AV.agg ((AV.int .i64 0)::((AV.ref 0 0)::[]))) ((Ob.arr EnT 0 false ([]:(List En)))::[])) (Br.ite (Ms bu l (ur,(t1,(t2,(ak,(me,(ta,(st,(re,(ba,(fs,bo))))))))))) (Br.ret (AV.agg ((AV.int .i64 bu)::((AV.ref 0 0)::[]))) ((Ob.arr EnT 0 false (Mr bu l (ur,(t1,(t2,(ak,(me,(ta,(st,(re,(ba,(fs,bo))))))))))))::[])) Br.fail)) Br.fail)) Br.fail)
def PM:List AV→List Ob→Br
 | [.agg [.int .i64 bu,.sh EnT l],.agg [.str ur,.int .i64 t1,.int .i64 t2,.sh (.pair .str .str) ak,.str me,.str ta,.int .i64 st,.str re,.bool ba,.sh (.pair .str .str) fs,.str bo]],[]=>BR bu l ur t1 t2 ak me ta st re ba fs bo
 |_,_=>.fail
theorem iPut_ok:Sound Kx 18 PM:=ae (C:=S7) (O:=O0) Tryz.func18 (by kernel_rfl) fun args objs=>by
 unfold PM;split
 ·exact .inr (by kernel_rfl)
 ·exact .inl rfl
def S8:Opt:={split:=true}
def S9:SC:=[⟨36,_,Oi⟩,⟨46,_,gv⟩,⟨47,_,LZ⟩]
def BS (bu:Int) (l:List En) (ur:aa) (t1 t2:Int) (ak:List Fd) (me ta:aa) (st:Int) (re:aa) (ba:Bool) (fs:List Fd) (bo:aa):Br:=(Br.ite (jn l) (Br.ite (!(dr bu l)) (Br.ret (AV.agg ((AV.int .i64 0)::((AV.ref 0 0)::[]))) ((Ob.arr EnT 0 false ([]:(List En)))::[])) (Br.ite (isM ur) (Br.ite (!(gt (ur,(t1,(t2,(ak,(me,(ta,(st,(re,(ba,(fs,bo)))))))))))) (Br.ret (AV.agg ((AV.int .i64 0)::((AV.ref 0 0)::[]))) ((Ob.arr EnT 0 false ([]:(List En)))::[])) (Br.ite (Ms bu l (ur,(t1,(t2,(ak,(me,(ta,(st,(re,(ba,(fs,bo))))))))))) (Br.ret (AV.agg ((AV.int .i64 bu)::((AV.ref 0 0)::[]))) ((Ob.arr EnT 0 false (Mr bu l (ur,(t1,(t2,(ak,(me,(ta,(st,(re,(ba,(fs,bo))))))))))))::[])) Br.fail)) Br.fail)) Br.fail)
def PN:List AV→List Ob→Br
 | [.agg [.int .i64 bu,.sh EnT l],.agg [.str ur,.int .i64 t1,.int .i64 t2,.sh (.pair .str .str) ak,.str me,.str ta,.int .i64 st,.str re,.bool ba,.sh (.pair .str .str) fs,.str bo]],[]=>BS bu l ur t1 t2 ak me ta st re ba fs bo
 |_,_=>.fail
theorem sPut_ok:Sound Kx 16 PN:=ae (C:=S9) (O:=S8) Tryz.func16 (by kernel_rfl) fun args objs=>by
 unfold PN;split
 ·exact .inr (by kernel_rfl)
 ·exact .inl rfl
def puO (bu:Int) (l:List En) (e:En):Bool:=dr bu l&&gt e
def puB (bu:Int) (l:List En) (e:En):Int:=bif puO bu l e then bu else 0
def puL (bu:Int) (l:List En) (e:En):List En:=bif puO bu l e then Mr bu l e else []
def TY:List AV→List Ob→Br
 | [.agg [.int .i64 bu,.sh (.pair .str (.pair (.int .i64) (.pair (.int .i64) (.pair (.slice (.pair .str .str)) (.pair .str (.pair .str (.pair (.int .i64) (.pair .str (.pair .bool (.pair (.slice (.pair .str .str)) .str)))))))))) l],.agg [.str ur,.int .i64 t1,.int .i64 t2,.sh (.pair .str .str) ak,.str me,.str ta,.int .i64 st,.str re,.bool ba,.sh (.pair .str .str) fs,.str bo]],[]=>
   .ite (jn l&&decide (ur.length≤1048576)) (.ret (caA (puB bu l (ur,t1,t2,ak,me,ta,st,re,ba,fs,bo))) (caO (puL bu l (ur,t1,t2,ak,me,ta,st,re,ba,fs,bo)))) .fail
 |_,_=>.fail
theorem Ov {bu:Int} {l:List En} (h:dr bu l=true):0≤bu:=by
 unfold dr at h
 simp only [Bool.and_eq_true,decide_eq_true_eq]at h
 exact h.1.1.1.1
theorem zN {bu:Int} {l:List En} {e:En} (h1:jn l=true) (h2:e.1.length≤1048576) (h3:dr bu l=true) (h4:gt e=true):Ms bu l e=true:=by
 unfold Ms
 rw [zK h3,h1,h4,dT' h2,dT' (Ov h3)];rfl
theorem Ow:Sound Kx 18 TY:=iPut_ok.of fun args objs r h=>by
 unfold TY at h;split at h
 case h_2=>cases h
 rename_i bu l ur t1 t2 ak me ta st re ba fs bo
 obtain⟨h1,h2⟩:=af h
 cases h2
 rw [Bool.and_eq_true,decide_eq_true_eq]at h1
 show(BR bu l ur t1 t2 ak me ta st re ba fs bo).val=_
 unfold BR puB puL puO
 refine(aR h1.1).trans ?_
 cases c:dr bu l
 ·rfl
 refine(bl rfl).trans ((aR (aW (n:=1048576) h1.2)).trans ?_)
 cases c2:gt (ur,t1,t2,ak,me,ta,st,re,ba,fs,bo)
 ·rfl
 ·exact(bl rfl).trans ((aR (zN h1.1 h1.2 c c2)).trans rfl)
theorem Ox:Sound Kx 16 TY:=sPut_ok.of fun args objs r h=>by
 unfold TY at h;split at h
 case h_2=>cases h
 rename_i bu l ur t1 t2 ak me ta st re ba fs bo
 obtain⟨h1,h2⟩:=af h
 cases h2
 rw [Bool.and_eq_true,decide_eq_true_eq]at h1
 show(BS bu l ur t1 t2 ak me ta st re ba fs bo).val=_
 unfold BS puB puL puO
 refine(aR h1.1).trans ?_
 cases c:dr bu l
 ·rfl
 refine(bl rfl).trans ((aR (aW (n:=1048576) h1.2)).trans ?_)
 cases c2:gt (ur,t1,t2,ak,me,ta,st,re,ba,fs,bo)
 ·rfl
 ·exact(bl rfl).trans ((aR (zN h1.1 h1.2 c c2)).trans rfl)
def S_:Opt:={mutF:=[42,13,54,20,55]}
def Ta:SC:=[⟨8,_,Hc⟩,⟨15,_,pT⟩,⟨10,_,He⟩,⟨17,_,s8⟩,⟨12,_,Hg⟩,⟨19,_,pV⟩,⟨13,_,zA⟩,⟨20,_,vq⟩,⟨14,_,zJ⟩,⟨18,_,Ow⟩,⟨16,_,Ox⟩]
abbrev bj (bu:Int) (l:List En) (ur:aa) (t1 t2:Int) (ak:List Fd) (me ta:aa) (st:Int) (re:aa) (ba:Bool) (fs:List Fd) (bo:aa):=(puL bu l (ur,(t1,(t2,(ak,(me,(ta,(st,(re,(ba,(fs,bo)))))))))))
def BT (bu:Int) (l:List En) (ur:aa) (t1 t2:Int) (ak:List Fd) (me ta:aa) (st:Int) (re:aa) (ba:Bool) (fs:List Fd) (bo:aa):Br:=(Br.ite ((Od l)&&true) (Br.ite (decide ((vj l 1048576)<0)) (Br.ret (AV.bool true) []) (Br.ite (decide ((vj l 1048576)<0)) (Br.ret (AV.bool true) []) (Br.ite ((smE (ur,(t1,(t2,(ak,(me,(ta,(st,(re,(ba,(fs,bo)))))))))))&&(bZ (vj l 1048576))) (Br.ite (decide ((szM (enW (ur,(t1,(t2,(ak,(me,(ta,(st,(re,(ba,(fs,bo))))))))))) (vj l 1048576))<0)) (Br.ret (AV.bool true) []) (Br.ite (j7 l) (Br.ite (decide (ak.length≤1048576)) (Br.ite (decide (fs.length≤1048576)) (Br.ite ((jn l)&&(decide (ur.length≤1048576))) (Br.ite (j7 l) (Br.ite (decide (ak.length≤1048576)) (Br.ite (decide (fs.length≤1048576)) (Br.ite ((jn l)&&(decide (ur.length≤1048576))) (Br.ite (!(decide ((puB bu l (ur,(t1,(t2,(ak,(me,(ta,(st,(re,(ba,(fs,bo)))))))))))=(puB bu l (ur,(t1,(t2,(ak,(me,(ta,(st,(re,(ba,(fs,bo)))))))))))))) (Br.ret (AV.bool false) []) (Br.ite ((gw (bj bu l ur t1 t2 ak me ta st re ba fs bo) (bj bu l ur t1 t2 ak me ta st re ba fs bo))&&(j7 (bj bu l ur t1 t2 ak me ta st re ba fs bo))) (Br.ite (j7 l) (Br.ite (!(decide (bu=bu))) (Br.ret (AV.bool false) []) (Br.ite ((gw l l)&&(j7 l)) (Br.ite (decide (ak.length≤1048576)) (Br.ite (decide (fs.length≤1048576)) (Br.ite (((N8 (ur,(t1,(t2,(ak,(me,(ta,(st,(re,(ba,(fs,bo)))))))))) (ur,(t1,(t2,(ak,(me,(ta,(st,(re,(ba,(fs,bo)))))))))))&&(decide (ak.length≤1048576)))&&(decide (fs.length≤1048576))) (Br.ite ((true&&(decide ((1+(a_ l))≤100000000)))&&(decide (l.length≤10000000))) (Br.ite ((decide (0< (1+(a_ l))))&&(decide ((((1+(a_ l))+(2* (ak.length:Int)))+(2* (fs.length:Int)))≤100000000))) (Br.ite (decide ((((1+(a_ l))+(2* (ak.length:Int)))+(2* (fs.length:Int)))<0)) (Br.ret (AV.bool false) []) (Br.ite (!(decide ((puB bu l (ur,(t1,(t2,(ak,(me,(ta,(st,(re,(ba,(fs,bo)))))))))))=(puB bu l (ur,(t1,(t2,(ak,(me,(ta,(st,(re,(ba,(fs,bo)))))))))))))) (Br.ret (AV.bool false) []) (Br.ite ((gw (bj bu l ur t1 t2 ak me ta st re ba fs bo) (bj bu l ur t1 t2 ak me ta st re ba fs bo))&&(j7 (bj bu l ur t1 t2 ak me ta st re ba fs bo))) (Br.ite ((true&&(decide ((1+(a_ (bj bu l ur t1 t2 ak me ta st re ba fs bo)))≤100000000)))&&(decide ((List.length (bj bu l ur t1 t2 ak me ta st re ba fs bo))≤10000000))) (Br.ite (((true&&(decide ((1+(a_ (bt (bj bu l ur t1 t2 ak me ta st re ba fs bo) 1)))≤100000000)))&&(decide ((List.length (bt (bj bu l ur t1 t2 ak me ta st re ba fs bo) 1))≤10000000)))&&(gw (bt (bj bu l ur t1 t2 ak me ta st re ba fs bo) 1) (bt (bt (bj bu l ur t1 t2 ak me ta st re ba fs bo) 1) 1))) (Br.ite (decide ((1+(a_ (bt (bj bu l ur t1 t2 ak me ta st re ba fs bo) 1)))<0)) (Br.ret (AV.bool false) []) (Br.ite (decide ((1+(a_ (bt (bj bu l ur t1 t2 ak me ta st re ba fs bo) 1)))<0)) (Br.ret (AV.bool false) []) (Br.ite (!(decide ((1+(a_ (bt (bj bu l ur t1 t2 ak me ta st re ba fs bo) 1)))=(1+(a_ (bj bu l ur t1 t2 ak me ta st re ba fs bo)))))) (Br.ret (AV.bool false) []) (Br.ite (j7 l) (Br.ite (decide (ak.length≤1048576)) (Br.ite (decide (fs.length≤1048576)) (Br.ite ((jn l)&&(decide (ur.length≤1048576))) (Br.ite (!(decide ((puB bu l (ur,(t1,(t2,(ak,(me,(ta,(st,(re,(ba,(fs,bo)))))))))))=(puB bu l (ur,(t1,(t2,(ak,(me,(ta,(st,(re,(ba,(fs,bo)))))))))))))) (Br.ret (AV.bool false) []) (Br.ite ((gw (bj bu l ur t1 t2 ak me ta st re ba fs bo) (bj bu l ur t1 t2 ak me ta st re ba fs bo))&&(j7 (bj bu l ur t1 t2 ak me ta st re ba fs bo))) (Br.ite (((true&&(decide ((1+(a_ (bt (bj bu l ur t1 t2 ak me ta st re ba fs bo) 1)))≤100000000)))&&(decide ((List.length (bt (bj bu l ur t1 t2 ak me ta st re ba fs bo) 1))≤10000000)))&&(gw (bt (bj bu l ur t1 t2 ak me ta st re ba fs bo) 1) (bt (bt (bj bu l ur t1 t2 ak me ta st re ba fs bo) 1) 1))) (Br.ite (decide ((1+(a_ (bt (bj bu l ur t1 t2 ak me ta st re ba fs bo) 1)))<0)) (Br.ret (AV.bool false) []) (Br.ite (decide ((1+(a_ (bt (bj bu l ur t1 t2 ak me ta st re ba fs bo) 1)))<0)) (Br.ret (AV.bool false) []) (Br.ite (!(decide ((1+(a_ (bt (bj bu l ur t1 t2 ak me ta st re ba fs bo) 1)))=(1+(a_ (bj bu l ur t1 t2 ak me ta st re ba fs bo)))))) (Br.ret (AV.bool false) []) (Br.ret (AV.bool true) [])))) Br.fail) Br.fail)) Br.fail) Br.fail) Br.fail) Br.fail)))) Br.fail) Br.fail) Br.fail))) Br.fail) Br.fail) Br.fail) Br.fail) Br.fail) Br.fail)) Br.fail) Br.fail)) Br.fail) Br.fail) Br.fail) Br.fail) Br.fail) Br.fail) Br.fail) Br.fail)) Br.fail))) Br.fail)
def L9:List AV→List Ob→Br
 | [.agg [.int .i64 bu,.sh EnT l],.agg [.str ur,.int .i64 t1,.int .i64 t2,.sh (.pair .str .str) ak,.str me,.str ta,.int .i64 st,.str re,.bool ba,.sh (.pair .str .str) fs,.str bo]],[]=>BT bu l ur t1 t2 ak me ta st re ba fs bo
 |_,_=>.fail
theorem Q9:Sound Kx 4 L9:=ae (C:=Ta) (O:=S_) Tryz.func4 (by kernel_rfl) fun args objs=>by
 unfold L9;split
 ·exact .inr (by kernel_rfl)
 ·exact .inl rfl
end
end Go.Proofs.YtihabpimbfmhhaaGreatDoor.Ev
namespace Go.Proofs.YtihabpimbfmhhaaGreatDoor.Ev
open Go Go.RowKit
set_option linter.unusedVariables false
set_option linter.unusedSimpArgs false
theorem L_: ∀l:List En,a_ l≤9*l.length+4*jo l
 | []=>by simp [a_,jo]
 |e::r=>by
  obtain⟨_,h1,h2⟩:=j8 e
  have h3:=L_ r
  simp only [a_,vC,jo,List.length_cons]
  omega
theorem Oy {l:List En} (h: ¬vj l 1048576<0):a_ l≤20000000:=by
 have hc:=L_ l
 unfold vj at h
 cases hd:decide ((l.length:Int)+jo l≤1048576)
 ·rw [hd,cond_false]at h;omega
 ·have:=of_decide_eq_true hd
  have:=jh l
  omega
theorem tB (p:En→Bool): ∀l:List En,a_ (l.filter p)≤a_ l
 | []=>Int.le_refl _
 |e::r=>by
  have h1:=tB p r
  have h2:=kf e
  rw [List.filter_cons]
  split
  ·simp only [a_];omega
  ·simp only [a_];omega
theorem Ma {l:List En} (p:En→Bool) (h:j7 l=true):j7 (l.filter p)=true:=by
 obtain⟨h1,h2⟩:=hZ h
 unfold j7
 rw [dT' (Nat.le_trans (List.length_filter_le ..) h1),Bool.true_and,List.all_eq_true]
 exact fun e he=>h2 e (List.mem_filter.1 he).1
structure Mk (x:List En):Prop where
 sh:j7 x=true
 c:decide (1+a_ x≤100000000)=true
 l:decide (x.length≤10000000)=true
 n:decide (1+a_ x<0)=false
theorem Oz {x:List En} (h1:j7 x=true) (h2:a_ x≤90000000):Mk x:=by
 have h3:=kg x
 have h4:=(hZ h1).1
 exact⟨h1,dT' (by omega),dT' (by omega),dF' (by omega)⟩
end Go.Proofs.YtihabpimbfmhhaaGreatDoor.Ev
namespace Go.Proofs.YtihabpimbfmhhaaGreatDoor.Ev
open Go Go.RowKit
set_option linter.unusedVariables false
set_option linter.unusedSimpArgs false
noncomputable section
end
end Go.Proofs.YtihabpimbfmhhaaGreatDoor.Ev
namespace Go.Proofs.YtihabpimbfmhhaaGreatDoor.Ev
open Go Go.RowKit
set_option linter.unusedVariables false
set_option linter.unusedSimpArgs false
theorem Mb (bu:Int): ∀l:List En,a_ (Mq bu l)≤a_ l∧(Mq bu l).length≤l.length∧ ∀e∈Mq bu l,e∈l
 | []=>⟨Int.le_refl _,Nat.le_refl _,fun _ h=>h⟩
 |x::r=>by
  obtain⟨h1,h2,h3⟩:=Mb bu r
  have hc:=kf x
  have e:Mq bu (x::r)=bif decide ((30:Int)< ((x::r).length:Int))||decide (bu<nq (x::r))then Mq bu r else x::r:=rfl
  rw [e]
  cases decide ((30:Int)< ((x::r).length:Int))||decide (bu<nq (x::r))
  ·exact⟨Int.le_refl _,Nat.le_refl _,fun _ h=>h⟩
  ·rw [cond_true]
   refine⟨?_,by simp only [List.length_cons];omega,fun e he=>List.mem_cons_of_mem _ (h3 e he)⟩
   simp only [a_];omega
theorem tC: ∀(l:List En) (e:En),a_ (l++[e])=a_ l+vC e
 | [],e=>by simp [a_]
 |x::r,e=>by simp only [List.cons_append,a_,tC r e];omega
theorem Us {l m:List En} (h: ∀e∈m,e∈l) (hl:m.length≤l.length) (hs:j7 l=true):j7 m=true:=by
 obtain⟨h1,h2⟩:=hZ hs
 unfold j7
 rw [dT' (Nat.le_trans hl h1),Bool.true_and,List.all_eq_true]
 exact fun e he=>h2 e (h e he)
theorem Tb {bu:Int} {l:List En} {e:En} (h1:j7 l=true) (h2:a_ l≤20000000) (h3:shE e=true):Mk (puL bu l e):=by
 have hz:Mk []:=Oz rfl (show a_ []≤90000000 by decide)
 unfold puL puO
 cases hp:dr bu l
 ·exact hz
 cases gt e
 ·exact hz
 have hl:=(vr (zK hp)).1
 show Mk (Mr bu l e)
 unfold Mr
 have f1:=tB (fun x=>gx x e.1 e.2.2.2.1) l
 have f2:=Ma (fun x=>gx x e.1 e.2.2.2.1) h1
 have f3:=List.length_filter_le (fun x=>gx x e.1 e.2.2.2.1) l
 cases decide (bu<fO e)
 ·rw [cond_false]
  obtain⟨t1,t2,t3⟩:=Mb bu (l.filter (fun x=>gx x e.1 e.2.2.2.1)++[e])
  have hs:j7 (l.filter (fun x=>gx x e.1 e.2.2.2.1)++[e])=true:=by
   unfold j7
   rw [dT' (by simp only [List.length_append,List.length_singleton];omega),Bool.true_and,List.all_append,List.all_eq_true.2 (hZ f2).2]
   simp [h3]
  rw [tC]at t1
  have he:vC e≤20000000:=by
   unfold shE at h3
   rw [Bool.and_eq_true,decide_eq_true_eq,decide_eq_true_eq]at h3
   unfold vC;omega
  exact Oz (Us t3 t2 hs) (by omega)
 ·rw [cond_true];exact Oz f2 (by omega)
theorem Mc {l:List En} (h: ¬vj l 1048576<0):0≤vj l 1048576∧vj l 1048576≤1048576:=by
 have:=jh l
 unfold vj at h⊢
 cases hd:decide ((l.length:Int)+jo l≤1048576)
 ·rw [hd,cond_false]at h;omega
 ·have:=of_decide_eq_true hd
  rw [cond_true];omega
theorem Hp {e:En} {left:Int} (h0:left≤1048576) (h: ¬szM (enW e) left<0):e.1.length≤1048576∧e.2.2.2.1.length≤1048576∧e.2.2.2.2.2.2.2.2.2.1.length≤1048576:=by
 obtain⟨h1,h2,h3⟩:=j8 e
 unfold szM at h
 cases hd:decide (enW e≤left)
 ·rw [hd,cond_false]at h;omega
 ·have:=of_decide_eq_true hd
  omega
theorem OA (bu:Int) (l:List En) (ur:aa) (t1 t2:Int) (ak:List Fd) (me ta:aa) (st:Int) (re:aa) (ba:Bool) (fs:List Fd) (bo:aa) (h:Od l=true) (h':smE (ur,t1,t2,ak,me,ta,st,re,ba,fs,bo)=true):(BT bu l ur t1 t2 ak me ta st re ba fs bo).val=some (.bool true,[]):=by
 unfold BT bj
 refine(aR (by rw [h];rfl)).trans ?_
 by_cases c:vj l 1048576<0
 ·exact aR (dT' c)
 obtain⟨h1,h2⟩:=Hh c
 have h3:=Oy c
 obtain⟨h4,h5⟩:=Mc c
 refine(bl (dF' c)).trans ?_
 refine(bl (dF' c)).trans ?_
 refine(aR (by rw [h',LI h4 h5];rfl)).trans ?_
 by_cases c2:szM (enW (ur,t1,t2,ak,me,ta,st,re,ba,fs,bo)) (vj l 1048576)<0
 ·exact aR (dT' c2)
 refine(bl (dF' c2)).trans ?_
 obtain⟨s1,s2,s3⟩:=Hp h5 c2
 simp only at s1 s2 s3
 have hl:=Oz h1 (by omega)
 have hx:Mk (puL bu l (ur,t1,t2,ak,me,ta,st,re,ba,fs,bo)):=Tb h1 h3 (by unfold shE;rw [dT' s2,dT' s3];rfl)
 have hq:=pU (ur,t1,t2,ak,me,ta,st,re,ba,fs,bo)
 have hn:=kg l
 generalize puL bu l (ur,t1,t2,ak,me,ta,st,re,ba,fs,bo)=x at hx
 generalize puB bu l (ur,t1,t2,ak,me,ta,st,re,ba,fs,bo)=b
 obtain⟨m1,m2⟩:=tA x 1
 have g1:decide (0<1+a_ l)=true:=dT' (by omega)
 have g2:decide (1+a_ l+2* (ak.length:Int)+2* (fs.length:Int)≤100000000)=true:=dT' (by omega)
 have g3:decide (1+a_ l+2* (ak.length:Int)+2* (fs.length:Int)<0)=false:=dF' (by omega)
 have d1:decide (ur.length≤1048576)=true:=dT' s1
 have d2:decide (ak.length≤1048576)=true:=dT' s2
 have d3:decide (fs.length≤1048576)=true:=dT' s3
 simp only [Br.val,h1,h2,hq,g1,g2,g3,d1,d2,d3,hl.c,hl.l,hl.n,hx.sh,hx.c,hx.l,hx.n,m1,m2,mt,tu,decide_true,Bool.not_true,Bool.and_self,Bool.true_and,cond_true,cond_false,beq_self_eq_true]
theorem qn (xs:List AV) (h:T7 [(LG,true),(LE,true)] xs):(L9 xs []).val=some (.bool true,[]):=by
 obtain⟨⟨bu,l⟩,a',g,rfl,⟨ur,t1,t2,ak,me,ta,st,re,ba,fs,bo⟩,b',g',rfl,rfl⟩:=h
 exact OA bu l ur t1 t2 ak me ta st re ba fs bo (LH g.2) (EQ g')
end Go.Proofs.YtihabpimbfmhhaaGreatDoor.Ev
