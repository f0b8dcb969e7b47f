/- The texts Sd, Se, Sf, Sg, Sh, Si, Sj, Qp, Sk, Sl, Qq, Qr, Qu, Qv, Qw, Qs, Qt, Qx, Sm, Qy, Qz, Ga, Gb, Gc, Gd, one behind the other. -/
import Derived.Test.YtgknmoadpgpdeaaGreatDoorK34
import Derived.Test.YtgknmoadpgpdeaaGreatDoorK35
import Derived.Test.YtgknmoadpgpdeaaGreatDoorK13
import Derived.Test.YtgknmoadpgpdeaaGreatDoorK29
import Derived.Test.YtgknmoadpgpdeaaGreatDoorK31
import Derived.Test.YtgknmoadpgpdeaaGreatDoorK17
import Derived.Test.YtgknmoadpgpdeaaGreatDoorK23
namespace Go.Proofs.YtgknmoadpgpdeaaGreatDoor.Ev
open Go Go.RowKit
set_option linter.unusedVariables false
set_option linter.unusedSimpArgs false
noncomputable section
end
end Go.Proofs.YtgknmoadpgpdeaaGreatDoor.Ev
namespace Go.Proofs.YtgknmoadpgpdeaaGreatDoor.Ev
open Go Go.RowKit
set_option linter.unusedVariables false
set_option linter.unusedSimpArgs false
set_option linter.defProp false
set_option maxRecDepth 20000
noncomputable section
def cdQ {α: Type} (ra: α→AV) (ro: α→List Ob) (D: List Int→α): List AV→List Ob→Br
 | [.sh (.int .u8) code],[]=> .ite (decide (code.length≤281474976710656)) (.ret (ra (D code)) (ro (D code))) .fail
 | _,_=> .fail
theorem ahs {α: Type} {n: Nat} {s: List AV→List Ob→Br} (hs: Sound Kx n s) (ra: α→AV) (ro: α→List Ob) (d0: α) (P: α→Prop)
 (h: ∀ code,code.length≤281474976710656→∃ v,(s [.sh (.int .u8) code] []).val=some (ra v,ro v)∧P v): ∃ D: List Int→α,(∀ code,code.length≤281474976710656→P (D code))∧Sound Kx n (cdQ ra ro D):=by
 open Classical in
 refine ⟨fun code=>if hl: code.length≤281474976710656 then (h code hl).choose else d0,fun code hl=>?_,hs.of fun args objs r hv=>?_⟩
 · simp only [dif_pos hl];exact (h code hl).choose_spec.2
 · unfold cdQ at hv
   split at hv
   · rename_i code
     obtain ⟨h1,h2⟩:=ai hv
     have h3:=of_decide_eq_true h1
     rw [← h2]
     simp only [dif_pos h3]
     exact (h code h3).choose_spec.1
   · cases hv
def aii (m: Mg) (k: Nat): AV:= .agg [.str m.1, .str m.2.1, .int .i64 m.2.2.1, .str m.2.2.2.1, .bool m.2.2.2.2.1, .ref k 0, .str m.2.2.2.2.2.2]
def mmA (p: Mg×Mg): AV:= .tup [aii p.1 0,aii p.2 1]
def mmO (p: Mg×Mg): List Ob:=[.arr (.pair .str .str) 0 false p.1.2.2.2.2.2.1, .arr (.pair .str .str) 0 false p.2.2.2.2.2.2.1]
theorem Y2 {p q: Mg} (h1: Px p) (h2: q.2.2.2.2.2.1.length≤80): Vq (fun o=>∃ v: Mg×Mg,o=some (mmA v,mmO v)∧Px v.1∧v.2.2.2.2.2.2.1.length≤80) (.ret (.tup [.agg [.str p.1, .str p.2.1, .int .i64 p.2.2.1, .str p.2.2.2.1, .bool p.2.2.2.2.1, .ref 0 0, .str p.2.2.2.2.2.2], .agg [.str q.1, .str q.2.1, .int .i64 q.2.2.1, .str q.2.2.2.1, .bool q.2.2.2.2.1, .ref 1 0, .str q.2.2.2.2.2.2]]) [.arr (.pair .str .str) 0 false p.2.2.2.2.2.1, .arr (.pair .str .str) 0 false q.2.2.2.2.2.1]):=⟨(p,q),rfl,h1,h2⟩
def sto_ex:=ahs acK mmA mmO (([],[],0,[],false,[],[]),([],[],0,[],false,[],[])) (fun p=>Px p.1∧p.2.2.2.2.2.2.1.length≤80) fun code hl=>by
 show Vq (fun o=>∃ v: Mg×Mg,o=some (mmA v,mmO v)∧Px v.1∧v.2.2.2.2.2.2.1.length≤80) (IL code)
 have hc:=aia hl
 obtain ⟨c1,r1,r2,_⟩:=afe (fH code) hc
 have r3: Px (vK () code 0 (fH code)).1:=⟨r1,Nat.le_trans r2 (by decide)⟩
 have r4: ∀ i h,okC code i=true→Px (rz () code i h).1:=fun i h hc=>(M7 h hc).2
 have r5: ∀ i h,okC code i=true→(adq () code i h).1.2.2.2.2.2.1.length≤80:=fun i h hc=>(afh h hc).2
 have c4: ∀ i h,okC code i=true→okC code (rz () code i h).2.1=true:=fun i h hc=>(M7 h hc).1
 unfold IL kb ka IK IJ j_ j9 II vM da
 repeat' (first | with_reducible refine aav ?_ ?_ | with_reducible refine aaw (fun _=>?_) (fun _=>?_))
 all_goals first
  | ((repeat (first | exact hc | exact c1 | exact c2 | exact c3 | exact q1 | with_reducible apply ar | with_reducible apply bg | with_reducible apply au));done)
  | exact dT' hl
  | (simp only [Bool.and_true];(repeat (first | exact hc | exact c1 | exact c2 | exact c3 | exact q1 | with_reducible apply ar | with_reducible apply bg | with_reducible apply au));done)
  | (simp only [Bool.and_true];apply ar;apply c4;(repeat (first | exact hc | exact c1 | exact c2 | exact c3 | exact q1 | with_reducible apply ar | with_reducible apply bg | with_reducible apply au));done)
  | (apply ar;apply c4;(repeat (first | exact hc | exact c1 | exact c2 | exact c3 | exact q1 | with_reducible apply ar | with_reducible apply bg | with_reducible apply au));done)
  | (apply c4;(repeat (first | exact hc | exact c1 | exact c2 | exact c3 | exact q1 | with_reducible apply ar | with_reducible apply bg | with_reducible apply au));done)
  | (refine Y2 ?_ ?_ <;> first | exact r3 | (apply r4;(repeat (first | exact hc | exact c1 | exact c2 | exact c3 | exact q1 | with_reducible apply ar | with_reducible apply bg | with_reducible apply au));done) | (apply r5;(repeat (first | exact hc | exact c1 | exact c2 | exact c3 | exact q1 | with_reducible apply ar | with_reducible apply bg | with_reducible apply au));done) | (apply r5;apply ar;apply c4;(repeat (first | exact hc | exact c1 | exact c2 | exact c3 | exact q1 | with_reducible apply ar | with_reducible apply bg | with_reducible apply au));done) | (refine (r4 _ _ ?_).2;(repeat (first | exact hc | exact c1 | exact c2 | exact c3 | exact q1 | with_reducible apply ar | with_reducible apply bg | with_reducible apply au));done) | (refine (r4 _ _ ?_).2;apply ar;apply c4;(repeat (first | exact hc | exact c1 | exact c2 | exact c3 | exact q1 | with_reducible apply ar | with_reducible apply bg | with_reducible apply au));done) | skip)
  | skip
 all_goals trace_state
def ej:=sto_ex.choose
def afH: List AV→List Ob→Br:=cdQ mmA mmO ej
theorem Y3: Sound Kx 37 afH:=sto_ex.choose_spec.2
theorem ac2 {code: List Int} (h: code.length≤281474976710656): Px (ej code).1∧(ej code).2.2.2.2.2.2.1.length≤80:=sto_ex.choose_spec.1 code h
end
end Go.Proofs.YtgknmoadpgpdeaaGreatDoor.Ev
namespace Go.Proofs.YtgknmoadpgpdeaaGreatDoor.Ev
open Go Go.RowKit
set_option linter.unusedVariables false
set_option linter.unusedSimpArgs false
end Go.Proofs.YtgknmoadpgpdeaaGreatDoor.Ev
namespace Go.Proofs.YtgknmoadpgpdeaaGreatDoor.Ev
open Go Go.RowKit
set_option linter.unusedVariables false
set_option linter.unusedSimpArgs false
noncomputable section
def ac3: Br:=(.ret (AV.agg [.str ([104,116,116,112,58,47,47,97,46,98,47]: aa),.int .i64 100,.int .i64 101,.ref 1 0,.str ([]: aa),.str ([]: aa),.int .i64 200,.str ([79,75]: aa),.bool false,.ref 0 0,.str ([111,110,101]: aa)]) [.arr (Ty.pair Ty.str Ty.str) 0 false (List.set (List.set (List.replicate 2 (([]: aa),([]: aa))) 0 (([69,84,97,103]: aa),([34,116,34]: aa))) 1 (([67,97,99,104,101,45,67,111,110,116,114,111,108]: aa),([109,97,120,45,97,103,101,61,49,48]: aa))),.arr (Ty.pair Ty.str Ty.str) 0 false ([]: (List Fd))])
def aaH: List AV→List Ob→Br
 | [],[]=>ac3
 | _,_=> .fail
theorem ac4: Sound Kx 77 aaH:=ae (C:=[]) (O:=O0) Tryz.func77 (by kernel_rfl) fun args objs=>by
 unfold aaH;split
 · exact .inr (by kernel_rfl)
 · exact .inl rfl
def Y4 (m: aa): Br:=(.ite (decide (m=([71,69,84]: aa))) (.ret (AV.bool true) []) (.ite (decide (m=([72,69,65,68]: aa))) (.ret (AV.bool true) []) (.ite (decide (m=([79,80,84,73,79,78,83]: aa))) (.ret (AV.bool true) []) (.ret (AV.bool (decide (m=([84,82,65,67,69]: aa)))) []))))
def Vt: List AV→List Ob→Br
 | [.str m],[]=>Y4 m
 | _,_=> .fail
theorem Y5: Sound Kx 78 Vt:=ae (C:=[]) (O:=O0) Tryz.func78 (by kernel_rfl) fun args objs=>by
 unfold Vt;split
 · exact .inr (by kernel_rfl)
 · exact .inl rfl
def ac5: SC:=[⟨77,_,ac4⟩,⟨30,_,Vs⟩,⟨33,_,Y0⟩,⟨25,_,F_⟩,⟨35,_,Ij⟩,⟨78,_,Y5⟩]
def picks_br: Br:=(.ite (decide (((List.length (vdP (([104,116,116,112,58,47,47,97,46,98,47]: aa),(100,(101,(([]: (List Fd)),(([]: aa),(([]: aa),(200,(([79,75]: aa),(false,((List.set (List.set (List.replicate 2 (([]: aa),([]: aa))) 0 (([69,84,97,103]: aa),([34,116,34]: aa))) 1 (([67,97,99,104,101,45,67,111,110,116,114,111,108]: aa),([109,97,120,45,97,103,101,61,49,48]: aa))),([111,110,101]: aa))))))))))))): Int)=1)) (.ite (decide (0 < ((List.length (vdP (([104,116,116,112,58,47,47,97,46,98,47]: aa),(100,(101,(([]: (List Fd)),(([]: aa),(([]: aa),(200,(([79,75]: aa),(false,((List.set (List.set (List.replicate 2 (([]: aa),([]: aa))) 0 (([69,84,97,103]: aa),([34,116,34]: aa))) 1 (([67,97,99,104,101,45,67,111,110,116,114,111,108]: aa),([109,97,120,45,97,103,101,61,49,48]: aa))),([111,110,101]: aa))))))))))))): Int))) (.ite (decide ((List.getD (vdP (([104,116,116,112,58,47,47,97,46,98,47]: aa),(100,(101,(([]: (List Fd)),(([]: aa),(([]: aa),(200,(([79,75]: aa),(false,((List.set (List.set (List.replicate 2 (([]: aa),([]: aa))) 0 (([69,84,97,103]: aa),([34,116,34]: aa))) 1 (([67,97,99,104,101,45,67,111,110,116,114,111,108]: aa),([109,97,120,45,97,103,101,61,49,48]: aa))),([111,110,101]: aa)))))))))))) 0 (([]: aa),([]: aa))).2=([34,116,34]: aa))) (.ite (acY (vdP (([104,116,116,112,58,47,47,97,46,98,47]: aa),(100,(101,(([]: (List Fd)),(([]: aa),(([]: aa),(200,(([79,75]: aa),(false,((List.set (List.set (List.replicate 2 (([]: aa),([]: aa))) 0 (([69,84,97,103]: aa),([34,116,34]: aa))) 1 (([67,97,99,104,101,45,67,111,110,116,114,111,108]: aa),([109,97,120,45,97,103,101,61,49,48]: aa))),([111,110,101]: aa)))))))))))) (([104,116,116,112,58,47,47,97,46,98,47]: aa),(100,(101,(([]: (List Fd)),(([]: aa),(([]: aa),(200,(([79,75]: aa),(false,((List.set (List.set (List.replicate 2 (([]: aa),([]: aa))) 0 (([69,84,97,103]: aa),([34,116,34]: aa))) 1 (([67,97,99,104,101,45,67,111,110,116,114,111,108]: aa),([109,97,120,45,97,103,101,61,49,48]: aa))),([111,110,101]: aa)))))))))))) (.ite (mv (([104,116,116,112,58,47,47,97,46,98,47]: aa),(100,(101,(([]: (List Fd)),(([]: aa),(([]: aa),(200,(([79,75]: aa),(false,((List.set (List.set (List.replicate 2 (([]: aa),([]: aa))) 0 (([69,84,97,103]: aa),([34,116,34]: aa))) 1 (([67,97,99,104,101,45,67,111,110,116,114,111,108]: aa),([109,97,120,45,97,103,101,61,49,48]: aa))),([111,110,101]: aa))))))))))) ([]: (List Fd))) (.ret (AV.bool true) []) (.ret (AV.bool false) [])) (.ret (AV.bool false) [])) (.ret (AV.bool false) [])) .fail) (.ret (AV.bool false) []))
def Vu: List AV→List Ob→Br
 | [],[]=>picks_br
 | _,_=> .fail
theorem picks_ok: Sound Kx 28 Vu:=ae (C:=ac5) (O:=O0) Tryz.func28 (by kernel_rfl) fun args objs=>by
 unfold Vu;split
 · exact .inr (by kernel_rfl)
 · exact .inl rfl
end
end Go.Proofs.YtgknmoadpgpdeaaGreatDoor.Ev
namespace Go.Proofs.YtgknmoadpgpdeaaGreatDoor.Ev
open Go Go.RowKit
set_option linter.unusedVariables false
set_option linter.unusedSimpArgs false
set_option maxRecDepth 20000
noncomputable section
theorem Vv: picks_br.val=some (.bool true,[]):=by
 unfold picks_br
 refine (bv (dT' (show ((List.length (vdP keE): Nat): Int)=1 from by rw [agA];rfl))).trans ?_
 refine (bv (dT' (show (0 : Int) < ((List.length (vdP keE): Nat): Int) from by rw [agA];decide))).trans ?_
 refine (bv (dT' (show (List.getD (vdP keE) 0 (([]: aa),([]: aa))).2=[34,116,34] from by rw [agA];rfl))).trans ?_
 refine (bv (show acY (vdP keE) keE=true from by rw [agA];exact aiQ)).trans ?_
 refine (bv (show mv keE []=true from aiR)).trans ?_
 rfl
def aij: List AV→List Ob→Br
 | [],[]=> .ret (.bool true) []
 | _,_=> .fail
theorem Vw: Sound Kx 28 aij:=picks_ok.of fun args objs r h=>by
 unfold aij at h
 split at h
 · rw [← h];exact Vv
 · cases h
end
end Go.Proofs.YtgknmoadpgpdeaaGreatDoor.Ev
namespace Go.Proofs.YtgknmoadpgpdeaaGreatDoor.Ev
open Go Go.RowKit
set_option linter.unusedVariables false
set_option linter.unusedSimpArgs false
set_option maxRecDepth 20000
noncomputable section
theorem ac6 {x: List Int} (h: QE (.slice (.int .u8)) x): x.length≤281474976710656:=by
 have e: reachBytes=140737488351232:=rfl
 have:=h.1
 rw [e] at this
 omega
end
end Go.Proofs.YtgknmoadpgpdeaaGreatDoor.Ev
namespace Go.Proofs.YtgknmoadpgpdeaaGreatDoor.Ev
open Go Go.RowKit
set_option linter.unusedVariables false
set_option linter.unusedSimpArgs false
set_option maxRecDepth 20000
noncomputable section
theorem aht (s: aa): (ay s).length=s.length:=by unfold ay bG bytesOf;simp
end
end Go.Proofs.YtgknmoadpgpdeaaGreatDoor.Ev
namespace Go.Proofs.YtgknmoadpgpdeaaGreatDoor.Ev
open Go Go.RowKit
set_option linter.unusedVariables false
set_option linter.unusedSimpArgs false
set_option maxRecDepth 20000
noncomputable section
def ac7: Opt:={ split:=true }
def ac8: SC:=[⟨37,_,Y3⟩,⟨38,_,AB⟩,⟨39,_,AC⟩,⟨40,_,nY⟩,⟨41,_,xU⟩,⟨28,_,Vw⟩]
abbrev Bu (code: List Int):=(Br.ite (L6 (ej code).1.1 (ej code).1.2.1 (ej code).1.2.2.1 (ej code).1.2.2.2.1 (ej code).1.2.2.2.2.1 (ej code).1.2.2.2.2.2.1 (ej code).1.2.2.2.2.2.2 (ej code).2.1 (ej code).2.2.1 (ej code).2.2.2.1 (ej code).2.2.2.2.1 (ej code).2.2.2.2.2.1 (ej code).2.2.2.2.2.2.1 (ej code).2.2.2.2.2.2.2) (Br.ite (decide ((ej code).1.1=([71,69,84]: aa))) (Br.ite (decide (((0 + (List.length (ej code).1.2.2.2.2.2.1)) * 32)≤140737488355328)) (Br.ite (decide ((((List.length (ej code).1.2.2.2.2.2.1) + 1) * 32)≤140737488355328)) (Br.ite (L6 (ej code).1.1 (ej code).1.2.1 (ej code).1.2.2.1 (ej code).1.2.2.2.1 (ej code).1.2.2.2.2.1 ((ej code).1.2.2.2.2.2.1++(List.set (List.replicate 1 (([]: aa),([]: aa))) 0 (([67,97,99,104,101,45,67,111,110,116,114,111,108]: aa),([110,111,45,115,116,111,114,101]: aa)))) (ej code).1.2.2.2.2.2.2 (ej code).2.1 (ej code).2.2.1 (ej code).2.2.2.1 (ej code).2.2.2.2.1 (ej code).2.2.2.2.2.1 (ej code).2.2.2.2.2.2.1 (ej code).2.2.2.2.2.2.2) (Br.ret (AV.bool false) []) (Br.ret (AV.bool true) [])) Br.fail) Br.fail) (Br.ret (AV.bool true) [])) (Br.ret (AV.bool true) []))
abbrev sO (code: List Int):=(L6 (ej code).1.1 (ej code).1.2.1 (ej code).1.2.2.1 (ej code).1.2.2.2.1 (ej code).1.2.2.2.2.1 (ej code).1.2.2.2.2.2.1 (ej code).1.2.2.2.2.2.2 (ej code).2.1 (ej code).2.2.1 (ej code).2.2.2.1 (ej code).2.2.2.2.1 (ej code).2.2.2.2.2.1 (ej code).2.2.2.2.2.2.1 (ej code).2.2.2.2.2.2.2)
def Bv (code: List Int): Br:=(.ite (decide (code.length≤281474976710656)) (.ite (!((sO code)==(sO code))) (.ret (AV.bool false) []) (.ite (sO code) (.ite (bf (ej code).2.2.2.2.2.2.1).1 (.ret (AV.bool false) []) (.ite (bf (ej code).2.2.2.2.2.2.1).3 (.ret (AV.bool false) []) (.ite (!(decide ((ej code).1.1=([71,69,84]: aa)))) (.ret (AV.bool false) []) (.ite (ej code).2.2.2.2.2.1 (.ret (AV.bool false) []) (.ite (!(dc (ej code).2.1 (ej code).2.2.1 (ej code).2.2.2.1 (ej code).2.2.2.2.1 (ej code).2.2.2.2.2.1 (ej code).2.2.2.2.2.2.1 (ej code).2.2.2.2.2.2.2)) (.ret (AV.bool false) []) (Bu code)))))) (Bu code))) .fail)
def IT: List AV→List Ob→Br
 | [.sh (.int .u8) code],[]=>Bv code
 | _,_=> .fail
theorem Y6: Sound Kx 7 IT:=ae (C:=ac8) (O:=ac7) Tryz.func7 (by kernel_rfl) fun args objs=>by
 unfold IT;split
 · exact .inr (by kernel_rfl)
 · exact .inl rfl
end
end Go.Proofs.YtgknmoadpgpdeaaGreatDoor.Ev
namespace Go.Proofs.YtgknmoadpgpdeaaGreatDoor.Ev
open Go Go.RowKit
set_option linter.unusedVariables false
set_option linter.unusedSimpArgs false
set_option maxRecDepth 20000
noncomputable section
theorem aaI (c: Bool) (a b: Dr): (bif c then a else b).ns=bif c then a.ns else b.ns:=by cases c <;> rfl
theorem ac9 (d: Dr) (w: aa) (h: d.ns=true): (ce d w).ns=true:=by
 unfold ce
 simp only [aaI,h,Bool.cond_self]
theorem Y7 (l: List aa): ∀ (d: Dr),d.ns=true→(l.foldl ce d).ns=true:=by
 induction l with
 | nil=>intro d h;rw [List.foldl_nil];exact h
 | cons w l ih=>intro d h;rw [List.foldl_cons];exact ih _ (ac9 d w h)
theorem ac_ (d: Dr) (x: aa) (hp: (aY x).1=kNs): (ce d x).ns=true:=by
 unfold ce;rw [aaI,dT' hp,cond_true]
theorem ada (l: List aa): ∀ (d: Dr) (x: aa),x ∈ l→(aY x).1=kNs→(l.foldl ce d).ns=true:=by
 induction l with
 | nil=>intro d x hx;cases hx
 | cons w l ih=>
   intro d x hx hp
   rw [List.foldl_cons]
   rcases List.mem_cons.1 hx with e | hx
   · subst e;exact Y7 l _ (ac_ d x hp)
   · exact ih _ x hx hp
theorem Vx (x: aa): ∀ (l: List aa),l≠[]→eI (l++[x]) sepC=eI l sepC++44::32::x
 | [],h=>absurd rfl h
 | a::l,_=>by
   rw [List.cons_append,jS,jS]
   unfold Lib.joinTail
   rw [List.map_append,List.flatten_append]
   simp [sepC]
theorem Y8 {c: UInt8} : ∀ (l: List aa),c ∈ eI l sepC→(∃ v ∈ l,c ∈ v)∨c=44∨c=32
 | [],h=>by simp [eI,Lib.join] at h
 | a::l,h=>by
   rw [jS] at h
   rcases List.mem_append.1 h with h | h
   · exact .inl ⟨a,List.mem_cons_self ..,h⟩
   · unfold Lib.joinTail at h
     obtain ⟨b,hb,hc⟩:=List.mem_flatten.1 h
     obtain ⟨v,hv,rfl⟩:=List.mem_map.1 hb
     rcases List.mem_append.1 hc with hc | hc
     · simp only [sepC,List.mem_cons,List.not_mem_nil,or_false] at hc
       exact .inr hc
     · exact .inl ⟨v,List.mem_cons_of_mem _ hv,hc⟩
theorem afI (c: UInt8) (h: UInt8.ofNat (fM (by8 c)).toNat=99): c=67∨c=99:=by
 have hc:=c.toNat_lt
 have h2: (fM (by8 c)).toNat < 256∧(fM (by8 c)).toNat=99:=by
  have hlt: (fM (by8 c)).toNat < 256:=by
   unfold fM C5 by8
   by_cases h1: (65 : Int)≤(c.toNat: Int) <;> by_cases h2: (c.toNat: Int)≤90 <;> simp [h1,h2] <;> omega
  have:=congrArg UInt8.toNat h
  rw [UInt8.toNat_ofNat_of_lt' hlt] at this
  exact ⟨hlt,this⟩
 have h3:=h2.2
 unfold fM C5 by8 at h3
 by_cases g1: (65 : Int)≤(c.toNat: Int) <;> by_cases g2: (c.toNat: Int)≤90 <;> simp [g1,g2] at h3
 · left;apply UInt8.toNat_inj.1;show c.toNat=67;omega
 · right;apply UInt8.toNat_inj.1;show c.toNat=99;omega
 · right;apply UInt8.toNat_inj.1;show c.toNat=99;omega
 · right;apply UInt8.toNat_inj.1;show c.toNat=99;omega
theorem ahu {f: Fd} (h: cq f) (hs: np f.1 nCc=true): (34 : UInt8) ∉ f.2:=by
 have e: ay f.1=nCc:=by
  unfold np at hs;rw [of_decide_eq_true hs];kernel_rfl
 have hl: f.1.length=13:=by rw [← aht f.1,e];rfl
 rcases h hl with ⟨h1,h2⟩ | h
 · exfalso
   cases hf: f.1 with
   | nil=>rw [hf] at hl;cases hl
   | cons a r=>
     rw [hf] at e h1 h2
     have e2: UInt8.ofNat (fM (by8 a)).toNat=99:=by
      have: ay (a::r)=UInt8.ofNat (fM (by8 a)).toNat::ay r:=rfl
      rw [this] at e
      exact (List.cons.injEq _ _ _ _ ▸ e).1
     rcases afI a e2 with rfl | rfl
     · exact h1 rfl
     · exact h2 rfl
 · exact h
def ccF: Fd:=([67,97,99,104,101,45,67,111,110,116,114,111,108],[110,111,45,115,116,111,114,101])
theorem adb: np ccF.1 nCc=true:=by kernel_rfl
theorem adc: (aY [110,111,45,115,116,111,114,101]).1=kNs:=by kernel_rfl
theorem ade: fN (eQ [] false (32::[110,111,45,115,116,111,114,101]))=[[110,111,45,115,116,111,114,101]]:=by kernel_rfl
theorem afJ: lV [110,111,45,115,116,111,114,101]=[[110,111,45,115,116,111,114,101]]:=by kernel_rfl
theorem ahv {fs: List Fd} (hq: ∀ f ∈ fs,cq f) (hf: cw (fs++[ccF])=true): (bf (fs++[ccF])).ns=true:=by
 have hv: fi (fs++[ccF]) nCc=k9 fs nCc++[ccF.2]:=by
  unfold fi k9
  rw [hf,cond_true,List.filter_append,List.map_append]
  rw [show List.filter (fun f=>np f.1 nCc) [ccF]=[ccF] by rw [List.filter_cons,adb];rfl]
  rfl
 have hw: ccF.2 ∈ aN (fs++[ccF]) nCc:=by
  have hjl:=xV (fs++[ccF]) nCc
  unfold aN
  unfold fC at hjl ⊢
  rw [hv] at hjl ⊢
  by_cases hn: k9 fs nCc=[]
  · rw [hn,List.nil_append,Y1]
    rw [show lV ccF.2=[ccF.2] from afJ]
    exact List.mem_cons_self ..
  · rw [Vx _ _ hn] at hjl ⊢
    unfold lV
    rw [dF' (by omega),cond_false]
    refine RT _ _ (fun c hc he=>?_) _ (by rw [show (32::ccF.2)=(32::[110,111,45,115,116,111,114,101]) from rfl,ade];exact List.mem_cons_self ..)
    have hc34: c=34:=by
     unfold by8 at he
     apply UInt8.toNat_inj.1
     show c.toNat=34
     omega
    subst hc34
    rcases Y8 _ hc with ⟨v,hv',hm⟩ | h | h
    · unfold k9 at hv'
      obtain ⟨f,hf',rfl⟩:=List.mem_map.1 hv'
      obtain ⟨h1,h2⟩:=List.mem_filter.1 hf'
      exact ahu (hq f h1) h2 hm
    · cases h
    · cases h
 unfold bf
 have h1:=ada (aN (fs++[ccF]) nCc) d0 _ hw adc
 cases cw (fs++[ccF])&& !eq (fs++[ccF]) nCc
 · exact h1
 · exact h1
theorem Vy (code: List Int) (hl: code.length≤281474976710656): (Bv code).val=some (.bool true,[]):=by
 obtain ⟨⟨q1,q2⟩,q3⟩:=ac2 hl
 unfold Bv sO Bu
 generalize ej code=x at *
 obtain ⟨⟨me,ta,st,re,ba,fs,bo⟩,⟨me2,ta2,st2,re2,ba2,fs2,bo2⟩⟩:=x
 simp only at q1 q2 q3 ⊢
 have hno: L6 me ta st re ba (fs++[ccF]) bo me2 ta2 st2 re2 ba2 fs2 bo2=false:=by
  cases hm: dc me ta st re ba (fs++[ccF]) bo with
  | false=>unfold L6;rw [hm];simp
  | true=>
    have hfd: cw (fs++[ccF])=true:=by
     unfold dc at hm
     simp only [Bool.and_eq_true] at hm
     exact hm.1.1.1.1.1
    unfold L6
    rw [ahv q1 hfd]
    simp
 have e1: decide ((0 + fs.length) * 32≤140737488355328)=true:=dT' (by omega)
 have e2: decide ((fs.length + 1) * 32≤140737488355328)=true:=dT' (by omega)
 have hno': L6 me ta st re ba (fs++List.set (List.replicate 1 (([]: aa),([]: aa))) 0 ([67,97,99,104,101,45,67,111,110,116,114,111,108],[110,111,45,115,116,111,114,101])) bo me2 ta2 st2 re2 ba2 fs2 bo2=false:=hno
 refine (bv (dT' hl)).trans ?_
 rw [e1,e2,hno']
 cases hb: L6 me ta st re ba fs bo me2 ta2 st2 re2 ba2 fs2 bo2 with
 | false=>rfl
 | true=>
   have hb':=hb
   unfold L6 at hb'
   simp only [Bool.and_eq_true,Bool.not_eq_true',decide_eq_true_eq] at hb'
   obtain ⟨⟨⟨⟨⟨⟨⟨⟨⟨⟨⟨_,f1⟩,f2⟩,_⟩,f3⟩,_⟩,f4⟩,f5⟩,_⟩,_⟩,_⟩,_⟩:=hb'
   subst f3
   simp only [f1,f2,f4,f5,beq_self_eq_true,Bool.not_true,Bool.not_false,decide_true,Br.val]
theorem rQ (xs: List AV) (h: agK [(.slice (.int .u8),false)] xs): (IT xs []).val=some (.bool true,[]):=by
 obtain ⟨code,a',g,rfl,rfl⟩:=h
 exact Vy code (ac6 g)
end
end Go.Proofs.YtgknmoadpgpdeaaGreatDoor.Ev
