/- The texts Ra, Rb, Rc, Rd, Re, Rf, Rg, Rh, Ri, Rj, Rk, Rl, one behind the other. -/
import Derived.Test.YtgknmoadpgpdeaaGreatDoorK29
import Derived.Test.YtgknmoadpgpdeaaGreatDoorK32
import Derived.Test.YtgknmoadpgpdeaaGreatDoorK13
namespace Go.Proofs.YtgknmoadpgpdeaaGreatDoor.Ev
open Go Go.RowKit
set_option linter.unusedVariables false
set_option linter.unusedSimpArgs false
noncomputable section
def crP: aa→aa×Nat×Int
 | []=>([],0,1)
 | d::_=>bif decide (by8 d=10) then ([],2,0) else ([],0,2)
def lnP: aa→aa×Nat×Int
 | []=>([],0,1)
 | c::r=>bif decide (by8 c=10) then ([],0,2) else bif decide (by8 c=13) then crP r
   else bif decide ((lnP r).2.2=0) then (c::(lnP r).1,(lnP r).2.1 + 1,0) else ([],0,(lnP r).2.2)
def tlP (s: aa) (a: Int): aa×aa×Int×Int:=
 bif decide (0≤a)&&decide (a≤(s.length: Int)) then (bif decide ((lnP (s.drop a.toNat)).2.2=0) then ((lnP (s.drop a.toNat)).1,s,a + (lnP (s.drop a.toNat)).2.1,0) else ([],[],0,(lnP (s.drop a.toNat)).2.2)) else ([],[],0,2)
def tnP (s: aa) (a n: Int): aa×aa×Int×Bool:=
 bif decide (0≤a)&&decide (a≤(s.length: Int))&&decide (0≤n)&&decide (n≤(s.length: Int) - a) then (cut s a (a + n),s,a + n,true) else ([],[],0,false)
def rfP (s: aa): Fd×Bool:=
 bif decide ((aB s 58).length < s.length)&&jW (aB s 58,cw (s.drop ((aB s 58).length + 1))) then ((aB s 58,cw (s.drop ((aB s 58).length + 1))),true) else (([],[]),false)
def h11: aa:=[72,84,84,80,47,49,46,49]
def ahP (s: aa): Nat→Int→Bool
 | 0,_=>false
 | j + 1,a=>bif !decide ((tlP s a).2.2.2=0) then false else bif decide (300 < ((tlP s a).1.length: Int)) then false else bif decide ((tlP s a).1=[]) then decide ((tlP s a).2.2.1=(s.length: Int)) else bif !(rfP (tlP s a).1).2 then false else ahP s j (tlP s a).2.2.1
def xW: Opt:={ live:=[(5,[0,1,5,6])],outs:=[(5,[4,5])] }
def sWithout_C: SC:=[⟨96,_,eQ⟩,⟨128,_,Cb⟩]
def jH (aI: (List Fd)) (aR: aa) (aF: Int) (a7: (List Fd)) (kR5: (List Fd)→aa→Int→(List Fd)→OR') (cR: (List Fd)→OR'): OR':=
 (bif (decide (aF < (aI.length: Int))) then (bif (decide (0≤aF)) then (bif (decide (aF < (aI.length: Int))) then (bif ((isM (List.getD aI (Int.toNat aF) (([]: aa),([]: aa))).1)&&(isM aR)) then (bif (!(ga (List.getD aI (Int.toNat aF) (([]: aa),([]: aa))).1 aR)) then (bif (decide (0≤aF)) then (bif (decide (aF < (aI.length: Int))) then (bif (decide (((a7.length + (List.length (List.set (List.replicate 1 (([]: aa),([]: aa))) 0 ((List.getD aI (Int.toNat aF) (([]: aa),([]: aa))).1,(List.getD aI (Int.toNat aF) (([]: aa),([]: aa))).2)))) * 32)≤140737488355328)) then (kR5 aI aR (ai (aF + 1)) (a7++(List.set (List.replicate 1 (([]: aa),([]: aa))) 0 ((List.getD aI (Int.toNat aF) (([]: aa),([]: aa))).1,(List.getD aI (Int.toNat aF) (([]: aa),([]: aa))).2)))) else none) else none) else none) else (kR5 aI aR (ai (aF + 1)) a7)) else none) else none) else none) else (cR a7))
def fw: Nat→(List Fd)→aa→Int→(List Fd)→((List Fd)→OR')→OR'
 | 0,_,_,_,_,_=>none
 | n + 1,aI,aR,aF,a7,cR=>jH aI aR aF a7 (fun aI aR aF a7=>fw n aI aR aF a7 cR) cR
abbrev sWithout_p5: SP:=⟨32,[0,1,5,6],[(.v (.sh (Ty.pair Ty.str Ty.str))),(.v .s),(.v (.ref 384 0)),(.v (.i .i64))],[(384, .arr (Ty.pair Ty.str Ty.str) 0 false)]⟩
noncomputable def uZ: Code:=aD (aG Tryz.f126) [1,1,1,0,1,0,0]
def u4 (f: ((List Fd)→OR')→OR') (k: KT): OR':=f (fun ap=>k (Ex.exit 0) ((St.mk (aH 0 32 [(5,(AV.ref 384 0))]) ((384,(Ob.arr (Ty.pair Ty.str Ty.str) 0 false ap))::([]: (List (Nat×(Ob))))))))
def u5 (n: Nat) (d: sWithout_p5.D): KT→OR':=u4 (fw n d.1.1 d.1.2.1 d.1.2.2.2.1 d.2.1)
def xX (N: Nat): Lam:=bw [⟨5,sWithout_p5,u5 N⟩]
theorem EB (N: Nat): OkL Kx sWithout_C.s xW 0 N (xX N) uZ:=okL sWithout_p5 (u5) (fun d kR=>u4 (jH d.1.1 d.1.2.1 d.1.2.2.2.1 d.2.1 (fun aI aR aF a7=>kR ((aI,aR,(),aF,()),(a7,()))))) (fun _ _=>by kernel_rfl) (fun _ _ _=>by kernel_rfl) (fun _ _=>by kernel_rfl) (fun _ _ _ _=>by kernel_rfl) (am (l':=[]) (by kernel_rfl) trivial)
def qN (N: Nat) (l: List Fd) (nm: aa): OR':=(bif (!(bd l)) then (some ((AV.ref 0 0),[.arr (Ty.pair Ty.str Ty.str) 0 false ([]: (List Fd))])) else (fw N l nm 0 ([]: (List Fd)) (fun ap=>(some ((AV.ref 0 0),[.arr (Ty.pair Ty.str Ty.str) 0 false ap])))))
def qO (φ: (List Fd)→aa→Br): List AV→List Ob→Br
 | [.sh (.pair .str .str) l, .str nm],[]=>φ l nm
 | _,_=> .fail
theorem zY {φ: (List Fd)→aa→Br} (fu: (List Fd)→aa→Nat) (hv: ∀ l nm res_,(φ l nm).val=some res_→qN (fu l nm) l nm=some res_): Sound Kx 126 (qO φ):=ar (C:=sWithout_C) (O:=xW) Tryz.func126 (by kernel_rfl) fun args objs=>by
 unfold qO;split
 · rename_i l nm;exact .inr fun _ hyp_=>aS (Λ:=xX (fu l nm)) (by kernel_rfl) (am (l':=[uZ]) (by kernel_rfl) ⟨EB _,trivial⟩) (by kernel_rfl) (hv l nm _ hyp_)
 · exact .inl rfl
def ahQ (s: aa): Nat→aa→Int→aa×Int
 | 0,_,_=>([],400)
 | n + 1,b,a=>
   bif !decide ((tlP s a).2.2.2=0) then ([],400) else bif decide (300 < ((tlP s a).1.length: Int)) then ([],400)
   else bif !(ee (aB (tlP s a).1 59)).2 then ([],400) else bif decide (600 < (b.length: Int) + (ee (aB (tlP s a).1 59)).1) then ([],413)
   else bif decide ((ee (aB (tlP s a).1 59)).1=0) then (bif ahP s 21 (tlP s a).2.2.1 then (b,0) else ([],400))
   else bif !(tnP s (tlP s a).2.2.1 (ee (aB (tlP s a).1 59)).1).2.2.2 then ([],400)
   else bif !(tnP s ((tlP s a).2.2.1 + (ee (aB (tlP s a).1 59)).1) 2).2.2.2 then ([],400)
   else bif !decide ((tnP s ((tlP s a).2.2.1 + (ee (aB (tlP s a).1 59)).1) 2).1=[13,10]) then ([],400)
   else ahQ s n (b++(tnP s (tlP s a).2.2.1 (ee (aB (tlP s a).1 59)).1).1) ((tlP s a).2.2.1 + (ee (aB (tlP s a).1 59)).1 + 2)
def chP (s: aa): aa×Int:=ahQ s (s.length + 1) [] 0
def aif: List AV→List Ob→Br
 | [.str s],[]=> .ite (decide (s.length≤1000000)) (.ret (.tup [.str (chP s).1, .int .i64 (chP s).2]) []) .fail
 | _,_=> .fail
theorem KX {l: List Fd} (h: bd l=true) (p: Fd→Bool): bd (l.filter p)=true:=by
 obtain ⟨h1,h2⟩:=b_ h
 unfold bd
 rw [Bool.and_eq_true,decide_eq_true_eq,List.all_eq_true]
 exact ⟨Nat.le_trans (List.length_filter_le ..) h1,fun f hf=>h2 f (List.mem_filter.1 hf).1⟩
def vI (l: List Fd) (nm: aa): List Fd:=bif bd l then l.filter (fun f=> !ga f.1 nm) else []
theorem apF (out: List Fd) (x: Fd) (h: out.length≤1000000): decide ((out.length + (List.set (List.replicate 1 (([]: aa),([]: aa))) 0 x).length) * 32≤140737488355328)=true:=dT' (by rw [List.length_set,List.length_replicate];omega)
theorem zZ (nm: aa) (hm: isM nm=true) (l: List Fd) (hl: l.length≤20) (k: List Fd→OR'): ∀ (r: List Fd) (i: Int) (n: Nat) (out: List Fd),At l i r→r.length < n→(∀ f ∈ r,jW f=true)→out.length + r.length≤20→
 fw n l nm i out k=k (out++r.filter fun f=> !ga f.1 nm):=by
 intro r;induction r with
 | nil=>intro i n out h hn hf ho;obtain ⟨n,rfl⟩:=bF hn;unfold fw jH;rw [h.dge,cond_false];simp
 | cons f r ih=>
   intro i n out h hn hf ho;obtain ⟨n,rfl⟩:=bF hn
   simp only [List.length_cons] at hn ho
   have hm1:=(fG (hf f (List.mem_cons_self ..))).1
   have hr:=fun x hx=>hf x (List.mem_cons_of_mem _ hx)
   unfold fw jH
   simp only [h.dlt,h.dnn,h.get,h.next (by omega),hm,hm1,Bool.and_self,cond_true]
   rw [List.filter_cons]
   cases ga f.1 nm
   · simp only [Bool.not_false,cond_true,if_true]
     rw [apF out _ (by omega),cond_true,ih (i + 1) n _ h.step (by omega) hr (by rw [List.length_append,List.length_set,List.length_replicate];omega)]
     simp
   · simp only [Bool.not_true,cond_false]
     exact ih (i + 1) n _ h.step (by omega) hr (by omega)
def ahR: List AV→List Ob→Br
 | [.sh (.pair .str .str) l, .str nm],[]=> .ite (isM nm) (.ret (.ref 0 0) [.arr (.pair .str .str) 0 false (vI l nm)]) .fail
 | _,_=> .fail
theorem EC: Sound Kx 126 ahR:=by
 refine (zY (φ:=fun l nm=> .ite (isM nm) (.ret (.ref 0 0) [.arr (.pair .str .str) 0 false (vI l nm)]) .fail) (fun l _=>l.length + 1) fun l nm r h=>?_).of fun args objs r h=>?_
 · obtain ⟨h1,h2⟩:=al h
   cases h2
   unfold qN vI
   cases hf: bd l
   · rfl
   · obtain ⟨g1,g2⟩:=b_ hf
     exact zZ nm h1 l g1 _ l 0 _ [] (At.start l) (by omega) g2 (by rw [List.length_nil];omega)
 · unfold ahR at h;split at h
   · exact h
   · cases h
end
end Go.Proofs.YtgknmoadpgpdeaaGreatDoor.Ev
