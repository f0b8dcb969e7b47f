/- The texts Ne, Nf, Ng, Nh, Ni, Nj, Nk, Nl, one behind the other. -/
import Derived.Test.YtgknmoadpgpdeaaGreatDoorK17
import Derived.Test.YtgknmoadpgpdeaaGreatDoorK16
import Derived.Test.YtgknmoadpgpdeaaGreatDoorK13
namespace Go.Proofs.YtgknmoadpgpdeaaGreatDoor.Ev
open Go Go.RowKit
set_option linter.unusedVariables false
set_option linter.unusedSimpArgs false
noncomputable section
def N2: SC:=[⟨47,_,kp⟩,⟨223,_,FZ⟩]
def mX (l: List Fd) (name: aa): Br:=(.ite (isM name) (.ite ((decide ((List.length (dp l name))≤1000000))&&(decide ((List.length (eV (dp l name) ([44,32]: aa)))≤1000000))) (.ret (AV.str (eV (dp l name) ([44,32]: aa))) []) .fail) .fail)
def Ax: List AV→List Ob→Br
 | [.sh (.pair .str .str) l, .str name],[]=>mX l name
 | _,_=> .fail
theorem iJoined_ok: Sound Kx 161 Ax:=ac (C:=N2) (O:=O0) Tryz.func161 (by kernel_rfl) fun args objs=>by
 unfold Ax;split
 · exact .inr (by kernel_rfl)
 · exact .inl rfl
theorem Zc {a b: Nat} (h: a≤b): decide (a≤b)=true:=dT' h
theorem wF (l: List Fd) (name: aa): (dp l name).length≤20∧∀ x ∈ dp l name,x.length≤190:=by
 unfold dp
 cases h: co l
 · simp
 · rw [cond_true]
   obtain ⟨h1,h2⟩:=eC h
   refine ⟨?_,fun x hx=>?_⟩
   · unfold ko;rw [List.length_map];exact Nat.le_trans (List.length_filter_le _ _) h1
   · unfold ko at hx
     obtain ⟨f,hf,rfl⟩:=List.mem_map.1 hx
     exact (h_ (h2 f (List.mem_filter.1 hf).1)).2
def sepC: aa:=[44,32]
theorem Ay (x: aa) (r: List aa): Lib.joinTail sepC (x::r)=sepC++x++Lib.joinTail sepC r:=by simp [Lib.joinTail]
theorem G8: ∀ (r: List aa),(∀ x ∈ r,x.length≤190)→(Lib.joinTail sepC r).length≤192 * r.length
 | [],_=>by simp [Lib.joinTail]
 | x::r,h=>by
   have h1:=h x (List.mem_cons_self ..)
   have h2:=G8 r fun y hy=>h y (List.mem_cons_of_mem _ hy)
   have h3: sepC.length=2:=rfl
   rw [Ay]
   simp only [List.length_append,List.length_cons,h3];omega
theorem Az (x: aa) (r: List aa): eV (x::r) sepC=x++Lib.joinTail sepC r:=Lib.join_cons x r sepC
def fA (l: List Fd) (name: aa): aa:=eV (dp l name) sepC
theorem J6 (l: List Fd) (name: aa): (fA l name).length≤4000:=by
 unfold fA
 obtain ⟨h1,h2⟩:=wF l name
 cases hv: dp l name with
 | nil=>simp [eV,Lib.join_nil]
 | cons x r=>
   rw [hv] at h1 h2
   have:=h2 x (List.mem_cons_self ..)
   have:=G8 r fun y hy=>h2 y (List.mem_cons_of_mem _ hy)
   rw [Az,List.length_append]
   simp only [List.length_cons] at h1;omega
def ab9 (p: List Fd→aa→AV): List AV→List Ob→Br
 | [.sh (.pair .str .str) l, .str name],[]=> .ite (isM name) (.ret (p l name) []) .fail
 | _,_=> .fail
theorem DA: Sound Kx 161 (ab9 fun l name=> .str (fA l name)):=iJoined_ok.of fun args objs r h=>by
 unfold ab9 at h
 split at h
 case h_2=>cases h
 rename_i l name
 obtain ⟨h1,h2⟩:=ae h
 cases h2
 show (mX l name).val=_
 unfold mX
 have g1:=(wF l name).1
 have g2:=J6 l name
 unfold fA sepC at g2
 refine (bQ h1).trans ((bQ ?_).trans rfl)
 rw [dT' (by omega),dT' (by omega)];rfl
theorem AA (v: List aa) (hl: v.length≤20) (k: aa→OR'): ∀ (r: List aa) (i: Int) (n: Nat) (s: aa),At v i r→1≤i→r.length < n→(∀ x ∈ r,x.length≤190)→s.length + 192 * r.length≤100000→
 ej n s i v k=k (s++Lib.joinTail sepC r):=by
 intro r;induction r with
 | nil=>intro i n s h hi hn hf hs;obtain ⟨n,rfl⟩:=bH hn;unfold ej gk;simp only [h.dge,cond_false,Lib.joinTail,List.map_nil,List.flatten_nil,List.append_nil]
 | cons a r ih=>
   intro i n s h hi hn hf hs;obtain ⟨n,rfl⟩:=bH hn
   have ha:=hf a (List.mem_cons_self ..)
   have hr:=fun x h=>hf x (List.mem_cons_of_mem _ h)
   simp only [List.length_cons] at hn hs
   have hp: decide ((0 : Int) < i)=true:=dT' (by omega)
   unfold ej gk
   simp (disch:=(first | omega | (simp only [List.length_append,List.length_cons,List.length_nil];omega))) only [h.dlt,h.dnn,h.get,h.next (by omega),hp,cond_true,Zc]
   rw [ih (i + 1) n _ h.step (by omega) (by omega) hr (by simp only [List.length_append,List.length_cons,List.length_nil];omega),Ay]
   simp only [sepC,List.append_assoc]
theorem DB: Sound Kx 163 (ab9 fun l name=> .str (fA l name)):=by
 refine (z_ (φ:=fun l name=> .ite (isM name) (.ret (.str (fA l name)) []) .fail) (fun l name=>(dp l name).length + 1) fun l name r h=>?_).of fun args objs r h=>?_
 · obtain ⟨h1,h2⟩:=ae h
   cases h2
   unfold q6 fA
   rw [h1,cond_true]
   obtain ⟨g1,g2⟩:=wF l name
   revert g1 g2
   generalize dp l name=v
   intro g1 g2
   cases v with
   | nil=>rfl
   | cons x r=>
     have hx:=g2 x (List.mem_cons_self ..)
     have hat: At (x::r) 0 (x::r):=At.start _
     simp only [List.length_cons] at g1
     unfold ej gk
     have h0: decide ((0 : Int) < 0)=false:=rfl
     simp (disch:=(first | omega | (simp only [List.length_append,List.length_cons,List.length_nil];omega))) only [hat.dlt,hat.dnn,hat.get,hat.next (by simp only [List.length_cons];omega),h0,cond_true,cond_false,Zc]
     rw [List.nil_append,show (0 : Int) + 1=1 by rfl,List.length_cons,AA (x::r) (by simp only [List.length_cons];omega) _ r 1 (r.length + 1) _ hat.step (by omega) (by omega) (fun y hy=>g2 y (List.mem_cons_of_mem _ hy)) (by omega),Az]
 · unfold ab9 at h;split at h
   · exact h
   · cases h
def bytesLess (a b: aa): Bool:=Op.bytesLess a b
def inP (l: List aa) (s: aa): Bool:=l.any fun x=>decide (x=s)
theorem J7 (l: List aa) (hl: l.length≤4611686018427387904) (s: aa) (k0 k1: OR'): ∀ (r: List aa) (i: Int) (n: Nat),At l i r→r.length < n→jl n l s i k0 k1=bif inP r s then k0 else k1:=by
 intro r;induction r with
 | nil=>intro i n h hn;obtain ⟨n,rfl⟩:=bH hn;unfold jl pj;simp only [h.dge,cond_false,inP,List.any_nil]
 | cons a r ih=>
   intro i n h hn;obtain ⟨n,rfl⟩:=bH hn
   have hs:=ih (i + 1) n h.step (by simp at hn;omega)
   unfold jl pj
   simp only [h.dlt,h.dnn,h.get,cond_true,h.next hl,hs,inP,List.any_cons]
   cases decide (a=s) <;> rfl
def adk: List AV→List Ob→Br
 | [.sh .str l, .str s],[]=> .ite (decide (l.length≤1000000)) (.ret (.bool (inP l s)) []) .fail
 | _,_=> .fail
theorem N3: Sound Kx 105 adk:=by
 refine (JU (φ:=fun l s=> .ite (decide (l.length≤1000000)) (.ret (.bool (inP l s)) []) .fail) (fun l _=>l.length + 1) fun l s r h=>?_).of fun args objs r h=>?_
 · obtain ⟨h1,h2⟩:=ae h
   cases h2
   rw [decide_eq_true_eq] at h1
   unfold Aa
   rw [J7 l (by omega) s _ _ l 0 _ (At.start l) (by omega)]
   cases inP l s <;> rfl
 · unfold adk at h;split at h
   · exact h
   · cases h
def mtP (k: Int): aa:=109::Lib.decDigits k.toNat
def Te: SC:=[⟨161,_,DA⟩,⟨160,_,wu⟩]
def N4 (l: List Fd) (name: aa): Br:=(.ite (isM name) (.ret (AV.ref 0 0) [.arr Ty.str 0 false (lC (fA l name))]) .fail)
def G9: List AV→List Ob→Br
 | [.sh (.pair .str .str) l, .str name],[]=>N4 l name
 | _,_=> .fail
theorem iWords_ok: Sound Kx 87 G9:=ac (C:=Te) (O:=O0) Tryz.func87 (by kernel_rfl) fun args objs=>by
 unfold G9;split
 · exact .inr (by kernel_rfl)
 · exact .inl rfl
def Tf: SC:=[⟨163,_,DB⟩,⟨162,_,wt⟩]
def N5 (l: List Fd) (name: aa): Br:=(.ite (isM name) (.ret (AV.ref 0 0) [.arr Ty.str 0 false (lC (fA l name))]) .fail)
def G_: List AV→List Ob→Br
 | [.sh (.pair .str .str) l, .str name],[]=>N5 l name
 | _,_=> .fail
theorem sWords_ok: Sound Kx 89 G_:=ac (C:=Tf) (O:=O0) Tryz.func89 (by kernel_rfl) fun args objs=>by
 unfold G_;split
 · exact .inr (by kernel_rfl)
 · exact .inl rfl
def Ha: Opt:={ live:=[(6,[0,1,5,6,7])],outs:=[(6,[1,4,5,6])] }
def sl5put_C: SC:=[⟨105,_,N3⟩]
def lJ (f_: (List aa)) (iw: aa) (kX: Bool) (eM: Int) (ga: (List aa)) (kR6: (List aa)→aa→Bool→Int→(List aa)→OR') (IO: aa→Bool→(List aa)→OR'): OR':=
 (bif (decide (eM < (f_.length: Int))) then (bif (!kX) then (bif (decide (0≤eM)) then (bif (decide (eM < (f_.length: Int))) then (bif (bytesLess iw (List.getD f_ (Int.toNat eM) ([]: aa))) then (bif (decide (((ga.length + (List.length (List.set (List.replicate 1 ([]: aa)) 0 iw))) * 16)≤140737488355328)) then (bif (decide (0≤eM)) then (bif (decide (eM < (f_.length: Int))) then (bif (decide ((((List.length (ga++(List.set (List.replicate 1 ([]: aa)) 0 iw))) + (List.length (List.set (List.replicate 1 ([]: aa)) 0 (List.getD f_ (Int.toNat eM) ([]: aa))))) * 16)≤140737488355328)) then (kR6 f_ iw true (ad (eM + 1)) ((ga++(List.set (List.replicate 1 ([]: aa)) 0 iw))++(List.set (List.replicate 1 ([]: aa)) 0 (List.getD f_ (Int.toNat eM) ([]: aa))))) else none) else none) else none) else none) else (bif (decide (0≤eM)) then (bif (decide (eM < (f_.length: Int))) then (bif (decide (((ga.length + (List.length (List.set (List.replicate 1 ([]: aa)) 0 (List.getD f_ (Int.toNat eM) ([]: aa))))) * 16)≤140737488355328)) then (kR6 f_ iw kX (ad (eM + 1)) (ga++(List.set (List.replicate 1 ([]: aa)) 0 (List.getD f_ (Int.toNat eM) ([]: aa))))) else none) else none) else none)) else none) else none) else (bif (decide (0≤eM)) then (bif (decide (eM < (f_.length: Int))) then (bif (decide (((ga.length + (List.length (List.set (List.replicate 1 ([]: aa)) 0 (List.getD f_ (Int.toNat eM) ([]: aa))))) * 16)≤140737488355328)) then (kR6 f_ iw kX (ad (eM + 1)) (ga++(List.set (List.replicate 1 ([]: aa)) 0 (List.getD f_ (Int.toNat eM) ([]: aa))))) else none) else none) else none)) else (IO iw kX ga))
def gv: Nat→(List aa)→aa→Bool→Int→(List aa)→(aa→Bool→(List aa)→OR')→OR'
 | 0,_,_,_,_,_,_=>none
 | n + 1,f_,iw,kX,eM,ga,IO=>lJ f_ iw kX eM ga (fun f_ iw kX eM ga=>gv n f_ iw kX eM ga IO) IO
abbrev sl5put_p6: SP:=⟨46,[0,1,5,6,7],[(.v (.sh Ty.str)),(.v .s),(.v (.ref 384 0)),(.v .b),(.v (.i .i64))],[(384, .arr Ty.str 0 false)]⟩
noncomputable def AB: Code:=ar (aC Tryz.f90) [1,1,1,1,0,1,0,0]
def AC (f: (aa→Bool→(List aa)→OR')→OR') (k: KT): OR':=f (fun ee da oI=>k (Ex.exit 0) ((St.mk (aA 0 46 [(1,(AV.str ee)),(5,(AV.ref 384 0)),(6,(AV.bool da))]) ((384,(Ob.arr Ty.str 0 false oI))::([]: (List (Nat×(Ob))))))))
def AD (n: Nat) (d: sl5put_p6.D): KT→OR':=AC (gv n d.1.1 d.1.2.1 d.1.2.2.2.1 d.1.2.2.2.2.1 d.2.1)
def Hb (N: Nat): Lam:=bI [⟨6,sl5put_p6,AD N⟩]
theorem J8 (N: Nat): OkL Kx sl5put_C.s Ha 0 N (Hb N) AB:=okL sl5put_p6 (AD) (fun d kR=>AC (lJ d.1.1 d.1.2.1 d.1.2.2.2.1 d.1.2.2.2.2.1 d.2.1 (fun f_ iw kX eM ga=>kR ((f_,iw,(),kX,eM,()),(ga,()))))) (fun _ _=>by kernel_rfl) (fun _ _ _=>by kernel_rfl) (fun _ _=>by kernel_rfl) (fun _ _ _ _=>by kernel_rfl) (af (l':=[]) (by kernel_rfl) trivial)
def uC (N: Nat) (l: List aa) (s: aa): OR':=(bif (decide (l.length≤1000000)) then (bif (inP l s) then (some ((AV.sh Ty.str l),[])) else (gv N l s false 0 ([]: (List aa)) (fun ee da oI=>(bif (!da) then (bif (decide (((oI.length + (List.length (List.set (List.replicate 1 ([]: aa)) 0 ee))) * 16)≤140737488355328)) then (some ((AV.ref 0 0),[.arr Ty.str 0 false (oI++(List.set (List.replicate 1 ([]: aa)) 0 ee))])) else none) else (some ((AV.ref 0 0),[.arr Ty.str 0 false oI])))))) else none)
def mY (φ: (List aa)→aa→Br): List AV→List Ob→Br
 | [.sh .str l, .str s],[]=>φ l s
 | _,_=> .fail
theorem DC {φ: (List aa)→aa→Br} (fu: (List aa)→aa→Nat) (hv: ∀ l s res_,(φ l s).val=some res_→uC (fu l s) l s=some res_): Sound Kx 90 (mY φ):=ah (C:=sl5put_C) (O:=Ha) Tryz.func90 (by kernel_rfl) fun args objs=>by
 unfold mY;split
 · rename_i l s;exact .inr fun _ hyp_=>aL (Λ:=Hb (fu l s)) (by kernel_rfl) (af (l':=[AB]) (by kernel_rfl) ⟨J8 _,trivial⟩) (by kernel_rfl) (hv l s _ hyp_)
 · exact .inl rfl
def b_ (l: List Fd) (name: aa): List aa:=lC (fA l name)
def ab_: List AV→List Ob→Br
 | [.sh (.pair .str .str) l, .str name],[]=> .ite (isM name) (.ret (.ref 0 0) [.arr .str 0 false (b_ l name)]) .fail
 | _,_=> .fail
theorem mZ: Sound Kx 87 ab_:=iWords_ok.of fun args objs r h=>by
 unfold ab_ at h
 split at h
 · exact h
 · cases h
theorem J9: Sound Kx 89 ab_:=sWords_ok.of fun args objs r h=>by
 unfold ab_ at h
 split at h
 · exact h
 · cases h
def yc: List aa→aa→List aa
 | [],s=>[s]
 | x::r,s=>bif bytesLess s x then s::x::r else x::yc r s
def uD (l: List aa) (s: aa): List aa:=bif inP l s then l else yc l s
theorem ap1 (out: List aa) (x: aa) (h: out.length≤5000000): decide ((out.length + (List.set (List.replicate 1 ([]: aa)) 0 x).length) * 16≤140737488355328)=true:=dT' (by rw [ci,List.length_singleton];omega)
theorem DD (l: List aa) (hl: l.length≤1000000) (s: aa) (k: aa→Bool→List aa→OR') (K: List aa→OR') (hk: ∀ d o,o.length≤2000000→k s d o=K (bif d then o else o++[s])): ∀ (r: List aa) (i: Int) (n: Nat) (d: Bool) (out: List aa),At l i r→r.length < n→out.length + r.length + 1≤2000000 - (bif d then 0 else 1)→
 gv n l s d i out k=K (out++bif d then r else yc r s):=by
 intro r;induction r with
 | nil=>
   intro i n d out h hn ho;obtain ⟨n,rfl⟩:=bH hn
   simp only [List.length_nil] at ho
   unfold gv lJ
   rw [h.dge,cond_false,hk d out (by omega)]
   cases d <;> simp [yc]
 | cons a r ih=>
   intro i n d out h hn ho;obtain ⟨n,rfl⟩:=bH hn
   simp only [List.length_cons] at hn ho
   unfold gv lJ
   simp only [h.dlt,h.dnn,h.get,h.next (by omega),cond_true]
   cases d
   · simp only [Bool.not_false,cond_true,cond_false,yc] at ho ⊢
     cases hb: bytesLess s a
     · simp (disch:=(first | omega | (simp only [List.length_append,ci,List.length_cons,List.length_nil];omega))) only [cond_true,cond_false,ap1]
       simp only [ci]
       rw [ih (i + 1) n false _ h.step (by omega) (by simp only [List.length_append,List.length_singleton,cond_false];omega)]
       simp
     · simp (disch:=(first | omega | (simp only [List.length_append,ci,List.length_cons,List.length_nil];omega))) only [cond_true,cond_false,ap1]
       simp only [ci]
       rw [ih (i + 1) n true _ h.step (by omega) (by simp only [List.length_append,List.length_singleton,cond_true];omega)]
       simp
   · simp only [Bool.not_true,cond_true,cond_false] at ho ⊢
     simp (disch:=(first | omega | (simp only [List.length_append,ci,List.length_cons,List.length_nil];omega))) only [cond_true,cond_false,ap1]
     simp only [ci]
     rw [ih (i + 1) n true _ h.step (by omega) (by simp only [List.length_append,List.length_singleton,cond_true];omega)]
     simp
def aap: List AV→List Ob→Br
 | [.sh .str l, .str s],[]=> .ite (decide (l.length≤900000)) (.ret (.sh .str (uD l s)) []) .fail
 | _,_=> .fail
theorem J_: Sound Kx 90 aap:=by
 have h0: Sound Kx 90 (mY fun l s=> .ite (decide (l.length≤900000)) (bif inP l s then .ret (.sh .str l) [] else .ret (.ref 0 0) [.arr .str 0 false (yc l s)]) .fail):=by
  refine DC (fun l _=>l.length + 1) fun l s r h=>?_
  obtain ⟨h1,h2⟩:=ae h
  rw [decide_eq_true_eq] at h1
  unfold uC
  rw [Zc (show l.length≤1000000 by omega),cond_true]
  cases c: inP l s
  · rw [c] at h2
    cases h2
    rw [cond_false,DD l (by omega) s _ (fun o=>some (.ref 0 0,[.arr .str 0 false o])) ?_ l 0 _ false [] (At.start l) (by omega) (by simp only [List.length_nil,cond_false];omega)]
    · rfl
    · intro d o ho
      rw [ap1 o s (by omega)]
      cases d
      · rw [Bool.not_false,cond_true,cond_false,cond_true,ci]
      · rfl
  · rw [c] at h2
    cases h2
    rfl
 refine SH h0 fun args objs res objs' hv=>?_
 unfold aap at hv
 split at hv
 case h_2=>cases hv
 rename_i l s
 obtain ⟨h1,h2⟩:=ae hv
 cases h2
 refine ⟨rfl,rfl,_,_,rfl,?_⟩
 unfold uD
 cases c: inP l s
 · right
   refine ⟨0,false,?_⟩
   show (Br.ite _ _ _).val=_
   rw [c];exact bQ h1
 · left
   show (Br.ite _ _ _).val=_
   rw [c];exact bQ h1
def Hc: Nat→Int→List Fd
 | 0,_=>[]
 | n + 1,k=>(mtP k,mtP (k + 1))::Hc n (k + 1 + 1)
def N6: Opt:={ mutF:=[165,166],live:=[(3,[3,7,8,9])],outs:=[(3,[2,3])] }
def iVary_C: SC:=[⟨118,_,qH⟩,⟨87,_,mZ⟩,⟨165,_,SI⟩,⟨166,_,SJ⟩]
def pq (ax an: Int) (bl eR: (List aa)) (kR3: Int→Int→(List aa)→(List aa)→OR') (dH: (List aa)→OR'): OR':=
 (bif (decide (an < ax)) then (bif (decide (0≤an)) then (bif (decide (an < (eR.length: Int))) then (bif (isM (List.getD eR (Int.toNat an) ([]: aa))) then (bif (decide (((bl.length + (List.length (List.set (List.replicate 1 ([]: aa)) 0 (aK (List.getD eR (Int.toNat an) ([]: aa)))))) * 16)≤140737488355328)) then (kR3 ax (ad (an + 1)) (bl++(List.set (List.replicate 1 ([]: aa)) 0 (aK (List.getD eR (Int.toNat an) ([]: aa))))) eR) else none) else none) else none) else none) else (dH bl))
def jn: Nat→Int→Int→(List aa)→(List aa)→((List aa)→OR')→OR'
 | 0,_,_,_,_,_=>none
 | n + 1,ax,an,bl,eR,dH=>pq ax an bl eR (fun ax an bl eR=>jn n ax an bl eR dH) dH
abbrev iVary_p3: SP:=⟨23,[3,7,8,9],[(.v (.ref 256 0)),(.v (.ref 512 0)),(.v (.i .i64)),(.v (.i .i64))],[(256, .arr Ty.str 0 false),(512, .arr Ty.str 0 false)]⟩
noncomputable def Hd: Code:=ar (aC Tryz.f92) [1,1,0,1,0,0]
def He (f: ((List aa)→OR')→OR') (k: KT): OR':=f (fun bd=>k (Ex.exit 0) ((St.mk (aA 0 23 [(3,(AV.ref 256 0))]) ((256,(Ob.arr Ty.str 0 false bd))::([]: (List (Nat×(Ob))))))))
def Hf (n: Nat) (d: iVary_p3.D): KT→OR':=He (jn n d.1.2.2.1 d.1.2.2.2.1 d.2.1 d.2.2.1)
def N7 (N: Nat): Lam:=bI [⟨3,iVary_p3,Hf N⟩]
theorem N8 (N: Nat): OkL Kx iVary_C.s N6 0 N (N7 N) Hd:=okL iVary_p3 (Hf) (fun d kR=>He (pq d.1.2.2.1 d.1.2.2.2.1 d.2.1 d.2.2.1 (fun ax an bl eR=>kR (((),(),ax,an,()),(bl,eR,()))))) (fun _ _=>by kernel_rfl) (fun _ _ _=>by kernel_rfl) (fun _ _=>by kernel_rfl) (fun _ _ _ _=>by kernel_rfl) (af (l':=[]) (by kernel_rfl) trivial)
def AE (N: Nat) (l: List Fd): OR':=(jn N ((List.length (b_ l ([118,97,114,121]: aa))): Int) 0 ([]: (List aa)) (b_ l ([118,97,114,121]: aa)) (fun bd=>(bif (decide (bd.length≤1000000)) then (bif (decide ((List.length (iz bd))≤1000000)) then (some ((AV.ref 0 0),[.arr Ty.str 0 false (jJ (iz bd))])) else none) else none)))
def AF (φ: (List Fd)→Br): List AV→List Ob→Br
 | [.sh (.pair .str .str) l],[]=>φ l
 | _,_=> .fail
theorem Ka {φ: (List Fd)→Br} (fu: (List Fd)→Nat) (hv: ∀ l res_,(φ l).val=some res_→AE (fu l) l=some res_): Sound Kx 92 (AF φ):=ah (C:=iVary_C) (O:=N6) Tryz.func92 (by kernel_rfl) fun args objs=>by
 unfold AF;split
 · rename_i l;exact .inr fun _ hyp_=>aL (Λ:=N7 (fu l)) (by kernel_rfl) (af (l':=[Hd]) (by kernel_rfl) ⟨N8 _,trivial⟩) (by kernel_rfl) (hv l _ hyp_)
 · exact .inl rfl
def N9: Opt:={ live:=[(4,[3,4,5])],outs:=[(4,[2,3])],shn:=[3] }
def sVary_C: SC:=[⟨91,_,ll⟩,⟨89,_,J9⟩,⟨90,_,J_⟩]
def pr (bp: (List aa)) (bm: Int) (bW: (List aa)) (kR4: (List aa)→Int→(List aa)→OR') (d_: (List aa)→OR'): OR':=
 (bif (decide (bm < (bW.length: Int))) then (bif (decide (0≤bm)) then (bif (decide (bm < (bW.length: Int))) then (bif (isM (List.getD bW (Int.toNat bm) ([]: aa))) then (bif (decide (bp.length≤900000)) then (kR4 (uD bp (aK (List.getD bW (Int.toNat bm) ([]: aa)))) (ad (bm + 1)) bW) else none) else none) else none) else none) else (d_ bp))
def jo: Nat→(List aa)→Int→(List aa)→((List aa)→OR')→OR'
 | 0,_,_,_,_=>none
 | n + 1,bp,bm,bW,d_=>pr bp bm bW (fun bp bm bW=>jo n bp bm bW d_) d_
abbrev sVary_p4: SP:=⟨22,[3,4,5],[(.v (.sh Ty.str)),(.v (.ref 320 0)),(.v (.i .i64))],[(320, .arr Ty.str 0 false)]⟩
noncomputable def Hg: Code:=ar (aC Tryz.f34) [1,1,1,0,1,0,0]
def Hh (f: ((List aa)→OR')→OR') (k: KT): OR':=f (fun eH=>k (Ex.exit 0) ((St.mk (aA 0 22 [(3,(AV.sh Ty.str eH))]) ([]: (List (Nat×(Ob)))))))
def Hi (n: Nat) (d: sVary_p4.D): KT→OR':=Hh (jo n d.1.1 d.1.2.2.1 d.2.1)
def N_ (N: Nat): Lam:=bI [⟨4,sVary_p4,Hi N⟩]
theorem Oa (N: Nat): OkL Kx sVary_C.s N9 0 N (N_ N) Hg:=okL sVary_p4 (Hi) (fun d kR=>Hh (pr d.1.1 d.1.2.2.1 d.2.1 (fun bp bm bW=>kR ((bp,(),bm,()),(bW,()))))) (fun _ _=>by kernel_rfl) (fun _ _ _=>by kernel_rfl) (fun _ _=>by kernel_rfl) (fun _ _ _ _=>by kernel_rfl) (af (l':=[]) (by kernel_rfl) trivial)
def AG (N: Nat) (l: List Fd): OR':=(jo N ([]: (List aa)) 0 (b_ l ([118,97,114,121]: aa)) (fun eH=>(some ((AV.sh Ty.str eH),[]))))
def AH (φ: (List Fd)→Br): List AV→List Ob→Br
 | [.sh (.pair .str .str) l],[]=>φ l
 | _,_=> .fail
theorem Kb {φ: (List Fd)→Br} (fu: (List Fd)→Nat) (hv: ∀ l res_,(φ l).val=some res_→AG (fu l) l=some res_): Sound Kx 34 (AH φ):=ah (C:=sVary_C) (O:=N9) Tryz.func34 (by kernel_rfl) fun args objs=>by
 unfold AH;split
 · rename_i l;exact .inr fun _ hyp_=>aL (Λ:=N_ (fu l)) (by kernel_rfl) (af (l':=[Hg]) (by kernel_rfl) ⟨Oa _,trivial⟩) (by kernel_rfl) (hv l _ hyp_)
 · exact .inl rfl
end
end Go.Proofs.YtgknmoadpgpdeaaGreatDoor.Ev
namespace Go.Proofs.YtgknmoadpgpdeaaGreatDoor.Ev
open Go Go.RowKit
set_option linter.unusedVariables false
set_option linter.unusedSimpArgs false
abbrev Asc (l: List aa): Prop:=l.Pairwise fun a b=>a < b
theorem VJ: ∀ {l m: List aa},Asc l→Asc m→(∀ x,x ∈ l↔x ∈ m)→l=m
 | [],[],_,_,_=>rfl
 | [],b::m,_,_,h=>by have:=(h b).2 (List.mem_cons_self ..);cases this
 | a::l,[],_,_,h=>by have:=(h a).1 (List.mem_cons_self ..);cases this
 | a::l,b::m,h1,h2,h=>by
   obtain ⟨g1,g2⟩:=List.pairwise_cons.1 h1
   obtain ⟨k1,k2⟩:=List.pairwise_cons.1 h2
   have hab: a=b:=by
    rcases List.mem_cons.1 ((h a).1 (List.mem_cons_self ..)) with e | e
    · exact e
    · rcases List.mem_cons.1 ((h b).2 (List.mem_cons_self ..)) with e' | e'
      · exact e'.symm
      · exact absurd (k1 a e) (List.lt_asymm (g1 b e'))
   subst hab
   congr 1
   refine VJ g2 k2 fun x=>⟨fun hx=>?_,fun hx=>?_⟩
   · rcases List.mem_cons.1 ((h x).1 (List.mem_cons_of_mem _ hx)) with e | e
     · subst e;exact absurd (g1 x hx) (List.lt_irrefl x)
     · exact e
   · rcases List.mem_cons.1 ((h x).2 (List.mem_cons_of_mem _ hx)) with e | e
     · subst e;exact absurd (k1 x hx) (List.lt_irrefl x)
     · exact e
theorem Oc (a b: aa): bytesLess a b=decide (a < b):=bytesLess_eq a b
theorem ry {a b: aa} (h1: ¬ a < b) (h2: b≠a): b < a:=by
 rcases Classical.em (b < a) with h | h
 · exact h
 · exact absurd (List.le_antisymm (List.not_lt.1 h1) (List.not_lt.1 h)) h2
theorem DE (s x: aa): ∀ l: List aa,x ∈ yc l s↔x ∈ l∨x=s
 | []=>by simp [yc]
 | a::l=>by
   unfold yc
   cases bytesLess s a
   · simp only [cond_false,List.mem_cons,DE s x l,or_assoc]
   · simp only [cond_true,List.mem_cons]
     constructor
     · rintro (h | h | h)
       · exact .inr h
       · exact .inl (.inl h)
       · exact .inl (.inr h)
     · rintro ((h | h) | h)
       · exact .inr (.inl h)
       · exact .inr (.inr h)
       · exact .inl h
theorem Od (s: aa): ∀ {l: List aa},Asc l→s ∉ l→Asc (yc l s)
 | [],_,_=>by simp [yc]
 | a::l,h,hs=>by
   obtain ⟨g1,g2⟩:=List.pairwise_cons.1 h
   unfold yc
   cases hb: bytesLess s a
   · rw [Oc] at hb
     have hab: a < s:=ry (of_decide_eq_false hb) fun e=>hs (by rw [e];exact List.mem_cons_self ..)
     rw [cond_false]
     refine List.pairwise_cons.2 ⟨fun y hy=>?_,Od s g2 fun e=>hs (List.mem_cons_of_mem _ e)⟩
     rcases (DE s y l).1 hy with e | e
     · exact g1 y e
     · subst e;exact hab
   · rw [Oc] at hb
     have hab:=of_decide_eq_true hb
     rw [cond_true]
     refine List.pairwise_cons.2 ⟨fun y hy=>?_,h⟩
     rcases List.mem_cons.1 hy with e | e
     · subst e;exact hab
     · exact List.lt_trans hab (g1 y e)
theorem Oe (l: List aa) (s: aa): inP l s=true↔s ∈ l:=by
 unfold inP
 simp
theorem XL (l: List aa) (s x: aa): x ∈ uD l s↔x ∈ l∨x=s:=by
 unfold uD
 cases h: inP l s
 · exact DE s x l
 · rw [cond_true]
   refine ⟨.inl,fun h2=>?_⟩
   rcases h2 with e | e
   · exact e
   · subst e;exact (Oe l x).1 h
theorem XM {l: List aa} (hl: Asc l) (s: aa): Asc (uD l s):=by
 unfold uD
 cases h: inP l s
 · exact Od s hl fun e=>by rw [(Oe l s).2 e] at h;cases h
 · exact hl
theorem AI: ∀ (xs l: List aa),Asc l→Asc (xs.foldl uD l)∧∀ x,x ∈ xs.foldl uD l↔x ∈ l∨x ∈ xs
 | [],l,h=>⟨h,fun x=>by simp⟩
 | a::xs,l,h=>by
   obtain ⟨h1,h2⟩:=AI xs (uD l a) (XM h a)
   refine ⟨h1,fun x=>?_⟩
   show x ∈ xs.foldl uD (uD l a)↔_
   rw [h2,XL,List.mem_cons,or_assoc]
theorem Of (xs: List aa): (iz xs).Pairwise fun a b=>a≤b:=by
 have:=List.pairwise_mergeSort (le:=fun x y: aa=>decide (x≤y)) (fun a b c h1 h2=>by simp only [decide_eq_true_eq] at *;exact List.le_trans h1 h2) (fun a b=>by simp only [Bool.or_eq_true,decide_eq_true_eq];exact List.le_total a b) xs
 exact this.imp fun h=>by simpa using h
theorem Tg (xs: List aa) (x: aa): x ∈ iz xs↔x ∈ xs:=(List.mergeSort_perm xs _).mem_iff
theorem Th {zs: List aa} (h: zs.Pairwise fun a b=>a≤b): Asc (jJ zs)∧∀ x,x ∈ jJ zs↔x ∈ zs:=by
 have hle: ∀ i j,i≤j→j < zs.length→zs.toArray[i]! ≤zs.toArray[j]! :=fun i j hij hj=>by
  rw [getElem!_pos _ i (by simpa using Nat.lt_of_le_of_lt hij hj),getElem!_pos _ j (by simpa using hj)]
  rcases Nat.lt_or_ge i j with h' | h'
  · simpa using List.pairwise_iff_getElem.1 h i j (by omega) hj h'
  · obtain rfl: i=j:=by omega
    exact List.le_refl _
 unfold jJ Lib.compact Lib.compactUpTo
 refine ⟨?_,fun x=>⟨fun hx=>?_,fun hx=>?_⟩⟩
 · refine List.pairwise_map.2 ?_
   have h1: ((List.range zs.length).filter (Lib.keeps zs.toArray)).Pairwise (· < ·):=List.pairwise_lt_range.filter _
   refine h1.imp_of_mem fun {i j} hi hj hij=>?_
   obtain ⟨hj1,hj2⟩:=List.mem_filter.1 hj
   have hj1:=List.mem_range.1 hj1
   have hne: zs.toArray[j]! ≠zs.toArray[j - 1]! :=by
    have:=of_decide_eq_true hj2
    rcases this with e | e
    · omega
    · exact e
   have g1:=hle i (j - 1) (by omega) (by omega)
   have g2:=hle (j - 1) j (by omega) hj1
   have g3: zs.toArray[j - 1]! < zs.toArray[j]! :=ry (fun hlt=>hne (List.le_antisymm (List.le_of_lt hlt) g2)) (Ne.symm hne)
   rcases Classical.em (zs.toArray[i]! =zs.toArray[j - 1]!) with e | e
   · rw [e];exact g3
   · exact List.lt_trans (ry (fun hlt=>e (List.le_antisymm g1 (List.le_of_lt hlt))) e) g3
 · obtain ⟨i,hi,rfl⟩:=List.mem_map.1 hx
   have hi': i < zs.length:=List.mem_range.1 (List.mem_filter.1 hi).1
   simp [getElem!_pos,hi']
 · obtain ⟨i,hi,rfl⟩:=List.mem_iff_getElem.1 hx
   clear hx
   induction i with
   | zero=>exact List.mem_map.2 ⟨0,List.mem_filter.2 ⟨List.mem_range.2 hi,by simp [Lib.keeps]⟩,by simp [getElem!_pos,hi]⟩
   | succ i ih=>
     rcases Classical.em (zs[i + 1]=zs[i]) with e | e
     · rw [e];exact ih (by omega)
     · refine List.mem_map.2 ⟨i + 1,List.mem_filter.2 ⟨List.mem_range.2 hi,?_⟩,by simp [getElem!_pos,hi]⟩
       refine dT' (.inr ?_)
       rw [getElem!_pos _ (i + 1) (by simpa using hi),getElem!_pos _ (i + 1 - 1) (by simp;omega)]
       simpa using e
theorem Og (xs: List aa): jJ (iz xs)=xs.foldl uD []:=by
 obtain ⟨h1,h2⟩:=Th (Of xs)
 obtain ⟨h3,h4⟩:=AI xs [] (by simp)
 exact VJ h1 h3 fun x=>by rw [h2,Tg,h4];simp
end Go.Proofs.YtgknmoadpgpdeaaGreatDoor.Ev
namespace Go.Proofs.YtgknmoadpgpdeaaGreatDoor.Ev
open Go Go.RowKit
set_option linter.unusedVariables false
set_option linter.unusedSimpArgs false
noncomputable section
theorem Ti: ∀ (n: Nat) (r cur: aa) (q: Bool),r.length≤n→(dG cur q r).length≤r.length + 1∧∀ x ∈ dG cur q r,x.length≤cur.length + r.length:=by
 intro n;induction n with
 | zero=>
   intro r cur q h
   obtain rfl: r=[]:=List.length_eq_zero_iff.1 (by omega)
   simp [gl]
 | succ n ih=>
   intro r cur q h
   cases r with
   | nil=>simp [gl]
   | cons c r=>
     simp only [List.length_cons] at h
     have step: ∀ (cur': aa) (q': Bool),cur'.length≤cur.length + 1→(dG cur' q' r).length≤(c::r).length + 1∧∀ x ∈ dG cur' q' r,x.length≤cur.length + (c::r).length:=fun cur' q' hc=>by
      obtain ⟨h1,h2⟩:=ih r cur' q' (by omega)
      refine ⟨by simp only [List.length_cons];omega,fun x hx=>?_⟩
      have:=h2 x hx
      simp only [List.length_cons];omega
     rw [ek]
     cases decide (by8 c=34)
     · rw [cond_false]
       cases q&&decide (by8 c=92)
       · rw [cond_false]
         cases !q&&decide (by8 c=44)
         · rw [cond_false];exact step _ _ (by simp)
         · rw [cond_true]
           obtain ⟨h1,h2⟩:=ih r [] q (by omega)
           refine ⟨by simp only [List.length_cons];omega,fun x hx=>?_⟩
           rcases List.mem_cons.1 hx with e | e
           · subst e;omega
           · have:=h2 x e
             simp only [List.length_cons,List.length_nil] at this ⊢;omega
       · rw [cond_true]
         cases r with
         | nil=>simp
         | cons d r=>
           simp only [List.length_cons] at h
           obtain ⟨h1,h2⟩:=ih r (cur++[c,d]) q (by omega)
           refine ⟨by simp only [List.length_cons];omega,fun x hx=>?_⟩
           have:=h2 x hx
           simp only [List.length_cons,List.length_append,List.length_nil] at this ⊢;omega
     · rw [cond_true];exact step _ _ (by simp)
theorem ig (p: UInt8→Bool): ∀ s: aa,(s.dropWhile p).length≤s.length
 | []=>by simp
 | a::s=>by
   rw [List.dropWhile_cons]
   split
   · have:=ig p s;simp only [List.length_cons];omega
   · exact Nat.le_refl _
theorem Tj (s: aa): (cg s).length≤s.length:=by
 unfold cg lj iQ
 rw [List.length_reverse]
 refine Nat.le_trans (ig _ _) ?_
 rw [List.length_reverse]
 exact ig _ _
theorem Hj: ∀ (l: List aa) (n: Nat),(∀ x ∈ l,x.length≤n)→(iB l).length≤l.length∧∀ x ∈ iB l,x.length≤n
 | [],_,_=>by simp [iB]
 | a::l,n,h=>by
   obtain ⟨h1,h2⟩:=Hj l n fun x hx=>h x (List.mem_cons_of_mem _ hx)
   have ha:=h a (List.mem_cons_self ..)
   have:=Tj a
   rw [gm]
   cases decide (cg a=[])
   · rw [cond_false]
     refine ⟨by simp only [List.length_cons];omega,fun x hx=>?_⟩
     rcases List.mem_cons.1 hx with e | e
     · subst e;omega
     · exact h2 x e
   · rw [cond_true]
     exact ⟨by simp only [List.length_cons];omega,h2⟩
theorem DF (s: aa): (lC s).length≤4001∧∀ x ∈ lC s,x.length≤4000:=by
 unfold lC
 cases c: decide (4000 < (s.length: Int))
 · have hl:=of_decide_eq_false c
   rw [cond_false]
   obtain ⟨h1,h2⟩:=Ti s.length s [] false (Nat.le_refl _)
   obtain ⟨h3,h4⟩:=Hj (dG [] false s) 4000 fun x hx=>by have:=h2 x hx;simp only [List.length_nil] at this;omega
   exact ⟨by omega,h4⟩
 · simp
theorem lK (l: List Fd) (name: aa): (b_ l name).length≤4001∧∀ x ∈ b_ l name,isM x=true:=
 ⟨(DF _).1,fun x hx=>bU ((DF _).2 x hx)⟩
def m9: aa:=[118,97,114,121]
def gw (l: List Fd): List aa:=(b_ l m9).foldl (fun o w=>uD o (aK w)) []
theorem Oh (l: List Fd): jJ (iz ((b_ l m9).map aK))=gw l:=by
 rw [Og,List.foldl_map];rfl
theorem Kc (k: List aa→OR') (ws: List aa) (hl: ws.length≤100000): ∀ (r: List aa) (i: Int) (n: Nat) (out: List aa),At ws i r→r.length < n→(∀ x ∈ r,isM x=true)→out.length + r.length≤200000→
 jn n (ws.length: Int) i out ws k=k (out++r.map aK):=by
 intro r;induction r with
 | nil=>intro i n out h hn hf ho;obtain ⟨n,rfl⟩:=bH hn;unfold jn pq;rw [h.dge,cond_false];simp
 | cons a r ih=>
   intro i n out h hn hf ho;obtain ⟨n,rfl⟩:=bH hn
   have ha:=hf a (List.mem_cons_self ..)
   have hr:=fun x h=>hf x (List.mem_cons_of_mem _ h)
   simp only [List.length_cons] at hn ho
   unfold jn pq
   simp (disch:=omega) only [h.dlt,h.dnn,h.get,h.next (by omega),ha,cond_true,ap1]
   rw [ci,ih (i + 1) n _ h.step (by omega) hr (by simp only [List.length_append,List.length_singleton];omega)]
   simp
theorem Oi (s: aa): ∀ l: List aa,(yc l s).length≤l.length + 1
 | []=>by simp [yc]
 | a::l=>by
   have:=Oi s l
   unfold yc
   cases bytesLess s a
   · rw [cond_false];simp only [List.length_cons];omega
   · rw [cond_true];simp only [List.length_cons];omega
theorem XN (l: List aa) (s: aa): (uD l s).length≤l.length + 1:=by
 unfold uD
 cases inP l s
 · rw [cond_false];exact Oi s l
 · rw [cond_true];omega
theorem Kd (k: List aa→OR') (ws: List aa) (hl: ws.length≤100000): ∀ (r: List aa) (i: Int) (n: Nat) (out: List aa),At ws i r→r.length < n→(∀ x ∈ r,isM x=true)→out.length + r.length≤200000→
 jo n out i ws k=k (r.foldl (fun o w=>uD o (aK w)) out):=by
 intro r;induction r with
 | nil=>intro i n out h hn hf ho;obtain ⟨n,rfl⟩:=bH hn;unfold jo pr;rw [h.dge,cond_false];rfl
 | cons a r ih=>
   intro i n out h hn hf ho;obtain ⟨n,rfl⟩:=bH hn
   have ha:=hf a (List.mem_cons_self ..)
   have hr:=fun x h=>hf x (List.mem_cons_of_mem _ h)
   simp only [List.length_cons] at hn ho
   have hp:=XN out (aK a)
   unfold jo pr
   simp (disch:=omega) only [h.dlt,h.dnn,h.get,h.next (by omega),ha,cond_true,Zc]
   rw [ih (i + 1) n _ h.step (by omega) hr (by omega)]
   rfl
def aaq: List AV→List Ob→Br
 | [.sh (.pair .str .str) l],[]=> .ret (.ref 0 0) [.arr .str 0 false (gw l)]
 | _,_=> .fail
def aar: List AV→List Ob→Br
 | [.sh (.pair .str .str) l],[]=> .ret (.sh .str (gw l)) []
 | _,_=> .fail
theorem Oj: Sound Kx 92 aaq:=by
 refine (Ka (φ:=fun l=> .ret (.ref 0 0) [.arr .str 0 false (gw l)]) (fun l=>(b_ l m9).length + 1) fun l r h=>?_).of fun args objs r h=>?_
 · cases h
   obtain ⟨h1,h2⟩:=lK l m9
   rw [← Oh]
   have hs: (iz ((b_ l m9).map aK)).length=(b_ l m9).length:=by simp [iz]
   unfold AE
   refine (Kc _ (b_ l m9) (by omega) _ 0 _ [] (At.start _) (by omega) h2 (by simp only [List.length_nil];omega)).trans ?_
   simp only [List.nil_append]
   rw [Zc (by rw [List.length_map];omega),Zc (by rw [hs];omega)];rfl
 · unfold aaq at h;split at h
   · exact h
   · cases h
theorem Ol: Sound Kx 34 aar:=by
 refine (Kb (φ:=fun l=> .ret (.sh .str (gw l)) []) (fun l=>(b_ l m9).length + 1) fun l r h=>?_).of fun args objs r h=>?_
 · cases h
   obtain ⟨h1,h2⟩:=lK l m9
   unfold AG
   exact Kd _ (b_ l m9) (by omega) _ 0 _ [] (At.start _) (by omega) h2 (by simp only [List.length_nil];omega)
 · unfold aar at h;split at h
   · exact h
   · cases h
theorem wG (l: List Fd): (gw l).length≤4001:=by
 rw [← Oh]
 refine Nat.le_trans (FY _) ?_
 have hs: (iz ((b_ l m9).map aK)).length=(b_ l m9).length:=by simp [iz]
 rw [hs];exact (lK l m9).1
end
end Go.Proofs.YtgknmoadpgpdeaaGreatDoor.Ev
