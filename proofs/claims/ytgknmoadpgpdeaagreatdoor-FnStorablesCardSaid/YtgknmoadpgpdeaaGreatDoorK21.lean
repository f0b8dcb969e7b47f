/- The texts Ne, Nf, Ng, Nh, Ni, Nj, Nk, Nl, one behind the other. -/
import Derived.Test.YtgknmoadpgpdeaaGreatDoorK17
import Derived.Test.YtgknmoadpgpdeaaGreatDoorK16
import Derived.Test.YtgknmoadpgpdeaaGreatDoorK13
namespace Go.Proofs.YtgknmoadpgpdeaaGreatDoor.Ev
open Go Go.RowKit
set_option linter.unusedVariables false
set_option linter.unusedSimpArgs false
noncomputable section
def Se: SC:=[⟨47,_,lU⟩,⟨223,_,Ki⟩]
def pE (l: List Fd) (name: aa): Br:=(.ite (isM name) (.ite ((decide ((List.length (fi l name))≤1000000))&&(decide ((List.length (eI (fi l name) ([44,32]: aa)))≤1000000))) (.ret (AV.str (eI (fi l name) ([44,32]: aa))) []) .fail) .fail)
def Ea: List AV→List Ob→Br
 | [.sh (.pair .str .str) l, .str name],[]=>pE l name
 | _,_=> .fail
theorem iJoined_ok: Sound Kx 161 Ea:=ae (C:=Se) (O:=O0) Tryz.func161 (by kernel_rfl) fun args objs=>by
 unfold Ea;split
 · exact .inr (by kernel_rfl)
 · exact .inl rfl
theorem PN {a b: Nat} (h: a≤b): decide (a≤b)=true:=dT' h
theorem Am (l: List Fd) (name: aa): (fi l name).length≤20∧∀ x ∈ fi l name,x.length≤190:=by
 unfold fi
 cases h: cw l
 · simp
 · rw [cond_true]
   obtain ⟨h1,h2⟩:=gj h
   refine ⟨?_,fun x hx=>?_⟩
   · unfold k9;rw [List.length_map];exact Nat.le_trans (List.length_filter_le _ _) h1
   · unfold k9 at hx
     obtain ⟨f,hf,rfl⟩:=List.mem_map.1 hx
     exact (jd (h2 f (List.mem_filter.1 hf).1)).2
def sepC: aa:=[44,32]
theorem Eb (x: aa) (r: List aa): Lib.joinTail sepC (x::r)=sepC++x++Lib.joinTail sepC r:=by simp [Lib.joinTail]
theorem Lv: ∀ (r: List aa),(∀ x ∈ r,x.length≤190)→(Lib.joinTail sepC r).length≤192 * r.length
 | [],_=>by simp [Lib.joinTail]
 | x::r,h=>by
   have h1:=h x (List.mem_cons_self ..)
   have h2:=Lv r fun y hy=>h y (List.mem_cons_of_mem _ hy)
   have h3: sepC.length=2:=rfl
   rw [Eb]
   simp only [List.length_append,List.length_cons,h3];omega
theorem jS (x: aa) (r: List aa): eI (x::r) sepC=x++Lib.joinTail sepC r:=Lib.join_cons x r sepC
def fC (l: List Fd) (name: aa): aa:=eI (fi l name) sepC
theorem xV (l: List Fd) (name: aa): (fC l name).length≤4000:=by
 unfold fC
 obtain ⟨h1,h2⟩:=Am l name
 cases hv: fi l name with
 | nil=>simp [eI,Lib.join_nil]
 | cons x r=>
   rw [hv] at h1 h2
   have:=h2 x (List.mem_cons_self ..)
   have:=Lv r fun y hy=>h2 y (List.mem_cons_of_mem _ hy)
   rw [jS,List.length_append]
   simp only [List.length_cons] at h1;omega
def agn (p: List Fd→aa→AV): List AV→List Ob→Br
 | [.sh (.pair .str .str) l, .str name],[]=> .ite (isM name) (.ret (p l name) []) .fail
 | _,_=> .fail
theorem Hv: Sound Kx 161 (agn fun l name=> .str (fC l name)):=iJoined_ok.of fun args objs r h=>by
 unfold agn at h
 split at h
 case h_2=>cases h
 rename_i l name
 obtain ⟨h1,h2⟩:=ai h
 cases h2
 show (pE l name).val=_
 unfold pE
 have g1:=(Am l name).1
 have g2:=xV l name
 unfold fC sepC at g2
 refine (bv h1).trans ((bv ?_).trans rfl)
 rw [dT' (by omega),dT' (by omega)];rfl
theorem Ec (v: List aa) (hl: v.length≤20) (k: aa→OR'): ∀ (r: List aa) (i: Int) (n: Nat) (s: aa),At v i r→1≤i→r.length < n→(∀ x ∈ r,x.length≤190)→s.length + 192 * r.length≤100000→
 eP n s i v k=k (s++Lib.joinTail sepC r):=by
 intro r;induction r with
 | nil=>intro i n s h hi hn hf hs;obtain ⟨n,rfl⟩:=bL hn;unfold eP ip;simp only [h.dge,cond_false,Lib.joinTail,List.map_nil,List.flatten_nil,List.append_nil]
 | cons a r ih=>
   intro i n s h hi hn hf hs;obtain ⟨n,rfl⟩:=bL hn
   have ha:=hf a (List.mem_cons_self ..)
   have hr:=fun x h=>hf x (List.mem_cons_of_mem _ h)
   simp only [List.length_cons] at hn hs
   have hp: decide ((0 : Int) < i)=true:=dT' (by omega)
   unfold eP ip
   simp (disch:=(first | omega | (simp only [List.length_append,List.length_cons,List.length_nil];omega))) only [h.dlt,h.dnn,h.get,h.next (by omega),hp,cond_true,PN]
   rw [ih (i + 1) n _ h.step (by omega) (by omega) hr (by simp only [List.length_append,List.length_cons,List.length_nil];omega),Eb]
   simp only [sepC,List.append_assoc]
theorem Hw: Sound Kx 163 (agn fun l name=> .str (fC l name)):=by
 refine (DR (φ:=fun l name=> .ite (isM name) (.ret (.str (fC l name)) []) .fail) (fun l name=>(fi l name).length + 1) fun l name r h=>?_).of fun args objs r h=>?_
 · obtain ⟨h1,h2⟩:=ai h
   cases h2
   unfold uo fC
   rw [h1,cond_true]
   obtain ⟨g1,g2⟩:=Am l name
   revert g1 g2
   generalize fi l name=v
   intro g1 g2
   cases v with
   | nil=>rfl
   | cons x r=>
     have hx:=g2 x (List.mem_cons_self ..)
     have hat: At (x::r) 0 (x::r):=At.start _
     simp only [List.length_cons] at g1
     unfold eP ip
     have h0: decide ((0 : Int) < 0)=false:=rfl
     simp (disch:=(first | omega | (simp only [List.length_append,List.length_cons,List.length_nil];omega))) only [hat.dlt,hat.dnn,hat.get,hat.next (by simp only [List.length_cons];omega),h0,cond_true,cond_false,PN]
     rw [List.nil_append,show (0 : Int) + 1=1 by rfl,List.length_cons,Ec (x::r) (by simp only [List.length_cons];omega) _ r 1 (r.length + 1) _ hat.step (by omega) (by omega) (fun y hy=>g2 y (List.mem_cons_of_mem _ hy)) (by omega),jS]
 · unfold agn at h;split at h
   · exact h
   · cases h
def bytesLess (a b: aa): Bool:=Op.bytesLess a b
def inP (l: List aa) (s: aa): Bool:=l.any fun x=>decide (x=s)
theorem Ov (l: List aa) (hl: l.length≤4611686018427387904) (s: aa) (k0 k1: OR'): ∀ (r: List aa) (i: Int) (n: Nat),At l i r→r.length < n→kE n l s i k0 k1=bif inP r s then k0 else k1:=by
 intro r;induction r with
 | nil=>intro i n h hn;obtain ⟨n,rfl⟩:=bL hn;unfold kE sl;simp only [h.dge,cond_false,inP,List.any_nil]
 | cons a r ih=>
   intro i n h hn;obtain ⟨n,rfl⟩:=bL hn
   have hs:=ih (i + 1) n h.step (by simp at hn;omega)
   unfold kE sl
   simp only [h.dlt,h.dnn,h.get,cond_true,h.next hl,hs,inP,List.any_cons]
   cases decide (a=s) <;> rfl
def ahH: List AV→List Ob→Br
 | [.sh .str l, .str s],[]=> .ite (decide (l.length≤1000000)) (.ret (.bool (inP l s)) []) .fail
 | _,_=> .fail
theorem Ed: Sound Kx 105 ahH:=by
 refine (Oe (φ:=fun l s=> .ite (decide (l.length≤1000000)) (.ret (.bool (inP l s)) []) .fail) (fun l _=>l.length + 1) fun l s r h=>?_).of fun args objs r h=>?_
 · obtain ⟨h1,h2⟩:=ai h
   cases h2
   rw [decide_eq_true_eq] at h1
   unfold DS
   rw [Ov l (by omega) s _ _ l 0 _ (At.start l) (by omega)]
   cases inP l s <;> rfl
 · unfold ahH at h;split at h
   · exact h
   · cases h
def mtP (k: Int): aa:=109::Lib.decDigits k.toNat
def Xo: SC:=[⟨161,_,Hv⟩,⟨160,_,z7⟩]
def Sf (l: List Fd) (name: aa): Br:=(.ite (isM name) (.ret (AV.ref 0 0) [.arr Ty.str 0 false (lV (fC l name))]) .fail)
def Lw: List AV→List Ob→Br
 | [.sh (.pair .str .str) l, .str name],[]=>Sf l name
 | _,_=> .fail
theorem iWords_ok: Sound Kx 87 Lw:=ae (C:=Xo) (O:=O0) Tryz.func87 (by kernel_rfl) fun args objs=>by
 unfold Lw;split
 · exact .inr (by kernel_rfl)
 · exact .inl rfl
def Xp: SC:=[⟨163,_,Hw⟩,⟨162,_,z6⟩]
def Sg (l: List Fd) (name: aa): Br:=(.ite (isM name) (.ret (AV.ref 0 0) [.arr Ty.str 0 false (lV (fC l name))]) .fail)
def Lx: List AV→List Ob→Br
 | [.sh (.pair .str .str) l, .str name],[]=>Sg l name
 | _,_=> .fail
theorem sWords_ok: Sound Kx 89 Lx:=ae (C:=Xp) (O:=O0) Tryz.func89 (by kernel_rfl) fun args objs=>by
 unfold Lx;split
 · exact .inr (by kernel_rfl)
 · exact .inl rfl
def Ly: Opt:={ live:=[(6,[0,1,5,6,7])],outs:=[(6,[1,4,5,6])] }
def sl5put_C: SC:=[⟨105,_,Ed⟩]
def nH (cx: (List aa)) (cg: aa) (dX: Bool) (fG: Int) (ic: (List aa)) (kR6: (List aa)→aa→Bool→Int→(List aa)→OR') (mD: aa→Bool→(List aa)→OR'): OR':=
 (bif (decide (fG < (cx.length: Int))) then (bif (!dX) then (bif (decide (0≤fG)) then (bif (decide (fG < (cx.length: Int))) then (bif (bytesLess cg (List.getD cx (Int.toNat fG) ([]: aa))) then (bif (decide (((ic.length + (List.length (List.set (List.replicate 1 ([]: aa)) 0 cg))) * 16)≤140737488355328)) then (bif (decide (0≤fG)) then (bif (decide (fG < (cx.length: Int))) then (bif (decide ((((List.length (ic++(List.set (List.replicate 1 ([]: aa)) 0 cg))) + (List.length (List.set (List.replicate 1 ([]: aa)) 0 (List.getD cx (Int.toNat fG) ([]: aa))))) * 16)≤140737488355328)) then (kR6 cx cg true (ad (fG + 1)) ((ic++(List.set (List.replicate 1 ([]: aa)) 0 cg))++(List.set (List.replicate 1 ([]: aa)) 0 (List.getD cx (Int.toNat fG) ([]: aa))))) else none) else none) else none) else none) else (bif (decide (0≤fG)) then (bif (decide (fG < (cx.length: Int))) then (bif (decide (((ic.length + (List.length (List.set (List.replicate 1 ([]: aa)) 0 (List.getD cx (Int.toNat fG) ([]: aa))))) * 16)≤140737488355328)) then (kR6 cx cg dX (ad (fG + 1)) (ic++(List.set (List.replicate 1 ([]: aa)) 0 (List.getD cx (Int.toNat fG) ([]: aa))))) else none) else none) else none)) else none) else none) else (bif (decide (0≤fG)) then (bif (decide (fG < (cx.length: Int))) then (bif (decide (((ic.length + (List.length (List.set (List.replicate 1 ([]: aa)) 0 (List.getD cx (Int.toNat fG) ([]: aa))))) * 16)≤140737488355328)) then (kR6 cx cg dX (ad (fG + 1)) (ic++(List.set (List.replicate 1 ([]: aa)) 0 (List.getD cx (Int.toNat fG) ([]: aa))))) else none) else none) else none)) else (mD cg dX ic))
def iz: Nat→(List aa)→aa→Bool→Int→(List aa)→(aa→Bool→(List aa)→OR')→OR'
 | 0,_,_,_,_,_,_=>none
 | n + 1,cx,cg,dX,fG,ic,mD=>nH cx cg dX fG ic (fun cx cg dX fG ic=>iz n cx cg dX fG ic mD) mD
abbrev sl5put_p6: SP:=⟨46,[0,1,5,6,7],[(.v (.sh Ty.str)),(.v .s),(.v (.ref 384 0)),(.v .b),(.v (.i .i64))],[(384, .arr Ty.str 0 false)]⟩
noncomputable def Ee: Code:=aC (aG Tryz.f90) [1,1,1,1,0,1,0,0]
def Ef (f: (aa→Bool→(List aa)→OR')→OR') (k: KT): OR':=f (fun di dv rA=>k (Ex.exit 0) ((St.mk (aF 0 46 [(1,(AV.str di)),(5,(AV.ref 384 0)),(6,(AV.bool dv))]) ((384,(Ob.arr Ty.str 0 false rA))::([]: (List (Nat×(Ob))))))))
def Eg (n: Nat) (d: sl5put_p6.D): KT→OR':=Ef (iz n d.1.1 d.1.2.1 d.1.2.2.2.1 d.1.2.2.2.2.1 d.2.1)
def Lz (N: Nat): Lam:=bH [⟨6,sl5put_p6,Eg N⟩]
theorem Ow (N: Nat): OkL Kx sl5put_C.s Ly 0 N (Lz N) Ee:=okL sl5put_p6 (Eg) (fun d kR=>Ef (nH d.1.1 d.1.2.1 d.1.2.2.2.1 d.1.2.2.2.2.1 d.2.1 (fun cx cg dX fG ic=>kR ((cx,cg,(),dX,fG,()),(ic,()))))) (fun _ _=>by kernel_rfl) (fun _ _ _=>by kernel_rfl) (fun _ _=>by kernel_rfl) (fun _ _ _ _=>by kernel_rfl) (al (l':=[]) (by kernel_rfl) trivial)
def xW (N: Nat) (l: List aa) (s: aa): OR':=(bif (decide (l.length≤1000000)) then (bif (inP l s) then (some ((AV.sh Ty.str l),[])) else (iz N l s false 0 ([]: (List aa)) (fun di dv rA=>(bif (!dv) then (bif (decide (((rA.length + (List.length (List.set (List.replicate 1 ([]: aa)) 0 di))) * 16)≤140737488355328)) then (some ((AV.ref 0 0),[.arr Ty.str 0 false (rA++(List.set (List.replicate 1 ([]: aa)) 0 di))])) else none) else (some ((AV.ref 0 0),[.arr Ty.str 0 false rA])))))) else none)
def pF (φ: (List aa)→aa→Br): List AV→List Ob→Br
 | [.sh .str l, .str s],[]=>φ l s
 | _,_=> .fail
theorem Hx {φ: (List aa)→aa→Br} (fu: (List aa)→aa→Nat) (hv: ∀ l s res_,(φ l s).val=some res_→xW (fu l s) l s=some res_): Sound Kx 90 (pF φ):=ap (C:=sl5put_C) (O:=Ly) Tryz.func90 (by kernel_rfl) fun args objs=>by
 unfold pF;split
 · rename_i l s;exact .inr fun _ hyp_=>aO (Λ:=Lz (fu l s)) (by kernel_rfl) (al (l':=[Ee]) (by kernel_rfl) ⟨Ow _,trivial⟩) (by kernel_rfl) (hv l s _ hyp_)
 · exact .inl rfl
def aN (l: List Fd) (name: aa): List aa:=lV (fC l name)
def ago: List AV→List Ob→Br
 | [.sh (.pair .str .str) l, .str name],[]=> .ite (isM name) (.ret (.ref 0 0) [.arr .str 0 false (aN l name)]) .fail
 | _,_=> .fail
theorem kF: Sound Kx 87 ago:=iWords_ok.of fun args objs r h=>by
 unfold ago at h
 split at h
 · exact h
 · cases h
theorem xX: Sound Kx 89 ago:=sWords_ok.of fun args objs r h=>by
 unfold ago at h
 split at h
 · exact h
 · cases h
def B7: List aa→aa→List aa
 | [],s=>[s]
 | x::r,s=>bif bytesLess s x then s::x::r else x::B7 r s
def xY (l: List aa) (s: aa): List aa:=bif inP l s then l else B7 l s
theorem ap1 (out: List aa) (x: aa) (h: out.length≤5000000): decide ((out.length + (List.set (List.replicate 1 ([]: aa)) 0 x).length) * 16≤140737488355328)=true:=dT' (by rw [bO,List.length_singleton];omega)
theorem Hy (l: List aa) (hl: l.length≤1000000) (s: aa) (k: aa→Bool→List aa→OR') (K: List aa→OR') (hk: ∀ d o,o.length≤2000000→k s d o=K (bif d then o else o++[s])): ∀ (r: List aa) (i: Int) (n: Nat) (d: Bool) (out: List aa),At l i r→r.length < n→out.length + r.length + 1≤2000000 - (bif d then 0 else 1)→
 iz n l s d i out k=K (out++bif d then r else B7 r s):=by
 intro r;induction r with
 | nil=>
   intro i n d out h hn ho;obtain ⟨n,rfl⟩:=bL hn
   simp only [List.length_nil] at ho
   unfold iz nH
   rw [h.dge,cond_false,hk d out (by omega)]
   cases d <;> simp [B7]
 | cons a r ih=>
   intro i n d out h hn ho;obtain ⟨n,rfl⟩:=bL hn
   simp only [List.length_cons] at hn ho
   unfold iz nH
   simp only [h.dlt,h.dnn,h.get,h.next (by omega),cond_true]
   cases d
   · simp only [Bool.not_false,cond_true,cond_false,B7] at ho ⊢
     cases hb: bytesLess s a
     · simp (disch:=(first | omega | (simp only [List.length_append,bO,List.length_cons,List.length_nil];omega))) only [cond_true,cond_false,ap1]
       simp only [bO]
       rw [ih (i + 1) n false _ h.step (by omega) (by simp only [List.length_append,List.length_singleton,cond_false];omega)]
       simp
     · simp (disch:=(first | omega | (simp only [List.length_append,bO,List.length_cons,List.length_nil];omega))) only [cond_true,cond_false,ap1]
       simp only [bO]
       rw [ih (i + 1) n true _ h.step (by omega) (by simp only [List.length_append,List.length_singleton,cond_true];omega)]
       simp
   · simp only [Bool.not_true,cond_true,cond_false] at ho ⊢
     simp (disch:=(first | omega | (simp only [List.length_append,bO,List.length_cons,List.length_nil];omega))) only [cond_true,cond_false,ap1]
     simp only [bO]
     rw [ih (i + 1) n true _ h.step (by omega) (by simp only [List.length_append,List.length_singleton,cond_true];omega)]
     simp
def aey: List AV→List Ob→Br
 | [.sh .str l, .str s],[]=> .ite (decide (l.length≤900000)) (.ret (.sh .str (xY l s)) []) .fail
 | _,_=> .fail
theorem Ox: Sound Kx 90 aey:=by
 have h0: Sound Kx 90 (pF fun l s=> .ite (decide (l.length≤900000)) (bif inP l s then .ret (.sh .str l) [] else .ret (.ref 0 0) [.arr .str 0 false (B7 l s)]) .fail):=by
  refine Hx (fun l _=>l.length + 1) fun l s r h=>?_
  obtain ⟨h1,h2⟩:=ai h
  rw [decide_eq_true_eq] at h1
  unfold xW
  rw [PN (show l.length≤1000000 by omega),cond_true]
  cases c: inP l s
  · rw [c] at h2
    cases h2
    rw [cond_false,Hy l (by omega) s _ (fun o=>some (.ref 0 0,[.arr .str 0 false o])) ?_ l 0 _ false [] (At.start l) (by omega) (by simp only [List.length_nil,cond_false];omega)]
    · rfl
    · intro d o ho
      rw [ap1 o s (by omega)]
      cases d
      · rw [Bool.not_false,cond_true,cond_false,cond_true,bO]
      · rfl
  · rw [c] at h2
    cases h2
    rfl
 refine WS h0 fun args objs res objs' hv=>?_
 unfold aey at hv
 split at hv
 case h_2=>cases hv
 rename_i l s
 obtain ⟨h1,h2⟩:=ai hv
 cases h2
 refine ⟨rfl,rfl,_,_,rfl,?_⟩
 unfold xY
 cases c: inP l s
 · right
   refine ⟨0,false,?_⟩
   show (Br.ite _ _ _).val=_
   rw [c];exact bv h1
 · left
   show (Br.ite _ _ _).val=_
   rw [c];exact bv h1
def LA: Nat→Int→List Fd
 | 0,_=>[]
 | n + 1,k=>(mtP k,mtP (k + 1))::LA n (k + 1 + 1)
def Sh: Opt:={ mutF:=[165,166],live:=[(3,[3,7,8,9])],outs:=[(3,[2,3])] }
def iVary_C: SC:=[⟨118,_,nj⟩,⟨87,_,kF⟩,⟨165,_,WT⟩,⟨166,_,WU⟩]
def sq (aI aA: Int) (bp dA: (List aa)) (kR3: Int→Int→(List aa)→(List aa)→OR') (ei: (List aa)→OR'): OR':=
 (bif (decide (aA < aI)) then (bif (decide (0≤aA)) then (bif (decide (aA < (dA.length: Int))) then (bif (isM (List.getD dA (Int.toNat aA) ([]: aa))) then (bif (decide (((bp.length + (List.length (List.set (List.replicate 1 ([]: aa)) 0 (ay (List.getD dA (Int.toNat aA) ([]: aa)))))) * 16)≤140737488355328)) then (kR3 aI (ad (aA + 1)) (bp++(List.set (List.replicate 1 ([]: aa)) 0 (ay (List.getD dA (Int.toNat aA) ([]: aa))))) dA) else none) else none) else none) else none) else (ei bp))
def kG: Nat→Int→Int→(List aa)→(List aa)→((List aa)→OR')→OR'
 | 0,_,_,_,_,_=>none
 | n + 1,aI,aA,bp,dA,ei=>sq aI aA bp dA (fun aI aA bp dA=>kG n aI aA bp dA ei) ei
abbrev iVary_p3: SP:=⟨23,[3,7,8,9],[(.v (.ref 256 0)),(.v (.ref 512 0)),(.v (.i .i64)),(.v (.i .i64))],[(256, .arr Ty.str 0 false),(512, .arr Ty.str 0 false)]⟩
noncomputable def LB: Code:=aC (aG Tryz.f92) [1,1,0,1,0,0]
def LC (f: ((List aa)→OR')→OR') (k: KT): OR':=f (fun ab=>k (Ex.exit 0) ((St.mk (aF 0 23 [(3,(AV.ref 256 0))]) ((256,(Ob.arr Ty.str 0 false ab))::([]: (List (Nat×(Ob))))))))
def LE (n: Nat) (d: iVary_p3.D): KT→OR':=LC (kG n d.1.2.2.1 d.1.2.2.2.1 d.2.1 d.2.2.1)
def Si (N: Nat): Lam:=bH [⟨3,iVary_p3,LE N⟩]
theorem Sj (N: Nat): OkL Kx iVary_C.s Sh 0 N (Si N) LB:=okL iVary_p3 (LE) (fun d kR=>LC (sq d.1.2.2.1 d.1.2.2.2.1 d.2.1 d.2.2.1 (fun aI aA bp dA=>kR (((),(),aI,aA,()),(bp,dA,()))))) (fun _ _=>by kernel_rfl) (fun _ _ _=>by kernel_rfl) (fun _ _=>by kernel_rfl) (fun _ _ _ _=>by kernel_rfl) (al (l':=[]) (by kernel_rfl) trivial)
def Eh (N: Nat) (l: List Fd): OR':=(kG N ((List.length (aN l ([118,97,114,121]: aa))): Int) 0 ([]: (List aa)) (aN l ([118,97,114,121]: aa)) (fun ab=>(bif (decide (ab.length≤1000000)) then (bif (decide ((List.length (jx ab))≤1000000)) then (some ((AV.ref 0 0),[.arr Ty.str 0 false (k8 (jx ab))])) else none) else none)))
def Ei (φ: (List Fd)→Br): List AV→List Ob→Br
 | [.sh (.pair .str .str) l],[]=>φ l
 | _,_=> .fail
theorem Oy {φ: (List Fd)→Br} (fu: (List Fd)→Nat) (hv: ∀ l res_,(φ l).val=some res_→Eh (fu l) l=some res_): Sound Kx 92 (Ei φ):=ap (C:=iVary_C) (O:=Sh) Tryz.func92 (by kernel_rfl) fun args objs=>by
 unfold Ei;split
 · rename_i l;exact .inr fun _ hyp_=>aO (Λ:=Si (fu l)) (by kernel_rfl) (al (l':=[LB]) (by kernel_rfl) ⟨Sj _,trivial⟩) (by kernel_rfl) (hv l _ hyp_)
 · exact .inl rfl
def Sk: Opt:={ live:=[(4,[3,4,5])],outs:=[(4,[2,3])],shn:=[3] }
def sVary_C: SC:=[⟨91,_,ik⟩,⟨89,_,xX⟩,⟨90,_,Ox⟩]
def sr (a_: (List aa)) (a8: Int) (aQ: (List aa)) (kR4: (List aa)→Int→(List aa)→OR') (eK: (List aa)→OR'): OR':=
 (bif (decide (a8 < (aQ.length: Int))) then (bif (decide (0≤a8)) then (bif (decide (a8 < (aQ.length: Int))) then (bif (isM (List.getD aQ (Int.toNat a8) ([]: aa))) then (bif (decide (a_.length≤900000)) then (kR4 (xY a_ (ay (List.getD aQ (Int.toNat a8) ([]: aa)))) (ad (a8 + 1)) aQ) else none) else none) else none) else none) else (eK a_))
def kH: Nat→(List aa)→Int→(List aa)→((List aa)→OR')→OR'
 | 0,_,_,_,_=>none
 | n + 1,a_,a8,aQ,eK=>sr a_ a8 aQ (fun a_ a8 aQ=>kH n a_ a8 aQ eK) eK
abbrev sVary_p4: SP:=⟨22,[3,4,5],[(.v (.sh Ty.str)),(.v (.ref 320 0)),(.v (.i .i64))],[(320, .arr Ty.str 0 false)]⟩
noncomputable def LF: Code:=aC (aG Tryz.f34) [1,1,1,0,1,0,0]
def LG (f: ((List aa)→OR')→OR') (k: KT): OR':=f (fun dh=>k (Ex.exit 0) ((St.mk (aF 0 22 [(3,(AV.sh Ty.str dh))]) ([]: (List (Nat×(Ob)))))))
def LH (n: Nat) (d: sVary_p4.D): KT→OR':=LG (kH n d.1.1 d.1.2.2.1 d.2.1)
def Sl (N: Nat): Lam:=bH [⟨4,sVary_p4,LH N⟩]
theorem Sn (N: Nat): OkL Kx sVary_C.s Sk 0 N (Sl N) LF:=okL sVary_p4 (LH) (fun d kR=>LG (sr d.1.1 d.1.2.2.1 d.2.1 (fun a_ a8 aQ=>kR ((a_,(),a8,()),(aQ,()))))) (fun _ _=>by kernel_rfl) (fun _ _ _=>by kernel_rfl) (fun _ _=>by kernel_rfl) (fun _ _ _ _=>by kernel_rfl) (al (l':=[]) (by kernel_rfl) trivial)
def Ej (N: Nat) (l: List Fd): OR':=(kH N ([]: (List aa)) 0 (aN l ([118,97,114,121]: aa)) (fun dh=>(some ((AV.sh Ty.str dh),[]))))
def Ek (φ: (List Fd)→Br): List AV→List Ob→Br
 | [.sh (.pair .str .str) l],[]=>φ l
 | _,_=> .fail
theorem Oz {φ: (List Fd)→Br} (fu: (List Fd)→Nat) (hv: ∀ l res_,(φ l).val=some res_→Ej (fu l) l=some res_): Sound Kx 34 (Ek φ):=ap (C:=sVary_C) (O:=Sk) Tryz.func34 (by kernel_rfl) fun args objs=>by
 unfold Ek;split
 · rename_i l;exact .inr fun _ hyp_=>aO (Λ:=Sl (fu l)) (by kernel_rfl) (al (l':=[LF]) (by kernel_rfl) ⟨Sn _,trivial⟩) (by kernel_rfl) (hv l _ hyp_)
 · exact .inl rfl
end
end Go.Proofs.YtgknmoadpgpdeaaGreatDoor.Ev
namespace Go.Proofs.YtgknmoadpgpdeaaGreatDoor.Ev
open Go Go.RowKit
set_option linter.unusedVariables false
set_option linter.unusedSimpArgs false
abbrev Asc (l: List aa): Prop:=l.Pairwise fun a b=>a < b
theorem ZZ: ∀ {l m: List aa},Asc l→Asc m→(∀ x,x ∈ l↔x ∈ m)→l=m
 | [],[],_,_,_=>rfl
 | [],b::m,_,_,h=>by have:=(h b).2 (List.mem_cons_self ..);cases this
 | a::l,[],_,_,h=>by have:=(h a).1 (List.mem_cons_self ..);cases this
 | a::l,b::m,h1,h2,h=>by
   obtain ⟨g1,g2⟩:=List.pairwise_cons.1 h1
   obtain ⟨k1,k2⟩:=List.pairwise_cons.1 h2
   have hab: a=b:=by
    rcases List.mem_cons.1 ((h a).1 (List.mem_cons_self ..)) with e | e
    · exact e
    · rcases List.mem_cons.1 ((h b).2 (List.mem_cons_self ..)) with e' | e'
      · exact e'.symm
      · exact absurd (k1 a e) (List.lt_asymm (g1 b e'))
   subst hab
   congr 1
   refine ZZ g2 k2 fun x=>⟨fun hx=>?_,fun hx=>?_⟩
   · rcases List.mem_cons.1 ((h x).1 (List.mem_cons_of_mem _ hx)) with e | e
     · subst e;exact absurd (g1 x hx) (List.lt_irrefl x)
     · exact e
   · rcases List.mem_cons.1 ((h x).2 (List.mem_cons_of_mem _ hx)) with e | e
     · subst e;exact absurd (k1 x hx) (List.lt_irrefl x)
     · exact e
theorem So (a b: aa): bytesLess a b=decide (a < b):=bytesLess_eq a b
theorem uO {a b: aa} (h1: ¬ a < b) (h2: b≠a): b < a:=by
 rcases Classical.em (b < a) with h | h
 · exact h
 · exact absurd (List.le_antisymm (List.not_lt.1 h1) (List.not_lt.1 h)) h2
theorem Hz (s x: aa): ∀ l: List aa,x ∈ B7 l s↔x ∈ l∨x=s
 | []=>by simp [B7]
 | a::l=>by
   unfold B7
   cases bytesLess s a
   · simp only [cond_false,List.mem_cons,Hz s x l,or_assoc]
   · simp only [cond_true,List.mem_cons]
     constructor
     · rintro (h | h | h)
       · exact .inr h
       · exact .inl (.inl h)
       · exact .inl (.inr h)
     · rintro ((h | h) | h)
       · exact .inr (.inl h)
       · exact .inr (.inr h)
       · exact .inl h
theorem Sp (s: aa): ∀ {l: List aa},Asc l→s ∉ l→Asc (B7 l s)
 | [],_,_=>by simp [B7]
 | a::l,h,hs=>by
   obtain ⟨g1,g2⟩:=List.pairwise_cons.1 h
   unfold B7
   cases hb: bytesLess s a
   · rw [So] at hb
     have hab: a < s:=uO (of_decide_eq_false hb) fun e=>hs (by rw [e];exact List.mem_cons_self ..)
     rw [cond_false]
     refine List.pairwise_cons.2 ⟨fun y hy=>?_,Sp s g2 fun e=>hs (List.mem_cons_of_mem _ e)⟩
     rcases (Hz s y l).1 hy with e | e
     · exact g1 y e
     · subst e;exact hab
   · rw [So] at hb
     have hab:=of_decide_eq_true hb
     rw [cond_true]
     refine List.pairwise_cons.2 ⟨fun y hy=>?_,h⟩
     rcases List.mem_cons.1 hy with e | e
     · subst e;exact hab
     · exact List.lt_trans hab (g1 y e)
theorem Sq (l: List aa) (s: aa): inP l s=true↔s ∈ l:=by
 unfold inP
 simp
theorem abL (l: List aa) (s x: aa): x ∈ xY l s↔x ∈ l∨x=s:=by
 unfold xY
 cases h: inP l s
 · exact Hz s x l
 · rw [cond_true]
   refine ⟨.inl,fun h2=>?_⟩
   rcases h2 with e | e
   · exact e
   · subst e;exact (Sq l x).1 h
theorem abM {l: List aa} (hl: Asc l) (s: aa): Asc (xY l s):=by
 unfold xY
 cases h: inP l s
 · exact Sp s hl fun e=>by rw [(Sq l s).2 e] at h;cases h
 · exact hl
theorem El: ∀ (xs l: List aa),Asc l→Asc (xs.foldl xY l)∧∀ x,x ∈ xs.foldl xY l↔x ∈ l∨x ∈ xs
 | [],l,h=>⟨h,fun x=>by simp⟩
 | a::xs,l,h=>by
   obtain ⟨h1,h2⟩:=El xs (xY l a) (abM h a)
   refine ⟨h1,fun x=>?_⟩
   show x ∈ xs.foldl xY (xY l a)↔_
   rw [h2,abL,List.mem_cons,or_assoc]
theorem Sr (xs: List aa): (jx xs).Pairwise fun a b=>a≤b:=by
 have:=List.pairwise_mergeSort (le:=fun x y: aa=>decide (x≤y)) (fun a b c h1 h2=>by simp only [decide_eq_true_eq] at *;exact List.le_trans h1 h2) (fun a b=>by simp only [Bool.or_eq_true,decide_eq_true_eq];exact List.le_total a b) xs
 exact this.imp fun h=>by simpa using h
theorem Xq (xs: List aa) (x: aa): x ∈ jx xs↔x ∈ xs:=(List.mergeSort_perm xs _).mem_iff
theorem Xr {zs: List aa} (h: zs.Pairwise fun a b=>a≤b): Asc (k8 zs)∧∀ x,x ∈ k8 zs↔x ∈ zs:=by
 have hle: ∀ i j,i≤j→j < zs.length→zs.toArray[i]! ≤zs.toArray[j]! :=fun i j hij hj=>by
  rw [getElem!_pos _ i (by simpa using Nat.lt_of_le_of_lt hij hj),getElem!_pos _ j (by simpa using hj)]
  rcases Nat.lt_or_ge i j with h' | h'
  · simpa using List.pairwise_iff_getElem.1 h i j (by omega) hj h'
  · obtain rfl: i=j:=by omega
    exact List.le_refl _
 unfold k8 Lib.compact Lib.compactUpTo
 refine ⟨?_,fun x=>⟨fun hx=>?_,fun hx=>?_⟩⟩
 · refine List.pairwise_map.2 ?_
   have h1: ((List.range zs.length).filter (Lib.keeps zs.toArray)).Pairwise (· < ·):=List.pairwise_lt_range.filter _
   refine h1.imp_of_mem fun {i j} hi hj hij=>?_
   obtain ⟨hj1,hj2⟩:=List.mem_filter.1 hj
   have hj1:=List.mem_range.1 hj1
   have hne: zs.toArray[j]! ≠zs.toArray[j - 1]! :=by
    have:=of_decide_eq_true hj2
    rcases this with e | e
    · omega
    · exact e
   have g1:=hle i (j - 1) (by omega) (by omega)
   have g2:=hle (j - 1) j (by omega) hj1
   have g3: zs.toArray[j - 1]! < zs.toArray[j]! :=uO (fun hlt=>hne (List.le_antisymm (List.le_of_lt hlt) g2)) (Ne.symm hne)
   rcases Classical.em (zs.toArray[i]! =zs.toArray[j - 1]!) with e | e
   · rw [e];exact g3
   · exact List.lt_trans (uO (fun hlt=>e (List.le_antisymm g1 (List.le_of_lt hlt))) e) g3
 · obtain ⟨i,hi,rfl⟩:=List.mem_map.1 hx
   have hi': i < zs.length:=List.mem_range.1 (List.mem_filter.1 hi).1
   simp [getElem!_pos,hi']
 · obtain ⟨i,hi,rfl⟩:=List.mem_iff_getElem.1 hx
   clear hx
   induction i with
   | zero=>exact List.mem_map.2 ⟨0,List.mem_filter.2 ⟨List.mem_range.2 hi,by simp [Lib.keeps]⟩,by simp [getElem!_pos,hi]⟩
   | succ i ih=>
     rcases Classical.em (zs[i + 1]=zs[i]) with e | e
     · rw [e];exact ih (by omega)
     · refine List.mem_map.2 ⟨i + 1,List.mem_filter.2 ⟨List.mem_range.2 hi,?_⟩,by simp [getElem!_pos,hi]⟩
       refine dT' (.inr ?_)
       rw [getElem!_pos _ (i + 1) (by simpa using hi),getElem!_pos _ (i + 1 - 1) (by simp;omega)]
       simpa using e
theorem Ss (xs: List aa): k8 (jx xs)=xs.foldl xY []:=by
 obtain ⟨h1,h2⟩:=Xr (Sr xs)
 obtain ⟨h3,h4⟩:=El xs [] (by simp)
 exact ZZ h1 h3 fun x=>by rw [h2,Xq,h4];simp
end Go.Proofs.YtgknmoadpgpdeaaGreatDoor.Ev
namespace Go.Proofs.YtgknmoadpgpdeaaGreatDoor.Ev
open Go Go.RowKit
set_option linter.unusedVariables false
set_option linter.unusedSimpArgs false
noncomputable section
theorem Xs: ∀ (n: Nat) (r cur: aa) (q: Bool),r.length≤n→(eQ cur q r).length≤r.length + 1∧∀ x ∈ eQ cur q r,x.length≤cur.length + r.length:=by
 intro n;induction n with
 | zero=>
   intro r cur q h
   obtain rfl: r=[]:=List.length_eq_zero_iff.1 (by omega)
   simp [jQ]
 | succ n ih=>
   intro r cur q h
   cases r with
   | nil=>simp [jQ]
   | cons c r=>
     simp only [List.length_cons] at h
     have step: ∀ (cur': aa) (q': Bool),cur'.length≤cur.length + 1→(eQ cur' q' r).length≤(c::r).length + 1∧∀ x ∈ eQ cur' q' r,x.length≤cur.length + (c::r).length:=fun cur' q' hc=>by
      obtain ⟨h1,h2⟩:=ih r cur' q' (by omega)
      refine ⟨by simp only [List.length_cons];omega,fun x hx=>?_⟩
      have:=h2 x hx
      simp only [List.length_cons];omega
     rw [iq]
     cases decide (by8 c=34)
     · rw [cond_false]
       cases q&&decide (by8 c=92)
       · rw [cond_false]
         cases !q&&decide (by8 c=44)
         · rw [cond_false];exact step _ _ (by simp)
         · rw [cond_true]
           obtain ⟨h1,h2⟩:=ih r [] q (by omega)
           refine ⟨by simp only [List.length_cons];omega,fun x hx=>?_⟩
           rcases List.mem_cons.1 hx with e | e
           · subst e;omega
           · have:=h2 x e
             simp only [List.length_cons,List.length_nil] at this ⊢;omega
       · rw [cond_true]
         cases r with
         | nil=>simp
         | cons d r=>
           simp only [List.length_cons] at h
           obtain ⟨h1,h2⟩:=ih r (cur++[c,d]) q (by omega)
           refine ⟨by simp only [List.length_cons];omega,fun x hx=>?_⟩
           have:=h2 x hx
           simp only [List.length_cons,List.length_append,List.length_nil] at this ⊢;omega
     · rw [cond_true];exact step _ _ (by simp)
theorem jj (p: UInt8→Bool): ∀ s: aa,(s.dropWhile p).length≤s.length
 | []=>by simp
 | a::s=>by
   rw [List.dropWhile_cons]
   split
   · have:=jj p s;simp only [List.length_cons];omega
   · exact Nat.le_refl _
theorem Xt (s: aa): (aE s).length≤s.length:=by
 unfold aE pn lJ
 rw [List.length_reverse]
 refine Nat.le_trans (jj _ _) ?_
 rw [List.length_reverse]
 exact jj _ _
theorem LI: ∀ (l: List aa) (n: Nat),(∀ x ∈ l,x.length≤n)→(fN l).length≤l.length∧∀ x ∈ fN l,x.length≤n
 | [],_,_=>by simp [fN]
 | a::l,n,h=>by
   obtain ⟨h1,h2⟩:=LI l n fun x hx=>h x (List.mem_cons_of_mem _ hx)
   have ha:=h a (List.mem_cons_self ..)
   have:=Xt a
   rw [gk]
   cases decide (aE a=[])
   · rw [cond_false]
     refine ⟨by simp only [List.length_cons];omega,fun x hx=>?_⟩
     rcases List.mem_cons.1 hx with e | e
     · subst e;omega
     · exact h2 x e
   · rw [cond_true]
     exact ⟨by simp only [List.length_cons];omega,h2⟩
theorem An (s: aa): (lV s).length≤4001∧∀ x ∈ lV s,x.length≤4000:=by
 unfold lV
 cases c: decide (4000 < (s.length: Int))
 · have hl:=of_decide_eq_false c
   rw [cond_false]
   obtain ⟨h1,h2⟩:=Xs s.length s [] false (Nat.le_refl _)
   obtain ⟨h3,h4⟩:=LI (eQ [] false s) 4000 fun x hx=>by have:=h2 x hx;simp only [List.length_nil] at this;omega
   exact ⟨by omega,h4⟩
 · simp
theorem fP (l: List Fd) (name: aa): (aN l name).length≤4001∧∀ x ∈ aN l name,isM x=true:=
 ⟨(An _).1,fun x hx=>bn ((An _).2 x hx)⟩
def pG: aa:=[118,97,114,121]
def fQ (l: List Fd): List aa:=(aN l pG).foldl (fun o w=>xY o (ay w)) []
theorem Su (l: List Fd): k8 (jx ((aN l pG).map ay))=fQ l:=by
 rw [Ss,List.foldl_map];rfl
theorem OA (k: List aa→OR') (ws: List aa) (hl: ws.length≤100000): ∀ (r: List aa) (i: Int) (n: Nat) (out: List aa),At ws i r→r.length < n→(∀ x ∈ r,isM x=true)→out.length + r.length≤200000→
 kG n (ws.length: Int) i out ws k=k (out++r.map ay):=by
 intro r;induction r with
 | nil=>intro i n out h hn hf ho;obtain ⟨n,rfl⟩:=bL hn;unfold kG sq;rw [h.dge,cond_false];simp
 | cons a r ih=>
   intro i n out h hn hf ho;obtain ⟨n,rfl⟩:=bL hn
   have ha:=hf a (List.mem_cons_self ..)
   have hr:=fun x h=>hf x (List.mem_cons_of_mem _ h)
   simp only [List.length_cons] at hn ho
   unfold kG sq
   simp (disch:=omega) only [h.dlt,h.dnn,h.get,h.next (by omega),ha,cond_true,ap1]
   rw [bO,ih (i + 1) n _ h.step (by omega) hr (by simp only [List.length_append,List.length_singleton];omega)]
   simp
theorem Sv (s: aa): ∀ l: List aa,(B7 l s).length≤l.length + 1
 | []=>by simp [B7]
 | a::l=>by
   have:=Sv s l
   unfold B7
   cases bytesLess s a
   · rw [cond_false];simp only [List.length_cons];omega
   · rw [cond_true];simp only [List.length_cons];omega
theorem abN (l: List aa) (s: aa): (xY l s).length≤l.length + 1:=by
 unfold xY
 cases inP l s
 · rw [cond_false];exact Sv s l
 · rw [cond_true];omega
theorem OB (k: List aa→OR') (ws: List aa) (hl: ws.length≤100000): ∀ (r: List aa) (i: Int) (n: Nat) (out: List aa),At ws i r→r.length < n→(∀ x ∈ r,isM x=true)→out.length + r.length≤200000→
 kH n out i ws k=k (r.foldl (fun o w=>xY o (ay w)) out):=by
 intro r;induction r with
 | nil=>intro i n out h hn hf ho;obtain ⟨n,rfl⟩:=bL hn;unfold kH sr;rw [h.dge,cond_false];rfl
 | cons a r ih=>
   intro i n out h hn hf ho;obtain ⟨n,rfl⟩:=bL hn
   have ha:=hf a (List.mem_cons_self ..)
   have hr:=fun x h=>hf x (List.mem_cons_of_mem _ h)
   simp only [List.length_cons] at hn ho
   have hp:=abN out (ay a)
   unfold kH sr
   simp (disch:=omega) only [h.dlt,h.dnn,h.get,h.next (by omega),ha,cond_true,PN]
   rw [ih (i + 1) n _ h.step (by omega) hr (by omega)]
   rfl
def aez: List AV→List Ob→Br
 | [.sh (.pair .str .str) l],[]=> .ret (.ref 0 0) [.arr .str 0 false (fQ l)]
 | _,_=> .fail
def aeA: List AV→List Ob→Br
 | [.sh (.pair .str .str) l],[]=> .ret (.sh .str (fQ l)) []
 | _,_=> .fail
theorem Em: Sound Kx 92 aez:=by
 refine (Oy (φ:=fun l=> .ret (.ref 0 0) [.arr .str 0 false (fQ l)]) (fun l=>(aN l pG).length + 1) fun l r h=>?_).of fun args objs r h=>?_
 · cases h
   obtain ⟨h1,h2⟩:=fP l pG
   rw [← Su]
   have hs: (jx ((aN l pG).map ay)).length=(aN l pG).length:=by simp [jx]
   unfold Eh
   refine (OA _ (aN l pG) (by omega) _ 0 _ [] (At.start _) (by omega) h2 (by simp only [List.length_nil];omega)).trans ?_
   simp only [List.nil_append]
   rw [PN (by rw [List.length_map];omega),PN (by rw [hs];omega)];rfl
 · unfold aez at h;split at h
   · exact h
   · cases h
theorem Sw: Sound Kx 34 aeA:=by
 refine (Oz (φ:=fun l=> .ret (.sh .str (fQ l)) []) (fun l=>(aN l pG).length + 1) fun l r h=>?_).of fun args objs r h=>?_
 · cases h
   obtain ⟨h1,h2⟩:=fP l pG
   unfold Ej
   exact OB _ (aN l pG) (by omega) _ 0 _ [] (At.start _) (by omega) h2 (by simp only [List.length_nil];omega)
 · unfold aeA at h;split at h
   · exact h
   · cases h
theorem Ao (l: List Fd): (fQ l).length≤4001:=by
 rw [← Su]
 refine Nat.le_trans (Kh _) ?_
 have hs: (jx ((aN l pG).map ay)).length=(aN l pG).length:=by simp [jx]
 rw [hs];exact (fP l pG).1
end
end Go.Proofs.YtgknmoadpgpdeaaGreatDoor.Ev
