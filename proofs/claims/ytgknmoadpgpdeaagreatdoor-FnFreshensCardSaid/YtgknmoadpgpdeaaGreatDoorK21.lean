/- The texts Ne, Nf, Ng, Nh, Ni, Nj, Nk, Nl, one behind the other. -/
import Derived.Test.YtgknmoadpgpdeaaGreatDoorK17
import Derived.Test.YtgknmoadpgpdeaaGreatDoorK16
import Derived.Test.YtgknmoadpgpdeaaGreatDoorK13
namespace Go.Proofs.YtgknmoadpgpdeaaGreatDoor.Ev
open Go Go.RowKit
set_option linter.unusedVariables false
set_option linter.unusedSimpArgs false
noncomputable section
def QF: SC:=[⟨47,_,jt⟩,⟨223,_,Ih⟩]
def oL (l: List Fd) (name: aa): Br:=(.ite (isM name) (.ite ((decide ((List.length (e_ l name))≤1000000))&&(decide ((List.length (gW (e_ l name) ([44,32]: aa)))≤1000000))) (.ret (AV.str (gW (e_ l name) ([44,32]: aa))) []) .fail) .fail)
def CU: List AV→List Ob→Br
 | [.sh (.pair .str .str) l, .str name],[]=>oL l name
 | _,_=> .fail
theorem iJoined_ok: Sound Kx 161 CU:=ah (C:=QF) (O:=O0) Tryz.func161 (by kernel_rfl) fun args objs=>by
 unfold CU;split
 · exact .inr (by kernel_rfl)
 · exact .inl rfl
theorem Zq {a b: Nat} (h: a≤b): decide (a≤b)=true:=dT' h
theorem rH (l: List Fd) (name: aa): (e_ l name).length≤20∧∀ x ∈ e_ l name,x.length≤190:=by
 unfold e_
 cases h: bd l
 · simp
 · rw [cond_true]
   obtain ⟨h1,h2⟩:=b_ h
   refine ⟨?_,fun x hx=>?_⟩
   · unfold ip;rw [List.length_map];exact Nat.le_trans (List.length_filter_le _ _) h1
   · unfold ip at hx
     obtain ⟨f,hf,rfl⟩:=List.mem_map.1 hx
     exact (js (h2 f (List.mem_filter.1 hf).1)).2
def sepC: aa:=[44,32]
theorem CV (x: aa) (r: List aa): Lib.joinTail sepC (x::r)=sepC++x++Lib.joinTail sepC r:=by simp [Lib.joinTail]
theorem Jq: ∀ (r: List aa),(∀ x ∈ r,x.length≤190)→(Lib.joinTail sepC r).length≤192 * r.length
 | [],_=>by simp [Lib.joinTail]
 | x::r,h=>by
   have h1:=h x (List.mem_cons_self ..)
   have h2:=Jq r fun y hy=>h y (List.mem_cons_of_mem _ hy)
   have h3: sepC.length=2:=rfl
   rw [CV]
   simp only [List.length_append,List.length_cons,h3];omega
theorem CW (x: aa) (r: List aa): gW (x::r) sepC=x++Lib.joinTail sepC r:=Lib.join_cons x r sepC
def it (l: List Fd) (name: aa): aa:=gW (e_ l name) sepC
theorem MK (l: List Fd) (name: aa): (it l name).length≤4000:=by
 unfold it
 obtain ⟨h1,h2⟩:=rH l name
 cases hv: e_ l name with
 | nil=>simp [gW,Lib.join_nil]
 | cons x r=>
   rw [hv] at h1 h2
   have:=h2 x (List.mem_cons_self ..)
   have:=Jq r fun y hy=>h2 y (List.mem_cons_of_mem _ hy)
   rw [CW,List.length_append]
   simp only [List.length_cons] at h1;omega
def aga (p: List Fd→aa→AV): List AV→List Ob→Br
 | [.sh (.pair .str .str) l, .str name],[]=> .ite (isM name) (.ret (p l name) []) .fail
 | _,_=> .fail
theorem F2: Sound Kx 161 (aga fun l name=> .str (it l name)):=iJoined_ok.of fun args objs r h=>by
 unfold aga at h
 split at h
 case h_2=>cases h
 rename_i l name
 obtain ⟨h1,h2⟩:=al h
 cases h2
 show (oL l name).val=_
 unfold oL
 have g1:=(rH l name).1
 have g2:=MK l name
 unfold it sepC at g2
 refine (bX h1).trans ((bX ?_).trans rfl)
 rw [dT' (by omega),dT' (by omega)];rfl
theorem CX (v: List aa) (hl: v.length≤20) (k: aa→OR'): ∀ (r: List aa) (i: Int) (n: Nat) (s: aa),At v i r→1≤i→r.length < n→(∀ x ∈ r,x.length≤190)→s.length + 192 * r.length≤100000→
 fi n s i v k=k (s++Lib.joinTail sepC r):=by
 intro r;induction r with
 | nil=>intro i n s h hi hn hf hs;obtain ⟨n,rfl⟩:=bF hn;unfold fi iJ;simp only [h.dge,cond_false,Lib.joinTail,List.map_nil,List.flatten_nil,List.append_nil]
 | cons a r ih=>
   intro i n s h hi hn hf hs;obtain ⟨n,rfl⟩:=bF hn
   have ha:=hf a (List.mem_cons_self ..)
   have hr:=fun x h=>hf x (List.mem_cons_of_mem _ h)
   simp only [List.length_cons] at hn hs
   have hp: decide ((0 : Int) < i)=true:=dT' (by omega)
   unfold fi iJ
   simp (disch:=(first | omega | (simp only [List.length_append,List.length_cons,List.length_nil];omega))) only [h.dlt,h.dnn,h.get,h.next (by omega),hp,cond_true,Zq]
   rw [ih (i + 1) n _ h.step (by omega) (by omega) hr (by simp only [List.length_append,List.length_cons,List.length_nil];omega),CV]
   simp only [sepC,List.append_assoc]
theorem F3: Sound Kx 163 (aga fun l name=> .str (it l name)):=by
 refine (CA (φ:=fun l name=> .ite (isM name) (.ret (.str (it l name)) []) .fail) (fun l name=>(e_ l name).length + 1) fun l name r h=>?_).of fun args objs r h=>?_
 · obtain ⟨h1,h2⟩:=al h
   cases h2
   unfold tI it
   rw [h1,cond_true]
   obtain ⟨g1,g2⟩:=rH l name
   revert g1 g2
   generalize e_ l name=v
   intro g1 g2
   cases v with
   | nil=>rfl
   | cons x r=>
     have hx:=g2 x (List.mem_cons_self ..)
     have hat: At (x::r) 0 (x::r):=At.start _
     simp only [List.length_cons] at g1
     unfold fi iJ
     have h0: decide ((0 : Int) < 0)=false:=rfl
     simp (disch:=(first | omega | (simp only [List.length_append,List.length_cons,List.length_nil];omega))) only [hat.dlt,hat.dnn,hat.get,hat.next (by simp only [List.length_cons];omega),h0,cond_true,cond_false,Zq]
     rw [List.nil_append,show (0 : Int) + 1=1 by rfl,List.length_cons,CX (x::r) (by simp only [List.length_cons];omega) _ r 1 (r.length + 1) _ hat.step (by omega) (by omega) (fun y hy=>g2 y (List.mem_cons_of_mem _ hy)) (by omega),CW]
 · unfold aga at h;split at h
   · exact h
   · cases h
def bytesLess (a b: aa): Bool:=Op.bytesLess a b
def inP (l: List aa) (s: aa): Bool:=l.any fun x=>decide (x=s)
theorem ML (l: List aa) (hl: l.length≤4611686018427387904) (s: aa) (k0 k1: OR'): ∀ (r: List aa) (i: Int) (n: Nat),At l i r→r.length < n→kX n l s i k0 k1=bif inP r s then k0 else k1:=by
 intro r;induction r with
 | nil=>intro i n h hn;obtain ⟨n,rfl⟩:=bF hn;unfold kX rE;simp only [h.dge,cond_false,inP,List.any_nil]
 | cons a r ih=>
   intro i n h hn;obtain ⟨n,rfl⟩:=bF hn
   have hs:=ih (i + 1) n h.step (by simp at hn;omega)
   unfold kX rE
   simp only [h.dlt,h.dnn,h.get,cond_true,h.next hl,hs,inP,List.any_cons]
   cases decide (a=s) <;> rfl
def ahn: List AV→List Ob→Br
 | [.sh .str l, .str s],[]=> .ite (decide (l.length≤1000000)) (.ret (.bool (inP l s)) []) .fail
 | _,_=> .fail
theorem CY: Sound Kx 105 ahn:=by
 refine (Mz (φ:=fun l s=> .ite (decide (l.length≤1000000)) (.ret (.bool (inP l s)) []) .fail) (fun l _=>l.length + 1) fun l s r h=>?_).of fun args objs r h=>?_
 · obtain ⟨h1,h2⟩:=al h
   cases h2
   rw [decide_eq_true_eq] at h1
   unfold CB
   rw [ML l (by omega) s _ _ l 0 _ (At.start l) (by omega)]
   cases inP l s <;> rfl
 · unfold ahn at h;split at h
   · exact h
   · cases h
def mtP (k: Int): aa:=109::Lib.decDigits k.toNat
def WM: SC:=[⟨161,_,F2⟩,⟨160,_,yN⟩]
def QG (l: List Fd) (name: aa): Br:=(.ite (isM name) (.ret (AV.ref 0 0) [.arr Ty.str 0 false (q7 (it l name))]) .fail)
def Jr: List AV→List Ob→Br
 | [.sh (.pair .str .str) l, .str name],[]=>QG l name
 | _,_=> .fail
theorem iWords_ok: Sound Kx 87 Jr:=ah (C:=WM) (O:=O0) Tryz.func87 (by kernel_rfl) fun args objs=>by
 unfold Jr;split
 · exact .inr (by kernel_rfl)
 · exact .inl rfl
def WN: SC:=[⟨163,_,F3⟩,⟨162,_,yM⟩]
def QH (l: List Fd) (name: aa): Br:=(.ite (isM name) (.ret (AV.ref 0 0) [.arr Ty.str 0 false (q7 (it l name))]) .fail)
def Js: List AV→List Ob→Br
 | [.sh (.pair .str .str) l, .str name],[]=>QH l name
 | _,_=> .fail
theorem sWords_ok: Sound Kx 89 Js:=ah (C:=WN) (O:=O0) Tryz.func89 (by kernel_rfl) fun args objs=>by
 unfold Js;split
 · exact .inr (by kernel_rfl)
 · exact .inl rfl
def Jt: Opt:={ live:=[(6,[0,1,5,6,7])],outs:=[(6,[1,4,5,6])] }
def sl5put_C: SC:=[⟨105,_,CY⟩]
def nF (dU: (List aa)) (ec: aa) (ej: Bool) (eJ: Int) (iz: (List aa)) (kR6: (List aa)→aa→Bool→Int→(List aa)→OR') (sd: aa→Bool→(List aa)→OR'): OR':=
 (bif (decide (eJ < (dU.length: Int))) then (bif (!ej) then (bif (decide (0≤eJ)) then (bif (decide (eJ < (dU.length: Int))) then (bif (bytesLess ec (List.getD dU (Int.toNat eJ) ([]: aa))) then (bif (decide (((iz.length + (List.length (List.set (List.replicate 1 ([]: aa)) 0 ec))) * 16)≤140737488355328)) then (bif (decide (0≤eJ)) then (bif (decide (eJ < (dU.length: Int))) then (bif (decide ((((List.length (iz++(List.set (List.replicate 1 ([]: aa)) 0 ec))) + (List.length (List.set (List.replicate 1 ([]: aa)) 0 (List.getD dU (Int.toNat eJ) ([]: aa))))) * 16)≤140737488355328)) then (kR6 dU ec true (ai (eJ + 1)) ((iz++(List.set (List.replicate 1 ([]: aa)) 0 ec))++(List.set (List.replicate 1 ([]: aa)) 0 (List.getD dU (Int.toNat eJ) ([]: aa))))) else none) else none) else none) else none) else (bif (decide (0≤eJ)) then (bif (decide (eJ < (dU.length: Int))) then (bif (decide (((iz.length + (List.length (List.set (List.replicate 1 ([]: aa)) 0 (List.getD dU (Int.toNat eJ) ([]: aa))))) * 16)≤140737488355328)) then (kR6 dU ec ej (ai (eJ + 1)) (iz++(List.set (List.replicate 1 ([]: aa)) 0 (List.getD dU (Int.toNat eJ) ([]: aa))))) else none) else none) else none)) else none) else none) else (bif (decide (0≤eJ)) then (bif (decide (eJ < (dU.length: Int))) then (bif (decide (((iz.length + (List.length (List.set (List.replicate 1 ([]: aa)) 0 (List.getD dU (Int.toNat eJ) ([]: aa))))) * 16)≤140737488355328)) then (kR6 dU ec ej (ai (eJ + 1)) (iz++(List.set (List.replicate 1 ([]: aa)) 0 (List.getD dU (Int.toNat eJ) ([]: aa))))) else none) else none) else none)) else (sd ec ej iz))
def iQ: Nat→(List aa)→aa→Bool→Int→(List aa)→(aa→Bool→(List aa)→OR')→OR'
 | 0,_,_,_,_,_,_=>none
 | n + 1,dU,ec,ej,eJ,iz,sd=>nF dU ec ej eJ iz (fun dU ec ej eJ iz=>iQ n dU ec ej eJ iz sd) sd
abbrev sl5put_p6: SP:=⟨46,[0,1,5,6,7],[(.v (.sh Ty.str)),(.v .s),(.v (.ref 384 0)),(.v .b),(.v (.i .i64))],[(384, .arr Ty.str 0 false)]⟩
noncomputable def CZ: Code:=aD (aG Tryz.f90) [1,1,1,1,0,1,0,0]
def C0 (f: (aa→Bool→(List aa)→OR')→OR') (k: KT): OR':=f (fun de dV qP=>k (Ex.exit 0) ((St.mk (aH 0 46 [(1,(AV.str de)),(5,(AV.ref 384 0)),(6,(AV.bool dV))]) ((384,(Ob.arr Ty.str 0 false qP))::([]: (List (Nat×(Ob))))))))
def C1 (n: Nat) (d: sl5put_p6.D): KT→OR':=C0 (iQ n d.1.1 d.1.2.1 d.1.2.2.2.1 d.1.2.2.2.2.1 d.2.1)
def Ju (N: Nat): Lam:=bw [⟨6,sl5put_p6,C1 N⟩]
theorem MM (N: Nat): OkL Kx sl5put_C.s Jt 0 N (Ju N) CZ:=okL sl5put_p6 (C1) (fun d kR=>C0 (nF d.1.1 d.1.2.1 d.1.2.2.2.1 d.1.2.2.2.2.1 d.2.1 (fun dU ec ej eJ iz=>kR ((dU,ec,(),ej,eJ,()),(iz,()))))) (fun _ _=>by kernel_rfl) (fun _ _ _=>by kernel_rfl) (fun _ _=>by kernel_rfl) (fun _ _ _ _=>by kernel_rfl) (am (l':=[]) (by kernel_rfl) trivial)
def w4 (N: Nat) (l: List aa) (s: aa): OR':=(bif (decide (l.length≤1000000)) then (bif (inP l s) then (some ((AV.sh Ty.str l),[])) else (iQ N l s false 0 ([]: (List aa)) (fun de dV qP=>(bif (!dV) then (bif (decide (((qP.length + (List.length (List.set (List.replicate 1 ([]: aa)) 0 de))) * 16)≤140737488355328)) then (some ((AV.ref 0 0),[.arr Ty.str 0 false (qP++(List.set (List.replicate 1 ([]: aa)) 0 de))])) else none) else (some ((AV.ref 0 0),[.arr Ty.str 0 false qP])))))) else none)
def oM (φ: (List aa)→aa→Br): List AV→List Ob→Br
 | [.sh .str l, .str s],[]=>φ l s
 | _,_=> .fail
theorem F4 {φ: (List aa)→aa→Br} (fu: (List aa)→aa→Nat) (hv: ∀ l s res_,(φ l s).val=some res_→w4 (fu l s) l s=some res_): Sound Kx 90 (oM φ):=ar (C:=sl5put_C) (O:=Jt) Tryz.func90 (by kernel_rfl) fun args objs=>by
 unfold oM;split
 · rename_i l s;exact .inr fun _ hyp_=>aS (Λ:=Ju (fu l s)) (by kernel_rfl) (am (l':=[CZ]) (by kernel_rfl) ⟨MM _,trivial⟩) (by kernel_rfl) (hv l s _ hyp_)
 · exact .inl rfl
def bJ (l: List Fd) (name: aa): List aa:=q7 (it l name)
def agb: List AV→List Ob→Br
 | [.sh (.pair .str .str) l, .str name],[]=> .ite (isM name) (.ret (.ref 0 0) [.arr .str 0 false (bJ l name)]) .fail
 | _,_=> .fail
theorem kY: Sound Kx 87 agb:=iWords_ok.of fun args objs r h=>by
 unfold agb at h
 split at h
 · exact h
 · cases h
theorem MN: Sound Kx 89 agb:=sWords_ok.of fun args objs r h=>by
 unfold agb at h
 split at h
 · exact h
 · cases h
def w5: List aa→aa→List aa
 | [],s=>[s]
 | x::r,s=>bif bytesLess s x then s::x::r else x::w5 r s
def q_ (l: List aa) (s: aa): List aa:=bif inP l s then l else w5 l s
theorem ap1 (out: List aa) (x: aa) (h: out.length≤5000000): decide ((out.length + (List.set (List.replicate 1 ([]: aa)) 0 x).length) * 16≤140737488355328)=true:=dT' (by rw [cm,List.length_singleton];omega)
theorem F5 (l: List aa) (hl: l.length≤1000000) (s: aa) (k: aa→Bool→List aa→OR') (K: List aa→OR') (hk: ∀ d o,o.length≤2000000→k s d o=K (bif d then o else o++[s])): ∀ (r: List aa) (i: Int) (n: Nat) (d: Bool) (out: List aa),At l i r→r.length < n→out.length + r.length + 1≤2000000 - (bif d then 0 else 1)→
 iQ n l s d i out k=K (out++bif d then r else w5 r s):=by
 intro r;induction r with
 | nil=>
   intro i n d out h hn ho;obtain ⟨n,rfl⟩:=bF hn
   simp only [List.length_nil] at ho
   unfold iQ nF
   rw [h.dge,cond_false,hk d out (by omega)]
   cases d <;> simp [w5]
 | cons a r ih=>
   intro i n d out h hn ho;obtain ⟨n,rfl⟩:=bF hn
   simp only [List.length_cons] at hn ho
   unfold iQ nF
   simp only [h.dlt,h.dnn,h.get,h.next (by omega),cond_true]
   cases d
   · simp only [Bool.not_false,cond_true,cond_false,w5] at ho ⊢
     cases hb: bytesLess s a
     · simp (disch:=(first | omega | (simp only [List.length_append,cm,List.length_cons,List.length_nil];omega))) only [cond_true,cond_false,ap1]
       simp only [cm]
       rw [ih (i + 1) n false _ h.step (by omega) (by simp only [List.length_append,List.length_singleton,cond_false];omega)]
       simp
     · simp (disch:=(first | omega | (simp only [List.length_append,cm,List.length_cons,List.length_nil];omega))) only [cond_true,cond_false,ap1]
       simp only [cm]
       rw [ih (i + 1) n true _ h.step (by omega) (by simp only [List.length_append,List.length_singleton,cond_true];omega)]
       simp
   · simp only [Bool.not_true,cond_true,cond_false] at ho ⊢
     simp (disch:=(first | omega | (simp only [List.length_append,cm,List.length_cons,List.length_nil];omega))) only [cond_true,cond_false,ap1]
     simp only [cm]
     rw [ih (i + 1) n true _ h.step (by omega) (by simp only [List.length_append,List.length_singleton,cond_true];omega)]
     simp
def aee: List AV→List Ob→Br
 | [.sh .str l, .str s],[]=> .ite (decide (l.length≤900000)) (.ret (.sh .str (q_ l s)) []) .fail
 | _,_=> .fail
theorem MO: Sound Kx 90 aee:=by
 have h0: Sound Kx 90 (oM fun l s=> .ite (decide (l.length≤900000)) (bif inP l s then .ret (.sh .str l) [] else .ret (.ref 0 0) [.arr .str 0 false (w5 l s)]) .fail):=by
  refine F4 (fun l _=>l.length + 1) fun l s r h=>?_
  obtain ⟨h1,h2⟩:=al h
  rw [decide_eq_true_eq] at h1
  unfold w4
  rw [Zq (show l.length≤1000000 by omega),cond_true]
  cases c: inP l s
  · rw [c] at h2
    cases h2
    rw [cond_false,F5 l (by omega) s _ (fun o=>some (.ref 0 0,[.arr .str 0 false o])) ?_ l 0 _ false [] (At.start l) (by omega) (by simp only [List.length_nil,cond_false];omega)]
    · rfl
    · intro d o ho
      rw [ap1 o s (by omega)]
      cases d
      · rw [Bool.not_false,cond_true,cond_false,cond_true,cm]
      · rfl
  · rw [c] at h2
    cases h2
    rfl
 refine Wi h0 fun args objs res objs' hv=>?_
 unfold aee at hv
 split at hv
 case h_2=>cases hv
 rename_i l s
 obtain ⟨h1,h2⟩:=al hv
 cases h2
 refine ⟨rfl,rfl,_,_,rfl,?_⟩
 unfold q_
 cases c: inP l s
 · right
   refine ⟨0,false,?_⟩
   show (Br.ite _ _ _).val=_
   rw [c];exact bX h1
 · left
   show (Br.ite _ _ _).val=_
   rw [c];exact bX h1
def Jv: Nat→Int→List Fd
 | 0,_=>[]
 | n + 1,k=>(mtP k,mtP (k + 1))::Jv n (k + 1 + 1)
def QI: Opt:={ mutF:=[165,166],live:=[(3,[3,7,8,9])],outs:=[(3,[2,3])] }
def iVary_C: SC:=[⟨118,_,iF⟩,⟨87,_,kY⟩,⟨165,_,If⟩,⟨166,_,Ig⟩]
def rI (aL aA: Int) (bu d_: (List aa)) (kR3: Int→Int→(List aa)→(List aa)→OR') (eK: (List aa)→OR'): OR':=
 (bif (decide (aA < aL)) then (bif (decide (0≤aA)) then (bif (decide (aA < (d_.length: Int))) then (bif (isM (List.getD d_ (Int.toNat aA) ([]: aa))) then (bif (decide (((bu.length + (List.length (List.set (List.replicate 1 ([]: aa)) 0 (ay (List.getD d_ (Int.toNat aA) ([]: aa)))))) * 16)≤140737488355328)) then (kR3 aL (ai (aA + 1)) (bu++(List.set (List.replicate 1 ([]: aa)) 0 (ay (List.getD d_ (Int.toNat aA) ([]: aa))))) d_) else none) else none) else none) else none) else (eK bu))
def kZ: Nat→Int→Int→(List aa)→(List aa)→((List aa)→OR')→OR'
 | 0,_,_,_,_,_=>none
 | n + 1,aL,aA,bu,d_,eK=>rI aL aA bu d_ (fun aL aA bu d_=>kZ n aL aA bu d_ eK) eK
abbrev iVary_p3: SP:=⟨23,[3,7,8,9],[(.v (.ref 256 0)),(.v (.ref 512 0)),(.v (.i .i64)),(.v (.i .i64))],[(256, .arr Ty.str 0 false),(512, .arr Ty.str 0 false)]⟩
noncomputable def Jw: Code:=aD (aG Tryz.f92) [1,1,0,1,0,0]
def Jx (f: ((List aa)→OR')→OR') (k: KT): OR':=f (fun ab=>k (Ex.exit 0) ((St.mk (aH 0 23 [(3,(AV.ref 256 0))]) ((256,(Ob.arr Ty.str 0 false ab))::([]: (List (Nat×(Ob))))))))
def Jy (n: Nat) (d: iVary_p3.D): KT→OR':=Jx (kZ n d.1.2.2.1 d.1.2.2.2.1 d.2.1 d.2.2.1)
def QJ (N: Nat): Lam:=bw [⟨3,iVary_p3,Jy N⟩]
theorem QK (N: Nat): OkL Kx iVary_C.s QI 0 N (QJ N) Jw:=okL iVary_p3 (Jy) (fun d kR=>Jx (rI d.1.2.2.1 d.1.2.2.2.1 d.2.1 d.2.2.1 (fun aL aA bu d_=>kR (((),(),aL,aA,()),(bu,d_,()))))) (fun _ _=>by kernel_rfl) (fun _ _ _=>by kernel_rfl) (fun _ _=>by kernel_rfl) (fun _ _ _ _=>by kernel_rfl) (am (l':=[]) (by kernel_rfl) trivial)
def C2 (N: Nat) (l: List Fd): OR':=(kZ N ((List.length (bJ l ([118,97,114,121]: aa))): Int) 0 ([]: (List aa)) (bJ l ([118,97,114,121]: aa)) (fun ab=>(bif (decide (ab.length≤1000000)) then (bif (decide ((List.length (f_ ab))≤1000000)) then (some ((AV.ref 0 0),[.arr Ty.str 0 false (jU (f_ ab))])) else none) else none)))
def C3 (φ: (List Fd)→Br): List AV→List Ob→Br
 | [.sh (.pair .str .str) l],[]=>φ l
 | _,_=> .fail
theorem MP {φ: (List Fd)→Br} (fu: (List Fd)→Nat) (hv: ∀ l res_,(φ l).val=some res_→C2 (fu l) l=some res_): Sound Kx 92 (C3 φ):=ar (C:=iVary_C) (O:=QI) Tryz.func92 (by kernel_rfl) fun args objs=>by
 unfold C3;split
 · rename_i l;exact .inr fun _ hyp_=>aS (Λ:=QJ (fu l)) (by kernel_rfl) (am (l':=[Jw]) (by kernel_rfl) ⟨QK _,trivial⟩) (by kernel_rfl) (hv l _ hyp_)
 · exact .inl rfl
end
end Go.Proofs.YtgknmoadpgpdeaaGreatDoor.Ev
namespace Go.Proofs.YtgknmoadpgpdeaaGreatDoor.Ev
open Go Go.RowKit
set_option linter.unusedVariables false
set_option linter.unusedSimpArgs false
abbrev Asc (l: List aa): Prop:=l.Pairwise fun a b=>a < b
theorem Zr: ∀ {l m: List aa},Asc l→Asc m→(∀ x,x ∈ l↔x ∈ m)→l=m
 | [],[],_,_,_=>rfl
 | [],b::m,_,_,h=>by have:=(h b).2 (List.mem_cons_self ..);cases this
 | a::l,[],_,_,h=>by have:=(h a).1 (List.mem_cons_self ..);cases this
 | a::l,b::m,h1,h2,h=>by
   obtain ⟨g1,g2⟩:=List.pairwise_cons.1 h1
   obtain ⟨k1,k2⟩:=List.pairwise_cons.1 h2
   have hab: a=b:=by
    rcases List.mem_cons.1 ((h a).1 (List.mem_cons_self ..)) with e | e
    · exact e
    · rcases List.mem_cons.1 ((h b).2 (List.mem_cons_self ..)) with e' | e'
      · exact e'.symm
      · exact absurd (k1 a e) (List.lt_asymm (g1 b e'))
   subst hab
   congr 1
   refine Zr g2 k2 fun x=>⟨fun hx=>?_,fun hx=>?_⟩
   · rcases List.mem_cons.1 ((h x).1 (List.mem_cons_of_mem _ hx)) with e | e
     · subst e;exact absurd (g1 x hx) (List.lt_irrefl x)
     · exact e
   · rcases List.mem_cons.1 ((h x).2 (List.mem_cons_of_mem _ hx)) with e | e
     · subst e;exact absurd (k1 x hx) (List.lt_irrefl x)
     · exact e
theorem QL (a b: aa): bytesLess a b=decide (a < b):=bytesLess_eq a b
theorem ub {a b: aa} (h1: ¬ a < b) (h2: b≠a): b < a:=by
 rcases Classical.em (b < a) with h | h
 · exact h
 · exact absurd (List.le_antisymm (List.not_lt.1 h1) (List.not_lt.1 h)) h2
theorem F6 (s x: aa): ∀ l: List aa,x ∈ w5 l s↔x ∈ l∨x=s
 | []=>by simp [w5]
 | a::l=>by
   unfold w5
   cases bytesLess s a
   · simp only [cond_false,List.mem_cons,F6 s x l,or_assoc]
   · simp only [cond_true,List.mem_cons]
     constructor
     · rintro (h | h | h)
       · exact .inr h
       · exact .inl (.inl h)
       · exact .inl (.inr h)
     · rintro ((h | h) | h)
       · exact .inr (.inl h)
       · exact .inr (.inr h)
       · exact .inl h
theorem QM (s: aa): ∀ {l: List aa},Asc l→s ∉ l→Asc (w5 l s)
 | [],_,_=>by simp [w5]
 | a::l,h,hs=>by
   obtain ⟨g1,g2⟩:=List.pairwise_cons.1 h
   unfold w5
   cases hb: bytesLess s a
   · rw [QL] at hb
     have hab: a < s:=ub (of_decide_eq_false hb) fun e=>hs (by rw [e];exact List.mem_cons_self ..)
     rw [cond_false]
     refine List.pairwise_cons.2 ⟨fun y hy=>?_,QM s g2 fun e=>hs (List.mem_cons_of_mem _ e)⟩
     rcases (F6 s y l).1 hy with e | e
     · exact g1 y e
     · subst e;exact hab
   · rw [QL] at hb
     have hab:=of_decide_eq_true hb
     rw [cond_true]
     refine List.pairwise_cons.2 ⟨fun y hy=>?_,h⟩
     rcases List.mem_cons.1 hy with e | e
     · subst e;exact hab
     · exact List.lt_trans hab (g1 y e)
theorem QN (l: List aa) (s: aa): inP l s=true↔s ∈ l:=by
 unfold inP
 simp
theorem abA (l: List aa) (s x: aa): x ∈ q_ l s↔x ∈ l∨x=s:=by
 unfold q_
 cases h: inP l s
 · exact F6 s x l
 · rw [cond_true]
   refine ⟨.inl,fun h2=>?_⟩
   rcases h2 with e | e
   · exact e
   · subst e;exact (QN l x).1 h
theorem abB {l: List aa} (hl: Asc l) (s: aa): Asc (q_ l s):=by
 unfold q_
 cases h: inP l s
 · exact QM s hl fun e=>by rw [(QN l s).2 e] at h;cases h
 · exact hl
theorem C4: ∀ (xs l: List aa),Asc l→Asc (xs.foldl q_ l)∧∀ x,x ∈ xs.foldl q_ l↔x ∈ l∨x ∈ xs
 | [],l,h=>⟨h,fun x=>by simp⟩
 | a::xs,l,h=>by
   obtain ⟨h1,h2⟩:=C4 xs (q_ l a) (abB h a)
   refine ⟨h1,fun x=>?_⟩
   show x ∈ xs.foldl q_ (q_ l a)↔_
   rw [h2,abA,List.mem_cons,or_assoc]
theorem QO (xs: List aa): (f_ xs).Pairwise fun a b=>a≤b:=by
 have:=List.pairwise_mergeSort (le:=fun x y: aa=>decide (x≤y)) (fun a b c h1 h2=>by simp only [decide_eq_true_eq] at *;exact List.le_trans h1 h2) (fun a b=>by simp only [Bool.or_eq_true,decide_eq_true_eq];exact List.le_total a b) xs
 exact this.imp fun h=>by simpa using h
theorem WO (xs: List aa) (x: aa): x ∈ f_ xs↔x ∈ xs:=(List.mergeSort_perm xs _).mem_iff
theorem WP {zs: List aa} (h: zs.Pairwise fun a b=>a≤b): Asc (jU zs)∧∀ x,x ∈ jU zs↔x ∈ zs:=by
 have hle: ∀ i j,i≤j→j < zs.length→zs.toArray[i]! ≤zs.toArray[j]! :=fun i j hij hj=>by
  rw [getElem!_pos _ i (by simpa using Nat.lt_of_le_of_lt hij hj),getElem!_pos _ j (by simpa using hj)]
  rcases Nat.lt_or_ge i j with h' | h'
  · simpa using List.pairwise_iff_getElem.1 h i j (by omega) hj h'
  · obtain rfl: i=j:=by omega
    exact List.le_refl _
 unfold jU Lib.compact Lib.compactUpTo
 refine ⟨?_,fun x=>⟨fun hx=>?_,fun hx=>?_⟩⟩
 · refine List.pairwise_map.2 ?_
   have h1: ((List.range zs.length).filter (Lib.keeps zs.toArray)).Pairwise (· < ·):=List.pairwise_lt_range.filter _
   refine h1.imp_of_mem fun {i j} hi hj hij=>?_
   obtain ⟨hj1,hj2⟩:=List.mem_filter.1 hj
   have hj1:=List.mem_range.1 hj1
   have hne: zs.toArray[j]! ≠zs.toArray[j - 1]! :=by
    have:=of_decide_eq_true hj2
    rcases this with e | e
    · omega
    · exact e
   have g1:=hle i (j - 1) (by omega) (by omega)
   have g2:=hle (j - 1) j (by omega) hj1
   have g3: zs.toArray[j - 1]! < zs.toArray[j]! :=ub (fun hlt=>hne (List.le_antisymm (List.le_of_lt hlt) g2)) (Ne.symm hne)
   rcases Classical.em (zs.toArray[i]! =zs.toArray[j - 1]!) with e | e
   · rw [e];exact g3
   · exact List.lt_trans (ub (fun hlt=>e (List.le_antisymm g1 (List.le_of_lt hlt))) e) g3
 · obtain ⟨i,hi,rfl⟩:=List.mem_map.1 hx
   have hi': i < zs.length:=List.mem_range.1 (List.mem_filter.1 hi).1
   simp [getElem!_pos,hi']
 · obtain ⟨i,hi,rfl⟩:=List.mem_iff_getElem.1 hx
   clear hx
   induction i with
   | zero=>exact List.mem_map.2 ⟨0,List.mem_filter.2 ⟨List.mem_range.2 hi,by simp [Lib.keeps]⟩,by simp [getElem!_pos,hi]⟩
   | succ i ih=>
     rcases Classical.em (zs[i + 1]=zs[i]) with e | e
     · rw [e];exact ih (by omega)
     · refine List.mem_map.2 ⟨i + 1,List.mem_filter.2 ⟨List.mem_range.2 hi,?_⟩,by simp [getElem!_pos,hi]⟩
       refine dT' (.inr ?_)
       rw [getElem!_pos _ (i + 1) (by simpa using hi),getElem!_pos _ (i + 1 - 1) (by simp;omega)]
       simpa using e
theorem C5 (xs: List aa): jU (f_ xs)=xs.foldl q_ []:=by
 obtain ⟨h1,h2⟩:=WP (QO xs)
 obtain ⟨h3,h4⟩:=C4 xs [] (by simp)
 exact Zr h1 h3 fun x=>by rw [h2,WO,h4];simp
end Go.Proofs.YtgknmoadpgpdeaaGreatDoor.Ev
namespace Go.Proofs.YtgknmoadpgpdeaaGreatDoor.Ev
open Go Go.RowKit
set_option linter.unusedVariables false
set_option linter.unusedSimpArgs false
noncomputable section
theorem WQ: ∀ (n: Nat) (r cur: aa) (q: Bool),r.length≤n→(gX cur q r).length≤r.length + 1∧∀ x ∈ gX cur q r,x.length≤cur.length + r.length:=by
 intro n;induction n with
 | zero=>
   intro r cur q h
   obtain rfl: r=[]:=List.length_eq_zero_iff.1 (by omega)
   simp [kx]
 | succ n ih=>
   intro r cur q h
   cases r with
   | nil=>simp [kx]
   | cons c r=>
     simp only [List.length_cons] at h
     have step: ∀ (cur': aa) (q': Bool),cur'.length≤cur.length + 1→(gX cur' q' r).length≤(c::r).length + 1∧∀ x ∈ gX cur' q' r,x.length≤cur.length + (c::r).length:=fun cur' q' hc=>by
      obtain ⟨h1,h2⟩:=ih r cur' q' (by omega)
      refine ⟨by simp only [List.length_cons];omega,fun x hx=>?_⟩
      have:=h2 x hx
      simp only [List.length_cons];omega
     rw [oC]
     cases decide (by8 c=34)
     · rw [cond_false]
       cases q&&decide (by8 c=92)
       · rw [cond_false]
         cases !q&&decide (by8 c=44)
         · rw [cond_false];exact step _ _ (by simp)
         · rw [cond_true]
           obtain ⟨h1,h2⟩:=ih r [] q (by omega)
           refine ⟨by simp only [List.length_cons];omega,fun x hx=>?_⟩
           rcases List.mem_cons.1 hx with e | e
           · subst e;omega
           · have:=h2 x e
             simp only [List.length_cons,List.length_nil] at this ⊢;omega
       · rw [cond_true]
         cases r with
         | nil=>simp
         | cons d r=>
           simp only [List.length_cons] at h
           obtain ⟨h1,h2⟩:=ih r (cur++[c,d]) q (by omega)
           refine ⟨by simp only [List.length_cons];omega,fun x hx=>?_⟩
           have:=h2 x hx
           simp only [List.length_cons,List.length_append,List.length_nil] at this ⊢;omega
     · rw [cond_true];exact step _ _ (by simp)
theorem jx (p: UInt8→Bool): ∀ s: aa,(s.dropWhile p).length≤s.length
 | []=>by simp
 | a::s=>by
   rw [List.dropWhile_cons]
   split
   · have:=jx p s;simp only [List.length_cons];omega
   · exact Nat.le_refl _
theorem WR (s: aa): (cw s).length≤s.length:=by
 unfold cw ou l6
 rw [List.length_reverse]
 refine Nat.le_trans (jx _ _) ?_
 rw [List.length_reverse]
 exact jx _ _
theorem Jz: ∀ (l: List aa) (n: Nat),(∀ x ∈ l,x.length≤n)→(jX l).length≤l.length∧∀ x ∈ jX l,x.length≤n
 | [],_,_=>by simp [jX]
 | a::l,n,h=>by
   obtain ⟨h1,h2⟩:=Jz l n fun x hx=>h x (List.mem_cons_of_mem _ hx)
   have ha:=h a (List.mem_cons_self ..)
   have:=WR a
   rw [ky]
   cases decide (cw a=[])
   · rw [cond_false]
     refine ⟨by simp only [List.length_cons];omega,fun x hx=>?_⟩
     rcases List.mem_cons.1 hx with e | e
     · subst e;omega
     · exact h2 x e
   · rw [cond_true]
     exact ⟨by simp only [List.length_cons];omega,h2⟩
theorem F7 (s: aa): (q7 s).length≤4001∧∀ x ∈ q7 s,x.length≤4000:=by
 unfold q7
 cases c: decide (4000 < (s.length: Int))
 · have hl:=of_decide_eq_false c
   rw [cond_false]
   obtain ⟨h1,h2⟩:=WQ s.length s [] false (Nat.le_refl _)
   obtain ⟨h3,h4⟩:=Jz (gX [] false s) 4000 fun x hx=>by have:=h2 x hx;simp only [List.length_nil] at this;omega
   exact ⟨by omega,h4⟩
 · simp
theorem jy (l: List Fd) (name: aa): (bJ l name).length≤4001∧∀ x ∈ bJ l name,isM x=true:=
 ⟨(F7 _).1,fun x hx=>bW ((F7 _).2 x hx)⟩
def vF: aa:=[118,97,114,121]
def oN (l: List Fd): List aa:=(bJ l vF).foldl (fun o w=>q_ o (ay w)) []
theorem QP (l: List Fd): jU (f_ ((bJ l vF).map ay))=oN l:=by
 rw [C5,List.foldl_map];rfl
theorem MQ (k: List aa→OR') (ws: List aa) (hl: ws.length≤100000): ∀ (r: List aa) (i: Int) (n: Nat) (out: List aa),At ws i r→r.length < n→(∀ x ∈ r,isM x=true)→out.length + r.length≤200000→
 kZ n (ws.length: Int) i out ws k=k (out++r.map ay):=by
 intro r;induction r with
 | nil=>intro i n out h hn hf ho;obtain ⟨n,rfl⟩:=bF hn;unfold kZ rI;rw [h.dge,cond_false];simp
 | cons a r ih=>
   intro i n out h hn hf ho;obtain ⟨n,rfl⟩:=bF hn
   have ha:=hf a (List.mem_cons_self ..)
   have hr:=fun x h=>hf x (List.mem_cons_of_mem _ h)
   simp only [List.length_cons] at hn ho
   unfold kZ rI
   simp (disch:=omega) only [h.dlt,h.dnn,h.get,h.next (by omega),ha,cond_true,ap1]
   rw [cm,ih (i + 1) n _ h.step (by omega) hr (by simp only [List.length_append,List.length_singleton];omega)]
   simp
theorem QQ (s: aa): ∀ l: List aa,(w5 l s).length≤l.length + 1
 | []=>by simp [w5]
 | a::l=>by
   have:=QQ s l
   unfold w5
   cases bytesLess s a
   · rw [cond_false];simp only [List.length_cons];omega
   · rw [cond_true];simp only [List.length_cons];omega
theorem abC (l: List aa) (s: aa): (q_ l s).length≤l.length + 1:=by
 unfold q_
 cases inP l s
 · rw [cond_false];exact QQ s l
 · rw [cond_true];omega
def aef: List AV→List Ob→Br
 | [.sh (.pair .str .str) l],[]=> .ret (.ref 0 0) [.arr .str 0 false (oN l)]
 | _,_=> .fail
theorem QR: Sound Kx 92 aef:=by
 refine (MP (φ:=fun l=> .ret (.ref 0 0) [.arr .str 0 false (oN l)]) (fun l=>(bJ l vF).length + 1) fun l r h=>?_).of fun args objs r h=>?_
 · cases h
   obtain ⟨h1,h2⟩:=jy l vF
   rw [← QP]
   have hs: (f_ ((bJ l vF).map ay)).length=(bJ l vF).length:=by simp [f_]
   unfold C2
   refine (MQ _ (bJ l vF) (by omega) _ 0 _ [] (At.start _) (by omega) h2 (by simp only [List.length_nil];omega)).trans ?_
   simp only [List.nil_append]
   rw [Zq (by rw [List.length_map];omega),Zq (by rw [hs];omega)];rfl
 · unfold aef at h;split at h
   · exact h
   · cases h
theorem WS (l: List Fd): (oN l).length≤4001:=by
 rw [← QP]
 refine Nat.le_trans (yx _) ?_
 have hs: (f_ ((bJ l vF).map ay)).length=(bJ l vF).length:=by simp [f_]
 rw [hs];exact (jy l vF).1
end
end Go.Proofs.YtgknmoadpgpdeaaGreatDoor.Ev
