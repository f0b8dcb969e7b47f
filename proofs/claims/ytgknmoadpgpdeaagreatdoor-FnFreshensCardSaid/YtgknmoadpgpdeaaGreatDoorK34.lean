/- The texts Sc, one behind the other. -/
import Derived.Test.YtgknmoadpgpdeaaGreatDoorK31
import Derived.Test.YtgknmoadpgpdeaaGreatDoorK21
import Derived.Test.YtgknmoadpgpdeaaGreatDoorK33
namespace Go.Proofs.YtgknmoadpgpdeaaGreatDoor.Ev
open Go Go.RowKit
set_option linter.unusedVariables false
set_option linter.unusedSimpArgs false
noncomputable section
def rf: aa:=[99,111,110,110,101,99,116,105,111,110]
def hopB: List aa:=[[99,111,110,110,101,99,116,105,111,110],[107,101,101,112,45,97,108,105,118,101],[112,114,111,120,121,45,99,111,110,110,101,99,116,105,111,110],[116,101],[116,114,97,105,108,101,114],[116,114,97,110,115,102,101,114,45,101,110,99,111,100,105,110,103],[117,112,103,114,97,100,101]]
def VE (l: List Fd): List aa:=((bJ l rf).filter oa).foldl (fun o w=>q_ o (ay w)) hopB
def Yg (l: List Fd): List aa:=bif bd l then VE l else []
theorem Yh: hopB.foldl q_ []=hopB:=by kernel_rfl
theorem Z9 (l: List Fd): jU (f_ (hopB++((bJ l rf).filter oa).map ay))=VE l:=by
 rw [C5,List.foldl_append,Yh,List.foldl_map];rfl
theorem TT (k: List aa→OR') (ws: List aa) (hl: ws.length≤100000): ∀ (r: List aa) (i: Int) (n: Nat) (out: List aa),At ws i r→r.length < n→(∀ x ∈ r,isM x=true)→out.length + r.length≤200000→
 pd n (ws.length: Int) i out ws k=k (out++(r.filter oa).map ay):=by
 intro r;induction r with
 | nil=>intro i n out h hn hf ho;obtain ⟨n,rfl⟩:=bF hn;unfold pd zX;rw [h.dge,cond_false];simp
 | cons a r ih=>
   intro i n out h hn hf ho;obtain ⟨n,rfl⟩:=bF hn
   have ha:=hf a (List.mem_cons_self ..)
   have hr:=fun x h=>hf x (List.mem_cons_of_mem _ h)
   simp only [List.length_cons] at hn ho
   unfold pd zX
   simp (disch:=omega) only [h.dlt,h.dnn,h.get,h.next (by omega),ha,cond_true,ap1]
   rw [List.filter_cons]
   cases oa a
   · simp only [cond_false]
     exact ih (i + 1) n _ h.step (by omega) hr (by omega)
   · rw [cond_true,cm,ih (i + 1) n _ h.step (by omega) hr (by simp only [List.length_append,List.length_singleton];omega)]
     simp
theorem TU (k: List aa→OR') (ws: List aa) (hl: ws.length≤100000): ∀ (r: List aa) (i: Int) (n: Nat) (out: List aa),At ws i r→r.length < n→(∀ x ∈ r,isM x=true)→out.length + r.length≤200000→
 pc n out i ws k=k ((r.filter oa).foldl (fun o w=>q_ o (ay w)) out):=by
 intro r;induction r with
 | nil=>intro i n out h hn hf ho;obtain ⟨n,rfl⟩:=bF hn;unfold pc zW;rw [h.dge,cond_false];rfl
 | cons a r ih=>
   intro i n out h hn hf ho;obtain ⟨n,rfl⟩:=bF hn
   have ha:=hf a (List.mem_cons_self ..)
   have hr:=fun x h=>hf x (List.mem_cons_of_mem _ h)
   simp only [List.length_cons] at hn ho
   have hp:=abC out (ay a)
   unfold pc zW
   simp (disch:=omega) only [h.dlt,h.dnn,h.get,h.next (by omega),ha,cond_true,Zq]
   rw [List.filter_cons]
   cases oa a
   · simp only [cond_false]
     exact ih (i + 1) n _ h.step (by omega) hr (by omega)
   · rw [cond_true,ih (i + 1) n _ h.step (by omega) hr (by omega)]
     rfl
def afg: List AV→List Ob→Br
 | [.sh (.pair .str .str) l],[]=> .ret (.ref 0 0) [.arr .str 0 false (Yg l)]
 | _,_=> .fail
def afh: List AV→List Ob→Br
 | [.sh (.pair .str .str) l],[]=> .ite (bd l) (.ret (.sh .str (VE l)) []) (.ret (.ref 0 0) [.arr .str 0 false []])
 | _,_=> .fail
theorem Yi: Sound Kx 194 afg:=by
 refine (TP (φ:=fun l=> .ret (.ref 0 0) [.arr .str 0 false (Yg l)]) (fun l=>(bJ l rf).length + 1) fun l r h=>?_).of fun args objs r h=>?_
 · cases h
   obtain ⟨h1,h2⟩:=jy l rf
   unfold KR Yg
   cases bd l
   · rfl
   rw [← Z9]
   have hf: ((bJ l rf).filter oa).length≤4001:=Nat.le_trans (List.length_filter_le ..) h1
   have hs: (f_ (hopB++((bJ l rf).filter oa).map ay)).length≤5000:=by
    unfold f_;rw [List.length_mergeSort,List.length_append,List.length_map,show hopB.length=7 from rfl];omega
   refine (TT _ (bJ l rf) (by omega) _ 0 _ hopB (At.start _) (by omega) h2 (by rw [show hopB.length=7 from rfl];omega)).trans ?_
   rw [Zq (by rw [List.length_append,List.length_map,show hopB.length=7 from rfl];omega),Zq (by omega)];rfl
 · unfold afg at h;split at h
   · exact h
   · cases h
theorem Yj: Sound Kx 127 afh:=by
 refine (TL (φ:=fun l=> .ite (bd l) (.ret (.sh .str (VE l)) []) (.ret (.ref 0 0) [.arr .str 0 false []])) (fun l=>(bJ l rf).length + 1) fun l r h=>?_).of fun args objs r h=>?_
 · obtain ⟨h1,h2⟩:=jy l rf
   unfold KP
   cases c: bd l
   · rw [c] at h;exact h
   rw [c] at h;cases h
   exact TU _ (bJ l rf) (by omega) _ 0 _ hopB (At.start _) (by omega) h2 (by rw [show hopB.length=7 from rfl];omega)
 · unfold afh at h;split at h
   · exact h
   · cases h
theorem TV (l: List Fd): (Yg l).length≤5000:=by
 unfold Yg
 cases bd l
 · exact Nat.zero_le _
 rw [cond_true,← Z9]
 refine Nat.le_trans (yx _) ?_
 have hf: ((bJ l rf).filter oa).length≤4001:=Nat.le_trans (List.length_filter_le ..) (jy l rf).1
 unfold f_;rw [List.length_mergeSort,List.length_append,List.length_map,show hopB.length=7 from rfl];omega
def VF (l: List Fd) (hops: List aa): List Fd:=l.filter fun f=> !inP hops (ay f.1)
theorem NW (l: List Fd) (hl: l.length≤20) (hops: List aa) (hh: hops.length≤1000000) (k: List aa→List Fd→OR'): ∀ (r: List Fd) (i: Int) (n: Nat) (out: List Fd),At l i r→r.length < n→(∀ f ∈ r,jW f=true)→out.length + r.length≤20→
 lj n l (l.length: Int) i hops out k=k hops (out++VF r hops):=by
 intro r;induction r with
 | nil=>intro i n out h hn hf ho;obtain ⟨n,rfl⟩:=bF hn;unfold lj r9;rw [h.dge,cond_false];simp [VF]
 | cons f r ih=>
   intro i n out h hn hf ho;obtain ⟨n,rfl⟩:=bF hn
   simp only [List.length_cons] at hn ho
   have hm1:=(fG (hf f (List.mem_cons_self ..))).1
   have hr:=fun x hx=>hf x (List.mem_cons_of_mem _ hx)
   have hd: decide (hops.length≤1000000)=true:=dT' hh
   unfold lj r9
   simp only [h.dlt,h.dnn,h.get,h.next (by omega),hm1,hd,cond_true]
   unfold VF at ih ⊢
   rw [List.filter_cons]
   cases inP hops (ay f.1)
   · simp only [Bool.not_false,cond_true,if_true]
     rw [apF out _ (by omega),cond_true,ih (i + 1) n _ h.step (by omega) hr (by rw [List.length_append,List.length_set,List.length_replicate];omega)]
     simp
   · simp only [Bool.not_true,cond_false]
     exact ih (i + 1) n _ h.step (by omega) hr (by omega)
def afi: List AV→List Ob→Br
 | [.sh (.pair .str .str) l, .fn 195 [.ptr 0 0]],[.var [.ref 1 0], .arr .str 0 false hops]=> .ite (decide (hops.length≤1000000)) (.ret (.ref 2 0) [.var [.ref 1 0], .arr .str 0 false hops, .arr (.pair .str .str) 0 false (bif bd l then VF l hops else [])]) .fail
 | _,_=> .fail
theorem TW: Sound Kx 120 afi:=by
 refine (NV (φ:=fun l hops=> .ite (decide (hops.length≤1000000)) (.ret (.ref 2 0) [.var [.ref 1 0], .arr .str 0 false hops, .arr (.pair .str .str) 0 false (bif bd l then VF l hops else [])]) .fail) (fun l _=>l.length + 1) fun l hops r h=>?_).of fun args objs r h=>?_
 · obtain ⟨h1,h2⟩:=al h
   cases h2
   unfold Ez
   cases hf: bd l
   · rfl
   · obtain ⟨g1,g2⟩:=b_ hf
     exact NW l g1 hops (of_decide_eq_true h1) _ l 0 _ [] (At.start l) (by omega) g2 (by rw [List.length_nil];omega)
 · unfold afi at h;split at h
   · exact h
   · cases h
end
end Go.Proofs.YtgknmoadpgpdeaaGreatDoor.Ev
