/- The texts Pa, Pb, Pq, Pc, one behind the other. -/
import Derived.Test.YtgknmoadpgpdeaaGreatDoorK18
import Derived.Test.YtgknmoadpgpdeaaGreatDoorK21
import Derived.Test.YtgknmoadpgpdeaaGreatDoorK16
import Derived.Test.YtgknmoadpgpdeaaGreatDoorK13
namespace Go.Proofs.YtgknmoadpgpdeaaGreatDoor.Ev
open Go Go.RowKit
set_option linter.unusedVariables false
set_option linter.unusedSimpArgs false
noncomputable section
def JA: Opt:={ live:=[(2,[0,1,5])],outs:=[(2,[4])] }
def allDig_C: SC:=[⟨244,_,fh⟩]
def nG (aK: aa) (aM: Int) (kR2: aa→Int→OR') (cu dn: OR'): OR':=
 (bif (decide (aM < (aK.length: Int))) then (bif (decide (0≤aM)) then (bif (decide (aM < (aK.length: Int))) then (bif (!(aJ (aC aK aM))) then cu else (kR2 aK (ai (aM + 1)))) else none) else none) else dn)
def iR: Nat→aa→Int→(OR')→(OR')→OR'
 | 0,_,_,_,_=>none
 | n + 1,aK,aM,cu,dn=>nG aK aM (fun aK aM=>iR n aK aM cu dn) cu dn
abbrev allDig_p2: SP:=⟨18,[0,1,5],[(.v .s),(.v (.fn 244 [])),(.v (.i .i64))],[]⟩
noncomputable def C6: Code:=aD (aG Tryz.f74) [1,0,1,0,0]
def C7 (f: (OR')→(OR')→OR') (k: KT): OR':=f (k Ex.ret ((St.mk (aH 0 18 [(4,(AV.bool false))]) ([]: (List (Nat×(Ob))))))) (k (Ex.exit 0) ((St.mk (aH 0 18 []) ([]: (List (Nat×(Ob)))))))
def C8 (n: Nat) (d: allDig_p2.D): KT→OR':=C7 (iR n d.1.1 d.1.2.2.1)
def JB (N: Nat): Lam:=bw [⟨2,allDig_p2,C8 N⟩]
theorem MR (N: Nat): OkL Kx allDig_C.s JA 0 N (JB N) C6:=okL allDig_p2 (C8) (fun d kR=>C7 (nG d.1.1 d.1.2.2.1 (fun aK aM=>kR ((aK,(),aM,()),())))) (fun _ _=>by kernel_rfl) (fun _ _ _=>by kernel_rfl) (fun _ _=>by kernel_rfl) (fun _ _ _ _=>by kernel_rfl) (am (l':=[]) (by kernel_rfl) trivial)
def w6 (N: Nat) (s: aa): OR':=(iR N s 0 (some ((AV.bool false),[])) (some ((AV.bool true),[])))
def oO (φ: aa→Br): List AV→List Ob→Br
 | [.str s, .fn 244 []],[]=>φ s
 | _,_=> .fail
theorem F8 {φ: aa→Br} (fu: aa→Nat) (hv: ∀ s res_,(φ s).val=some res_→w6 (fu s) s=some res_): Sound Kx 74 (oO φ):=ar (C:=allDig_C) (O:=JA) Tryz.func74 (by kernel_rfl) fun args objs=>by
 unfold oO;split
 · rename_i s;exact .inr fun _ hyp_=>aS (Λ:=JB (fu s)) (by kernel_rfl) (am (l':=[C6]) (by kernel_rfl) ⟨MR _,trivial⟩) (by kernel_rfl) (hv s _ hyp_)
 · exact .inl rfl
def QS: Opt:={ live:=[(2,[0,1,5])],outs:=[(2,[0,4])] }
def rJ (aK: aa) (aM cr: Int) (kR2: aa→Int→Int→OR') (cu: aa→aa→OR') (dn: aa→OR'): OR':=
 (bif (decide (cr < (aK.length: Int))) then (bif (decide (0≤cr)) then (bif (decide (cr < (aK.length: Int))) then (bif (decide ((aC aK cr)=aM)) then (bif (decide (0≤cr)) then (bif (decide (cr≤(aK.length: Int))) then (cu aK (cut aK 0 cr)) else none) else none) else (kR2 aK aM (ai (cr + 1)))) else none) else none) else (dn aK))
def k6: Nat→aa→Int→Int→(aa→aa→OR')→(aa→OR')→OR'
 | 0,_,_,_,_,_=>none
 | n + 1,aK,aM,cr,cu,dn=>rJ aK aM cr (fun aK aM cr=>k6 n aK aM cr cu dn) cu dn
abbrev supto_p2: SP:=⟨21,[0,1,5],[(.v .s),(.v (.i .u8)),(.v (.i .i64))],[]⟩
noncomputable def JC: Code:=aD (aG Tryz.f273) [1,0,1,0,0]
def JD (f: (aa→aa→OR')→(aa→OR')→OR') (k: KT): OR':=f (fun bS fO=>k Ex.ret ((St.mk (aH 0 21 [(0,(AV.str bS)),(4,(AV.str fO))]) ([]: (List (Nat×(Ob))))))) (fun gI=>k (Ex.exit 0) ((St.mk (aH 0 21 [(0,(AV.str gI))]) ([]: (List (Nat×(Ob)))))))
def JE (n: Nat) (d: supto_p2.D): KT→OR':=JD (k6 n d.1.1 d.1.2.1 d.1.2.2.1)
def QT (N: Nat): Lam:=bw [⟨2,supto_p2,JE N⟩]
theorem QU (N: Nat): OkL Kx noS QS 0 N (QT N) JC:=okL supto_p2 (JE) (fun d kR=>JD (rJ d.1.1 d.1.2.1 d.1.2.2.1 (fun aK aM cr=>kR ((aK,aM,cr,()),())))) (fun _ _=>by kernel_rfl) (fun _ _ _=>by kernel_rfl) (fun _ _=>by kernel_rfl) (fun _ _ _ _=>by kernel_rfl) (am (l':=[]) (by kernel_rfl) trivial)
def C9 (N: Nat) (s: aa) (b: Int): OR':=(k6 N s b 0 (fun bS fO=>(some ((AV.str fO),[]))) (fun gI=>(some ((AV.str gI),[]))))
def C_ (φ: aa→Int→Br): List AV→List Ob→Br
 | [.str s, .int .u8 b],[]=>φ s b
 | _,_=> .fail
theorem MS {φ: aa→Int→Br} (fu: aa→Int→Nat) (hv: ∀ s b res_,(φ s b).val=some res_→C9 (fu s b) s b=some res_): Sound Kx 273 (C_ φ):=ar (C:=[]) (O:=QS) Tryz.func273 (by kernel_rfl) fun args objs=>by
 unfold C_;split
 · rename_i s b;exact .inr fun _ hyp_=>aS (Λ:=QT (fu s b)) (by kernel_rfl) (am (l':=[JC]) (by kernel_rfl) ⟨QU _,trivial⟩) (by kernel_rfl) (hv s b _ hyp_)
 · exact .inl rfl
def agc (φ: (List Int)→Int→Br): List AV→List Ob→Br
 | [.sh (.int .i64) l, .int .i64 x],[]=>φ l x
 | _,_=> .fail
def Zs: Opt:={ live:=[(2,[0,1,7,8])],outs:=[(2,[4])] }
def y0 (aK: (List aa)) (aM: aa) (cr gV: Int) (kR2: (List aa)→aa→Int→Int→OR') (cu: Int→OR') (dn: OR'): OR':=
 (bif (decide (gV < cr)) then (bif (decide (0≤gV)) then (bif (decide (gV < (aK.length: Int))) then (bif (decide (aM=(List.getD aK (Int.toNat gV) ([]: aa)))) then (cu gV) else (kR2 aK aM cr (ai (gV + 1)))) else none) else none) else dn)
def oP: Nat→(List aa)→aa→Int→Int→(Int→OR')→(OR')→OR'
 | 0,_,_,_,_,_,_=>none
 | n + 1,aK,aM,cr,gV,cu,dn=>y0 aK aM cr gV (fun aK aM cr gV=>oP n aK aM cr gV cu dn) cu dn
abbrev hasS_p2: SP:=⟨19,[0,1,7,8],[(.v (.sh Ty.str)),(.v .s),(.v (.i .i64)),(.v (.i .i64))],[]⟩
noncomputable def QV: Code:=aD (aG Tryz.f183) [1,0,1,0,0]
def QW (f: (Int→OR')→(OR')→OR') (k: KT): OR':=f (fun bS=>k Ex.ret ((St.mk (aH 0 19 [(4,(AV.int .i64 bS))]) ([]: (List (Nat×(Ob))))))) (k (Ex.exit 0) ((St.mk (aH 0 19 []) ([]: (List (Nat×(Ob)))))))
def QX (n: Nat) (d: hasS_p2.D): KT→OR':=QW (oP n d.1.1 d.1.2.1 d.1.2.2.1 d.1.2.2.2.1)
def Zt (N: Nat): Lam:=bw [⟨2,hasS_p2,QX N⟩]
theorem WT (N: Nat): OkL Kx noS Zs 0 N (Zt N) QV:=okL hasS_p2 (QX) (fun d kR=>QW (y0 d.1.1 d.1.2.1 d.1.2.2.1 d.1.2.2.2.1 (fun aK aM cr gV=>kR ((aK,aM,cr,gV,()),())))) (fun _ _=>by kernel_rfl) (fun _ _ _=>by kernel_rfl) (fun _ _=>by kernel_rfl) (fun _ _ _ _=>by kernel_rfl) (am (l':=[]) (by kernel_rfl) trivial)
def JF (N: Nat) (l: List aa) (x: aa): OR':=(oP N l x (l.length: Int) 0 (fun bS=>(some ((AV.int .i64 bS),[]))) (some ((AV.int .i64 (-1)),[])))
def JG (φ: (List aa)→aa→Br): List AV→List Ob→Br
 | [.sh .str l, .str x],[]=>φ l x
 | _,_=> .fail
theorem QY {φ: (List aa)→aa→Br} (fu: (List aa)→aa→Nat) (hv: ∀ l x res_,(φ l x).val=some res_→JF (fu l x) l x=some res_): Sound Kx 183 (JG φ):=ar (C:=[]) (O:=Zs) Tryz.func183 (by kernel_rfl) fun args objs=>by
 unfold JG;split
 · rename_i l x;exact .inr fun _ hyp_=>aS (Λ:=Zt (fu l x)) (by kernel_rfl) (am (l':=[QV]) (by kernel_rfl) ⟨WT _,trivial⟩) (by kernel_rfl) (hv l x _ hyp_)
 · exact .inl rfl
theorem F9 (l: aa) (hl: l.length≤4611686018427387904) (k0 k1: OR'): ∀ (r: aa) (i: Int) (n: Nat),At l i r→r.length < n→iR n l i k0 k1=bif aU aJ r then k1 else k0:=by
 intro r;induction r with
 | nil=>intro i n h hn;obtain ⟨n,rfl⟩:=bF hn;unfold iR nG;simp only [h.dge,cond_false];rfl
 | cons a r ih=>
   intro i n h hn;obtain ⟨n,rfl⟩:=bF hn
   have hs:=ih (i + 1) n h.step (by simp at hn;omega)
   unfold iR nG
   simp only [h.dlt,h.dnn,h.str,cond_true,h.next hl,hs]
   unfold aU;rw [List.all_cons]
   cases aJ (by8 a) <;> rfl
def WU: List AV→List Ob→Br:=oO fun s=> .ite (isM s) (.ret (.bool (aU aJ s)) []) .fail
theorem MT: Sound Kx 74 WU:=by
 refine F8 (fun s=>s.length + 1) fun s r h=>?_
 obtain ⟨h1,h2⟩:=al h
 unfold w6
 rw [F9 s (fZ h1) _ _ s 0 _ (At.start s) (by omega),← h2]
 cases aU aJ s <;> rfl
def w7 (n: Int) (c: UInt8): Int:=bif decide (2147483648 < n * 10 + (by8 c - 48)) then 2147483648 else n * 10 + (by8 c - 48)
def Zu (r: aa) (n: Int): Int:=r.foldl w7 n
def Da (s: aa): Int×Bool:=bif decide (s=[]) then (0,false) else bif aU aJ s then (Zu s 0,true) else (0,false)
theorem Zv {c: UInt8} (h: aJ (by8 c)=true): 48≤by8 c∧by8 c≤57:=by
 unfold aJ at h;rw [Bool.and_eq_true,decide_eq_true_eq,decide_eq_true_eq] at h;exact h
theorem WV {n: Int} {c: UInt8} (h0: 0≤n) (h1: n≤2147483648) (hc: aJ (by8 c)=true): 0≤w7 n c∧w7 n c≤2147483648:=by
 have:=Zv hc
 unfold w7
 cases h: decide (2147483648 < n * 10 + (by8 c - 48))
 · have:=of_decide_eq_false h;rw [cond_false];omega
 · rw [cond_true];omega
def aho: List AV→List Ob→Br
 | [.str s],[]=> .ite (isM s) (.ret (.tup [.int .i64 (Da s).1, .bool (Da s).2]) []) .fail
 | _,_=> .fail
def VA {α: Type} [DecidableEq α] (x: α): List α→Int→Int
 | [],_=> -1
 | a::r,i=>bif decide (x=a) then i else VA x r (i + 1)
theorem QZ (l: List aa) (hl: l.length≤4611686018427387904) (x: aa) (k0: Int→OR') (k1: OR') (K: Int→OR') (h0: ∀ i,k0 i=K i) (h1: k1=K (-1)): ∀ (r: List aa) (i: Int) (n: Nat),At l i r→r.length < n→
 oP n l x (l.length: Int) i k0 k1=K (VA x r i):=by
 intro r;induction r with
 | nil=>intro i n h hn;obtain ⟨n,rfl⟩:=bF hn;unfold oP y0;simp only [h.dge,cond_false,h1];rfl
 | cons a r ih=>
   intro i n h hn;obtain ⟨n,rfl⟩:=bF hn
   have hs:=ih (i + 1) n h.step (by simp at hn;omega)
   unfold oP y0
   simp only [h.dlt,h.dnn,h.get,cond_true,h.next hl,hs,h0,VA]
   cases decide (x=a) <;> rfl
def ah2: List AV→List Ob→Br
 | [.sh (.int .i64) l, .int .i64 x],[]=> .ite (decide (l.length≤1000000)) (.ret (.int .i64 (VA x l 0)) []) .fail
 | _,_=> .fail
def aeg: List AV→List Ob→Br
 | [.sh .str l, .str x],[]=> .ite (decide (l.length≤1000000)) (.ret (.int .i64 (VA x l 0)) []) .fail
 | _,_=> .fail
theorem WW: Sound Kx 183 aeg:=by
 refine (QY (φ:=fun l x=> .ite (decide (l.length≤1000000)) (.ret (.int .i64 (VA x l 0)) []) .fail) (fun l _=>l.length + 1) fun l x r h=>?_).of fun args objs r h=>?_
 · obtain ⟨h1,h2⟩:=al h
   cases h2
   rw [decide_eq_true_eq] at h1
   unfold JF
   exact QZ l (by omega) x _ _ (fun i=>some (.int .i64 i,[])) (fun _=>rfl) rfl l 0 _ (At.start l) (by omega)
 · unfold aeg at h;split at h
   · exact h
   · cases h
theorem Zw {α: Type} [DecidableEq α] (x: α): ∀ (l: List α) (i: Int),0≤i→decide (0≤VA x l i)=l.any fun a=>decide (a=x)
 | [],i,h=>by rfl
 | a::r,i,h=>by
   unfold VA
   rw [List.any_cons]
   by_cases c: x=a
   · rw [dT' c,cond_true,dT' h,dT' c.symm];rfl
   · have c2: decide (a=x)=false:=dF' fun e=>c e.symm
     rw [dF' c,cond_false,c2,Bool.false_or]
     exact Zw x r (i + 1) (by omega)
theorem abD {α: Type} (l: List α) (a b: Int): (Ev.cut l a b).length≤l.length:=by
 unfold Ev.cut
 rw [List.length_drop]
 have:=List.length_take_le' b.toNat l
 omega
def JH: Opt:={ live:=[(5,[0,4,5])],outs:=[(5,[2,3,4])] }
def iDelta_C: SC:=[⟨74,_,MT⟩]
def nH (aI: aa) (aR aF: Int) (kR5: aa→Int→Int→OR') (cR: Int→OR'): OR':=
 (bif (decide (aF < (aI.length: Int))) then (bif (decide (0≤aF)) then (bif (decide (aF < (aI.length: Int))) then (kR5 aI (if ((ai ((ai (10 * aR)) + (ai (wk8 ((aC aI aF) - 48))))) < 2147483648) then (ai ((ai (10 * aR)) + (ai (wk8 ((aC aI aF) - 48))))) else 2147483648) (ai (aF + 1))) else none) else none) else (cR aR))
def iS: Nat→aa→Int→Int→(Int→OR')→OR'
 | 0,_,_,_,_=>none
 | n + 1,aI,aR,aF,cR=>nH aI aR aF (fun aI aR aF=>iS n aI aR aF cR) cR
abbrev iDelta_p5: SP:=⟨29,[0,4,5],[(.v .s),(.v (.i .i64)),(.v (.i .i64))],[]⟩
noncomputable def Db: Code:=aD (aG Tryz.f237) [1,1,1,0,1,0,0]
def Dc (f: (Int→OR')→OR') (k: KT): OR':=f (fun ap=>k (Ex.exit 0) ((St.mk (aH 0 29 [(4,(AV.int .i64 ap))]) ([]: (List (Nat×(Ob)))))))
def Dd (n: Nat) (d: iDelta_p5.D): KT→OR':=Dc (iS n d.1.1 d.1.2.1 d.1.2.2.1)
def JI (N: Nat): Lam:=bw [⟨5,iDelta_p5,Dd N⟩]
theorem MU (N: Nat): OkL Kx iDelta_C.s JH 0 N (JI N) Db:=okL iDelta_p5 (Dd) (fun d kR=>Dc (nH d.1.1 d.1.2.1 d.1.2.2.1 (fun aI aR aF=>kR ((aI,aR,aF,()),())))) (fun _ _=>by kernel_rfl) (fun _ _ _=>by kernel_rfl) (fun _ _=>by kernel_rfl) (fun _ _ _ _=>by kernel_rfl) (am (l':=[]) (by kernel_rfl) trivial)
def w9 (N: Nat) (s: aa): OR':=(bif (decide (s=([]: aa))) then (some ((AV.tup [.int .i64 0,.bool false]),[])) else (bif (isM s) then (bif (!(aU aJ s)) then (some ((AV.tup [.int .i64 0,.bool false]),[])) else (iS N s 0 0 (fun ap=>(some ((AV.tup [.int .i64 ap,.bool true]),[]))))) else none))
def w_ (φ: aa→Br): List AV→List Ob→Br
 | [.str s],[]=>φ s
 | _,_=> .fail
theorem F_ {φ: aa→Br} (fu: aa→Nat) (hv: ∀ s res_,(φ s).val=some res_→w9 (fu s) s=some res_): Sound Kx 237 (w_ φ):=ar (C:=iDelta_C) (O:=JH) Tryz.func237 (by kernel_rfl) fun args objs=>by
 unfold w_;split
 · rename_i s;exact .inr fun _ hyp_=>aS (Λ:=JI (fu s)) (by kernel_rfl) (am (l':=[Db]) (by kernel_rfl) ⟨MU _,trivial⟩) (by kernel_rfl) (hv s _ hyp_)
 · exact .inl rfl
def abE (l: List Int) (x: Int): Br:=(.ite (decide (l.length≤1000000)) (.ret (AV.bool (decide (0≤(VA x l 0)))) []) .fail)
def ahp: List AV→List Ob→Br
 | [.sh (.int .i64) l, .int .i64 x],[]=>abE l x
 | _,_=> .fail
def aeh: SC:=[⟨183,_,WW⟩]
def Ga (l: List aa) (x: aa): Br:=(.ite (decide (l.length≤1000000)) (.ret (AV.bool (decide (0≤(VA x l 0)))) []) .fail)
def Zx: List AV→List Ob→Br
 | [.sh .str l, .str x],[]=>Ga l x
 | _,_=> .fail
theorem conS_ok: Sound Kx 103 Zx:=ah (C:=aeh) (O:=O0) Tryz.func103 (by kernel_rfl) fun args objs=>by
 unfold Zx;split
 · exact .inr (by kernel_rfl)
 · exact .inl rfl
end
end Go.Proofs.YtgknmoadpgpdeaaGreatDoor.Ev
