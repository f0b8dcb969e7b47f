/- The texts Pa, Pb, Pq, Pc, one behind the other. -/
import Derived.Test.YtgknmoadpgpdeaaGreatDoorK18
import Derived.Test.YtgknmoadpgpdeaaGreatDoorK21
import Derived.Test.YtgknmoadpgpdeaaGreatDoorK16
import Derived.Test.YtgknmoadpgpdeaaGreatDoorK13
namespace Go.Proofs.YtgknmoadpgpdeaaGreatDoor.Ev
open Go Go.RowKit
set_option linter.unusedVariables false
set_option linter.unusedSimpArgs false
noncomputable section
def Hk: Opt:={ live:=[(2,[0,1,5])],outs:=[(2,[4])] }
def allDig_C: SC:=[⟨244,_,ei⟩]
def lL (ay: aa) (aB: Int) (kR2: aa→Int→OR') (cf cO: OR'): OR':=
 (bif (decide (aB < (ay.length: Int))) then (bif (decide (0≤aB)) then (bif (decide (aB < (ay.length: Int))) then (bif (!(am (aj ay aB))) then cf else (kR2 ay (ad (aB + 1)))) else none) else none) else cO)
def gx: Nat→aa→Int→(OR')→(OR')→OR'
 | 0,_,_,_,_=>none
 | n + 1,ay,aB,cf,cO=>lL ay aB (fun ay aB=>gx n ay aB cf cO) cf cO
abbrev allDig_p2: SP:=⟨18,[0,1,5],[(.v .s),(.v (.fn 244 [])),(.v (.i .i64))],[]⟩
noncomputable def AJ: Code:=ar (aC Tryz.f74) [1,0,1,0,0]
def AK (f: (OR')→(OR')→OR') (k: KT): OR':=f (k Ex.ret ((St.mk (aA 0 18 [(4,(AV.bool false))]) ([]: (List (Nat×(Ob))))))) (k (Ex.exit 0) ((St.mk (aA 0 18 []) ([]: (List (Nat×(Ob)))))))
def AL (n: Nat) (d: allDig_p2.D): KT→OR':=AK (gx n d.1.1 d.1.2.2.1)
def Hl (N: Nat): Lam:=bI [⟨2,allDig_p2,AL N⟩]
theorem Ke (N: Nat): OkL Kx allDig_C.s Hk 0 N (Hl N) AJ:=okL allDig_p2 (AL) (fun d kR=>AK (lL d.1.1 d.1.2.2.1 (fun ay aB=>kR ((ay,(),aB,()),())))) (fun _ _=>by kernel_rfl) (fun _ _ _=>by kernel_rfl) (fun _ _=>by kernel_rfl) (fun _ _ _ _=>by kernel_rfl) (af (l':=[]) (by kernel_rfl) trivial)
def uE (N: Nat) (s: aa): OR':=(gx N s 0 (some ((AV.bool false),[])) (some ((AV.bool true),[])))
def m_ (φ: aa→Br): List AV→List Ob→Br
 | [.str s, .fn 244 []],[]=>φ s
 | _,_=> .fail
theorem DG {φ: aa→Br} (fu: aa→Nat) (hv: ∀ s res_,(φ s).val=some res_→uE (fu s) s=some res_): Sound Kx 74 (m_ φ):=ah (C:=allDig_C) (O:=Hk) Tryz.func74 (by kernel_rfl) fun args objs=>by
 unfold m_;split
 · rename_i s;exact .inr fun _ hyp_=>aL (Λ:=Hl (fu s)) (by kernel_rfl) (af (l':=[AJ]) (by kernel_rfl) ⟨Ke _,trivial⟩) (by kernel_rfl) (hv s _ hyp_)
 · exact .inl rfl
def Om: Opt:={ live:=[(2,[0,1,5])],outs:=[(2,[0,4])] }
def pt (ay: aa) (aB cF: Int) (kR2: aa→Int→Int→OR') (cf: aa→aa→OR') (cO: aa→OR'): OR':=
 (bif (decide (cF < (ay.length: Int))) then (bif (decide (0≤cF)) then (bif (decide (cF < (ay.length: Int))) then (bif (decide ((aj ay cF)=aB)) then (bif (decide (0≤cF)) then (bif (decide (cF≤(ay.length: Int))) then (cf ay (cut ay 0 cF)) else none) else none) else (kR2 ay aB (ad (cF + 1)))) else none) else none) else (cO ay))
def jp: Nat→aa→Int→Int→(aa→aa→OR')→(aa→OR')→OR'
 | 0,_,_,_,_,_=>none
 | n + 1,ay,aB,cF,cf,cO=>pt ay aB cF (fun ay aB cF=>jp n ay aB cF cf cO) cf cO
abbrev supto_p2: SP:=⟨21,[0,1,5],[(.v .s),(.v (.i .u8)),(.v (.i .i64))],[]⟩
noncomputable def Hm: Code:=ar (aC Tryz.f273) [1,0,1,0,0]
def Hn (f: (aa→aa→OR')→(aa→OR')→OR') (k: KT): OR':=f (fun bO gJ=>k Ex.ret ((St.mk (aA 0 21 [(0,(AV.str bO)),(4,(AV.str gJ))]) ([]: (List (Nat×(Ob))))))) (fun iZ=>k (Ex.exit 0) ((St.mk (aA 0 21 [(0,(AV.str iZ))]) ([]: (List (Nat×(Ob)))))))
def Ho (n: Nat) (d: supto_p2.D): KT→OR':=Hn (jp n d.1.1 d.1.2.1 d.1.2.2.1)
def On (N: Nat): Lam:=bI [⟨2,supto_p2,Ho N⟩]
theorem Oo (N: Nat): OkL Kx noS Om 0 N (On N) Hm:=okL supto_p2 (Ho) (fun d kR=>Hn (pt d.1.1 d.1.2.1 d.1.2.2.1 (fun ay aB cF=>kR ((ay,aB,cF,()),())))) (fun _ _=>by kernel_rfl) (fun _ _ _=>by kernel_rfl) (fun _ _=>by kernel_rfl) (fun _ _ _ _=>by kernel_rfl) (af (l':=[]) (by kernel_rfl) trivial)
def AM (N: Nat) (s: aa) (b: Int): OR':=(jp N s b 0 (fun bO gJ=>(some ((AV.str gJ),[]))) (fun iZ=>(some ((AV.str iZ),[]))))
def AN (φ: aa→Int→Br): List AV→List Ob→Br
 | [.str s, .int .u8 b],[]=>φ s b
 | _,_=> .fail
theorem Kf {φ: aa→Int→Br} (fu: aa→Int→Nat) (hv: ∀ s b res_,(φ s b).val=some res_→AM (fu s b) s b=some res_): Sound Kx 273 (AN φ):=ah (C:=[]) (O:=Om) Tryz.func273 (by kernel_rfl) fun args objs=>by
 unfold AN;split
 · rename_i s b;exact .inr fun _ hyp_=>aL (Λ:=On (fu s b)) (by kernel_rfl) (af (l':=[Hm]) (by kernel_rfl) ⟨Oo _,trivial⟩) (by kernel_rfl) (hv s b _ hyp_)
 · exact .inl rfl
def aca (φ: (List Int)→Int→Br): List AV→List Ob→Br
 | [.sh (.int .i64) l, .int .i64 x],[]=>φ l x
 | _,_=> .fail
def VK: Opt:={ live:=[(2,[0,1,7,8])],outs:=[(2,[4])] }
def wH (ay: (List aa)) (aB: aa) (cF jD: Int) (kR2: (List aa)→aa→Int→Int→OR') (cf: Int→OR') (cO: OR'): OR':=
 (bif (decide (jD < cF)) then (bif (decide (0≤jD)) then (bif (decide (jD < (ay.length: Int))) then (bif (decide (aB=(List.getD ay (Int.toNat jD) ([]: aa)))) then (cf jD) else (kR2 ay aB cF (ad (jD + 1)))) else none) else none) else cO)
def na: Nat→(List aa)→aa→Int→Int→(Int→OR')→(OR')→OR'
 | 0,_,_,_,_,_,_=>none
 | n + 1,ay,aB,cF,jD,cf,cO=>wH ay aB cF jD (fun ay aB cF jD=>na n ay aB cF jD cf cO) cf cO
abbrev hasS_p2: SP:=⟨19,[0,1,7,8],[(.v (.sh Ty.str)),(.v .s),(.v (.i .i64)),(.v (.i .i64))],[]⟩
noncomputable def Oq: Code:=ar (aC Tryz.f183) [1,0,1,0,0]
def Or (f: (Int→OR')→(OR')→OR') (k: KT): OR':=f (fun bO=>k Ex.ret ((St.mk (aA 0 19 [(4,(AV.int .i64 bO))]) ([]: (List (Nat×(Ob))))))) (k (Ex.exit 0) ((St.mk (aA 0 19 []) ([]: (List (Nat×(Ob)))))))
def Ot (n: Nat) (d: hasS_p2.D): KT→OR':=Or (na n d.1.1 d.1.2.1 d.1.2.2.1 d.1.2.2.2.1)
def VL (N: Nat): Lam:=bI [⟨2,hasS_p2,Ot N⟩]
theorem Tk (N: Nat): OkL Kx noS VK 0 N (VL N) Oq:=okL hasS_p2 (Ot) (fun d kR=>Or (wH d.1.1 d.1.2.1 d.1.2.2.1 d.1.2.2.2.1 (fun ay aB cF jD=>kR ((ay,aB,cF,jD,()),())))) (fun _ _=>by kernel_rfl) (fun _ _ _=>by kernel_rfl) (fun _ _=>by kernel_rfl) (fun _ _ _ _=>by kernel_rfl) (af (l':=[]) (by kernel_rfl) trivial)
def Hp (N: Nat) (l: List aa) (x: aa): OR':=(na N l x (l.length: Int) 0 (fun bO=>(some ((AV.int .i64 bO),[]))) (some ((AV.int .i64 (-1)),[])))
def Hq (φ: (List aa)→aa→Br): List AV→List Ob→Br
 | [.sh .str l, .str x],[]=>φ l x
 | _,_=> .fail
theorem Ou {φ: (List aa)→aa→Br} (fu: (List aa)→aa→Nat) (hv: ∀ l x res_,(φ l x).val=some res_→Hp (fu l x) l x=some res_): Sound Kx 183 (Hq φ):=ah (C:=[]) (O:=VK) Tryz.func183 (by kernel_rfl) fun args objs=>by
 unfold Hq;split
 · rename_i l x;exact .inr fun _ hyp_=>aL (Λ:=VL (fu l x)) (by kernel_rfl) (af (l':=[Oq]) (by kernel_rfl) ⟨Tk _,trivial⟩) (by kernel_rfl) (hv l x _ hyp_)
 · exact .inl rfl
theorem DH (l: aa) (hl: l.length≤4611686018427387904) (k0 k1: OR'): ∀ (r: aa) (i: Int) (n: Nat),At l i r→r.length < n→gx n l i k0 k1=bif aH am r then k1 else k0:=by
 intro r;induction r with
 | nil=>intro i n h hn;obtain ⟨n,rfl⟩:=bH hn;unfold gx lL;simp only [h.dge,cond_false];rfl
 | cons a r ih=>
   intro i n h hn;obtain ⟨n,rfl⟩:=bH hn
   have hs:=ih (i + 1) n h.step (by simp at hn;omega)
   unfold gx lL
   simp only [h.dlt,h.dnn,h.str,cond_true,h.next hl,hs]
   unfold aH;rw [List.all_cons]
   cases am (by8 a) <;> rfl
def Tl: List AV→List Ob→Br:=m_ fun s=> .ite (isM s) (.ret (.bool (aH am s)) []) .fail
theorem Kg: Sound Kx 74 Tl:=by
 refine DG (fun s=>s.length + 1) fun s r h=>?_
 obtain ⟨h1,h2⟩:=ae h
 unfold uE
 rw [DH s (eO h1) _ _ s 0 _ (At.start s) (by omega),← h2]
 cases aH am s <;> rfl
def uF (n: Int) (c: UInt8): Int:=bif decide (2147483648 < n * 10 + (by8 c - 48)) then 2147483648 else n * 10 + (by8 c - 48)
def VM (r: aa) (n: Int): Int:=r.foldl uF n
def AO (s: aa): Int×Bool:=bif decide (s=[]) then (0,false) else bif aH am s then (VM s 0,true) else (0,false)
theorem VN {c: UInt8} (h: am (by8 c)=true): 48≤by8 c∧by8 c≤57:=by
 unfold am at h;rw [Bool.and_eq_true,decide_eq_true_eq,decide_eq_true_eq] at h;exact h
theorem Tm {n: Int} {c: UInt8} (h0: 0≤n) (h1: n≤2147483648) (hc: am (by8 c)=true): 0≤uF n c∧uF n c≤2147483648:=by
 have:=VN hc
 unfold uF
 cases h: decide (2147483648 < n * 10 + (by8 c - 48))
 · have:=of_decide_eq_false h;rw [cond_false];omega
 · rw [cond_true];omega
def adl: List AV→List Ob→Br
 | [.str s],[]=> .ite (isM s) (.ret (.tup [.int .i64 (AO s).1, .bool (AO s).2]) []) .fail
 | _,_=> .fail
def RS {α: Type} [DecidableEq α] (x: α): List α→Int→Int
 | [],_=> -1
 | a::r,i=>bif decide (x=a) then i else RS x r (i + 1)
theorem Ov (l: List aa) (hl: l.length≤4611686018427387904) (x: aa) (k0: Int→OR') (k1: OR') (K: Int→OR') (h0: ∀ i,k0 i=K i) (h1: k1=K (-1)): ∀ (r: List aa) (i: Int) (n: Nat),At l i r→r.length < n→
 na n l x (l.length: Int) i k0 k1=K (RS x r i):=by
 intro r;induction r with
 | nil=>intro i n h hn;obtain ⟨n,rfl⟩:=bH hn;unfold na wH;simp only [h.dge,cond_false,h1];rfl
 | cons a r ih=>
   intro i n h hn;obtain ⟨n,rfl⟩:=bH hn
   have hs:=ih (i + 1) n h.step (by simp at hn;omega)
   unfold na wH
   simp only [h.dlt,h.dnn,h.get,cond_true,h.next hl,hs,h0,RS]
   cases decide (x=a) <;> rfl
def adT: List AV→List Ob→Br
 | [.sh (.int .i64) l, .int .i64 x],[]=> .ite (decide (l.length≤1000000)) (.ret (.int .i64 (RS x l 0)) []) .fail
 | _,_=> .fail
def aas: List AV→List Ob→Br
 | [.sh .str l, .str x],[]=> .ite (decide (l.length≤1000000)) (.ret (.int .i64 (RS x l 0)) []) .fail
 | _,_=> .fail
theorem Tn: Sound Kx 183 aas:=by
 refine (Ou (φ:=fun l x=> .ite (decide (l.length≤1000000)) (.ret (.int .i64 (RS x l 0)) []) .fail) (fun l _=>l.length + 1) fun l x r h=>?_).of fun args objs r h=>?_
 · obtain ⟨h1,h2⟩:=ae h
   cases h2
   rw [decide_eq_true_eq] at h1
   unfold Hp
   exact Ov l (by omega) x _ _ (fun i=>some (.int .i64 i,[])) (fun _=>rfl) rfl l 0 _ (At.start l) (by omega)
 · unfold aas at h;split at h
   · exact h
   · cases h
theorem VO {α: Type} [DecidableEq α] (x: α): ∀ (l: List α) (i: Int),0≤i→decide (0≤RS x l i)=l.any fun a=>decide (a=x)
 | [],i,h=>by rfl
 | a::r,i,h=>by
   unfold RS
   rw [List.any_cons]
   by_cases c: x=a
   · rw [dT' c,cond_true,dT' h,dT' c.symm];rfl
   · have c2: decide (a=x)=false:=dF' fun e=>c e.symm
     rw [dF' c,cond_false,c2,Bool.false_or]
     exact VO x r (i + 1) (by omega)
theorem XO {α: Type} (l: List α) (a b: Int): (Ev.cut l a b).length≤l.length:=by
 unfold Ev.cut
 rw [List.length_drop]
 have:=List.length_take_le' b.toNat l
 omega
def Hr: Opt:={ live:=[(5,[0,4,5])],outs:=[(5,[2,3,4])] }
def iDelta_C: SC:=[⟨74,_,Kg⟩]
def lM (aY: aa) (a8 bc: Int) (kR5: aa→Int→Int→OR') (dh: Int→OR'): OR':=
 (bif (decide (bc < (aY.length: Int))) then (bif (decide (0≤bc)) then (bif (decide (bc < (aY.length: Int))) then (kR5 aY (if ((ad ((ad (10 * a8)) + (ad (wk8 ((aj aY bc) - 48))))) < 2147483648) then (ad ((ad (10 * a8)) + (ad (wk8 ((aj aY bc) - 48))))) else 2147483648) (ad (bc + 1))) else none) else none) else (dh a8))
def gy: Nat→aa→Int→Int→(Int→OR')→OR'
 | 0,_,_,_,_=>none
 | n + 1,aY,a8,bc,dh=>lM aY a8 bc (fun aY a8 bc=>gy n aY a8 bc dh) dh
abbrev iDelta_p5: SP:=⟨29,[0,4,5],[(.v .s),(.v (.i .i64)),(.v (.i .i64))],[]⟩
noncomputable def AP: Code:=ar (aC Tryz.f237) [1,1,1,0,1,0,0]
def AQ (f: (Int→OR')→OR') (k: KT): OR':=f (fun ai=>k (Ex.exit 0) ((St.mk (aA 0 29 [(4,(AV.int .i64 ai))]) ([]: (List (Nat×(Ob)))))))
def AR (n: Nat) (d: iDelta_p5.D): KT→OR':=AQ (gy n d.1.1 d.1.2.1 d.1.2.2.1)
def Hs (N: Nat): Lam:=bI [⟨5,iDelta_p5,AR N⟩]
theorem Kh (N: Nat): OkL Kx iDelta_C.s Hr 0 N (Hs N) AP:=okL iDelta_p5 (AR) (fun d kR=>AQ (lM d.1.1 d.1.2.1 d.1.2.2.1 (fun aY a8 bc=>kR ((aY,a8,bc,()),())))) (fun _ _=>by kernel_rfl) (fun _ _ _=>by kernel_rfl) (fun _ _=>by kernel_rfl) (fun _ _ _ _=>by kernel_rfl) (af (l':=[]) (by kernel_rfl) trivial)
def uG (N: Nat) (s: aa): OR':=(bif (decide (s=([]: aa))) then (some ((AV.tup [.int .i64 0,.bool false]),[])) else (bif (isM s) then (bif (!(aH am s)) then (some ((AV.tup [.int .i64 0,.bool false]),[])) else (gy N s 0 0 (fun ai=>(some ((AV.tup [.int .i64 ai,.bool true]),[]))))) else none))
def uH (φ: aa→Br): List AV→List Ob→Br
 | [.str s],[]=>φ s
 | _,_=> .fail
theorem DI {φ: aa→Br} (fu: aa→Nat) (hv: ∀ s res_,(φ s).val=some res_→uG (fu s) s=some res_): Sound Kx 237 (uH φ):=ah (C:=iDelta_C) (O:=Hr) Tryz.func237 (by kernel_rfl) fun args objs=>by
 unfold uH;split
 · rename_i s;exact .inr fun _ hyp_=>aL (Λ:=Hs (fu s)) (by kernel_rfl) (af (l':=[AP]) (by kernel_rfl) ⟨Kh _,trivial⟩) (by kernel_rfl) (hv s _ hyp_)
 · exact .inl rfl
def XP (l: List Int) (x: Int): Br:=(.ite (decide (l.length≤1000000)) (.ret (AV.bool (decide (0≤(RS x l 0)))) []) .fail)
def adm: List AV→List Ob→Br
 | [.sh (.int .i64) l, .int .i64 x],[]=>XP l x
 | _,_=> .fail
def aat: SC:=[⟨183,_,Tn⟩]
def DJ (l: List aa) (x: aa): Br:=(.ite (decide (l.length≤1000000)) (.ret (AV.bool (decide (0≤(RS x l 0)))) []) .fail)
def VP: List AV→List Ob→Br
 | [.sh .str l, .str x],[]=>DJ l x
 | _,_=> .fail
theorem conS_ok: Sound Kx 103 VP:=ac (C:=aat) (O:=O0) Tryz.func103 (by kernel_rfl) fun args objs=>by
 unfold VP;split
 · exact .inr (by kernel_rfl)
 · exact .inl rfl
end
end Go.Proofs.YtgknmoadpgpdeaaGreatDoor.Ev
