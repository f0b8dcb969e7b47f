/- The texts Zd, Ze, Zf, Zg, Zh, Zi, Zj, Zk, Zl, Zm, Zn, Zo, Zp, Zq, Zr, Sa, Sb, Kp, Ti, Tg, Tj, one behind the other. -/
import Derived.Test.YtgknmoadpgpdeaaGreatDoorK30
import Derived.Test.YtgknmoadpgpdeaaGreatDoorK13
import Derived.Test.YtgknmoadpgpdeaaGreatDoorK29
import Derived.Test.YtgknmoadpgpdeaaGreatDoorK18
namespace Go.Proofs.YtgknmoadpgpdeaaGreatDoor.Ev
open Go Go.RowKit
set_option linter.unusedVariables false
set_option linter.unusedSimpArgs false
noncomputable section
theorem ED (l: aa) (hl: l.length≤4611686018427387904) (k0 k1: OR'): ∀ (r: aa) (i: Int) (n: Nat),At l i r→r.length < n→gH n l i k0 k1=bif aH iE r then k1 else k0:=by
 intro r;induction r with
 | nil=>intro i n h hn;obtain ⟨n,rfl⟩:=bH hn;unfold gH l7;simp only [h.dge,cond_false,aH,List.all_nil,cond_true]
 | cons a r ih=>
   intro i n h hn;obtain ⟨n,rfl⟩:=bH hn
   have hs:=ih (i + 1) n h.step (by simp at hn;omega)
   unfold gH l7;simp only [h.dlt,h.dnn,h.str,cond_true,h.next hl,hs,aH,List.all_cons]
   cases iE (by8 a) <;> rfl
def UG:=nz fun s=> .ite (isM s) (.ret (.bool (aH iE s)) []) .fail
theorem Lf: Sound Kx 74 UG:=by
 refine EC (fun s=>s.length + 1) fun s r h=>?_
 obtain ⟨h1,h2⟩:=ae h
 unfold vv
 rw [ED s (eO h1) _ _ s 0 _ (At.start s) (by omega),← h2]
 cases aH iE s <;> rfl
theorem sx: Sound Kx 81 abg:=iDateIn_ok.of fun args objs r h=>by
 unfold abg at h;split at h
 · rename_i l name
   obtain ⟨h1,h2⟩:=ae h
   cases h2
   show (nA l name).val=some (.tup [.int .i64 (dtP l name).1, .bool (dtP l name).2],[])
   unfold nA
   rw [h1,Wd];rfl
 · cases h
def oT (s: aa): Bool:=
 bif decide (190 < (s.length: Int)) then false else bif decide (((bF s).length: Int) < 2) then false else bif !decide (aj (bF s) 0=34) then false
 else bif !decide (aj (bF s) (((bF s).length: Int) - 1)=34) then false else aH iE (Ev.cut (bF s) 1 (((bF s).length: Int) - 1))
theorem Ra (t: aa) (hl: t.length≤1000000) (z: UInt8) (k0 k1: OR'): ∀ (r: aa) (i: Int) (n: Nat),At t i (r++[z])→r.length < n→nB n t i k0 k1=bif aH iE r then k1 else k0:=by
 intro r;induction r with
 | nil=>
   intro i n h hn;obtain ⟨n,rfl⟩:=bH hn
   have hle:=h.le
   simp only [List.nil_append,List.length_singleton] at hle
   have hnn:=h.nn
   unfold nB xO
   rw [w64 (n:=(t.length: Int) - 1) (by omega) (by omega),dF' (by omega)];rfl
 | cons c r ih=>
   intro i n h hn;obtain ⟨n,rfl⟩:=bH hn
   rw [List.cons_append] at h
   have hle:=h.le
   simp only [List.length_cons,List.length_append,List.length_nil] at hle hn
   have hnn:=h.nn
   have hr:=ih (i + 1) n h.step (by omega)
   unfold nB xO
   rw [w64 (n:=(t.length: Int) - 1) (by omega) (by omega),dT' (show i < (t.length: Int) - 1 by omega)]
   simp only [h.dlt,h.dnn,h.str,cond_true,h.next (show t.length≤4611686018427387904 by omega),hr]
   have ea: aH iE (c::r)=(iE (by8 c)&&aH iE r):=rfl
   rw [ea]
   unfold iE
   by_cases c1: by8 c≤32
   · rw [dT' c1,dF' (show ¬ 32 < by8 c by omega)];rfl
   · rw [dF' c1,dT' (show 32 < by8 c by omega)]
     cases decide (by8 c=127) <;> cases decide (by8 c=34) <;> cases aH (fun b=>decide (32 < b)&& !decide (b=34)&& !decide (b=127)) r <;> rfl
theorem YK (t: aa) (h: 2≤t.length): ∃ c mid z,t=c::(mid++[z]):=by
 match t,h with
 | c::t',h=>
   have hn: t'≠[]:=fun e=>by subst e;simp at h
   exact ⟨c,t'.dropLast,t'.getLast hn,by rw [List.dropLast_concat_getLast]⟩
theorem UH (c z: UInt8) (mid: aa): Ev.cut (c::(mid++[z])) 1 (((c::(mid++[z])).length: Int) - 1)=mid:=by
 unfold Ev.cut
 have e: (((c::(mid++[z])).length: Int) - 1).toNat=mid.length + 1:=by simp only [List.length_cons,List.length_append,List.length_nil];omega
 rw [e]
 simp
def acm: List AV→List Ob→Br
 | [.str s],[]=> .ret (.bool (oT s)) []
 | _,_=> .fail
theorem UI: Sound Kx 24 acm:=by
 refine (Q_ (φ:=fun s=> .ret (.bool (oT s)) []) (fun s=>s.length + 5) fun s r h=>?_).of fun args objs r h=>?_
 · cases h
   unfold IC oT
   by_cases c1: 190 < (s.length: Int)
   · rw [dT' c1];rfl
   rw [dF' c1]
   have hsl:=vu s
   generalize bF s=t at *
   by_cases c2: (t.length: Int) < 2
   · rw [dT' c2];rfl
   rw [dF' c2,dT' (show (0 : Int) < (t.length: Int) by omega),w64 (n:=(t.length: Int) - 1) (by omega) (by omega),dT' (show (0 : Int)≤(t.length: Int) - 1 by omega),dT' (show (t.length: Int) - 1 < (t.length: Int) by omega)]
   obtain ⟨c,mid,z,rfl⟩:=YK t (by omega)
   have hat: At (c::(mid++[z])) 1 (mid++[z]):=(At.start (c::(mid++[z]))).step
   rw [Ra (c::(mid++[z])) (by omega) z _ _ mid 1 (s.length + 5) hat (by simp only [List.length_cons,List.length_append,List.length_nil] at hsl;omega),UH]
   cases decide (aj (c::(mid++[z])) 0=34) <;> cases decide (aj (c::(mid++[z])) (((c::(mid++[z])).length: Int) - 1)=34) <;> cases aH iE mid <;> rfl
 · unfold acm at h;split at h
   · exact h
   · cases h
def abh: SC:=[⟨73,_,Q4⟩,⟨74,_,Lf⟩]
def EE (s: aa): Br:=(.ite (decide (190 < (s.length: Int))) (.ret (AV.bool false) []) (.ite (decide (((List.length (tpP s ([87,47]: aa))): Int) < 2)) (.ret (AV.bool false) []) (.ite (decide (0 < ((List.length (tpP s ([87,47]: aa))): Int))) (.ite (!(decide ((aj (tpP s ([87,47]: aa)) 0)=34))) (.ret (AV.bool false) []) (.ite (decide (0≤(ad (((List.length (tpP s ([87,47]: aa))): Int) - 1)))) (.ite (decide ((ad (((List.length (tpP s ([87,47]: aa))): Int) - 1)) < ((List.length (tpP s ([87,47]: aa))): Int))) (.ite (!(decide ((aj (tpP s ([87,47]: aa)) (ad (((List.length (tpP s ([87,47]: aa))): Int) - 1)))=34))) (.ret (AV.bool false) []) (.ite (decide (1≤(ad (((List.length (tpP s ([87,47]: aa))): Int) - 1)))) (.ite (decide ((ad (((List.length (tpP s ([87,47]: aa))): Int) - 1))≤((List.length (tpP s ([87,47]: aa))): Int))) (.ite (isM (cut (tpP s ([87,47]: aa)) 1 (ad (((List.length (tpP s ([87,47]: aa))): Int) - 1)))) (.ret (AV.bool (aH iE (cut (tpP s ([87,47]: aa)) 1 (ad (((List.length (tpP s ([87,47]: aa))): Int) - 1))))) []) .fail) .fail) .fail)) .fail) .fail)) .fail)))
def Wg: List AV→List Ob→Br
 | [.str s],[]=>EE s
 | _,_=> .fail
theorem iTag_ok: Sound Kx 23 Wg:=ac (C:=abh) (O:=O0) Tryz.func23 (by kernel_rfl) fun args objs=>by
 unfold Wg;split
 · exact .inr (by kernel_rfl)
 · exact .inl rfl
theorem UJ (l: aa) (a b: Int): (Ev.cut l a b).length≤l.length:=by
 unfold Ev.cut;rw [List.length_drop,List.length_take];omega
theorem IE: Sound Kx 23 acm:=iTag_ok.of fun args objs r h=>by
 unfold acm at h;split at h
 · rename_i s
   cases h
   show (EE s).val=some (.bool (oT s),[])
   unfold EE oT
   have e: tpP s [87,47]=bF s:=rfl
   rw [e]
   by_cases c1: 190 < (s.length: Int)
   · rw [dT' c1];rfl
   rw [dF' c1]
   have hsl:=vu s
   generalize bF s=t at *
   by_cases c2: (t.length: Int) < 2
   · rw [dT' c2];rfl
   have hM: isM (Ev.cut t 1 ((t.length: Int) - 1))=true:=bU (n:=1000) (by have:=UJ t 1 ((t.length: Int) - 1);omega)
   rw [dF' c2,dT' (show (0 : Int) < (t.length: Int) by omega),w64 (n:=(t.length: Int) - 1) (by omega) (by omega),dT' (show (0 : Int)≤(t.length: Int) - 1 by omega),dT' (show (t.length: Int) - 1 < (t.length: Int) by omega),
    dT' (show (1 : Int)≤(t.length: Int) - 1 by omega),dT' (show (t.length: Int) - 1≤(t.length: Int) by omega),hM]
   cases decide (aj t 0=34) <;> cases decide (aj t ((t.length: Int) - 1)=34) <;> rfl
 · cases h
def xP (a b: aa): Bool:=bif oT a then bif oT b then decide (bF a=bF b) else false else false
def adH: List AV→List Ob→Br
 | [.str a, .str b],[]=> .ret (.bool (xP a b)) []
 | _,_=> .fail
def YL: Opt:={ split:=true }
def YM: SC:=[⟨23,_,IE⟩,⟨73,_,Q4⟩]
def xQ (a b: aa): Br:=(.ite (oT a) (.ite (oT b) (.ret (AV.bool (decide ((tpP a ([87,47]: aa))=(tpP b ([87,47]: aa))))) []) (.ret (AV.bool false) [])) (.ret (AV.bool false) []))
def Rb: List AV→List Ob→Br
 | [.str a, .str b],[]=>xQ a b
 | _,_=> .fail
theorem iWeak_ok: Sound Kx 25 Rb:=ac (C:=YM) (O:=YL) Tryz.func25 (by kernel_rfl) fun args objs=>by
 unfold Rb;split
 · exact .inr (by kernel_rfl)
 · exact .inl rfl
def YN: Opt:={ split:=true }
def YO: SC:=[⟨36,_,oF⟩,⟨82,_,S5⟩,⟨24,_,UI⟩,⟨83,_,Q0⟩]
abbrev l_ (ur: aa) (t1 t2: Int) (ak: List Fd) (me ta: aa) (st: Int) (re: aa) (ba: Bool) (fs: List Fd) (bo: aa):=(List.set (List.replicate 1 (([]: aa),([]: aa))) 0 (([73,102,45,77,111,100,105,102,105,101,100,45,83,105,110,99,101]: aa),(List.getD (dp fs ([108,97,115,116,45,109,111,100,105,102,105,101,100]: aa)) 0 ([]: aa))))
abbrev jz (ur: aa) (t1 t2: Int) (ak: List Fd) (me ta: aa) (st: Int) (re: aa) (ba: Bool) (fs: List Fd) (bo: aa):=(List.set (List.replicate 1 (([]: aa),([]: aa))) 0 (([73,102,45,78,111,110,101,45,77,97,116,99,104]: aa),(List.getD (dp fs ([101,116,97,103]: aa)) 0 ([]: aa))))
abbrev xR (ur: aa) (t1 t2: Int) (ak: List Fd) (me ta: aa) (st: Int) (re: aa) (ba: Bool) (fs: List Fd) (bo: aa):=(Br.ite (go fs ([108,97,115,116,45,109,111,100,105,102,105,101,100]: aa)) (Br.ite (jK (List.getD (dp fs ([108,97,115,116,45,109,111,100,105,102,105,101,100]: aa)) 0 ([]: aa))).2 (Br.ite (decide (((List.length (l_ ur t1 t2 ak me ta st re ba fs bo)) * 32)≤140737488355328)) (Br.ret (AV.ref 0 0) ((Ob.arr (Ty.pair Ty.str Ty.str) 0 false (l_ ur t1 t2 ak me ta st re ba fs bo))::[])) Br.fail) (Br.ret (AV.ref 0 0) ((Ob.arr (Ty.pair Ty.str Ty.str) 0 false ([]: (List Fd)))::[]))) (Br.ret (AV.ref 0 0) ((Ob.arr (Ty.pair Ty.str Ty.str) 0 false ([]: (List Fd)))::[])))
def xS (ur: aa) (t1 t2: Int) (ak: List Fd) (me ta: aa) (st: Int) (re: aa) (ba: Bool) (fs: List Fd) (bo: aa): Br:=(.ite (isM ur) (.ite (!(oR (ur,(t1,(t2,(ak,(me,(ta,(st,(re,(ba,(fs,bo)))))))))))) (.ret (AV.ref 0 0) [.arr (Ty.pair Ty.str Ty.str) 0 false ([]: (List Fd))]) (.ite (go fs ([101,116,97,103]: aa)) (.ite (oT (List.getD (dp fs ([101,116,97,103]: aa)) 0 ([]: aa))) (.ite (decide (((List.length (jz ur t1 t2 ak me ta st re ba fs bo)) * 32)≤140737488355328)) (.ite (go fs ([108,97,115,116,45,109,111,100,105,102,105,101,100]: aa)) (.ite (jK (List.getD (dp fs ([108,97,115,116,45,109,111,100,105,102,105,101,100]: aa)) 0 ([]: aa))).2 (.ite (decide ((((List.length (jz ur t1 t2 ak me ta st re ba fs bo)) + (List.length (l_ ur t1 t2 ak me ta st re ba fs bo))) * 32)≤140737488355328)) (.ret (AV.ref 0 0) [.arr (Ty.pair Ty.str Ty.str) 0 false ((jz ur t1 t2 ak me ta st re ba fs bo)++(l_ ur t1 t2 ak me ta st re ba fs bo))]) .fail) (.ret (AV.ref 0 0) [.arr (Ty.pair Ty.str Ty.str) 0 false (jz ur t1 t2 ak me ta st re ba fs bo)])) (.ret (AV.ref 0 0) [.arr (Ty.pair Ty.str Ty.str) 0 false (jz ur t1 t2 ak me ta st re ba fs bo)])) .fail) (xR ur t1 t2 ak me ta st re ba fs bo)) (xR ur t1 t2 ak me ta st re ba fs bo))) .fail)
def Rc: List AV→List Ob→Br
 | [.agg [.str ur, .int .i64 t1, .int .i64 t2, .sh (.pair .str .str) ak, .str me, .str ta, .int .i64 st, .str re, .bool ba, .sh (.pair .str .str) fs, .str bo]],[]=>xS ur t1 t2 ak me ta st re ba fs bo
 | _,_=> .fail
theorem sVali_ok: Sound Kx 32 Rc:=ac (C:=YO) (O:=YN) Tryz.func32 (by kernel_rfl) fun args objs=>by
 unfold Rc;split
 · exact .inr (by kernel_rfl)
 · exact .inl rfl
def YP: Opt:={ split:=true }
def YQ: SC:=[⟨49,_,iX⟩,⟨80,_,xN⟩,⟨23,_,IE⟩,⟨81,_,sx⟩]
abbrev ma (ur: aa) (t1 t2: Int) (ak: List Fd) (me ta: aa) (st: Int) (re: aa) (ba: Bool) (fs: List Fd) (bo: aa):=(List.set (List.replicate 1 (([]: aa),([]: aa))) 0 (([73,102,45,77,111,100,105,102,105,101,100,45,83,105,110,99,101]: aa),(List.getD (dp fs ([108,97,115,116,45,109,111,100,105,102,105,101,100]: aa)) 0 ([]: aa))))
abbrev mc (ur: aa) (t1 t2: Int) (ak: List Fd) (me ta: aa) (st: Int) (re: aa) (ba: Bool) (fs: List Fd) (bo: aa):=(List.set (List.replicate 1 (([]: aa),([]: aa))) 0 (([73,102,45,78,111,110,101,45,77,97,116,99,104]: aa),(List.getD (dp fs ([101,116,97,103]: aa)) 0 ([]: aa))))
abbrev xT (ur: aa) (t1 t2: Int) (ak: List Fd) (me ta: aa) (st: Int) (re: aa) (ba: Bool) (fs: List Fd) (bo: aa):=(Br.ite (dtP fs ([108,97,115,116,45,109,111,100,105,102,105,101,100]: aa)).2 (Br.ite (decide (((List.length (ma ur t1 t2 ak me ta st re ba fs bo)) * 32)≤140737488355328)) (Br.ret (AV.ref 0 0) ((Ob.arr (Ty.pair Ty.str Ty.str) 0 false (ma ur t1 t2 ak me ta st re ba fs bo))::[])) Br.fail) (Br.ret (AV.ref 0 0) ((Ob.arr (Ty.pair Ty.str Ty.str) 0 false ([]: (List Fd)))::[])))
def xU (ur: aa) (t1 t2: Int) (ak: List Fd) (me ta: aa) (st: Int) (re: aa) (ba: Bool) (fs: List Fd) (bo: aa): Br:=(.ite (isM ur) (.ite (!(oR (ur,(t1,(t2,(ak,(me,(ta,(st,(re,(ba,(fs,bo)))))))))))) (.ret (AV.ref 0 0) [.arr (Ty.pair Ty.str Ty.str) 0 false ([]: (List Fd))]) (.ite (go fs ([101,116,97,103]: aa)) (.ite (oT (List.getD (dp fs ([101,116,97,103]: aa)) 0 ([]: aa))) (.ite (decide (((List.length (mc ur t1 t2 ak me ta st re ba fs bo)) * 32)≤140737488355328)) (.ite (dtP fs ([108,97,115,116,45,109,111,100,105,102,105,101,100]: aa)).2 (.ite (decide ((((List.length (mc ur t1 t2 ak me ta st re ba fs bo)) + (List.length (ma ur t1 t2 ak me ta st re ba fs bo))) * 32)≤140737488355328)) (.ret (AV.ref 0 0) [.arr (Ty.pair Ty.str Ty.str) 0 false ((mc ur t1 t2 ak me ta st re ba fs bo)++(ma ur t1 t2 ak me ta st re ba fs bo))]) .fail) (.ret (AV.ref 0 0) [.arr (Ty.pair Ty.str Ty.str) 0 false (mc ur t1 t2 ak me ta st re ba fs bo)])) .fail) (xT ur t1 t2 ak me ta st re ba fs bo)) (xT ur t1 t2 ak me ta st re ba fs bo))) .fail)
def Rd: List AV→List Ob→Br
 | [.agg [.str ur, .int .i64 t1, .int .i64 t2, .sh (.pair .str .str) ak, .str me, .str ta, .int .i64 st, .str re, .bool ba, .sh (.pair .str .str) fs, .str bo]],[]=>xU ur t1 t2 ak me ta st re ba fs bo
 | _,_=> .fail
theorem iVali_ok: Sound Kx 30 Rd:=ac (C:=YQ) (O:=YP) Tryz.func30 (by kernel_rfl) fun args objs=>by
 unfold Rd;split
 · exact .inr (by kernel_rfl)
 · exact .inl rfl
theorem B9: Sound Kx 25 adH:=iWeak_ok.of fun args objs r h=>by
 unfold adH at h;split at h
 · rename_i a b
   cases h
   show (xQ a b).val=some (.bool (xP a b),[])
   unfold xQ xP bF
   cases oT a <;> cases oT b <;> rfl
 · cases h
def yd: aa:=[105,102,45,110,111,110,101,45,109,97,116,99,104]
def Re: aa:=[105,102,45,109,111,100,105,102,105,101,100,45,115,105,110,99,101]
def nLM: aa:=[108,97,115,116,45,109,111,100,105,102,105,101,100]
def nET: aa:=[101,116,97,103]
def Wh (tag w: aa): Bool:=bif decide (w=[42]) then true else xP w tag
def Rf (l: List Fd) (e: En): Bool:=
 bif !oR e then false else bif !co l then false
 else bif go l yd then (b_ l yd).any (Wh ((dp e.2.2.2.2.2.2.2.2.2.1 nET).getD 0 []))
 else bif (dtP l Re).2 then bif (dtP e.2.2.2.2.2.2.2.2.2.1 nLM).2 then decide ((dtP e.2.2.2.2.2.2.2.2.2.1 nLM).1≤(dtP l Re).1) else false else false
def adI: List AV→List Ob→Br
 | [.sh (.pair .str .str) l, .agg [.str ur, .int .i64 t1, .int .i64 t2, .sh (.pair .str .str) ak, .str me, .str ta, .int .i64 st, .str re, .bool ba, .sh (.pair .str .str) fs, .str bo]],[]=> .ite (isM ur) (.ret (.bool (Rf l (ur,t1,t2,ak,me,ta,st,re,ba,fs,bo))) []) .fail
 | _,_=> .fail
def adW: SC:=[⟨25,_,B9⟩]
def ac4 (w tag: aa): Br:=(.ite (decide (w=([42]: aa))) (.ret (AV.bool true) [.var [.str tag]]) (.ret (AV.bool (xP w tag)) [.var [.str tag]]))
def adJ: List AV→List Ob→Br
 | [.str w, .ptr 0 0],[.var [.str tag]]=>ac4 w tag
 | _,_=> .fail
theorem ac5: Sound Kx 88 adJ:=ac (C:=adW) (O:=O0) Tryz.func88 (by kernel_rfl) fun args objs=>by
 unfold adJ;split
 · exact .inr (by kernel_rfl)
 · exact .inl rfl
def abi: Opt:={ live:=[(2,[0,1,7,8])],outs:=[(2,[4])] }
def ixF_C: SC:=[⟨88,_,ac5⟩]
def B_ (ay: (List aa)) (aB cF: Int) (jD: aa) (kR2: (List aa)→Int→Int→aa→OR') (cf: Int→aa→OR') (cO: aa→OR'): OR':=
 (bif (decide (cF < aB)) then (bif (decide (0≤cF)) then (bif (decide (cF < (ay.length: Int))) then (bif (decide ((List.getD ay (Int.toNat cF) ([]: aa))=([42]: aa))) then (cf cF jD) else (bif (xP (List.getD ay (Int.toNat cF) ([]: aa)) jD) then (cf cF jD) else (kR2 ay aB (ad (cF + 1)) jD))) else none) else none) else (cO jD))
def md: Nat→(List aa)→Int→Int→aa→(Int→aa→OR')→(aa→OR')→OR'
 | 0,_,_,_,_,_,_=>none
 | n + 1,ay,aB,cF,jD,cf,cO=>B_ ay aB cF jD (fun ay aB cF jD=>md n ay aB cF jD cf cO) cf cO
abbrev ixF_p2: SP:=⟨19,[0,1,7,8],[(.v (.sh Ty.str)),(.v (.fn 88 [(0,0)])),(.v (.i .i64)),(.v (.i .i64))],[(0, .var [.s])]⟩
noncomputable def Wi: Code:=ar (aC Tryz.f159) [1,0,1,0,0]
def Wj (f: (Int→aa→OR')→(aa→OR')→OR') (k: KT): OR':=f (fun bO gJ=>k Ex.ret ((St.mk (aA 0 19 [(4,(AV.int .i64 bO))]) ((0,(Ob.var [.str gJ]))::([]: (List (Nat×(Ob)))))))) (fun iZ=>k (Ex.exit 0) ((St.mk (aA 0 19 []) ((0,(Ob.var [.str iZ]))::([]: (List (Nat×(Ob))))))))
def Wk (n: Nat) (d: ixF_p2.D): KT→OR':=Wj (md n d.1.1 d.1.2.2.1 d.1.2.2.2.1 d.2.1.1)
def abj (N: Nat): Lam:=bI [⟨2,ixF_p2,Wk N⟩]
theorem YR (N: Nat): OkL Kx ixF_C.s abi 1 N (abj N) Wi:=okL ixF_p2 (Wk) (fun d kR=>Wj (B_ d.1.1 d.1.2.2.1 d.1.2.2.2.1 d.2.1.1 (fun ay aB cF jD=>kR ((ay,(),aB,cF,()),((jD,()),()))))) (fun _ _=>by kernel_rfl) (fun _ _ _=>by kernel_rfl) (fun _ _=>by kernel_rfl) (fun _ _ _ _=>by kernel_rfl) (af (l':=[]) (by kernel_rfl) trivial)
def Rg (N: Nat) (l: List aa) (tag: aa): OR':=(md N l (l.length: Int) 0 tag (fun bO gJ=>(some ((AV.int .i64 bO),[.var [.str gJ]]))) (fun iZ=>(some ((AV.int .i64 (-1)),[.var [.str iZ]]))))
def Rh (φ: (List aa)→aa→Br): List AV→List Ob→Br
 | [.sh .str l, .fn 88 [.ptr 0 0]],[.var [.str tag]]=>φ l tag
 | _,_=> .fail
theorem UK {φ: (List aa)→aa→Br} (fu: (List aa)→aa→Nat) (hv: ∀ l tag res_,(φ l tag).val=some res_→Rg (fu l tag) l tag=some res_): Sound Kx 159 (Rh φ):=ah (C:=ixF_C) (O:=abi) Tryz.func159 (by kernel_rfl) fun args objs=>by
 unfold Rh;split
 · rename_i l tag;exact .inr fun _ hyp_=>aL (Λ:=abj (fu l tag)) (by kernel_rfl) (af (l':=[Wi]) (by kernel_rfl) ⟨YR _,trivial⟩) (by kernel_rfl) (hv l tag _ hyp_)
 · exact .inl rfl
def RW (tag: aa): List aa→Int→Int
 | [],_=> -1
 | w::r,i=>bif Wh tag w then i else RW tag r (i + 1)
theorem IF (tag: aa): ∀ (l: List aa) (i: Int),0≤i→decide (0≤RW tag l i)=l.any (Wh tag)
 | [],i,h=>rfl
 | w::r,i,h=>by
   unfold RW
   rw [List.any_cons]
   cases Wh tag w
   · rw [cond_false,Bool.false_or];exact IF tag r (i + 1) (by omega)
   · rw [cond_true,Bool.true_or];exact dT' h
theorem UL (l: List aa) (hl: l.length≤100000) (tag: aa) (K: Int→OR'): ∀ (r: List aa) (i: Int) (n: Nat),At l i r→r.length < n→md n l (l.length: Int) i tag (fun x _=>K x) (fun _=>K (-1))=K (RW tag r i):=by
 intro r;induction r with
 | nil=>intro i n h hn;obtain ⟨n,rfl⟩:=bH hn;unfold md B_;simp only [h.dge,cond_false];rfl
 | cons w r ih=>
   intro i n h hn;obtain ⟨n,rfl⟩:=bH hn
   simp only [List.length_cons] at hn
   have hr:=ih (i + 1) n h.step (by omega)
   unfold md B_
   simp only [h.dlt,h.dnn,h.get,cond_true,h.next (show l.length≤4611686018427387904 by omega),hr,RW]
   unfold Wh
   cases decide (w=[42]) <;> cases xP w tag <;> rfl
def abk (p: aa→List aa→AV): List AV→List Ob→Br
 | [.sh .str l, .fn 88 [.ptr 0 0]],[.var [.str tag]]=> .ite (decide (l.length≤100000)) (.ret (p tag l) [.var [.str tag]]) .fail
 | _,_=> .fail
theorem YS: Sound Kx 159 (abk fun tag l=> .int .i64 (RW tag l 0)):=by
 refine (UK (φ:=fun l tag=> .ite (decide (l.length≤100000)) (.ret (.int .i64 (RW tag l 0)) [.var [.str tag]]) .fail) (fun l _=>l.length + 1) fun l tag r h=>?_).of fun args objs r h=>?_
 · obtain ⟨h1,h2⟩:=ae h
   cases h2
   rw [decide_eq_true_eq] at h1
   unfold Rg
   have hc: ∀ (r: List aa) (i: Int) (n: Nat) (k0 k0': Int→aa→OR') (k1 k1': aa→OR'),(∀ x,k0 x tag=k0' x tag)→k1 tag=k1' tag→md n l (l.length: Int) i tag k0 k1=md n l (l.length: Int) i tag k0' k1':=by
    intro r i n
    induction n generalizing i with
    | zero=>intros;rfl
    | succ n ih=>
      intro k0 k0' k1 k1' h0 h1
      unfold md B_
      simp only [h0,h1,ih _ k0 k0' k1 k1' h0 h1]
   rw [hc l 0 (l.length + 1) _ (fun x _=>some (.int .i64 x,[.var [.str tag]])) _ (fun _=>some (.int .i64 (-1),[.var [.str tag]])) (fun _=>rfl) rfl]
   exact UL l h1 tag (fun x=>some (.int .i64 x,[.var [.str tag]])) l 0 (l.length + 1) (At.start l) (by omega)
 · unfold abk at h;split at h
   · exact h
   · cases h
def ac6: SC:=[⟨159,_,YS⟩]
def abl (l: List aa) (tag: aa): Br:=(.ite (decide (l.length≤100000)) (.ret (AV.bool (decide (0≤(RW tag l 0)))) [.var [.str tag]]) .fail)
def abm: List AV→List Ob→Br
 | [.sh .str l, .fn 88 [.ptr 0 0]],[.var [.str tag]]=>abl l tag
 | _,_=> .fail
theorem abn: Sound Kx 86 abm:=ac (C:=ac6) (O:=O0) Tryz.func86 (by kernel_rfl) fun args objs=>by
 unfold abm;split
 · exact .inr (by kernel_rfl)
 · exact .inl rfl
def abo: Opt:={ split:=true }
def abp: SC:=[⟨49,_,iX⟩,⟨84,_,dM⟩,⟨85,_,GR⟩,⟨87,_,mZ⟩,⟨80,_,xN⟩,⟨86,_,abn⟩,⟨81,_,sx⟩]
def EF (l: List Fd) (ur: aa) (t1 t2: Int) (ak: List Fd) (me ta: aa) (st: Int) (re: aa) (ba: Bool) (fs: List Fd) (bo: aa): Br:=(.ite (isM ur) (.ite (!(oR (ur,(t1,(t2,(ak,(me,(ta,(st,(re,(ba,(fs,bo)))))))))))) (.ret (AV.bool false) []) (.ite (!(co l)) (.ret (AV.bool false) []) (.ite (go l ([105,102,45,110,111,110,101,45,109,97,116,99,104]: aa)) (.ite (decide ((List.length (b_ l ([105,102,45,110,111,110,101,45,109,97,116,99,104]: aa)))≤100000)) (.ret (AV.bool (decide (0≤(RW (List.getD (dp fs ([101,116,97,103]: aa)) 0 ([]: aa)) (b_ l ([105,102,45,110,111,110,101,45,109,97,116,99,104]: aa)) 0)))) []) .fail) (.ite (dtP l ([105,102,45,109,111,100,105,102,105,101,100,45,115,105,110,99,101]: aa)).2 (.ite (dtP fs ([108,97,115,116,45,109,111,100,105,102,105,101,100]: aa)).2 (.ret (AV.bool (decide ((dtP fs ([108,97,115,116,45,109,111,100,105,102,105,101,100]: aa)).1≤(dtP l ([105,102,45,109,111,100,105,102,105,101,100,45,115,105,110,99,101]: aa)).1))) []) (.ret (AV.bool false) [])) (.ret (AV.bool false) []))))) .fail)
def Wl: List AV→List Ob→Br
 | [.sh (.pair .str .str) l, .agg [.str ur, .int .i64 t1, .int .i64 t2, .sh (.pair .str .str) ak, .str me, .str ta, .int .i64 st, .str re, .bool ba, .sh (.pair .str .str) fs, .str bo]],[]=>EF l ur t1 t2 ak me ta st re ba fs bo
 | _,_=> .fail
theorem iUnm_ok: Sound Kx 33 Wl:=ac (C:=abp) (O:=abo) Tryz.func33 (by kernel_rfl) fun args objs=>by
 unfold Wl;split
 · exact .inr (by kernel_rfl)
 · exact .inl rfl
theorem UM (l: List Fd) (ur: aa) (t1 t2: Int) (ak: List Fd) (me ta: aa) (st: Int) (re: aa) (ba: Bool) (fs: List Fd) (bo: aa) (h1: isM ur=true): (EF l ur t1 t2 ak me ta st re ba fs bo).val=some (.bool (Rf l (ur,t1,t2,ak,me,ta,st,re,ba,fs,bo)),[]):=by
 have hw:=(lK l yd).1
 have e0: decide ((b_ l yd).length≤100000)=true:=dT' (by omega)
 have e1:=IF ((dp fs nET).getD 0 []) (b_ l yd) 0 (by omega)
 unfold EF Rf
 rw [h1]
 cases oR (ur,t1,t2,ak,me,ta,st,re,ba,fs,bo)
 · rfl
 cases co l
 · rfl
 show (Br.ite (go l yd) (Br.ite (decide ((b_ l yd).length≤100000)) (.ret (.bool (decide (0≤RW ((dp fs nET).getD 0 []) (b_ l yd) 0))) []) .fail) (Br.ite (dtP l Re).2 (Br.ite (dtP fs nLM).2 (.ret (.bool (decide ((dtP fs nLM).1≤(dtP l Re).1))) []) _) _)).val=_
 rw [e0,e1]
 cases go l yd
 · cases (dtP l Re).2 <;> cases (dtP fs nLM).2 <;> rfl
 · rfl
theorem IG: Sound Kx 33 adI:=iUnm_ok.of fun args objs r h=>by
 unfold adI at h;split at h
 · obtain ⟨h1,h2⟩:=ae h
   cases h2
   exact UM _ _ _ _ _ _ _ _ _ _ _ _ h1
 · cases h
end
end Go.Proofs.YtgknmoadpgpdeaaGreatDoor.Ev
namespace Go.Proofs.YtgknmoadpgpdeaaGreatDoor.Ev
open Go Go.RowKit
set_option linter.unusedVariables false
set_option linter.unusedSimpArgs false
end Go.Proofs.YtgknmoadpgpdeaaGreatDoor.Ev
namespace Go.Proofs.YtgknmoadpgpdeaaGreatDoor.Ev
open Go Go.RowKit
set_option linter.unusedVariables false
set_option linter.unusedSimpArgs false
noncomputable section
def adX: List AV→List Ob→Br
 | [.sh (.pair .str .str) l, .int .i64 k],[]=> .ite (decide (0 < k)&&decide (k + 2 * l.length≤100000000)&&decide (l=Hc l.length k)) (.ret (.int .i64 (k + 2 * l.length)) []) .fail
 | _,_=> .fail
def adY: List AV→List Ob→Br
 | [.agg [.str ur, .int .i64 t1, .int .i64 t2, .ref 0 0, .str me, .str ta, .int .i64 st, .str re, .bool ba, .ref 1 0, .str bo], .int .i64 k],[.arr (.pair .str .str) 0 false ak, .arr (.pair .str .str) 0 false fs]=>
   .ite (decide (0 < k)&&decide (k + 2 * ak.length + 2 * fs.length≤100000000)) (.ret (.int .i64 (k + 2 * ak.length + 2 * fs.length)) [.arr (.pair .str .str) 0 false (Hc ak.length k), .arr (.pair .str .str) 0 false (Hc fs.length (k + 2 * ak.length))]) .fail
 | _,_=> .fail
def Lr: aa:=[73,102,45,78,111,110,101,45,77,97,116,99,104]
def RX: aa:=[73,102,45,77,111,100,105,102,105,101,100,45,83,105,110,99,101]
def abq (fs: List Fd): List Fd:=(bif go fs nET&&oT ((dp fs nET).getD 0 []) then [(Lr,(dp fs nET).getD 0 [])] else [])++(bif (dtP fs nLM).2 then [(RX,(dp fs nLM).getD 0 [])] else [])
def vdP (e: En): List Fd:=bif oR e then abq e.2.2.2.2.2.2.2.2.2.1 else []
theorem YT (e: En): (vdP e).length≤2:=by
 unfold vdP abq
 cases oR e
 · simp
 · rw [cond_true,List.length_append]
   cases go e.2.2.2.2.2.2.2.2.2.1 nET&&oT ((dp e.2.2.2.2.2.2.2.2.2.1 nET).getD 0 []) <;> cases (dtP e.2.2.2.2.2.2.2.2.2.1 nLM).2 <;> simp
def acn: List AV→List Ob→Br
 | [.agg [.str ur, .int .i64 t1, .int .i64 t2, .sh (.pair .str .str) ak, .str me, .str ta, .int .i64 st, .str re, .bool ba, .sh (.pair .str .str) fs, .str bo]],[]=>
   .ite (isM ur) (.ret (.ref 0 0) [.arr (.pair .str .str) 0 false (vdP (ur,t1,t2,ak,me,ta,st,re,ba,fs,bo))]) .fail
 | _,_=> .fail
theorem Ri: Sound Kx 32 acn:=sVali_ok.of fun args objs r h=>by
 unfold acn at h;split at h
 case h_2=>cases h
 rename_i ur t1 t2 ak me ta st re ba fs bo
 obtain ⟨h1,h2⟩:=ae h
 cases h2
 show (xS ur t1 t2 ak me ta st re ba fs bo).val=_
 unfold xS vdP abq xR jz l_
 have e:=Wd fs nLM
 have hd: go fs nLM=false→(dtP fs nLM).2=false:=fun h=>by unfold dtP;rw [h];rfl
 unfold nLM at e hd
 rw [e]
 refine (bQ h1).trans ?_
 cases oR (ur,t1,t2,ak,me,ta,st,re,ba,fs,bo)
 · rfl
 unfold nET nLM
 cases hh: go fs [108,97,115,116,45,109,111,100,105,102,105,101,100]
 · simp only [hd hh]
   cases go fs [101,116,97,103] <;> cases oT ((dp fs [101,116,97,103]).getD 0 []) <;> kernel_rfl
 · cases go fs [101,116,97,103] <;> cases oT ((dp fs [101,116,97,103]).getD 0 []) <;> cases (dtP fs [108,97,115,116,45,109,111,100,105,102,105,101,100]).2 <;> kernel_rfl
theorem Ca: Sound Kx 30 acn:=iVali_ok.of fun args objs r h=>by
 unfold acn at h;split at h
 case h_2=>cases h
 rename_i ur t1 t2 ak me ta st re ba fs bo
 obtain ⟨h1,h2⟩:=ae h
 cases h2
 show (xU ur t1 t2 ak me ta st re ba fs bo).val=_
 unfold xU vdP abq xT mc ma
 refine (bQ h1).trans ?_
 cases oR (ur,t1,t2,ak,me,ta,st,re,ba,fs,bo)
 · rfl
 unfold nET nLM
 cases go fs [101,116,97,103] <;> cases oT ((dp fs [101,116,97,103]).getD 0 []) <;> cases (dtP fs [108,97,115,116,45,109,111,100,105,102,105,101,100]).2 <;> kernel_rfl
end
end Go.Proofs.YtgknmoadpgpdeaaGreatDoor.Ev
namespace Go.Proofs.YtgknmoadpgpdeaaGreatDoor.Ev
open Go Go.RowKit
set_option linter.unusedVariables false
set_option linter.unusedSimpArgs false
end Go.Proofs.YtgknmoadpgpdeaaGreatDoor.Ev
namespace Go.Proofs.YtgknmoadpgpdeaaGreatDoor.Ev
open Go Go.RowKit
set_option linter.unusedVariables false
set_option linter.unusedSimpArgs false
noncomputable section
def keF: List Fd:=[([69,84,97,103],[34,116,34]),([67,97,99,104,101,45,67,111,110,116,114,111,108],[109,97,120,45,97,103,101,61,49,48])]
def keE: En:=([104,116,116,112,58,47,47,97,46,98,47],100,101,[],[],[],200,[79,75],false,keF,[111,110,101])
def keV: List Fd:=[([73,102,45,78,111,110,101,45,77,97,116,99,104],[34,116,34])]
theorem abr: bR 200=[50,48,48]:=by rw [cK];kernel_rfl
theorem adZ: bR 3=[51]:=by rw [cK];kernel_rfl
theorem ac7: decide (((ic [] [] 200 [79,75] false keF [111,110,101]).length: Int)≤1500)=true:=by
 have e: clP [] false [111,110,101]=[67,111,110,116,101,110,116,45,76,101,110,103,116,104,58,32]++bR 3++[13,10]:=by first | rfl | (unfold clP;rfl)
 unfold ic dN
 rw [e,abr,adZ];first | rfl | decide
theorem ad0: gr [] [] 200 [79,75] false keF [111,110,101]=true:=by
 unfold gr
 rw [ac7];kernel_rfl
theorem YU: oR keE=true:=by
 unfold oR
 rw [show gr keE.2.2.2.2.1 keE.2.2.2.2.2.1 keE.2.2.2.2.2.2.1 keE.2.2.2.2.2.2.2.1 keE.2.2.2.2.2.2.2.2.1 keE.2.2.2.2.2.2.2.2.2.1 keE.2.2.2.2.2.2.2.2.2.2=true from ad0];kernel_rfl
theorem aco: vdP keE=keV:=by unfold vdP;rw [YU];kernel_rfl
theorem ad1: Rf keV keE=true:=by unfold Rf;rw [YU];kernel_rfl
theorem ad2: f8 keE []=true:=by unfold f8;rw [YU];kernel_rfl
theorem Rj: ∀ (n: Nat) (m cur: aa),m.length≤n→(∀ c ∈ m,by8 c≠34)→dG cur true (m++[34])=[cur++(m++[34])]:=by
 intro n;induction n with
 | zero=>
   intro m cur hn hm
   obtain rfl: m=[]:=List.length_eq_zero_iff.1 (by omega)
   rfl
 | succ n ih=>
   intro m cur hn hm
   cases m with
   | nil=>rfl
   | cons c m=>
     simp only [List.length_cons] at hn
     have hc:=hm c (List.mem_cons_self ..)
     have hr:=fun x hx=>hm x (List.mem_cons_of_mem _ hx)
     rw [List.cons_append,ek,dF' hc,cond_false,Bool.true_and]
     cases decide (by8 c=92)
     · rw [cond_false,Bool.not_true,Bool.false_and,cond_false,ih m _ (by omega) hr];simp
     · rw [cond_true]
       cases m with
       | nil=>simp [gl]
       | cons d m=>
         simp only [List.cons_append]
         rw [ih m _ (by simp only [List.length_cons] at hn;omega) (fun x hx=>hr x (List.mem_cons_of_mem _ hx))];simp
theorem sy (s: aa): s=bF s∨s=87::47::bF s:=by
 unfold bF tpP
 cases c: decide (([87,47]: aa).length≤s.length)&&decide (s.take ([87,47]: aa).length=[87,47])
 · exact .inl rfl
 · right
   rw [cond_true]
   simp only [Bool.and_eq_true,decide_eq_true_eq] at c
   have:=List.take_append_drop ([87,47]: aa).length s
   rw [c.2] at this
   exact this.symm
theorem IH {s: aa} (h: oT s=true): ∃ m: aa,(∀ c ∈ m,iE (by8 c)=true)∧bF s=34::(m++[34])∧s.length≤190:=by
 unfold oT at h
 by_cases c1: 190 < (s.length: Int)
 · rw [dT' c1] at h;cases h
 rw [dF' c1,cond_false] at h
 generalize bF s=t at h ⊢
 by_cases c2: (t.length: Int) < 2
 · rw [dT' c2] at h;cases h
 rw [dF' c2,cond_false] at h
 cases t with
 | nil=>exact absurd (by decide) c2
 | cons a u=>
   rcases List.eq_nil_or_concat u with rfl | ⟨m,z,rfl⟩
   · exact absurd (by simp) c2
   have e0: aj (a::m.concat z) 0=by8 a:=rfl
   have e1: aj (a::m.concat z) (((a::m.concat z).length: Int) - 1)=by8 z:=by
    unfold aj by8
    rw [show ((((a::m.concat z).length: Nat): Int) - 1).toNat=m.length + 1 by simp]
    simp
   have e2: Ev.cut (a::m.concat z) 1 (((a::m.concat z).length: Int) - 1)=m:=by
    unfold Ev.cut
    rw [show ((((a::m.concat z).length: Nat): Int) - 1).toNat=m.length + 1 by simp,show (1 : Int).toNat=1 from rfl]
    simp
   rw [e0,e1,e2] at h
   by_cases c3: by8 a=34
   case neg=>rw [dF' c3] at h;cases h
   by_cases c4: by8 z=34
   case neg=>rw [dT' c3,dF' c4] at h;cases h
   rw [dT' c3,dT' c4] at h
   have ha: a=34:=qj c3
   have hz: z=34:=qj c4
   subst ha;subst hz
   refine ⟨m,fun c hc=>?_,by simp,by omega⟩
   have h': aH iE m=true:=h
   unfold aH at h'
   exact List.all_eq_true.1 h' c hc
theorem Wm (cur r: aa): dG cur false (34::r)=dG (cur++[34]) true r:=by rw [ek];rfl
theorem abs (cur r: aa): dG cur false (87::r)=dG (cur++[87]) false r:=by rw [ek];rfl
theorem abt (cur r: aa): dG cur false (47::r)=dG (cur++[47]) false r:=by rw [ek];rfl
theorem UN {s: aa} (h: oT s=true): dG [] false s=[s]:=by
 obtain ⟨m,hm,hs,_⟩:=IH h
 have hq: ∀ c ∈ m,by8 c≠34:=fun c hc e=>by have:=hm c hc;rw [e] at this;cases this
 rcases sy s with e | e
 · rw [hs] at e
   rw [e]
   rw [Wm]
   exact Rj _ m [34] (Nat.le_refl _) hq
 · rw [hs] at e
   rw [e]
   rw [abs,abt,Wm]
   exact Rj _ m [87,47,34] (Nat.le_refl _) hq
theorem Wn (c: UInt8) (x: aa) (hc: sp8 c=false): cg (c::(x++[34]))=c::(x++[34]):=by
 have h1: iQ (c::(x++[34]))=c::(x++[34]):=by unfold iQ;rw [List.dropWhile_cons,hc];rfl
 have h2: (c::(x++[34])).reverse=34::(x.reverse++[c]):=by simp
 unfold cg
 rw [h1]
 unfold lj
 rw [h2,List.dropWhile_cons,show sp8 34=false by decide]
 show (34::(x.reverse++[c])).reverse=_
 simp
theorem UO {s: aa} (h: oT s=true): lC s=[s]:=by
 obtain ⟨m,hm,hs,hl⟩:=IH h
 have ht: cg s=s∧s≠[]:=by
  rcases sy s with e | e
  · rw [hs] at e;rw [e]
    exact ⟨Wn 34 m (by decide),by simp⟩
  · rw [hs] at e;rw [e]
    exact ⟨Wn 87 (47::34::m) (by decide),by simp⟩
 unfold lC
 rw [dF' (by omega: ¬ 4000 < (s.length: Int)),cond_false,UN h,gm,ht.1,dF' ht.2]
 rfl
theorem Rk (a: aa): xP a a=oT a:=by
 unfold xP
 cases oT a <;> simp
theorem xV {fs: List Fd} {nm: aa} (h: go fs nm=true): ∃ f ∈ fs,hO f=true∧f.2=(dp fs nm).getD 0 []:=by
 unfold go at h
 have hp: 0 < (dp fs nm).length:=by simpa using h
 have hm: (dp fs nm).getD 0 [] ∈ dp fs nm:=by
  rw [List.getD_eq_getElem?_getD,List.getElem?_eq_getElem hp];exact List.getElem_mem hp
 generalize (dp fs nm).getD 0 []=v at hm ⊢
 unfold dp at hm
 cases c: co fs
 · rw [c] at hm;cases hm
 · rw [c,cond_true] at hm
   unfold ko at hm
   obtain ⟨f,hf,rfl⟩:=List.mem_map.1 hm
   have hf':=(List.mem_filter.1 hf).1
   exact ⟨f,hf',(eC c).2 f hf',rfl⟩
theorem xW {f: Fd} (h: hO f=true) {n: aa} (hn: hO (n,[])=true): hO (n,f.2)=true:=by
 unfold hO at h hn ⊢
 simp only [Bool.and_eq_true] at h hn ⊢
 simp_all
theorem abu: hO (Lr,[])=true:=by kernel_rfl
theorem Wo: hO (RX,[])=true:=by kernel_rfl
theorem sm1: lp Lr yd=true:=by kernel_rfl
theorem sm2: lp RX yd=false:=by kernel_rfl
theorem sm3: lp RX Re=true:=by kernel_rfl
theorem UP (x sep: aa): eV [x] sep=x:=by first | rfl | simp [eV,Lib.join]
theorem Rm {a b: Fd} (ha: hO a=true) (hb: hO b=true) (c: Bool): co (a::(bif c then [b] else []))=true:=by
 unfold co
 cases c <;> simp [ha,hb]
theorem Wp {a: Fd} (ha: hO a=true): co [a]=true:=Rm ha ha false
theorem UQ (e: En) (h: vdP e≠[]): Rf (vdP e) e=true:=by
 unfold vdP at h ⊢
 unfold Rf
 cases c: oR e
 · rw [c] at h;exact absurd rfl h
 rw [c,cond_true] at h
 rw [cond_true,Bool.not_true,cond_false]
 generalize e.2.2.2.2.2.2.2.2.2.1=fs at h ⊢
 unfold abq at h ⊢
 have hd: (dtP fs nLM).2=true→go fs nLM=true:=fun hx=>by
  cases hh: go fs nLM
  · unfold dtP at hx;rw [hh] at hx;cases hx
  · rfl
 cases b1: go fs nET&&oT ((dp fs nET).getD 0 [])
 · rw [b1] at h
   cases b2: (dtP fs nLM).2
   · rw [b2] at h;exact absurd rfl h
   · have hh:=hd b2
     obtain ⟨f,_,hf,hv⟩:=xV hh
     rw [cond_false,cond_true,List.nil_append,← hv]
     have hfd:=xW hf Wo
     have hok:=Wp hfd
     have e1: go [(RX,f.2)] yd=false:=by rw [jm hok];simp [sm2]
     have e2: dp [(RX,f.2)] Re=[f.2]:=by unfold dp ko;rw [hok,cond_true,List.filter_cons];simp [sm3]
     have e3: go [(RX,f.2)] Re=true:=by rw [jm hok];simp [sm3]
     have e4: dtP [(RX,f.2)] Re=jK f.2:=by unfold dtP;rw [e3,e2];rfl
     have e5: dtP fs nLM=jK f.2:=by unfold dtP;rw [hh,← hv];rfl
     have e6: (jK f.2).2=true:=by rw [← e5];exact b2
     rw [hok,e1,e4,e5,e6]
     simp
 · rw [Bool.and_eq_true] at b1
   obtain ⟨b1,bt⟩:=b1
   obtain ⟨f,_,hf,hv⟩:=xV b1
   rw [← hv] at bt ⊢
   have hfd:=xW hf abu
   have hfin: ∀ l: List Fd,co ((Lr,f.2)::l)=true→(∀ x ∈ l,x.1=RX)→
    (bif !co ((Lr,f.2)::l) then false else bif go ((Lr,f.2)::l) yd then (b_ ((Lr,f.2)::l) yd).any (Wh f.2)
     else bif (dtP ((Lr,f.2)::l) Re).2 then bif (dtP fs nLM).2 then decide ((dtP fs nLM).1≤(dtP ((Lr,f.2)::l) Re).1) else false else false)=true:=by
    intro l hok hl
    have e1: go ((Lr,f.2)::l) yd=true:=by rw [jm hok];simp [sm1]
    have e0: (l.filter fun x=>lp x.1 yd)=[]:=by
     rw [List.filter_eq_nil_iff]
     intro x hx hs
     rw [hl x hx,sm2] at hs;cases hs
    have e2: dp ((Lr,f.2)::l) yd=[f.2]:=by
     unfold dp ko
     rw [hok,cond_true,List.filter_cons,sm1,e0];rfl
    have e3: b_ ((Lr,f.2)::l) yd=[f.2]:=by unfold b_ fA;rw [e2,UP,UO bt]
    have e4: Wh f.2 f.2=true:=by unfold Wh;rw [Rk,bt];cases decide (f.2=[42]) <;> rfl
    rw [hok,e1,e3]
    simp [e4]
   cases b2: (dtP fs nLM).2
   · have:=hfin [] (Wp hfd) (fun x hx=>by cases hx)
     rw [b2] at this
     exact this
   · obtain ⟨g,_,hg,hw⟩:=xV (hd b2)
     rw [← hw]
     have:=hfin [(RX,g.2)] (Rm hfd (xW hg Wo) true) (fun x hx=>by rw [List.mem_singleton.1 hx])
     rw [b2] at this
     exact this
end
end Go.Proofs.YtgknmoadpgpdeaaGreatDoor.Ev
