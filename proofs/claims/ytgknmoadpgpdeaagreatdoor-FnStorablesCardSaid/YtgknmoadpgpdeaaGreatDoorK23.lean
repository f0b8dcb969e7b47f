/- The texts Pd, Pe, Pf, Pg, Ph, Pi, Pj, Pk, Pl, Pm, Pn, Po, Ps, Pt, one behind the other. -/
import Derived.Test.YtgknmoadpgpdeaaGreatDoorK22
import Derived.Lib.IndexBytes
import Derived.Test.YtgknmoadpgpdeaaGreatDoorK13
namespace Go.Proofs.YtgknmoadpgpdeaaGreatDoor.Ev
open Go Go.RowKit
set_option linter.unusedVariables false
set_option linter.unusedSimpArgs false
noncomputable section
theorem SO (n: Int) (c: UInt8): (if 10 * n + (by8 c - 48) < 2147483648 then 10 * n + (by8 c - 48) else 2147483648)=nK n c:=by
 unfold nK
 rw [Int.mul_comm 10 n]
 cases h: decide (2147483648 < n * 10 + (by8 c - 48))
 · have:=of_decide_eq_false h
   rw [cond_false]
   split <;> omega
 · have:=of_decide_eq_true h
   rw [cond_true,if_neg (by omega)]
theorem HM (s: aa) (hl: s.length≤4611686018427387904) (k0: Int→OR'): ∀ (r: aa) (v i: Int) (n: Nat),At s i r→r.length < n→0≤v→v≤2147483648→aP aB r=true→
 iC n s v i k0=k0 (EB r v):=by
 intro r;induction r with
 | nil=>intro v i n h hn h0 h1 ha;obtain ⟨n,rfl⟩:=bL hn;unfold iC nL;simp only [h.dge,cond_false];rfl
 | cons a r ih=>
   intro v i n h hn h0 h1 ha;obtain ⟨n,rfl⟩:=bL hn
   simp only [List.length_cons] at hn
   have hall: aP aB (a::r)=(aB (by8 a)&&aP aB r):=rfl
   rw [hall,Bool.and_eq_true] at ha
   have hb:=SJ ha.1
   have hc:=Au h0 h1 ha.1
   have e1: wk8 (by8 a - 48)=by8 a - 48:=w8 (by omega) (by omega)
   have e2: ad (by8 a - 48)=by8 a - 48:=w64 (by omega) (by omega)
   have e3: ad (10 * v)=10 * v:=w64 (by omega) (by omega)
   have e4: ad (10 * v + (by8 a - 48))=10 * v + (by8 a - 48):=w64 (by omega) (by omega)
   unfold iC nL
   simp only [h.dlt,h.dnn,h.str,cond_true,h.next hl,e1,e2,e3,e4,SO]
   exact ih _ (i + 1) n h.step (by omega) hc.1 hc.2 ha.2
theorem OJ: Sound Kx 237 agp:=by
 refine (HJ (φ:=fun s=> .ite (isM s) (.ret (.tup [.int .i64 (cJ s).1, .bool (cJ s).2]) []) .fail) (fun s=>s.length + 1) fun s r h=>?_).of fun args objs r h=>?_
 · obtain ⟨h1,h2⟩:=ai h
   cases h2
   unfold yb cJ
   cases c: decide (s=[])
   · simp only [cond_false,h1,cond_true]
     cases ha: aP aB s
     · rfl
     · simp only [Bool.not_true,cond_false,cond_true]
       exact HM s (fh h1) _ s 0 0 _ (At.start s) (by omega) (by omega) (by omega) ha
   · rfl
 · unfold agp at h;split at h
   · exact h
   · cases h
def inI (l: List Int) (x: Int): Bool:=l.any fun a=>decide (a=x)
def aeG: List AV→List Ob→Br
 | [.sh (.int .i64) l, .int .i64 x],[]=> .ite (decide (l.length≤1000000)) (.ret (.bool (inI l x)) []) .fail
 | _,_=> .fail
theorem Xz: Sound Kx 184 aeG:=conI_ok.of fun args objs r h=>by
 unfold aeG at h
 split at h
 · rename_i l x
   obtain ⟨h1,h2⟩:=ai h
   cases h2
   show (HK l x).val=_
   unfold HK
   rw [SM x l 0 (Int.le_refl 0)]
   exact bv h1
 · cases h
def aeH: List AV→List Ob→Br
 | [.sh .str l, .str x],[]=> .ite (decide (l.length≤1000000)) (.ret (.bool (inP l x)) []) .fail
 | _,_=> .fail
theorem LX: Sound Kx 103 aeH:=conS_ok.of fun args objs r h=>by
 unfold aeH at h
 split at h
 · rename_i l x
   obtain ⟨h1,h2⟩:=ai h
   cases h2
   show (HL l x).val=_
   unfold HL
   rw [SM x l 0 (Int.le_refl 0)]
   exact bv h1
 · cases h
def an (s: aa) (b: Int): aa:=s.takeWhile fun x=> !decide (by8 x=b)
theorem abT (p r: aa): Ev.cut (p++r) 0 ((p.length: Nat): Int)=p:=by unfold Ev.cut;simp
theorem OK (s: aa) (hl: s.length≤4611686018427387904) (b: Int) (k0: aa→aa→OR') (k1: aa→OR') (K: aa→OR') (h0: ∀ x,k0 s x=K x) (h1: k1 s=K s): ∀ (r p: aa) (i: Int) (n: Nat),s=p++r→i=(p.length: Int)→r.length < n→
 kI n s b i k0 k1=K (p++an r b):=by
 intro r;induction r with
 | nil=>
   intro p i n hs hi hn;obtain ⟨n,rfl⟩:=bL hn
   have h: At s i ([]: aa):=⟨p,hs,hi⟩
   unfold kI su
   rw [h.dge,cond_false,h1,hs];rfl
 | cons a r ih=>
   intro p i n hs hi hn;obtain ⟨n,rfl⟩:=bL hn
   have h: At s i (a::r):=⟨p,hs,hi⟩
   simp only [List.length_cons] at hn
   have hle: decide (i≤(s.length: Int))=true:=dT' (by have:=h.lt;omega)
   have hcut: Ev.cut s 0 i=p:=by rw [hs,hi];exact abT p _
   have hr:=ih (p++[a]) (i + 1) n (by rw [hs];simp) (by rw [hi];simp) (by omega)
   unfold kI su
   simp only [h.dlt,h.dnn,h.str,hle,cond_true,h.next hl,hcut,h0,hr]
   unfold an
   rw [List.takeWhile_cons]
   cases decide (by8 a=b) <;> simp
def ahI: List AV→List Ob→Br
 | [.str s, .int .u8 b],[]=> .ite (isM s) (.ret (.str (an s b)) []) .fail
 | _,_=> .fail
theorem uW: Sound Kx 273 ahI:=by
 refine (OE (φ:=fun s b=> .ite (isM s) (.ret (.str (an s b)) []) .fail) (fun s _=>s.length + 1) fun s b r h=>?_).of fun args objs r h=>?_
 · obtain ⟨h1,h2⟩:=ai h
   cases h2
   unfold Ez
   exact OK s (fh h1) b _ _ (fun x=>some (.str x,[])) (fun _=>rfl) rfl s [] 0 _ rfl rfl (by omega)
 · unfold ahI at h;split at h
   · exact h
   · cases h
theorem nM (c: UInt8): ∀ s: aa,dD s [c]=(an s (by8 c),s.drop ((an s (by8 c)).length + 1), !decide ((an s (by8 c)).length=s.length))
 | []=>by simp [dD,Lib.cut,Lib.index,an]
 | a::r=>by
   have ih:=nM c r
   unfold dD Lib.cut at ih ⊢
   rw [Lib.index_one] at ih ⊢
   unfold an at ih ⊢
   rw [List.takeWhile_cons]
   unfold Lib.indexByte
   by_cases h: a=c
   · subst h;simp
   · have hb: (a==c)=false:=by simpa using h
     have hd: decide (by8 a=by8 c)=false:=dF' fun e=>h (GJ e)
     have hge:=Lib.indexByte_ge r c
     rw [hb,hd]
     simp only [Bool.false_eq_true,if_false,Bool.not_false,if_true]
     by_cases hm: Lib.indexByte r c= -1
     · rw [hm] at ih
       simp only [Prod.mk.injEq,show ¬ (0 : Int)≤ -1 by decide,if_false] at ih
       have e: (Lib.indexByte r c== -1)=true:=by simpa using hm
       rw [e]
       simp only [if_true,show ¬ (0 : Int)≤ -1 by decide,if_false,Prod.mk.injEq]
       refine ⟨by rw [← ih.1],?_,?_⟩
       · rw [← ih.1];simp
       · rw [← ih.1];simp
     · have e: (Lib.indexByte r c== -1)=false:=by simpa using hm
       rw [e]
       have h0: 0≤Lib.indexByte r c:=by omega
       rw [if_pos h0] at ih
       simp only [Prod.mk.injEq] at ih
       simp only [Bool.false_eq_true,if_false]
       rw [if_pos (by omega)]
       have e1: (Lib.indexByte r c + 1).toNat=(Lib.indexByte r c).toNat + 1:=by omega
       obtain ⟨i1,i2,i3⟩:=ih
       rw [e1]
       simp only [Prod.mk.injEq,List.take_succ_cons,List.length_cons,List.length_singleton,List.length_nil]
       refine ⟨by rw [i1],?_,?_⟩
       · rw [show (Lib.indexByte r c).toNat + 1 + (0 + 1)=((Lib.indexByte r c).toNat + 1) + 1 by omega,List.drop_succ_cons,List.drop_succ_cons]
         simpa using i2
       · have:=i3
         simp only [Bool.true_eq,Bool.not_eq_true',decide_eq_false_iff_not] at this ⊢
         omega
def SQ: SC:=[⟨237,_,OJ⟩]
def pK (s: aa) (n: Int): Br:=(.ite (isM s) (.ite (!(cJ s).2) (.ret (AV.int .i64 n) []) (.ret (AV.int .i64 (cJ s).1) [])) .fail)
def EI: List AV→List Ob→Br
 | [.str s, .int .i64 n],[]=>pK s n
 | _,_=> .fail
theorem deltaOr_ok: Sound Kx 182 EI:=ae (C:=SQ) (O:=O0) Tryz.func182 (by kernel_rfl) fun args objs=>by
 unfold EI;split
 · exact .inr (by kernel_rfl)
 · exact .inl rfl
def OL: SC:=[⟨184,_,Xz⟩]
def HN (n: Int): Br:=(.ret (AV.bool (inI (List.set (List.set (List.set (List.set (List.set (List.set (List.set (List.set (List.set (List.set (List.set (List.replicate 11 (0 : Int)) 0 200) 1 203) 2 204) 3 300) 4 301) 5 308) 6 404) 7 405) 8 410) 9 414) 10 501) n)) [])
def yd: List AV→List Ob→Br
 | [.int .i64 n],[]=>HN n
 | _,_=> .fail
theorem HO: Sound Kx 104 yd:=ae (C:=OL) (O:=O0) Tryz.func104 (by kernel_rfl) fun args objs=>by
 unfold yd;split
 · exact .inr (by kernel_rfl)
 · exact .inl rfl
def abU: SC:=[⟨273,_,uW⟩,⟨91,_,ik⟩,⟨224,_,tY⟩,⟨281,_,EE⟩]
def Ay (s: aa): Br:=(.ite (isM s) (.ite (decide (((List.length (an s 61)): Int)=(s.length: Int))) (.ite (isM (an s 61)) (.ite (isM (aE (an s 61))) (.ret (AV.tup [.str (ay (aE (an s 61))),.str ([]: aa)]) []) .fail) .fail) (.ite (decide (0≤(ad (((List.length (an s 61)): Int) + 1)))) (.ite (decide ((ad (((List.length (an s 61)): Int) + 1))≤(s.length: Int))) (.ite (isM (cut s (ad (((List.length (an s 61)): Int) + 1)) (s.length: Int))) (.ite (decide ((List.length (aE (cut s (ad (((List.length (an s 61)): Int) + 1)) (s.length: Int))))≤4000)) (.ite (rL (aE (cut s (ad (((List.length (an s 61)): Int) + 1)) (s.length: Int)))).2 (.ite (isM (an s 61)) (.ite (isM (aE (an s 61))) (.ret (AV.tup [.str (ay (aE (an s 61))),.str (rL (aE (cut s (ad (((List.length (an s 61)): Int) + 1)) (s.length: Int)))).1]) []) .fail) .fail) (.ite (isM (an s 61)) (.ite (isM (aE (an s 61))) (.ret (AV.tup [.str (ay (aE (an s 61))),.str (aE (cut s (ad (((List.length (an s 61)): Int) + 1)) (s.length: Int)))]) []) .fail) .fail)) .fail) .fail) .fail) .fail)) .fail)
def SR: List AV→List Ob→Br
 | [.str s],[]=>Ay s
 | _,_=> .fail
theorem spart_ok: Sound Kx 239 SR:=ae (C:=abU) (O:=O0) Tryz.func239 (by kernel_rfl) fun args objs=>by
 unfold SR;split
 · exact .inr (by kernel_rfl)
 · exact .inl rfl
def abV (v: aa): aa:=bif (rL v).2 then (rL v).1 else v
def aY (s: aa): aa×aa:=(ay (aE (an s 61)),abV (aE (s.drop ((an s 61).length + 1))))
theorem LY (s: aa) (b: Int): (an s b).length≤s.length:=by
 unfold an
 induction s with
 | nil=>simp
 | cons a r ih=>
   rw [List.takeWhile_cons]
   split
   · simp only [List.length_cons];omega
   · simp
theorem aeI {α: Type} (l: List α) (n: Nat): Ev.cut l ((n: Nat): Int) (l.length: Int)=l.drop n:=by unfold Ev.cut;simp
theorem XA: aE []=[]:=by have:=il [];exact List.length_eq_zero_iff.1 (by simpa using this)
theorem abW: abV []=[]:=rfl
def ahJ: List AV→List Ob→Br
 | [.str s],[]=> .ite (decide (s.length≤4000)) (.ret (.tup [.str (aY s).1, .str (aY s).2]) []) .fail
 | _,_=> .fail
theorem SS: Sound Kx 239 ahJ:=spart_ok.of fun args objs r h=>by
 unfold ahJ at h
 split at h
 case h_2=>cases h
 rename_i s
 obtain ⟨h1,h2⟩:=ai h
 cases h2
 rw [decide_eq_true_eq] at h1
 show (Ay s).val=_
 have hu:=LY s 61
 have ht:=il (an s 61)
 have m1: isM s=true:=bn h1
 have m2: isM (an s 61)=true:=bn (n:=4000) (by omega)
 have m3: isM (aE (an s 61))=true:=bn (n:=4000) (by omega)
 have hw: ad (((an s 61).length: Int) + 1)=(((an s 61).length + 1 : Nat): Int):=by rw [w64 (by omega) (by omega)];omega
 unfold Ay aY
 refine (bv m1).trans ?_
 by_cases c: (an s 61).length=s.length
 · refine (bv (dT' (by rw [c]))).trans ((bv m2).trans ((bv m3).trans ?_))
   rw [List.drop_of_length_le (by omega),XA,abW];rfl
 · refine (eH (dF' (by omega))).trans ?_
   rw [hw,aeI]
   have hd: (s.drop ((an s 61).length + 1)).length≤4000:=by rw [List.length_drop];omega
   have hdt:=il (s.drop ((an s 61).length + 1))
   refine (bv (dT' (by omega))).trans ((bv (dT' (by omega))).trans ((bv (bn hd)).trans ((bv (dT' (by omega))).trans ?_)))
   unfold abV
   cases (rL (aE (s.drop ((an s 61).length + 1)))).2
   · exact (eH rfl).trans ((bv m2).trans ((bv m3).trans rfl))
   · exact (bv rfl).trans ((bv m2).trans ((bv m3).trans rfl))
def orP (s: aa) (n: Int): Int:=bif (cJ s).2 then (cJ s).1 else n
def ahK: List AV→List Ob→Br
 | [.str s, .int .i64 n],[]=> .ite (isM s) (.ret (.int .i64 (orP s n)) []) .fail
 | _,_=> .fail
theorem HP: Sound Kx 182 ahK:=deltaOr_ok.of fun args objs r h=>by
 unfold ahK at h
 split at h
 case h_2=>cases h
 rename_i s n
 obtain ⟨h1,h2⟩:=ai h
 cases h2
 show (pK s n).val=_
 unfold pK orP
 refine (bv h1).trans ?_
 cases (cJ s).2 <;> rfl
def LZ (n: Int): Bool:=inI [200,203,204,300,301,308,404,405,410,414,501] n
theorem EJ: Sound Kx 104 (WX LZ):=GQ HO fun b=>rfl
theorem uX {b: Bool} {x: Br} {c: Bool} (h: x.val=some (.bool c,[])): (Br.ite b (.ret (.bool true) []) x).val=some (.bool (b||c),[]):=by
 cases b
 · exact h
 · rfl
theorem XB (a b: Int): decide (a=b)=decide (b=a):=by
 by_cases h: a=b
 · rw [dT' h,dT' h.symm]
 · rw [dF' h,dF' fun e=>h e.symm]
theorem EK: Sound Kx 107 (WX LZ):=GQ HG fun b=>by
 show (l6 b).val=_
 unfold l6 LZ inI
 simp only [List.any_cons,List.any_nil,XB _ b]
 exact uX (uX (uX (uX (uX (uX (uX (uX (uX (uX (uX rfl))))))))))
def L4: Opt:={ live:=[(2,[0,1,6])],outs:=[(2,[4,5])] }
def sfirst_C: SC:=[⟨239,_,SS⟩]
def nN (aD: (List aa)) (aH: aa) (bW: Int) (kR2: (List aa)→aa→Int→OR') (ca: aa→OR') (cI: OR'): OR':=
 (bif (decide (bW < (aD.length: Int))) then (bif (decide (0≤bW)) then (bif (decide (bW < (aD.length: Int))) then (bif (decide ((List.length (List.getD aD (Int.toNat bW) ([]: aa)))≤4000)) then (bif (decide ((ay (aE (an (List.getD aD (Int.toNat bW) ([]: aa)) 61)))=aH)) then (ca (abV (aE (List.drop ((List.length (an (List.getD aD (Int.toNat bW) ([]: aa)) 61)) + 1) (List.getD aD (Int.toNat bW) ([]: aa)))))) else (kR2 aD aH (ad (bW + 1)))) else none) else none) else none) else cI)
def iD: Nat→(List aa)→aa→Int→(aa→OR')→(OR')→OR'
 | 0,_,_,_,_,_=>none
 | n + 1,aD,aH,bW,ca,cI=>nN aD aH bW (fun aD aH bW=>iD n aD aH bW ca cI) ca cI
abbrev sfirst_p2: SP:=⟨27,[0,1,6],[(.v (.sh Ty.str)),(.v .s),(.v (.i .i64))],[]⟩
noncomputable def EL: Code:=aC (aG Tryz.f185) [1,0,1,0,0]
def EM (f: (aa→OR')→(OR')→OR') (k: KT): OR':=f (fun bK=>k Ex.ret ((St.mk (aF 0 27 [(4,(AV.str bK)),(5,(AV.bool true))]) ([]: (List (Nat×(Ob))))))) (k (Ex.exit 0) ((St.mk (aF 0 27 []) ([]: (List (Nat×(Ob)))))))
def EN (n: Nat) (d: sfirst_p2.D): KT→OR':=EM (iD n d.1.1 d.1.2.1 d.1.2.2.1)
def L5 (N: Nat): Lam:=bH [⟨2,sfirst_p2,EN N⟩]
theorem OM (N: Nat): OkL Kx sfirst_C.s L4 0 N (L5 N) EL:=okL sfirst_p2 (EN) (fun d kR=>EM (nN d.1.1 d.1.2.1 d.1.2.2.1 (fun aD aH bW=>kR ((aD,aH,bW,()),())))) (fun _ _=>by kernel_rfl) (fun _ _ _=>by kernel_rfl) (fun _ _=>by kernel_rfl) (fun _ _ _ _=>by kernel_rfl) (al (l':=[]) (by kernel_rfl) trivial)
def yf (N: Nat) (w: List aa) (name: aa): OR':=(iD N w name 0 (fun bK=>(some ((AV.tup [.str bK,.bool true]),[]))) (some ((AV.tup [.str ([]: aa),.bool false]),[])))
def yg (φ: (List aa)→aa→Br): List AV→List Ob→Br
 | [.sh .str w, .str name],[]=>φ w name
 | _,_=> .fail
theorem HQ {φ: (List aa)→aa→Br} (fu: (List aa)→aa→Nat) (hv: ∀ w name res_,(φ w name).val=some res_→yf (fu w name) w name=some res_): Sound Kx 185 (yg φ):=ap (C:=sfirst_C) (O:=L4) Tryz.func185 (by kernel_rfl) fun args objs=>by
 unfold yg;split
 · rename_i w name;exact .inr fun _ hyp_=>aO (Λ:=L5 (fu w name)) (by kernel_rfl) (al (l':=[EL]) (by kernel_rfl) ⟨OM _,trivial⟩) (by kernel_rfl) (hv w name _ hyp_)
 · exact .inl rfl
def l7: Opt:={ mutF:=[178],live:=[(38,[2,3,101,102,103]),(4,[0,2,3,4,16,17,18])],outs:=[(38,[2,3]),(4,[0,2,3])] }
def iReadDirs_C: SC:=[⟨118,_,nj⟩,⟨180,_,nk⟩,⟨87,_,kF⟩,⟨181,_,ED⟩,⟨179,_,GN⟩,⟨178,_,abS⟩,⟨84,_,dy⟩,⟨85,_,sn⟩,⟨182,_,HP⟩]
def gU (a_: (List Fd)) (a8 aQ: Int) (cz dR fE fv fy fF: Bool) (fA cM cN cO: Int) (cV cy dY dZ eC d7: Bool) (dE dF dG dH: Int) (aX: (List aa)) (kR4: (List Fd)→Int→Int→Bool→Bool→Bool→Bool→Bool→Bool→Int→Int→Int→Int→Bool→Bool→Bool→Bool→Bool→Bool→Int→Int→Int→Int→(List aa)→OR') (eK: (List Fd)→Bool→Bool→Bool→Bool→Bool→Bool→Int→Int→Int→Int→Bool→Bool→Bool→Bool→Bool→Bool→Int→Int→Int→Int→OR'): OR':=
 (bif (decide (aQ < a8)) then (bif (decide (0≤aQ)) then (bif (decide (aQ < (aX.length: Int))) then (bif (decide ((List.length (List.getD aX (Int.toNat aQ) ([]: aa)))≤1000000)) then (bif (isM (dD (List.getD aX (Int.toNat aQ) ([]: aa)) ([61]: aa)).2.1) then (bif (decide ((List.length (aE (dD (List.getD aX (Int.toNat aQ) ([]: aa)) ([61]: aa)).2.1))≤4000)) then (bif (rL (aE (dD (List.getD aX (Int.toNat aQ) ([]: aa)) ([61]: aa)).2.1)).2 then (bif (isM (dD (List.getD aX (Int.toNat aQ) ([]: aa)) ([61]: aa)).1) then (bif (isM (aE (dD (List.getD aX (Int.toNat aQ) ([]: aa)) ([61]: aa)).1)) then (bif (decide ((ay (aE (dD (List.getD aX (Int.toNat aQ) ([]: aa)) ([61]: aa)).1))=([110,111,45,115,116,111,114,101]: aa))) then (kR4 a_ a8 (ad (aQ + 1)) cz dR fE fv fy fF fA cM cN cO true cy dY dZ eC d7 dE dF dG dH aX) else (bif (decide ((ay (aE (dD (List.getD aX (Int.toNat aQ) ([]: aa)) ([61]: aa)).1))=([110,111,45,99,97,99,104,101]: aa))) then (kR4 a_ a8 (ad (aQ + 1)) cz dR fE fv fy fF fA cM cN cO cV true dY dZ eC d7 dE dF dG dH aX) else (bif (decide ((ay (aE (dD (List.getD aX (Int.toNat aQ) ([]: aa)) ([61]: aa)).1))=([112,114,105,118,97,116,101]: aa))) then (kR4 a_ a8 (ad (aQ + 1)) cz dR fE fv fy fF fA cM cN cO cV cy true dZ eC d7 dE dF dG dH aX) else (bif (decide ((ay (aE (dD (List.getD aX (Int.toNat aQ) ([]: aa)) ([61]: aa)).1))=([112,117,98,108,105,99]: aa))) then (kR4 a_ a8 (ad (aQ + 1)) cz dR fE fv fy fF fA cM cN cO cV cy dY true eC d7 dE dF dG dH aX) else (bif (decide ((ay (aE (dD (List.getD aX (Int.toNat aQ) ([]: aa)) ([61]: aa)).1))=([111,110,108,121,45,105,102,45,99,97,99,104,101,100]: aa))) then (kR4 a_ a8 (ad (aQ + 1)) cz dR fE fv fy fF fA cM cN cO cV cy dY dZ eC true dE dF dG dH aX) else (bif (decide ((ay (aE (dD (List.getD aX (Int.toNat aQ) ([]: aa)) ([61]: aa)).1))=([109,117,115,116,45,114,101,118,97,108,105,100,97,116,101]: aa))) then (kR4 a_ a8 (ad (aQ + 1)) cz dR fE fv fy fF fA cM cN cO cV cy dY dZ true d7 dE dF dG dH aX) else (bif (decide ((ay (aE (dD (List.getD aX (Int.toNat aQ) ([]: aa)) ([61]: aa)).1))=([112,114,111,120,121,45,114,101,118,97,108,105,100,97,116,101]: aa))) then (kR4 a_ a8 (ad (aQ + 1)) cz dR fE fv fy fF fA cM cN cO cV cy dY dZ true d7 dE dF dG dH aX) else (bif (decide ((ay (aE (dD (List.getD aX (Int.toNat aQ) ([]: aa)) ([61]: aa)).1))=([109,97,120,45,97,103,101]: aa))) then (bif (isM (rL (aE (dD (List.getD aX (Int.toNat aQ) ([]: aa)) ([61]: aa)).2.1)).1) then (kR4 a_ a8 (ad (aQ + 1)) cz dR fE fv fy fF fA cM cN cO cV cy dY dZ eC d7 (la dE (orP (rL (aE (dD (List.getD aX (Int.toNat aQ) ([]: aa)) ([61]: aa)).2.1)).1 0)) dF dG dH aX) else none) else (bif (decide ((ay (aE (dD (List.getD aX (Int.toNat aQ) ([]: aa)) ([61]: aa)).1))=([115,45,109,97,120,97,103,101]: aa))) then (bif (isM (rL (aE (dD (List.getD aX (Int.toNat aQ) ([]: aa)) ([61]: aa)).2.1)).1) then (kR4 a_ a8 (ad (aQ + 1)) cz dR fE fv fy fF fA cM cN cO cV cy dY dZ eC d7 dE (la dF (orP (rL (aE (dD (List.getD aX (Int.toNat aQ) ([]: aa)) ([61]: aa)).2.1)).1 0)) dG dH aX) else none) else (bif (decide ((ay (aE (dD (List.getD aX (Int.toNat aQ) ([]: aa)) ([61]: aa)).1))=([109,97,120,45,115,116,97,108,101]: aa))) then (bif (decide ((rL (aE (dD (List.getD aX (Int.toNat aQ) ([]: aa)) ([61]: aa)).2.1)).1=([]: aa))) then (kR4 a_ a8 (ad (aQ + 1)) cz dR fE fv fy fF fA cM cN cO cV cy dY dZ eC d7 dE dF (la dG 2147483648) dH aX) else (bif (isM (rL (aE (dD (List.getD aX (Int.toNat aQ) ([]: aa)) ([61]: aa)).2.1)).1) then (kR4 a_ a8 (ad (aQ + 1)) cz dR fE fv fy fF fA cM cN cO cV cy dY dZ eC d7 dE dF (la dG (orP (rL (aE (dD (List.getD aX (Int.toNat aQ) ([]: aa)) ([61]: aa)).2.1)).1 0)) dH aX) else none)) else (bif (decide ((ay (aE (dD (List.getD aX (Int.toNat aQ) ([]: aa)) ([61]: aa)).1))=([109,105,110,45,102,114,101,115,104]: aa))) then (bif (isM (rL (aE (dD (List.getD aX (Int.toNat aQ) ([]: aa)) ([61]: aa)).2.1)).1) then (kR4 a_ a8 (ad (aQ + 1)) cz dR fE fv fy fF fA cM cN cO cV cy dY dZ eC d7 dE dF dG (la dH (orP (rL (aE (dD (List.getD aX (Int.toNat aQ) ([]: aa)) ([61]: aa)).2.1)).1 2147483648)) aX) else none) else (kR4 a_ a8 (ad (aQ + 1)) cz dR fE fv fy fF fA cM cN cO cV cy dY dZ eC d7 dE dF dG dH aX)))))))))))) else none) else none) else (bif (isM (dD (List.getD aX (Int.toNat aQ) ([]: aa)) ([61]: aa)).1) then (bif (isM (aE (dD (List.getD aX (Int.toNat aQ) ([]: aa)) ([61]: aa)).1)) then (bif (decide ((ay (aE (dD (List.getD aX (Int.toNat aQ) ([]: aa)) ([61]: aa)).1))=([110,111,45,115,116,111,114,101]: aa))) then (kR4 a_ a8 (ad (aQ + 1)) cz dR fE fv fy fF fA cM cN cO true cy dY dZ eC d7 dE dF dG dH aX) else (bif (decide ((ay (aE (dD (List.getD aX (Int.toNat aQ) ([]: aa)) ([61]: aa)).1))=([110,111,45,99,97,99,104,101]: aa))) then (kR4 a_ a8 (ad (aQ + 1)) cz dR fE fv fy fF fA cM cN cO cV true dY dZ eC d7 dE dF dG dH aX) else (bif (decide ((ay (aE (dD (List.getD aX (Int.toNat aQ) ([]: aa)) ([61]: aa)).1))=([112,114,105,118,97,116,101]: aa))) then (kR4 a_ a8 (ad (aQ + 1)) cz dR fE fv fy fF fA cM cN cO cV cy true dZ eC d7 dE dF dG dH aX) else (bif (decide ((ay (aE (dD (List.getD aX (Int.toNat aQ) ([]: aa)) ([61]: aa)).1))=([112,117,98,108,105,99]: aa))) then (kR4 a_ a8 (ad (aQ + 1)) cz dR fE fv fy fF fA cM cN cO cV cy dY true eC d7 dE dF dG dH aX) else (bif (decide ((ay (aE (dD (List.getD aX (Int.toNat aQ) ([]: aa)) ([61]: aa)).1))=([111,110,108,121,45,105,102,45,99,97,99,104,101,100]: aa))) then (kR4 a_ a8 (ad (aQ + 1)) cz dR fE fv fy fF fA cM cN cO cV cy dY dZ eC true dE dF dG dH aX) else (bif (decide ((ay (aE (dD (List.getD aX (Int.toNat aQ) ([]: aa)) ([61]: aa)).1))=([109,117,115,116,45,114,101,118,97,108,105,100,97,116,101]: aa))) then (kR4 a_ a8 (ad (aQ + 1)) cz dR fE fv fy fF fA cM cN cO cV cy dY dZ true d7 dE dF dG dH aX) else (bif (decide ((ay (aE (dD (List.getD aX (Int.toNat aQ) ([]: aa)) ([61]: aa)).1))=([112,114,111,120,121,45,114,101,118,97,108,105,100,97,116,101]: aa))) then (kR4 a_ a8 (ad (aQ + 1)) cz dR fE fv fy fF fA cM cN cO cV cy dY dZ true d7 dE dF dG dH aX) else (bif (decide ((ay (aE (dD (List.getD aX (Int.toNat aQ) ([]: aa)) ([61]: aa)).1))=([109,97,120,45,97,103,101]: aa))) then (bif (isM (aE (dD (List.getD aX (Int.toNat aQ) ([]: aa)) ([61]: aa)).2.1)) then (kR4 a_ a8 (ad (aQ + 1)) cz dR fE fv fy fF fA cM cN cO cV cy dY dZ eC d7 (la dE (orP (aE (dD (List.getD aX (Int.toNat aQ) ([]: aa)) ([61]: aa)).2.1) 0)) dF dG dH aX) else none) else (bif (decide ((ay (aE (dD (List.getD aX (Int.toNat aQ) ([]: aa)) ([61]: aa)).1))=([115,45,109,97,120,97,103,101]: aa))) then (bif (isM (aE (dD (List.getD aX (Int.toNat aQ) ([]: aa)) ([61]: aa)).2.1)) then (kR4 a_ a8 (ad (aQ + 1)) cz dR fE fv fy fF fA cM cN cO cV cy dY dZ eC d7 dE (la dF (orP (aE (dD (List.getD aX (Int.toNat aQ) ([]: aa)) ([61]: aa)).2.1) 0)) dG dH aX) else none) else (bif (decide ((ay (aE (dD (List.getD aX (Int.toNat aQ) ([]: aa)) ([61]: aa)).1))=([109,97,120,45,115,116,97,108,101]: aa))) then (bif (decide ((aE (dD (List.getD aX (Int.toNat aQ) ([]: aa)) ([61]: aa)).2.1)=([]: aa))) then (kR4 a_ a8 (ad (aQ + 1)) cz dR fE fv fy fF fA cM cN cO cV cy dY dZ eC d7 dE dF (la dG 2147483648) dH aX) else (bif (isM (aE (dD (List.getD aX (Int.toNat aQ) ([]: aa)) ([61]: aa)).2.1)) then (kR4 a_ a8 (ad (aQ + 1)) cz dR fE fv fy fF fA cM cN cO cV cy dY dZ eC d7 dE dF (la dG (orP (aE (dD (List.getD aX (Int.toNat aQ) ([]: aa)) ([61]: aa)).2.1) 0)) dH aX) else none)) else (bif (decide ((ay (aE (dD (List.getD aX (Int.toNat aQ) ([]: aa)) ([61]: aa)).1))=([109,105,110,45,102,114,101,115,104]: aa))) then (bif (isM (aE (dD (List.getD aX (Int.toNat aQ) ([]: aa)) ([61]: aa)).2.1)) then (kR4 a_ a8 (ad (aQ + 1)) cz dR fE fv fy fF fA cM cN cO cV cy dY dZ eC d7 dE dF dG (la dH (orP (aE (dD (List.getD aX (Int.toNat aQ) ([]: aa)) ([61]: aa)).2.1) 2147483648)) aX) else none) else (kR4 a_ a8 (ad (aQ + 1)) cz dR fE fv fy fF fA cM cN cO cV cy dY dZ eC d7 dE dF dG dH aX)))))))))))) else none) else none)) else none) else none) else none) else none) else none) else (eK a_ cz dR fE fv fy fF fA cM cN cO cV cy dY dZ eC d7 dE dF dG dH))
def ed: Nat→(List Fd)→Int→Int→Bool→Bool→Bool→Bool→Bool→Bool→Int→Int→Int→Int→Bool→Bool→Bool→Bool→Bool→Bool→Int→Int→Int→Int→(List aa)→((List Fd)→Bool→Bool→Bool→Bool→Bool→Bool→Int→Int→Int→Int→Bool→Bool→Bool→Bool→Bool→Bool→Int→Int→Int→Int→OR')→OR'
 | 0,_,_,_,_,_,_,_,_,_,_,_,_,_,_,_,_,_,_,_,_,_,_,_,_,_=>none
 | n + 1,a_,a8,aQ,cz,dR,fE,fv,fy,fF,fA,cM,cN,cO,cV,cy,dY,dZ,eC,d7,dE,dF,dG,dH,aX,eK=>gU a_ a8 aQ cz dR fE fv fy fF fA cM cN cO cV cy dY dZ eC d7 dE dF dG dH aX (fun a_ a8 aQ cz dR fE fv fy fF fA cM cN cO cV cy dY dZ eC d7 dE dF dG dH aX=>ed n a_ a8 aQ cz dR fE fv fy fF fA cM cN cO cV cy dY dZ eC d7 dE dF dG dH aX eK) eK
abbrev iReadDirs_p4: SP:=⟨113,[0,2,3,4,16,17,18],[(.v (.sh (Ty.pair Ty.str Ty.str))),(.v (.ptr 192 0)),(.v (.ptr 256 0)),(.v (.fn 178 [])),(.v (.ref 1088 0)),(.v (.i .i64)),(.v (.i .i64))],[(192, .var [.b, .b, .b, .b, .b, .b,(.i .i64),(.i .i64),(.i .i64),(.i .i64)]),(256, .var [.b, .b, .b, .b, .b, .b,(.i .i64),(.i .i64),(.i .i64),(.i .i64)]),(1088, .arr Ty.str 0 false)]⟩
noncomputable def rk: Code:=aC (aG Tryz.f102) [1,1,1,0,1,0,0]
def rl (f: ((List Fd)→Bool→Bool→Bool→Bool→Bool→Bool→Int→Int→Int→Int→Bool→Bool→Bool→Bool→Bool→Bool→Int→Int→Int→Int→OR')→OR') (k: KT): OR':=f (fun dh y9 y_ za zb zc zd VD VE VF IU vO vP vQ vR vS vT vU vV vW vX=>k (Ex.exit 0) ((St.mk (aF 0 113 [(0,(AV.sh (Ty.pair Ty.str Ty.str) dh)),(2,(AV.ptr 192 0)),(3,(AV.ptr 256 0))]) ((192,(Ob.var [.bool y9,.bool y_,.bool za,.bool zb,.bool zc,.bool zd,.int .i64 VD,.int .i64 VE,.int .i64 VF,.int .i64 IU]))::((256,(Ob.var [.bool vO,.bool vP,.bool vQ,.bool vR,.bool vS,.bool vT,.int .i64 vU,.int .i64 vV,.int .i64 vW,.int .i64 vX]))::([]: (List (Nat×(Ob)))))))))
def rm (n: Nat) (d: iReadDirs_p4.D): KT→OR':=rl (ed n d.1.1 d.1.2.2.2.2.2.1 d.1.2.2.2.2.2.2.1 d.2.1.1 d.2.1.2.1 d.2.1.2.2.1 d.2.1.2.2.2.1 d.2.1.2.2.2.2.1 d.2.1.2.2.2.2.2.1 d.2.1.2.2.2.2.2.2.1 d.2.1.2.2.2.2.2.2.2.1 d.2.1.2.2.2.2.2.2.2.2.1 d.2.1.2.2.2.2.2.2.2.2.2.1 d.2.2.1.1 d.2.2.1.2.1 d.2.2.1.2.2.1 d.2.2.1.2.2.2.1 d.2.2.1.2.2.2.2.1 d.2.2.1.2.2.2.2.2.1 d.2.2.1.2.2.2.2.2.2.1 d.2.2.1.2.2.2.2.2.2.2.1 d.2.2.1.2.2.2.2.2.2.2.2.1 d.2.2.1.2.2.2.2.2.2.2.2.2.1 d.2.2.2.1)
def fR (Bx p_: Int) (By Bz BA BB BC BD: Bool) (BE BF ov ow: Int) (ox rB oy oz oA oB: Bool) (oC oD oE oF: Int) (kh: (List aa)) (aik: Int→Int→Bool→Bool→Bool→Bool→Bool→Bool→Int→Int→Int→Int→Bool→Bool→Bool→Bool→Bool→Bool→Int→Int→Int→Int→(List aa)→OR') (Za: Bool→Bool→Bool→Bool→Bool→Bool→Int→Int→Int→Int→Bool→Bool→Bool→Bool→Bool→Bool→Int→Int→Int→Int→OR'): OR':=
 (bif (decide (p_ < Bx)) then (bif (decide (0≤p_)) then (bif (decide (p_ < (kh.length: Int))) then (bif (isM (List.getD kh (Int.toNat p_) ([]: aa))) then (bif (decide ((ay (List.getD kh (Int.toNat p_) ([]: aa)))=([110,111,45,99,97,99,104,101]: aa))) then (aik Bx (ad (p_ + 1)) By Bz BA BB BC BD BE BF ov ow ox true oy oz oA oB oC oD oE oF kh) else (aik Bx (ad (p_ + 1)) By Bz BA BB BC BD BE BF ov ow ox rB oy oz oA oB oC oD oE oF kh)) else none) else none) else none) else (Za By Bz BA BB BC BD BE BF ov ow ox rB oy oz oA oB oC oD oE oF))
def dz: Nat→Int→Int→Bool→Bool→Bool→Bool→Bool→Bool→Int→Int→Int→Int→Bool→Bool→Bool→Bool→Bool→Bool→Int→Int→Int→Int→(List aa)→(Bool→Bool→Bool→Bool→Bool→Bool→Int→Int→Int→Int→Bool→Bool→Bool→Bool→Bool→Bool→Int→Int→Int→Int→OR')→OR'
 | 0,_,_,_,_,_,_,_,_,_,_,_,_,_,_,_,_,_,_,_,_,_,_,_,_=>none
 | n + 1,Bx,p_,By,Bz,BA,BB,BC,BD,BE,BF,ov,ow,ox,rB,oy,oz,oA,oB,oC,oD,oE,oF,kh,Za=>fR Bx p_ By Bz BA BB BC BD BE BF ov ow ox rB oy oz oA oB oC oD oE oF kh (fun Bx p_ By Bz BA BB BC BD BE BF ov ow ox rB oy oz oA oB oC oD oE oF kh=>dz n Bx p_ By Bz BA BB BC BD BE BF ov ow ox rB oy oz oA oB oC oD oE oF kh Za) Za
abbrev iReadDirs_p38: SP:=⟨113,[2,3,101,102,103],[(.v (.ptr 192 0)),(.v (.ptr 256 0)),(.v (.ref 6528 0)),(.v (.i .i64)),(.v (.i .i64))],[(192, .var [.b, .b, .b, .b, .b, .b,(.i .i64),(.i .i64),(.i .i64),(.i .i64)]),(256, .var [.b, .b, .b, .b, .b, .b,(.i .i64),(.i .i64),(.i .i64),(.i .i64)]),(6528, .arr Ty.str 0 false)]⟩
noncomputable def nO: Code:=aC (aG Tryz.f102) [1,1,1,1,0,1,0,1,0,0]
def nP (f: (Bool→Bool→Bool→Bool→Bool→Bool→Int→Int→Int→Int→Bool→Bool→Bool→Bool→Bool→Bool→Int→Int→Int→Int→OR')→OR') (k: KT): OR':=f (fun VG VH VI VJ VK VL VM VN VO VP BG BH BI BJ BK BL BM BN BO BP=>k (Ex.exit 3) ((St.mk (aF 0 113 [(2,(AV.ptr 192 0)),(3,(AV.ptr 256 0))]) ((192,(Ob.var [.bool VG,.bool VH,.bool VI,.bool VJ,.bool VK,.bool VL,.int .i64 VM,.int .i64 VN,.int .i64 VO,.int .i64 VP]))::((256,(Ob.var [.bool BG,.bool BH,.bool BI,.bool BJ,.bool BK,.bool BL,.int .i64 BM,.int .i64 BN,.int .i64 BO,.int .i64 BP]))::([]: (List (Nat×(Ob)))))))))
def nQ (n: Nat) (d: iReadDirs_p38.D): KT→OR':=nP (dz n d.1.2.2.2.1 d.1.2.2.2.2.1 d.2.1.1 d.2.1.2.1 d.2.1.2.2.1 d.2.1.2.2.2.1 d.2.1.2.2.2.2.1 d.2.1.2.2.2.2.2.1 d.2.1.2.2.2.2.2.2.1 d.2.1.2.2.2.2.2.2.2.1 d.2.1.2.2.2.2.2.2.2.2.1 d.2.1.2.2.2.2.2.2.2.2.2.1 d.2.2.1.1 d.2.2.1.2.1 d.2.2.1.2.2.1 d.2.2.1.2.2.2.1 d.2.2.1.2.2.2.2.1 d.2.2.1.2.2.2.2.2.1 d.2.2.1.2.2.2.2.2.2.1 d.2.2.1.2.2.2.2.2.2.2.1 d.2.2.1.2.2.2.2.2.2.2.2.1 d.2.2.1.2.2.2.2.2.2.2.2.2.1 d.2.2.2.1)
def l9 (N: Nat): Lam:=bH [⟨4,iReadDirs_p4,rm N⟩,⟨38,iReadDirs_p38,nQ N⟩]
theorem Az (N: Nat): OkL Kx iReadDirs_C.s l7 0 N (l9 N) rk:=okL iReadDirs_p4 (rm) (fun d kR=>rl (gU d.1.1 d.1.2.2.2.2.2.1 d.1.2.2.2.2.2.2.1 d.2.1.1 d.2.1.2.1 d.2.1.2.2.1 d.2.1.2.2.2.1 d.2.1.2.2.2.2.1 d.2.1.2.2.2.2.2.1 d.2.1.2.2.2.2.2.2.1 d.2.1.2.2.2.2.2.2.2.1 d.2.1.2.2.2.2.2.2.2.2.1 d.2.1.2.2.2.2.2.2.2.2.2.1 d.2.2.1.1 d.2.2.1.2.1 d.2.2.1.2.2.1 d.2.2.1.2.2.2.1 d.2.2.1.2.2.2.2.1 d.2.2.1.2.2.2.2.2.1 d.2.2.1.2.2.2.2.2.2.1 d.2.2.1.2.2.2.2.2.2.2.1 d.2.2.1.2.2.2.2.2.2.2.2.1 d.2.2.1.2.2.2.2.2.2.2.2.2.1 d.2.2.2.1 (fun a_ a8 aQ cz dR fE fv fy fF fA cM cN cO cV cy dY dZ eC d7 dE dF dG dH aX=>kR ((a_,(),(),(),(),a8,aQ,()),((cz,dR,fE,fv,fy,fF,fA,cM,cN,cO,()),(cV,cy,dY,dZ,eC,d7,dE,dF,dG,dH,()),aX,()))))) (fun _ _=>by kernel_rfl) (fun _ _ _=>by kernel_rfl) (fun _ _=>by kernel_rfl) (fun _ _ _ _=>by kernel_rfl) (al (l':=[]) (by kernel_rfl) trivial)
theorem wE (N: Nat): OkL Kx iReadDirs_C.s l7 0 N (l9 N) nO:=okL iReadDirs_p38 (nQ) (fun d kR=>nP (fR d.1.2.2.2.1 d.1.2.2.2.2.1 d.2.1.1 d.2.1.2.1 d.2.1.2.2.1 d.2.1.2.2.2.1 d.2.1.2.2.2.2.1 d.2.1.2.2.2.2.2.1 d.2.1.2.2.2.2.2.2.1 d.2.1.2.2.2.2.2.2.2.1 d.2.1.2.2.2.2.2.2.2.2.1 d.2.1.2.2.2.2.2.2.2.2.2.1 d.2.2.1.1 d.2.2.1.2.1 d.2.2.1.2.2.1 d.2.2.1.2.2.2.1 d.2.2.1.2.2.2.2.1 d.2.2.1.2.2.2.2.2.1 d.2.2.1.2.2.2.2.2.2.1 d.2.2.1.2.2.2.2.2.2.2.1 d.2.2.1.2.2.2.2.2.2.2.2.1 d.2.2.1.2.2.2.2.2.2.2.2.2.1 d.2.2.2.1 (fun Bx p_ By Bz BA BB BC BD BE BF ov ow ox rB oy oz oA oB oC oD oE oF kh=>kR (((),(),(),Bx,p_,()),((By,Bz,BA,BB,BC,BD,BE,BF,ov,ow,()),(ox,rB,oy,oz,oA,oB,oC,oD,oE,oF,()),kh,()))))) (fun _ _=>by kernel_rfl) (fun _ _ _=>by kernel_rfl) (fun _ _=>by kernel_rfl) (fun _ _ _ _=>by kernel_rfl) (al (l':=[]) (by kernel_rfl) trivial)
def nR (N: Nat) (l: List Fd): OR':=(ed N l ((List.length (aN l ([99,97,99,104,101,45,99,111,110,116,114,111,108]: aa))): Int) 0 false false false false false false 0 0 0 0 false false false false false false (-1) (-1) (-1) (-1) (aN l ([99,97,99,104,101,45,99,111,110,116,114,111,108]: aa)) (fun dh y9 y_ za zb zc zd VD VE VF IU vO vP vQ vR vS vT vU vV vW vX=>(bif (cw dh) then (bif (!(eq dh ([99,97,99,104,101,45,99,111,110,116,114,111,108]: aa))) then (dz N ((List.length (aN dh ([112,114,97,103,109,97]: aa))): Int) 0 y9 y_ za zb zc zd VD VE VF IU vO vP vQ vR vS vT vU vV vW vX (aN dh ([112,114,97,103,109,97]: aa)) (fun VG VH VI VJ VK VL VM VN VO VP BG BH BI BJ BK BL BM BN BO BP=>(some ((AV.agg [.bool BG,.bool BH,.bool BI,.bool BJ,.bool BK,.bool BL,.int .i64 BM,.int .i64 BN,.int .i64 BO,.int .i64 BP]),[])))) else (some ((AV.agg [.bool vO,.bool vP,.bool vQ,.bool vR,.bool vS,.bool vT,.int .i64 vU,.int .i64 vV,.int .i64 vW,.int .i64 vX]),[]))) else (some ((AV.agg [.bool vO,.bool vP,.bool vQ,.bool vR,.bool vS,.bool vT,.int .i64 vU,.int .i64 vV,.int .i64 vW,.int .i64 vX]),[])))))
def nS (φ: (List Fd)→Br): List AV→List Ob→Br
 | [.sh (.pair .str .str) l],[]=>φ l
 | _,_=> .fail
theorem wF {φ: (List Fd)→Br} (fu: (List Fd)→Nat) (hv: ∀ l res_,(φ l).val=some res_→nR (fu l) l=some res_): Sound Kx 102 (nS φ):=ap (C:=iReadDirs_C) (O:=l7) Tryz.func102 (by kernel_rfl) fun args objs=>by
 unfold nS;split
 · rename_i l;exact .inr fun _ hyp_=>aO (Λ:=l9 (fu l)) (by kernel_rfl) (al (l':=[rk,nO]) (by kernel_rfl) ⟨Az _,wE _,trivial⟩) (by kernel_rfl) (hv l _ hyp_)
 · exact .inl rfl
structure Dr where
 ns: Bool
 nc: Bool
 pr: Bool
 pu: Bool
 mr: Bool
 oc: Bool
 ma: Int
 sm: Int
 ms: Int
 mf: Int
def kNs: aa:=[110,111,45,115,116,111,114,101]
def kNc: aa:=[110,111,45,99,97,99,104,101]
def kPr: aa:=[112,114,105,118,97,116,101]
def kPu: aa:=[112,117,98,108,105,99]
def kOc: aa:=[111,110,108,121,45,105,102,45,99,97,99,104,101,100]
def kMr: aa:=[109,117,115,116,45,114,101,118,97,108,105,100,97,116,101]
def kPx: aa:=[112,114,111,120,121,45,114,101,118,97,108,105,100,97,116,101]
def kMa: aa:=[109,97,120,45,97,103,101]
def kSm: aa:=[115,45,109,97,120,97,103,101]
def kMs: aa:=[109,97,120,45,115,116,97,108,101]
def kMf: aa:=[109,105,110,45,102,114,101,115,104]
def ce (d: Dr) (w: aa): Dr:=
 bif decide ((aY w).1=kNs) then { d with ns:=true } else bif decide ((aY w).1=kNc) then { d with nc:=true } else bif decide ((aY w).1=kPr) then { d with pr:=true }
 else bif decide ((aY w).1=kPu) then { d with pu:=true } else bif decide ((aY w).1=kOc) then { d with oc:=true } else bif decide ((aY w).1=kMr) then { d with mr:=true }
 else bif decide ((aY w).1=kPx) then { d with mr:=true } else bif decide ((aY w).1=kMa) then { d with ma:=la d.ma (orP (aY w).2 0) } else bif decide ((aY w).1=kSm) then { d with sm:=la d.sm (orP (aY w).2 0) }
 else bif decide ((aY w).1=kMs) then (bif decide ((aY w).2=[]) then { d with ms:=la d.ms 2147483648 } else { d with ms:=la d.ms (orP (aY w).2 0) })
 else bif decide ((aY w).1=kMf) then { d with mf:=la d.mf (orP (aY w).2 2147483648) } else d
theorem aiu: by8 61=61:=rfl
theorem ST (v: aa) (h: v.length≤4000): (abV v).length≤4000:=by
 unfold abV rL
 cases decide ((v.length: Int) < 2)
 · cases decide (aq v 0=34)
   · exact h
   · cases decide (aq v ((v.length: Int) - 1)=34)
     · exact h
     · simp only [cond_false,Bool.not_true]
       cases hu: B8 (Ev.cut v 1 ((v.length: Int) - 1)) with
       | none=>exact h
       | some t=>
         have h1:=LU _ _ t (Nat.le_refl _) hu
         have h2:=Ax v 1 ((v.length: Int) - 1)
         show t.length≤4000
         omega
 · exact h
theorem wG (l: List Fd) (t1 t2 t3 t4 t5 t6: Bool) (n1 n2 n3 n4: Int) (ws: List aa) (hl: ws.length≤100000) (k: List Fd→Bool→Bool→Bool→Bool→Bool→Bool→Int→Int→Int→Int→Bool→Bool→Bool→Bool→Bool→Bool→Int→Int→Int→Int→OR') (K: Dr→OR')
 (hk: ∀ a b c d e f g h i j,k l t1 t2 t3 t4 t5 t6 n1 n2 n3 n4 a b c d e f g h i j=K ⟨a,b,c,d,e,f,g,h,i,j⟩): ∀ (r: List aa) (i: Int) (n: Nat) (a b c d e f: Bool) (g h u v: Int),At ws i r→r.length < n→(∀ x ∈ r,x.length≤4000)→
 ed n l (ws.length: Int) i t1 t2 t3 t4 t5 t6 n1 n2 n3 n4 a b c d e f g h u v ws k=K (r.foldl ce ⟨a,b,c,d,e,f,g,h,u,v⟩):=by
 intro r;induction r with
 | nil=>intro i n a b c d e f g h u v hat hn hf;obtain ⟨n,rfl⟩:=bL hn;unfold ed gU;simp only [hat.dge,cond_false,hk];rfl
 | cons w r ih=>
   intro i n a b c d e f g h u v hat hn hf;obtain ⟨n,rfl⟩:=bL hn
   have hw:=hf w (List.mem_cons_self ..)
   simp only [List.length_cons] at hn
   have hG:=fun a b c d e f g h u v=>ih (i + 1) n a b c d e f g h u v hat.step (by omega) fun x hx=>hf x (List.mem_cons_of_mem _ hx)
   have hu:=LY w 61
   have ht:=il (an w 61)
   have hd: (w.drop ((an w 61).length + 1)).length≤4000:=by rw [List.length_drop];omega
   have hdt:=il (w.drop ((an w 61).length + 1))
   have hv:=ST (aE (w.drop ((an w 61).length + 1))) (by omega)
   have m1: isM (w.drop ((an w 61).length + 1))=true:=bn hd
   have m2: isM (an w 61)=true:=bn (n:=4000) (by omega)
   have m3: isM (aE (an w 61))=true:=bn (n:=4000) (by omega)
   have m4: decide ((aE (w.drop ((an w 61).length + 1))).length≤4000)=true:=PN (by omega)
   have m5: decide (w.length≤1000000)=true:=PN (by omega)
   unfold ed gU
   simp only [hat.dlt,hat.dnn,hat.get,hat.next (by omega),nM,aiu,m1,m2,m3,m4,m5,hG,cond_true]
   rw [List.foldl_cons]
   generalize hX: (fun x=>K (List.foldl ce x r))=G
   have hX': ∀ x,K (List.foldl ce x r)=G x:=fun x=>by rw [← hX]
   simp only [hX']
   have hc: ∀ (b: Bool) x y,G (bif b then x else y)=bif b then G x else G y:=fun b x y=>by cases b <;> rfl
   unfold ce aY abV at *
   simp only [hc]
   cases hq: (rL (aE (List.drop ((an w 61).length + 1) w))).2
   · rw [hq,cond_false] at hv
     simp only [cond_false,bn hv,m4,cond_true]
     rfl
   · rw [hq,cond_true] at hv
     simp only [cond_true,bn hv]
     rfl
theorem uY (t1 t2 t3 t4 t5 t6: Bool) (n1 n2 n3 n4: Int) (ws: List aa) (hl: ws.length≤100000) (k: Bool→Bool→Bool→Bool→Bool→Bool→Int→Int→Int→Int→Bool→Bool→Bool→Bool→Bool→Bool→Int→Int→Int→Int→OR') (K: Dr→OR')
 (hk: ∀ a b c d e f g h i j,k t1 t2 t3 t4 t5 t6 n1 n2 n3 n4 a b c d e f g h i j=K ⟨a,b,c,d,e,f,g,h,i,j⟩): ∀ (r: List aa) (i: Int) (n: Nat) (a b c d e f: Bool) (g h u v: Int),At ws i r→r.length < n→(∀ x ∈ r,isM x=true)→
 dz n (ws.length: Int) i t1 t2 t3 t4 t5 t6 n1 n2 n3 n4 a b c d e f g h u v ws k=K ⟨a,b||r.any fun x=>decide (ay x=kNc),c,d,e,f,g,h,u,v⟩:=by
 intro r;induction r with
 | nil=>intro i n a b c d e f g h u v hat hn hf;obtain ⟨n,rfl⟩:=bL hn;unfold dz fR;simp only [hat.dge,cond_false,hk,List.any_nil,Bool.or_false]
 | cons w r ih=>
   intro i n a b c d e f g h u v hat hn hf;obtain ⟨n,rfl⟩:=bL hn
   simp only [List.length_cons] at hn
   have hG:=fun b=>ih (i + 1) n a b c d e f g h u v hat.step (by omega) fun x hx=>hf x (List.mem_cons_of_mem _ hx)
   unfold dz fR
   simp only [hat.dlt,hat.dnn,hat.get,hat.next (by omega),hf w (List.mem_cons_self ..),hG,cond_true,List.any_cons]
   show (bif decide (ay w=kNc) then _ else _)=_
   cases decide (ay w=kNc)
   · rw [cond_false,Bool.false_or]
   · rw [cond_true];simp only [Bool.true_or,Bool.or_true]
def d0: Dr:=⟨false,false,false,false,false,false, -1, -1, -1, -1⟩
def nCc: aa:=[99,97,99,104,101,45,99,111,110,116,114,111,108]
def nPg: aa:=[112,114,97,103,109,97]
def bf (l: List Fd): Dr:=
 let d:=(aN l nCc).foldl ce d0
 bif cw l&& !eq l nCc then { d with nc:=d.nc||(aN l nPg).any fun x=>decide (ay x=kNc) } else d
def drA (d: Dr): AV:= .agg [.bool d.ns, .bool d.nc, .bool d.pr, .bool d.pu, .bool d.mr, .bool d.oc, .int .i64 d.ma, .int .i64 d.sm, .int .i64 d.ms, .int .i64 d.mf]
theorem yh (l: List Fd) (name: aa): ∀ x ∈ aN l name,x.length≤4000:=(An _).2
theorem AA: Sound Kx 102 (ZP fun l=>drA (bf l)):=by
 refine (wF (φ:=fun l=> .ret (drA (bf l)) []) (fun l=>(aN l nCc).length + (aN l nPg).length + 1) fun l r h=>?_).of fun args objs r h=>?_
 · cases h
   obtain ⟨h1,_⟩:=fP l nCc
   obtain ⟨h2,h3⟩:=fP l nPg
   unfold nR
   refine (wG l _ _ _ _ _ _ _ _ _ _ (aN l nCc) (by omega) _ (fun d=>bif cw l then (bif !(eq l nCc) then some (drA { d with nc:=d.nc||(aN l nPg).any fun x=>decide (ay x=kNc) },[]) else some (drA d,[])) else some (drA d,[])) ?_ (aN l nCc) 0 _ _ _ _ _ _ _ _ _ _ _ (At.start _) (by omega) (yh l nCc)).trans ?_
   · intro a b c d e f g h i j
     cases cw l
     · rfl
     · cases hh: eq l nCc
       · have hh': eq l [99,97,99,104,101,45,99,111,110,116,114,111,108]=false:=hh
         simp only [cond_true,hh',Bool.not_false]
         exact uY _ _ _ _ _ _ _ _ _ _ (aN l nPg) (by omega) _ (fun d=>some (drA d,[])) (fun _ _ _ _ _ _ _ _ _ _=>rfl) (aN l nPg) 0 _ _ _ _ _ _ _ _ _ _ _ (At.start _) (by omega) h3
       · have hh': eq l [99,97,99,104,101,45,99,111,110,116,114,111,108]=true:=hh
         simp only [cond_true,hh',Bool.not_true,cond_false]
         rfl
   · unfold bf
     cases cw l <;> cases eq l nCc <;> rfl
 · unfold ZP at h;split at h
   · exact h
   · cases h
def eu: List aa→aa→aa×Bool
 | [],_=>([],false)
 | w::r,n=>bif decide ((aY w).1=n) then ((aY w).2,true) else eu r n
theorem kK (w: aa) (r: List aa) (n: aa): eu (w::r) n=bif decide ((aY w).1=n) then ((aY w).2,true) else eu r n:=rfl
def rM (ws: List aa): Bool:=decide (ws.length≤100000)&&ws.all fun x=>decide (x.length≤4000)
theorem HR (ws: List aa) (hl: ws.length≤100000) (name: aa) (k0: aa→OR') (k1: OR') (K: aa×Bool→OR') (h0: ∀ v,k0 v=K (v,true)) (h1: k1=K ([],false)): ∀ (r: List aa) (i: Int) (n: Nat),At ws i r→r.length < n→(∀ x ∈ r,x.length≤4000)→
 iD n ws name i k0 k1=K (eu r name):=by
 intro r;induction r with
 | nil=>intro i n h hn hf;obtain ⟨n,rfl⟩:=bL hn;unfold iD nN;simp only [h.dge,cond_false,h1];rfl
 | cons w r ih=>
   intro i n h hn hf;obtain ⟨n,rfl⟩:=bL hn
   simp only [List.length_cons] at hn
   have hs:=ih (i + 1) n h.step (by omega) fun x hx=>hf x (List.mem_cons_of_mem _ hx)
   have hw:=hf w (List.mem_cons_self ..)
   unfold iD nN
   simp only [h.dlt,h.dnn,h.get,h.next (by omega),PN hw,hs,h0,cond_true]
   rw [kK]
   show (bif decide (ay (aE (an w 61))=name) then _ else _)=K (bif decide (ay (aE (an w 61))=name) then _ else _)
   cases decide (ay (aE (an w 61))=name) <;> rfl
def ahL: List AV→List Ob→Br
 | [.sh .str ws, .str name],[]=> .ite (rM ws) (.ret (.tup [.str (eu ws name).1, .bool (eu ws name).2]) []) .fail
 | _,_=> .fail
theorem SU {ws: List aa} (h: rM ws=true): ws.length≤100000∧∀ x ∈ ws,x.length≤4000:=by
 unfold rM at h
 rw [Bool.and_eq_true,decide_eq_true_eq,List.all_eq_true] at h
 exact ⟨h.1,fun x hx=>by simpa using h.2 x hx⟩
theorem XC (l: List Fd) (name: aa): rM (aN l name)=true:=by
 unfold rM
 rw [PN (by have:=(fP l name).1;omega),Bool.true_and,List.all_eq_true]
 exact fun x hx=>dT' (yh l name x hx)
theorem yi: Sound Kx 185 ahL:=by
 refine (HQ (φ:=fun ws name=> .ite (rM ws) (.ret (.tup [.str (eu ws name).1, .bool (eu ws name).2]) []) .fail) (fun ws _=>ws.length + 1) fun ws name r h=>?_).of fun args objs r h=>?_
 · obtain ⟨h1,h2⟩:=ai h
   cases h2
   obtain ⟨g1,g2⟩:=SU h1
   unfold yf
   exact HR ws g1 name _ _ (fun p=>some (.tup [.str p.1, .bool p.2],[])) (fun _=>rfl) rfl ws 0 _ (At.start _) (by omega) g2
 · unfold ahL at h;split at h
   · exact h
   · cases h
def aeJ: SC:=[⟨185,_,yi⟩,⟨186,_,OG⟩]
def HS (w: List aa) (name: aa) (a b: Int): Br:=(.ite (rM w) (.ite (!(eu w name).2) (.ret (AV.int .i64 (-1)) []) (.ite (isM (eu w name).1) (.ite (cJ (eu w name).1).2 (.ret (AV.int .i64 (cJ (eu w name).1).1) []) (.ite (decide ((eu w name).1=([]: aa))) (.ret (AV.int .i64 a) []) (.ret (AV.int .i64 b) []))) .fail)) .fail)
def Z_: List AV→List Ob→Br
 | [.sh .str w, .str name, .int .i64 a, .int .i64 b],[]=>HS w name a b
 | _,_=> .fail
theorem snum_ok: Sound Kx 109 Z_:=ae (C:=aeJ) (O:=O0) Tryz.func109 (by kernel_rfl) fun args objs=>by
 unfold Z_;split
 · exact .inr (by kernel_rfl)
 · exact .inl rfl
def abX: SC:=[⟨185,_,yi⟩]
def XD (w: List aa) (name: aa): Br:=(.ite (rM w) (.ret (AV.bool (eu w name).2) []) .fail)
def SV: List AV→List Ob→Br
 | [.sh .str w, .str name],[]=>XD w name
 | _,_=> .fail
theorem XE: Sound Kx 108 SV:=ae (C:=abX) (O:=O0) Tryz.func108 (by kernel_rfl) fun args objs=>by
 unfold SV;split
 · exact .inr (by kernel_rfl)
 · exact .inl rfl
def wH (ws: List aa) (n: aa) (a b: Int): Int:=bif (eu ws n).2 then (bif (cJ (eu ws n).1).2 then (cJ (eu ws n).1).1 else bif decide ((eu ws n).1=[]) then a else b) else -1
theorem XF {w: aa} (h: w.length≤4000): (aY w).2.length≤4000:=by
 unfold aY
 refine ST _ ?_
 have:=il (w.drop ((an w 61).length + 1))
 rw [List.length_drop] at this
 omega
theorem SW (n: aa): ∀ (ws: List aa),(∀ x ∈ ws,x.length≤4000)→(eu ws n).1.length≤4000
 | [],_=>by simp [eu]
 | w::r,h=>by
   rw [kK]
   cases decide ((aY w).1=n)
   · exact SW n r fun x hx=>h x (List.mem_cons_of_mem _ hx)
   · exact XF (h w (List.mem_cons_self ..))
def ahM: List AV→List Ob→Br
 | [.sh .str ws, .str name, .int .i64 a, .int .i64 b],[]=> .ite (rM ws) (.ret (.int .i64 (wH ws name a b)) []) .fail
 | _,_=> .fail
theorem XG: Sound Kx 109 ahM:=snum_ok.of fun args objs r h=>by
 unfold ahM at h
 split at h
 case h_2=>cases h
 rename_i ws name a b
 obtain ⟨h1,h2⟩:=ai h
 cases h2
 show (HS ws name a b).val=_
 have hm: isM (eu ws name).1=true:=bn (SW name ws (SU h1).2)
 unfold HS wH
 refine (bv h1).trans ?_
 cases (eu ws name).2
 · rfl
 · refine (eH rfl).trans ((bv hm).trans ?_)
   cases (cJ (eu ws name).1).2 <;> cases decide ((eu ws name).1=[]) <;> rfl
def uZ: Opt:={ live:=[(12,[2,4,7,8])],outs:=[(12,[2,4])],split:=true }
def sReadDirs_C: SC:=[⟨89,_,xX⟩,⟨109,_,XG⟩,⟨108,_,XE⟩,⟨82,_,Ld⟩,⟨91,_,ik⟩]
def fS (qa: Int) (BQ BR BS BT BU BV: Bool) (BW BX BY oG: Int) (oH rC oI oJ oK oL: Bool) (oM oN oO oP: Int) (ju: (List aa)) (ail: Int→Bool→Bool→Bool→Bool→Bool→Bool→Int→Int→Int→Int→Bool→Bool→Bool→Bool→Bool→Bool→Int→Int→Int→Int→(List aa)→OR') (Zb: Bool→Bool→Bool→Bool→Bool→Bool→Int→Int→Int→Int→Bool→Bool→Bool→Bool→Bool→Bool→Int→Int→Int→Int→OR'): OR':=
 (bif (decide (qa < (ju.length: Int))) then (bif rC then (ail (ad (qa + 1)) BQ BR BS BT BU BV BW BX BY oG oH true oI oJ oK oL oM oN oO oP ju) else (bif (decide (0≤qa)) then (bif (decide (qa < (ju.length: Int))) then (bif (isM (List.getD ju (Int.toNat qa) ([]: aa))) then (ail (ad (qa + 1)) BQ BR BS BT BU BV BW BX BY oG oH (decide ((ay (List.getD ju (Int.toNat qa) ([]: aa)))=([110,111,45,99,97,99,104,101]: aa))) oI oJ oK oL oM oN oO oP ju) else none) else none) else none)) else (Zb BQ BR BS BT BU BV BW BX BY oG oH rC oI oJ oK oL oM oN oO oP))
def cR: Nat→Int→Bool→Bool→Bool→Bool→Bool→Bool→Int→Int→Int→Int→Bool→Bool→Bool→Bool→Bool→Bool→Int→Int→Int→Int→(List aa)→(Bool→Bool→Bool→Bool→Bool→Bool→Int→Int→Int→Int→Bool→Bool→Bool→Bool→Bool→Bool→Int→Int→Int→Int→OR')→OR'
 | 0,_,_,_,_,_,_,_,_,_,_,_,_,_,_,_,_,_,_,_,_,_,_,_=>none
 | n + 1,qa,BQ,BR,BS,BT,BU,BV,BW,BX,BY,oG,oH,rC,oI,oJ,oK,oL,oM,oN,oO,oP,ju,Zb=>fS qa BQ BR BS BT BU BV BW BX BY oG oH rC oI oJ oK oL oM oN oO oP ju (fun qa BQ BR BS BT BU BV BW BX BY oG oH rC oI oJ oK oL oM oN oO oP ju=>cR n qa BQ BR BS BT BU BV BW BX BY oG oH rC oI oJ oK oL oM oN oO oP ju Zb) Zb
abbrev sReadDirs_p12: SP:=⟨68,[2,4,7,8],[(.v (.ptr 192 0)),(.v (.ptr 320 0)),(.v (.ref 512 0)),(.v (.i .i64))],[(192, .var [.b, .b, .b, .b, .b, .b,(.i .i64),(.i .i64),(.i .i64),(.i .i64)]),(320, .var [.b, .b, .b, .b, .b, .b,(.i .i64),(.i .i64),(.i .i64),(.i .i64)]),(512, .arr Ty.str 0 false)]⟩
noncomputable def nT: Code:=aC (aG Tryz.f40) [1,1,1,1,1,1,1,1,0,1,1,0,1,1,0,0]
def nU (f: (Bool→Bool→Bool→Bool→Bool→Bool→Int→Int→Int→Int→Bool→Bool→Bool→Bool→Bool→Bool→Int→Int→Int→Int→OR')→OR') (k: KT): OR':=f (fun IV IW IX IY IZ I0 I1 I3 I4 I5 oQ oR oS oT oU oV oW oX oY oZ=>k (Ex.exit 0) ((St.mk (aF 0 68 [(2,(AV.ptr 192 0)),(4,(AV.ptr 320 0))]) ((192,(Ob.var [.bool IV,.bool IW,.bool IX,.bool IY,.bool IZ,.bool I0,.int .i64 I1,.int .i64 I3,.int .i64 I4,.int .i64 I5]))::((320,(Ob.var [.bool oQ,.bool oR,.bool oS,.bool oT,.bool oU,.bool oV,.int .i64 oW,.int .i64 oX,.int .i64 oY,.int .i64 oZ]))::([]: (List (Nat×(Ob)))))))))
def nV (n: Nat) (d: sReadDirs_p12.D): KT→OR':=nU (cR n d.1.2.2.2.1 d.2.1.1 d.2.1.2.1 d.2.1.2.2.1 d.2.1.2.2.2.1 d.2.1.2.2.2.2.1 d.2.1.2.2.2.2.2.1 d.2.1.2.2.2.2.2.2.1 d.2.1.2.2.2.2.2.2.2.1 d.2.1.2.2.2.2.2.2.2.2.1 d.2.1.2.2.2.2.2.2.2.2.2.1 d.2.2.1.1 d.2.2.1.2.1 d.2.2.1.2.2.1 d.2.2.1.2.2.2.1 d.2.2.1.2.2.2.2.1 d.2.2.1.2.2.2.2.2.1 d.2.2.1.2.2.2.2.2.2.1 d.2.2.1.2.2.2.2.2.2.2.1 d.2.2.1.2.2.2.2.2.2.2.2.1 d.2.2.1.2.2.2.2.2.2.2.2.2.1 d.2.2.2.1)
def u4 (N: Nat): Lam:=bH [⟨12,sReadDirs_p12,nV N⟩]
theorem wI (N: Nat): OkL Kx sReadDirs_C.s uZ 0 N (u4 N) nT:=okL sReadDirs_p12 (nV) (fun d kR=>nU (fS d.1.2.2.2.1 d.2.1.1 d.2.1.2.1 d.2.1.2.2.1 d.2.1.2.2.2.1 d.2.1.2.2.2.2.1 d.2.1.2.2.2.2.2.1 d.2.1.2.2.2.2.2.2.1 d.2.1.2.2.2.2.2.2.2.1 d.2.1.2.2.2.2.2.2.2.2.1 d.2.1.2.2.2.2.2.2.2.2.2.1 d.2.2.1.1 d.2.2.1.2.1 d.2.2.1.2.2.1 d.2.2.1.2.2.2.1 d.2.2.1.2.2.2.2.1 d.2.2.1.2.2.2.2.2.1 d.2.2.1.2.2.2.2.2.2.1 d.2.2.1.2.2.2.2.2.2.2.1 d.2.2.1.2.2.2.2.2.2.2.2.1 d.2.2.1.2.2.2.2.2.2.2.2.2.1 d.2.2.2.1 (fun qa BQ BR BS BT BU BV BW BX BY oG oH rC oI oJ oK oL oM oN oO oP ju=>kR (((),(),(),qa,()),((BQ,BR,BS,BT,BU,BV,BW,BX,BY,oG,()),(oH,rC,oI,oJ,oK,oL,oM,oN,oO,oP,()),ju,()))))) (fun _ _=>by kernel_rfl) (fun _ _ _=>by kernel_rfl) (fun _ _=>by kernel_rfl) (fun _ _ _ _=>by kernel_rfl) (al (l':=[]) (by kernel_rfl) trivial)
abbrev aj (l):=(aN l ([99,97,99,104,101,45,99,111,110,116,114,111,108]: aa))
abbrev fm (l):=(wH (aj l) ([109,105,110,45,102,114,101,115,104]: aa) 2147483648 2147483648)
abbrev fp (l):=(eu (aj l) ([111,110,108,121,45,105,102,45,99,97,99,104,101,100]: aa))
abbrev fq (l):=(wH (aj l) ([109,97,120,45,115,116,97,108,101]: aa) 2147483648 0)
def nW (N: Nat) (l: List Fd): OR':=(bif (rM (aj l)) then (bif (rM (aj l)) then (bif (rM (aj l)) then (bif (rM (aj l)) then (bif (rM (aj l)) then (bif (rM (aj l)) then (bif (eu (aj l) ([109,117,115,116,45,114,101,118,97,108,105,100,97,116,101]: aa)).2 then (bif (rM (aj l)) then (bif (rM (aj l)) then (bif (rM (aj l)) then (bif (rM (aj l)) then (bif (!(eq l ([99,97,99,104,101,45,99,111,110,116,114,111,108]: aa))) then (cR N 0 false false false false false false 0 0 0 0 (eu (aj l) ([110,111,45,115,116,111,114,101]: aa)).2 (eu (aj l) ([110,111,45,99,97,99,104,101]: aa)).2 (eu (aj l) ([112,114,105,118,97,116,101]: aa)).2 (eu (aj l) ([112,117,98,108,105,99]: aa)).2 true (fp l).2 (wH (aj l) ([109,97,120,45,97,103,101]: aa) 0 0) (wH (aj l) ([115,45,109,97,120,97,103,101]: aa) 0 0) (fq l) (fm l) (aN l ([112,114,97,103,109,97]: aa)) (fun IV IW IX IY IZ I0 I1 I3 I4 I5 oQ oR oS oT oU oV oW oX oY oZ=>(some ((AV.agg [.bool oQ,.bool oR,.bool oS,.bool oT,.bool oU,.bool oV,.int .i64 oW,.int .i64 oX,.int .i64 oY,.int .i64 oZ]),[])))) else (some ((AV.agg [.bool (eu (aj l) ([110,111,45,115,116,111,114,101]: aa)).2,.bool (eu (aj l) ([110,111,45,99,97,99,104,101]: aa)).2,.bool (eu (aj l) ([112,114,105,118,97,116,101]: aa)).2,.bool (eu (aj l) ([112,117,98,108,105,99]: aa)).2,.bool true,.bool (fp l).2,.int .i64 (wH (aj l) ([109,97,120,45,97,103,101]: aa) 0 0),.int .i64 (wH (aj l) ([115,45,109,97,120,97,103,101]: aa) 0 0),.int .i64 (fq l),.int .i64 (fm l)]),[]))) else none) else none) else none) else none) else (bif (rM (aj l)) then (bif (rM (aj l)) then (bif (rM (aj l)) then (bif (rM (aj l)) then (bif (rM (aj l)) then (bif (!(eq l ([99,97,99,104,101,45,99,111,110,116,114,111,108]: aa))) then (cR N 0 false false false false false false 0 0 0 0 (eu (aj l) ([110,111,45,115,116,111,114,101]: aa)).2 (eu (aj l) ([110,111,45,99,97,99,104,101]: aa)).2 (eu (aj l) ([112,114,105,118,97,116,101]: aa)).2 (eu (aj l) ([112,117,98,108,105,99]: aa)).2 (eu (aj l) ([112,114,111,120,121,45,114,101,118,97,108,105,100,97,116,101]: aa)).2 (fp l).2 (wH (aj l) ([109,97,120,45,97,103,101]: aa) 0 0) (wH (aj l) ([115,45,109,97,120,97,103,101]: aa) 0 0) (fq l) (fm l) (aN l ([112,114,97,103,109,97]: aa)) (fun IV IW IX IY IZ I0 I1 I3 I4 I5 oQ oR oS oT oU oV oW oX oY oZ=>(some ((AV.agg [.bool oQ,.bool oR,.bool oS,.bool oT,.bool oU,.bool oV,.int .i64 oW,.int .i64 oX,.int .i64 oY,.int .i64 oZ]),[])))) else (some ((AV.agg [.bool (eu (aj l) ([110,111,45,115,116,111,114,101]: aa)).2,.bool (eu (aj l) ([110,111,45,99,97,99,104,101]: aa)).2,.bool (eu (aj l) ([112,114,105,118,97,116,101]: aa)).2,.bool (eu (aj l) ([112,117,98,108,105,99]: aa)).2,.bool (eu (aj l) ([112,114,111,120,121,45,114,101,118,97,108,105,100,97,116,101]: aa)).2,.bool (fp l).2,.int .i64 (wH (aj l) ([109,97,120,45,97,103,101]: aa) 0 0),.int .i64 (wH (aj l) ([115,45,109,97,120,97,103,101]: aa) 0 0),.int .i64 (fq l),.int .i64 (fm l)]),[]))) else none) else none) else none) else none) else none)) else none) else none) else none) else none) else none) else none)
def nX (φ: (List Fd)→Br): List AV→List Ob→Br
 | [.sh (.pair .str .str) l],[]=>φ l
 | _,_=> .fail
theorem wJ {φ: (List Fd)→Br} (fu: (List Fd)→Nat) (hv: ∀ l res_,(φ l).val=some res_→nW (fu l) l=some res_): Sound Kx 40 (nX φ):=ap (C:=sReadDirs_C) (O:=uZ) Tryz.func40 (by kernel_rfl) fun args objs=>by
 unfold nX;split
 · rename_i l;exact .inr fun _ hyp_=>aO (Λ:=u4 (fu l)) (by kernel_rfl) (al (l':=[nT]) (by kernel_rfl) ⟨wI _,trivial⟩) (by kernel_rfl) (hv l _ hyp_)
 · exact .inl rfl
theorem ahN (b: Bool) (x y: Dr): (bif b then x else y).ns=bif b then x.ns else y.ns:=by cases b <;> rfl
theorem ahO (b: Bool) (x y: Dr): (bif b then x else y).nc=bif b then x.nc else y.nc:=by cases b <;> rfl
theorem ahP (b: Bool) (x y: Dr): (bif b then x else y).pr=bif b then x.pr else y.pr:=by cases b <;> rfl
theorem ahQ (b: Bool) (x y: Dr): (bif b then x else y).pu=bif b then x.pu else y.pu:=by cases b <;> rfl
theorem ag3 (b: Bool) (x y: Dr): (bif b then x else y).mr=bif b then x.mr else y.mr:=by cases b <;> rfl
theorem ahR (b: Bool) (x y: Dr): (bif b then x else y).oc=bif b then x.oc else y.oc:=by cases b <;> rfl
theorem ahS (b: Bool) (x y: Dr): (bif b then x else y).ma=bif b then x.ma else y.ma:=by cases b <;> rfl
theorem ahT (b: Bool) (x y: Dr): (bif b then x else y).sm=bif b then x.sm else y.sm:=by cases b <;> rfl
theorem ahU (b: Bool) (x y: Dr): (bif b then x else y).ms=bif b then x.ms else y.ms:=by cases b <;> rfl
theorem ahV (b: Bool) (x y: Dr): (bif b then x else y).mf=bif b then x.mf else y.mf:=by cases b <;> rfl
theorem aiv (d: Dr) (w: aa): (ce d w).ns=(d.ns||decide ((aY w).1=kNs)):=by
 by_cases h: (aY w).1=kNs
 · unfold ce;rw [h];simp only [ahN,decide_true,cond_true,Bool.or_true,Bool.true_or] <;> rfl
 · unfold ce;simp only [ahN,dF' h,cond_false,cond_self,Bool.or_false]
theorem aiw (d: Dr) (w: aa): (ce d w).nc=(d.nc||decide ((aY w).1=kNc)):=by
 by_cases h: (aY w).1=kNc
 · unfold ce;rw [h];simp only [ahO,decide_true,cond_true,Bool.or_true,Bool.true_or] <;> rfl
 · unfold ce;simp only [ahO,dF' h,cond_false,cond_self,Bool.or_false]
theorem aix (d: Dr) (w: aa): (ce d w).pr=(d.pr||decide ((aY w).1=kPr)):=by
 by_cases h: (aY w).1=kPr
 · unfold ce;rw [h];simp only [ahP,decide_true,cond_true,Bool.or_true,Bool.true_or] <;> rfl
 · unfold ce;simp only [ahP,dF' h,cond_false,cond_self,Bool.or_false]
theorem aiy (d: Dr) (w: aa): (ce d w).pu=(d.pu||decide ((aY w).1=kPu)):=by
 by_cases h: (aY w).1=kPu
 · unfold ce;rw [h];simp only [ahQ,decide_true,cond_true,Bool.or_true,Bool.true_or] <;> rfl
 · unfold ce;simp only [ahQ,dF' h,cond_false,cond_self,Bool.or_false]
theorem aiz (d: Dr) (w: aa): (ce d w).oc=(d.oc||decide ((aY w).1=kOc)):=by
 by_cases h: (aY w).1=kOc
 · unfold ce;rw [h];simp only [ahR,decide_true,cond_true,Bool.or_true,Bool.true_or] <;> rfl
 · unfold ce;simp only [ahR,dF' h,cond_false,cond_self,Bool.or_false]
theorem aiA (d: Dr) (w: aa): (ce d w).mr=(d.mr||(decide ((aY w).1=kMr)||decide ((aY w).1=kPx))):=by
 by_cases h: (aY w).1=kMr
 · unfold ce;rw [h];simp only [ag3,decide_true,cond_true,Bool.or_true,Bool.true_or] <;> rfl
 · by_cases h2: (aY w).1=kPx
   · unfold ce;rw [h2];simp only [ag3,decide_true,cond_true,Bool.or_true,Bool.true_or] <;> rfl
   · unfold ce;simp only [ag3,dF' h,dF' h2,cond_false,cond_self,Bool.or_false]
theorem aiB (d: Dr) (w: aa): (ce d w).ma=bif decide ((aY w).1=kMa) then la d.ma (orP (aY w).2 0) else d.ma:=by
 by_cases h: (aY w).1=kMa
 · unfold ce;rw [h];simp only [ahS,decide_true,cond_true,Bool.or_true,Bool.true_or] <;> rfl
 · unfold ce;simp only [ahS,dF' h,cond_false,cond_self]
theorem aiC (d: Dr) (w: aa): (ce d w).sm=bif decide ((aY w).1=kSm) then la d.sm (orP (aY w).2 0) else d.sm:=by
 by_cases h: (aY w).1=kSm
 · unfold ce;rw [h];simp only [ahT,decide_true,cond_true,Bool.or_true,Bool.true_or] <;> rfl
 · unfold ce;simp only [ahT,dF' h,cond_false,cond_self]
theorem aiD (d: Dr) (w: aa): (ce d w).ms=bif decide ((aY w).1=kMs) then la d.ms (bif decide ((aY w).2=[]) then 2147483648 else orP (aY w).2 0) else d.ms:=by
 by_cases h: (aY w).1=kMs
 · unfold ce;rw [h];simp only [ahU,decide_true,cond_true]
   cases decide ((aY w).2=[]) <;> rfl
 · unfold ce;simp only [ahU,dF' h,cond_false,cond_self]
theorem aiE (d: Dr) (w: aa): (ce d w).mf=bif decide ((aY w).1=kMf) then la d.mf (orP (aY w).2 2147483648) else d.mf:=by
 by_cases h: (aY w).1=kMf
 · unfold ce;rw [h];simp only [ahV,decide_true,cond_true,Bool.or_true,Bool.true_or] <;> rfl
 · unfold ce;simp only [ahV,dF' h,cond_false,cond_self]
theorem yj (get: Dr→Bool) (k: aa) (h: ∀ d w,get (ce d w)=(get d||decide ((aY w).1=k))): ∀ (ws: List aa) (d: Dr),get (ws.foldl ce d)=(get d||(eu ws k).2)
 | [],d=>by simp [eu]
 | w::r,d=>by
   rw [List.foldl_cons,yj get k h r,h,kK]
   cases decide ((aY w).1=k) <;> simp
theorem SX (get: Dr→Bool) (k k': aa) (h: ∀ d w,get (ce d w)=(get d||(decide ((aY w).1=k)||decide ((aY w).1=k')))): ∀ (ws: List aa) (d: Dr),get (ws.foldl ce d)=(get d||((eu ws k).2||(eu ws k').2))
 | [],d=>by simp [eu]
 | w::r,d=>by
   rw [List.foldl_cons,SX get k k' h r,h,kK,kK]
   cases decide ((aY w).1=k) <;> cases decide ((aY w).1=k') <;> simp
theorem EO: ∀ (r: aa) (n: Int),0≤n→n≤2147483648→aP aB r=true→0≤EB r n
 | [],n,h,_,_=>h
 | a::r,n,h0,h1,ha=>by
   have hall: aP aB (a::r)=(aB (by8 a)&&aP aB r):=rfl
   rw [hall,Bool.and_eq_true] at ha
   have:=Au h0 h1 ha.1
   exact EO r (nK n a) this.1 this.2 ha.2
theorem XH (s: aa): 0≤(cJ s).1:=by
 unfold cJ
 cases decide (s=[])
 · cases ha: aP aB s
   · exact Int.le_refl 0
   · exact EO s 0 (by decide) (by decide) ha
 · exact Int.le_refl 0
theorem SY (get: Dr→Int) (k: aa) (a b: Int) (v: aa→Int) (h: ∀ d w,get (ce d w)=bif decide ((aY w).1=k) then la (get d) (v w) else get d) (ha: 0≤a) (hb: 0≤b)
 (hv: ∀ w,v w=bif (cJ (aY w).2).2 then (cJ (aY w).2).1 else bif decide ((aY w).2=[]) then a else b): ∀ (ws: List aa) (d: Dr), -1≤get d→get (ws.foldl ce d)=la (get d) (wH ws k a b)
 | [],d,hd=>by
   have e: wH [] k a b= -1:=rfl
   rw [List.foldl_nil,e]
   unfold la
   by_cases c: get d < 0
   · rw [dT' c,cond_true];omega
   · rw [dF' c,cond_false]
 | w::r,d,hd=>by
   have hp: 0≤v w:=by
    rw [hv]
    cases (cJ (aY w).2).2
    · cases decide ((aY w).2=[])
      · exact hb
      · exact ha
    · exact XH _
   have hn: wH (w::r) k a b=bif decide ((aY w).1=k) then v w else wH r k a b:=by
    unfold wH
    rw [kK,hv]
    cases decide ((aY w).1=k) <;> rfl
   have hs: get (ce d w)=bif decide ((aY w).1=k) then la (get d) (v w) else get d:=h d w
   have hd': -1≤get (ce d w):=by
    rw [hs]
    cases decide ((aY w).1=k)
    · exact hd
    · unfold la
      cases decide (get d < 0)
      · exact hd
      · show -1≤v w;omega
   rw [List.foldl_cons,SY get k a b v h ha hb hv r _ hd',hs,hn]
   cases decide ((aY w).1=k)
   · rfl
   · simp only [cond_true]
     unfold la
     by_cases c: get d < 0
     · simp only [dT' c,cond_true]
       rw [dF' (by omega: ¬ v w < 0),cond_false]
     · simp only [dF' c,cond_false]
theorem SZ (v: aa) (n: Int): orP v n=bif (cJ v).2 then (cJ v).1 else bif decide (v=[]) then n else n:=by unfold orP;rw [cond_self]
theorem aeK (v: aa): (bif decide (v=[]) then 2147483648 else orP v 0)=bif (cJ v).2 then (cJ v).1 else bif decide (v=[]) then 2147483648 else 0:=by
 by_cases h: v=[]
 · subst h;rfl
 · rw [dF' h];rfl
def EP (ws: List aa): Dr:=⟨(eu ws kNs).2,(eu ws kNc).2,(eu ws kPr).2,(eu ws kPu).2,(eu ws kMr).2||(eu ws kPx).2,(eu ws kOc).2,wH ws kMa 0 0,wH ws kSm 0 0,wH ws kMs 2147483648 0,wH ws kMf 2147483648 2147483648⟩
theorem ag4 {x y: Dr} (h1: x.ns=y.ns) (h2: x.nc=y.nc) (h3: x.pr=y.pr) (h4: x.pu=y.pu) (h5: x.mr=y.mr) (h6: x.oc=y.oc) (h7: x.ma=y.ma) (h8: x.sm=y.sm) (h9: x.ms=y.ms) (h10: x.mf=y.mf): x=y:=by
 cases x;cases y;simp_all
theorem S0 (ws: List aa): ws.foldl ce d0=EP ws:=by
 refine ag4 ?_ ?_ ?_ ?_ ?_ ?_ ?_ ?_ ?_ ?_
 · rw [yj Dr.ns kNs aiv];rfl
 · rw [yj Dr.nc kNc aiw];rfl
 · rw [yj Dr.pr kPr aix];rfl
 · rw [yj Dr.pu kPu aiy];rfl
 · rw [SX Dr.mr kMr kPx aiA];rfl
 · rw [yj Dr.oc kOc aiz];rfl
 · rw [SY Dr.ma kMa 0 0 (fun w=>orP (aY w).2 0) aiB (by decide) (by decide) (fun w=>SZ _ _) ws d0 (by decide)];rfl
 · rw [SY Dr.sm kSm 0 0 (fun w=>orP (aY w).2 0) aiC (by decide) (by decide) (fun w=>SZ _ _) ws d0 (by decide)];rfl
 · rw [SY Dr.ms kMs 2147483648 0 (fun w=>bif decide ((aY w).2=[]) then 2147483648 else orP (aY w).2 0) aiD (by decide) (by decide) (fun w=>aeK _) ws d0 (by decide)];rfl
 · rw [SY Dr.mf kMf 2147483648 2147483648 (fun w=>orP (aY w).2 2147483648) aiE (by decide) (by decide) (fun w=>SZ _ _) ws d0 (by decide)];rfl
theorem XI {l: List Fd} (h: cw l=false) (name: aa): aN l name=[]:=by
 unfold aN fC fi
 rw [h];rfl
theorem abY (l: List Fd): bf l=bif !eq l nCc then { EP (aN l nCc) with nc:=(EP (aN l nCc)).nc||(aN l nPg).any fun x=>decide (ay x=kNc) } else EP (aN l nCc):=by
 unfold bf
 rw [S0]
 cases hf: cw l
 · rw [XI hf nPg]
   simp only [Bool.false_and,cond_false,List.any_nil,Bool.or_false]
   exact (cond_self _ _).symm
 · rfl
theorem wK (t1 t2 t3 t4 t5 t6: Bool) (n1 n2 n3 n4: Int) (ws: List aa) (hl: ws.length≤100000) (k: Bool→Bool→Bool→Bool→Bool→Bool→Int→Int→Int→Int→Bool→Bool→Bool→Bool→Bool→Bool→Int→Int→Int→Int→OR') (K: Dr→OR')
 (hk: ∀ a b c d e f g h i j,k t1 t2 t3 t4 t5 t6 n1 n2 n3 n4 a b c d e f g h i j=K ⟨a,b,c,d,e,f,g,h,i,j⟩): ∀ (r: List aa) (i: Int) (n: Nat) (a b c d e f: Bool) (g h u v: Int),At ws i r→r.length < n→(∀ x ∈ r,isM x=true)→
 cR n i t1 t2 t3 t4 t5 t6 n1 n2 n3 n4 a b c d e f g h u v ws k=K ⟨a,b||r.any fun x=>decide (ay x=kNc),c,d,e,f,g,h,u,v⟩:=by
 intro r;induction r with
 | nil=>intro i n a b c d e f g h u v hat hn hf;obtain ⟨n,rfl⟩:=bL hn;unfold cR fS;simp only [hat.dge,cond_false,hk,List.any_nil,Bool.or_false]
 | cons w r ih=>
   intro i n a b c d e f g h u v hat hn hf;obtain ⟨n,rfl⟩:=bL hn
   simp only [List.length_cons] at hn
   have hG:=fun b=>ih (i + 1) n a b c d e f g h u v hat.step (by omega) fun x hx=>hf x (List.mem_cons_of_mem _ hx)
   unfold cR fS
   simp only [hat.dlt,hat.dnn,hat.get,hat.next (by omega),hf w (List.mem_cons_self ..),hG,cond_true,List.any_cons]
   show (bif b then _ else K ⟨a,decide (ay w=kNc)||_,c,d,e,f,g,h,u,v⟩)=_
   cases b
   · rw [cond_false];simp only [Bool.false_or]
   · rw [cond_true];simp only [Bool.true_or]
theorem nY: Sound Kx 40 (ZP fun l=>drA (bf l)):=by
 refine (wJ (φ:=fun l=> .ret (drA (bf l)) []) (fun l=>(aN l nPg).length + 1) fun l r h=>?_).of fun args objs r h=>?_
 · cases h
   obtain ⟨h2,h3⟩:=fP l nPg
   have hw: rM (aN l [99,97,99,104,101,45,99,111,110,116,114,111,108])=true:=XC l nCc
   have big:=fun (a b c d e f: Bool) (g h u v: Int)=>wK false false false false false false 0 0 0 0 (aN l nPg) (by omega) (fun _ _ _ _ _ _ _ _ _ _ a b c d e f g h i j=>some (drA ⟨a,b,c,d,e,f,g,h,i,j⟩,[])) (fun d=>some (drA d,[])) (fun _ _ _ _ _ _ _ _ _ _=>rfl) (aN l nPg) 0 ((aN l nPg).length + 1) a b c d e f g h u v (At.start _) (by omega) h3
   rw [abY]
   unfold nW fq fp fm aj
   simp only [hw,cond_true]
   cases hm: (eu (aN l nCc) kMr).2
   · have hm': (eu (aN l [99,97,99,104,101,45,99,111,110,116,114,111,108]) [109,117,115,116,45,114,101,118,97,108,105,100,97,116,101]).2=false:=hm
     simp only [hm',cond_false]
     cases hh: eq l nCc
     · have hh': eq l [99,97,99,104,101,45,99,111,110,116,114,111,108]=false:=hh
       simp only [hh',Bool.not_false,cond_true]
       unfold EP
       rw [hm]
       exact big _ _ _ _ _ _ _ _ _ _
     · have hh': eq l [99,97,99,104,101,45,99,111,110,116,114,111,108]=true:=hh
       simp only [hh',Bool.not_true,cond_false]
       unfold EP
       rw [hm]
       rfl
   · have hm': (eu (aN l [99,97,99,104,101,45,99,111,110,116,114,111,108]) [109,117,115,116,45,114,101,118,97,108,105,100,97,116,101]).2=true:=hm
     simp only [hm',cond_true]
     cases hh: eq l nCc
     · have hh': eq l [99,97,99,104,101,45,99,111,110,116,114,111,108]=false:=hh
       simp only [hh',Bool.not_false,cond_true]
       unfold EP
       rw [hm]
       exact big _ _ _ _ _ _ _ _ _ _
     · have hh': eq l [99,97,99,104,101,45,99,111,110,116,114,111,108]=true:=hh
       simp only [hh',Bool.not_true,cond_false]
       unfold EP
       rw [hm]
       rfl
 · unfold ZP at h;split at h
   · exact h
   · cases h
def HT: Opt:={ split:=true }
def HU: SC:=[⟨101,_,xS⟩,⟨102,_,AA⟩,⟨92,_,Em⟩,⟨103,_,LX⟩,⟨85,_,sn⟩,⟨104,_,EJ⟩]
def jU (me ta: aa) (st: Int) (re: aa) (ba: Bool) (fs: List Fd) (bo: aa) (me2 ta2: aa) (st2: Int) (re2: aa) (ba2: Bool) (fs2: List Fd) (bo2: aa): Br:=(.ite (!(dc me ta st re ba fs bo)) (.ret (AV.bool false) []) (.ite (!(dc me2 ta2 st2 re2 ba2 fs2 bo2)) (.ret (AV.bool false) []) (.ite (!(decide (me=([71,69,84]: aa)))) (.ret (AV.bool false) []) (.ite (!(decide (me2=([]: aa)))) (.ret (AV.bool false) []) (.ite ba2 (.ret (AV.bool false) []) (.ite (decide (st2=206)) (.ret (AV.bool false) []) (.ite (bf fs2).1 (.ret (AV.bool false) []) (.ite (bf fs).1 (.ret (AV.bool false) []) (.ite (bf fs2).3 (.ret (AV.bool false) []) (.ite (decide ((List.length (fQ fs2))≤1000000)) (.ite (inP (fQ fs2) ([42]: aa)) (.ret (AV.bool false) []) (.ite (eq fs ([97,117,116,104,111,114,105,122,97,116,105,111,110]: aa)) (.ite (!(bf fs2).4) (.ite (!(bf fs2).5) (.ite (decide ((bf fs2).8 < 0)) (.ret (AV.bool false) []) (.ite (LZ st2) (.ret (AV.bool true) []) (.ite (bf fs2).4 (.ret (AV.bool true) []) (.ite (decide (0≤(bf fs2).7)) (.ret (AV.bool true) []) (.ite (decide (0≤(bf fs2).8)) (.ret (AV.bool true) []) (.ret (AV.bool (eq fs2 ([101,120,112,105,114,101,115]: aa))) [])))))) (.ite (LZ st2) (.ret (AV.bool true) []) (.ite (bf fs2).4 (.ret (AV.bool true) []) (.ite (decide (0≤(bf fs2).7)) (.ret (AV.bool true) []) (.ite (decide (0≤(bf fs2).8)) (.ret (AV.bool true) []) (.ret (AV.bool (eq fs2 ([101,120,112,105,114,101,115]: aa))) [])))))) (.ite (LZ st2) (.ret (AV.bool true) []) (.ite (bf fs2).4 (.ret (AV.bool true) []) (.ite (decide (0≤(bf fs2).7)) (.ret (AV.bool true) []) (.ite (decide (0≤(bf fs2).8)) (.ret (AV.bool true) []) (.ret (AV.bool (eq fs2 ([101,120,112,105,114,101,115]: aa))) [])))))) (.ite (LZ st2) (.ret (AV.bool true) []) (.ite (bf fs2).4 (.ret (AV.bool true) []) (.ite (decide (0≤(bf fs2).7)) (.ret (AV.bool true) []) (.ite (decide (0≤(bf fs2).8)) (.ret (AV.bool true) []) (.ret (AV.bool (eq fs2 ([101,120,112,105,114,101,115]: aa))) []))))))) .fail))))))))))
def u5: List AV→List Ob→Br
 | [.agg [.str me, .str ta, .int .i64 st, .str re, .bool ba, .sh (.pair .str .str) fs, .str bo], .agg [.str me2, .str ta2, .int .i64 st2, .str re2, .bool ba2, .sh (.pair .str .str) fs2, .str bo2]],[]=>jU me ta st re ba fs bo me2 ta2 st2 re2 ba2 fs2 bo2
 | _,_=> .fail
theorem iStorable_ok: Sound Kx 38 u5:=ae (C:=HU) (O:=HT) Tryz.func38 (by kernel_rfl) fun args objs=>by
 unfold u5;split
 · exact .inr (by kernel_rfl)
 · exact .inl rfl
def HV: Opt:={ split:=true }
def HW: SC:=[⟨41,_,xU⟩,⟨40,_,nY⟩,⟨34,_,Sw⟩,⟨105,_,Ed⟩,⟨106,_,On⟩,⟨107,_,EK⟩]
def jV (me ta: aa) (st: Int) (re: aa) (ba: Bool) (fs: List Fd) (bo: aa) (me2 ta2: aa) (st2: Int) (re2: aa) (ba2: Bool) (fs2: List Fd) (bo2: aa): Br:=(.ite (!(dc me ta st re ba fs bo)) (.ret (AV.bool false) []) (.ite (!(dc me2 ta2 st2 re2 ba2 fs2 bo2)) (.ret (AV.bool false) []) (.ite (!(decide (me=([71,69,84]: aa)))) (.ret (AV.bool false) []) (.ite (!(decide (me2=([]: aa)))) (.ret (AV.bool false) []) (.ite ba2 (.ret (AV.bool false) []) (.ite (decide (st2=206)) (.ret (AV.bool false) []) (.ite (bf fs2).1 (.ret (AV.bool false) []) (.ite (bf fs2).3 (.ret (AV.bool false) []) (.ite (bf fs).1 (.ret (AV.bool false) []) (.ite (decide ((List.length (fQ fs2))≤1000000)) (.ite (inP (fQ fs2) ([42]: aa)) (.ret (AV.bool false) []) (.ite (eq fs ([97,117,116,104,111,114,105,122,97,116,105,111,110]: aa)) (.ite (!(bf fs2).4) (.ite (!(bf fs2).5) (.ite (decide ((bf fs2).8 < 0)) (.ret (AV.bool false) []) (.ite (LZ st2) (.ret (AV.bool true) []) (.ite (bf fs2).4 (.ret (AV.bool true) []) (.ite (decide (0≤(bf fs2).7)) (.ret (AV.bool true) []) (.ite (decide (0≤(bf fs2).8)) (.ret (AV.bool true) []) (.ret (AV.bool (eq fs2 ([101,120,112,105,114,101,115]: aa))) [])))))) (.ite (LZ st2) (.ret (AV.bool true) []) (.ite (bf fs2).4 (.ret (AV.bool true) []) (.ite (decide (0≤(bf fs2).7)) (.ret (AV.bool true) []) (.ite (decide (0≤(bf fs2).8)) (.ret (AV.bool true) []) (.ret (AV.bool (eq fs2 ([101,120,112,105,114,101,115]: aa))) [])))))) (.ite (LZ st2) (.ret (AV.bool true) []) (.ite (bf fs2).4 (.ret (AV.bool true) []) (.ite (decide (0≤(bf fs2).7)) (.ret (AV.bool true) []) (.ite (decide (0≤(bf fs2).8)) (.ret (AV.bool true) []) (.ret (AV.bool (eq fs2 ([101,120,112,105,114,101,115]: aa))) [])))))) (.ite (LZ st2) (.ret (AV.bool true) []) (.ite (bf fs2).4 (.ret (AV.bool true) []) (.ite (decide (0≤(bf fs2).7)) (.ret (AV.bool true) []) (.ite (decide (0≤(bf fs2).8)) (.ret (AV.bool true) []) (.ret (AV.bool (eq fs2 ([101,120,112,105,114,101,115]: aa))) []))))))) .fail))))))))))
def u6: List AV→List Ob→Br
 | [.agg [.str me, .str ta, .int .i64 st, .str re, .bool ba, .sh (.pair .str .str) fs, .str bo], .agg [.str me2, .str ta2, .int .i64 st2, .str re2, .bool ba2, .sh (.pair .str .str) fs2, .str bo2]],[]=>jV me ta st re ba fs bo me2 ta2 st2 re2 ba2 fs2 bo2
 | _,_=> .fail
theorem sStorable_ok: Sound Kx 39 u6:=ae (C:=HW) (O:=HV) Tryz.func39 (by kernel_rfl) fun args objs=>by
 unfold u6;split
 · exact .inr (by kernel_rfl)
 · exact .inl rfl
def ag5: aa:=[97,117,116,104,111,114,105,122,97,116,105,111,110]
def ag6: aa:=[101,120,112,105,114,101,115]
def L6 (me ta: aa) (st: Int) (re: aa) (ba: Bool) (fs: List Fd) (bo: aa) (me2 ta2: aa) (st2: Int) (re2: aa) (ba2: Bool) (fs2: List Fd) (bo2: aa): Bool:=
 dc me ta st re ba fs bo&&dc me2 ta2 st2 re2 ba2 fs2 bo2&&decide (me=[71,69,84])&&decide (me2=[])&& !ba2&& !decide (st2=206)&& !(bf fs2).ns&& !(bf fs2).pr&& !(bf fs).ns&& !inP (fQ fs2) [42]&&
 !(eq fs ag5&& !(bf fs2).pu&& !(bf fs2).mr&&decide ((bf fs2).sm < 0))&&(LZ st2||(bf fs2).pu||decide (0≤(bf fs2).ma)||decide (0≤(bf fs2).sm)||eq fs2 ag6)
theorem XJ (me ta: aa) (st: Int) (re: aa) (ba: Bool) (fs: List Fd) (bo: aa) (me2 ta2: aa) (st2: Int) (re2: aa) (ba2: Bool) (fs2: List Fd) (bo2: aa):
 (jU me ta st re ba fs bo me2 ta2 st2 re2 ba2 fs2 bo2).val=some (.bool (L6 me ta st re ba fs bo me2 ta2 st2 re2 ba2 fs2 bo2),[]):=by
 have hv: decide ((fQ fs2).length≤1000000)=true:=PN (by have:=Ao fs2;omega)
 unfold jU L6
 rw [hv]
 cases dc me ta st re ba fs bo
 · rfl
 cases dc me2 ta2 st2 re2 ba2 fs2 bo2
 · rfl
 cases decide (me=[71,69,84])
 · rfl
 cases decide (me2=[])
 · rfl
 cases ba2
 case true=>rfl
 cases decide (st2=206)
 case true=>rfl
 cases (bf fs2).ns
 case true=>rfl
 cases (bf fs).ns
 case true=>cases (bf fs2).pr <;> rfl
 cases (bf fs2).pr
 case true=>rfl
 cases inP (fQ fs2) [42]
 case true=>rfl
 unfold ag5 ag6
 cases eq fs [97,117,116,104,111,114,105,122,97,116,105,111,110] <;> cases (bf fs2).pu <;> cases (bf fs2).mr <;> cases decide ((bf fs2).sm < 0) <;> cases LZ st2 <;> cases decide (0≤(bf fs2).ma) <;> cases decide (0≤(bf fs2).sm) <;> rfl
theorem XK (me ta: aa) (st: Int) (re: aa) (ba: Bool) (fs: List Fd) (bo: aa) (me2 ta2: aa) (st2: Int) (re2: aa) (ba2: Bool) (fs2: List Fd) (bo2: aa):
 (jV me ta st re ba fs bo me2 ta2 st2 re2 ba2 fs2 bo2).val=some (.bool (L6 me ta st re ba fs bo me2 ta2 st2 re2 ba2 fs2 bo2),[]):=by
 have hv: decide ((fQ fs2).length≤1000000)=true:=PN (by have:=Ao fs2;omega)
 unfold jV L6
 rw [hv]
 cases dc me ta st re ba fs bo
 · rfl
 cases dc me2 ta2 st2 re2 ba2 fs2 bo2
 · rfl
 cases decide (me=[71,69,84])
 · rfl
 cases decide (me2=[])
 · rfl
 cases ba2
 case true=>rfl
 cases decide (st2=206)
 case true=>rfl
 cases (bf fs2).ns
 case true=>rfl
 cases (bf fs2).pr
 case true=>rfl
 cases (bf fs).ns
 case true=>rfl
 cases inP (fQ fs2) [42]
 case true=>rfl
 unfold ag5 ag6
 cases eq fs [97,117,116,104,111,114,105,122,97,116,105,111,110] <;> cases (bf fs2).pu <;> cases (bf fs2).mr <;> cases decide ((bf fs2).sm < 0) <;> cases LZ st2 <;> cases decide (0≤(bf fs2).ma) <;> cases decide (0≤(bf fs2).sm) <;> rfl
def ags (p: aa→aa→Int→aa→Bool→List Fd→aa→aa→aa→Int→aa→Bool→List Fd→aa→AV): List AV→List Ob→Br
 | [.agg [.str me, .str ta, .int .i64 st, .str re, .bool ba, .sh (.pair .str .str) fs, .str bo], .agg [.str me2, .str ta2, .int .i64 st2, .str re2, .bool ba2, .sh (.pair .str .str) fs2, .str bo2]],[]=> .ret (p me ta st re ba fs bo me2 ta2 st2 re2 ba2 fs2 bo2) []
 | _,_=> .fail
def stA (me ta: aa) (st: Int) (re: aa) (ba: Bool) (fs: List Fd) (bo: aa) (me2 ta2: aa) (st2: Int) (re2: aa) (ba2: Bool) (fs2: List Fd) (bo2: aa): AV:= .bool (L6 me ta st re ba fs bo me2 ta2 st2 re2 ba2 fs2 bo2)
theorem AB: Sound Kx 38 (ags stA):=iStorable_ok.of fun args objs r h=>by
 unfold ags at h
 split at h
 · exact (XJ _ _ _ _ _ _ _ _ _ _ _ _ _ _).trans h
 · cases h
theorem AC: Sound Kx 39 (ags stA):=sStorable_ok.of fun args objs r h=>by
 unfold ags at h
 split at h
 · exact (XK _ _ _ _ _ _ _ _ _ _ _ _ _ _).trans h
 · cases h
end
end Go.Proofs.YtgknmoadpgpdeaaGreatDoor.Ev
