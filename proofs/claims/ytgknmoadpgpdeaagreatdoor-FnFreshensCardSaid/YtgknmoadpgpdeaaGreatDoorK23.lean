/- The texts Pd, one behind the other. -/
import Derived.Test.YtgknmoadpgpdeaaGreatDoorK22
import Derived.Lib.IndexBytes
namespace Go.Proofs.YtgknmoadpgpdeaaGreatDoor.Ev
open Go Go.RowKit
set_option linter.unusedVariables false
set_option linter.unusedSimpArgs false
noncomputable section
theorem Q0 (n: Int) (c: UInt8): (if 10 * n + (by8 c - 48) < 2147483648 then 10 * n + (by8 c - 48) else 2147483648)=w7 n c:=by
 unfold w7
 rw [Int.mul_comm 10 n]
 cases h: decide (2147483648 < n * 10 + (by8 c - 48))
 · have:=of_decide_eq_false h
   rw [cond_false]
   split <;> omega
 · have:=of_decide_eq_true h
   rw [cond_true,if_neg (by omega)]
theorem Gb (s: aa) (hl: s.length≤4611686018427387904) (k0: Int→OR'): ∀ (r: aa) (v i: Int) (n: Nat),At s i r→r.length < n→0≤v→v≤2147483648→aU aJ r=true→
 iS n s v i k0=k0 (Zu r v):=by
 intro r;induction r with
 | nil=>intro v i n h hn h0 h1 ha;obtain ⟨n,rfl⟩:=bF hn;unfold iS nH;simp only [h.dge,cond_false];rfl
 | cons a r ih=>
   intro v i n h hn h0 h1 ha;obtain ⟨n,rfl⟩:=bF hn
   simp only [List.length_cons] at hn
   have hall: aU aJ (a::r)=(aJ (by8 a)&&aU aJ r):=rfl
   rw [hall,Bool.and_eq_true] at ha
   have hb:=Zv ha.1
   have hc:=WV h0 h1 ha.1
   have e1: wk8 (by8 a - 48)=by8 a - 48:=w8 (by omega) (by omega)
   have e2: ai (by8 a - 48)=by8 a - 48:=w64 (by omega) (by omega)
   have e3: ai (10 * v)=10 * v:=w64 (by omega) (by omega)
   have e4: ai (10 * v + (by8 a - 48))=10 * v + (by8 a - 48):=w64 (by omega) (by omega)
   unfold iS nH
   simp only [h.dlt,h.dnn,h.str,cond_true,h.next hl,e1,e2,e3,e4,Q0]
   exact ih _ (i + 1) n h.step (by omega) hc.1 hc.2 ha.2
theorem ac6: Sound Kx 237 aho:=by
 refine (F_ (φ:=fun s=> .ite (isM s) (.ret (.tup [.int .i64 (Da s).1, .bool (Da s).2]) []) .fail) (fun s=>s.length + 1) fun s r h=>?_).of fun args objs r h=>?_
 · obtain ⟨h1,h2⟩:=al h
   cases h2
   unfold w9 Da
   cases c: decide (s=[])
   · simp only [cond_false,h1,cond_true]
     cases ha: aU aJ s
     · rfl
     · simp only [Bool.not_true,cond_false,cond_true]
       exact Gb s (fZ h1) _ s 0 0 _ (At.start s) (by omega) (by omega) (by omega) ha
   · rfl
 · unfold aho at h;split at h
   · exact h
   · cases h
def inI (l: List Int) (x: Int): Bool:=l.any fun a=>decide (a=x)
def ah3: List AV→List Ob→Br
 | [.sh (.int .i64) l, .int .i64 x],[]=> .ite (decide (l.length≤1000000)) (.ret (.bool (inI l x)) []) .fail
 | _,_=> .fail
def aei: List AV→List Ob→Br
 | [.sh .str l, .str x],[]=> .ite (decide (l.length≤1000000)) (.ret (.bool (inP l x)) []) .fail
 | _,_=> .fail
theorem JJ: Sound Kx 103 aei:=conS_ok.of fun args objs r h=>by
 unfold aei at h
 split at h
 · rename_i l x
   obtain ⟨h1,h2⟩:=al h
   cases h2
   show (Ga l x).val=_
   unfold Ga
   rw [Zw x l 0 (Int.le_refl 0)]
   exact bX h1
 · cases h
def aB (s: aa) (b: Int): aa:=s.takeWhile fun x=> !decide (by8 x=b)
theorem abF (p r: aa): Ev.cut (p++r) 0 ((p.length: Nat): Int)=p:=by unfold Ev.cut;simp
theorem MV (s: aa) (hl: s.length≤4611686018427387904) (b: Int) (k0: aa→aa→OR') (k1: aa→OR') (K: aa→OR') (h0: ∀ x,k0 s x=K x) (h1: k1 s=K s): ∀ (r p: aa) (i: Int) (n: Nat),s=p++r→i=(p.length: Int)→r.length < n→
 k6 n s b i k0 k1=K (p++aB r b):=by
 intro r;induction r with
 | nil=>
   intro p i n hs hi hn;obtain ⟨n,rfl⟩:=bF hn
   have h: At s i ([]: aa):=⟨p,hs,hi⟩
   unfold k6 rJ
   rw [h.dge,cond_false,h1,hs];rfl
 | cons a r ih=>
   intro p i n hs hi hn;obtain ⟨n,rfl⟩:=bF hn
   have h: At s i (a::r):=⟨p,hs,hi⟩
   simp only [List.length_cons] at hn
   have hle: decide (i≤(s.length: Int))=true:=dT' (by have:=h.lt;omega)
   have hcut: Ev.cut s 0 i=p:=by rw [hs,hi];exact abF p _
   have hr:=ih (p++[a]) (i + 1) n (by rw [hs];simp) (by rw [hi];simp) (by omega)
   unfold k6 rJ
   simp only [h.dlt,h.dnn,h.str,hle,cond_true,h.next hl,hcut,h0,hr]
   unfold aB
   rw [List.takeWhile_cons]
   cases decide (by8 a=b) <;> simp
def ahq: List AV→List Ob→Br
 | [.str s, .int .u8 b],[]=> .ite (isM s) (.ret (.str (aB s b)) []) .fail
 | _,_=> .fail
theorem De: Sound Kx 273 ahq:=by
 refine (MS (φ:=fun s b=> .ite (isM s) (.ret (.str (aB s b)) []) .fail) (fun s _=>s.length + 1) fun s b r h=>?_).of fun args objs r h=>?_
 · obtain ⟨h1,h2⟩:=al h
   cases h2
   unfold C9
   exact MV s (fZ h1) b _ _ (fun x=>some (.str x,[])) (fun _=>rfl) rfl s [] 0 _ rfl rfl (by omega)
 · unfold ahq at h;split at h
   · exact h
   · cases h
theorem rK (c: UInt8): ∀ s: aa,wd s [c]=(aB s (by8 c),s.drop ((aB s (by8 c)).length + 1), !decide ((aB s (by8 c)).length=s.length))
 | []=>by simp [wd,Lib.cut,Lib.index,aB]
 | a::r=>by
   have ih:=rK c r
   unfold wd Lib.cut at ih ⊢
   rw [Lib.index_one] at ih ⊢
   unfold aB at ih ⊢
   rw [List.takeWhile_cons]
   unfold Lib.indexByte
   by_cases h: a=c
   · subst h;simp
   · have hb: (a==c)=false:=by simpa using h
     have hd: decide (by8 a=by8 c)=false:=dF' fun e=>h (Fa e)
     have hge:=Lib.indexByte_ge r c
     rw [hb,hd]
     simp only [Bool.false_eq_true,if_false,Bool.not_false,if_true]
     by_cases hm: Lib.indexByte r c= -1
     · rw [hm] at ih
       simp only [Prod.mk.injEq,show ¬ (0 : Int)≤ -1 by decide,if_false] at ih
       have e: (Lib.indexByte r c== -1)=true:=by simpa using hm
       rw [e]
       simp only [if_true,show ¬ (0 : Int)≤ -1 by decide,if_false,Prod.mk.injEq]
       refine ⟨by rw [← ih.1],?_,?_⟩
       · rw [← ih.1];simp
       · rw [← ih.1];simp
     · have e: (Lib.indexByte r c== -1)=false:=by simpa using hm
       rw [e]
       have h0: 0≤Lib.indexByte r c:=by omega
       rw [if_pos h0] at ih
       simp only [Prod.mk.injEq] at ih
       simp only [Bool.false_eq_true,if_false]
       rw [if_pos (by omega)]
       have e1: (Lib.indexByte r c + 1).toNat=(Lib.indexByte r c).toNat + 1:=by omega
       obtain ⟨i1,i2,i3⟩:=ih
       rw [e1]
       simp only [Prod.mk.injEq,List.take_succ_cons,List.length_cons,List.length_singleton,List.length_nil]
       refine ⟨by rw [i1],?_,?_⟩
       · rw [show (Lib.indexByte r c).toNat + 1 + (0 + 1)=((Lib.indexByte r c).toNat + 1) + 1 by omega,List.drop_succ_cons,List.drop_succ_cons]
         simpa using i2
       · have:=i3
         simp only [Bool.true_eq,Bool.not_eq_true',decide_eq_false_iff_not] at this ⊢
         omega
end
end Go.Proofs.YtgknmoadpgpdeaaGreatDoor.Ev
