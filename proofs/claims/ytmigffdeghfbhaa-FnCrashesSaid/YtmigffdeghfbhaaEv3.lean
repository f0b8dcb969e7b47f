/- How the machine's memory bears the evaluator's values. -/
import Derived.Test.YtmigffdeghfbhaaEv1
namespace Go.Proofs.Ytmigffdeghfbhaa.Ev
open Go Go.RowKit

/-- The cells 'cs' read as the plain value 'x'; nothing that is read lies in 'M'. -/
def rd (w : World) (M : Nat → Nat → Prop) : (t : Ty) → Den t → List Value → Prop
  | .int k, n, cs => cs = [.int k n]
  | .bool, b, cs => cs = [.bool b]
  | .str, s, cs => cs = [.string ⟨s.toArray⟩]
  | .slice e, l, cs => ∃ a n c, cs = [.slice a n c] ∧ n = l.length ∧ n ≤ c ∧
      (l = [] ∨ ∃ b o, a = some ⟨b, o, none⟩ ∧ ∀ i (h : i < l.length), ∃ ds : List Value, ds.length = e.size ∧ rd w M e l[i] ds ∧
        ∀ j, j < e.size → w.cell? ⟨b, o + i * e.size + j, none⟩ = ds[j]? ∧ ¬ M b (o + i * e.size + j))
  | .pair a b, x, cs => ∃ c d, cs = c ++ d ∧ rd w M a x.1 c ∧ rd w M b x.2 d
  | .unit, _, cs => cs = []

theorem rd_len {w : World} {M : Nat → Nat → Prop} : ∀ (t : Ty) {x : Den t} {cs : List Value}, rd w M t x cs → cs.length = t.size
  | .int k, _, _, h => by cases h; rfl
  | .bool, _, _, h => by cases h; rfl
  | .str, _, _, h => by cases h; rfl
  | .slice e, _, _, h => by obtain ⟨_, _, _, rfl, _⟩ := h; rfl
  | .pair a b, _, _, h => by
    obtain ⟨c, d, rfl, h1, h2⟩ := h
    simp [rd_len a h1, rd_len b h2, Ty.size, Ty.cts]
  | .unit, _, _, h => by cases h; rfl

/-- What is read in the one world is read in the other. -/
def Tr (w : World) (M : Nat → Nat → Prop) (w' : World) (M' : Nat → Nat → Prop) : Prop :=
  ∀ b o v, ¬ M b o → w.cell? ⟨b, o, none⟩ = some v → ¬ M' b o ∧ w'.cell? ⟨b, o, none⟩ = some v

theorem rd_tr {w w' : World} {M M' : Nat → Nat → Prop} (ht : Tr w M w' M') : ∀ (t : Ty) {x : Den t} {cs : List Value}, rd w M t x cs → rd w' M' t x cs
  | .int _, _, _, h => h
  | .bool, _, _, h => h
  | .str, _, _, h => h
  | .slice e, _, _, h => by
    obtain ⟨a, n, c, h1, h2, h3, h4⟩ := h
    refine ⟨a, n, c, h1, h2, h3, ?_⟩
    rcases h4 with h4 | ⟨b, o, ha, hr⟩
    · exact .inl h4
    · refine .inr ⟨b, o, ha, fun i hi => ?_⟩
      obtain ⟨ds, hd, hx, hc⟩ := hr i hi
      refine ⟨ds, hd, rd_tr ht e hx, fun j hj => ?_⟩
      obtain ⟨h5, h6⟩ := hc j hj
      have : ds[j]? = some (ds[j]'(by omega)) := by simp [hd, hj]
      rw [this] at h5 ⊢
      exact ⟨(ht _ _ _ h6 h5).2, (ht _ _ _ h6 h5).1⟩
  | .pair a b, _, _, h => by
    obtain ⟨c, d, h1, h2, h3⟩ := h
    exact ⟨c, d, h1, rd_tr ht a h2, rd_tr ht b h3⟩
  | .unit, _, _, h => h

theorem rd_one {w : World} {M : Nat → Nat → Prop} : ∀ (t : Ty) {x : Den t} {cs : List Value}, rd w M t x cs → ∀ c ∈ cs, c.oneCell' = true
  | .int k, _, _, h, c, hc => by cases h; simp at hc; subst hc; rfl
  | .bool, _, _, h, c, hc => by cases h; simp at hc; subst hc; rfl
  | .str, _, _, h, c, hc => by cases h; simp at hc; subst hc; rfl
  | .slice e, _, _, h, c, hc => by obtain ⟨_, _, _, rfl, _⟩ := h; simp at hc; subst hc; rfl
  | .pair a b, _, _, h, c, hc => by
    obtain ⟨c1, d, rfl, h1, h2⟩ := h
    rcases List.mem_append.mp hc with h | h
    · exact rd_one a h1 c h
    · exact rd_one b h2 c h
  | .unit, _, _, h, c, hc => by cases h; simp at hc

/-- Where an object lies: a variable's first cell, or an own slice's head and room. -/
structure Loc where
  base : Option (Nat × Nat)
  cap : Nat

def Loc.addr (l : Loc) : Option Addr := l.base.map fun p => ⟨p.1, p.2, none⟩

/-- How many cells are an object's own. -/
def ext (p : Loc × Ob) : Nat :=
  match p.2 with
  | .var cs => cs.length
  | .arr e _ z _ => if z then 0 else p.1.cap * e.size

/-- The cells that are an object's own. -/
def inR (p : Loc × Ob) (b o : Nat) : Prop := ∃ o0, p.1.base = some (b, o0) ∧ o0 ≤ o ∧ o < o0 + ext p

/-- Where the objects lie; and cells that are hidden: others may write them, these do not, nor read. -/
structure Lk where
  obj : Nat → Option (Loc × Ob)
  F : Nat → Nat → Prop

instance : CoeFun Lk (fun _ => Nat → Option (Loc × Ob)) := ⟨Lk.obj⟩

/-- What is written. -/
def MutO (L : Lk) (b o : Nat) : Prop := ∃ i p, L i = some p ∧ inR p b o

/-- What is not to be read as a plain value. -/
def Mut (L : Lk) (b o : Nat) : Prop := L.F b o ∨ MutO L b o

/-- What a run may write, and what is hidden from it. -/
structure Bd where
  m : Nat → Nat → Prop
  f : Nat → Nat → Prop

mutual
/-- A machine's value is that of the evaluator. -/
def rel (L : Lk) (w : World) (M : Nat → Nat → Prop) : AV → Value → Prop
  | .undef, _ => True
  | .int k n, v => v = .int k n
  | .bool b, v => v = .bool b
  | .str s, v => v = .string ⟨s.toArray⟩
  | .sh e l, v => rd w M (.slice e) l [v]
  | .nil _, v => v = .slice none 0 0
  | .sel e x off, v => ∃ b o ds, v = .pointer (some ⟨b, o + off, none⟩) ∧ ds.length = e.size ∧ rd w M e x ds ∧ ∀ j, j < e.size → w.cell? ⟨b, o + j, none⟩ = ds[j]? ∧ ¬ M b (o + j)
  | .ref i ver, v => ∃ l e cur z xs p n c, L i = some (l, .arr e cur z xs) ∧ ver ≤ cur ∧ v = .slice p n c ∧ (ver = cur → p = l.addr ∧ n = xs.length ∧ c = l.cap)
  | .ptr i off, v => ∃ b o cap cs, L i = some (⟨some (b, o), cap⟩, .var cs) ∧ v = .pointer (some ⟨b, o + off, none⟩)
  | .eptr i ver k off, v => ∃ l e cur z xs p, L i = some (l, .arr e cur z xs) ∧ ver ≤ cur ∧ v = .pointer (some p) ∧ (ver = cur → ∃ b o, l.base = some (b, o) ∧ 0 ≤ k ∧ k < (xs.length : Int) ∧ p = ⟨b, o + k.toNat * e.size + off, none⟩)
  | .nilp, v => v = .pointer none
  | .fn f cap, v => ∃ cs : Array Value, v = .func (.func f) #[] cs ∧ rels L w M cap cs.toList
  | .nilfn, v => v = .nilFunc
  | .noerr, v => v = .nilIface
  | .err, v => ∃ t x, v = .iface t x
  | .agg vs, v => ∃ cs : Array Value, v = .agg cs ∧ rels L w M vs cs.toList ∧ ∀ c ∈ cs.toList, c.oneCell' = true
  | .tup vs, v => ∃ cs : Array Value, v = .tuple cs ∧ rels L w M vs cs.toList
def rels (L : Lk) (w : World) (M : Nat → Nat → Prop) : List AV → List Value → Prop
  | [], cs => cs = []
  | a :: as, cs => ∃ c cs', cs = c :: cs' ∧ rel L w M a c ∧ rels L w M as cs'
end

/-- How objects may turn: what a value says of them stays true. -/
def Turn (L L' : Lk) : Prop := ∀ i l x, L i = some (l, x) → ∃ l' x', L' i = some (l', x') ∧
  match x with
  | .var _ => l' = l ∧ ∃ cs', x' = .var cs'
  | .arr e cur _ xs => ∃ cur' z' xs', x' = .arr e cur' z' xs' ∧ cur ≤ cur' ∧ (cur = cur' → l' = l ∧ xs'.length = xs.length)

theorem Turn.refl (L : Lk) : Turn L L := by
  intro i l x h
  refine ⟨l, x, h, ?_⟩
  cases x with
  | var cs => exact ⟨rfl, cs, rfl⟩
  | arr e cur z xs => exact ⟨cur, z, xs, rfl, Nat.le_refl _, fun _ => ⟨rfl, rfl⟩⟩

theorem rd_slice_tr {w w' : World} {M M' : Nat → Nat → Prop} (ht : Tr w M w' M') {e : Ty} {l : List (Den e)} {cs : List Value} (h : rd w M (.slice e) l cs) : rd w' M' (.slice e) l cs := rd_tr ht (.slice e) h

mutual
theorem rel_tr {L L' : Lk} {w w' : World} {M M' : Nat → Nat → Prop} (hT : Turn L L') (ht : Tr w M w' M') : ∀ (a : AV) {v : Value}, rel L w M a v → rel L' w' M' a v
  | .undef, _, _ => by simp [rel]
  | .int _ _, _, h => by simpa [rel] using h
  | .bool _, _, h => by simpa [rel] using h
  | .str _, _, h => by simpa [rel] using h
  | .sh e l, _, h => by simp only [rel] at h ⊢; exact rd_slice_tr ht h
  | .nil _, _, h => by simpa [rel] using h
  | .sel e x off, _, h => by
    simp only [rel] at h ⊢
    obtain ⟨b, o, ds, h1, h2, h3, h4⟩ := h
    refine ⟨b, o, ds, h1, h2, rd_tr ht e h3, fun j hj => ?_⟩
    obtain ⟨h5, h6⟩ := h4 j hj
    have : ds[j]? = some (ds[j]'(by omega)) := by simp [h2, hj]
    rw [this] at h5 ⊢
    exact ⟨(ht _ _ _ h6 h5).2, (ht _ _ _ h6 h5).1⟩
  | .ref i ver, _, h => by
    simp only [rel] at h ⊢
    obtain ⟨l, e, cur, z, xs, p, n, c, h1, h2, hp, h3⟩ := h
    obtain ⟨l', x', h4, cur', z', xs', rfl, h5, h6⟩ := hT _ _ _ h1
    refine ⟨l', e, cur', z', xs', p, n, c, h4, by omega, hp, fun hv => ?_⟩
    have hc : cur = cur' := by omega
    obtain ⟨rfl, hl⟩ := h6 hc
    rw [hl]; exact h3 (by omega)
  | .ptr i off, _, h => by
    simp only [rel] at h ⊢
    obtain ⟨b, o, cap, cs, h1, h2⟩ := h
    obtain ⟨l', x', h4, rfl, cs', rfl⟩ := hT _ _ _ h1
    exact ⟨b, o, cap, cs', h4, h2⟩
  | .eptr i ver k off, _, h => by
    simp only [rel] at h ⊢
    obtain ⟨l, e, cur, z, xs, p, h1, h2, hp, h3⟩ := h
    obtain ⟨l', x', h4, cur', z', xs', rfl, h5, h6⟩ := hT _ _ _ h1
    refine ⟨l', e, cur', z', xs', p, h4, by omega, hp, fun hv => ?_⟩
    have hc : cur = cur' := by omega
    obtain ⟨rfl, hl⟩ := h6 hc
    rw [hl]; exact h3 (by omega)
  | .nilp, _, h => by simpa [rel] using h
  | .fn f cap, _, h => by
    simp only [rel] at h ⊢
    obtain ⟨cs, h1, h2⟩ := h
    exact ⟨cs, h1, rels_tr hT ht cap h2⟩
  | .nilfn, _, h => by simpa [rel] using h
  | .noerr, _, h => by simpa [rel] using h
  | .err, _, h => by simpa [rel] using h
  | .agg vs, _, h => by
    simp only [rel] at h ⊢
    obtain ⟨cs, h1, h2, h3⟩ := h
    exact ⟨cs, h1, rels_tr hT ht vs h2, h3⟩
  | .tup vs, _, h => by
    simp only [rel] at h ⊢
    obtain ⟨cs, h1, h2⟩ := h
    exact ⟨cs, h1, rels_tr hT ht vs h2⟩
theorem rels_tr {L L' : Lk} {w w' : World} {M M' : Nat → Nat → Prop} (hT : Turn L L') (ht : Tr w M w' M') : ∀ (as : List AV) {cs : List Value}, rels L w M as cs → rels L' w' M' as cs
  | [], _, h => by simpa [rels] using h
  | a :: as, _, h => by
    simp only [rels] at h ⊢
    obtain ⟨c, cs', h1, h2, h3⟩ := h
    exact ⟨c, cs', h1, rel_tr hT ht a h2, rels_tr hT ht as h3⟩
end

theorem rels_len {L : Lk} {w : World} {M : Nat → Nat → Prop} : ∀ {as : List AV} {cs : List Value}, rels L w M as cs → cs.length = as.length
  | [], _, h => by simp only [rels] at h; simp [h]
  | a :: as, _, h => by
    simp only [rels] at h
    obtain ⟨c, cs', rfl, _, h3⟩ := h
    simp [rels_len h3]

theorem rels_append {L : Lk} {w : World} {M : Nat → Nat → Prop} : ∀ {as bs : List AV} {cs ds : List Value}, rels L w M as cs → rels L w M bs ds → rels L w M (as ++ bs) (cs ++ ds)
  | [], _, _, _, h, h' => by simp only [rels] at h; subst h; simpa using h'
  | a :: as, _, _, _, h, h' => by
    simp only [rels] at h
    obtain ⟨c, cs', rfl, h1, h2⟩ := h
    simp only [List.cons_append, rels]
    exact ⟨c, _, rfl, h1, rels_append h2 h'⟩

theorem rels_split {L : Lk} {w : World} {M : Nat → Nat → Prop} : ∀ {as bs : List AV} {cs : List Value}, rels L w M (as ++ bs) cs → ∃ c d, cs = c ++ d ∧ rels L w M as c ∧ rels L w M bs d
  | [], _, cs, h => ⟨[], cs, rfl, by simp [rels], by simpa using h⟩
  | a :: as, _, _, h => by
    simp only [List.cons_append, rels] at h
    obtain ⟨c, cs', rfl, h1, h2⟩ := h
    obtain ⟨c1, d, rfl, h3, h4⟩ := rels_split h2
    exact ⟨c :: c1, d, rfl, by simp only [rels]; exact ⟨c, c1, rfl, h1, h3⟩, h4⟩

theorem rels_get {L : Lk} {w : World} {M : Nat → Nat → Prop} : ∀ {as : List AV} {cs : List Value}, rels L w M as cs → ∀ (n : Nat) (a : AV), as[n]? = some a → ∃ c, cs[n]? = some c ∧ rel L w M a c
  | [], _, _, n, a, ha => by simp at ha
  | a' :: as, _, h, n, a, ha => by
    simp only [rels] at h
    obtain ⟨c, cs', rfl, h1, h2⟩ := h
    cases n with
    | zero => simp at ha; subst ha; exact ⟨c, rfl, h1⟩
    | succ n => simpa using rels_get h2 n a (by simpa using ha)

theorem getS_eq : ∀ (l : List AV) (n : Nat), getS l n = l.getD n .undef
  | [], n => by simp [getS]
  | a :: l, 0 => by simp [getS]
  | a :: l, n + 1 => by simp [getS, getS_eq l n]

theorem putS_eq : ∀ (l : List AV) (n : Nat) (v : AV), putS l n v = l.set n v
  | [], n, v => by simp [putS]
  | a :: l, 0, v => by simp [putS]
  | a :: l, n + 1, v => by simp [putS, putS_eq l n v]

theorem rels_getS {L : Lk} {w : World} {M : Nat → Nat → Prop} {as : List AV} {cs : List Value} (h : rels L w M as cs) (n : Nat) : rel L w M (getS as n) (cs.getD n undef) := by
  rw [getS_eq]
  cases ha : as[n]? with
  | none => simp [List.getD, ha, rel]
  | some a =>
    obtain ⟨c, hc, hr⟩ := rels_get h n a ha
    simpa [List.getD, ha, hc] using hr

theorem rels_set {L : Lk} {w : World} {M : Nat → Nat → Prop} : ∀ {as : List AV} {cs : List Value}, rels L w M as cs → ∀ (n : Nat) {a : AV} {c : Value}, rel L w M a c → rels L w M (putS as n a) (cs.set n c)
  | [], _, h, n, a, c, _ => by simp only [rels] at h; subst h; simp [putS, rels]
  | b :: as, _, h, n, a, c, hr => by
    simp only [rels] at h
    obtain ⟨d, cs', rfl, h1, h2⟩ := h
    cases n with
    | zero => simp only [putS, List.set_cons_zero, rels]; exact ⟨c, cs', rfl, hr, h2⟩
    | succ n => simp only [putS, List.set_cons_succ, rels]; exact ⟨d, _, rfl, h1, rels_set h2 n hr⟩

/-- What of a world may have turned: the cells in 'N', and what is new. -/
structure Fr (w : World) (N : Nat → Nat → Prop) (w' : World) : Prop where
  os : w'.os = w.os
  tape : w'.tape = w.tape
  output : w'.output = w.output
  size : w.heap.size ≤ w'.heap.size
  blk : ∀ b, b < w.heap.size → (∀ o, ¬ N b o) → w'.heap[b]? = w.heap[b]?
  cel : ∀ b o, b < w.heap.size → ¬ N b o → w'.cell? ⟨b, o, none⟩ = w.cell? ⟨b, o, none⟩
  frz : ∀ b o, b < w.heap.size → w'.frozen? ⟨b, o, none⟩ = w.frozen? ⟨b, o, none⟩
  shp : ∀ b, b < w.heap.size → w'.shape? b = w.shape? b

theorem Fr.refl (w : World) (N : Nat → Nat → Prop) : Fr w N w := ⟨rfl, rfl, rfl, Nat.le_refl _, fun _ _ _ => rfl, fun _ _ _ _ => rfl, fun _ _ _ => rfl, fun _ _ => rfl⟩

theorem Fr.trans {w w' w'' : World} {N N' : Nat → Nat → Prop} (h : Fr w N w') (h' : Fr w' N' w'') (hN : ∀ b o, b < w.heap.size → N' b o → N b o) : Fr w N w'' where
  os := h'.os.trans h.os
  tape := h'.tape.trans h.tape
  output := h'.output.trans h.output
  size := Nat.le_trans h.size h'.size
  blk b hb hn := (h'.blk b (Nat.lt_of_lt_of_le hb h.size) fun o ho => hn o (hN b o hb ho)).trans (h.blk b hb hn)
  cel b o hb hn := (h'.cel b o (Nat.lt_of_lt_of_le hb h.size) fun ho => hn (hN b o hb ho)).trans (h.cel b o hb hn)
  frz b o hb := (h'.frz b o (Nat.lt_of_lt_of_le hb h.size)).trans (h.frz b o hb)
  shp b hb := (h'.shp b (Nat.lt_of_lt_of_le hb h.size)).trans (h.shp b hb)

theorem Fr.mono {w w' : World} {N N' : Nat → Nat → Prop} (h : Fr w N w') (hN : ∀ b o, b < w.heap.size → N b o → N' b o) : Fr w N' w' where
  os := h.os
  tape := h.tape
  output := h.output
  size := h.size
  blk b hb hn := h.blk b hb fun o ho => hn o (hN b o hb ho)
  cel b o hb hn := h.cel b o hb fun ho => hn (hN b o hb ho)
  frz := h.frz
  shp := h.shp

theorem Fr.below {w w' : World} (h : Fr w (fun _ _ => False) w') : Below w.heap.size w w' :=
  ⟨h.os, h.tape, h.output, h.size, fun k hk => h.blk k hk fun _ => id⟩

theorem Fr.drew {w w' : World} {N : Nat → Nat → Prop} (h : Fr w N w') : Fr w N w'.drew := ⟨h.os, h.tape, h.output, h.size, h.blk, h.cel, h.frz, h.shp⟩

theorem Fr.alloc (w : World) (N : Nat → Nat → Prop) (x : Obj) : Fr w N (w.alloc x) where
  os := rfl
  tape := rfl
  output := rfl
  size := by simp
  blk b hb _ := Below.heap_alloc _ _ _ hb
  cel b o hb _ := World.cell?_alloc_lt w x _ (by exact hb)
  frz b o hb := World.frozen?_alloc_old w x _ (by simp only; omega)
  shp b hb := by simp only [World.shape?, Below.heap_alloc _ _ _ hb]

theorem Fr.setCell (w : World) {N : Nat → Nat → Prop} (b o : Nat) (v : Value) (hN : N b o) : Fr w N (w.setCell ⟨b, o, none⟩ v) where
  os := rfl
  tape := rfl
  output := rfl
  size := by simp
  blk b' hb hn := Below.heap_setCell _ _ _ _ (by intro e; subst e; exact hn _ hN)
  cel b' o' hb hn := World.cell?_setCell_other w _ _ _ (by intro e; simp at e; obtain ⟨rfl, rfl⟩ := e; exact hn hN)
  frz b' o' hb := by simp
  shp b' hb := by
    simp only [World.shape?, World.setCell, Array.getElem?_modify]
    by_cases e : b = b'
    · subst e
      rw [if_pos rfl]
      cases hx : w.heap[b]? with
      | none => simp
      | some x => cases x <;> simp
    · rw [if_neg e]

end Go.Proofs.Ytmigffdeghfbhaa.Ev
