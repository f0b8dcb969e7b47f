/- The evaluator's objects in the machine's memory, and how both turn together. -/
import Derived.Test.YtmigffdeghfbhaaEv2
namespace Go.Proofs.Ytmigffdeghfbhaa.Ev
open Go Go.RowKit

/-- An object lies in memory. -/
def okO (L : Lk) (w : World) (p : Loc × Ob) : Prop :=
  match p.2 with
  | .var cs => ∃ b o vs, p.1.base = some (b, o) ∧ rels L w (Mut L) cs vs ∧ (∀ c ∈ vs, c.oneCell' = true) ∧
      ∀ j, j < cs.length → w.cell? ⟨b, o + j, none⟩ = vs[j]? ∧ w.frozen? ⟨b, o + j, none⟩ = false
  | .arr e _ z xs => (p.1.base = none ∧ xs = [] ∧ p.1.cap = 0) ∨ ∃ b o, p.1.base = some (b, o) ∧ xs.length ≤ p.1.cap ∧
      (∀ i (h : i < xs.length), ∃ ds : List Value, ds.length = e.size ∧ rd w (Mut L) e xs[i] ds ∧ ∀ j, j < e.size → w.cell? ⟨b, o + i * e.size + j, none⟩ = ds[j]?) ∧
      (z = false → ∀ j, j < p.1.cap * e.size → (∃ u, w.cell? ⟨b, o + j, none⟩ = some u) ∧ w.frozen? ⟨b, o + j, none⟩ = false) ∧
      (z = true → ∀ j, j < xs.length * e.size → ¬ Mut L b (o + j))

theorem mul_lt {i n s j : Nat} (h : i < n) (hj : j < s) : i * s + j < n * s := by
  have : (i + 1) * s ≤ n * s := Nat.mul_le_mul_right s h
  rw [Nat.add_mul] at this; omega

theorem inR_cell {L : Lk} {w : World} {p : Loc × Ob} (h : okO L w p) {b o : Nat} (hr : inR p b o) : (∃ u, w.cell? ⟨b, o, none⟩ = some u) ∧ w.frozen? ⟨b, o, none⟩ = false := by
  obtain ⟨l, x⟩ := p
  obtain ⟨o0, hb, h1, h2⟩ := hr
  simp only at hb
  obtain ⟨k, rfl⟩ : ∃ k, o = o0 + k := ⟨o - o0, by omega⟩
  cases x with
  | var cs =>
    obtain ⟨b', o', vs, h3, h4, _, h5⟩ := h
    simp only at h3
    rw [hb] at h3; cases h3
    have hk : k < cs.length := by simp only [ext] at h2; omega
    obtain ⟨h6, h7⟩ := h5 k hk
    have hl := rels_len h4
    exact ⟨⟨vs[k]'(by omega), by rw [h6]; simp [hl, hk]⟩, h7⟩
  | arr e v z xs =>
    cases z with
    | true => simp [ext] at h2; omega
    | false =>
      rcases h with ⟨h3, _⟩ | ⟨b', o', h3, _, _, h4, _⟩
      · simp only at h3; rw [hb] at h3; cases h3
      · simp only at h3; rw [hb] at h3; cases h3
        exact h4 rfl k (by simp [ext] at h2; omega)

theorem inR_lt {L : Lk} {w : World} {p : Loc × Ob} (h : okO L w p) {b o : Nat} (hr : inR p b o) : b < w.heap.size := by
  obtain ⟨⟨u, hu⟩, _⟩ := inR_cell h hr
  exact World.block_lt_of_cell? w ⟨b, o, none⟩ hu

structure RelO (K : Ctx) (w0 : World) (M0 : Bd) (L : Lk) (w : World) : Prop where
  fr : Fr w0 M0.m w
  ok : ∀ i p, L i = some p → okO L w p
  sep : ∀ i j p q b o, L i = some p → L j = some q → inR p b o → inR q b o → i = j
  own : ∀ b o, MutO L b o → b < w0.heap.size → M0.m b o
  ff : L.F = M0.f
  fs : ∀ b o, M0.f b o → b < w0.heap.size
  fo : ∀ b o, MutO L b o → ¬ M0.f b o
  g : K.G w
  gs : K.g0 ≤ w.heap.size
  gb : ∀ b o, MutO L b o → K.g0 ≤ b

theorem okO_tr {L L' : Lk} {w w' : World} {p : Loc × Ob} (hT : Turn L L') (ht : Tr w (Mut L) w' (Mut L'))
    (hc : ∀ b o, inR p b o → w'.cell? ⟨b, o, none⟩ = w.cell? ⟨b, o, none⟩ ∧ w'.frozen? ⟨b, o, none⟩ = w.frozen? ⟨b, o, none⟩)
    (h : okO L w p) : okO L' w' p := by
  obtain ⟨l, x⟩ := p
  cases x with
  | var cs =>
    obtain ⟨b, o, vs, h1, h2, h3, h4⟩ := h
    refine ⟨b, o, vs, h1, rels_tr hT ht cs h2, h3, fun j hj => ?_⟩
    obtain ⟨h5, h6⟩ := h4 j hj
    have hr : inR (l, Ob.var cs) b (o + j) := ⟨o, h1, by omega, by simp only [ext]; omega⟩
    obtain ⟨h7, h8⟩ := hc _ _ hr
    exact ⟨h7.trans h5, h8.trans h6⟩
  | arr e v z xs =>
    rcases h with h | ⟨b, o, h1, h2, h3, h4, h5⟩
    · exact .inl h
    · refine .inr ⟨b, o, h1, h2, fun i hi => ?_, fun hz j hj => ?_, fun hz j hj => ?_⟩
      · obtain ⟨ds, h6, h7, h8⟩ := h3 i hi
        refine ⟨ds, h6, rd_tr ht e h7, fun j hj => ?_⟩
        have h9 := h8 j hj
        have hd : ds[j]? = some (ds[j]'(by omega)) := by simp [h6, hj]
        cases z with
        | false =>
          have hlt : i * e.size + j < l.cap * e.size := mul_lt (Nat.lt_of_lt_of_le hi h2) hj
          have hr : inR (l, Ob.arr e v false xs) b (o + i * e.size + j) := ⟨o, h1, by omega, by simp [ext]; omega⟩
          exact (hc _ _ hr).1.trans h9
        | true =>
          have hlt := mul_lt hi hj
          have hn := h5 rfl (i * e.size + j) hlt
          rw [← Nat.add_assoc] at hn
          rw [hd] at h9 ⊢
          exact (ht _ _ _ hn h9).2
      · subst hz
        have hr : inR (l, Ob.arr e v false xs) b (o + j) := ⟨o, h1, by omega, by simp [ext]; omega⟩
        obtain ⟨⟨u, h6⟩, h7⟩ := h4 rfl j hj
        exact ⟨⟨u, (hc _ _ hr).1.trans h6⟩, (hc _ _ hr).2.trans h7⟩
      · have hn := h5 hz j hj
        have hj' : j / e.size < xs.length := Nat.div_lt_of_lt_mul (by rw [Nat.mul_comm]; exact hj)
        obtain ⟨ds, h6, _, h8⟩ := h3 _ hj'
        have hes : 0 < e.size := by
          rcases Nat.eq_zero_or_pos e.size with h | h
          · rw [h] at hj; simp at hj
          · exact h
        have h9 := h8 (j % e.size) (Nat.mod_lt _ hes)
        have hd : ds[j % e.size]? = some (ds[j % e.size]'(by rw [h6]; exact Nat.mod_lt _ hes)) := by
          rw [List.getElem?_eq_getElem]
        rw [hd] at h9
        have e1 : o + j / e.size * e.size + j % e.size = o + j := by
          have := Nat.div_add_mod j e.size
          rw [Nat.mul_comm] at this; omega
        rw [e1] at h9
        exact (ht _ _ _ hn h9).1

/-- Some objects turn, some come new; all else stays. -/
theorem RelO.chg {K : Ctx} {w0 : World} {M0 : Bd} {L : Lk} {w : World} (h : RelO K w0 M0 L w) (hK : K.Ok) {N : Nat → Nat → Prop} {L' : Lk} {w' : World} (D : Nat → Prop)
    (hF : Fr w N w') (hN : ∀ b o, N b o → MutO L b o) (hL : L'.F = L.F) (hT : Turn L L')
    (hk : ∀ i p, L' i = some p → ¬ D i → L i = some p ∧ ∀ b o, inR p b o → ¬ N b o)
    (hd : ∀ i p, L' i = some p → D i → (Tr w (Mut L) w' (Mut L') → okO L' w' p) ∧ ∀ b o, inR p b o → N b o ∨ w.heap.size ≤ b)
    (hs : ∀ i j p q b o, L' i = some p → L' j = some q → D i → D j → inR p b o → inR q b o → i = j) :
    RelO K w0 M0 L' w' ∧ Tr w (Mut L) w' (Mut L') := by
  have hmO : ∀ b o, MutO L' b o → MutO L b o ∨ w.heap.size ≤ b := by
    rintro b o ⟨i, p, hp, hr⟩
    by_cases hi : D i
    · rcases (hd i p hp hi).2 b o hr with h1 | h1
      · exact .inl (hN _ _ h1)
      · exact .inr h1
    · exact .inl ⟨i, p, (hk i p hp hi).1, hr⟩
  have hm : ∀ b o, Mut L' b o → Mut L b o ∨ w.heap.size ≤ b := by
    rintro b o (hf | ho)
    · rw [hL] at hf; exact .inl (.inl hf)
    · exact (hmO b o ho).imp .inr id
  have ht : Tr w (Mut L) w' (Mut L') := by
    intro b o v hn hv
    have hb := World.block_lt_of_cell? w ⟨b, o, none⟩ hv
    simp only at hb
    refine ⟨fun hm' => ?_, ?_⟩
    · rcases hm b o hm' with h1 | h1
      · exact hn h1
      · omega
    · rw [hF.cel b o hb fun h1 => hn (.inr (hN _ _ h1))]; exact hv
  refine ⟨⟨?_, ?_, ?_, ?_, ?_, h.fs, ?_, ?_, ?_, ?_⟩, ht⟩
  · exact h.fr.trans hF fun b o hb hn => h.own b o (hN b o hn) hb
  · intro i p hp
    by_cases hi : D i
    · exact (hd i p hp hi).1 ht
    · obtain ⟨h1, h2⟩ := hk i p hp hi
      have hok := h.ok i p h1
      exact okO_tr hT ht (fun b o hr => ⟨hF.cel b o (inR_lt hok hr) (h2 b o hr), hF.frz b o (inR_lt hok hr)⟩) hok
  · intro i j p q b o hp hq hr hr'
    by_cases hi : D i
    · by_cases hj : D j
      · exact hs i j p q b o hp hq hi hj hr hr'
      · obtain ⟨h1, h2⟩ := hk j q hq hj
        rcases (hd i p hp hi).2 b o hr with h3 | h3
        · exact absurd h3 (h2 b o hr')
        · have := inR_lt (h.ok j q h1) hr'; omega
    · obtain ⟨h1, h2⟩ := hk i p hp hi
      by_cases hj : D j
      · rcases (hd j q hq hj).2 b o hr' with h3 | h3
        · exact absurd h3 (h2 b o hr)
        · have := inR_lt (h.ok i p h1) hr; omega
      · exact h.sep i j p q b o h1 (hk j q hq hj).1 hr hr'
  · intro b o hm' hb
    rcases hmO b o hm' with h1 | h1
    · exact h.own b o h1 hb
    · have := h.fr.size; omega
  · exact hL.trans h.ff
  · intro b o hm' hf
    rcases hmO b o hm' with h1 | h1
    · exact h.fo b o h1 hf
    · have := h.fr.size; have := h.fs b o hf; omega
  · exact hK.gst w w' N hF h.gs (fun b o hb hn => by have := h.gb b o (hN b o hn); omega) h.g
  · exact Nat.le_trans h.gs hF.size
  · intro b o hm'
    rcases hmO b o hm' with h1 | h1
    · exact h.gb b o h1
    · have := h.gs; omega

def upd (L : Lk) (i : Nat) (p : Loc × Ob) : Lk := ⟨fun j => if j = i then some p else L j, L.F⟩

theorem upd_same (L : Lk) (i : Nat) (p : Loc × Ob) : upd L i p i = some p := by simp [upd]
theorem upd_other (L : Lk) {i j : Nat} (p : Loc × Ob) (h : j ≠ i) : upd L i p j = L j := by simp [upd, h]

/-- An object comes new, in new blocks. -/
theorem RelO.new {K : Ctx} {w0 : World} {M0 : Bd} {L : Lk} {w w' : World} (h : RelO K w0 M0 L w) (hK : K.Ok) {i : Nat} {p : Loc × Ob} (hi : L i = none)
    (hF : Fr w (fun _ _ => False) w') (hp : Tr w (Mut L) w' (Mut (upd L i p)) → okO (upd L i p) w' p) (hr : ∀ b o, inR p b o → w.heap.size ≤ b) :
    RelO K w0 M0 (upd L i p) w' ∧ Tr w (Mut L) w' (Mut (upd L i p)) ∧ Turn L (upd L i p) := by
  have hT : Turn L (upd L i p) := by
    intro j l x hj
    have hne : j ≠ i := by intro e; subst e; rw [hi] at hj; cases hj
    obtain ⟨l', x', h1, h2⟩ := Turn.refl L j l x hj
    exact ⟨l', x', by rw [upd_other L p hne]; exact h1, h2⟩
  obtain ⟨h1, h2⟩ := h.chg hK (L' := upd L i p) (D := (· = i)) hF (fun _ _ => False.elim) rfl hT
    (fun j q hq hj => ⟨by rw [upd_other L p hj] at hq; exact hq, fun _ _ _ => id⟩)
    (fun j q hq hj => by
      subst hj
      rw [upd_same] at hq; cases hq
      exact ⟨hp, fun b o hr' => .inr (hr b o hr')⟩)
    (fun j k q q' b o _ _ hj hk' _ _ => by rw [hj, hk'])
  exact ⟨h1, h2, hT⟩

/-- An object turns; what of memory turns is its own. -/
theorem RelO.put {K : Ctx} {w0 : World} {M0 : Bd} {L : Lk} {w w' : World} (h : RelO K w0 M0 L w) (hK : K.Ok) {i : Nat} {p p' : Loc × Ob} (hi : L i = some p)
    (hF : Fr w (inR p) w') (hT : Turn L (upd L i p')) (hp : Tr w (Mut L) w' (Mut (upd L i p')) → okO (upd L i p') w' p') (hr : ∀ b o, inR p' b o → inR p b o ∨ w.heap.size ≤ b) :
    RelO K w0 M0 (upd L i p') w' ∧ Tr w (Mut L) w' (Mut (upd L i p')) := by
  exact h.chg hK (L' := upd L i p') (D := (· = i)) hF (fun b o hb => ⟨i, p, hi, hb⟩) rfl hT
    (fun j q hq hj => by
      rw [upd_other L p' hj] at hq
      exact ⟨hq, fun b o h1 h2 => hj (h.sep j i q p b o hq hi h1 h2)⟩)
    (fun j q hq hj => by
      subst hj
      rw [upd_same] at hq; cases hq
      exact ⟨hp, hr⟩)
    (fun j k q q' b o _ _ hj hk' _ _ => by rw [hj, hk'])

end Go.Proofs.Ytmigffdeghfbhaa.Ev
