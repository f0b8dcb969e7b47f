/- CacheNew: what each function does, and that the two agree. -/
import Derived.Test.YthdiildelpmknaaEvC
namespace Go.Proofs.Ythdiildelpmknaa.Ev
open Go Go.RowKit
set_option linter.unusedVariables false
set_option linter.unusedSimpArgs false

theorem push_bool (b x y : Bool) (os : List Ob) : (some (AV.bool (bif b then x else y), os) : Option (AV × List Ob)) = bif b then some (AV.bool x, os) else some (AV.bool y, os) := by cases b <;> rfl

def O0 : Opt := ⟨[], false, []⟩
def fieldT : Ty := .pair .str .str
def msgT : Ty := .pair .str (.pair .str (.pair (.int .i64) (.pair .str (.pair .bool (.pair (.slice fieldT) .str)))))
def entT : Ty := .pair .str (.pair (.int .i64) (.pair (.int .i64) (.pair (.slice fieldT) msgT)))

/-- impl.within -/
def within (n lo hi : Int) : Bool := bif decide (lo ≤ n) then decide (n ≤ hi) else false
def s60 : List AV → List Ob → Br
  | [.int .i64 n, .int .i64 lo, .int .i64 hi], [] => .ret (.bool (within n lo hi)) []
  | _, _ => .fail
theorem s60_ok : Sound Kx 60 s60 := by
  refine sound_run (C := noS) (O := O0) KOk (sound_no Kx) Try.func60 (by kernel_rfl) fun args objs res os h => ⟨1, ?_⟩
  unfold s60 at h
  split at h
  · rename_i n lo hi
    cases h
    show runF Kx noS O0 1 Try.f60 [.int .i64 n, .int .i64 lo, .int .i64 hi] [] = _
    unfold within
    simp only [push_bool]
    kernel_rfl
  · cases h

/-- impl.isBudget -/
def C64 : Spec := add noS 60 s60
theorem C64_ok : ∀ fn, Sound Kx fn (C64 fn) := sound_add (sound_no Kx) s60_ok
def s64 : List AV → List Ob → Br
  | [.int .i64 n], [] => .ret (.bool (within n 0 20000)) []
  | _, _ => .fail
theorem s64_ok : Sound Kx 64 s64 := by
  refine sound_run (C := C64) (O := O0) KOk C64_ok Try.func64 (by kernel_rfl) fun args objs res os h => ⟨1, ?_⟩
  unfold s64 at h
  split at h
  · rename_i n
    cases h
    show runF Kx C64 O0 1 Try.f64 [.int .i64 n] [] = _
    kernel_rfl
  · cases h

/-- CacheNew: its result. -/
def cacheNew (b : Int) (ok : Bool) : AV := .tup [.agg [.int .i64 (bif ok then b else 0), .ref 0 0], .bool ok]
def cacheObs : List Ob := [.arr entT 0 false []]
def sNew : List AV → List Ob → Br
  | [.int .i64 b], [] => .ret (cacheNew b (within b 0 20000)) cacheObs
  | _, _ => .fail

/-- impl.CacheNew -/
def C39 : Spec := add noS 64 s64
theorem C39_ok : ∀ fn, Sound Kx fn (C39 fn) := sound_add (sound_no Kx) s64_ok
theorem s39_ok : Sound Kx 39 sNew := by
  refine sound_run (C := C39) (O := O0) KOk C39_ok Try.func39 (by kernel_rfl) fun args objs res os h => ⟨1, ?_⟩
  unfold sNew at h
  split at h
  · rename_i b
    cases h
    have h1 : runF Kx C39 O0 1 Try.f39 [.int .i64 b] [] = bif !(within b 0 20000) then some (cacheNew b false, cacheObs) else some (cacheNew b true, cacheObs) := by kernel_rfl
    show runF Kx C39 O0 1 Try.f39 [.int .i64 b] [] = _
    rw [h1]
    cases within b 0 20000 <;> rfl
  · cases h

/-- spec.CacheNew -/
theorem s38_ok : Sound Kx 38 sNew := by
  refine sound_run (C := noS) (O := O0) KOk (sound_no Kx) Try.func38 (by kernel_rfl) fun args objs res os h => ⟨1, ?_⟩
  unfold sNew at h
  split at h
  · rename_i b
    cases h
    have h1 : runF Kx noS O0 1 Try.f38 [.int .i64 b] [] = bif decide (b < 0) then some (cacheNew b false, cacheObs) else bif decide (20000 < b) then some (cacheNew b false, cacheObs) else some (cacheNew b true, cacheObs) := by kernel_rfl
    show runF Kx noS O0 1 Try.f38 [.int .i64 b] [] = _
    rw [h1]
    unfold within
    by_cases h2 : b < 0
    · have h3 : ¬ 0 ≤ b := by omega
      simp [h2, h3]
    · have h3 : 0 ≤ b := by omega
      by_cases h4 : 20000 < b
      · have h5 : ¬ b ≤ 20000 := by omega
        simp [h2, h3, h4, h5]
      · have h5 : b ≤ 20000 := by omega
        simp [h2, h3, h4, h5]
  · cases h

/-- What tells caches apart, marks them and looks at the marks. -/
def s0 : Spec := noS
noncomputable def C40 : Spec := add noS 75 (evS Kx noS O0 1 Try.f75)
theorem C40_ok : ∀ fn, Sound Kx fn (C40 fn) := sound_add (sound_no Kx) (sound_evS KOk (sound_no Kx) Try.func75 (by kernel_rfl) 1)
noncomputable def C41 : Spec := add noS 76 (evS Kx noS O0 1 Try.f76)
theorem C41_ok : ∀ fn, Sound Kx fn (C41 fn) := sound_add (sound_no Kx) (sound_evS KOk (sound_no Kx) Try.func76 (by kernel_rfl) 1)
noncomputable def C42 : Spec := add noS 77 (evS Kx noS O0 1 Try.f77)
theorem C42_ok : ∀ fn, Sound Kx fn (C42 fn) := sound_add (sound_no Kx) (sound_evS KOk (sound_no Kx) Try.func77 (by kernel_rfl) 1)
/-- laws.eqCache, of caches without entries -/
def s40 : List AV → List Ob → Br
  | [.agg [.int .i64 b, .sh e l], .agg [.int .i64 c, .sh e' l']], [] => if e = entT ∧ e' = entT ∧ l.length = 0 ∧ l'.length = 0 then .ret (.bool (bif !decide (b = c) then false else true)) [] else .fail
  | _, _ => .fail
theorem s40_ok : Sound Kx 40 s40 := by
  refine sound_run (C := C40) (O := O0) KOk C40_ok Try.func40 (by kernel_rfl) fun args objs res os h => ⟨1, ?_⟩
  unfold s40 at h
  split at h
  · rename_i b e l c e' l'
    split at h
    · rename_i hc
      obtain ⟨rfl, rfl, h1, h2⟩ := hc
      have h1 := List.length_eq_zero_iff.1 h1
      have h2 := List.length_eq_zero_iff.1 h2
      subst h1; subst h2
      cases h
      show runF Kx C40 O0 1 Try.f40 [.agg [.int .i64 b, .sh entT []], .agg [.int .i64 c, .sh entT []]] [] = _
      rw [push_bool]
      kernel_rfl
    · cases h
  · cases h

def Om : Opt := ⟨[], false, [41, 76]⟩
noncomputable def C10 : Spec := add (add (add (add (add noS 38 sNew) 39 sNew) 40 s40) 41 (evS Kx C41 Om 1 Try.f41)) 42 (evS Kx C42 O0 1 Try.f42)
theorem C10_ok : ∀ fn, Sound Kx fn (C10 fn) :=
  sound_add (sound_add (sound_add (sound_add (sound_add (sound_no Kx) s38_ok) s39_ok) s40_ok) (sound_evS KOk C41_ok Try.func41 (by kernel_rfl) 1)) (sound_evS KOk C42_ok Try.func42 (by kernel_rfl) 1)

/-- The law. -/
def s10 : List AV → List Ob → Br
  | [.int .i64 _], [] => .ret (.bool true) []
  | _, _ => .fail
theorem s10_ok : Sound Kx 10 s10 := by
  refine sound_run (C := C10) (O := Om) KOk C10_ok Try.func10 (by kernel_rfl) fun args objs res os h => ⟨1, ?_⟩
  unfold s10 at h
  split at h
  · rename_i b
    cases h
    have h1 : runF Kx C10 Om 1 Try.f10 [.int .i64 b] [] =
        bif !(bif !decide ((bif within b 0 20000 then b else 0) = bif within b 0 20000 then b else 0) then false else true) then some (.bool false, []) else
        bif !(within b 0 20000 == within b 0 20000) then some (.bool false, []) else
        bif !(bif !decide ((bif within b 0 20000 then b else 0) = bif within b 0 20000 then b else 0) then false else true) then some (.bool false, []) else
        bif !(within b 0 20000 == within b 0 20000) then some (.bool false, []) else some (.bool true, []) := by kernel_rfl
    show runF Kx C10 Om 1 Try.f10 [.int .i64 b] [] = _
    rw [h1]
    simp
  · cases h

theorem fnExactCacheNew_true (xs : List AV) (h : Args [(.int .i64, false)] xs) : (s10 xs []).val = some (.bool true, []) := by
  obtain ⟨x, a', _, rfl, rfl⟩ := h
  rfl

end Go.Proofs.Ythdiildelpmknaa.Ev
