/- EventOk: what each function does, and that the two agree. -/
import Derived.Test.YthdiildelpmknaaEvC
namespace Go.Proofs.Ythdiildelpmknaa.Ev
open Go Go.RowKit
set_option linter.unusedVariables false
set_option linter.unusedSimpArgs false

theorem push_bool (b x y : Bool) (os : List Ob) : (some (AV.bool (bif b then x else y), os) : Option (AV × List Ob)) = bif b then some (AV.bool x, os) else some (AV.bool y, os) := by cases b <;> rfl
theorem push_int (b : Bool) (k : IntKind) (x y : Int) (os : List Ob) : (some (AV.int k (bif b then x else y), os) : Option (AV × List Ob)) = bif b then some (AV.int k x, os) else some (AV.int k y, os) := by cases b <;> rfl

def O0 : Opt := ⟨[], false, []⟩

/-- laws.szEvent -/
def szEvent (d : List UInt8) (left : Int) : Int := bif decide (wrapk .i64 (left - d.length) < 0) then -1 else wrap64 (left - d.length)
def s15 : List AV → List Ob → Br
  | [.agg [.int .i64 _, .int .i64 _, .str d], .int .i64 left], [] => .ret (.int .i64 (szEvent d left)) []
  | _, _ => .fail
theorem s15_ok : Sound Kx 15 s15 := by
  refine sound_run (C := noS) (O := O0) KOk (sound_no Kx) Try.func15 (by kernel_rfl) fun args objs res os h => ⟨1, ?_⟩
  unfold s15 at h
  split at h
  · rename_i k n d left
    cases h
    show runF Kx noS O0 1 Try.f15 [.agg [.int .i64 k, .int .i64 n, .str d], .int .i64 left] [] = _
    unfold szEvent
    rw [push_int]
    kernel_rfl
  · cases h

/-- spec.EventOk -/
def eventS (k n : Int) (d : List UInt8) : Bool :=
  bif decide (k = 0) then (bif decide (n = 0) then decide ((d.length : Int) ≤ 4100) else false) else
  bif decide (k = 1) then (bif decide (n = 0) then decide ((d.length : Int) ≤ 4100) else false) else
  bif decide (k = 2) then (bif decide (n = 0) then decide (d = []) else false) else
  bif decide (k = 3) then (bif decide (n = 0) then decide (d = []) else false) else
  bif decide (k = 5) then (bif decide (n = 0) then decide (d = []) else false) else
  bif decide (k = 4) then (bif decide (0 ≤ n) then (bif decide (n ≤ 1000000000) then decide (d = []) else false) else false) else
  bif decide (k = 6) then (bif decide (0 ≤ n) then (bif decide (n ≤ 1000000000) then decide (d = []) else false) else false) else false
def s16 : List AV → List Ob → Br
  | [.agg [.int .i64 k, .int .i64 n, .str d]], [] => .ret (.bool (eventS k n d)) []
  | _, _ => .fail
theorem s16_ok : Sound Kx 16 s16 := by
  refine sound_run (C := noS) (O := O0) KOk (sound_no Kx) Try.func16 (by kernel_rfl) fun args objs res os h => ⟨1, ?_⟩
  unfold s16 at h
  split at h
  · rename_i k n d
    cases h
    show runF Kx noS O0 1 Try.f16 [.agg [.int .i64 k, .int .i64 n, .str d]] [] = _
    unfold eventS
    simp only [push_bool]
    kernel_rfl
  · cases h

/-- laws.toEvent -/
def s17 : List AV → List Ob → Br
  | [.agg [.int .i64 k, .int .i64 n, .str d]], [] => .ret (.agg [.int .i64 k, .int .i64 n, .str d]) []
  | _, _ => .fail
theorem s17_ok : Sound Kx 17 s17 := by
  refine sound_run (C := noS) (O := O0) KOk (sound_no Kx) Try.func17 (by kernel_rfl) fun args objs res os h => ⟨1, ?_⟩
  unfold s17 at h
  split at h
  · rename_i k n d
    cases h
    show runF Kx noS O0 1 Try.f17 [.agg [.int .i64 k, .int .i64 n, .str d]] [] = _
    kernel_rfl
  · cases h

/-- impl.within -/
def within (n lo hi : Int) : Bool := bif decide (lo ≤ n) then decide (n ≤ hi) else false
def s60 : List AV → List Ob → Br
  | [.int .i64 n, .int .i64 lo, .int .i64 hi], [] => .ret (.bool (within n lo hi)) []
  | _, _ => .fail
theorem s60_ok : Sound Kx 60 s60 := by
  refine sound_run (C := noS) (O := O0) KOk (sound_no Kx) Try.func60 (by kernel_rfl) fun args objs res os h => ⟨1, ?_⟩
  unfold s60 at h
  split at h
  · rename_i n lo hi
    cases h
    show runF Kx noS O0 1 Try.f60 [.int .i64 n, .int .i64 lo, .int .i64 hi] [] = _
    unfold within
    simp only [push_bool]
    kernel_rfl
  · cases h

/-- impl.EventOk -/
def eventI (k n : Int) (d : List UInt8) : Bool :=
  bif decide (k = 0) then (bif decide ((d.length : Int) ≤ 4100) then decide (n = 0) else false) else
  bif decide (k = 1) then (bif decide ((d.length : Int) ≤ 4100) then decide (n = 0) else false) else
  bif decide (k = 2) then (bif decide (d = []) then decide (n = 0) else false) else
  bif decide (k = 3) then (bif decide (d = []) then decide (n = 0) else false) else
  bif decide (k = 5) then (bif decide (d = []) then decide (n = 0) else false) else
  bif decide (k = 4) then (bif decide (d = []) then within n 0 1000000000 else false) else
  bif decide (k = 6) then (bif decide (d = []) then within n 0 1000000000 else false) else false
def s18 : List AV → List Ob → Br
  | [.agg [.int .i64 k, .int .i64 n, .str d]], [] => .ret (.bool (eventI k n d)) []
  | _, _ => .fail
def C18 : Spec := add noS 60 s60
theorem C18_ok : ∀ fn, Sound Kx fn (C18 fn) := sound_add (sound_no Kx) s60_ok
theorem s18_ok : Sound Kx 18 s18 := by
  refine sound_run (C := C18) (O := O0) KOk C18_ok Try.func18 (by kernel_rfl) fun args objs res os h => ⟨1, ?_⟩
  unfold s18 at h
  split at h
  · rename_i k n d
    cases h
    show runF Kx C18 O0 1 Try.f18 [.agg [.int .i64 k, .int .i64 n, .str d]] [] = _
    unfold eventI
    simp only [push_bool]
    kernel_rfl
  · cases h

theorem event_same (k n : Int) (d : List UInt8) : eventI k n d = eventS k n d := by
  unfold eventI eventS within
  repeat (first | rfl | (cases decide (k = _) <;> simp only [cond_true, cond_false]))
  all_goals (cases decide (n = 0) <;> cases decide (d = []) <;> cases decide ((d.length : Int) ≤ 4100) <;> cases decide (0 ≤ n) <;> cases decide (n ≤ 1000000000) <;> rfl)

/-- The law. -/
def s3 : List AV → List Ob → Br
  | [.agg [.int .i64 _, .int .i64 _, .str _]], [] => .ret (.bool true) []
  | _, _ => .fail
def C3 : Spec := add (add (add (add noS 15 s15) 16 s16) 17 s17) 18 s18
theorem C3_ok : ∀ fn, Sound Kx fn (C3 fn) := sound_add (sound_add (sound_add (sound_add (sound_no Kx) s15_ok) s16_ok) s17_ok) s18_ok
theorem s3_ok : Sound Kx 3 s3 := by
  refine sound_run (C := C3) (O := O0) KOk C3_ok Try.func3 (by kernel_rfl) fun args objs res os h => ⟨1, ?_⟩
  unfold s3 at h
  split at h
  · rename_i k n d
    cases h
    have h1 : runF Kx C3 O0 1 Try.f3 [.agg [.int .i64 k, .int .i64 n, .str d]] [] = bif decide (szEvent d 1048576 < 0) then some (.bool true, []) else (bif !(eventI k n d == eventS k n d) then some (.bool false, []) else some (.bool true, [])) := by kernel_rfl
    show runF Kx C3 O0 1 Try.f3 [.agg [.int .i64 k, .int .i64 n, .str d]] [] = _
    rw [h1, event_same]
    simp
  · cases h

theorem fnExactEventOk_true (xs : List AV) (h : Args [(.pair (.int .i64) (.pair (.int .i64) .str), true)] xs) : (s3 xs []).val = some (.bool true, []) := by
  obtain ⟨x, a', _, rfl, rfl⟩ := h
  rfl

end Go.Proofs.Ythdiildelpmknaa.Ev
