/-
  dragnetlaw08.awake returns true.
-/
import Derived.Test.YtdgehacbpjgmcaaCmpSortAny
import Derived.Test.YtdgehacbpjgmcaaMake
import Derived.Test.YtdgehacbpjgmcaaTwin
namespace Go.Proofs.Ytdgehacbpjgmcaa
open Go.RowKit
set_option linter.unusedVariables false
set_option maxRecDepth 100000
section
variable {w0 w : World} {p : Nat} {C C' : List (BitVec 64)} {E E' : List Ev}
theorem ltRows_at (h : Have w0 w p C E) (x y n : Int) (s v : BitVec 64) (c : Int) (hr : crR C E x y n = ((s, v, c), (C', E'))) :
    Calls Try.prog 11 #[.pointer (some ⟨p, 0, none⟩), .int .i64 x, .int .i64 y, .int .i64 n] w fun e w' => e = .returned (.tuple #[.int .u64 (n64 v), .int .i64 c]) ∧ Have w0 w' p C' E' :=
  h.call fun F ha => by have := ltRows_any ha x y n; rw [hr] at this; exact this
theorem eqRows_at (h : Have w0 w p C E) (x y n : Int) (s v : BitVec 64) (c : Int) (hr : crR C E x y n = ((s, v, c), (C', E'))) :
    Calls Try.prog 12 #[.pointer (some ⟨p, 0, none⟩), .int .i64 x, .int .i64 y, .int .i64 n] w fun e w' => e = .returned (.tuple #[.int .u64 (n64 s), .int .i64 c]) ∧ Have w0 w' p C' E' :=
  h.call fun F ha => by have := eqRows_any ha x y n; rw [hr] at this; exact this
theorem exch_at (h : Have w0 w p C E) (x y n c : Int) (hr : exR C E x y n = (c, (C', E'))) :
    Calls Try.prog 32 #[.pointer (some ⟨p, 0, none⟩), .int .i64 x, .int .i64 y, .int .i64 n] w fun e w' => e = .returned (.int .i64 c) ∧ Have w0 w' p C' E' :=
  h.call fun F ha => by have := cExch_any ha x y n; rw [hr] at this; exact this
theorem sort_at (h : Have w0 w p C E) (base many n c : Int) (hr : soR C E base many n = (c, (C', E'))) :
    Calls Try.prog 14 #[.pointer (some ⟨p, 0, none⟩), .int .i64 base, .int .i64 many, .int .i64 n] w fun e w' => e = .returned (.int .i64 c) ∧ Have w0 w' p C' E' :=
  h.call fun F ha => by have := csort_any ha base many n; rw [hr] at this; exact this
end
def aw0 : List (BitVec 64) := [3#64, 9#64, 1#64, 7#64, 3#64, 5#64]
def aw1 : List (BitVec 64) := [1#64, 7#64, 3#64, 9#64, 3#64, 5#64]
def awE0 : List Ev := [(2, 0), (2, 1), (2, 2), (2, 3), (2, 4), (2, 5)]
def awE1 : List Ev := evR 4 0 awE0 2
def awE2 : List Ev := evR 0 4 awE1 1
def awE3 : List Ev := (soL 0 2 (aw0, awE2) (pl 2)).2
theorem aw_lt : crR aw0 awE0 4 0 2 = ((0#64, 18446744073709551615#64, 0), (aw0, awE1)) := by decide
theorem aw_eq : crR aw0 awE1 0 4 1 = ((18446744073709551615#64, 0#64, 0), (aw0, awE2)) := by decide
theorem aw_ex : exR aw0 awE2 0 1 2 = (2, (aw0, awE2)) := by decide
theorem aw_cells : (soL 0 2 (aw0, awE2) (pl 2)).1 = aw1 := by decide
theorem aw_so : soR aw0 awE2 0 3 2 = (0, (aw1, awE3)) := by
  unfold soR
  rw [if_pos (show soE aw0.length awE2.length 0 3 2 = 0 by decide)]
  show (0, soL 0 2 (aw0, awE2) (pl 2)) = _
  rw [← aw_cells]
  rfl
theorem aw_len : awE3.length = 42 := by decide
theorem ar6 (w : World) : Calls Try.prog 10 #[.slice (some ⟨w.heap.size, 0, none⟩) 6 6] (w.alloc (.cells #[.int .u64 3, .int .u64 9, .int .u64 1, .int .u64 7, .int .u64 3, .int .u64 5] 28)) fun e w' => ∃ p r, e = .returned (.tuple #[.pointer (some ⟨p, 0, none⟩), .pointer (some ⟨r, 0, none⟩)]) ∧ Have w w' p aw0 awE0 := by
  refine (arena_any (C := aw0) (Rd.lit w 28 aw0 (by decide)) (by decide)).mono fun e w' h => ?_
  obtain ⟨p, r, he, F, h1, h2, h3⟩ := h.have_
  exact ⟨p, r, he, F, h1, (Off.alloc (Off.refl _ _) _).also h2, fun k hk => by have := h3 k hk; simp at this; omega⟩
set_option maxHeartbeats 2000000 in
theorem awake_ok (w : World) : Calls Try.prog 9 #[] w (BoolNew true w) := by
  go_enter Try.func9, Try.ntmps9
  go_wp2_with fail
  refine (ar6 w).mono ?_
  rintro e w1 ⟨p, r, rfl, h1⟩
  have H1 := Lib.hid h1
  clear h1
  go_wp2_with fail
  refine Calls.mono (R := fun e w' => e = .returned (.tuple #[.int .u64 18446744073709551615, .int .i64 0]) ∧ Have w w' p aw0 awE1) (ltRows_at H1.out 4 0 2 _ _ _ aw_lt) ?_
  rintro e w2 ⟨rfl, h2⟩
  have H2 := Lib.hid h2
  clear h2 H1
  go_wp2_with fail
  refine Calls.mono (R := fun e w' => e = .returned (.tuple #[.int .u64 18446744073709551615, .int .i64 0]) ∧ Have w w' p aw0 awE2) (eqRows_at H2.out 0 4 1 _ _ _ aw_eq) ?_
  rintro e w3 ⟨rfl, h3⟩
  have H3 := Lib.hid h3
  clear h3 H2
  go_wp2_with fail
  refine (exch_at H3.out 0 1 2 _ aw_ex).mono ?_
  rintro e w4 ⟨rfl, h4⟩
  have H4 := Lib.hid h4
  clear h4 H3
  go_wp2_with fail
  refine (sort_at H4.out 0 3 2 _ aw_so).mono ?_
  rintro e w5 ⟨rfl, h5⟩
  have H5 := Lib.hid h5
  clear h5 H4
  go_wp2_with fail
  refine Calls.mono (R := fun e w' => e = .returned (.int .u64 18446744073709551615) ∧ w5 = w') (less_any 3#64 4#64 w5) ?_
  rintro e w' ⟨rfl, rfl⟩
  go_wp2_with fail
  refine Calls.mono (R := fun e w' => e = .returned (.int .u64 0) ∧ w5 = w') (less_any 4#64 3#64 w5) ?_
  rintro e w' ⟨rfl, rfl⟩
  go_wp2_with fail
  refine Calls.mono (R := fun e w' => e = .returned (.int .u64 18446744073709551615) ∧ w5 = w') (lessS_any 18446744073709551615#64 0#64 w5) ?_
  rintro e w' ⟨rfl, rfl⟩
  go_wp2_with fail
  refine Calls.mono (R := fun e w' => e = .returned (.int .u64 18446744073709551615) ∧ w5 = w') (between_any 5#64 5#64 6#64 w5) ?_
  rintro e w' ⟨rfl, rfl⟩
  go_wp2_with fail
  obtain ⟨G, hG⟩ := H5.out.ar
  refine (cells_ok hG).mono ?_
  rintro e w7 ⟨u, rfl, hu, o7⟩
  have H7 := Lib.hid (H5.out.off o7)
  have HU := Lib.hid (Rd.keep (NewU.rd hu) (Off.alloc (Off.refl Nob w7) (.cells #[.int .u64 1, .int .u64 7, .int .u64 3, .int .u64 9, .int .u64 3, .int .u64 5] 28)) (fun _ _ h => h))
  have HQ := Lib.hid (Rd.lit w7 28 aw1 (by decide))
  clear hG hu o7 H5
  go_wp2_with fail
  refine Calls.mono (R := BoolNew true (w7.alloc (.cells #[.int .u64 1, .int .u64 7, .int .u64 3, .int .u64 9, .int .u64 3, .int .u64 5] 28))) (sameCells_any HU.out HQ.out) ?_
  rintro e w8 ⟨rfl, o8⟩
  have H8 := Lib.hid (H7.out.off ((Off.alloc (Off.refl _ _) _).also o8))
  clear o8 H7 HU HQ
  obtain ⟨G, hG⟩ := H8.out.ar
  have HS := Lib.hid (steps_any hG)
  clear hG
  go_wp2_with fail
  refine Calls.mono (R := fun e w' => e = .returned (.int .i64 42) ∧ w8 = w') (by have := HS.out; rwa [aw_len] at this) ?_
  rintro e w' ⟨rfl, rfl⟩
  go_wp2
  go_ret
  exact ⟨rfl, H8.out.old⟩
end Go.Proofs.Ytdgehacbpjgmcaa
