/-
  dragnetlaw10.awake returns true.
-/
import Derived.Test.YtoobgfammippfaaCount
import Derived.Test.YtoobgfammippfaaMake
import Derived.Test.YtoobgfammippfaaCells
namespace Go.Proofs.Ytoobgfammippfaa
open Go.RowKit
set_option maxRecDepth 100000
section
variable {w0 w : World} {p : Nat} {C C' : List (BitVec 64)} {E E' : List Ev}
theorem count_at (h : Have w0 w p C E) (x : Int) (m k v : BitVec 64) (c : Int) (hm : isM m = true) (hr : chRes C E x (fun v => sumM v (m &&& 1#64) k) = ((v, c), (C', E'))) :
    Calls Try.prog 22 #[.pointer (some ⟨p, 0, none⟩), .int .i64 x, .int .u64 (n64 m), .int .u64 (n64 k)] w fun e w' => e = .returned (.int .i64 c) ∧ Have w0 w' p C' E' :=
  h.call fun F ha => by have := count_any ha x m k hm; rw [hr] at this; exact this
theorem stick_at (h : Have w0 w p C E) (x : Int) (m v : BitVec 64) (c : Int) (hm : isM m = true) (hr : chRes C E x (fun v => v ||| m) = ((v, c), (C', E'))) :
    Calls Try.prog 18 #[.pointer (some ⟨p, 0, none⟩), .int .i64 x, .int .u64 (n64 m)] w fun e w' => e = .returned (.int .i64 c) ∧ Have w0 w' p C' E' :=
  h.call fun F ha => by have := stick_any ha x m hm; rw [hr] at this; exact this
theorem take_at (h : Have w0 w p C E) (x : Int) (v : BitVec 64) (c : Int) (hr : chRes C E x (fun _ => 0) = ((v, c), (C', E'))) :
    Calls Try.prog 21 #[.pointer (some ⟨p, 0, none⟩), .int .i64 x] w fun e w' => e = .returned (.tuple #[.int .u64 (n64 v), .int .i64 c]) ∧ Have w0 w' p C' E' :=
  h.call fun F ha => by have := take_any ha x; rw [hr] at this; exact this
theorem above_at (h : Have w0 w p C E) (x : Int) (k v : BitVec 64) (c : Int) (hr : abRes C E x k = ((v, c), (C', E'))) :
    Calls Try.prog 25 #[.pointer (some ⟨p, 0, none⟩), .int .i64 x, .int .u64 (n64 k)] w fun e w' => e = .returned (.tuple #[.int .u64 (n64 v), .int .i64 c]) ∧ Have w0 w' p C' E' :=
  h.call fun F ha => by have := above_any ha x k; rw [hr] at this; exact this
theorem plus_at (h : Have w0 w p C E) (x : Int) (m k v : BitVec 64) (c : Int) (hr : chRes C E x (fun v => sumM v m k) = ((v, c), (C', E'))) :
    Calls Try.prog 23 #[.pointer (some ⟨p, 0, none⟩), .int .i64 x, .int .u64 (n64 m), .int .u64 (n64 k)] w fun e w' => e = .returned (.int .i64 c) ∧ Have w0 w' p C' E' :=
  h.call fun F ha => by have := plusA_any ha x m k; rw [hr] at this; exact this
end

theorem ar3 (w : World) : Calls Try.prog 17 #[.slice (some ⟨w.heap.size, 0, none⟩) 3 3] (w.alloc (.cells #[.int .u64 4, .int .u64 0, .int .u64 7] 22)) fun e w' => ∃ p r, e = .returned (.tuple #[.pointer (some ⟨p, 0, none⟩), .pointer (some ⟨r, 0, none⟩)]) ∧ Have w w' p [4#64, 0#64, 7#64] [(2, 0), (2, 1), (2, 2)] := by
  refine (arena_any (C := [4#64, 0#64, 7#64]) (Rd.lit w 22 [4#64, 0#64, 7#64] (by decide)) (by decide)).mono fun e w' h => ?_
  obtain ⟨p, r, he, F, h1, h2, h3⟩ := h.have_
  exact ⟨p, r, he, F, h1, (Off.alloc (Off.refl _ _) _).also h2, fun k hk => by have := h3 k hk; simp at this; omega⟩
set_option maxHeartbeats 2000000 in
theorem awake_ok (w : World) : Calls Try.prog 16 #[] w (BoolNew true w) := by
  go_enter Try.func16, Try.ntmps16
  go_wp2_with fail
  refine (ar3 w).mono ?_
  rintro e w1 ⟨p, r, rfl, h1⟩
  have H1 := Lib.hid h1
  clear h1
  go_wp2_with fail
  refine (count_at (C' := [5#64, 0#64, 7#64]) (E' := [(2, 0), (2, 1), (2, 2), (1, 0), (2, 0)]) H1.out 0 (18446744073709551615#64) 5#64 4#64 0 rfl rfl).mono ?_
  rintro e w2 ⟨rfl, h2⟩
  have H2 := Lib.hid h2
  clear h2 H1
  go_wp2_with fail
  refine (count_at (C' := [5#64, 0#64, 7#64]) (E' := [(2, 0), (2, 1), (2, 2), (1, 0), (2, 0), (1, 0), (2, 0)]) H2.out 0 (18446744073709551615#64) 5#64 5#64 0 rfl rfl).mono ?_
  rintro e w3 ⟨rfl, h3⟩
  have H3 := Lib.hid h3
  clear h3 H2
  go_wp2_with fail
  refine (stick_at (C' := [5#64, 18446744073709551615#64, 7#64]) (E' := [(2, 0), (2, 1), (2, 2), (1, 0), (2, 0), (1, 0), (2, 0), (1, 1), (2, 1)]) H3.out 1 (18446744073709551615#64) 0#64 0 rfl rfl).mono ?_
  rintro e w4 ⟨rfl, h4⟩
  have H4 := Lib.hid h4
  clear h4 H3
  go_wp2_with fail
  refine (stick_at (C' := [5#64, 18446744073709551615#64, 7#64]) (E' := [(2, 0), (2, 1), (2, 2), (1, 0), (2, 0), (1, 0), (2, 0), (1, 1), (2, 1), (1, 1), (2, 1)]) H4.out 1 (0#64) (18446744073709551615#64) 0 rfl rfl).mono ?_
  rintro e w5 ⟨rfl, h5⟩
  have H5 := Lib.hid h5
  clear h5 H4
  go_wp2_with fail
  refine Calls.mono (R := fun e w' => e = .returned (.tuple #[.int .u64 18446744073709551615, .int .i64 0]) ∧ Have w w' p [5#64, 0#64, 7#64] [(2, 0), (2, 1), (2, 2), (1, 0), (2, 0), (1, 0), (2, 0), (1, 1), (2, 1), (1, 1), (2, 1), (1, 1), (2, 1)]) (take_at (C' := [5#64, 0#64, 7#64]) (E' := [(2, 0), (2, 1), (2, 2), (1, 0), (2, 0), (1, 0), (2, 0), (1, 1), (2, 1), (1, 1), (2, 1), (1, 1), (2, 1)]) H5.out 1 (18446744073709551615#64) 0 rfl) ?_
  rintro e w6 ⟨rfl, h6⟩
  have H6 := Lib.hid h6
  clear h6 H5
  go_wp2_with fail
  refine Calls.mono (R := fun e w' => e = .returned (.tuple #[.int .u64 2, .int .i64 0]) ∧ Have w w' p [5#64, 0#64, 7#64] [(2, 0), (2, 1), (2, 2), (1, 0), (2, 0), (1, 0), (2, 0), (1, 1), (2, 1), (1, 1), (2, 1), (1, 1), (2, 1), (1, 2)]) (above_at (C' := [5#64, 0#64, 7#64]) (E' := [(2, 0), (2, 1), (2, 2), (1, 0), (2, 0), (1, 0), (2, 0), (1, 1), (2, 1), (1, 1), (2, 1), (1, 1), (2, 1), (1, 2)]) H6.out 2 5#64 (2#64) 0 rfl) ?_
  rintro e w7 ⟨rfl, h7⟩
  have H7 := Lib.hid h7
  clear h7 H6
  go_wp2_with fail
  refine (count_arg w7 _ 0 1#64 5#64 rfl).mono ?_
  rintro e w8 ⟨rfl, h8⟩
  have H8 := Lib.hid (H7.out.off h8)
  clear h8 H7
  go_wp2_with fail
  refine Calls.mono (R := fun e w' => e = .returned (.int .u64 10) ∧ w8 = w') (sum_any 8#64 4#64 10#64 w8) ?_
  rintro e w' ⟨rfl, rfl⟩
  go_wp2_with fail
  refine Calls.mono (R := fun e w' => e = .returned (.int .u64 18446744073709551615) ∧ w8 = w') (sum_any 18446744073709551615#64 2#64 18446744073709551615#64 w8) ?_
  rintro e w' ⟨rfl, rfl⟩
  go_wp2_with fail
  refine Calls.mono (R := fun e w' => e = .returned (.int .u64 10) ∧ w8 = w') (sum_any 11#64 0#64 10#64 w8) ?_
  rintro e w' ⟨rfl, rfl⟩
  go_wp2_with fail
  refine Calls.mono (R := fun e w' => e = .returned (.int .u64 0) ∧ w8 = w') (rest_any 3#64 5#64 w8) ?_
  rintro e w' ⟨rfl, rfl⟩
  go_wp2_with fail
  refine Calls.mono (R := fun e w' => e = .returned (.int .u64 4) ∧ w8 = w') (next_any 4#64 2#64 5#64 w8) ?_
  rintro e w' ⟨rfl, rfl⟩
  go_wp2_with fail
  obtain ⟨G, hG⟩ := H8.out.ar
  refine (cells_ok hG).mono ?_
  rintro e w9 ⟨v, rfl, hv, o9⟩
  have H9 := Lib.hid (H8.out.off o9)
  have HV := Lib.hid (Rd.keep (NewU.rd hv) (Off.alloc (Off.refl Nob w9) (.cells #[.int .u64 5, .int .u64 0, .int .u64 7] 22)) (fun _ _ h => h))
  have HL := Lib.hid (Rd.lit w9 22 [5#64, 0#64, 7#64] (by decide))
  clear hG hv o9 H8
  go_wp2_with fail
  refine Calls.mono (R := BoolNew true (w9.alloc (.cells #[.int .u64 5, .int .u64 0, .int .u64 7] 22))) (sameCells_any HV.out HL.out) ?_
  rintro e w10 ⟨rfl, o10⟩
  have H10 := Lib.hid (H9.out.off ((Off.alloc (Off.refl _ _) _).also o10))
  clear o10 H9 HV HL
  obtain ⟨G2, hG2⟩ := H10.out.ar
  have HS := Lib.hid (steps_any hG2)
  clear hG2
  go_wp2_with fail
  refine HS.out.mono ?_
  rintro e w' ⟨rfl, rfl⟩
  go_wp2
  go_ret
  exact ⟨rfl, H10.out.old⟩
end Go.Proofs.Ytoobgfammippfaa
