/-
  dragnetlaw07.awake returns true; masks.Zero and Not.
-/
import Derived.Test.YtoplnkpjepejkaaMaskSwap
import Derived.Test.YtoplnkpjepejkaaMake
import Derived.Test.YtoplnkpjepejkaaEvs
namespace Go.Proofs.Ytoplnkpjepejkaa
open Go.RowKit
attribute [local go_sem] bits_and_u64 bits_or_u64 bits_xor_u64 bits_andNot_u64 wrap_u64 bv_add bv_neg bv_sub bv_mul
set_option maxRecDepth 100000
theorem zero_eq (x : BitVec 64) : ~~~ (ofM ((x ||| -x) >>> 63)) = zeM x := by
  rw [shr63, zero_shr]
  unfold zeM ofM
  by_cases h : x.toNat = 0
  · rw [decide_eq_true h]; rfl
  · rw [decide_eq_false h]; rfl
theorem top_any (a : BitVec 64) (w : World) :
    Calls Try.prog 35 #[.int .u64 (n64 a)] w fun e w' => e = .returned (.int .u64 (n64 (a >>> 63))) ∧ w = w' := by
  go_enter Try.func35, Try.ntmps35
  go_wp2
  go_ret
  exact ⟨ret_int (by rw [n64_shr63]), rfl⟩
theorem zero_any (a : BitVec 64) (w : World) :
    Calls Try.prog 11 #[.int .u64 (n64 a)] w fun e w' => e = .returned (.int .u64 (n64 (zeM a))) ∧ w = w' := by
  go_enter Try.func11, Try.ntmps11
  go_wp2_with fail
  refine (top_any _ w).mono ?_
  rintro e w' ⟨rfl, rfl⟩
  go_wp2_with fail
  refine (spread_any _ w).mono ?_
  rintro e w' ⟨rfl, rfl⟩
  go_wp2
  go_ret
  exact ⟨ret_int (by rw [bv_max, inv_eq, zero_eq]), rfl⟩
theorem not_any (a : BitVec 64) (w : World) :
    Calls Try.prog 13 #[.int .u64 (n64 a)] w fun e w' => e = .returned (.int .u64 (n64 (~~~ a))) ∧ w = w' := by
  go_enter Try.func13, Try.ntmps13
  go_wp2
  go_ret
  exact ⟨ret_int (by rw [bv_max, inv_eq]), rfl⟩
section
variable {w0 w : World} {p : Nat} {C C' : List (BitVec 64)} {E E' : List Ev}
theorem swapRows_at (h : Have w0 w p C E) (m : BitVec 64) (x y n c : Int) (hr : rwR C E m x y n 4 (swF m x.toNat y.toNat) = (c, (C', E'))) :
    Calls Try.prog 23 #[.pointer (some ⟨p, 0, none⟩), .int .u64 (n64 m), .int .i64 x, .int .i64 y, .int .i64 n] w fun e w' => e = .returned (.int .i64 c) ∧ Have w0 w' p C' E' :=
  h.call fun F ha => by have := swapRows_any ha m x y n; rw [hr] at this; exact this
theorem swap_at (h : Have w0 w p C E) (m : BitVec 64) (x y c : Int) (hr : swR C E m x y = (c, (C', E'))) :
    Calls Try.prog 30 #[.pointer (some ⟨p, 0, none⟩), .int .u64 (n64 m), .int .i64 x, .int .i64 y] w fun e w' => e = .returned (.int .i64 c) ∧ Have w0 w' p C' E' :=
  h.call fun F ha => by have := swapA_any ha m x y; rw [hr] at this; exact this
end
theorem ar4 (w : World) : Calls Try.prog 21 #[.slice (some ⟨w.heap.size, 0, none⟩) 4 4] (w.alloc (.cells #[.int .u64 5, .int .u64 6, .int .u64 7, .int .u64 8] 22)) fun e w' => ∃ p r, e = .returned (.tuple #[.pointer (some ⟨p, 0, none⟩), .pointer (some ⟨r, 0, none⟩)]) ∧ Have w w' p [5#64, 6#64, 7#64, 8#64] [(2, 0), (2, 1), (2, 2), (2, 3)] := by
  refine (arena_any (C := [5#64, 6#64, 7#64, 8#64]) (Rd.lit w 22 [5#64, 6#64, 7#64, 8#64] (by decide)) (by decide)).mono fun e w' h => ?_
  obtain ⟨p, r, he, F, h1, h2, h3⟩ := h.have_
  exact ⟨p, r, he, F, h1, (Off.alloc (Off.refl _ _) _).also h2, fun k hk => by have := h3 k hk; simp at this; omega⟩
set_option maxHeartbeats 2000000 in
theorem awake_ok (w : World) : Calls Try.prog 19 #[] w (BoolNew true w) := by
  go_enter Try.func19, Try.ntmps19
  go_wp2_with fail
  refine (ar4 w).mono ?_
  rintro e w1 ⟨p, r, rfl, h1⟩
  have H1 := Lib.hid h1
  clear h1
  go_wp2_with fail
  refine (swapRows_at (C' := [7#64, 8#64, 5#64, 6#64]) (E' := [(2, 0), (2, 1), (2, 2), (2, 3), (1, 0), (1, 2), (2, 0), (2, 2), (1, 1), (1, 3), (2, 1), (2, 3)]) H1.out 18446744073709551615#64 0 2 2 0 rfl).mono ?_
  rintro e w2 ⟨rfl, h2⟩
  have H2 := Lib.hid h2
  clear h2 H1
  go_wp2_with fail
  refine (swapRows_at (C' := [7#64, 8#64, 5#64, 6#64]) (E' := [(2, 0), (2, 1), (2, 2), (2, 3), (1, 0), (1, 2), (2, 0), (2, 2), (1, 1), (1, 3), (2, 1), (2, 3)]) H2.out 18446744073709551615#64 0 1 2 2 rfl).mono ?_
  rintro e w3 ⟨rfl, h3⟩
  have H3 := Lib.hid h3
  clear h3 H2
  go_wp2_with fail
  refine (swap_at (C' := [7#64, 8#64, 5#64, 6#64]) (E' := [(2, 0), (2, 1), (2, 2), (2, 3), (1, 0), (1, 2), (2, 0), (2, 2), (1, 1), (1, 3), (2, 1), (2, 3), (1, 0), (1, 1), (2, 0), (2, 1)]) H3.out 0#64 0 1 0 rfl).mono ?_
  rintro e w4 ⟨rfl, h4⟩
  have H4 := Lib.hid h4
  clear h4 H3
  go_wp2_with fail
  refine (swap_at (C' := [7#64, 8#64, 5#64, 6#64]) (E' := [(2, 0), (2, 1), (2, 2), (2, 3), (1, 0), (1, 2), (2, 0), (2, 2), (1, 1), (1, 3), (2, 1), (2, 3), (1, 0), (1, 1), (2, 0), (2, 1)]) H4.out 1#64 0 1 2 rfl).mono ?_
  rintro e w5 ⟨rfl, h5⟩
  have H5 := Lib.hid h5
  clear h5 H4
  go_wp2_with fail
  obtain ⟨G, hG⟩ := H5.out.ar
  refine (since_ok hG 12 (by decide)).mono ?_
  rintro e w6 ⟨v, rfl, hv, o6⟩
  have H6 := Lib.hid (H5.out.off o6)
  have HV := Lib.hid (NewE.rd hv)
  clear hG hv o6 H5
  go_wp2_with fail
  refine Calls.mono (R := fun e w' => e = .returned (.int .u64 18446744073709551615) ∧ w6 = w') (of_any 3#64 w6) ?_
  rintro e w' ⟨rfl, rfl⟩
  go_wp2_with fail
  refine Calls.mono (R := fun e w' => e = .returned (.int .u64 0) ∧ w6 = w') (of_any 2#64 w6) ?_
  rintro e w' ⟨rfl, rfl⟩
  go_wp2_with fail
  refine Calls.mono (R := fun e w' => e = .returned (.int .u64 18446744073709551615) ∧ w6 = w') (zero_any 0#64 w6) ?_
  rintro e w' ⟨rfl, rfl⟩
  go_wp2_with fail
  refine Calls.mono (R := fun e w' => e = .returned (.int .u64 9) ∧ w6 = w') (select_any 12#64 10#64 5#64 w6) ?_
  rintro e w' ⟨rfl, rfl⟩
  go_wp2_with fail
  obtain ⟨G, hG⟩ := H6.out.ar
  refine (cells_ok hG).mono ?_
  rintro e w7 ⟨u, rfl, hu, o7⟩
  have H7 := Lib.hid (H6.out.off o7)
  have HV7 := Lib.hid (HV.out.keep o7 (fun _ _ h => h))
  have HU := Lib.hid (Rd.keep (NewU.rd hu) (Off.alloc (Off.refl Nob w7) (.cells #[.int .u64 7, .int .u64 8, .int .u64 5, .int .u64 6] 22)) (fun _ _ h => h))
  have HQ := Lib.hid (Rd.lit w7 22 [7#64, 8#64, 5#64, 6#64] (by decide))
  clear hG hu o7 H6 HV
  go_wp2_with fail
  refine Calls.mono (R := BoolNew true (w7.alloc (.cells #[.int .u64 7, .int .u64 8, .int .u64 5, .int .u64 6] 22))) (sameCells_any HU.out HQ.out) ?_
  rintro e w8 ⟨rfl, o8⟩
  have H8 := Lib.hid (H7.out.off ((Off.alloc (Off.refl _ _) _).also o8))
  have HV8 := Lib.hid (HV7.out.keep ((Off.alloc (Off.refl _ _) _).also o8) (fun _ _ h => h))
  clear o8 H7 HU HQ HV7
  have HV9 := Lib.hid (HV8.out.keep (Off.alloc (Off.refl Nob w8) (.cells #[.int .i32 1, .int .i32 0, .int .i32 1, .int .i32 1, .int .i32 2, .int .i32 0, .int .i32 2, .int .i32 1] 62)) (fun _ _ h => h))
  have HL9 := Lib.hid (Rd.litE w8 62 [(1, 0), (1, 1), (2, 0), (2, 1)] (by decide))
  clear HV8
  go_wp2_with fail
  refine Calls.mono (R := BoolNew true (w8.alloc (.cells #[.int .i32 1, .int .i32 0, .int .i32 1, .int .i32 1, .int .i32 2, .int .i32 0, .int .i32 2, .int .i32 1] 62))) (sameEvents_any HV9.out HL9.out) ?_
  rintro e w9 ⟨rfl, o9⟩
  have HO := Lib.hid (H8.out.old.also ((Off.alloc (Off.refl Nob w8) _).also o9))
  clear o9 H8 HV9 HL9
  go_wp2
  go_ret
  exact ⟨rfl, HO.out⟩
end Go.Proofs.Ytoplnkpjepejkaa
