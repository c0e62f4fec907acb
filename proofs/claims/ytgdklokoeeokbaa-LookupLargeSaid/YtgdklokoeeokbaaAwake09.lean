/-
  dragnetlaw09.awake returns true.
-/
import Derived.Test.YtgdklokoeeokbaaLookPut
import Derived.Test.YtgdklokoeeokbaaLookRow
import Derived.Test.YtgdklokoeeokbaaLookFind
import Derived.Test.YtgdklokoeeokbaaMake
import Derived.Test.YtgdklokoeeokbaaTwin
namespace Go.Proofs.Ytgdklokoeeokbaa
open Go.RowKit
set_option linter.unusedVariables false
set_option maxRecDepth 100000
/-- The row that GetRow has gathered. -/
def rowL (V : Nat → BitVec 64) (idx : BitVec 64) (n k : Nat) : List (BitVec 64) := (List.range n).map fun j => rwF V idx n k j
theorem length_rowL (V : Nat → BitVec 64) (idx : BitVec 64) (n k : Nat) : (rowL V idx n k).length = n := by simp [rowL]
theorem Rd.row {w : World} {g : Nat} {t : TypeId} {V : Nat → BitVec 64} {idx : BitVec 64} {n k : Nat} (h : Blk w g t (rwC V idx n k)) (hn : n ≤ 64) : Rd w (fun x => x = g) 1 (.slice (some ⟨g, 0, none⟩) n n) n (u64s (rowL V idx n k)) := by
  refine ⟨_, _, rfl, by unfold maxLen; omega, by rw [length_u64s, length_rowL, Nat.mul_one], fun _ => ⟨g, 0, rfl, rfl, h.lt, fun j u hu => ?_⟩⟩
  have hj : j < n := by
    have := (List.getElem?_eq_some_iff.1 hu).1
    rwa [length_u64s, length_rowL] at this
  rw [Nat.zero_add, h.cell, rwC_at _ _ _ _ _ hj, ← hu]
  unfold u64s rowL
  simp [hj]
section
variable {w0 w : World} {bs : Bks} {p : Nat} {C C' : List (BitVec 64)} {E E' : List Ev}
theorem One.row {P : Program} {f : FuncId} {xs : Array Value} {t : TypeId} {cs : Array Value} {ret : Nat → Ending} (h : One w0 w bs p C E)
    (hc : ∀ F, Ar w F p C E → Calls P f xs w fun e w' => ∃ g, e = ret g ∧ Wk w F w' [(g, t, cs)] p C' E') : Calls P f xs w fun e w' => ∃ g, e = ret g ∧ One w0 w' ((g, t, cs) :: bs) p C' E' := by
  obtain ⟨F, ha, ho, hf, hb⟩ := h
  refine (hc F ha).mono fun e w' ⟨g, he, F1, a1, a2, a3, a4, a5, a6⟩ => ⟨g, he, F1, a1, ho.own a3 hf, fun k hk => ?_, fun x hx => ?_⟩
  · rcases a2 k hk with h1 | h1
    · exact hf k h1
    · exact Nat.le_trans ho.size h1
  · rcases List.mem_cons.1 hx with rfl | hx
    · obtain ⟨b1, b2, _⟩ := a5 _ (List.mem_singleton.2 rfl)
      exact ⟨b1, b2⟩
    · obtain ⟨b1, b2⟩ := hb x hx
      refine ⟨b1.to (a3.block _ b1.lt b2), fun hk => ?_⟩
      rcases a2 _ hk with h1 | h1
      · exact b2 h1
      · exact absurd b1.lt (by omega)
theorem get_at (h : One w0 w bs p C E) (base n : Int) (idx v : BitVec 64) (c : Int) (hr : geR C E base n idx = ((v, c), (C', E'))) :
    Calls Try.prog 11 #[.pointer (some ⟨p, 0, none⟩), .int .i64 base, .int .i64 n, .int .u64 (n64 idx)] w fun e w' => e = .returned (.tuple #[.int .u64 (n64 v), .int .i64 c]) ∧ One w0 w' bs p C' E' :=
  h.call fun w F ha => by have := get_any ha base n idx; rw [hr] at this; exact this
theorem find_at (h : One w0 w bs p C E) (base n : Int) (u v : BitVec 64) (c : Int) (hr : fiR C E base n u = ((v, c), (C', E'))) :
    Calls Try.prog 12 #[.pointer (some ⟨p, 0, none⟩), .int .i64 base, .int .i64 n, .int .u64 (n64 u)] w fun e w' => e = .returned (.tuple #[.int .u64 (n64 v), .int .i64 c]) ∧ One w0 w' bs p C' E' :=
  h.call fun w F ha => by have := find_any ha base n u; rw [hr] at this; exact this
theorem put_at (h : One w0 w bs p C E) (base n : Int) (idx m v : BitVec 64) (c : Int) (he : chE C.length E.length base n m = c) (hr : chR (fun _ => v) C E base n idx m = (C', E')) :
    Calls Try.prog 15 #[.pointer (some ⟨p, 0, none⟩), .int .i64 base, .int .i64 n, .int .u64 (n64 idx), .int .u64 (n64 m), .int .u64 (n64 v)] w fun e w' => e = .returned (.int .i64 c) ∧ One w0 w' bs p C' E' :=
  h.call fun w F ha => by have := put_any ha base n idx m v; rw [hr, he] at this; exact this
theorem row_at (h : One w0 w bs p C E) (base many n : Int) (idx : BitVec 64) (hz : grE C.length E.length base many n = 0) :
    Calls Try.prog 10 #[.pointer (some ⟨p, 0, none⟩), .int .i64 base, .int .i64 many, .int .i64 n, .int .u64 (n64 idx)] w fun e w' => ∃ g, e = .returned (.tuple #[.slice (some ⟨g, 0, none⟩) n.toNat n.toNat, .int .i64 0]) ∧ One w0 w' ((g, 23, rwC (fun i => cl C (base.toNat + i)) idx n.toNat (many.toNat * n.toNat)) :: bs) p C (ldE base.toNat E (many.toNat * n.toNat)) :=
  h.row fun F ha => (getRow_any ha base many n idx).mono fun e w' hh => by
    rcases hh with ⟨h1, _⟩ | ⟨_, h2⟩
    · exact absurd hz h1
    · exact h2
end
def aw0 : List (BitVec 64) := [5#64, 6#64, 7#64, 6#64, 0#64, 0#64]
def aw1 : List (BitVec 64) := [5#64, 6#64, 7#64, 9#64, 0#64, 0#64]
def awE0 : List Ev := stores 6
def awE1 : List Ev := ldE 0 awE0 4
def awE2 : List Ev := ldE 0 awE1 4
def awE3 : List Ev := ldE 0 awE2 4
def awE4 : List Ev := ldE 0 awE3 4
def awE5 : List Ev := (chS (fun _ => 9#64) 2#64 18446744073709551615#64 1 aw0 awE4 3).2
theorem aw_g1 : geR aw0 awE0 0 4 2#64 = ((7#64, 0), (aw0, awE1)) := by decide
theorem aw_g2 : geR aw0 awE1 0 4 4#64 = ((0#64, 0), (aw0, awE2)) := by decide
theorem aw_r : grE aw0.length awE2.length 0 2 2 = 0 := by decide
theorem aw_row : rowL (fun i => cl aw0 ((0 : Int).toNat + i)) 1#64 2 4 = [7#64, 6#64] := by decide
theorem aw_f : fiR aw0 awE3 0 4 6#64 = ((1#64, 0), (aw0, awE4)) := by decide
theorem aw_p1e : chE aw0.length awE4.length 1 3 18446744073709551615#64 = 0 := by decide
theorem aw_p1 : chR (fun _ => 9#64) aw0 awE4 1 3 2#64 18446744073709551615#64 = (aw1, awE5) := by decide
theorem aw_p2e : chE aw1.length awE5.length 0 1 1#64 = 2 := by decide
theorem aw_p2 : chR (fun _ => 1#64) aw1 awE5 0 1 0#64 1#64 = (aw1, awE5) := by decide
theorem aw_len : awE5.length = 28 := by decide
theorem ar6 (w : World) : Calls Try.prog 9 #[.slice (some ⟨w.heap.size, 0, none⟩) 6 6] (w.alloc (.cells #[.int .u64 5, .int .u64 6, .int .u64 7, .int .u64 6, .int .u64 0, .int .u64 0] 23)) fun e w' => ∃ p r, e = .returned (.tuple #[.pointer (some ⟨p, 0, none⟩), .pointer (some ⟨r, 0, none⟩)]) ∧ One w w' [] p aw0 awE0 := by
  refine (arena_any (C := aw0) (Rd.lit w 23 aw0 (by decide)) (by decide)).mono fun e w' h => ?_
  exact h.one (w0 := w) (bs := []) (Off.alloc (Off.refl _ _) _) (fun x hx => by cases hx)
set_option maxHeartbeats 2000000 in
theorem awake_ok (w : World) : Calls Try.prog 8 #[] w (BoolNew true w) := by
  go_enter Try.func8, Try.ntmps8
  go_wp2_with fail
  refine (ar6 w).mono ?_
  rintro e w1 ⟨p, r, rfl, h1⟩
  have H1 := Lib.hid h1
  clear h1
  go_wp2_with fail
  refine Calls.mono (R := fun e w' => e = .returned (.tuple #[.int .u64 7, .int .i64 0]) ∧ One w w' [] p aw0 awE1) (get_at H1.out 0 4 2#64 _ _ aw_g1) ?_
  rintro e w2 ⟨rfl, h2⟩
  have H2 := Lib.hid h2
  clear h2 H1
  go_wp2_with fail
  refine Calls.mono (R := fun e w' => e = .returned (.tuple #[.int .u64 0, .int .i64 0]) ∧ One w w' [] p aw0 awE2) (get_at H2.out 0 4 4#64 _ _ aw_g2) ?_
  rintro e w3 ⟨rfl, h3⟩
  have H3 := Lib.hid h3
  clear h3 H2
  go_wp2_with fail
  refine (row_at H3.out 0 2 2 1#64 aw_r).mono ?_
  rintro e w4 ⟨g, rfl, h4⟩
  have H4 := Lib.hid h4
  clear h4 H3
  go_wp2_with fail
  refine Calls.mono (R := fun e w' => e = .returned (.tuple #[.int .u64 1, .int .i64 0]) ∧ One w w' _ p aw0 awE4) (find_at H4.out 0 4 6#64 _ _ aw_f) ?_
  rintro e w5 ⟨rfl, h5⟩
  have H5 := Lib.hid h5
  clear h5 H4
  go_wp2_with fail
  refine Calls.mono (R := fun e w' => e = .returned (.int .i64 0) ∧ One w w' _ p aw1 awE5) (put_at H5.out 1 3 2#64 18446744073709551615#64 9#64 _ aw_p1e aw_p1) ?_
  rintro e w6 ⟨rfl, h6⟩
  have H6 := Lib.hid h6
  clear h6 H5
  go_wp2_with fail
  refine Calls.mono (R := fun e w' => e = .returned (.int .i64 2) ∧ One w w' _ p aw1 awE5) (put_at H6.out 0 1 0#64 1#64 1#64 _ aw_p2e aw_p2) ?_
  rintro e w7 ⟨rfl, h7⟩
  have HR := Lib.hid (Rd.row (h7.blk (List.mem_cons_self ..)) (by decide))
  rw [show rowL (fun i => cl aw0 ((0 : Int).toNat + i)) 1#64 (2 : Int).toNat ((2 : Int).toNat * (2 : Int).toNat) = [7#64, 6#64] from aw_row] at HR
  have HU := Lib.hid (HR.out.keep (Off.alloc (Off.refl Nob w7) (.cells #[.int .u64 7, .int .u64 6] 23)) (fun _ _ h => h))
  have HQ := Lib.hid (Rd.lit w7 23 [7#64, 6#64] (by decide))
  have H7 := Lib.hid h7
  clear h7 H6 HR
  go_wp2_with fail
  refine Calls.mono (R := BoolNew true (w7.alloc (.cells #[.int .u64 7, .int .u64 6] 23))) (sameCells_any HU.out HQ.out) ?_
  rintro e w8 ⟨rfl, o8⟩
  have H8 := Lib.hid (H7.out.off ((Off.alloc (Off.refl _ _) _).also o8))
  clear o8 H7 HU HQ
  go_wp2_with fail
  obtain ⟨G, hG⟩ := H8.out.ar
  refine (cells_ok hG).mono ?_
  rintro e w9 ⟨u, rfl, hu, o9⟩
  have H9 := Lib.hid (H8.out.off o9)
  have HU := Lib.hid (Rd.keep (NewU.rd hu) (Off.alloc (Off.refl Nob w9) (.cells #[.int .u64 5, .int .u64 6, .int .u64 7, .int .u64 9, .int .u64 0, .int .u64 0] 23)) (fun _ _ h => h))
  have HQ := Lib.hid (Rd.lit w9 23 aw1 (by decide))
  clear hG hu o9 H8
  go_wp2_with fail
  refine Calls.mono (R := BoolNew true (w9.alloc (.cells #[.int .u64 5, .int .u64 6, .int .u64 7, .int .u64 9, .int .u64 0, .int .u64 0] 23))) (sameCells_any HU.out HQ.out) ?_
  rintro e w10 ⟨rfl, o10⟩
  have H10 := Lib.hid (H9.out.off ((Off.alloc (Off.refl _ _) _).also o10))
  clear o10 H9 HU HQ
  obtain ⟨G, hG⟩ := H10.out.ar
  have HS := Lib.hid (steps_any hG)
  clear hG
  go_wp2_with fail
  refine Calls.mono (R := fun e w' => e = .returned (.int .i64 28) ∧ w10 = w') (by have := HS.out; rwa [aw_len] at this) ?_
  rintro e w' ⟨rfl, rfl⟩
  go_wp2
  go_ret
  exact ⟨rfl, H10.out.old⟩
end Go.Proofs.Ytgdklokoeeokbaa
