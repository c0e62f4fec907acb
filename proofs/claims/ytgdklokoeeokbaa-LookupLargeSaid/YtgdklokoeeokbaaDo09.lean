/-
  dragnetlaw09.do: a call in both arenas.
-/
import Derived.Test.YtgdklokoeeokbaaRef09Row
import Derived.Test.YtgdklokoeeokbaaLookFill
import Derived.Test.YtgdklokoeeokbaaLookPut
import Derived.Test.YtgdklokoeeokbaaPG
import Derived.Test.YtgdklokoeeokbaaBoth
import Derived.Deep.RegionHeld3
namespace Go.Proofs.Ytgdklokoeeokbaa
open Go.RowKit
attribute [local go_sem] bits_and_u64 bits_or_u64 bits_xor_u64 bits_andNot_u64 wrap_u64 bv_add bv_neg bv_sub bv_mul
set_option linter.unusedVariables false
set_option maxRecDepth 100000
/-- The cells of a Call. -/
def pcs (base n many : Int) (idx m v : BitVec 64) : Array Value := #[.int .i64 base, .int .i64 n, .int .i64 many, .int .u64 (n64 idx), .int .u64 (n64 m), .int .u64 (n64 v)]
theorem pcs_cells {w : World} {b : Nat} {base n many : Int} {idx m v : BitVec 64} {t : TypeId} (h : Blk w b t (pcs base n many idx m v)) :
    w.cell? ⟨b, 0, none⟩ = some (.int .i64 base) ∧ w.cell? ⟨b, 1, none⟩ = some (.int .i64 n) ∧ w.cell? ⟨b, 2, none⟩ = some (.int .i64 many) ∧ w.cell? ⟨b, 3, none⟩ = some (.int .u64 (n64 idx)) ∧ w.cell? ⟨b, 4, none⟩ = some (.int .u64 (n64 m)) ∧ w.cell? ⟨b, 5, none⟩ = some (.int .u64 (n64 v)) := ⟨h.cell 0, h.cell 1, h.cell 2, h.cell 3, h.cell 4, h.cell 5⟩
theorem Pair.p6 {w0 w : World} {b : Nat} {base n many : Int} {idx m v : BitVec 64} {t : TypeId} {p r : Nat} {C C' : List (BitVec 64)} {E E' : List Ev} (h : Pair w0 w b t (pcs base n many idx m v) p r C E C' E') :
    w.cell? ⟨b, 0, none⟩ = some (.int .i64 base) ∧ w.cell? ⟨b, 1, none⟩ = some (.int .i64 n) ∧ w.cell? ⟨b, 2, none⟩ = some (.int .i64 many) ∧ w.cell? ⟨b, 3, none⟩ = some (.int .u64 (n64 idx)) ∧ w.cell? ⟨b, 4, none⟩ = some (.int .u64 (n64 m)) ∧ w.cell? ⟨b, 5, none⟩ = some (.int .u64 (n64 v)) := pcs_cells h.blk
theorem PR.p6 {w0 w : World} {b : Nat} {base n many : Int} {idx m v : BitVec 64} {t : TypeId} {p r sz N : Nat} {C C' : List (BitVec 64)} {E E' : List Ev} {u : Value} {xs : List Value} (h : PR w0 w b t (pcs base n many idx m v) sz u N xs p r C E C' E') :
    w.cell? ⟨b, 0, none⟩ = some (.int .i64 base) ∧ w.cell? ⟨b, 1, none⟩ = some (.int .i64 n) ∧ w.cell? ⟨b, 2, none⟩ = some (.int .i64 many) ∧ w.cell? ⟨b, 3, none⟩ = some (.int .u64 (n64 idx)) ∧ w.cell? ⟨b, 4, none⟩ = some (.int .u64 (n64 m)) ∧ w.cell? ⟨b, 5, none⟩ = some (.int .u64 (n64 v)) := pcs_cells h.blk
theorem Solo.p6 {w0 w : World} {b : Nat} {base n many : Int} {idx m v : BitVec 64} {t : TypeId} (h : Solo w0 w b t (pcs base n many idx m v)) :
    w.cell? ⟨b, 0, none⟩ = some (.int .i64 base) ∧ w.cell? ⟨b, 1, none⟩ = some (.int .i64 n) ∧ w.cell? ⟨b, 2, none⟩ = some (.int .i64 many) ∧ w.cell? ⟨b, 3, none⟩ = some (.int .u64 (n64 idx)) ∧ w.cell? ⟨b, 4, none⟩ = some (.int .u64 (n64 m)) ∧ w.cell? ⟨b, 5, none⟩ = some (.int .u64 (n64 v)) := pcs_cells h.2
section
variable {w0 w : World} {p r b : Nat} {t : TypeId} {cs : Array Value} {C C' C2 : List (BitVec 64)} {E E' E2 : List Ev}
theorem pget_at (h : Pair w0 w b t cs p r C E C' E') (base n : Int) (idx v : BitVec 64) (c : Int) (hr : geR C E base n idx = ((v, c), (C2, E2))) :
    Calls Try.prog 11 #[.pointer (some ⟨p, 0, none⟩), .int .i64 base, .int .i64 n, .int .u64 (n64 idx)] w fun e w' => e = .returned (.tuple #[.int .u64 (n64 v), .int .i64 c]) ∧ Pair w0 w' b t cs p r C2 E2 C' E' :=
  h.first fun w F ha => by have := get_any ha base n idx; rw [hr] at this; exact this
theorem pfind_at (h : Pair w0 w b t cs p r C E C' E') (base n : Int) (u v : BitVec 64) (c : Int) (hr : fiR C E base n u = ((v, c), (C2, E2))) :
    Calls Try.prog 12 #[.pointer (some ⟨p, 0, none⟩), .int .i64 base, .int .i64 n, .int .u64 (n64 u)] w fun e w' => e = .returned (.tuple #[.int .u64 (n64 v), .int .i64 c]) ∧ Pair w0 w' b t cs p r C2 E2 C' E' :=
  h.first fun w F ha => by have := find_any ha base n u; rw [hr] at this; exact this
theorem pput_at (h : Pair w0 w b t cs p r C E C' E') (base n : Int) (idx m v : BitVec 64) (c : Int) (he : chE C.length E.length base n m = c) (hr : chR (fun _ => v) C E base n idx m = (C2, E2)) :
    Calls Try.prog 15 #[.pointer (some ⟨p, 0, none⟩), .int .i64 base, .int .i64 n, .int .u64 (n64 idx), .int .u64 (n64 m), .int .u64 (n64 v)] w fun e w' => e = .returned (.int .i64 c) ∧ Pair w0 w' b t cs p r C2 E2 C' E' :=
  h.first fun w F ha => by have := put_any ha base n idx m v; rw [hr, he] at this; exact this
theorem padd_at (h : Pair w0 w b t cs p r C E C' E') (base n : Int) (idx m v : BitVec 64) (c : Int) (he : chE C.length E.length base n m = c) (hr : chR (fun x => x + v) C E base n idx m = (C2, E2)) :
    Calls Try.prog 17 #[.pointer (some ⟨p, 0, none⟩), .int .i64 base, .int .i64 n, .int .u64 (n64 idx), .int .u64 (n64 m), .int .u64 (n64 v)] w fun e w' => e = .returned (.int .i64 c) ∧ Pair w0 w' b t cs p r C2 E2 C' E' :=
  h.first fun w F ha => by have := ladd_any ha base n idx m v; rw [hr, he] at this; exact this
theorem wget_at (h : Pair w0 w b t cs p r C E C' E') (base n : Int) (idx v : BitVec 64) (c : Int) (hr : geR C' E' base n idx = ((v, c), (C2, E2))) :
    Calls Try.prog 39 #[.pointer (some ⟨r, 0, none⟩), .int .i64 base, .int .i64 n, .int .u64 (n64 idx)] w fun e w' => e = .returned (.tuple #[.int .u64 (n64 v), .int .i64 c]) ∧ Pair w0 w' b t cs p r C E C2 E2 :=
  h.second fun w F ha => by have := rget_any ha base n idx; rw [hr] at this; exact this
theorem wfind_at (h : Pair w0 w b t cs p r C E C' E') (base n : Int) (u v : BitVec 64) (c : Int) (hr : fiR C' E' base n u = ((v, c), (C2, E2))) :
    Calls Try.prog 43 #[.pointer (some ⟨r, 0, none⟩), .int .i64 base, .int .i64 n, .int .u64 (n64 u)] w fun e w' => e = .returned (.tuple #[.int .u64 (n64 v), .int .i64 c]) ∧ Pair w0 w' b t cs p r C E C2 E2 :=
  h.second fun w F ha => by have := rfind_any ha base n u; rw [hr] at this; exact this
theorem wput_at (h : Pair w0 w b t cs p r C E C' E') (base n : Int) (idx m v : BitVec 64) (c : Int) (he : chE C'.length E'.length base n m = c) (hr : chR (fun _ => v) C' E' base n idx m = (C2, E2)) :
    Calls Try.prog 41 #[.pointer (some ⟨r, 0, none⟩), .int .i64 base, .int .i64 n, .int .u64 (n64 idx), .int .u64 (n64 m), .int .u64 (n64 v)] w fun e w' => e = .returned (.int .i64 c) ∧ Pair w0 w' b t cs p r C E C2 E2 :=
  h.second fun w F ha => by have := rput_any ha base n idx m v; rw [hr, he] at this; exact this
theorem wadd_at (h : Pair w0 w b t cs p r C E C' E') (base n : Int) (idx m v : BitVec 64) (c : Int) (he : chE C'.length E'.length base n m = c) (hr : chR (fun x => x + v) C' E' base n idx m = (C2, E2)) :
    Calls Try.prog 42 #[.pointer (some ⟨r, 0, none⟩), .int .i64 base, .int .i64 n, .int .u64 (n64 idx), .int .u64 (n64 m), .int .u64 (n64 v)] w fun e w' => e = .returned (.int .i64 c) ∧ Pair w0 w' b t cs p r C E C2 E2 :=
  h.second fun w F ha => by have := radd_any ha base n idx m v; rw [hr, he] at this; exact this
end
section
variable {w0 w : World} {p r : Nat} {C : List (BitVec 64)} {E : List Ev}
set_option maxHeartbeats 4000000 in
theorem do_0 (h : Both w0 w p r C E) (z : Int) (h0 : 0 ≤ z) (h1 : z ≤ 255) (hz : z % 6 = 0) (base n many : Int) (idx m v : BitVec 64) :
    Calls Try.prog 20 #[.pointer (some ⟨p, 0, none⟩), .pointer (some ⟨r, 0, none⟩), .int .u8 z, .agg #[.int .i64 base, .int .i64 n, .int .i64 many, .int .u64 (n64 idx), .int .u64 (n64 m), .int .u64 (n64 v)]] w (DoPost w0 p r) := by
  have HP := Lib.hid (h.pair 25 (pcs base n many idx m v))
  have k0 := HP.out.p6
  have hq0 : (z % 6 == 0) = true := by rw [beq_iff_eq]; omega
  clear h hz
  obtain ⟨x, c, C2, E2, hx⟩ : ∃ x c C2 E2, geR C E base n idx = ((x, c), (C2, E2)) := ⟨_, _, _, _, rfl⟩
  have HX := Lib.hid hx
  clear hx
  go_enter Try.func20, Try.ntmps20
  go_wp2_with fail
  refine (pget_at HP.out base n idx x c HX.out).mono ?_
  rintro e w1 ⟨rfl, h1⟩
  have k1 := h1.p6
  have H1 := Lib.hid h1
  clear h1 k0
  go_wp2_with fail
  refine (wget_at H1.out base n idx x c HX.out).mono ?_
  rintro e w2 ⟨rfl, h2⟩
  have H2 := Lib.hid h2
  clear h2 k1
  go_wp2
  go_ret
  exact ⟨ret_bool (by simp), _, _, H2.out.both⟩
set_option maxHeartbeats 4000000 in
theorem do_4 (h : Both w0 w p r C E) (z : Int) (h0 : 0 ≤ z) (h1 : z ≤ 255) (hz : z % 6 = 4) (base n many : Int) (idx m v : BitVec 64) :
    Calls Try.prog 20 #[.pointer (some ⟨p, 0, none⟩), .pointer (some ⟨r, 0, none⟩), .int .u8 z, .agg #[.int .i64 base, .int .i64 n, .int .i64 many, .int .u64 (n64 idx), .int .u64 (n64 m), .int .u64 (n64 v)]] w (DoPost w0 p r) := by
  have HP := Lib.hid (h.pair 25 (pcs base n many idx m v))
  have k0 := HP.out.p6
  have hq0 : (z % 6 == 0) = false := by rw [beq_eq_false_iff_ne]; omega
  have hq1 : (z % 6 == 1) = false := by rw [beq_eq_false_iff_ne]; omega
  have hq2 : (z % 6 == 2) = false := by rw [beq_eq_false_iff_ne]; omega
  have hq3 : (z % 6 == 3) = false := by rw [beq_eq_false_iff_ne]; omega
  have hq4 : (z % 6 == 4) = true := by rw [beq_iff_eq]; omega
  clear h hz
  obtain ⟨x, c, C2, E2, hx⟩ : ∃ x c C2 E2, fiR C E base n v = ((x, c), (C2, E2)) := ⟨_, _, _, _, rfl⟩
  have HX := Lib.hid hx
  clear hx
  go_enter Try.func20, Try.ntmps20
  go_wp2_with fail
  refine (pfind_at HP.out base n v x c HX.out).mono ?_
  rintro e w1 ⟨rfl, h1⟩
  have k1 := h1.p6
  have H1 := Lib.hid h1
  clear h1 k0
  go_wp2_with fail
  refine (wfind_at H1.out base n v x c HX.out).mono ?_
  rintro e w2 ⟨rfl, h2⟩
  have H2 := Lib.hid h2
  clear h2 k1
  go_wp2
  go_ret
  exact ⟨ret_bool (by simp), _, _, H2.out.both⟩
set_option maxHeartbeats 4000000 in
theorem do_2 (h : Both w0 w p r C E) (z : Int) (h0 : 0 ≤ z) (h1 : z ≤ 255) (hz : z % 6 = 2) (base n many : Int) (idx m v : BitVec 64) :
    Calls Try.prog 20 #[.pointer (some ⟨p, 0, none⟩), .pointer (some ⟨r, 0, none⟩), .int .u8 z, .agg #[.int .i64 base, .int .i64 n, .int .i64 many, .int .u64 (n64 idx), .int .u64 (n64 m), .int .u64 (n64 v)]] w (DoPost w0 p r) := by
  have HP := Lib.hid (h.pair 25 (pcs base n many idx m v))
  have k0 := HP.out.p6
  have hq0 : (z % 6 == 0) = false := by rw [beq_eq_false_iff_ne]; omega
  have hq1 : (z % 6 == 1) = false := by rw [beq_eq_false_iff_ne]; omega
  have hq2 : (z % 6 == 2) = true := by rw [beq_iff_eq]; omega
  clear h hz
  obtain ⟨C2, E2, hx⟩ : ∃ C2 E2, chR (fun _ => v) C E base n idx m = (C2, E2) := ⟨_, _, rfl⟩
  obtain ⟨c, hc⟩ : ∃ c, chE C.length E.length base n m = c := ⟨_, rfl⟩
  have HX := Lib.hid hx
  have HCC := Lib.hid hc
  clear hx hc
  go_enter Try.func20, Try.ntmps20
  go_wp2_with fail
  go_region_held3 (fun w' => w'.cell? ⟨w.heap.size, 0, none⟩ = some (.int .i64 base) ∧ w'.cell? ⟨w.heap.size, 1, none⟩ = some (.int .i64 n) ∧ w'.cell? ⟨w.heap.size, 2, none⟩ = some (.int .i64 many) ∧ w'.cell? ⟨w.heap.size, 3, none⟩ = some (.int .u64 (n64 idx)) ∧ w'.cell? ⟨w.heap.size, 4, none⟩ = some (.int .u64 (n64 m)) ∧ w'.cell? ⟨w.heap.size, 5, none⟩ = some (.int .u64 (n64 v)))
    (first | with_reducible assumption | go_keep)
    (first
      | (go_at_call 15; refine (pput_at (HP.out.off (by first | with_reducible exact Off.refl _ _ | with_reducible exact Off.drew (Off.refl _ _) | with_reducible exact Off.drewN (Off.refl _ _) _)) base n idx m v c HCC.out HX.out).mono ?_; rintro e w1 ⟨rfl, h1⟩; have k1 := h1.p6; have H1 := Lib.hid h1; clear h1)
      | (go_at_call 41; refine (wput_at (H1.out.off (by first | with_reducible exact Off.refl _ _ | with_reducible exact Off.drew (Off.refl _ _) | with_reducible exact Off.drewN (Off.refl _ _) _)) base n idx m v c HCC.out HX.out).mono ?_; rintro e w2 ⟨rfl, h2⟩; have k2 := h2.p6; have H2 := Lib.hid h2; clear h2))
  go_wp2
  go_ret
  exact ⟨ret_bool (by simp), _, _, H2.out.both⟩
set_option maxHeartbeats 4000000 in
theorem do_3 (h : Both w0 w p r C E) (z : Int) (h0 : 0 ≤ z) (h1 : z ≤ 255) (hz : z % 6 = 3) (base n many : Int) (idx m v : BitVec 64) :
    Calls Try.prog 20 #[.pointer (some ⟨p, 0, none⟩), .pointer (some ⟨r, 0, none⟩), .int .u8 z, .agg #[.int .i64 base, .int .i64 n, .int .i64 many, .int .u64 (n64 idx), .int .u64 (n64 m), .int .u64 (n64 v)]] w (DoPost w0 p r) := by
  have HP := Lib.hid (h.pair 25 (pcs base n many idx m v))
  have k0 := HP.out.p6
  have hq0 : (z % 6 == 0) = false := by rw [beq_eq_false_iff_ne]; omega
  have hq1 : (z % 6 == 1) = false := by rw [beq_eq_false_iff_ne]; omega
  have hq2 : (z % 6 == 2) = false := by rw [beq_eq_false_iff_ne]; omega
  have hq3 : (z % 6 == 3) = true := by rw [beq_iff_eq]; omega
  clear h hz
  obtain ⟨C2, E2, hx⟩ : ∃ C2 E2, chR (fun x => x + v) C E base n idx m = (C2, E2) := ⟨_, _, rfl⟩
  obtain ⟨c, hc⟩ : ∃ c, chE C.length E.length base n m = c := ⟨_, rfl⟩
  have HX := Lib.hid hx
  have HCC := Lib.hid hc
  clear hx hc
  go_enter Try.func20, Try.ntmps20
  go_wp2_with fail
  go_region_held3 (fun w' => w'.cell? ⟨w.heap.size, 0, none⟩ = some (.int .i64 base) ∧ w'.cell? ⟨w.heap.size, 1, none⟩ = some (.int .i64 n) ∧ w'.cell? ⟨w.heap.size, 2, none⟩ = some (.int .i64 many) ∧ w'.cell? ⟨w.heap.size, 3, none⟩ = some (.int .u64 (n64 idx)) ∧ w'.cell? ⟨w.heap.size, 4, none⟩ = some (.int .u64 (n64 m)) ∧ w'.cell? ⟨w.heap.size, 5, none⟩ = some (.int .u64 (n64 v)))
    (first | with_reducible assumption | go_keep)
    (first
      | (go_at_call 17; refine (padd_at (HP.out.off (by first | with_reducible exact Off.refl _ _ | with_reducible exact Off.drew (Off.refl _ _) | with_reducible exact Off.drewN (Off.refl _ _) _)) base n idx m v c HCC.out HX.out).mono ?_; rintro e w1 ⟨rfl, h1⟩; have k1 := h1.p6; have H1 := Lib.hid h1; clear h1)
      | (go_at_call 42; refine (wadd_at (H1.out.off (by first | with_reducible exact Off.refl _ _ | with_reducible exact Off.drew (Off.refl _ _) | with_reducible exact Off.drewN (Off.refl _ _) _)) base n idx m v c HCC.out HX.out).mono ?_; rintro e w2 ⟨rfl, h2⟩; have k2 := h2.p6; have H2 := Lib.hid h2; clear h2))
  go_wp2
  go_ret
  exact ⟨ret_bool (by simp), _, _, H2.out.both⟩
section
variable {b : Nat} {t : TypeId} {cs : Array Value} {C' : List (BitVec 64)} {E' : List Ev}
theorem prow_err (h : Pair w0 w b t cs p r C E C' E') (base many n : Int) (idx : BitVec 64) (c : Int) (hc : grE C.length E.length base many n = c) (hz : c ≠ 0) :
    Calls Try.prog 10 #[.pointer (some ⟨p, 0, none⟩), .int .i64 base, .int .i64 many, .int .i64 n, .int .u64 (n64 idx)] w fun e w' => e = .returned (.tuple #[.slice none 0 0, .int .i64 c]) ∧ Pair w0 w' b t cs p r C E C' E' :=
  h.first fun w F ha => (getRow_any ha base many n idx).mono fun e w' hh => by
    rcases hh with ⟨_, h2, h3⟩ | ⟨h1, _⟩
    · rw [hc] at h2; exact ⟨h2, h3⟩
    · exact absurd (hc ▸ h1) hz
theorem wrow_err (h : Pair w0 w b t cs p r C E C' E') (base many n : Int) (idx : BitVec 64) (c : Int) (hc : grE C'.length E'.length base many n = c) (hz : c ≠ 0) :
    Calls Try.prog 40 #[.pointer (some ⟨r, 0, none⟩), .int .i64 base, .int .i64 many, .int .i64 n, .int .u64 (n64 idx)] w fun e w' => e = .returned (.tuple #[.slice none 0 0, .int .i64 c]) ∧ Pair w0 w' b t cs p r C E C' E' :=
  h.second fun w F ha => (rgetRow_any ha base many n idx).mono fun e w' hh => by
    rcases hh with ⟨_, h2, h3⟩ | ⟨h1, _⟩
    · rw [hc] at h2; exact ⟨h2, h3⟩
    · exact absurd (hc ▸ h1) hz
end
theorem same_nil (w : World) : Calls Try.prog 24 #[.slice none 0 0, .slice none 0 0] w (BoolNew true w) := by
  have := sameCells_any (w := w) (Rd.nil w Nob 1) (Rd.nil w Nob 1) (A := []) (B := [])
  exact this
set_option maxHeartbeats 4000000 in
theorem do_1a (h : Both w0 w p r C E) (z : Int) (h0 : 0 ≤ z) (h1 : z ≤ 255) (hz : z % 6 = 1) (base n many : Int) (idx m v : BitVec 64) (c : Int) (hc : grE C.length E.length base many n = c) (hcz : c ≠ 0) :
    Calls Try.prog 20 #[.pointer (some ⟨p, 0, none⟩), .pointer (some ⟨r, 0, none⟩), .int .u8 z, .agg #[.int .i64 base, .int .i64 n, .int .i64 many, .int .u64 (n64 idx), .int .u64 (n64 m), .int .u64 (n64 v)]] w (DoPost w0 p r) := by
  have HP := Lib.hid (h.pair 25 (pcs base n many idx m v))
  have k0 := HP.out.p6
  have hq0 : (z % 6 == 0) = false := by rw [beq_eq_false_iff_ne]; omega
  have hq1 : (z % 6 == 1) = true := by rw [beq_iff_eq]; omega
  have HCC := Lib.hid hc
  have HCZ := Lib.hid hcz
  clear h hz hc hcz
  go_enter Try.func20, Try.ntmps20
  go_wp2_with fail
  refine (prow_err HP.out base many n idx c HCC.out HCZ.out).mono ?_
  rintro e w1 ⟨rfl, h1⟩
  have k1 := h1.p6
  have H1 := Lib.hid h1
  clear h1 k0
  go_wp2_with fail
  refine (wrow_err H1.out base many n idx c HCC.out HCZ.out).mono ?_
  rintro e w2 ⟨rfl, h2⟩
  have H2 := Lib.hid h2
  clear h2 k1
  go_wp2_with fail
  refine (same_nil _).mono ?_
  rintro e w3 ⟨rfl, o3⟩
  have H3 := Lib.hid (H2.out.off o3)
  clear o3
  go_wp2
  go_ret
  exact ⟨ret_bool (by simp), _, _, H3.out.both⟩
set_option maxHeartbeats 4000000 in
theorem do_1b (h : Both w0 w p r C E) (z : Int) (h0 : 0 ≤ z) (h1 : z ≤ 255) (hz : z % 6 = 1) (base n many : Int) (idx m v : BitVec 64) (hc : grE C.length E.length base many n = 0) :
    Calls Try.prog 20 #[.pointer (some ⟨p, 0, none⟩), .pointer (some ⟨r, 0, none⟩), .int .u8 z, .agg #[.int .i64 base, .int .i64 n, .int .i64 many, .int .u64 (n64 idx), .int .u64 (n64 m), .int .u64 (n64 v)]] w (DoPost w0 p r) := by
  have HP := Lib.hid (h.pair 25 (pcs base n many idx m v))
  have k0 := HP.out.p6
  have hq0 : (z % 6 == 0) = false := by rw [beq_eq_false_iff_ne]; omega
  have hq1 : (z % 6 == 1) = true := by rw [beq_iff_eq]; omega
  have HCC := Lib.hid hc
  have HN := Lib.hid (grE_zero hc)
  clear h hz hc
  go_enter Try.func20, Try.ntmps20
  go_wp2_with fail
  refine (PG.firstRow HP.out.pg (fun w F ha => (getRow_any ha base many n idx).mono fun e w' hh => by
    rcases hh with ⟨h1, _⟩ | ⟨_, h2⟩
    · exact absurd HCC.out h1
    · exact h2)).mono ?_
  rintro e w1 ⟨g, rfl, h1, hb1, o1⟩
  have k1 := pcs_cells (HP.out.blk.keepG o1 rfl)
  have K1 := Lib.hid (HP.out.blk.keepG o1 rfl)
  have H1 := Lib.hid h1
  have B1 := Lib.hid hb1
  clear h1 hb1 o1 k0
  go_wp2_with fail
  refine (PG.secondList H1.out (ret := fun v => .returned (.tuple #[v, .int .i64 0])) (fun w F ha => (rgetRow_any ha base many n idx).mono fun e w' hh => by
    rcases hh with ⟨h1, _⟩ | ⟨_, h2⟩
    · exact absurd HCC.out h1
    · exact h2)).mono ?_
  rintro e w2 ⟨u, H, rfl, h2, r2, o2⟩
  have K2 := Lib.hid (K1.out.keepG o2 (.inl rfl))
  have B2 := Lib.hid (B1.out.keepG o2 (.inr rfl))
  have H2 := Lib.hid (h2.pair K2.out (.inl (.inl rfl)))
  have R2 := Lib.hid r2
  clear h2 o2 r2 k1
  go_wp2_with fail
  refine Calls.mono (R := BoolNew true w2) (by have := sameCells_any (Rd.row B2.out (by have := HN.out; omega)) R2.out; rwa [show ∀ L, sameB L L = true from fun L => by simp [sameB]] at this) ?_
  rintro e w3 ⟨rfl, o3⟩
  have H3 := Lib.hid (H2.out.off o3)
  clear o3
  go_wp2
  go_ret
  exact ⟨ret_bool (by simp), _, _, H3.out.both⟩
theorem do_1 (h : Both w0 w p r C E) (z : Int) (h0 : 0 ≤ z) (h1 : z ≤ 255) (hz : z % 6 = 1) (base n many : Int) (idx m v : BitVec 64) :
    Calls Try.prog 20 #[.pointer (some ⟨p, 0, none⟩), .pointer (some ⟨r, 0, none⟩), .int .u8 z, .agg #[.int .i64 base, .int .i64 n, .int .i64 many, .int .u64 (n64 idx), .int .u64 (n64 m), .int .u64 (n64 v)]] w (DoPost w0 p r) := by
  by_cases hc : grE C.length E.length base many n = 0
  · exact do_1b h z h0 h1 hz base n many idx m v hc
  · exact do_1a h z h0 h1 hz base n many idx m v _ rfl hc
/-- The list of Fill. -/
def fvL (v : BitVec 64) (k : Nat) : List (BitVec 64) := (List.range k).map fun i : Nat => v + bv (i : Int)
theorem length_fvL (v : BitVec 64) (k : Nat) : (fvL v k).length = k := by simp [fvL]
theorem fvL_succ (v : BitVec 64) (k : Nat) : u64s (fvL v k) ++ [.int .u64 (n64 (v + bv (k : Int)))] = u64s (fvL v (k + 1)) := by unfold fvL u64s; rw [List.range_succ]; simp
set_option maxHeartbeats 4000000 in
theorem do_5 (h : Both w0 w p r C E) (z : Int) (h0 : 0 ≤ z) (h1 : z ≤ 255) (hz : z % 6 = 5) (base n many : Int) (idx m v : BitVec 64) :
    Calls Try.prog 20 #[.pointer (some ⟨p, 0, none⟩), .pointer (some ⟨r, 0, none⟩), .int .u8 z, .agg #[.int .i64 base, .int .i64 n, .int .i64 many, .int .u64 (n64 idx), .int .u64 (n64 m), .int .u64 (n64 v)]] w (DoPost w0 p r) := by
  obtain ⟨i0, hi, hz0, hz1, hz2⟩ := info_parts Try.infoU
  have HP := Lib.hid (h.pair 25 (pcs base n many idx m v))
  have k0 := HP.out.p6
  have hq0 : (z % 6 == 0) = false := by rw [beq_eq_false_iff_ne]; omega
  have hq1 : (z % 6 == 1) = false := by rw [beq_eq_false_iff_ne]; omega
  have hq2 : (z % 6 == 2) = false := by rw [beq_eq_false_iff_ne]; omega
  have hq3 : (z % 6 == 3) = false := by rw [beq_eq_false_iff_ne]; omega
  have hq4 : (z % 6 == 4) = false := by rw [beq_eq_false_iff_ne]; omega
  clear h hz
  go_enter Try.func20, Try.ntmps20
  go_wp2_with fail
  obtain ⟨W, hW⟩ : ∃ W, w.alloc (.cells #[.int .i64 base, .int .i64 n, .int .i64 many, .int .u64 (n64 idx), .int .u64 (n64 m), .int .u64 (n64 v)] 25) = W := ⟨_, rfl⟩
  have HP2 : Hid (Pair w0 W w.heap.size 25 (pcs base n many idx m v) p r C E C E) := Lib.hid (by rw [← hW]; exact HP.out)
  rw [hW]
  have HWB := Lib.hid HP2.out.blk
  clear hW k0 HP
  go_loopw [21, 22] (fun l i wr => ∃ (k : Nat) (u : Value), k ≤ 201 ∧ i = .int .i64 k ∧ l = u ∧ wr.ownsRow W.heap.size 23 1 u k (u64s (fvL v k)) ∧ Off Nob W wr) (fun _ i _ => 201 - (intOf i).toNat)
  case atStart => exact ⟨0, _, Nat.zero_le _, rfl, rfl, (World.ownsRow_nil _ _ _ _ : W.ownsRow W.heap.size 23 1 (.slice none 0 0) 0 []), Off.refl _ _⟩
  case round =>
    obtain ⟨k, u, hk, rfl, rfl, hw, ho⟩ := hrel
    have HW := Lib.hid hw
    have HO := Lib.hid ho
    have kk := pcs_cells (HWB.out.to (ho.block _ HWB.out.lt (fun h => h)))
    clear hw ho
    by_cases hlt : (k : Int) < n ∧ k < 201
    · obtain ⟨g1, g2⟩ := hlt
      go_wp2_with (at_builtin; refine wpList_append_own_at _ rfl _ _ 22 rfl W.heap.size 23 i0 (.int .u64 0) 1 8 Try.underlying22 hi hz0 hz1 hz2 rfl (by decide) u21 k (u64s (fvL v k)) rfl (HW.out.alloc _) ⟨wr.heap.size, 0, none⟩ 1 1 [.int .u64 (n64 (v + bv (k : Int)))] rfl rfl ?c1 ?c2 ?c3 ?c4 ?c5 ?_)
      case c1 => exact cell_one_ld _ _ _
      case c2 => intro u hu; simp at hu; subst hu; rfl
      case c3 => unfold maxLen; omega
      case c4 => omega
      case c5 => have := HO.out.size; simp; omega
      intro v' w2 hown' hgrow hnil hat2
      rw [fvL_succ] at hown'
      have HN := Lib.hid hown'
      have O2 : Hid (Off Nob W w2) := Lib.hid (Off.grown (HO.out.alloc _) hgrow (fun j hj => .inr (HW.out.lt j hj).1))
      clear hown' hgrow hnil hat2 kk
      go_wp2_with fail
      go_roundw
      case rel => exact ⟨k + 1, _, by omega, by go_num, rfl, HN.out, O2.out⟩
      case measure => simp [intOf]; omega
    · have hx : ¬ (k : Int) < n ∨ ((k : Int) < n ∧ ¬ k < 201) := by omega
      clear hlt
      have HR : Hid (PR w0 wr w.heap.size 25 (pcs base n many idx m v) 1 u21 k (u64s (fvL v k)) p r C E C E) := Lib.hid (Pair.pr HP2.out HO.out (Rd.own HW.out (fun g hg => HW.out.lt g hg)))
      obtain ⟨c, C2, E2, hf⟩ : ∃ c C2 E2, flR (fvL v k) C E base k = (c, (C2, E2)) := ⟨_, _, _, rfl⟩
      have HFL := Lib.hid hf
      clear hf
      rcases hx with hx | ⟨hx, hy⟩
      all_goals
        go_wp2_with fail
        go_region_held3 (fun w' => w'.cell? ⟨w.heap.size, 0, none⟩ = some (.int .i64 base) ∧ w'.cell? ⟨w.heap.size, 1, none⟩ = some (.int .i64 n) ∧ w'.cell? ⟨w.heap.size, 2, none⟩ = some (.int .i64 many) ∧ w'.cell? ⟨w.heap.size, 3, none⟩ = some (.int .u64 (n64 idx)) ∧ w'.cell? ⟨w.heap.size, 4, none⟩ = some (.int .u64 (n64 m)) ∧ w'.cell? ⟨w.heap.size, 5, none⟩ = some (.int .u64 (n64 v)))
          (first | with_reducible assumption | go_keep)
          (first
            | (go_at_call 44; refine (PR.first (HR.out.off (by first | with_reducible exact Off.refl _ _ | with_reducible exact Off.drew (Off.refl _ _) | with_reducible exact Off.drewN (Off.refl _ _) _)) (fun w F G ha hr hd => by have := fill_any ha hr hd base; rw [HFL.out] at this; exact this)).mono ?_; rintro e w1 ⟨rfl, h1⟩; have k1 := h1.p6; have H1 := Lib.hid h1; clear h1)
            | (go_at_call 45; refine (PR.second (H1.out.off (by first | with_reducible exact Off.refl _ _ | with_reducible exact Off.drew (Off.refl _ _) | with_reducible exact Off.drewN (Off.refl _ _) _)) (fun w F G ha hr hd => by have := rfill_any ha hr hd base; rw [HFL.out] at this; exact this)).mono ?_; rintro e w2 ⟨rfl, h2⟩; have k2 := h2.p6; have H2 := Lib.hid h2; clear h2))
        go_wp2
        go_ret
        exact ⟨ret_bool (by simp), _, _, H2.out.pair.both⟩
theorem dol_any (h : Both w0 w p r C E) (z : Int) (h0 : 0 ≤ z) (h1 : z ≤ 255) (base n many : Int) (idx m v : BitVec 64) :
    Calls Try.prog 20 #[.pointer (some ⟨p, 0, none⟩), .pointer (some ⟨r, 0, none⟩), .int .u8 z, .agg #[.int .i64 base, .int .i64 n, .int .i64 many, .int .u64 (n64 idx), .int .u64 (n64 m), .int .u64 (n64 v)]] w (DoPost w0 p r) := by
  have h5 : z % 6 = 0 ∨ z % 6 = 1 ∨ z % 6 = 2 ∨ z % 6 = 3 ∨ z % 6 = 4 ∨ z % 6 = 5 := by omega
  rcases h5 with h5 | h5 | h5 | h5 | h5 | h5
  · exact do_0 h z h0 h1 h5 base n many idx m v
  · exact do_1 h z h0 h1 h5 base n many idx m v
  · exact do_2 h z h0 h1 h5 base n many idx m v
  · exact do_3 h z h0 h1 h5 base n many idx m v
  · exact do_4 h z h0 h1 h5 base n many idx m v
  · exact do_5 h z h0 h1 h5 base n many idx m v
end

end Go.Proofs.Ytgdklokoeeokbaa
