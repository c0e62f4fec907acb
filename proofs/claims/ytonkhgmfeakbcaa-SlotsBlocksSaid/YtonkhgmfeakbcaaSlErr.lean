/-
  Fill, Wipe, Read and Write of slots and of dragnetref22: what they answer where nothing is done.
-/
import Derived.Test.YtonkhgmfeakbcaaRef22F
import Derived.Test.YtonkhgmfeakbcaaSlRd
namespace Go.Proofs.Ytonkhgmfeakbcaa
open Go.RowKit
set_option linter.unusedVariables false
set_option linter.unusedSimpArgs false
set_option maxRecDepth 100000
theorem fill_range (v : Value) (base hits p byte : Int) (m e : BitVec 64) (w : World) (h : p < 1 ∨ 16 < p ∨ byte < 0 ∨ 15 < byte ∨ base < 0 ∨ 65536 < base) :
    Calls Try.prog 20 #[v, .int .i64 base, .int .i64 hits, .int .i64 p, .int .i64 byte, .int .u64 (n64 m), .int .u64 (n64 e)] w fun e w' => e = .returned (.int .i64 7) ∧ w = w' := by
  by_cases h1 : p < 1 ∨ 16 < p
  · have HO1 := Lib.hid (outside_out p 1 16 h1 w)
    clear h h1
    go_enter Try.func20, Try.ntmps20
    go_wp2_with fail
    refine HO1.out.mono ?_
    rintro e w' ⟨rfl, rfl⟩
    go_wp2_with fail
    go_ret
    exact ⟨rfl, rfl⟩
  have HO1 := Lib.hid (outside_in p 1 16 (by omega) (by omega) w)
  by_cases h2 : byte < 0 ∨ 15 < byte
  · have HO2 := Lib.hid (outside_out byte 0 15 h2 w)
    clear h h1 h2
    go_enter Try.func20, Try.ntmps20
    go_wp2_with fail
    refine HO1.out.mono ?_
    rintro e w' ⟨rfl, rfl⟩
    go_wp2_with fail
    refine HO2.out.mono ?_
    rintro e w' ⟨rfl, rfl⟩
    go_wp2_with fail
    go_ret
    exact ⟨rfl, rfl⟩
  have HO2 := Lib.hid (outside_in byte 0 15 (by omega) (by omega) w)
  have HO3 := Lib.hid (outside_out base 0 65536 (by omega) w)
  clear h h1 h2
  go_enter Try.func20, Try.ntmps20
  go_wp2_with fail
  refine HO1.out.mono ?_
  rintro e w' ⟨rfl, rfl⟩
  go_wp2_with fail
  refine HO2.out.mono ?_
  rintro e w' ⟨rfl, rfl⟩
  go_wp2_with fail
  refine HO3.out.mono ?_
  rintro e w' ⟨rfl, rfl⟩
  go_wp2_with fail
  go_ret
  exact ⟨rfl, rfl⟩
theorem fill_mask (v : Value) (base hits p byte : Int) (m e : BitVec 64) (w : World) (g1 : 1 ≤ p) (g2 : p ≤ 16) (g3 : 0 ≤ byte) (g4 : byte ≤ 15) (g5 : 0 ≤ base) (g6 : base ≤ 65536) (hm : isM m = false)  :
    Calls Try.prog 20 #[v, .int .i64 base, .int .i64 hits, .int .i64 p, .int .i64 byte, .int .u64 (n64 m), .int .u64 (n64 e)] w fun e w' => e = .returned (.int .i64 2) ∧ w = w' := by
  have HO1 := Lib.hid (outside_in p 1 16 g1 g2 w)
  have HO2 := Lib.hid (outside_in byte 0 15 g3 g4 w)
  have HO3 := Lib.hid (outside_in base 0 65536 g5 g6 w)
  have HIS : Hid (Calls Try.prog 40 #[.int .u64 (n64 m)] w fun e w' => e = .returned (.bool false) ∧ w = w') := Lib.hid (by have := is_any m w; rwa [hm] at this)
  clear hm
  go_enter Try.func20, Try.ntmps20
  go_wp2_with fail
  refine HO1.out.mono ?_
  rintro e w' ⟨rfl, rfl⟩
  go_wp2_with fail
  refine HO2.out.mono ?_
  rintro e w' ⟨rfl, rfl⟩
  go_wp2_with fail
  refine HO3.out.mono ?_
  rintro e w' ⟨rfl, rfl⟩
  go_wp2_with fail
  refine HIS.out.mono ?_
  rintro e w' ⟨rfl, rfl⟩
  go_wp2_with fail
  go_ret
  exact ⟨rfl, rfl⟩
theorem fill_has1 (v : Value) (base hits p byte : Int) (m e : BitVec 64) (w : World) (g1 : 1 ≤ p) (g2 : p ≤ 16) (g3 : 0 ≤ byte) (g4 : byte ≤ 15) (g5 : 0 ≤ base) (g6 : base ≤ 65536) (hm : isM m = true) (c : Int) (hc : c ≠ 0) (H1 : Hid (Calls Try.prog 41 #[v, .int .i64 hits, .int .i64 p] w fun e w' => e = .returned (.int .i64 c) ∧ w = w')) :
    Calls Try.prog 20 #[v, .int .i64 base, .int .i64 hits, .int .i64 p, .int .i64 byte, .int .u64 (n64 m), .int .u64 (n64 e)] w fun e w' => e = .returned (.int .i64 c) ∧ w = w' := by
  have HO1 := Lib.hid (outside_in p 1 16 g1 g2 w)
  have HO2 := Lib.hid (outside_in byte 0 15 g3 g4 w)
  have HO3 := Lib.hid (outside_in base 0 65536 g5 g6 w)
  have HIS : Hid (Calls Try.prog 40 #[.int .u64 (n64 m)] w fun e w' => e = .returned (.bool true) ∧ w = w') := Lib.hid (by have := is_any m w; rwa [hm] at this)
  have hz2 : (c == 0) = false := by simpa using hc
  have hz3 : (c != 0) = true := by simpa using hc
  clear hc
  clear hm
  go_enter Try.func20, Try.ntmps20
  go_wp2_with fail
  refine HO1.out.mono ?_
  rintro e w' ⟨rfl, rfl⟩
  go_wp2_with fail
  refine HO2.out.mono ?_
  rintro e w' ⟨rfl, rfl⟩
  go_wp2_with fail
  refine HO3.out.mono ?_
  rintro e w' ⟨rfl, rfl⟩
  go_wp2_with fail
  refine HIS.out.mono ?_
  rintro e w' ⟨rfl, rfl⟩
  go_wp2_with fail
  refine H1.out.mono ?_
  rintro e w' ⟨rfl, rfl⟩
  go_wp2_with fail
  go_ret
  exact ⟨rfl, rfl⟩
theorem fill_has2 (v : Value) (base hits p byte : Int) (m e : BitVec 64) (w : World) (g1 : 1 ≤ p) (g2 : p ≤ 16) (g3 : 0 ≤ byte) (g4 : byte ≤ 15) (g5 : 0 ≤ base) (g6 : base ≤ 65536) (hm : isM m = true) (c : Int) (hc : c ≠ 0) (H1 : Hid (Calls Try.prog 41 #[v, .int .i64 hits, .int .i64 p] w fun e w' => e = .returned (.int .i64 0) ∧ w = w')) (H2 : Hid (Calls Try.prog 41 #[v, .int .i64 (base + 3 * p * byte), .int .i64 (3 * p)] w fun e w' => e = .returned (.int .i64 c) ∧ w = w')) :
    Calls Try.prog 20 #[v, .int .i64 base, .int .i64 hits, .int .i64 p, .int .i64 byte, .int .u64 (n64 m), .int .u64 (n64 e)] w fun e w' => e = .returned (.int .i64 c) ∧ w = w' := by
  have HO1 := Lib.hid (outside_in p 1 16 g1 g2 w)
  have HO2 := Lib.hid (outside_in byte 0 15 g3 g4 w)
  have HO3 := Lib.hid (outside_in base 0 65536 g5 g6 w)
  have HIS : Hid (Calls Try.prog 40 #[.int .u64 (n64 m)] w fun e w' => e = .returned (.bool true) ∧ w = w') := Lib.hid (by have := is_any m w; rwa [hm] at this)
  have m0 : 0 ≤ 3 * p * byte := Int.mul_nonneg (by omega) (by omega)
  have m1 : 3 * p * byte ≤ 48 * 15 := Int.mul_le_mul (by omega) (by omega) (by omega) (by omega)
  have hz2 : (c == 0) = false := by simpa using hc
  have hz3 : (c != 0) = true := by simpa using hc
  clear hc
  clear hm
  go_enter Try.func20, Try.ntmps20
  go_wp2_with fail
  refine HO1.out.mono ?_
  rintro e w' ⟨rfl, rfl⟩
  go_wp2_with fail
  refine HO2.out.mono ?_
  rintro e w' ⟨rfl, rfl⟩
  go_wp2_with fail
  refine HO3.out.mono ?_
  rintro e w' ⟨rfl, rfl⟩
  go_wp2_with fail
  refine HIS.out.mono ?_
  rintro e w' ⟨rfl, rfl⟩
  go_wp2_with fail
  refine H1.out.mono ?_
  rintro e w' ⟨rfl, rfl⟩
  go_wp2_with fail
  refine H2.out.mono ?_
  rintro e w' ⟨rfl, rfl⟩
  go_wp2_with fail
  go_ret
  exact ⟨rfl, rfl⟩
theorem fill_over (v : Value) (base hits p byte : Int) (m e : BitVec 64) (w : World) (g1 : 1 ≤ p) (g2 : p ≤ 16) (g3 : 0 ≤ byte) (g4 : byte ≤ 15) (g5 : 0 ≤ base) (g6 : base ≤ 65536) (hm : isM m = true) (gh : 0 ≤ hits) (gh2 : hits ≤ 65536) (ho : hits < base + 3 * p * byte + 3 * p ∧ base + 3 * p * byte < hits + p) (H1 : Hid (Calls Try.prog 41 #[v, .int .i64 hits, .int .i64 p] w fun e w' => e = .returned (.int .i64 0) ∧ w = w')) (H2 : Hid (Calls Try.prog 41 #[v, .int .i64 (base + 3 * p * byte), .int .i64 (3 * p)] w fun e w' => e = .returned (.int .i64 0) ∧ w = w')) :
    Calls Try.prog 20 #[v, .int .i64 base, .int .i64 hits, .int .i64 p, .int .i64 byte, .int .u64 (n64 m), .int .u64 (n64 e)] w fun e w' => e = .returned (.int .i64 2) ∧ w = w' := by
  have HO1 := Lib.hid (outside_in p 1 16 g1 g2 w)
  have HO2 := Lib.hid (outside_in byte 0 15 g3 g4 w)
  have HO3 := Lib.hid (outside_in base 0 65536 g5 g6 w)
  have HIS : Hid (Calls Try.prog 40 #[.int .u64 (n64 m)] w fun e w' => e = .returned (.bool true) ∧ w = w') := Lib.hid (by have := is_any m w; rwa [hm] at this)
  have m0 : 0 ≤ 3 * p * byte := Int.mul_nonneg (by omega) (by omega)
  have m1 : 3 * p * byte ≤ 48 * 15 := Int.mul_le_mul (by omega) (by omega) (by omega) (by omega)
  obtain ⟨o1, o2⟩ := ho
  have o1 := decide_eq_true o1
  have o2 := decide_eq_true o2
  clear hm
  go_enter Try.func20, Try.ntmps20
  go_wp2_with fail
  refine HO1.out.mono ?_
  rintro e w' ⟨rfl, rfl⟩
  go_wp2_with fail
  refine HO2.out.mono ?_
  rintro e w' ⟨rfl, rfl⟩
  go_wp2_with fail
  refine HO3.out.mono ?_
  rintro e w' ⟨rfl, rfl⟩
  go_wp2_with fail
  refine HIS.out.mono ?_
  rintro e w' ⟨rfl, rfl⟩
  go_wp2_with fail
  refine H1.out.mono ?_
  rintro e w' ⟨rfl, rfl⟩
  go_wp2_with fail
  refine H2.out.mono ?_
  rintro e w' ⟨rfl, rfl⟩
  go_wp2_with fail
  go_ret
  exact ⟨rfl, rfl⟩
theorem fill_room (v : Value) (base hits p byte : Int) (m e : BitVec 64) (w : World) (g1 : 1 ≤ p) (g2 : p ≤ 16) (g3 : 0 ≤ byte) (g4 : byte ≤ 15) (g5 : 0 ≤ base) (g6 : base ≤ 65536) (hm : isM m = true) (c : Int) (hc : c ≠ 0) (gh : 0 ≤ hits) (gh2 : hits ≤ 65536) (ho : ¬ (hits < base + 3 * p * byte + 3 * p ∧ base + 3 * p * byte < hits + p)) (H1 : Hid (Calls Try.prog 41 #[v, .int .i64 hits, .int .i64 p] w fun e w' => e = .returned (.int .i64 0) ∧ w = w')) (H2 : Hid (Calls Try.prog 41 #[v, .int .i64 (base + 3 * p * byte), .int .i64 (3 * p)] w fun e w' => e = .returned (.int .i64 0) ∧ w = w')) (H3 : Hid (Calls Try.prog 42 #[v, .int .i64 (4 * p)] w fun e w' => e = .returned (.int .i64 c) ∧ w = w')) :
    Calls Try.prog 20 #[v, .int .i64 base, .int .i64 hits, .int .i64 p, .int .i64 byte, .int .u64 (n64 m), .int .u64 (n64 e)] w fun e w' => e = .returned (.int .i64 c) ∧ w = w' := by
  have HO1 := Lib.hid (outside_in p 1 16 g1 g2 w)
  have HO2 := Lib.hid (outside_in byte 0 15 g3 g4 w)
  have HO3 := Lib.hid (outside_in base 0 65536 g5 g6 w)
  have HIS : Hid (Calls Try.prog 40 #[.int .u64 (n64 m)] w fun e w' => e = .returned (.bool true) ∧ w = w') := Lib.hid (by have := is_any m w; rwa [hm] at this)
  have m0 : 0 ≤ 3 * p * byte := Int.mul_nonneg (by omega) (by omega)
  have m1 : 3 * p * byte ≤ 48 * 15 := Int.mul_le_mul (by omega) (by omega) (by omega) (by omega)
  have hz2 : (c == 0) = false := by simpa using hc
  have hz3 : (c != 0) = true := by simpa using hc
  clear hc
  have t : decide (hits < base + 3 * p * byte + 3 * p) = false ∨ (decide (hits < base + 3 * p * byte + 3 * p) = true ∧ decide (base + 3 * p * byte < hits + p) = false) := by
    by_cases q : hits < base + 3 * p * byte + 3 * p
    · exact .inr ⟨decide_eq_true q, decide_eq_false (fun q2 => ho ⟨q, q2⟩)⟩
    · exact .inl (decide_eq_false q)
  clear ho
  clear hm
  rcases t with t1 | ⟨t1, t2⟩
  all_goals
    go_enter Try.func20, Try.ntmps20
    go_wp2_with fail
    refine HO1.out.mono ?_
    rintro e w' ⟨rfl, rfl⟩
    go_wp2_with fail
    refine HO2.out.mono ?_
    rintro e w' ⟨rfl, rfl⟩
    go_wp2_with fail
    refine HO3.out.mono ?_
    rintro e w' ⟨rfl, rfl⟩
    go_wp2_with fail
    refine HIS.out.mono ?_
    rintro e w' ⟨rfl, rfl⟩
    go_wp2_with fail
    refine H1.out.mono ?_
    rintro e w' ⟨rfl, rfl⟩
    go_wp2_with fail
    refine H2.out.mono ?_
    rintro e w' ⟨rfl, rfl⟩
    go_wp2_with fail
    refine H3.out.mono ?_
    rintro e w' ⟨rfl, rfl⟩
    go_wp2_with fail
    go_ret
    exact ⟨rfl, rfl⟩
theorem fill_err {w : World} {F : Nat → Prop} {q : Nat} {C : List (BitVec 64)} {E : List Ev} (h : Ar w F q C E) (base hits p byte : Int) (m e : BitVec 64) (hz : fiE C.length E.length base hits p byte (isM m) ≠ 0) :
    Calls Try.prog 20 #[.pointer (some ⟨q, 0, none⟩), .int .i64 base, .int .i64 hits, .int .i64 p, .int .i64 byte, .int .u64 (n64 m), .int .u64 (n64 e)] w fun e w' => e = .returned (.int .i64 (fiE C.length E.length base hits p byte (isM m))) ∧ w = w' := by
  have hn2 := h.n2
  unfold fiE at hz ⊢
  split
  · rename_i h1
    exact fill_range _ base hits p byte m e w h1
  rename_i h1
  rw [if_neg h1] at hz
  have k1 : 1 ≤ p := by omega
  have k2 : p ≤ 16 := by omega
  have k3 : 0 ≤ byte := by omega
  have k4 : byte ≤ 15 := by omega
  have k5 : 0 ≤ base := by omega
  have k6 : base ≤ 65536 := by omega
  split
  · rename_i h2
    exact fill_mask _ base hits p byte m e w k1 k2 k3 k4 k5 k6 h2
  rename_i h2
  rw [if_neg h2] at hz
  have hm : isM m = true := by simpa using h2
  split
  rotate_left
  · rename_i h3
    exact fill_has1 _ base hits p byte m e w k1 k2 k3 k4 k5 k6 hm _ h3 (Lib.hid (has_any h hits p))
  rename_i h3
  rw [if_pos h3] at hz
  have H1 := has_any h hits p
  rw [h3] at H1
  split
  rotate_left
  · rename_i h4
    exact fill_has2 _ base hits p byte m e w k1 k2 k3 k4 k5 k6 hm _ h4 (Lib.hid H1) (Lib.hid (has_any h _ _))
  rename_i h4
  rw [if_pos h4] at hz
  have H2 := has_any h (base + 3 * p * byte) (3 * p)
  rw [h4] at H2
  have hb : 0 ≤ hits ∧ hits ≤ 65536 := by
    rcases hasE_cases C.length hits p with ⟨a, b⟩ | ⟨a, b⟩
    · omega
    · rw [a] at h3; cases h3
  split
  · rename_i h5
    exact fill_over _ base hits p byte m e w k1 k2 k3 k4 k5 k6 hm hb.1 hb.2 h5 (Lib.hid H1) (Lib.hid H2)
  rename_i h5
  rw [if_neg h5] at hz
  exact fill_room _ base hits p byte m e w k1 k2 k3 k4 k5 k6 hm _ hz hb.1 hb.2 h5 (Lib.hid H1) (Lib.hid H2) (Lib.hid (room_any h _))
theorem fill_nil (base hits p byte : Int) (m e : BitVec 64) (w : World) :
    Calls Try.prog 20 #[.pointer none, .int .i64 base, .int .i64 hits, .int .i64 p, .int .i64 byte, .int .u64 (n64 m), .int .u64 (n64 e)] w fun e w' => e = .returned (.int .i64 (if p < 1 ∨ 16 < p ∨ byte < 0 ∨ 15 < byte ∨ base < 0 ∨ 65536 < base then 7 else if isM m = false then 2 else 1)) ∧ w = w' := by
  split
  · rename_i h1
    exact fill_range _ base hits p byte m e w h1
  rename_i h1
  split
  · rename_i h2
    exact fill_mask _ base hits p byte m e w (by omega) (by omega) (by omega) (by omega) (by omega) (by omega) h2
  rename_i h2
  exact fill_has1 _ base hits p byte m e w (by omega) (by omega) (by omega) (by omega) (by omega) (by omega) (by simpa using h2) 1 (by decide) (Lib.hid (has_nil w hits p))
theorem rfill_range (v : Value) (base hits p byte : Int) (m e : BitVec 64) (w : World) (h : p < 1 ∨ 16 < p ∨ byte < 0 ∨ 15 < byte ∨ base < 0 ∨ 65536 < base) :
    Calls Try.prog 52 #[v, .int .i64 base, .int .i64 hits, .int .i64 p, .int .i64 byte, .int .u64 (n64 m), .int .u64 (n64 e)] w fun e w' => e = .returned (.int .i64 7) ∧ w = w' := by
  have t : decide (p < 1) = true ∨ (decide (p < 1) = false ∧ decide (16 < p) = true) ∨ (decide (p < 1) = false ∧ decide (16 < p) = false ∧ decide (byte < 0) = true) ∨ (decide (p < 1) = false ∧ decide (16 < p) = false ∧ decide (byte < 0) = false ∧ decide (16 ≤ byte) = true) ∨ (decide (p < 1) = false ∧ decide (16 < p) = false ∧ decide (byte < 0) = false ∧ decide (16 ≤ byte) = false ∧ decide (base < 0) = true) ∨ (decide (p < 1) = false ∧ decide (16 < p) = false ∧ decide (byte < 0) = false ∧ decide (16 ≤ byte) = false ∧ decide (base < 0) = false ∧ decide (65536 < base) = true) := by
    simp only [decide_eq_true_eq, decide_eq_false_iff_not]; omega
  clear h
  rcases t with t1 | ⟨t1, t2⟩ | ⟨t1, t2, t3⟩ | ⟨t1, t2, t3, t4⟩ | ⟨t1, t2, t3, t4, t5⟩ | ⟨t1, t2, t3, t4, t5, t6⟩
  all_goals
    go_enter Try.func52, Try.ntmps52
    go_wp2_with fail
    go_ret
    exact ⟨rfl, rfl⟩
theorem rfill_mask (v : Value) (base hits p byte : Int) (m e : BitVec 64) (w : World) (g1 : 1 ≤ p) (g2 : p ≤ 16) (g3 : 0 ≤ byte) (g4 : byte ≤ 15) (g5 : 0 ≤ base) (g6 : base ≤ 65536) (hm : isM m = false)  :
    Calls Try.prog 52 #[v, .int .i64 base, .int .i64 hits, .int .i64 p, .int .i64 byte, .int .u64 (n64 m), .int .u64 (n64 e)] w fun e w' => e = .returned (.int .i64 2) ∧ w = w' := by
  have q1 : decide (p < 1) = false := decide_eq_false (by omega)
  have q2 : decide (16 < p) = false := decide_eq_false (by omega)
  have q3 : decide (byte < 0) = false := decide_eq_false (by omega)
  have q4 : decide (16 ≤ byte) = false := decide_eq_false (by omega)
  have q5 : decide (base < 0) = false := decide_eq_false (by omega)
  have q6 : decide (65536 < base) = false := decide_eq_false (by omega)
  have HIS : Hid (Calls Try.prog 65 #[.int .u64 (n64 m)] w fun e w' => e = .returned (.bool false) ∧ w = w') := Lib.hid (by have := ris_any m w; rwa [hm] at this)
  clear hm
  go_enter Try.func52, Try.ntmps52
  go_wp2_with fail
  refine HIS.out.mono ?_
  rintro e w' ⟨rfl, rfl⟩
  go_wp2_with fail
  go_ret
  exact ⟨rfl, rfl⟩
theorem rfill_has1 (v : Value) (base hits p byte : Int) (m e : BitVec 64) (w : World) (g1 : 1 ≤ p) (g2 : p ≤ 16) (g3 : 0 ≤ byte) (g4 : byte ≤ 15) (g5 : 0 ≤ base) (g6 : base ≤ 65536) (hm : isM m = true) (c : Int) (hc : c ≠ 0) (H1 : Hid (Calls Try.prog 66 #[v, .int .i64 hits, .int .i64 p] w fun e w' => e = .returned (.int .i64 c) ∧ w = w')) :
    Calls Try.prog 52 #[v, .int .i64 base, .int .i64 hits, .int .i64 p, .int .i64 byte, .int .u64 (n64 m), .int .u64 (n64 e)] w fun e w' => e = .returned (.int .i64 c) ∧ w = w' := by
  have q1 : decide (p < 1) = false := decide_eq_false (by omega)
  have q2 : decide (16 < p) = false := decide_eq_false (by omega)
  have q3 : decide (byte < 0) = false := decide_eq_false (by omega)
  have q4 : decide (16 ≤ byte) = false := decide_eq_false (by omega)
  have q5 : decide (base < 0) = false := decide_eq_false (by omega)
  have q6 : decide (65536 < base) = false := decide_eq_false (by omega)
  have HIS : Hid (Calls Try.prog 65 #[.int .u64 (n64 m)] w fun e w' => e = .returned (.bool true) ∧ w = w') := Lib.hid (by have := ris_any m w; rwa [hm] at this)
  have hz2 : (c == 0) = false := by simpa using hc
  have hz3 : (c != 0) = true := by simpa using hc
  clear hc
  clear hm
  go_enter Try.func52, Try.ntmps52
  go_wp2_with fail
  refine HIS.out.mono ?_
  rintro e w' ⟨rfl, rfl⟩
  go_wp2_with fail
  refine H1.out.mono ?_
  rintro e w' ⟨rfl, rfl⟩
  go_wp2_with fail
  go_ret
  exact ⟨rfl, rfl⟩
theorem rfill_has2 (v : Value) (base hits p byte : Int) (m e : BitVec 64) (w : World) (g1 : 1 ≤ p) (g2 : p ≤ 16) (g3 : 0 ≤ byte) (g4 : byte ≤ 15) (g5 : 0 ≤ base) (g6 : base ≤ 65536) (hm : isM m = true) (c : Int) (hc : c ≠ 0) (H1 : Hid (Calls Try.prog 66 #[v, .int .i64 hits, .int .i64 p] w fun e w' => e = .returned (.int .i64 0) ∧ w = w')) (H2 : Hid (Calls Try.prog 66 #[v, .int .i64 (base + 3 * p * byte), .int .i64 (3 * p)] w fun e w' => e = .returned (.int .i64 c) ∧ w = w')) :
    Calls Try.prog 52 #[v, .int .i64 base, .int .i64 hits, .int .i64 p, .int .i64 byte, .int .u64 (n64 m), .int .u64 (n64 e)] w fun e w' => e = .returned (.int .i64 c) ∧ w = w' := by
  have q1 : decide (p < 1) = false := decide_eq_false (by omega)
  have q2 : decide (16 < p) = false := decide_eq_false (by omega)
  have q3 : decide (byte < 0) = false := decide_eq_false (by omega)
  have q4 : decide (16 ≤ byte) = false := decide_eq_false (by omega)
  have q5 : decide (base < 0) = false := decide_eq_false (by omega)
  have q6 : decide (65536 < base) = false := decide_eq_false (by omega)
  have HIS : Hid (Calls Try.prog 65 #[.int .u64 (n64 m)] w fun e w' => e = .returned (.bool true) ∧ w = w') := Lib.hid (by have := ris_any m w; rwa [hm] at this)
  have m0 : 0 ≤ 3 * p * byte := Int.mul_nonneg (by omega) (by omega)
  have m1 : 3 * p * byte ≤ 48 * 15 := Int.mul_le_mul (by omega) (by omega) (by omega) (by omega)
  have hz2 : (c == 0) = false := by simpa using hc
  have hz3 : (c != 0) = true := by simpa using hc
  clear hc
  clear hm
  go_enter Try.func52, Try.ntmps52
  go_wp2_with fail
  refine HIS.out.mono ?_
  rintro e w' ⟨rfl, rfl⟩
  go_wp2_with fail
  refine H1.out.mono ?_
  rintro e w' ⟨rfl, rfl⟩
  go_wp2_with fail
  refine H2.out.mono ?_
  rintro e w' ⟨rfl, rfl⟩
  go_wp2_with fail
  go_ret
  exact ⟨rfl, rfl⟩
theorem rfill_over (v : Value) (base hits p byte : Int) (m e : BitVec 64) (w : World) (g1 : 1 ≤ p) (g2 : p ≤ 16) (g3 : 0 ≤ byte) (g4 : byte ≤ 15) (g5 : 0 ≤ base) (g6 : base ≤ 65536) (hm : isM m = true) (gh : 0 ≤ hits) (gh2 : hits ≤ 65536) (ho : hits < base + 3 * p * byte + 3 * p ∧ base + 3 * p * byte < hits + p) (H1 : Hid (Calls Try.prog 66 #[v, .int .i64 hits, .int .i64 p] w fun e w' => e = .returned (.int .i64 0) ∧ w = w')) (H2 : Hid (Calls Try.prog 66 #[v, .int .i64 (base + 3 * p * byte), .int .i64 (3 * p)] w fun e w' => e = .returned (.int .i64 0) ∧ w = w')) :
    Calls Try.prog 52 #[v, .int .i64 base, .int .i64 hits, .int .i64 p, .int .i64 byte, .int .u64 (n64 m), .int .u64 (n64 e)] w fun e w' => e = .returned (.int .i64 2) ∧ w = w' := by
  have q1 : decide (p < 1) = false := decide_eq_false (by omega)
  have q2 : decide (16 < p) = false := decide_eq_false (by omega)
  have q3 : decide (byte < 0) = false := decide_eq_false (by omega)
  have q4 : decide (16 ≤ byte) = false := decide_eq_false (by omega)
  have q5 : decide (base < 0) = false := decide_eq_false (by omega)
  have q6 : decide (65536 < base) = false := decide_eq_false (by omega)
  have HIS : Hid (Calls Try.prog 65 #[.int .u64 (n64 m)] w fun e w' => e = .returned (.bool true) ∧ w = w') := Lib.hid (by have := ris_any m w; rwa [hm] at this)
  have m0 : 0 ≤ 3 * p * byte := Int.mul_nonneg (by omega) (by omega)
  have m1 : 3 * p * byte ≤ 48 * 15 := Int.mul_le_mul (by omega) (by omega) (by omega) (by omega)
  obtain ⟨o1, o2⟩ := ho
  have o1 := decide_eq_true o1
  have o2 := decide_eq_true o2
  clear hm
  go_enter Try.func52, Try.ntmps52
  go_wp2_with fail
  refine HIS.out.mono ?_
  rintro e w' ⟨rfl, rfl⟩
  go_wp2_with fail
  refine H1.out.mono ?_
  rintro e w' ⟨rfl, rfl⟩
  go_wp2_with fail
  refine H2.out.mono ?_
  rintro e w' ⟨rfl, rfl⟩
  go_wp2_with fail
  go_ret
  exact ⟨rfl, rfl⟩
theorem rfill_room (v : Value) (base hits p byte : Int) (m e : BitVec 64) (w : World) (g1 : 1 ≤ p) (g2 : p ≤ 16) (g3 : 0 ≤ byte) (g4 : byte ≤ 15) (g5 : 0 ≤ base) (g6 : base ≤ 65536) (hm : isM m = true) (c : Int) (hc : c ≠ 0) (gh : 0 ≤ hits) (gh2 : hits ≤ 65536) (ho : ¬ (hits < base + 3 * p * byte + 3 * p ∧ base + 3 * p * byte < hits + p)) (H1 : Hid (Calls Try.prog 66 #[v, .int .i64 hits, .int .i64 p] w fun e w' => e = .returned (.int .i64 0) ∧ w = w')) (H2 : Hid (Calls Try.prog 66 #[v, .int .i64 (base + 3 * p * byte), .int .i64 (3 * p)] w fun e w' => e = .returned (.int .i64 0) ∧ w = w')) (H3 : Hid (Calls Try.prog 67 #[v, .int .i64 (4 * p)] w fun e w' => e = .returned (.int .i64 c) ∧ w = w')) :
    Calls Try.prog 52 #[v, .int .i64 base, .int .i64 hits, .int .i64 p, .int .i64 byte, .int .u64 (n64 m), .int .u64 (n64 e)] w fun e w' => e = .returned (.int .i64 c) ∧ w = w' := by
  have q1 : decide (p < 1) = false := decide_eq_false (by omega)
  have q2 : decide (16 < p) = false := decide_eq_false (by omega)
  have q3 : decide (byte < 0) = false := decide_eq_false (by omega)
  have q4 : decide (16 ≤ byte) = false := decide_eq_false (by omega)
  have q5 : decide (base < 0) = false := decide_eq_false (by omega)
  have q6 : decide (65536 < base) = false := decide_eq_false (by omega)
  have HIS : Hid (Calls Try.prog 65 #[.int .u64 (n64 m)] w fun e w' => e = .returned (.bool true) ∧ w = w') := Lib.hid (by have := ris_any m w; rwa [hm] at this)
  have m0 : 0 ≤ 3 * p * byte := Int.mul_nonneg (by omega) (by omega)
  have m1 : 3 * p * byte ≤ 48 * 15 := Int.mul_le_mul (by omega) (by omega) (by omega) (by omega)
  have hz2 : (c == 0) = false := by simpa using hc
  have hz3 : (c != 0) = true := by simpa using hc
  clear hc
  have t : decide (hits < base + 3 * p * byte + 3 * p) = false ∨ (decide (hits < base + 3 * p * byte + 3 * p) = true ∧ decide (base + 3 * p * byte < hits + p) = false) := by
    by_cases q : hits < base + 3 * p * byte + 3 * p
    · exact .inr ⟨decide_eq_true q, decide_eq_false (fun q2 => ho ⟨q, q2⟩)⟩
    · exact .inl (decide_eq_false q)
  clear ho
  clear hm
  rcases t with t1 | ⟨t1, t2⟩
  all_goals
    go_enter Try.func52, Try.ntmps52
    go_wp2_with fail
    refine HIS.out.mono ?_
    rintro e w' ⟨rfl, rfl⟩
    go_wp2_with fail
    refine H1.out.mono ?_
    rintro e w' ⟨rfl, rfl⟩
    go_wp2_with fail
    refine H2.out.mono ?_
    rintro e w' ⟨rfl, rfl⟩
    go_wp2_with fail
    refine H3.out.mono ?_
    rintro e w' ⟨rfl, rfl⟩
    go_wp2_with fail
    go_ret
    exact ⟨rfl, rfl⟩
theorem rfill_err {w : World} {F : Nat → Prop} {q : Nat} {C : List (BitVec 64)} {E : List Ev} (h : Rf w F q C E) (base hits p byte : Int) (m e : BitVec 64) (hz : fiE C.length E.length base hits p byte (isM m) ≠ 0) :
    Calls Try.prog 52 #[.pointer (some ⟨q, 0, none⟩), .int .i64 base, .int .i64 hits, .int .i64 p, .int .i64 byte, .int .u64 (n64 m), .int .u64 (n64 e)] w fun e w' => e = .returned (.int .i64 (fiE C.length E.length base hits p byte (isM m))) ∧ w = w' := by
  have hn2 := h.n2
  unfold fiE at hz ⊢
  split
  · rename_i h1
    exact rfill_range _ base hits p byte m e w h1
  rename_i h1
  rw [if_neg h1] at hz
  have k1 : 1 ≤ p := by omega
  have k2 : p ≤ 16 := by omega
  have k3 : 0 ≤ byte := by omega
  have k4 : byte ≤ 15 := by omega
  have k5 : 0 ≤ base := by omega
  have k6 : base ≤ 65536 := by omega
  split
  · rename_i h2
    exact rfill_mask _ base hits p byte m e w k1 k2 k3 k4 k5 k6 h2
  rename_i h2
  rw [if_neg h2] at hz
  have hm : isM m = true := by simpa using h2
  split
  rotate_left
  · rename_i h3
    exact rfill_has1 _ base hits p byte m e w k1 k2 k3 k4 k5 k6 hm _ h3 (Lib.hid (rhas_any h hits p))
  rename_i h3
  rw [if_pos h3] at hz
  have H1 := rhas_any h hits p
  rw [h3] at H1
  split
  rotate_left
  · rename_i h4
    exact rfill_has2 _ base hits p byte m e w k1 k2 k3 k4 k5 k6 hm _ h4 (Lib.hid H1) (Lib.hid (rhas_any h _ _))
  rename_i h4
  rw [if_pos h4] at hz
  have H2 := rhas_any h (base + 3 * p * byte) (3 * p)
  rw [h4] at H2
  have hb : 0 ≤ hits ∧ hits ≤ 65536 := by
    rcases hasE_cases C.length hits p with ⟨a, b⟩ | ⟨a, b⟩
    · omega
    · rw [a] at h3; cases h3
  split
  · rename_i h5
    exact rfill_over _ base hits p byte m e w k1 k2 k3 k4 k5 k6 hm hb.1 hb.2 h5 (Lib.hid H1) (Lib.hid H2)
  rename_i h5
  rw [if_neg h5] at hz
  exact rfill_room _ base hits p byte m e w k1 k2 k3 k4 k5 k6 hm _ hz hb.1 hb.2 h5 (Lib.hid H1) (Lib.hid H2) (Lib.hid (rroom_any h _))
theorem rfill_nil (base hits p byte : Int) (m e : BitVec 64) (w : World) :
    Calls Try.prog 52 #[.pointer none, .int .i64 base, .int .i64 hits, .int .i64 p, .int .i64 byte, .int .u64 (n64 m), .int .u64 (n64 e)] w fun e w' => e = .returned (.int .i64 (if p < 1 ∨ 16 < p ∨ byte < 0 ∨ 15 < byte ∨ base < 0 ∨ 65536 < base then 7 else if isM m = false then 2 else 1)) ∧ w = w' := by
  split
  · rename_i h1
    exact rfill_range _ base hits p byte m e w h1
  rename_i h1
  split
  · rename_i h2
    exact rfill_mask _ base hits p byte m e w (by omega) (by omega) (by omega) (by omega) (by omega) (by omega) h2
  rename_i h2
  exact rfill_has1 _ base hits p byte m e w (by omega) (by omega) (by omega) (by omega) (by omega) (by omega) (by simpa using h2) 1 (by decide) (Lib.hid (rhas_nil w hits p))
end Go.Proofs.Ytonkhgmfeakbcaa
