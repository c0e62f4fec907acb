/-
  dragnetlaw10.do: a call in both arenas, and one without arenas.
-/
import Derived.Test.YtoobgfammippfaaRef10Ops
namespace Go.Proofs.Ytoobgfammippfaa
open Go.RowKit
attribute [local go_sem] bits_and_u64 bits_or_u64 bits_xor_u64 bits_andNot_u64 wrap_u64 bv_add bv_neg bv_sub bv_mul
set_option linter.unusedVariables false
set_option maxRecDepth 100000
/-- What Count and Stick return, and leave. -/
def coR (C : List (BitVec 64)) (E : List Ev) (x : Int) (m k : BitVec 64) : Int × (List (BitVec 64) × List Ev) := if isM m = true then ((chRes C E x (fun v => sumM v (m &&& 1#64) k)).1.2, (chRes C E x (fun v => sumM v (m &&& 1#64) k)).2) else (2, (C, E))
def stR (C : List (BitVec 64)) (E : List Ev) (x : Int) (m : BitVec 64) : Int × (List (BitVec 64) × List Ev) := if isM m = true then ((chRes C E x (fun v => v ||| m)).1.2, (chRes C E x (fun v => v ||| m)).2) else (2, (C, E))
section
variable {w : World} {F : Nat → Prop} {p : Nat} {C : List (BitVec 64)} {E : List Ev}
theorem count_full (h : Ar w F p C E) (x : Int) (m k : BitVec 64) :
    Calls Try.prog 22 #[.pointer (some ⟨p, 0, none⟩), .int .i64 x, .int .u64 (n64 m), .int .u64 (n64 k)] w (ErPost w F p (coR C E x m k).1 (coR C E x m k).2) := by
  unfold coR
  cases hm : isM m
  · exact (count_arg w _ x m k hm).mono fun e w' ⟨h1, h2⟩ => ⟨h1, ArTo.off h h2⟩
  · exact count_any h x m k hm
theorem stick_full (h : Ar w F p C E) (x : Int) (m : BitVec 64) :
    Calls Try.prog 18 #[.pointer (some ⟨p, 0, none⟩), .int .i64 x, .int .u64 (n64 m)] w (ErPost w F p (stR C E x m).1 (stR C E x m).2) := by
  unfold stR
  cases hm : isM m
  · exact (stick_arg w _ x m hm).mono fun e w' ⟨h1, h2⟩ => ⟨h1, ArTo.off h h2⟩
  · exact stick_any h x m hm
theorem rcount_full (h : Rf w F p C E) (x : Int) (m k : BitVec 64) :
    Calls Try.prog 49 #[.pointer (some ⟨p, 0, none⟩), .int .i64 x, .int .u64 (n64 m), .int .u64 (n64 k)] w (RErPost w F p (coR C E x m k).1 (coR C E x m k).2) := by
  unfold coR
  cases hm : isM m
  · exact (rcount_arg w _ x m k hm).mono fun e w' ⟨h1, h2⟩ => ⟨h1, h2 ▸ RfTo.refl h⟩
  · exact rcount_any h x m k hm
theorem rstick_full (h : Rf w F p C E) (x : Int) (m : BitVec 64) :
    Calls Try.prog 51 #[.pointer (some ⟨p, 0, none⟩), .int .i64 x, .int .u64 (n64 m)] w (RErPost w F p (stR C E x m).1 (stR C E x m).2) := by
  unfold stR
  cases hm : isM m
  · exact (rstick_arg w _ x m hm).mono fun e w' ⟨h1, h2⟩ => ⟨h1, h2 ▸ RfTo.refl h⟩
  · exact rstick_any h x m hm
end
/-- The cells of a Call. -/
def ccs (x : Int) (m k : BitVec 64) : Array Value := #[.int .i64 x, .int .u64 (n64 m), .int .u64 (n64 k)]
theorem Pair.c3 {w0 w : World} {b : Nat} {x : Int} {m k : BitVec 64} {t : TypeId} {p r : Nat} {C C' : List (BitVec 64)} {E E' : List Ev} (h : Pair w0 w b t (ccs x m k) p r C E C' E') :
    w.cell? ⟨b, 0, none⟩ = some (.int .i64 x) ∧ w.cell? ⟨b, 1, none⟩ = some (.int .u64 (n64 m)) ∧ w.cell? ⟨b, 2, none⟩ = some (.int .u64 (n64 k)) := ⟨h.cell 0, h.cell 1, h.cell 2⟩
theorem Solo.c3 {w0 w : World} {b : Nat} {x : Int} {m k : BitVec 64} {t : TypeId} (h : Solo w0 w b t (ccs x m k)) :
    w.cell? ⟨b, 0, none⟩ = some (.int .i64 x) ∧ w.cell? ⟨b, 1, none⟩ = some (.int .u64 (n64 m)) ∧ w.cell? ⟨b, 2, none⟩ = some (.int .u64 (n64 k)) := ⟨h.2.cell 0, h.2.cell 1, h.2.cell 2⟩
section
variable {w0 w : World} {p r : Nat} {C : List (BitVec 64)} {E : List Ev}
set_option maxHeartbeats 4000000 in
theorem do_0 (h : Both w0 w p r C E) (n : Int) (h0 : 0 ≤ n) (h1 : n ≤ 255) (hn : n % 5 = 0) (x : Int) (m k : BitVec 64) :
    Calls Try.prog 26 #[.pointer (some ⟨p, 0, none⟩), .pointer (some ⟨r, 0, none⟩), .int .u8 n, .agg #[.int .i64 x, .int .u64 (n64 m), .int .u64 (n64 k)]] w (DoPost w0 p r) := by
  have HP := Lib.hid (h.pair 53 (ccs x m k))
  have k0 := HP.out.c3
  have hq0 : (n % 5 == 0) = true := by rw [beq_iff_eq]; omega
  clear h hn
  go_enter Try.func26, Try.ntmps26
  go_wp2_with fail
  go_region_held3 (fun w' => w'.cell? ⟨w.heap.size, 0, none⟩ = some (.int .i64 x) ∧ w'.cell? ⟨w.heap.size, 1, none⟩ = some (.int .u64 (n64 m)) ∧ w'.cell? ⟨w.heap.size, 2, none⟩ = some (.int .u64 (n64 k)))
    (first | assumption | go_keep)
    (first
      | (go_at_call 22; refine (Pair.first (HP.out.off (by first | exact Off.refl _ _ | exact Off.drew (Off.refl _ _) | exact Off.drewN (Off.refl _ _) _)) (fun w F h => count_full h x m k)).mono ?_; rintro e w1 ⟨rfl, h1⟩; have k1 := h1.c3; have H1 := Lib.hid h1; clear h1)
      | (go_at_call 49; refine (Pair.second (H1.out.off (by first | exact Off.refl _ _ | exact Off.drew (Off.refl _ _) | exact Off.drewN (Off.refl _ _) _)) (fun w F h => rcount_full h x m k)).mono ?_; rintro e w2 ⟨rfl, h2⟩; have k2 := h2.c3; have H2 := Lib.hid h2; clear h2))
  go_wp2
  go_ret
  exact ⟨ret_bool (by simp), _, _, H2.out.both⟩
set_option maxHeartbeats 4000000 in
theorem do_1 (h : Both w0 w p r C E) (n : Int) (h0 : 0 ≤ n) (h1 : n ≤ 255) (hn : n % 5 = 1) (x : Int) (m k : BitVec 64) :
    Calls Try.prog 26 #[.pointer (some ⟨p, 0, none⟩), .pointer (some ⟨r, 0, none⟩), .int .u8 n, .agg #[.int .i64 x, .int .u64 (n64 m), .int .u64 (n64 k)]] w (DoPost w0 p r) := by
  have HP := Lib.hid (h.pair 53 (ccs x m k))
  have k0 := HP.out.c3
  have hq0 : (n % 5 == 0) = false := by rw [beq_eq_false_iff_ne]; omega
  have hq1 : (n % 5 == 1) = true := by rw [beq_iff_eq]; omega
  clear h hn
  go_enter Try.func26, Try.ntmps26
  go_wp2_with fail
  go_region_held3 (fun w' => w'.cell? ⟨w.heap.size, 0, none⟩ = some (.int .i64 x) ∧ w'.cell? ⟨w.heap.size, 1, none⟩ = some (.int .u64 (n64 m)) ∧ w'.cell? ⟨w.heap.size, 2, none⟩ = some (.int .u64 (n64 k)))
    (first | assumption | go_keep)
    (first
      | (go_at_call 23; refine (Pair.first (HP.out.off (by first | exact Off.refl _ _ | exact Off.drew (Off.refl _ _) | exact Off.drewN (Off.refl _ _) _)) (fun w F h => plusA_any h x m k)).mono ?_; rintro e w1 ⟨rfl, h1⟩; have k1 := h1.c3; have H1 := Lib.hid h1; clear h1)
      | (go_at_call 50; refine (Pair.second (H1.out.off (by first | exact Off.refl _ _ | exact Off.drew (Off.refl _ _) | exact Off.drewN (Off.refl _ _) _)) (fun w F h => rplusA_any h x m k)).mono ?_; rintro e w2 ⟨rfl, h2⟩; have k2 := h2.c3; have H2 := Lib.hid h2; clear h2))
  go_wp2
  go_ret
  exact ⟨ret_bool (by simp), _, _, H2.out.both⟩
set_option maxHeartbeats 4000000 in
theorem do_2 (h : Both w0 w p r C E) (n : Int) (h0 : 0 ≤ n) (h1 : n ≤ 255) (hn : n % 5 = 2) (x : Int) (m k : BitVec 64) :
    Calls Try.prog 26 #[.pointer (some ⟨p, 0, none⟩), .pointer (some ⟨r, 0, none⟩), .int .u8 n, .agg #[.int .i64 x, .int .u64 (n64 m), .int .u64 (n64 k)]] w (DoPost w0 p r) := by
  have HP := Lib.hid (h.pair 53 (ccs x m k))
  have k0 := HP.out.c3
  have hq0 : (n % 5 == 0) = false := by rw [beq_eq_false_iff_ne]; omega
  have hq1 : (n % 5 == 1) = false := by rw [beq_eq_false_iff_ne]; omega
  have hq2 : (n % 5 == 2) = true := by rw [beq_iff_eq]; omega
  clear h hn
  go_enter Try.func26, Try.ntmps26
  go_wp2_with fail
  go_region_held3 (fun w' => w'.cell? ⟨w.heap.size, 0, none⟩ = some (.int .i64 x) ∧ w'.cell? ⟨w.heap.size, 1, none⟩ = some (.int .u64 (n64 m)) ∧ w'.cell? ⟨w.heap.size, 2, none⟩ = some (.int .u64 (n64 k)))
    (first | assumption | go_keep)
    (first
      | (go_at_call 18; refine (Pair.first (HP.out.off (by first | exact Off.refl _ _ | exact Off.drew (Off.refl _ _) | exact Off.drewN (Off.refl _ _) _)) (fun w F h => stick_full h x m)).mono ?_; rintro e w1 ⟨rfl, h1⟩; have k1 := h1.c3; have H1 := Lib.hid h1; clear h1)
      | (go_at_call 51; refine (Pair.second (H1.out.off (by first | exact Off.refl _ _ | exact Off.drew (Off.refl _ _) | exact Off.drewN (Off.refl _ _) _)) (fun w F h => rstick_full h x m)).mono ?_; rintro e w2 ⟨rfl, h2⟩; have k2 := h2.c3; have H2 := Lib.hid h2; clear h2))
  go_wp2
  go_ret
  exact ⟨ret_bool (by simp), _, _, H2.out.both⟩
set_option maxHeartbeats 4000000 in
theorem do_3 (h : Both w0 w p r C E) (n : Int) (h0 : 0 ≤ n) (h1 : n ≤ 255) (hn : n % 5 = 3) (x : Int) (m k : BitVec 64) :
    Calls Try.prog 26 #[.pointer (some ⟨p, 0, none⟩), .pointer (some ⟨r, 0, none⟩), .int .u8 n, .agg #[.int .i64 x, .int .u64 (n64 m), .int .u64 (n64 k)]] w (DoPost w0 p r) := by
  have HP := Lib.hid (h.pair 53 (ccs x m k))
  have k0 := HP.out.c3
  have hq0 : (n % 5 == 0) = false := by rw [beq_eq_false_iff_ne]; omega
  have hq1 : (n % 5 == 1) = false := by rw [beq_eq_false_iff_ne]; omega
  have hq2 : (n % 5 == 2) = false := by rw [beq_eq_false_iff_ne]; omega
  have hq3 : (n % 5 == 3) = true := by rw [beq_iff_eq]; omega
  clear h hn
  go_enter Try.func26, Try.ntmps26
  go_wp2_with fail
  refine (Pair.first HP.out (fun w F h => take_any h x)).mono ?_
  rintro e w1 ⟨rfl, h1⟩
  have k1 := h1.c3
  have H1 := Lib.hid h1
  clear h1 k0
  go_wp2_with fail
  refine (Pair.second H1.out (fun w F h => rtake_any h x)).mono ?_
  rintro e w2 ⟨rfl, h2⟩
  have H2 := Lib.hid h2
  clear h2 k1
  go_wp2
  go_ret
  exact ⟨ret_bool (by simp), _, _, H2.out.both⟩
set_option maxHeartbeats 4000000 in
theorem do_4 (h : Both w0 w p r C E) (n : Int) (h0 : 0 ≤ n) (h1 : n ≤ 255) (hn : n % 5 = 4) (x : Int) (m k : BitVec 64) :
    Calls Try.prog 26 #[.pointer (some ⟨p, 0, none⟩), .pointer (some ⟨r, 0, none⟩), .int .u8 n, .agg #[.int .i64 x, .int .u64 (n64 m), .int .u64 (n64 k)]] w (DoPost w0 p r) := by
  have HP := Lib.hid (h.pair 53 (ccs x m k))
  have k0 := HP.out.c3
  have hq0 : (n % 5 == 0) = false := by rw [beq_eq_false_iff_ne]; omega
  have hq1 : (n % 5 == 1) = false := by rw [beq_eq_false_iff_ne]; omega
  have hq2 : (n % 5 == 2) = false := by rw [beq_eq_false_iff_ne]; omega
  have hq3 : (n % 5 == 3) = false := by rw [beq_eq_false_iff_ne]; omega
  clear h hn
  go_enter Try.func26, Try.ntmps26
  go_wp2_with fail
  refine (Pair.first HP.out (fun w F h => above_any h x m)).mono ?_
  rintro e w1 ⟨rfl, h1⟩
  have k1 := h1.c3
  have H1 := Lib.hid h1
  clear h1 k0
  go_wp2_with fail
  refine (Pair.second H1.out (fun w F h => rabove_any h x m)).mono ?_
  rintro e w2 ⟨rfl, h2⟩
  have H2 := Lib.hid h2
  clear h2 k1
  go_wp2
  go_ret
  exact ⟨ret_bool (by simp), _, _, H2.out.both⟩
theorem do_any (h : Both w0 w p r C E) (n : Int) (h0 : 0 ≤ n) (h1 : n ≤ 255) (x : Int) (m k : BitVec 64) :
    Calls Try.prog 26 #[.pointer (some ⟨p, 0, none⟩), .pointer (some ⟨r, 0, none⟩), .int .u8 n, .agg #[.int .i64 x, .int .u64 (n64 m), .int .u64 (n64 k)]] w (DoPost w0 p r) := by
  have h5 : n % 5 = 0 ∨ n % 5 = 1 ∨ n % 5 = 2 ∨ n % 5 = 3 ∨ n % 5 = 4 := by omega
  rcases h5 with h5 | h5 | h5 | h5 | h5
  · exact do_0 h n h0 h1 h5 x m k
  · exact do_1 h n h0 h1 h5 x m k
  · exact do_2 h n h0 h1 h5 x m k
  · exact do_3 h n h0 h1 h5 x m k
  · exact do_4 h n h0 h1 h5 x m k
end
theorem count_nil (w : World) :
    Calls Try.prog 22 #[.pointer none, .int .i64 0, .int .u64 0, .int .u64 0] w fun e w' => e = .returned (.int .i64 1) ∧ Off Nob w w' := by
  go_enter Try.func22, Try.ntmps22
  go_wp2_with fail
  refine Calls.mono (R := fun e w1 => e = .returned (.bool true) ∧ _ = w1) (is_any 0#64 _) ?_
  rintro e w' ⟨rfl, rfl⟩
  go_wp2_with fail
  refine (change_nil _ 0 _).mono ?_
  rintro e w' ⟨rfl, rfl⟩
  go_wp2
  go_ret
  exact ⟨rfl, by first | exact Off.refl _ _ | exact Off.alloc (Off.refl _ _) _ | exact Off.alloc (Off.alloc (Off.refl _ _) _) _⟩
theorem count_nil2 (w : World) :
    Calls Try.prog 49 #[.pointer none, .int .i64 0, .int .u64 0, .int .u64 0] w fun e w' => e = .returned (.int .i64 1) ∧ Off Nob w w' := Calls.mono (rcount_nil w 0 0#64 0#64 rfl) fun e w' ⟨h1, h2⟩ => ⟨h1, h2 ▸ Off.refl _ _⟩
theorem plus_nil (w : World) :
    Calls Try.prog 23 #[.pointer none, .int .i64 0, .int .u64 0, .int .u64 0] w fun e w' => e = .returned (.int .i64 1) ∧ Off Nob w w' := by
  go_enter Try.func23, Try.ntmps23
  go_wp2_with fail
  refine (change_nil _ 0 _).mono ?_
  rintro e w' ⟨rfl, rfl⟩
  go_wp2
  go_ret
  exact ⟨rfl, by first | exact Off.refl _ _ | exact Off.alloc (Off.refl _ _) _ | exact Off.alloc (Off.alloc (Off.refl _ _) _) _⟩
theorem plus_nil2 (w : World) :
    Calls Try.prog 50 #[.pointer none, .int .i64 0, .int .u64 0, .int .u64 0] w fun e w' => e = .returned (.int .i64 1) ∧ Off Nob w w' := Calls.mono (rplus_nil w 0 0#64 0#64) fun e w' ⟨h1, h2⟩ => ⟨h1, h2 ▸ Off.refl _ _⟩
theorem stick_nil (w : World) :
    Calls Try.prog 18 #[.pointer none, .int .i64 0, .int .u64 0] w fun e w' => e = .returned (.int .i64 1) ∧ Off Nob w w' := by
  go_enter Try.func18, Try.ntmps18
  go_wp2_with fail
  refine Calls.mono (R := fun e w1 => e = .returned (.bool true) ∧ _ = w1) (is_any 0#64 _) ?_
  rintro e w' ⟨rfl, rfl⟩
  go_wp2_with fail
  refine (change_nil _ 0 _).mono ?_
  rintro e w' ⟨rfl, rfl⟩
  go_wp2
  go_ret
  exact ⟨rfl, by first | exact Off.refl _ _ | exact Off.alloc (Off.refl _ _) _ | exact Off.alloc (Off.alloc (Off.refl _ _) _) _⟩
theorem stick_nil2 (w : World) :
    Calls Try.prog 51 #[.pointer none, .int .i64 0, .int .u64 0] w fun e w' => e = .returned (.int .i64 1) ∧ Off Nob w w' := Calls.mono (rstick_nil w 0 0#64 rfl) fun e w' ⟨h1, h2⟩ => ⟨h1, h2 ▸ Off.refl _ _⟩
theorem take_nil (w : World) :
    Calls Try.prog 21 #[.pointer none, .int .i64 0] w fun e w' => e = .returned (.tuple #[.int .u64 0, .int .i64 1]) ∧ Off Nob w w' := by
  go_enter Try.func21, Try.ntmps21
  go_wp2_with fail
  refine (change_nil _ 0 _).mono ?_
  rintro e w' ⟨rfl, rfl⟩
  go_wp2
  go_ret2
  exact ⟨rfl, by first | exact Off.refl _ _ | exact Off.alloc (Off.refl _ _) _ | exact Off.alloc (Off.alloc (Off.refl _ _) _) _⟩
theorem take_nil2 (w : World) :
    Calls Try.prog 52 #[.pointer none, .int .i64 0] w fun e w' => e = .returned (.tuple #[.int .u64 0, .int .i64 1]) ∧ Off Nob w w' := Calls.mono (rtake_nil w 0) fun e w' ⟨h1, h2⟩ => ⟨h1, h2 ▸ Off.refl _ _⟩
theorem above_nil (w : World) :
    Calls Try.prog 25 #[.pointer none, .int .i64 0, .int .u64 0] w fun e w' => e = .returned (.tuple #[.int .u64 0, .int .i64 1]) ∧ Off Nob w w' := by
  go_enter Try.func25, Try.ntmps25
  go_wp2_with fail
  refine (has_nil _ 0 1).mono ?_
  rintro e w' ⟨rfl, rfl⟩
  go_wp2
  go_ret2
  exact ⟨rfl, by first | exact Off.refl _ _ | exact Off.alloc (Off.refl _ _) _ | exact Off.alloc (Off.alloc (Off.refl _ _) _) _⟩
theorem above_nil2 (w : World) :
    Calls Try.prog 53 #[.pointer none, .int .i64 0, .int .u64 0] w fun e w' => e = .returned (.tuple #[.int .u64 0, .int .i64 1]) ∧ Off Nob w w' := Calls.mono (rabove_nil w 0 0#64) fun e w' ⟨h1, h2⟩ => ⟨h1, h2 ▸ Off.refl _ _⟩
set_option maxHeartbeats 4000000 in
theorem doNil_0 (w : World) : Calls Try.prog 26 #[.pointer none, .pointer none, .int .u8 0, .agg #[.int .i64 0, .int .u64 0, .int .u64 0]] w (BoolNew true w) := by
  have HP := Lib.hid (Solo.new w 53 (ccs 0 0#64 0#64))
  have k0 : (w.alloc (.cells #[.int .i64 0, .int .u64 0, .int .u64 0] 53)).cell? ⟨w.heap.size, 0, none⟩ = some (.int .i64 0) ∧ (w.alloc (.cells #[.int .i64 0, .int .u64 0, .int .u64 0] 53)).cell? ⟨w.heap.size, 1, none⟩ = some (.int .u64 0) ∧ (w.alloc (.cells #[.int .i64 0, .int .u64 0, .int .u64 0] 53)).cell? ⟨w.heap.size, 2, none⟩ = some (.int .u64 0) := HP.out.c3
  go_enter Try.func26, Try.ntmps26
  go_wp2_with fail
  go_region_held3 (fun w' => w'.cell? ⟨w.heap.size, 0, none⟩ = some (.int .i64 0) ∧ w'.cell? ⟨w.heap.size, 1, none⟩ = some (.int .u64 0) ∧ w'.cell? ⟨w.heap.size, 2, none⟩ = some (.int .u64 0))
    (first | assumption | go_keep)
    (first
      | (go_at_call 22; refine (count_nil _).mono ?_; rintro e w1 ⟨rfl, o1⟩; have H1 := Lib.hid (HP.out.off (Off.also (by first | exact Off.refl _ _ | exact Off.drew (Off.refl _ _) | exact Off.drewN (Off.refl _ _) _) o1)); have k1 : w1.cell? ⟨w.heap.size, 0, none⟩ = some (.int .i64 0) ∧ w1.cell? ⟨w.heap.size, 1, none⟩ = some (.int .u64 0) ∧ w1.cell? ⟨w.heap.size, 2, none⟩ = some (.int .u64 0) := H1.out.c3; clear o1)
      | (go_at_call 49; refine (count_nil2 _).mono ?_; rintro e w2 ⟨rfl, o2⟩; have H2 := Lib.hid (H1.out.off (Off.also (by first | exact Off.refl _ _ | exact Off.drew (Off.refl _ _) | exact Off.drewN (Off.refl _ _) _) o2)); have k2 : w2.cell? ⟨w.heap.size, 0, none⟩ = some (.int .i64 0) ∧ w2.cell? ⟨w.heap.size, 1, none⟩ = some (.int .u64 0) ∧ w2.cell? ⟨w.heap.size, 2, none⟩ = some (.int .u64 0) := H2.out.c3; clear o2))
  go_wp2
  go_ret
  exact ⟨rfl, H2.out.1⟩
set_option maxHeartbeats 4000000 in
theorem doNil_1 (w : World) : Calls Try.prog 26 #[.pointer none, .pointer none, .int .u8 1, .agg #[.int .i64 0, .int .u64 0, .int .u64 0]] w (BoolNew true w) := by
  have HP := Lib.hid (Solo.new w 53 (ccs 0 0#64 0#64))
  have k0 : (w.alloc (.cells #[.int .i64 0, .int .u64 0, .int .u64 0] 53)).cell? ⟨w.heap.size, 0, none⟩ = some (.int .i64 0) ∧ (w.alloc (.cells #[.int .i64 0, .int .u64 0, .int .u64 0] 53)).cell? ⟨w.heap.size, 1, none⟩ = some (.int .u64 0) ∧ (w.alloc (.cells #[.int .i64 0, .int .u64 0, .int .u64 0] 53)).cell? ⟨w.heap.size, 2, none⟩ = some (.int .u64 0) := HP.out.c3
  go_enter Try.func26, Try.ntmps26
  go_wp2_with fail
  go_region_held3 (fun w' => w'.cell? ⟨w.heap.size, 0, none⟩ = some (.int .i64 0) ∧ w'.cell? ⟨w.heap.size, 1, none⟩ = some (.int .u64 0) ∧ w'.cell? ⟨w.heap.size, 2, none⟩ = some (.int .u64 0))
    (first | assumption | go_keep)
    (first
      | (go_at_call 23; refine (plus_nil _).mono ?_; rintro e w1 ⟨rfl, o1⟩; have H1 := Lib.hid (HP.out.off (Off.also (by first | exact Off.refl _ _ | exact Off.drew (Off.refl _ _) | exact Off.drewN (Off.refl _ _) _) o1)); have k1 : w1.cell? ⟨w.heap.size, 0, none⟩ = some (.int .i64 0) ∧ w1.cell? ⟨w.heap.size, 1, none⟩ = some (.int .u64 0) ∧ w1.cell? ⟨w.heap.size, 2, none⟩ = some (.int .u64 0) := H1.out.c3; clear o1)
      | (go_at_call 50; refine (plus_nil2 _).mono ?_; rintro e w2 ⟨rfl, o2⟩; have H2 := Lib.hid (H1.out.off (Off.also (by first | exact Off.refl _ _ | exact Off.drew (Off.refl _ _) | exact Off.drewN (Off.refl _ _) _) o2)); have k2 : w2.cell? ⟨w.heap.size, 0, none⟩ = some (.int .i64 0) ∧ w2.cell? ⟨w.heap.size, 1, none⟩ = some (.int .u64 0) ∧ w2.cell? ⟨w.heap.size, 2, none⟩ = some (.int .u64 0) := H2.out.c3; clear o2))
  go_wp2
  go_ret
  exact ⟨rfl, H2.out.1⟩
set_option maxHeartbeats 4000000 in
theorem doNil_2 (w : World) : Calls Try.prog 26 #[.pointer none, .pointer none, .int .u8 2, .agg #[.int .i64 0, .int .u64 0, .int .u64 0]] w (BoolNew true w) := by
  have HP := Lib.hid (Solo.new w 53 (ccs 0 0#64 0#64))
  have k0 : (w.alloc (.cells #[.int .i64 0, .int .u64 0, .int .u64 0] 53)).cell? ⟨w.heap.size, 0, none⟩ = some (.int .i64 0) ∧ (w.alloc (.cells #[.int .i64 0, .int .u64 0, .int .u64 0] 53)).cell? ⟨w.heap.size, 1, none⟩ = some (.int .u64 0) ∧ (w.alloc (.cells #[.int .i64 0, .int .u64 0, .int .u64 0] 53)).cell? ⟨w.heap.size, 2, none⟩ = some (.int .u64 0) := HP.out.c3
  go_enter Try.func26, Try.ntmps26
  go_wp2_with fail
  go_region_held3 (fun w' => w'.cell? ⟨w.heap.size, 0, none⟩ = some (.int .i64 0) ∧ w'.cell? ⟨w.heap.size, 1, none⟩ = some (.int .u64 0) ∧ w'.cell? ⟨w.heap.size, 2, none⟩ = some (.int .u64 0))
    (first | assumption | go_keep)
    (first
      | (go_at_call 18; refine (stick_nil _).mono ?_; rintro e w1 ⟨rfl, o1⟩; have H1 := Lib.hid (HP.out.off (Off.also (by first | exact Off.refl _ _ | exact Off.drew (Off.refl _ _) | exact Off.drewN (Off.refl _ _) _) o1)); have k1 : w1.cell? ⟨w.heap.size, 0, none⟩ = some (.int .i64 0) ∧ w1.cell? ⟨w.heap.size, 1, none⟩ = some (.int .u64 0) ∧ w1.cell? ⟨w.heap.size, 2, none⟩ = some (.int .u64 0) := H1.out.c3; clear o1)
      | (go_at_call 51; refine (stick_nil2 _).mono ?_; rintro e w2 ⟨rfl, o2⟩; have H2 := Lib.hid (H1.out.off (Off.also (by first | exact Off.refl _ _ | exact Off.drew (Off.refl _ _) | exact Off.drewN (Off.refl _ _) _) o2)); have k2 : w2.cell? ⟨w.heap.size, 0, none⟩ = some (.int .i64 0) ∧ w2.cell? ⟨w.heap.size, 1, none⟩ = some (.int .u64 0) ∧ w2.cell? ⟨w.heap.size, 2, none⟩ = some (.int .u64 0) := H2.out.c3; clear o2))
  go_wp2
  go_ret
  exact ⟨rfl, H2.out.1⟩
set_option maxHeartbeats 4000000 in
theorem doNil_3 (w : World) : Calls Try.prog 26 #[.pointer none, .pointer none, .int .u8 3, .agg #[.int .i64 0, .int .u64 0, .int .u64 0]] w (BoolNew true w) := by
  have HP := Lib.hid (Solo.new w 53 (ccs 0 0#64 0#64))
  have k0 : (w.alloc (.cells #[.int .i64 0, .int .u64 0, .int .u64 0] 53)).cell? ⟨w.heap.size, 0, none⟩ = some (.int .i64 0) ∧ (w.alloc (.cells #[.int .i64 0, .int .u64 0, .int .u64 0] 53)).cell? ⟨w.heap.size, 1, none⟩ = some (.int .u64 0) ∧ (w.alloc (.cells #[.int .i64 0, .int .u64 0, .int .u64 0] 53)).cell? ⟨w.heap.size, 2, none⟩ = some (.int .u64 0) := HP.out.c3
  go_enter Try.func26, Try.ntmps26
  go_wp2_with fail
  refine (take_nil _).mono ?_
  rintro e w1 ⟨rfl, o1⟩
  have H1 := Lib.hid (HP.out.off o1)
  have k1 : w1.cell? ⟨w.heap.size, 0, none⟩ = some (.int .i64 0) ∧ w1.cell? ⟨w.heap.size, 1, none⟩ = some (.int .u64 0) ∧ w1.cell? ⟨w.heap.size, 2, none⟩ = some (.int .u64 0) := H1.out.c3
  clear o1 k0
  go_wp2_with fail
  refine (take_nil2 _).mono ?_
  rintro e w2 ⟨rfl, o2⟩
  have H2 := Lib.hid (H1.out.off o2)
  clear o2 k1
  go_wp2
  go_ret
  exact ⟨rfl, H2.out.1⟩
set_option maxHeartbeats 4000000 in
theorem doNil_4 (w : World) : Calls Try.prog 26 #[.pointer none, .pointer none, .int .u8 4, .agg #[.int .i64 0, .int .u64 0, .int .u64 0]] w (BoolNew true w) := by
  have HP := Lib.hid (Solo.new w 53 (ccs 0 0#64 0#64))
  have k0 : (w.alloc (.cells #[.int .i64 0, .int .u64 0, .int .u64 0] 53)).cell? ⟨w.heap.size, 0, none⟩ = some (.int .i64 0) ∧ (w.alloc (.cells #[.int .i64 0, .int .u64 0, .int .u64 0] 53)).cell? ⟨w.heap.size, 1, none⟩ = some (.int .u64 0) ∧ (w.alloc (.cells #[.int .i64 0, .int .u64 0, .int .u64 0] 53)).cell? ⟨w.heap.size, 2, none⟩ = some (.int .u64 0) := HP.out.c3
  go_enter Try.func26, Try.ntmps26
  go_wp2_with fail
  refine (above_nil _).mono ?_
  rintro e w1 ⟨rfl, o1⟩
  have H1 := Lib.hid (HP.out.off o1)
  have k1 : w1.cell? ⟨w.heap.size, 0, none⟩ = some (.int .i64 0) ∧ w1.cell? ⟨w.heap.size, 1, none⟩ = some (.int .u64 0) ∧ w1.cell? ⟨w.heap.size, 2, none⟩ = some (.int .u64 0) := H1.out.c3
  clear o1 k0
  go_wp2_with fail
  refine (above_nil2 _).mono ?_
  rintro e w2 ⟨rfl, o2⟩
  have H2 := Lib.hid (H1.out.off o2)
  clear o2 k1
  go_wp2
  go_ret
  exact ⟨rfl, H2.out.1⟩
theorem doNil (w : World) (k : Nat) (hk : k < 5) : Calls Try.prog 26 #[.pointer none, .pointer none, .int .u8 k, .agg #[.int .i64 0, .int .u64 0, .int .u64 0]] w (BoolNew true w) := by
  match k, hk with
  | 0, _ => exact doNil_0 w
  | 1, _ => exact doNil_1 w
  | 2, _ => exact doNil_2 w
  | 3, _ => exact doNil_3 w
  | 4, _ => exact doNil_4 w

end Go.Proofs.Ytoobgfammippfaa
