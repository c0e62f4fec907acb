/-
  dragnetlaw23.do: a call in both arenas, and one without arenas.
-/
import Derived.Test.YtlbahocncbmjnaaRef23b
import Derived.Test.YtlbahocncbmjnaaBoth
import Derived.Deep.RegionHeld3
namespace Go.Proofs.Ytlbahocncbmjnaa
open Go.RowKit
attribute [local go_sem] bits_and_u64 bits_or_u64 bits_xor_u64 bits_andNot_u64 wrap_u64 bv_add bv_neg bv_sub bv_mul
set_option linter.unusedVariables false
set_option maxRecDepth 100000
/-- The cells of a Call. -/
def pcs (base n out : Int) (k : BitVec 64) : Array Value := #[.int .i64 base, .int .i64 n, .int .i64 out, .int .u64 (n64 k)]
theorem Pair.p4 {w0 w : World} {b : Nat} {base n out : Int} {k : BitVec 64} {t : TypeId} {p r : Nat} {C C' : List (BitVec 64)} {E E' : List Ev} (h : Pair w0 w b t (pcs base n out k) p r C E C' E') :
    w.cell? ⟨b, 0, none⟩ = some (.int .i64 base) ∧ w.cell? ⟨b, 1, none⟩ = some (.int .i64 n) ∧ w.cell? ⟨b, 2, none⟩ = some (.int .i64 out) ∧ w.cell? ⟨b, 3, none⟩ = some (.int .u64 (n64 k)) := ⟨h.cell 0, h.cell 1, h.cell 2, h.cell 3⟩
theorem Solo.p4 {w0 w : World} {b : Nat} {base n out : Int} {k : BitVec 64} {t : TypeId} (h : Solo w0 w b t (pcs base n out k)) :
    w.cell? ⟨b, 0, none⟩ = some (.int .i64 base) ∧ w.cell? ⟨b, 1, none⟩ = some (.int .i64 n) ∧ w.cell? ⟨b, 2, none⟩ = some (.int .i64 out) ∧ w.cell? ⟨b, 3, none⟩ = some (.int .u64 (n64 k)) := ⟨h.2.cell 0, h.2.cell 1, h.2.cell 2, h.2.cell 3⟩
section
variable {w0 w : World} {p r : Nat} {C : List (BitVec 64)} {E : List Ev}
set_option maxHeartbeats 4000000 in
theorem do_0 (h : Both w0 w p r C E) (z : Int) (h0 : 0 ≤ z) (h1 : z ≤ 255) (hz : z % 3 = 0) (base n out : Int) (k : BitVec 64) :
    Calls Try.prog 19 #[.pointer (some ⟨p, 0, none⟩), .pointer (some ⟨r, 0, none⟩), .int .u8 z, .agg #[.int .i64 base, .int .i64 n, .int .i64 out, .int .u64 (n64 k)]] w (DoPost w0 p r) := by
  have HP := Lib.hid (h.pair 49 (pcs base n out k))
  have k0 := HP.out.p4
  have hq0 : (z % 3 == 0) = true := by rw [beq_iff_eq]; omega
  clear h hz
  go_enter Try.func19, Try.ntmps19
  go_wp2_with fail
  refine (Pair.first HP.out (fun w F h => ranks_any h base n out)).mono ?_
  rintro e w1 ⟨rfl, h1⟩
  have k1 := h1.p4
  have H1 := Lib.hid h1
  clear h1 k0
  go_wp2_with fail
  refine (Pair.second H1.out (fun w F h => rranks_any h base n out)).mono ?_
  rintro e w2 ⟨rfl, h2⟩
  have H2 := Lib.hid h2
  clear h2 k1
  go_wp2
  go_ret
  exact ⟨ret_bool (by simp), _, _, H2.out.both⟩
set_option maxHeartbeats 4000000 in
theorem do_1 (h : Both w0 w p r C E) (z : Int) (h0 : 0 ≤ z) (h1 : z ≤ 255) (hz : z % 3 = 1) (base n out : Int) (k : BitVec 64) :
    Calls Try.prog 19 #[.pointer (some ⟨p, 0, none⟩), .pointer (some ⟨r, 0, none⟩), .int .u8 z, .agg #[.int .i64 base, .int .i64 n, .int .i64 out, .int .u64 (n64 k)]] w (DoPost w0 p r) := by
  have HP := Lib.hid (h.pair 49 (pcs base n out k))
  have k0 := HP.out.p4
  have hq0 : (z % 3 == 0) = false := by rw [beq_eq_false_iff_ne]; omega
  have hq1 : (z % 3 == 1) = true := by rw [beq_iff_eq]; omega
  clear h hz
  go_enter Try.func19, Try.ntmps19
  go_wp2_with fail
  refine (Pair.first HP.out (fun w F h => split_any h base n out k)).mono ?_
  rintro e w1 ⟨rfl, h1⟩
  have k1 := h1.p4
  have H1 := Lib.hid h1
  clear h1 k0
  go_wp2_with fail
  refine (Pair.second H1.out (fun w F h => rsplit_any h base n out k)).mono ?_
  rintro e w2 ⟨rfl, h2⟩
  have H2 := Lib.hid h2
  clear h2 k1
  go_wp2
  go_ret
  exact ⟨ret_bool (by simp), _, _, H2.out.both⟩
set_option maxHeartbeats 4000000 in
theorem do_2 (h : Both w0 w p r C E) (z : Int) (h0 : 0 ≤ z) (h1 : z ≤ 255) (hz : z % 3 = 2) (base n out : Int) (k : BitVec 64) :
    Calls Try.prog 19 #[.pointer (some ⟨p, 0, none⟩), .pointer (some ⟨r, 0, none⟩), .int .u8 z, .agg #[.int .i64 base, .int .i64 n, .int .i64 out, .int .u64 (n64 k)]] w (DoPost w0 p r) := by
  have HP := Lib.hid (h.pair 49 (pcs base n out k))
  have k0 := HP.out.p4
  have hq0 : (z % 3 == 0) = false := by rw [beq_eq_false_iff_ne]; omega
  have hq1 : (z % 3 == 1) = false := by rw [beq_eq_false_iff_ne]; omega
  clear h hz
  go_enter Try.func19, Try.ntmps19
  go_wp2_with fail
  go_region_held3 (fun w' => w'.cell? ⟨w.heap.size, 0, none⟩ = some (.int .i64 base) ∧ w'.cell? ⟨w.heap.size, 1, none⟩ = some (.int .i64 n) ∧ w'.cell? ⟨w.heap.size, 2, none⟩ = some (.int .i64 out) ∧ w'.cell? ⟨w.heap.size, 3, none⟩ = some (.int .u64 (n64 k)))
    (first | with_reducible assumption | go_keep)
    (first
      | (go_at_call 16; refine (Pair.first (HP.out.off (by first | with_reducible exact Off.refl _ _ | with_reducible exact Off.drew (Off.refl _ _) | with_reducible exact Off.drewN (Off.refl _ _) _)) (fun w F h => dist_any h base n out)).mono ?_; rintro e w1 ⟨rfl, h1⟩; have k1 := h1.p4; have H1 := Lib.hid h1; clear h1)
      | (go_at_call 40; refine (Pair.second (H1.out.off (by first | with_reducible exact Off.refl _ _ | with_reducible exact Off.drew (Off.refl _ _) | with_reducible exact Off.drewN (Off.refl _ _) _)) (fun w F h => rdist_any h base n out)).mono ?_; rintro e w2 ⟨rfl, h2⟩; have k2 := h2.p4; have H2 := Lib.hid h2; clear h2))
  go_wp2
  go_ret
  exact ⟨ret_bool (by simp), _, _, H2.out.both⟩
theorem do_any (h : Both w0 w p r C E) (z : Int) (h0 : 0 ≤ z) (h1 : z ≤ 255) (base n out : Int) (k : BitVec 64) :
    Calls Try.prog 19 #[.pointer (some ⟨p, 0, none⟩), .pointer (some ⟨r, 0, none⟩), .int .u8 z, .agg #[.int .i64 base, .int .i64 n, .int .i64 out, .int .u64 (n64 k)]] w (DoPost w0 p r) := by
  have h5 : z % 3 = 0 ∨ z % 3 = 1 ∨ z % 3 = 2 := by omega
  rcases h5 with h5 | h5 | h5
  · exact do_0 h z h0 h1 h5 base n out k
  · exact do_1 h z h0 h1 h5 base n out k
  · exact do_2 h z h0 h1 h5 base n out k
end
theorem pcheck_nil (w : World) (s : Int) : Calls Try.prog 44 #[.pointer none, .int .i64 0, .int .i64 1, .int .i64 3, .int .i64 s] w fun e w' => e = .returned (.int .i64 1) ∧ w = w' := by
  go_enter Try.func44, Try.ntmps44
  go_wp2_with fail
  refine (has_nil w 0 3).mono ?_
  rintro e w' ⟨rfl, rfl⟩
  go_wp2
  go_ret
  exact ⟨rfl, rfl⟩
theorem each_nil (w : World) (s : Int) (fv : Value) : Calls Try.prog 24 #[.pointer none, .int .i64 0, .int .i64 1, .int .i64 3, .int .i64 s, fv] w fun e w' => e = .returned (.tuple #[.int .u64 0, .int .i64 1]) ∧ w = w' := by
  go_enter Try.func24, Try.ntmps24
  go_wp2_with fail
  refine (pcheck_nil w s).mono ?_
  rintro e w' ⟨rfl, rfl⟩
  go_wp2
  go_ret2
  exact ⟨rfl, rfl⟩
theorem pasked_nil (w : World) (s : Int) : Calls Try.prog 52 #[.pointer none, .int .i64 0, .int .i64 1, .int .i64 3, .int .i64 s] w fun e w' => e = .returned (.int .i64 1) ∧ w = w' := by
  go_enter Try.func52, Try.ntmps52
  go_wp2_with fail
  refine (rhas_nil w 0 3).mono ?_
  rintro e w' ⟨rfl, rfl⟩
  go_wp2
  go_ret
  exact ⟨rfl, rfl⟩
theorem ranks_nil (w : World) : Calls Try.prog 13 #[.pointer none, .int .i64 0, .int .i64 1, .int .i64 3] w fun e w' => e = .returned (.tuple #[.int .u64 0, .int .i64 1]) ∧ Off Nob w w' := by
  go_enter Try.func13, Try.ntmps13
  go_wp2_with fail
  refine (each_nil _ 2 _).mono ?_
  rintro e w' ⟨rfl, rfl⟩
  go_wp2
  go_ret2
  exact ⟨rfl, by first | exact Off.alloc (Off.refl _ _) _ | exact Off.alloc (Off.alloc (Off.refl _ _) _) _⟩
theorem ranks_nil2 (w : World) : Calls Try.prog 38 #[.pointer none, .int .i64 0, .int .i64 1, .int .i64 3] w fun e w' => e = .returned (.tuple #[.int .u64 0, .int .i64 1]) ∧ Off Nob w w' := by
  go_enter Try.func38, Try.ntmps38
  go_wp2_with fail
  refine (pasked_nil _ 2).mono ?_
  rintro e w' ⟨rfl, rfl⟩
  go_wp2_with fail

  go_ret2
  exact ⟨rfl, Off.refl _ _⟩
theorem split_nil (w : World) : Calls Try.prog 15 #[.pointer none, .int .i64 0, .int .i64 1, .int .i64 3, .int .u64 0] w fun e w' => e = .returned (.tuple #[.int .u64 0, .int .i64 1]) ∧ Off Nob w w' := by
  go_enter Try.func15, Try.ntmps15
  go_wp2_with fail
  refine (each_nil _ 3 _).mono ?_
  rintro e w' ⟨rfl, rfl⟩
  go_wp2
  go_ret2
  exact ⟨rfl, by first | exact Off.alloc (Off.refl _ _) _ | exact Off.alloc (Off.alloc (Off.refl _ _) _) _⟩
theorem split_nil2 (w : World) : Calls Try.prog 39 #[.pointer none, .int .i64 0, .int .i64 1, .int .i64 3, .int .u64 0] w fun e w' => e = .returned (.tuple #[.int .u64 0, .int .i64 1]) ∧ Off Nob w w' := by
  go_enter Try.func39, Try.ntmps39
  go_wp2_with fail
  refine (pasked_nil _ 3).mono ?_
  rintro e w' ⟨rfl, rfl⟩
  go_wp2_with fail

  go_ret2
  exact ⟨rfl, Off.refl _ _⟩
theorem distances_nil (w : World) : Calls Try.prog 16 #[.pointer none, .int .i64 0, .int .i64 1, .int .i64 3] w fun e w' => e = .returned (.int .i64 1) ∧ Off Nob w w' := by
  go_enter Try.func16, Try.ntmps16
  go_wp2_with fail
  refine (each_nil _ 3 _).mono ?_
  rintro e w' ⟨rfl, rfl⟩
  go_wp2
  go_ret
  exact ⟨rfl, by first | exact Off.alloc (Off.refl _ _) _ | exact Off.alloc (Off.alloc (Off.refl _ _) _) _⟩
theorem distances_nil2 (w : World) : Calls Try.prog 40 #[.pointer none, .int .i64 0, .int .i64 1, .int .i64 3] w fun e w' => e = .returned (.int .i64 1) ∧ Off Nob w w' := by
  go_enter Try.func40, Try.ntmps40
  go_wp2_with fail
  refine (pasked_nil _ 3).mono ?_
  rintro e w' ⟨rfl, rfl⟩
  go_wp2_with fail
  refine wp_loop_rounds 1 ?_
  rw [rounds_succ]
  go_wp2_with fail
  go_ret
  exact ⟨rfl, Off.refl _ _⟩
set_option maxHeartbeats 4000000 in
theorem doNil_0 (w : World) : Calls Try.prog 19 #[.pointer none, .pointer none, .int .u8 0, .agg #[.int .i64 0, .int .i64 1, .int .i64 3, .int .u64 0]] w (BoolNew true w) := by
  have HP := Lib.hid (Solo.new w 49 (pcs 0 1 3 0#64))
  have k0 : (w.alloc (.cells #[.int .i64 0, .int .i64 1, .int .i64 3, .int .u64 0] 49)).cell? ⟨w.heap.size, 0, none⟩ = some (.int .i64 0) ∧ (w.alloc (.cells #[.int .i64 0, .int .i64 1, .int .i64 3, .int .u64 0] 49)).cell? ⟨w.heap.size, 1, none⟩ = some (.int .i64 1) ∧ (w.alloc (.cells #[.int .i64 0, .int .i64 1, .int .i64 3, .int .u64 0] 49)).cell? ⟨w.heap.size, 2, none⟩ = some (.int .i64 3) ∧ (w.alloc (.cells #[.int .i64 0, .int .i64 1, .int .i64 3, .int .u64 0] 49)).cell? ⟨w.heap.size, 3, none⟩ = some (.int .u64 0) := HP.out.p4
  go_enter Try.func19, Try.ntmps19
  go_wp2_with fail
  refine (ranks_nil _).mono ?_
  rintro e w1 ⟨rfl, o1⟩
  have H1 := Lib.hid (HP.out.off o1)
  have k1 : w1.cell? ⟨w.heap.size, 0, none⟩ = some (.int .i64 0) ∧ w1.cell? ⟨w.heap.size, 1, none⟩ = some (.int .i64 1) ∧ w1.cell? ⟨w.heap.size, 2, none⟩ = some (.int .i64 3) ∧ w1.cell? ⟨w.heap.size, 3, none⟩ = some (.int .u64 0) := H1.out.p4
  clear o1 k0
  go_wp2_with fail
  refine (ranks_nil2 _).mono ?_
  rintro e w2 ⟨rfl, o2⟩
  have H2 := Lib.hid (H1.out.off o2)
  clear o2 k1
  go_wp2
  go_ret
  exact ⟨rfl, H2.out.1⟩
set_option maxHeartbeats 4000000 in
theorem doNil_1 (w : World) : Calls Try.prog 19 #[.pointer none, .pointer none, .int .u8 1, .agg #[.int .i64 0, .int .i64 1, .int .i64 3, .int .u64 0]] w (BoolNew true w) := by
  have HP := Lib.hid (Solo.new w 49 (pcs 0 1 3 0#64))
  have k0 : (w.alloc (.cells #[.int .i64 0, .int .i64 1, .int .i64 3, .int .u64 0] 49)).cell? ⟨w.heap.size, 0, none⟩ = some (.int .i64 0) ∧ (w.alloc (.cells #[.int .i64 0, .int .i64 1, .int .i64 3, .int .u64 0] 49)).cell? ⟨w.heap.size, 1, none⟩ = some (.int .i64 1) ∧ (w.alloc (.cells #[.int .i64 0, .int .i64 1, .int .i64 3, .int .u64 0] 49)).cell? ⟨w.heap.size, 2, none⟩ = some (.int .i64 3) ∧ (w.alloc (.cells #[.int .i64 0, .int .i64 1, .int .i64 3, .int .u64 0] 49)).cell? ⟨w.heap.size, 3, none⟩ = some (.int .u64 0) := HP.out.p4
  go_enter Try.func19, Try.ntmps19
  go_wp2_with fail
  refine (split_nil _).mono ?_
  rintro e w1 ⟨rfl, o1⟩
  have H1 := Lib.hid (HP.out.off o1)
  have k1 : w1.cell? ⟨w.heap.size, 0, none⟩ = some (.int .i64 0) ∧ w1.cell? ⟨w.heap.size, 1, none⟩ = some (.int .i64 1) ∧ w1.cell? ⟨w.heap.size, 2, none⟩ = some (.int .i64 3) ∧ w1.cell? ⟨w.heap.size, 3, none⟩ = some (.int .u64 0) := H1.out.p4
  clear o1 k0
  go_wp2_with fail
  refine (split_nil2 _).mono ?_
  rintro e w2 ⟨rfl, o2⟩
  have H2 := Lib.hid (H1.out.off o2)
  clear o2 k1
  go_wp2
  go_ret
  exact ⟨rfl, H2.out.1⟩
set_option maxHeartbeats 4000000 in
theorem doNil_2 (w : World) : Calls Try.prog 19 #[.pointer none, .pointer none, .int .u8 2, .agg #[.int .i64 0, .int .i64 1, .int .i64 3, .int .u64 0]] w (BoolNew true w) := by
  have HP := Lib.hid (Solo.new w 49 (pcs 0 1 3 0#64))
  have k0 : (w.alloc (.cells #[.int .i64 0, .int .i64 1, .int .i64 3, .int .u64 0] 49)).cell? ⟨w.heap.size, 0, none⟩ = some (.int .i64 0) ∧ (w.alloc (.cells #[.int .i64 0, .int .i64 1, .int .i64 3, .int .u64 0] 49)).cell? ⟨w.heap.size, 1, none⟩ = some (.int .i64 1) ∧ (w.alloc (.cells #[.int .i64 0, .int .i64 1, .int .i64 3, .int .u64 0] 49)).cell? ⟨w.heap.size, 2, none⟩ = some (.int .i64 3) ∧ (w.alloc (.cells #[.int .i64 0, .int .i64 1, .int .i64 3, .int .u64 0] 49)).cell? ⟨w.heap.size, 3, none⟩ = some (.int .u64 0) := HP.out.p4
  go_enter Try.func19, Try.ntmps19
  go_wp2_with fail
  go_region_held3 (fun w' => w'.cell? ⟨w.heap.size, 0, none⟩ = some (.int .i64 0) ∧ w'.cell? ⟨w.heap.size, 1, none⟩ = some (.int .i64 1) ∧ w'.cell? ⟨w.heap.size, 2, none⟩ = some (.int .i64 3) ∧ w'.cell? ⟨w.heap.size, 3, none⟩ = some (.int .u64 0))
    (first | with_reducible assumption | go_keep)
    (first
      | (go_at_call 16; refine (distances_nil _).mono ?_; rintro e w1 ⟨rfl, o1⟩; have H1 := Lib.hid (HP.out.off (Off.also (by first | exact Off.refl _ _ | exact Off.drew (Off.refl _ _)) o1)); have k1 : w1.cell? ⟨w.heap.size, 0, none⟩ = some (.int .i64 0) ∧ w1.cell? ⟨w.heap.size, 1, none⟩ = some (.int .i64 1) ∧ w1.cell? ⟨w.heap.size, 2, none⟩ = some (.int .i64 3) ∧ w1.cell? ⟨w.heap.size, 3, none⟩ = some (.int .u64 0) := H1.out.p4; clear o1)
      | (go_at_call 40; refine (distances_nil2 _).mono ?_; rintro e w2 ⟨rfl, o2⟩; have H2 := Lib.hid (H1.out.off (Off.also (by first | exact Off.refl _ _ | exact Off.drew (Off.refl _ _)) o2)); have k2 : w2.cell? ⟨w.heap.size, 0, none⟩ = some (.int .i64 0) ∧ w2.cell? ⟨w.heap.size, 1, none⟩ = some (.int .i64 1) ∧ w2.cell? ⟨w.heap.size, 2, none⟩ = some (.int .i64 3) ∧ w2.cell? ⟨w.heap.size, 3, none⟩ = some (.int .u64 0) := H2.out.p4; clear o2))
  go_wp2
  go_ret
  exact ⟨rfl, H2.out.1⟩
theorem doNil (w : World) (k : Nat) (hk : k < 3) : Calls Try.prog 19 #[.pointer none, .pointer none, .int .u8 k, .agg #[.int .i64 0, .int .i64 1, .int .i64 3, .int .u64 0]] w (BoolNew true w) := by
  match k, hk with
  | 0, _ => exact doNil_0 w
  | 1, _ => exact doNil_1 w
  | 2, _ => exact doNil_2 w

end Go.Proofs.Ytlbahocncbmjnaa
