/-
  dragnetlaw22.do without arenas.
-/
import Derived.Test.YtonkhgmfeakbcaaDo22
namespace Go.Proofs.Ytonkhgmfeakbcaa
open Go.RowKit
attribute [local go_sem] bits_and_u64 bits_or_u64 bits_xor_u64 bits_andNot_u64 wrap_u64 bv_add bv_neg bv_sub bv_mul
set_option linter.unusedVariables false
set_option maxRecDepth 100000
theorem fillN (w : World) : Calls Try.prog 20 #[.pointer none, .int .i64 0, .int .i64 0, .int .i64 1, .int .i64 0, .int .u64 0, .int .u64 0] w fun e w' => e = .returned (.int .i64 1) ∧ Off Nob w w' := (fill_nil 0 0 1 0 0#64 0#64 w).mono fun e w' ⟨h1, h2⟩ => ⟨h1, h2 ▸ Off.refl _ _⟩
theorem rfillN (w : World) : Calls Try.prog 52 #[.pointer none, .int .i64 0, .int .i64 0, .int .i64 1, .int .i64 0, .int .u64 0, .int .u64 0] w fun e w' => e = .returned (.int .i64 1) ∧ Off Nob w w' := (rfill_nil 0 0 1 0 0#64 0#64 w).mono fun e w' ⟨h1, h2⟩ => ⟨h1, h2 ▸ Off.refl _ _⟩
theorem wipeN (w : World) : Calls Try.prog 31 #[.pointer none, .int .i64 0, .int .i64 1] w fun e w' => e = .returned (.int .i64 1) ∧ Off Nob w w' := wipe_c none 0 1 1 (by decide) w (fun w' _ => check_nil 0 1 (by decide) (by decide) w')
theorem rwipeN (w : World) : Calls Try.prog 53 #[.pointer none, .int .i64 0, .int .i64 1] w fun e w' => e = .returned (.int .i64 1) ∧ Off Nob w w' := rwipe_c none 0 1 1 (by decide) (by decide) w (fun w' _ => rrow_nil 0 1 (by decide) (by decide) w')
theorem readN (w : World) : Calls Try.prog 21 #[.pointer none, .int .i64 0, .int .i64 1] w fun e w' => e = .returned (.tuple #[.slice none 0 0, .int .i64 1]) ∧ Off Nob w w' := read_c none 0 1 1 (by decide) w (fun w' _ => check_nil 0 1 (by decide) (by decide) w')
theorem rreadN (w : World) : Calls Try.prog 54 #[.pointer none, .int .i64 0, .int .i64 1] w fun e w' => e = .returned (.tuple #[.slice none 0 0, .int .i64 1]) ∧ Off Nob w w' := rread_c none 0 1 1 (by decide) w (fun w' _ => rrow_nil 0 1 (by decide) (by decide) w')
theorem writeN (w : World) : Calls Try.prog 23 #[.pointer none, .int .i64 0, .slice none 0 0] w fun e w' => e = .returned (.int .i64 7) ∧ Off Nob w w' := write_c none 0 7 none 0 0 (by decide) (by decide) w (fun w' _ => check_bad _ 0 0 (by decide) w')
theorem rwriteN (w : World) : Calls Try.prog 55 #[.pointer none, .int .i64 0, .slice none 0 0] w fun e w' => e = .returned (.int .i64 7) ∧ Off Nob w w' := rwrite_c none 0 7 none 0 0 (by decide) (by decide) w (fun w' _ => rrow_bad _ 0 0 (by decide) w')
set_option maxHeartbeats 8000000 in
theorem doNil_0 (w : World) : Calls Try.prog 33 #[.pointer none, .pointer none, .int .u8 0, .agg #[.int .i64 0, .int .i64 0, .int .i64 1, .int .i64 0, .int .u64 0, .int .u64 0]] w (BoolNew true w) := by
  have HP := Lib.hid (Solo.new w 59 (scs 0 0 1 0 0#64 0#64))
  have k0 : (w.alloc (.cells #[.int .i64 0, .int .i64 0, .int .i64 1, .int .i64 0, .int .u64 0, .int .u64 0] 59)).cell? ⟨w.heap.size, 0, none⟩ = some (.int .i64 0) ∧ (w.alloc (.cells #[.int .i64 0, .int .i64 0, .int .i64 1, .int .i64 0, .int .u64 0, .int .u64 0] 59)).cell? ⟨w.heap.size, 1, none⟩ = some (.int .i64 0) ∧ (w.alloc (.cells #[.int .i64 0, .int .i64 0, .int .i64 1, .int .i64 0, .int .u64 0, .int .u64 0] 59)).cell? ⟨w.heap.size, 2, none⟩ = some (.int .i64 1) ∧ (w.alloc (.cells #[.int .i64 0, .int .i64 0, .int .i64 1, .int .i64 0, .int .u64 0, .int .u64 0] 59)).cell? ⟨w.heap.size, 3, none⟩ = some (.int .i64 0) ∧ (w.alloc (.cells #[.int .i64 0, .int .i64 0, .int .i64 1, .int .i64 0, .int .u64 0, .int .u64 0] 59)).cell? ⟨w.heap.size, 4, none⟩ = some (.int .u64 0) ∧ (w.alloc (.cells #[.int .i64 0, .int .i64 0, .int .i64 1, .int .i64 0, .int .u64 0, .int .u64 0] 59)).cell? ⟨w.heap.size, 5, none⟩ = some (.int .u64 0) := HP.out.s6
  go_enter Try.func33, Try.ntmps33
  go_wp2_with fail
  go_region_held3 (fun w' => w'.cell? ⟨w.heap.size, 0, none⟩ = some (.int .i64 0) ∧ w'.cell? ⟨w.heap.size, 1, none⟩ = some (.int .i64 0) ∧ w'.cell? ⟨w.heap.size, 2, none⟩ = some (.int .i64 1) ∧ w'.cell? ⟨w.heap.size, 3, none⟩ = some (.int .i64 0) ∧ w'.cell? ⟨w.heap.size, 4, none⟩ = some (.int .u64 0) ∧ w'.cell? ⟨w.heap.size, 5, none⟩ = some (.int .u64 0))
    (first | with_reducible assumption | go_keep)
    (first
      | (go_at_call 20; refine (fillN _).mono ?_; rintro e w1 ⟨rfl, o1⟩; have H1 := Lib.hid (HP.out.off (Off.also (by first | with_reducible exact Off.refl _ _ | with_reducible exact Off.drew (Off.refl _ _) | with_reducible exact Off.drewN (Off.refl _ _) _) o1)); have k1 : w1.cell? ⟨w.heap.size, 0, none⟩ = some (.int .i64 0) ∧ w1.cell? ⟨w.heap.size, 1, none⟩ = some (.int .i64 0) ∧ w1.cell? ⟨w.heap.size, 2, none⟩ = some (.int .i64 1) ∧ w1.cell? ⟨w.heap.size, 3, none⟩ = some (.int .i64 0) ∧ w1.cell? ⟨w.heap.size, 4, none⟩ = some (.int .u64 0) ∧ w1.cell? ⟨w.heap.size, 5, none⟩ = some (.int .u64 0) := H1.out.s6; clear o1)
      | (go_at_call 52; refine (rfillN _).mono ?_; rintro e w2 ⟨rfl, o2⟩; have H2 := Lib.hid (H1.out.off (Off.also (by first | with_reducible exact Off.refl _ _ | with_reducible exact Off.drew (Off.refl _ _) | with_reducible exact Off.drewN (Off.refl _ _) _) o2)); have k2 : w2.cell? ⟨w.heap.size, 0, none⟩ = some (.int .i64 0) ∧ w2.cell? ⟨w.heap.size, 1, none⟩ = some (.int .i64 0) ∧ w2.cell? ⟨w.heap.size, 2, none⟩ = some (.int .i64 1) ∧ w2.cell? ⟨w.heap.size, 3, none⟩ = some (.int .i64 0) ∧ w2.cell? ⟨w.heap.size, 4, none⟩ = some (.int .u64 0) ∧ w2.cell? ⟨w.heap.size, 5, none⟩ = some (.int .u64 0) := H2.out.s6; clear o2))
  go_wp2
  go_ret
  exact ⟨rfl, H2.out.1⟩
set_option maxHeartbeats 8000000 in
theorem doNil_1 (w : World) : Calls Try.prog 33 #[.pointer none, .pointer none, .int .u8 1, .agg #[.int .i64 0, .int .i64 0, .int .i64 1, .int .i64 0, .int .u64 0, .int .u64 0]] w (BoolNew true w) := by
  have HP := Lib.hid (Solo.new w 59 (scs 0 0 1 0 0#64 0#64))
  have k0 : (w.alloc (.cells #[.int .i64 0, .int .i64 0, .int .i64 1, .int .i64 0, .int .u64 0, .int .u64 0] 59)).cell? ⟨w.heap.size, 0, none⟩ = some (.int .i64 0) ∧ (w.alloc (.cells #[.int .i64 0, .int .i64 0, .int .i64 1, .int .i64 0, .int .u64 0, .int .u64 0] 59)).cell? ⟨w.heap.size, 1, none⟩ = some (.int .i64 0) ∧ (w.alloc (.cells #[.int .i64 0, .int .i64 0, .int .i64 1, .int .i64 0, .int .u64 0, .int .u64 0] 59)).cell? ⟨w.heap.size, 2, none⟩ = some (.int .i64 1) ∧ (w.alloc (.cells #[.int .i64 0, .int .i64 0, .int .i64 1, .int .i64 0, .int .u64 0, .int .u64 0] 59)).cell? ⟨w.heap.size, 3, none⟩ = some (.int .i64 0) ∧ (w.alloc (.cells #[.int .i64 0, .int .i64 0, .int .i64 1, .int .i64 0, .int .u64 0, .int .u64 0] 59)).cell? ⟨w.heap.size, 4, none⟩ = some (.int .u64 0) ∧ (w.alloc (.cells #[.int .i64 0, .int .i64 0, .int .i64 1, .int .i64 0, .int .u64 0, .int .u64 0] 59)).cell? ⟨w.heap.size, 5, none⟩ = some (.int .u64 0) := HP.out.s6
  go_enter Try.func33, Try.ntmps33
  go_wp2_with fail
  go_region_held3 (fun w' => w'.cell? ⟨w.heap.size, 0, none⟩ = some (.int .i64 0) ∧ w'.cell? ⟨w.heap.size, 1, none⟩ = some (.int .i64 0) ∧ w'.cell? ⟨w.heap.size, 2, none⟩ = some (.int .i64 1) ∧ w'.cell? ⟨w.heap.size, 3, none⟩ = some (.int .i64 0) ∧ w'.cell? ⟨w.heap.size, 4, none⟩ = some (.int .u64 0) ∧ w'.cell? ⟨w.heap.size, 5, none⟩ = some (.int .u64 0))
    (first | with_reducible assumption | go_keep)
    (first
      | (go_at_call 20; refine (fillN _).mono ?_; rintro e w1 ⟨rfl, o1⟩; have H1 := Lib.hid (HP.out.off (Off.also (by first | with_reducible exact Off.refl _ _ | with_reducible exact Off.drew (Off.refl _ _) | with_reducible exact Off.drewN (Off.refl _ _) _) o1)); have k1 : w1.cell? ⟨w.heap.size, 0, none⟩ = some (.int .i64 0) ∧ w1.cell? ⟨w.heap.size, 1, none⟩ = some (.int .i64 0) ∧ w1.cell? ⟨w.heap.size, 2, none⟩ = some (.int .i64 1) ∧ w1.cell? ⟨w.heap.size, 3, none⟩ = some (.int .i64 0) ∧ w1.cell? ⟨w.heap.size, 4, none⟩ = some (.int .u64 0) ∧ w1.cell? ⟨w.heap.size, 5, none⟩ = some (.int .u64 0) := H1.out.s6; clear o1)
      | (go_at_call 52; refine (rfillN _).mono ?_; rintro e w2 ⟨rfl, o2⟩; have H2 := Lib.hid (H1.out.off (Off.also (by first | with_reducible exact Off.refl _ _ | with_reducible exact Off.drew (Off.refl _ _) | with_reducible exact Off.drewN (Off.refl _ _) _) o2)); have k2 : w2.cell? ⟨w.heap.size, 0, none⟩ = some (.int .i64 0) ∧ w2.cell? ⟨w.heap.size, 1, none⟩ = some (.int .i64 0) ∧ w2.cell? ⟨w.heap.size, 2, none⟩ = some (.int .i64 1) ∧ w2.cell? ⟨w.heap.size, 3, none⟩ = some (.int .i64 0) ∧ w2.cell? ⟨w.heap.size, 4, none⟩ = some (.int .u64 0) ∧ w2.cell? ⟨w.heap.size, 5, none⟩ = some (.int .u64 0) := H2.out.s6; clear o2))
  go_wp2
  go_ret
  exact ⟨rfl, H2.out.1⟩
set_option maxHeartbeats 8000000 in
theorem doNil_2 (w : World) : Calls Try.prog 33 #[.pointer none, .pointer none, .int .u8 2, .agg #[.int .i64 0, .int .i64 0, .int .i64 1, .int .i64 0, .int .u64 0, .int .u64 0]] w (BoolNew true w) := by
  have HP := Lib.hid (Solo.new w 59 (scs 0 0 1 0 0#64 0#64))
  have k0 : (w.alloc (.cells #[.int .i64 0, .int .i64 0, .int .i64 1, .int .i64 0, .int .u64 0, .int .u64 0] 59)).cell? ⟨w.heap.size, 0, none⟩ = some (.int .i64 0) ∧ (w.alloc (.cells #[.int .i64 0, .int .i64 0, .int .i64 1, .int .i64 0, .int .u64 0, .int .u64 0] 59)).cell? ⟨w.heap.size, 1, none⟩ = some (.int .i64 0) ∧ (w.alloc (.cells #[.int .i64 0, .int .i64 0, .int .i64 1, .int .i64 0, .int .u64 0, .int .u64 0] 59)).cell? ⟨w.heap.size, 2, none⟩ = some (.int .i64 1) ∧ (w.alloc (.cells #[.int .i64 0, .int .i64 0, .int .i64 1, .int .i64 0, .int .u64 0, .int .u64 0] 59)).cell? ⟨w.heap.size, 3, none⟩ = some (.int .i64 0) ∧ (w.alloc (.cells #[.int .i64 0, .int .i64 0, .int .i64 1, .int .i64 0, .int .u64 0, .int .u64 0] 59)).cell? ⟨w.heap.size, 4, none⟩ = some (.int .u64 0) ∧ (w.alloc (.cells #[.int .i64 0, .int .i64 0, .int .i64 1, .int .i64 0, .int .u64 0, .int .u64 0] 59)).cell? ⟨w.heap.size, 5, none⟩ = some (.int .u64 0) := HP.out.s6
  go_enter Try.func33, Try.ntmps33
  go_wp2_with fail
  go_region_held3 (fun w' => w'.cell? ⟨w.heap.size, 0, none⟩ = some (.int .i64 0) ∧ w'.cell? ⟨w.heap.size, 1, none⟩ = some (.int .i64 0) ∧ w'.cell? ⟨w.heap.size, 2, none⟩ = some (.int .i64 1) ∧ w'.cell? ⟨w.heap.size, 3, none⟩ = some (.int .i64 0) ∧ w'.cell? ⟨w.heap.size, 4, none⟩ = some (.int .u64 0) ∧ w'.cell? ⟨w.heap.size, 5, none⟩ = some (.int .u64 0))
    (first | with_reducible assumption | go_keep)
    (first
      | (go_at_call 31; refine (wipeN _).mono ?_; rintro e w1 ⟨rfl, o1⟩; have H1 := Lib.hid (HP.out.off (Off.also (by first | with_reducible exact Off.refl _ _ | with_reducible exact Off.drew (Off.refl _ _) | with_reducible exact Off.drewN (Off.refl _ _) _) o1)); have k1 : w1.cell? ⟨w.heap.size, 0, none⟩ = some (.int .i64 0) ∧ w1.cell? ⟨w.heap.size, 1, none⟩ = some (.int .i64 0) ∧ w1.cell? ⟨w.heap.size, 2, none⟩ = some (.int .i64 1) ∧ w1.cell? ⟨w.heap.size, 3, none⟩ = some (.int .i64 0) ∧ w1.cell? ⟨w.heap.size, 4, none⟩ = some (.int .u64 0) ∧ w1.cell? ⟨w.heap.size, 5, none⟩ = some (.int .u64 0) := H1.out.s6; clear o1)
      | (go_at_call 53; refine (rwipeN _).mono ?_; rintro e w2 ⟨rfl, o2⟩; have H2 := Lib.hid (H1.out.off (Off.also (by first | with_reducible exact Off.refl _ _ | with_reducible exact Off.drew (Off.refl _ _) | with_reducible exact Off.drewN (Off.refl _ _) _) o2)); have k2 : w2.cell? ⟨w.heap.size, 0, none⟩ = some (.int .i64 0) ∧ w2.cell? ⟨w.heap.size, 1, none⟩ = some (.int .i64 0) ∧ w2.cell? ⟨w.heap.size, 2, none⟩ = some (.int .i64 1) ∧ w2.cell? ⟨w.heap.size, 3, none⟩ = some (.int .i64 0) ∧ w2.cell? ⟨w.heap.size, 4, none⟩ = some (.int .u64 0) ∧ w2.cell? ⟨w.heap.size, 5, none⟩ = some (.int .u64 0) := H2.out.s6; clear o2))
  go_wp2
  go_ret
  exact ⟨rfl, H2.out.1⟩
set_option maxHeartbeats 8000000 in
theorem doNil_3 (w : World) : Calls Try.prog 33 #[.pointer none, .pointer none, .int .u8 3, .agg #[.int .i64 0, .int .i64 0, .int .i64 1, .int .i64 0, .int .u64 0, .int .u64 0]] w (BoolNew true w) := by
  have HP := Lib.hid (Solo.new w 59 (scs 0 0 1 0 0#64 0#64))
  have k0 : (w.alloc (.cells #[.int .i64 0, .int .i64 0, .int .i64 1, .int .i64 0, .int .u64 0, .int .u64 0] 59)).cell? ⟨w.heap.size, 0, none⟩ = some (.int .i64 0) ∧ (w.alloc (.cells #[.int .i64 0, .int .i64 0, .int .i64 1, .int .i64 0, .int .u64 0, .int .u64 0] 59)).cell? ⟨w.heap.size, 1, none⟩ = some (.int .i64 0) ∧ (w.alloc (.cells #[.int .i64 0, .int .i64 0, .int .i64 1, .int .i64 0, .int .u64 0, .int .u64 0] 59)).cell? ⟨w.heap.size, 2, none⟩ = some (.int .i64 1) ∧ (w.alloc (.cells #[.int .i64 0, .int .i64 0, .int .i64 1, .int .i64 0, .int .u64 0, .int .u64 0] 59)).cell? ⟨w.heap.size, 3, none⟩ = some (.int .i64 0) ∧ (w.alloc (.cells #[.int .i64 0, .int .i64 0, .int .i64 1, .int .i64 0, .int .u64 0, .int .u64 0] 59)).cell? ⟨w.heap.size, 4, none⟩ = some (.int .u64 0) ∧ (w.alloc (.cells #[.int .i64 0, .int .i64 0, .int .i64 1, .int .i64 0, .int .u64 0, .int .u64 0] 59)).cell? ⟨w.heap.size, 5, none⟩ = some (.int .u64 0) := HP.out.s6
  go_enter Try.func33, Try.ntmps33
  go_wp2_with fail
  refine (readN _).mono ?_
  rintro e w1 ⟨rfl, o1⟩
  have H1 := Lib.hid (HP.out.off o1)
  have k1 : w1.cell? ⟨w.heap.size, 0, none⟩ = some (.int .i64 0) ∧ w1.cell? ⟨w.heap.size, 1, none⟩ = some (.int .i64 0) ∧ w1.cell? ⟨w.heap.size, 2, none⟩ = some (.int .i64 1) ∧ w1.cell? ⟨w.heap.size, 3, none⟩ = some (.int .i64 0) ∧ w1.cell? ⟨w.heap.size, 4, none⟩ = some (.int .u64 0) ∧ w1.cell? ⟨w.heap.size, 5, none⟩ = some (.int .u64 0) := H1.out.s6
  clear o1
  clear k0
  go_wp2_with fail
  refine (rreadN _).mono ?_
  rintro e w2 ⟨rfl, o2⟩
  have H2 := Lib.hid (H1.out.off o2)
  have k2 : w2.cell? ⟨w.heap.size, 0, none⟩ = some (.int .i64 0) ∧ w2.cell? ⟨w.heap.size, 1, none⟩ = some (.int .i64 0) ∧ w2.cell? ⟨w.heap.size, 2, none⟩ = some (.int .i64 1) ∧ w2.cell? ⟨w.heap.size, 3, none⟩ = some (.int .i64 0) ∧ w2.cell? ⟨w.heap.size, 4, none⟩ = some (.int .u64 0) ∧ w2.cell? ⟨w.heap.size, 5, none⟩ = some (.int .u64 0) := H2.out.s6
  clear o2
  clear k1
  go_wp2_with fail
  refine (sameSl_eq (A := []) (n := 0) (Rd.nil w2 Nob 3) (Rd.nil w2 Nob 3)).mono ?_
  rintro e w3 ⟨rfl, o3⟩
  have H3 := Lib.hid (H2.out.off o3)
  have k3 : w3.cell? ⟨w.heap.size, 0, none⟩ = some (.int .i64 0) ∧ w3.cell? ⟨w.heap.size, 1, none⟩ = some (.int .i64 0) ∧ w3.cell? ⟨w.heap.size, 2, none⟩ = some (.int .i64 1) ∧ w3.cell? ⟨w.heap.size, 3, none⟩ = some (.int .i64 0) ∧ w3.cell? ⟨w.heap.size, 4, none⟩ = some (.int .u64 0) ∧ w3.cell? ⟨w.heap.size, 5, none⟩ = some (.int .u64 0) := H3.out.s6
  clear o3
  clear k2
  go_wp2_with fail
  refine (hits_any (L := []) (n := 0) (Rd.nil w3 Nob 3) (by decide)).mono ?_
  rintro e w4 ⟨u4, rfl, h4, o4⟩
  have H4 := Lib.hid (H3.out.off o4)
  have k4 : w4.cell? ⟨w.heap.size, 0, none⟩ = some (.int .i64 0) ∧ w4.cell? ⟨w.heap.size, 1, none⟩ = some (.int .i64 0) ∧ w4.cell? ⟨w.heap.size, 2, none⟩ = some (.int .i64 1) ∧ w4.cell? ⟨w.heap.size, 3, none⟩ = some (.int .i64 0) ∧ w4.cell? ⟨w.heap.size, 4, none⟩ = some (.int .u64 0) ∧ w4.cell? ⟨w.heap.size, 5, none⟩ = some (.int .u64 0) := H4.out.s6
  have U4 := Lib.hid (Rd.own h4 (F := fun _ => True) (fun _ _ => trivial))
  clear k3 h4 o4
  go_wp2_with fail
  refine (rhits_any (L := []) (n := 0) (Rd.nil w4 Nob 3) (by decide)).mono ?_
  rintro e w5 ⟨u5, rfl, h5, o5⟩
  have H5 := Lib.hid (H4.out.off o5)
  have k5 : w5.cell? ⟨w.heap.size, 0, none⟩ = some (.int .i64 0) ∧ w5.cell? ⟨w.heap.size, 1, none⟩ = some (.int .i64 0) ∧ w5.cell? ⟨w.heap.size, 2, none⟩ = some (.int .i64 1) ∧ w5.cell? ⟨w.heap.size, 3, none⟩ = some (.int .i64 0) ∧ w5.cell? ⟨w.heap.size, 4, none⟩ = some (.int .u64 0) ∧ w5.cell? ⟨w.heap.size, 5, none⟩ = some (.int .u64 0) := H5.out.s6
  have U5 := Lib.hid (Rd.own h5 (F := fun _ => True) (fun _ _ => trivial))
  have U45 := Lib.hid (U4.out.keep o5 (fun _ _ h => h))
  clear k4 h5 o5 U4
  go_wp2_with fail
  refine (sameHi_eq U45.out U5.out).mono ?_
  rintro e w6 ⟨rfl, o6⟩
  have H6 := Lib.hid (H5.out.off o6)
  have k6 : w6.cell? ⟨w.heap.size, 0, none⟩ = some (.int .i64 0) ∧ w6.cell? ⟨w.heap.size, 1, none⟩ = some (.int .i64 0) ∧ w6.cell? ⟨w.heap.size, 2, none⟩ = some (.int .i64 1) ∧ w6.cell? ⟨w.heap.size, 3, none⟩ = some (.int .i64 0) ∧ w6.cell? ⟨w.heap.size, 4, none⟩ = some (.int .u64 0) ∧ w6.cell? ⟨w.heap.size, 5, none⟩ = some (.int .u64 0) := H6.out.s6
  clear o6
  clear k5
  go_wp2_with fail
  go_region_held3 (fun w' => w'.cell? ⟨w.heap.size, 0, none⟩ = some (.int .i64 0) ∧ w'.cell? ⟨w.heap.size, 1, none⟩ = some (.int .i64 0) ∧ w'.cell? ⟨w.heap.size, 2, none⟩ = some (.int .i64 1) ∧ w'.cell? ⟨w.heap.size, 3, none⟩ = some (.int .i64 0) ∧ w'.cell? ⟨w.heap.size, 4, none⟩ = some (.int .u64 0) ∧ w'.cell? ⟨w.heap.size, 5, none⟩ = some (.int .u64 0))
    (first | with_reducible assumption | go_keep)
    (first
      | (go_at_call 23; refine (writeN _).mono ?_; rintro e w7 ⟨rfl, o7⟩; have H7 := Lib.hid (H6.out.off (Off.also (by first | with_reducible exact Off.refl _ _ | with_reducible exact Off.drew (Off.refl _ _) | with_reducible exact Off.drewN (Off.refl _ _) _) o7)); have k7 : w7.cell? ⟨w.heap.size, 0, none⟩ = some (.int .i64 0) ∧ w7.cell? ⟨w.heap.size, 1, none⟩ = some (.int .i64 0) ∧ w7.cell? ⟨w.heap.size, 2, none⟩ = some (.int .i64 1) ∧ w7.cell? ⟨w.heap.size, 3, none⟩ = some (.int .i64 0) ∧ w7.cell? ⟨w.heap.size, 4, none⟩ = some (.int .u64 0) ∧ w7.cell? ⟨w.heap.size, 5, none⟩ = some (.int .u64 0) := H7.out.s6; clear o7)
      | (go_at_call 55; refine (rwriteN _).mono ?_; rintro e w8 ⟨rfl, o8⟩; have H8 := Lib.hid (H7.out.off (Off.also (by first | with_reducible exact Off.refl _ _ | with_reducible exact Off.drew (Off.refl _ _) | with_reducible exact Off.drewN (Off.refl _ _) _) o8)); have k8 : w8.cell? ⟨w.heap.size, 0, none⟩ = some (.int .i64 0) ∧ w8.cell? ⟨w.heap.size, 1, none⟩ = some (.int .i64 0) ∧ w8.cell? ⟨w.heap.size, 2, none⟩ = some (.int .i64 1) ∧ w8.cell? ⟨w.heap.size, 3, none⟩ = some (.int .i64 0) ∧ w8.cell? ⟨w.heap.size, 4, none⟩ = some (.int .u64 0) ∧ w8.cell? ⟨w.heap.size, 5, none⟩ = some (.int .u64 0) := H8.out.s6; clear o8))
  go_wp2
  go_ret
  exact ⟨rfl, H8.out.1⟩
theorem doNil (w : World) (k : Nat) (hk : k < 4) : Calls Try.prog 33 #[.pointer none, .pointer none, .int .u8 k, .agg #[.int .i64 0, .int .i64 0, .int .i64 1, .int .i64 0, .int .u64 0, .int .u64 0]] w (BoolNew true w) := by
  match k, hk with
  | 0, _ => exact doNil_0 w
  | 1, _ => exact doNil_1 w
  | 2, _ => exact doNil_2 w
  | 3, _ => exact doNil_3 w

end Go.Proofs.Ytonkhgmfeakbcaa
