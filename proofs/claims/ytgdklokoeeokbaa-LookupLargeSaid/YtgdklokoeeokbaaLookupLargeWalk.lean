/-
  The walk of dragnetlaw09.LookupLarge.
-/
import Derived.Test.YtgdklokoeeokbaaDo09G
import Derived.Test.YtgdklokoeeokbaaAwake09
namespace Go.Proofs.Ytgdklokoeeokbaa
open Go.RowKit
attribute [local go_sem] bits_and_u64 bits_or_u64 bits_xor_u64 bits_andNot_u64 wrap_u64 bv_add bv_neg bv_sub bv_mul
set_option linter.unusedVariables false
set_option maxRecDepth 100000
set_option maxHeartbeats 8000000 in
theorem lookupLarge_walk {w : World} (x : Int) (hx : 0 ≤ x ∧ x < 256) (idx v : BitVec 64) : Calls Try.prog 7 #[.int .u8 x, .int .u64 (n64 idx), .int .u64 (n64 v)] w (BoolNew true w) := by
  obtain ⟨N, hN⟩ : ∃ N : Nat, 4094 + x % 6 = (N : Int) := Int.eq_ofNat_of_zero_le (by omega)
  have hN1 : 4094 ≤ N := by omega
  have hN2 : N ≤ 4099 := by omega
  have HN := Lib.hid hN
  obtain ⟨hx0, hx1⟩ := hx
  clear hN
  go_enter Try.func7, Try.ntmps7
  go_wp2_with fail
  rw [HN.out]
  refine (new_ok N w (by omega) (by omega)).mono ?_
  rintro e w1 ⟨p, rfl, F, ha, oa, fa⟩
  have HA := Lib.hid (And.intro ha (And.intro oa fa))
  clear ha oa fa
  go_wp2_with fail
  refine (rnew_ok N w1 (by omega) (by omega)).mono ?_
  rintro e w2 ⟨r, rfl, R, hr, orr, fr⟩
  have HB : Hid (Both w w2 p r (List.replicate N 0) []) := Lib.hid (by
    obtain ⟨ha, oa, fa⟩ := HA.out
    exact ⟨F, R, ha.keep orr (fun _ _ h => h), hr, oa.also orr, fa, fun k hk => Nat.le_trans oa.size (fr k hk), fun k hk hn => by have := ha.lt k hk; have := fr k hn; omega⟩)
  clear hr orr fr HA
  go_wp2_with fail
  have HP := Lib.hid (HB.out.pair 25 (pcs 0 (N : Int) 0 idx (msk true) v))
  obtain ⟨g, hg⟩ : ∃ g, w2.heap.size = g := ⟨_, rfl⟩
  obtain ⟨W, hW⟩ : ∃ W, w2.alloc (.cells (pcs 0 (N : Int) 0 idx (msk true) v) 25) = W := ⟨_, rfl⟩
  rw [hg, hW] at HP
  have hg0 : Hid (w.heap.size ≤ g) := Lib.hid (by rw [← hg]; exact HB.out.old.size)
  have G0 := Lib.hid HP.out.pg
  have B0 := Lib.hid HP.out.blk
  have k0 := pcs_cells B0.out
  have hW2 : w2.alloc (.cells #[.int .i64 0, .int .i64 (N : Int), .int .i64 0, .int .u64 (n64 idx), .int .u64 18446744073709551615, .int .u64 (n64 v)] 25) = W := hW
  rw [hg, hW2]
  clear hW hW2 hg HP HB HN
  refine Calls.mono (R := DoPG w W (fun k => k = g) p r) (by have := dog_2 G0.out 2 (by decide) (by decide) (by decide) 0 (N : Int) 0 idx (msk true) v; exact this) ?_
  rintro e d1 ⟨rfl, C1, E1, h1, o1⟩
  have G1 := Lib.hid h1
  have B1 := Lib.hid (B0.out.keepG o1 rfl)
  have k1 := pcs_cells B1.out


  clear h1 o1 k0
  go_wp2_with fail
  refine Calls.mono (R := DoPG w d1 (fun k => k = g) p r) (by have := dog_0 G1.out 0 (by decide) (by decide) (by decide) 0 (N : Int) 0 idx (msk true) v; exact this) ?_
  rintro e d2 ⟨rfl, C2, E2, h2, o2⟩
  have G2 := Lib.hid h2
  have B2 := Lib.hid (B1.out.keepG o2 rfl)
  have k2 := pcs_cells B2.out


  clear h2 o2 k1
  go_wp2_with fail
  refine Calls.mono (R := DoPG w d2 (fun k => k = g) p r) (by have := dog_4 G2.out 4 (by decide) (by decide) (by decide) 0 (N : Int) 0 idx (msk true) v; exact this) ?_
  rintro e d3 ⟨rfl, C3, E3, h3, o3⟩
  have G3 := Lib.hid h3
  have B3 := Lib.hid (B2.out.keepG o3 rfl)
  have k3 := pcs_cells B3.out
  have fz1 := B3.out.frozen 1
  have fz2 := B3.out.frozen 2
  clear h3 o3 k2
  go_wp2_with fail
  have G4 := Lib.hid (((G3.out.put rfl hg0.out 1 (.int .i64 64))).put rfl hg0.out 2 (.int .i64 ((N : Int) / 64)))
  have B4 : Hid (Blk ((d3.setCell ⟨g, 1, none⟩ (.int .i64 64)).setCell ⟨g, 2, none⟩ (.int .i64 ((N : Int) / 64))) g 25 (pcs 0 64 ((N : Int) / 64) idx (msk true) v)) := Lib.hid ((B3.out.put 1 _).put 2 _)
  have k4 := pcs_cells B4.out
  generalize hW4 : (d3.setCell ⟨g, 1, none⟩ (.int .i64 64)).setCell ⟨g, 2, none⟩ (.int .i64 ((N : Int) / 64)) = W4 at G4 B4 k4 ⊢
  clear hW4 fz1 fz2
  refine Calls.mono (R := DoPG w W4 (fun k => k = g) p r) (by have := dog_1 G4.out 1 (by decide) (by decide) (by decide) 0 64 ((N : Int) / 64) idx (msk true) v; exact this) ?_
  rintro e d5 ⟨rfl, C5, E5, h5, o5⟩
  have G5 := Lib.hid h5
  have B5 := Lib.hid (B4.out.keepG o5 rfl)
  have k5 := pcs_cells B5.out
  have fz1 := B5.out.frozen 1
  have fz2 := B5.out.frozen 2
  clear h5 o5 k4
  go_wp2_with fail
  have G6 := Lib.hid (((G5.out.put rfl hg0.out 1 (.int .i64 2))).put rfl hg0.out 2 (.int .i64 ((N : Int) / 2 + 1)))
  have B6 : Hid (Blk ((d5.setCell ⟨g, 1, none⟩ (.int .i64 2)).setCell ⟨g, 2, none⟩ (.int .i64 ((N : Int) / 2 + 1))) g 25 (pcs 0 2 ((N : Int) / 2 + 1) idx (msk true) v)) := Lib.hid ((B5.out.put 1 _).put 2 _)
  have k6 := pcs_cells B6.out
  generalize hW6 : (d5.setCell ⟨g, 1, none⟩ (.int .i64 2)).setCell ⟨g, 2, none⟩ (.int .i64 ((N : Int) / 2 + 1)) = W6 at G6 B6 k6 ⊢
  clear hW6 fz1 fz2
  refine Calls.mono (R := DoPG w W6 (fun k => k = g) p r) (by have := dog_1 G6.out 1 (by decide) (by decide) (by decide) 0 2 ((N : Int) / 2 + 1) idx (msk true) v; exact this) ?_
  rintro e d7 ⟨rfl, C7, E7, h7, o7⟩
  have G7 := Lib.hid h7
  have B7 := Lib.hid (B6.out.keepG o7 rfl)
  have k7 := pcs_cells B7.out


  clear h7 o7 k6
  go_wp2_with fail
  refine (Both.same (w0 := w) (G7.out.half)).mono ?_
  rintro e w8 ⟨rfl, o8⟩
  have O8 := Lib.hid (G7.out.half.old.also o8)
  clear o8
  go_wp2_with fail
  refine (awake_ok _).mono ?_
  rintro e w9 ⟨rfl, o9⟩
  have O9 := Lib.hid (O8.out.also o9)
  clear o9
  go_wp2
  go_ret
  exact ⟨ret_bool (by simp), O9.out⟩

end Go.Proofs.Ytgdklokoeeokbaa
