/-
  PrefixKeeps: the walk of made.
-/
import Derived.Test.YtlbahocncbmjnaaKeeps2
import Derived.Test.YtlbahocncbmjnaaMake
import Derived.Test.YtlbahocncbmjnaaTwin
import Derived.Test.YtlbahocncbmjnaaAwake23
import Derived.IntWalk
namespace Go.Proofs.Ytlbahocncbmjnaa
open Go.RowKit
set_option linter.unusedVariables false
set_option maxRecDepth 100000
theorem n64_of (m : Nat) (h : m < 18446744073709551616) : n64 (BitVec.ofNat 64 m) = (m : Int) := by unfold n64; rw [BitVec.toNat_ofNat, Nat.mod_eq_of_lt h]
theorem u64s_set (C : List (BitVec 64)) (j : Nat) (v : BitVec 64) : (u64s C).toArray.setIfInBounds j (.int .u64 (n64 v)) = (u64s (C.set j v)).toArray := by simp [u64s, List.map_set]
theorem Blk.putU {w : World} {g : Nat} {C : List (BitVec 64)} (h : Blk w g 32 (u64s C).toArray) (j : Nat) (x : Int) (v : BitVec 64) (hx : x = n64 v) : Blk (w.setCell ⟨g, j, none⟩ (.int .u64 x)) g 32 (u64s (C.set j v)).toArray := by
  rw [hx, ← u64s_set]
  exact h.put j _
theorem mkL_succ (l : List Bool) (k : Nat) (h : k < l.length) : (((mkL l k).set (3 * k) (BitVec.ofNat 64 (2 * k + (if l.getD k false = true then 1 else 0)))).set (3 * k + 1) (BitVec.ofNat 64 (k + 100))).set (3 * k + 2) (BitVec.ofNat 64 (k + 500)) = mkL l (k + 1) := by
  rw [mkL_fL, mkL_fL, fL_set, fL_set, fL_set]
  apply fL_ext
  intro j hj
  by_cases h2 : j = 3 * k + 2
  · rw [if_pos h2]; unfold mkC; rw [if_pos (show j < 3 * (k + 1) by omega), if_neg (show ¬ j % 3 = 0 by omega), if_neg (show ¬ j % 3 = 1 by omega), show j / 3 = k by omega]
  rw [if_neg h2]
  by_cases h1 : j = 3 * k + 1
  · rw [if_pos h1]; unfold mkC; rw [if_pos (show j < 3 * (k + 1) by omega), if_neg (show ¬ j % 3 = 0 by omega), if_pos (show j % 3 = 1 by omega), show j / 3 = k by omega]
  rw [if_neg h1]
  by_cases h0 : j = 3 * k
  · rw [if_pos h0]; unfold mkC; rw [if_pos (show j < 3 * (k + 1) by omega), if_pos (show j % 3 = 0 by omega), show j / 3 = k by omega]
  rw [if_neg h0]
  unfold mkC
  by_cases h3 : j < 3 * k
  · rw [if_pos h3, if_pos (show j < 3 * (k + 1) by omega)]
  · rw [if_neg h3, if_neg (show ¬ j < 3 * (k + 1) by omega)]
theorem set_set' (C : List (BitVec 64)) (j : Nat) (a b : BitVec 64) : (C.set j a).set j b = C.set j b := by simp
/-- What made leaves: an arena of its own. -/
def MadeAt (w : World) (l : List Bool) (e : Ending) (w' : World) : Prop := ∃ p, e = .returned (.pointer (some ⟨p, 0, none⟩)) ∧ One w w' [] p (mkL l l.length) (stores (4 * l.length))
set_option maxHeartbeats 4000000 in
theorem made_some (w : World) (b o n c : Nat) (l : List Bool) (hl : l.length = n) (hn0 : 0 < n) (hn : n ≤ 288) (hb : b < w.heap.size) (hc : ∀ j, j < n → w.cell? ⟨b, o + j, none⟩ = some (.bool (l.getD j false))) :
    Calls Try.prog 12 #[.slice (some ⟨b, o, none⟩) n c] w (MadeAt w l) := by
  obtain ⟨i0, hi, hz0, hz1, hz2⟩ := info_parts Try.infoU
  have HL := Lib.hid hl
  have HC := Lib.hid hc
  clear hl hc
  go_enter Try.func12, Try.ntmps12
  go_wp2_with (at_make; refine wpList_make_full _ rfl _ _ 36 rfl w.heap.size 32 i0 (.int .u64 0) 1 Try.underlying36 hi hz0 hz1 .i64 .i64 (4 * (n : Int)) (4 * (n : Int)) (4 * n) rfl rfl (by omega) (by omega) (by rw [hz2]; omega) (by unfold maxLen; omega) (Nat.le_refl _) ?_)
  intro w0 hown0 hgrow0
  have HB0 : Hid (Blk w0 w.heap.size 32 (u64s (mkL l 0)).toArray) := by
    have := made_blk (n := 4 * n) (by rw [Nat.mul_one]; exact hown0)
    rw [mkL_zero, HL.out]
    exact Lib.hid (by simpa [u64s, n64] using this)
  have HO0 : Hid (Off Nob w w0) := Lib.hid (Off.grown (Off.refl _ _) hgrow0 (fun k hk => by cases hk))
  have HW0 := Lib.hid (show w.heap.size < w0.heap.size from HB0.out.lt)
  clear hown0 hgrow0 hi hz0 hz1 hz2
  go_wp2_with fail
  go_loopw [4] (fun i wr => ∃ k : Nat, k ≤ n ∧ i = .int .i64 k ∧ Blk wr w.heap.size 32 (u64s (mkL l k)).toArray ∧ Off Nob w wr) (fun i _ => n - (intOf i).toNat)
  case atStart => exact ⟨0, Nat.zero_le _, rfl, HB0.out, HO0.out⟩
  case round =>
    obtain ⟨k, hk, rfl, hB, hoff⟩ := hrel
    have HB := Lib.hid hB
    have HO := Lib.hid hoff
    by_cases hlt : k < n
    · have hcell : wr.cell? ⟨b, o + k, none⟩ = some (.bool (l.getD k false)) := (hoff.cell_old hb _).trans (HC.out k hlt)
      have hlen : (mkL l k).length = 4 * n := by rw [length_mkL, HL.out]
      have hx0 : wr.cell? ⟨w.heap.size, 3 * k, none⟩ = some (.int .u64 (n64 (cl (mkL l k) (3 * k)))) := by rw [hB.cell, List.getElem?_toArray, getElem_u64s _ _ (by omega)]
      have hx1 : wr.cell? ⟨w.heap.size, 3 * k + 1, none⟩ = some (.int .u64 (n64 (cl (mkL l k) (3 * k + 1)))) := by rw [hB.cell, List.getElem?_toArray, getElem_u64s _ _ (by omega)]
      have hx2 : wr.cell? ⟨w.heap.size, 3 * k + 2, none⟩ = some (.int .u64 (n64 (cl (mkL l k) (3 * k + 2)))) := by rw [hB.cell, List.getElem?_toArray, getElem_u64s _ _ (by omega)]
      have hf0 := hB.frozen (3 * k)
      have hf1 := hB.frozen (3 * k + 1)
      have hf2 := hB.frozen (3 * k + 2)
      have HNEW := Lib.hid (mkL_succ l k (by have := HL.out; omega))
      have hq1 : IntKind.i64.wrap (3 * (k : Int)) = 3 * (k : Int) := IntWalk.i64_in _ (by omega)
      have hq2 : IntKind.i64.wrap (3 * (k : Int) + 1) = 3 * (k : Int) + 1 := IntWalk.i64_in _ (by omega)
      have hq3 : IntKind.i64.wrap (3 * (k : Int) + 2) = 3 * (k : Int) + 2 := IntWalk.i64_in _ (by omega)
      clear hoff hlen
      cases hbt : l.getD k false <;> rw [hbt] at hcell <;> (try rw [hbt] at HNEW)
      · clear hB
        go_wp2_with fail
        go_roundw
        case rel =>
          refine ⟨k + 1, by omega, by go_num, ?_, (((HO.out.put (p := ⟨w.heap.size, 3 * k, none⟩) (.inr (Nat.le_refl _)) _).put (p := ⟨w.heap.size, 3 * k + 1, none⟩) (.inr (Nat.le_refl _)) _).put (p := ⟨w.heap.size, 3 * k + 2, none⟩) (.inr (Nat.le_refl _)) _)⟩
          rw [← HNEW.out]
          exact ((HB.out.putU (3 * k) _ _ (by rw [n64_of _ (by simp; omega)]; simp)).putU (3 * k + 1) _ _ (by rw [n64_of _ (by omega)]; simp)).putU (3 * k + 2) _ _ (by rw [n64_of _ (by omega)]; simp)
        case measure => simp [intOf]; omega
      · clear hB
        go_wp2_with fail
        go_roundw
        case rel =>
          refine ⟨k + 1, by omega, by go_num, ?_, ((((HO.out.put (p := ⟨w.heap.size, 3 * k, none⟩) (.inr (Nat.le_refl _)) _).put (p := ⟨w.heap.size, 3 * k, none⟩) (.inr (Nat.le_refl _)) _).put (p := ⟨w.heap.size, 3 * k + 1, none⟩) (.inr (Nat.le_refl _)) _).put (p := ⟨w.heap.size, 3 * k + 2, none⟩) (.inr (Nat.le_refl _)) _)⟩
          rw [← HNEW.out, ← set_set' (mkL l k) (3 * k) (BitVec.ofNat 64 (2 * k))]
          exact (((HB.out.putU (3 * k) _ _ (by rw [n64_of _ (by omega)]; simp)).putU (3 * k) _ _ (by rw [n64_of _ (by simp; omega)]; simp)).putU (3 * k + 1) _ _ (by rw [n64_of _ (by omega)]; simp)).putU (3 * k + 2) _ _ (by rw [n64_of _ (by omega)]; simp)
        case measure => simp [intOf]; omega
    · obtain rfl : n = k := by omega
      clear hoff hB
      go_wp2_with fail
      refine (arena_any (C := mkL l l.length) (by have := blk_rd (c := 4 * n) HB.out (by rw [length_mkL, HL.out]; unfold maxLen; omega); rw [length_mkL, HL.out] at this; rw [HL.out]; exact this) (by rw [length_mkL, HL.out]; omega)).mono ?_
      rintro e w1 h1
      obtain ⟨p, r, rfl, k1⟩ := h1.one (w0 := w) (bs := []) HO.out (fun x hx => by cases hx)
      have HP : Hid (One w w1 [] p (mkL l l.length) (stores (4 * l.length))) := by
        rw [length_mkL] at k1
        have e : pad (mkL l l.length) = mkL l l.length := by
          unfold pad
          rw [if_neg]
          intro e2
          have := length_mkL l l.length
          rw [e2, HL.out] at this
          simp at this
          omega
        rw [e] at k1
        exact Lib.hid k1
      clear h1 k1
      go_wp2_with fail
      go_ret
      exact ⟨p, rfl, HP.out⟩
end Go.Proofs.Ytlbahocncbmjnaa
