/-
  The walk of dragnetlaw10.CountersSums.
-/
import Derived.Test.YtoobgfammippfaaAwake10
import Derived.BigQuiet
import Derived.Deep.QuietTactic
namespace Go.Proofs.Ytoobgfammippfaa
open Go.RowKit
attribute [local go_sem] bits_and_u64 bits_or_u64 bits_xor_u64 bits_andNot_u64 wrap_u64 bv_add bv_neg bv_sub bv_mul
set_option maxRecDepth 100000
def maxM (a b : BitVec 64) : BitVec 64 := BitVec.ofNat 64 (max a.toNat b.toNat)
def minM (a b : BitVec 64) : BitVec 64 := BitVec.ofNat 64 (min a.toNat b.toNat)
theorem maxM_toNat (a b : BitVec 64) : (maxM a b).toNat = max a.toNat b.toNat := by
  unfold maxM; have := a.isLt; have := b.isLt; rw [BitVec.toNat_ofNat, Nat.mod_eq_of_lt (by omega)]
theorem minM_toNat (a b : BitVec 64) : (minM a b).toNat = min a.toNat b.toNat := by
  unfold minM; have := a.isLt; have := b.isLt; rw [BitVec.toNat_ofNat, Nat.mod_eq_of_lt (by omega)]
theorem n64_max (a b : BitVec 64) : max (n64 a) (n64 b) = n64 (maxM a b) := by unfold n64; rw [maxM_toNat]; omega
theorem n64_min (a b : BitVec 64) : min (n64 a) (n64 b) = n64 (minM a b) := by unfold n64; rw [minM_toNat]; omega
theorem sumM_comm (a b m : BitVec 64) : sumM a b m = sumM b a m := by unfold sumM; rw [Nat.add_comm]
theorem sumM_assoc (a b c m : BitVec 64) : sumM (sumM a b m) c m = sumM a (sumM b c m) m := by
  apply BitVec.eq_of_toNat_eq
  simp only [sumM_toNat]
  omega
theorem sumM_rest (p q : BitVec 64) : sumM (restM p q) (minM p q) 18446744073709551615#64 = p := by
  apply BitVec.eq_of_toNat_eq
  have := p.isLt
  rw [sumM_toNat, restM_toNat, minM_toNat]
  show min _ 18446744073709551615 = _
  omega
theorem sumM_le (a b m : BitVec 64) : n64 (sumM a b m) ≤ n64 m := by unfold n64; rw [sumM_toNat]; omega
theorem sumM_grow (a b c d m : BitVec 64) : n64 (sumM a b m) ≤ n64 (sumM (maxM a c) (maxM b d) m) := by
  unfold n64; rw [sumM_toNat, sumM_toNat, maxM_toNat, maxM_toNat]; omega
theorem sumM_parts (a b m : BitVec 64) (h : sumM a b m ≠ m) : n64 a ≤ n64 (sumM a b m) ∧ n64 b ≤ n64 (sumM a b m) ∧ sumM a b m - a = b := by
  have h1 : (sumM a b m).toNat ≠ m.toNat := fun e => h (BitVec.eq_of_toNat_eq e)
  have ha := a.isLt
  have hb := b.isLt
  have hm := m.isLt
  rw [sumM_toNat] at h1
  refine ⟨?_, ?_, ?_⟩
  · unfold n64; rw [sumM_toNat]; omega
  · unfold n64; rw [sumM_toNat]; omega
  · apply BitVec.eq_of_toNat_eq
    rw [BitVec.toNat_sub, sumM_toNat]
    omega

theorem run_max_u64 {P : Program} {w : World} (ts : Array TypeId) (t : TypeId) (a b : BitVec 64) : (Builtin.max_ ts t #[.int .u64 (n64 a), .int .u64 (n64 b)]).run P w = .ok (.int .u64 (n64 (maxM a b))) w := by
  rw [run_max_int2]
  congr 2
  rw [← n64_max]
  split <;> omega
theorem run_min_u64 {P : Program} {w : World} (ts : Array TypeId) (t : TypeId) (a b : BitVec 64) : (Builtin.min_ ts t #[.int .u64 (n64 a), .int .u64 (n64 b)]).run P w = .ok (.int .u64 (n64 (minM a b))) w := by
  rw [run_min_int2]
  congr 2
  rw [← n64_min]
  split <;> omega
attribute [local go_sem ↓] run_max_u64 run_min_u64
theorem box3 (w : World) (x y z : Array Value) (t : TypeId) (n i : Nat) : ((((w.alloc (.cells x t)).alloc (.cells y t)).alloc (.cells z t)).drewN n).cell? ⟨w.heap.size, i, none⟩ = x[i]? ∧
    ((((w.alloc (.cells x t)).alloc (.cells y t)).alloc (.cells z t)).drewN n).cell? ⟨w.heap.size + 1, i, none⟩ = y[i]? := by
  constructor
  · show (((w.alloc (.cells x t)).alloc (.cells y t)).alloc (.cells z t)).cell? _ = _
    rw [World.cell?_alloc_lt _ _ _ (by simp; omega), World.cell?_alloc_lt _ _ _ (by simp), World.cell?_alloc_new]
  · show (((w.alloc (.cells x t)).alloc (.cells y t)).alloc (.cells z t)).cell? _ = _
    rw [World.cell?_alloc_lt _ _ _ (by simp), ← World.size_alloc w (.cells x t), World.cell?_alloc_new]
set_option maxHeartbeats 2000000 in
theorem countersSums_walk {w : World} (p p1 q q1 m c : BitVec 64) : Calls Try.prog 5 #[.agg #[.int .u64 (n64 p), .int .u64 (n64 p1)], .agg #[.int .u64 (n64 q), .int .u64 (n64 q1)], .agg #[.int .u64 (n64 m), .int .u64 (n64 c)]] w (BoolNew true w) := by
  go_enter Try.func5, Try.ntmps5
  go_wp2_with fail
  go_quiet (fail)
  have hb0 := box3 w #[.int .u64 (n64 p), .int .u64 (n64 p1)] #[.int .u64 (n64 q), .int .u64 (n64 q1)] #[.int .u64 (n64 m), .int .u64 (n64 c)] 40 nq 0
  have hb1 := box3 w #[.int .u64 (n64 p), .int .u64 (n64 p1)] #[.int .u64 (n64 q), .int .u64 (n64 q1)] #[.int .u64 (n64 m), .int .u64 (n64 c)] 40 nq 1
  have HO := Lib.hid (Off.drewN (Off.alloc (Off.alloc (Off.alloc (Off.refl Nob w) (.cells #[.int .u64 (n64 p), .int .u64 (n64 p1)] 40)) (.cells #[.int .u64 (n64 q), .int .u64 (n64 q1)] 40)) (.cells #[.int .u64 (n64 m), .int .u64 (n64 c)] 40)) nq)
  generalize (((w.alloc (.cells #[.int .u64 (n64 p), .int .u64 (n64 p1)] 40)).alloc (.cells #[.int .u64 (n64 q), .int .u64 (n64 q1)] 40)).alloc (.cells #[.int .u64 (n64 m), .int .u64 (n64 c)] 40)).drewN nq = W at *
  obtain ⟨c1, c2⟩ := hb0
  obtain ⟨c3, c4⟩ := hb1
  simp only [List.getElem?_toArray, List.getElem?_cons_zero, List.getElem?_cons_succ] at c1 c2 c3 c4
  go_wp2_with fail
  go_quiet ((go_at_call 10; exact Calls.quiet_of_same ((sum_any p q m _).mono fun e w' ⟨h1, h2⟩ => ⟨h1, h2.symm⟩)))
  go_wp2_with fail
  refine (sum_any _ _ m _).mono ?_
  rintro e w' ⟨rfl, rfl⟩
  go_wp2_with fail
  refine (sum_any _ c m _).mono ?_
  rintro e w' ⟨rfl, rfl⟩
  go_wp2_with fail
  refine (sum_any q c m _).mono ?_
  rintro e w' ⟨rfl, rfl⟩
  go_wp2_with fail
  refine (sum_any p _ m _).mono ?_
  rintro e w' ⟨rfl, rfl⟩
  go_wp2_with fail
  refine (sum_any q p m _).mono ?_
  rintro e w' ⟨rfl, rfl⟩
  rw [sumM_assoc, sumM_comm q p m]
  have h1 := sumM_le p q m
  have h2 := sumM_grow p q p1 q1 m
  have hn : ∀ hs : sumM p q m ≠ m, n64 p ≤ n64 (sumM p q m) ∧ n64 q ≤ n64 (sumM p q m) ∧ sumM p q m - p = q := sumM_parts p q m
  generalize sumM p q m = s at *
  generalize sumM (maxM p p1) (maxM q q1) m = g at *
  have HN := Lib.hid hn
  clear hn
  by_cases hs : s = m
  · subst hs
    go_wp2_with fail
    refine (rest_any p q _).mono ?_
    rintro e w' ⟨rfl, rfl⟩
    go_wp2_with fail
    refine (sum_any _ _ 18446744073709551615#64 _).mono ?_
    rintro e w' ⟨rfl, rfl⟩
    rw [sumM_rest]
    go_wp2_with fail
    refine (awake_ok _).mono ?_
    rintro e w' ⟨rfl, ho⟩
    have HP := Lib.hid ho
    clear ho
    go_wp2
    go_ret
    exact ⟨rfl, (HO.out.drewN _).also HP.out⟩
  · have hq : (n64 s == n64 m) = false := by rw [n64_beq, beq_eq_false_iff_ne]; exact hs
    obtain ⟨g1, g2, g3⟩ := HN.out hs
    have HS := Lib.hid hs
    have G3 : (n64 (s - p) == n64 q) = true := by rw [g3]; simp
    clear hs g3
    go_wp2_with fail
    refine (rest_any p q _).mono ?_
    rintro e w' ⟨rfl, rfl⟩
    go_wp2_with fail
    refine (sum_any _ _ 18446744073709551615#64 _).mono ?_
    rintro e w' ⟨rfl, rfl⟩
    rw [sumM_rest]
    go_wp2_with fail
    refine (awake_ok _).mono ?_
    rintro e w' ⟨rfl, ho⟩
    have HP := Lib.hid ho
    clear ho
    go_wp2
    go_ret
    exact ⟨rfl, (HO.out.drewN _).also HP.out⟩
end Go.Proofs.Ytoobgfammippfaa
