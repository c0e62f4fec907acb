/-
  dragnetref09's GetRow.
-/
import Derived.Test.YtgdklokoeeokbaaRef09Get
namespace Go.Proofs.Ytgdklokoeeokbaa
open Go.RowKit
attribute [local go_sem] bits_and_u64 bits_or_u64 bits_xor_u64 bits_andNot_u64 wrap_u64 bv_add bv_neg bv_sub bv_mul
set_option linter.unusedVariables false
set_option maxRecDepth 100000
/-- What GetRow of the specification does: an error, or a row, which lies apart from the arena. -/
def RgrPost (w : World) (F : Nat → Prop) (r : Nat) (C : List (BitVec 64)) (E : List Ev) (base many n : Int) (idx : BitVec 64) (e : Ending) (w' : World) : Prop :=
  (grE C.length E.length base many n ≠ 0 ∧ e = .returned (.tuple #[.slice none 0 0, .int .i64 (grE C.length E.length base many n)]) ∧ RfTo w F r C E w') ∨
  (grE C.length E.length base many n = 0 ∧ ∃ v F1, e = .returned (.tuple #[v, .int .i64 0]) ∧ Rf w' F1 r C (ldE base.toNat E (many.toNat * n.toNat)) ∧ (∀ j, F1 j → Grow F w w' j) ∧ Off F w w' ∧ Rd w' (fun k => w.heap.size ≤ k ∧ ¬ F1 k) 1 v n.toNat (u64s (rowL (fun i => cl C (base.toNat + i)) idx n.toNat (many.toNat * n.toNat))))
theorem rowL_zero (V : Nat → BitVec 64) (idx : BitVec 64) (n many : Nat) (hn : 0 < n) (hm : many * n ≤ 4096) (hi : many ≤ idx.toNat) : rowL V idx n (many * n) = List.replicate n 0#64 := by
  unfold rowL
  apply List.ext_getElem
  · simp
  · intro j h1 h2
    simp at h1
    rw [List.getElem_map, List.getElem_range, List.getElem_replicate, rwF_eq V idx n _ j hn h1 hm, if_neg]
    have : many * n ≤ idx.toNat * n := Nat.mul_le_mul_right n hi
    omega
theorem rowL_some (V : Nat → BitVec 64) (idx : BitVec 64) (n many j : Nat) (hn : j < n) (hm : many * n ≤ 4096) (hi : idx.toNat < many) : (u64s (rowL V idx n (many * n)))[j]? = some (.int .u64 (n64 (V (idx.toNat * n + j)))) := by
  have : (idx.toNat + 1) * n ≤ many * n := Nat.mul_le_mul_right n hi
  rw [Nat.add_mul, Nat.one_mul] at this
  unfold u64s rowL
  simp [hn]
  rw [rwF_eq V idx n _ j (by omega) hn hm, if_pos (by omega)]
section
variable {w : World} {F : Nat → Prop} {r : Nat} {C : List (BitVec 64)} {E : List Ev}
theorem LdAt.part {base N : Nat} {v : Value} {w' : World} (h : LdAt w F r C E base N v w') {g cap : Nat} (hv : v = .slice (some ⟨g, 0, none⟩) N cap) : ∃ F1, Rf w' F1 r C (ldE base E N) ∧ (∀ j, F1 j → Grow F w w' j) ∧ Off F w w' ∧ ¬ F1 g := by
  obtain ⟨F1, ha, hs, ho, hw, hx⟩ := h
  exact ⟨F1, ha, hs, ho, hx g (by rw [hv]; rfl)⟩
set_option maxHeartbeats 2000000 in
theorem rgetRow_ok (h : Rf w F r C E) (base n many : Nat) (hn1 : 1 ≤ n) (hn2 : n ≤ 64) (hm1 : 1 ≤ many) (hm2 : many ≤ 4096) (idx : BitVec 64) (hz : lkE C.length E.length base ((many : Int) * (n : Int)) ((1 : Nat) : Int) = 0) :
    Calls Try.prog 40 #[.pointer (some ⟨r, 0, none⟩), .int .i64 (base : Int), .int .i64 (many : Int), .int .i64 (n : Int), .int .u64 (n64 idx)] w fun e w' =>
      ∃ v F1, e = .returned (.tuple #[v, .int .i64 0]) ∧ Rf w' F1 r C (ldE base E (many * n)) ∧ (∀ j, F1 j → Grow F w w' j) ∧ Off F w w' ∧ Rd w' (fun k => w.heap.size ≤ k ∧ ¬ F1 k) 1 v n (u64s (rowL (fun i => cl C (base + i)) idx n (many * n))) := by
  obtain ⟨g1, g2, g3, g4, g5⟩ := lkE_zero hz
  have hC2 := h.n2
  obtain ⟨i0, hi, hz0, hz1, hz2⟩ := info_parts Try.infoU
  obtain ⟨mn, hmn⟩ : ∃ mn : Nat, many * n = mn := ⟨_, rfl⟩
  have hmnI : (many : Int) * (n : Int) = (mn : Int) := by rw [← hmn]; push_cast; rfl
  have hle : n ≤ mn := by rw [← hmn]; exact Nat.le_mul_of_pos_left n hm1
  rw [hmnI] at hz g1 g2 g4 g5
  have HC := Lib.hid (rtable_any h base (mn : Int) 1 (by decide))
  have HZ := Lib.hid hz
  have HA := Lib.hid h
  have HL := Lib.hid (loaded_ok h base mn (by omega) (by omega))
  have hNN : n64 (bv (many : Int)) = (many : Int) := n64_bvN many (by omega)
  have d1 : decide ((n : Int) < 1) = false := decide_eq_false (by omega)
  have d2 : decide ((64 : Int) < (n : Int)) = false := decide_eq_false (by omega)
  have d3 : decide ((many : Int) < 1) = false := decide_eq_false (by omega)
  have d4 : decide ((4096 : Int) < (many : Int)) = false := decide_eq_false (by omega)
  obtain ⟨j, hj⟩ : ∃ j : Nat, idx.toNat = j := ⟨_, rfl⟩
  have hjj : n64 idx = (j : Int) := by unfold n64; rw [hj]
  have hjl := idx.isLt
  have HRZ := Lib.hid (fun hh => rowL_zero (fun i => cl C (base + i)) idx n many (by omega) (by omega) hh)
  have HRS := Lib.hid (fun i hi => rowL_some (fun i => cl C (base + i)) idx n many i hi (by omega))
  obtain ⟨L, hLL⟩ : ∃ L, rowL (fun i => cl C (base + i)) idx n (many * n) = L := ⟨_, rfl⟩
  have hLlen : L.length = n := by rw [← hLL, length_rowL]
  have HLL := Lib.hid hLlen
  rw [hLL] at HRZ HRS
  rw [hj] at hjl HRZ HRS
  have HMN := Lib.hid hmn
  rw [hLL, hjj, hmn]
  clear h hz g5 hj hjj hLL hLlen hmn
  by_cases hi2 : j < many
  · have e1 : decide ((many : Int) ≤ (j : Int)) = false := decide_eq_false (by omega)
    have e2 : decide (many ≤ j) = false := decide_eq_false (by omega)
    obtain ⟨jn, hjn⟩ : ∃ jn : Nat, j * n = jn := ⟨_, rfl⟩
    have hjnI : (j : Int) * (n : Int) = (jn : Int) := by rw [← hjn]; push_cast; rfl
    have hjnl : jn + n ≤ mn := by
      have : (j + 1) * n ≤ many * n := Nat.mul_le_mul_right n hi2
      rw [Nat.add_mul, Nat.one_mul, HMN.out, hjn] at this
      exact this
    have HJ := Lib.hid hjn
    clear hjn
    go_enter Try.func40, Try.ntmps40
    go_wp2_with fail
    refine Calls.mono (R := fun e w' => e = .returned (.int .i64 0) ∧ w = w') (by have := HC.out; rwa [HZ.out] at this) ?_
    rintro e w' ⟨rfl, rfl⟩
    go_wp2_with fail
    refine HL.out.mono ?_
    rintro e w1 ⟨v, rfl, hld⟩
    obtain ⟨g, cap, rfl, hcp, hg1, hg2, hcells⟩ := hld.row (by omega)
    obtain ⟨F1, p1, p2, p3, p4⟩ := hld.part rfl
    have P1 := Lib.hid p1
    have P2 := Lib.hid p2
    have P3 := Lib.hid p3
    have P4 := Lib.hid p4
    have HCC := Lib.hid hcells
    have b1 : (jn : Int) + (n : Int) ≤ (cap : Int) := by omega
    have b2 : (0 : Int) ≤ (jn : Int) := by omega
    have b3 : (jn : Int) ≤ (jn : Int) + (n : Int) := by omega
    clear hld hcells HC HL p1 p2 p3 p4
    go_wp2_with fail
    go_ret2
    have hx : (Value.slice (some ⟨g, jn, none⟩) (jn + n - jn) (cap - jn)) = .slice (some ⟨g, jn, none⟩) n (cap - jn) := by rw [Nat.add_sub_cancel_left]
    refine ⟨.slice (some ⟨g, jn, none⟩) n (cap - jn), F1, by rw [← hx]; rfl, P1.out, P2.out, P3.out, ?_⟩
    refine ⟨_, _, rfl, by unfold maxLen; omega, by rw [length_u64s, HLL.out, Nat.mul_one], fun _ => ⟨g, jn, rfl, ⟨hg1, P4.out⟩, hg2, fun i u hu => ?_⟩⟩
    have hin : i < n := by
      have := (List.getElem?_eq_some_iff.1 hu).1
      rwa [length_u64s, HLL.out] at this
    have h1 := HRS.out i hin (by exact hi2)
    rw [HJ.out, hu] at h1
    rw [h1]
    exact HCC.out (jn + i) (by omega)
  · have e1 : decide ((many : Int) ≤ (j : Int)) = true := decide_eq_true (by omega)
    have e2 : decide (many ≤ j) = true := decide_eq_true (by omega)
    go_enter Try.func40, Try.ntmps40
    go_wp2_with fail
    refine Calls.mono (R := fun e w' => e = .returned (.int .i64 0) ∧ w = w') (by have := HC.out; rwa [HZ.out] at this) ?_
    rintro e w' ⟨rfl, rfl⟩
    go_wp2_with fail
    refine HL.out.mono ?_
    rintro e w1 ⟨v, rfl, hld⟩
    obtain ⟨g, cap, hv, _⟩ := hld.row (by omega)
    obtain ⟨F1, p1, p2, p3, p4⟩ := hld.part hv
    have P1 := Lib.hid p1
    have P2 := Lib.hid p2
    have P3 := Lib.hid p3
    clear hld hv HC HL p1 p2 p3 p4
    go_wp2_with (at_make; refine wpList_make_full _ rfl _ _ 22 rfl w1.heap.size 23 i0 (.int .u64 0) 1 Try.underlying22 hi hz0 hz1 .i64 .i64 _ _ n rfl rfl rfl rfl (by rw [hz2]; omega) (by unfold maxLen; omega) (Nat.le_refl _) ?_; intro w2 hown0 hgrow0)
    have hb := made_blk hown0
    have HB := Lib.hid hb
    have o2 : Off Nob w1 w2 := Off.grown (Off.refl _ _) hgrow0 (fun k hk => by cases hk)
    have O2 := Lib.hid o2
    clear hown0 hgrow0 hb o2
    go_wp2_with fail
    go_ret2
    refine ⟨_, F1, rfl, P1.out.keep O2.out (fun _ _ h => h), fun j hj => (P2.out j hj).elim .inl (fun h => .inr ⟨h.1, Nat.lt_of_lt_of_le h.2 O2.out.size⟩), P3.out.also O2.out.ofNob, ?_⟩
    refine ⟨_, _, rfl, by unfold maxLen; omega, by rw [length_u64s, HLL.out, Nat.mul_one], fun _ => ⟨w1.heap.size, 0, rfl, ⟨P3.out.size, fun h => by have := P1.out.lt _ h; omega⟩, HB.out.lt, fun i u hu => ?_⟩⟩
    rw [HRZ.out (by omega)] at hu
    rw [Nat.zero_add, HB.out.cell]
    simpa using hu
theorem rgetRow_err (h : Rf w F r C E) (base many n : Int) (idx : BitVec 64) (hn1 : 1 ≤ n) (hn2 : n ≤ 64) (hm1 : 1 ≤ many) (hm2 : many ≤ 4096) (hz : lkE C.length E.length base (many * n) ((1 : Nat) : Int) ≠ 0) :
    Calls Try.prog 40 #[.pointer (some ⟨r, 0, none⟩), .int .i64 base, .int .i64 many, .int .i64 n, .int .u64 (n64 idx)] w fun e w' => e = .returned (.tuple #[.slice none 0 0, .int .i64 (lkE C.length E.length base (many * n) ((1 : Nat) : Int))]) ∧ RfTo w F r C E w' := by
  have m1 : 0 ≤ many * n := Int.mul_nonneg (by omega) (by omega)
  have m2 : many * n ≤ 4096 * n := Int.mul_le_mul_of_nonneg_right hm2 (by omega)
  have HC := Lib.hid (rtable_any h base (many * n) 1 (by decide))
  have hq : (lkE C.length E.length base (many * n) ((1 : Nat) : Int) != 0) = true := by rw [bne_iff_ne]; exact hz
  have d1 : decide (n < 1) = false := decide_eq_false (by omega)
  have d2 : decide (64 < n) = false := decide_eq_false (by omega)
  have d3 : decide (many < 1) = false := decide_eq_false (by omega)
  have d4 : decide (4096 < many) = false := decide_eq_false (by omega)
  obtain ⟨e, he⟩ : ∃ e, lkE C.length E.length base (many * n) ((1 : Nat) : Int) = e := ⟨_, rfl⟩
  rw [he] at HC hq ⊢
  have HA := Lib.hid h
  clear h hz he
  go_enter Try.func40, Try.ntmps40
  go_wp2_with fail
  refine Calls.mono (R := fun e' w' => e' = .returned (.int .i64 e) ∧ w = w') HC.out ?_
  rintro e' w' ⟨rfl, rfl⟩
  go_wp2_with fail
  go_ret2
  exact ⟨rfl, RfTo.refl HA.out⟩
theorem rgetRow_bad (h : Rf w F r C E) (base many n : Int) (idx : BitVec 64) (hb : ¬ (1 ≤ n ∧ n ≤ 64 ∧ 1 ≤ many ∧ many ≤ 4096)) :
    Calls Try.prog 40 #[.pointer (some ⟨r, 0, none⟩), .int .i64 base, .int .i64 many, .int .i64 n, .int .u64 (n64 idx)] w fun e w' => e = .returned (.tuple #[.slice none 0 0, .int .i64 7]) ∧ RfTo w F r C E w' := by
  have HA := Lib.hid h
  clear h
  have ht : ∃ q1 q2 q3 q4, decide (n < 1) = q1 ∧ decide (64 < n) = q2 ∧ decide (many < 1) = q3 ∧ decide (4096 < many) = q4 := ⟨_, _, _, _, rfl, rfl, rfl, rfl⟩
  obtain ⟨q1, q2, q3, q4, d1, d2, d3, d4⟩ := ht
  have hq : (q1 || q2 || q3 || q4) = true := by
    rw [← d1, ← d2, ← d3, ← d4]
    simp only [Bool.or_eq_true, decide_eq_true_eq]
    omega
  clear hb
  cases q1 <;> cases q2 <;> cases q3 <;> cases q4 <;> first | (exfalso; revert hq; decide) | skip
  all_goals
    clear hq
    go_enter Try.func40, Try.ntmps40
    go_wp2_with fail
    go_ret2
    exact ⟨rfl, RfTo.refl HA.out⟩
theorem rgetRow_any (h : Rf w F r C E) (base many n : Int) (idx : BitVec 64) :
    Calls Try.prog 40 #[.pointer (some ⟨r, 0, none⟩), .int .i64 base, .int .i64 many, .int .i64 n, .int .u64 (n64 idx)] w (RgrPost w F r C E base many n idx) := by
  by_cases hb : 1 ≤ n ∧ n ≤ 64 ∧ 1 ≤ many ∧ many ≤ 4096
  · have hg : grE C.length E.length base many n = lkE C.length E.length base (many * n) 1 := by unfold grE; rw [if_pos hb]
    by_cases hz : lkE C.length E.length base (many * n) ((1 : Nat) : Int) = 0
    · obtain ⟨g1, g2, g3, _⟩ := lkE_zero hz
      obtain ⟨base, rfl⟩ := Int.eq_ofNat_of_zero_le g3
      obtain ⟨n, rfl⟩ := Int.eq_ofNat_of_zero_le (show 0 ≤ n by omega)
      obtain ⟨many, rfl⟩ := Int.eq_ofNat_of_zero_le (show 0 ≤ many by omega)
      exact (rgetRow_ok h base n many (by omega) (by omega) (by omega) (by omega) idx hz).mono fun e w' hh => .inr ⟨hg.trans hz, hh⟩
    · exact (rgetRow_err h base many n idx hb.1 hb.2.1 hb.2.2.1 hb.2.2.2 hz).mono fun e w' hh => .inl ⟨by rw [hg]; exact hz, by rw [hg]; exact hh⟩
  · have hg : grE C.length E.length base many n = 7 := by unfold grE; rw [if_neg hb]
    exact (rgetRow_bad h base many n idx hb).mono fun e w' hh => .inl ⟨by rw [hg]; decide, by rw [hg]; exact hh⟩
end
end Go.Proofs.Ytgdklokoeeokbaa
