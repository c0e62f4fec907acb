/-
  dragnetref09's Get, Find, GetRow.
-/
import Derived.Test.YtgdklokoeeokbaaRef09Ld
import Derived.Test.YtgdklokoeeokbaaLookFind
import Derived.Test.YtgdklokoeeokbaaLookupRowsWalk
namespace Go.Proofs.Ytgdklokoeeokbaa
open Go.RowKit
attribute [local go_sem] bits_and_u64 bits_or_u64 bits_xor_u64 bits_andNot_u64 wrap_u64 bv_add bv_neg bv_sub bv_mul
set_option linter.unusedVariables false
set_option maxRecDepth 100000
section
variable {w : World} {F : Nat → Prop} {r : Nat} {C : List (BitVec 64)} {E : List Ev}
/-- The row's form and its cells. -/
theorem LdAt.row {base n : Nat} {v : Value} {w' : World} (h : LdAt w F r C E base n v w') (hn : 0 < n) : ∃ g cap, v = .slice (some ⟨g, 0, none⟩) n cap ∧ n ≤ cap ∧ w.heap.size ≤ g ∧ g < w'.heap.size ∧ ∀ j, j < n → w'.cell? ⟨g, j, none⟩ = some (.int .u64 (n64 (cl C (base + j)))) := by
  obtain ⟨F1, ha, hs, ho, hw, hx⟩ := h
  have hcells := fun (g : Nat) (hg : v.ownBlock = some g) (j : Nat) (u : Value) => hw.cells hg j u
  have hlt := hw.lt
  rcases hw.2 with ⟨rfl, h0⟩ | ⟨g, cap, cur, rfl, hb, hg, hle, _⟩
  · omega
  · refine ⟨g, cap, rfl, hle, hb, (hlt g rfl).2, fun j hj => ?_⟩
    have hlen : j < (ldL C base n).length := by rw [length_ldL]; exact hj
    have := hcells g rfl j _ (getElem_u64s (ldL C base n) j hlen)
    rw [add_addr, Nat.zero_add] at this
    rw [this]
    unfold ldL cl
    simp [hj]
theorem LdAt.to {base n : Nat} {v : Value} {w' : World} (h : LdAt w F r C E base n v w') (h0 : Rf w F r C E) : RfTo w F r C (ldE base E n) w' := by
  obtain ⟨F1, ha, hs, ho, hw, hx⟩ := h
  exact ⟨ha.mono hs (Grow.lt h0.lt ho.size), ho⟩
set_option maxHeartbeats 1000000 in
theorem rget_ok (h : Rf w F r C E) (base n : Nat) (idx : BitVec 64) (hz : lkE C.length E.length base n ((1 : Nat) : Int) = 0) :
    Calls Try.prog 39 #[.pointer (some ⟨r, 0, none⟩), .int .i64 (base : Int), .int .i64 (n : Int), .int .u64 (n64 idx)] w fun e w' => e = .returned (.tuple #[.int .u64 (n64 (if idx.toNat < n then cl C (base + idx.toNat) else 0#64)), .int .i64 0]) ∧ RfTo w F r C (ldE base E n) w' := by
  obtain ⟨g1, g2, g3, g4, g5⟩ := lkE_zero hz
  have hn2 := h.n2
  have HC := Lib.hid (rtable_any h base n 1 (by decide))
  have HZ := Lib.hid hz
  have HA := Lib.hid h
  have HL := Lib.hid (loaded_ok h base n (by omega) (by omega))
  have hNN : n64 (bv (n : Int)) = (n : Int) := n64_bvN n (by omega)
  obtain ⟨j, hj⟩ : ∃ j : Nat, idx.toNat = j := ⟨_, rfl⟩
  have hjj : n64 idx = (j : Int) := by unfold n64; rw [hj]
  have hjl := idx.isLt
  rw [hj] at hjl ⊢
  rw [hjj]
  clear h hz g5 hj hjj
  by_cases hi : j < n
  · have d1 : decide ((n : Int) ≤ (j : Int)) = false := decide_eq_false (by omega)
    have d2 : decide (n ≤ j) = false := decide_eq_false (by omega)
    rw [if_pos hi]
    go_enter Try.func39, Try.ntmps39
    go_wp2_with fail
    refine Calls.mono (R := fun e w' => e = .returned (.int .i64 0) ∧ w = w') (by have := HC.out; rwa [HZ.out] at this) ?_
    rintro e w' ⟨rfl, rfl⟩
    go_wp2_with fail
    refine HL.out.mono ?_
    rintro e w1 ⟨v, rfl, hld⟩
    obtain ⟨g, cap, rfl, hcp, hg1, hg2, hcells⟩ := hld.row (by omega)
    have HTo := Lib.hid (hld.to HA.out)
    have hcell := hcells j hi
    clear hld hcells hg1 hg2 HC HL
    go_wp2_with fail
    go_ret2
    exact ⟨rfl, HTo.out⟩
  · have d1 : decide ((n : Int) ≤ (j : Int)) = true := decide_eq_true (by omega)
    have d2 : decide (n ≤ j) = true := decide_eq_true (by omega)
    rw [if_neg hi]
    go_enter Try.func39, Try.ntmps39
    go_wp2_with fail
    refine Calls.mono (R := fun e w' => e = .returned (.int .i64 0) ∧ w = w') (by have := HC.out; rwa [HZ.out] at this) ?_
    rintro e w' ⟨rfl, rfl⟩
    go_wp2_with fail
    refine HL.out.mono ?_
    rintro e w1 ⟨v, rfl, hld⟩
    have HTo := Lib.hid (hld.to HA.out)
    clear hld HC HL
    go_wp2_with fail
    go_ret2
    exact ⟨rfl, HTo.out⟩
theorem rget_err (h : Rf w F r C E) (base n : Int) (idx : BitVec 64) (hz : lkE C.length E.length base n ((1 : Nat) : Int) ≠ 0) :
    Calls Try.prog 39 #[.pointer (some ⟨r, 0, none⟩), .int .i64 base, .int .i64 n, .int .u64 (n64 idx)] w fun e w' => e = .returned (.tuple #[.int .u64 0, .int .i64 (lkE C.length E.length base n ((1 : Nat) : Int))]) ∧ RfTo w F r C E w' := by
  have HC := Lib.hid (rtable_any h base n 1 (by decide))
  have hq : (lkE C.length E.length base n ((1 : Nat) : Int) != 0) = true := by rw [bne_iff_ne]; exact hz
  obtain ⟨e, he⟩ : ∃ e, lkE C.length E.length base n ((1 : Nat) : Int) = e := ⟨_, rfl⟩
  rw [he] at HC hq ⊢
  have HA := Lib.hid h
  clear h hz he
  go_enter Try.func39, Try.ntmps39
  go_wp2_with fail
  refine Calls.mono (R := fun e' w' => e' = .returned (.int .i64 e) ∧ w = w') HC.out ?_
  rintro e' w' ⟨rfl, rfl⟩
  go_wp2_with fail
  go_ret2
  exact ⟨rfl, RfTo.refl HA.out⟩
def RGePost (w : World) (F : Nat → Prop) (p : Nat) (r : (BitVec 64 × Int) × (List (BitVec 64) × List Ev)) (e : Ending) (w' : World) : Prop :=
  e = .returned (.tuple #[.int .u64 (n64 r.1.1), .int .i64 r.1.2]) ∧ RfTo w F p r.2.1 r.2.2 w'
theorem rget_any (h : Rf w F r C E) (base n : Int) (idx : BitVec 64) :
    Calls Try.prog 39 #[.pointer (some ⟨r, 0, none⟩), .int .i64 base, .int .i64 n, .int .u64 (n64 idx)] w (RGePost w F r (geR C E base n idx)) := by
  by_cases hz : lkE C.length E.length base n 1 = 0
  · obtain ⟨g1, g2, g3, _⟩ := lkE_zero hz
    obtain ⟨base, rfl⟩ := Int.eq_ofNat_of_zero_le g3
    obtain ⟨n, rfl⟩ := Int.eq_ofNat_of_zero_le (show 0 ≤ n by omega)
    have hr : geR C E base n idx = ((if idx.toNat < n then cl C (base + idx.toNat) else 0#64, 0), (C, ldE base E n)) := by unfold geR; rw [if_pos hz]; rfl
    rw [hr]
    exact rget_ok h base n idx hz
  · have hr : geR C E base n idx = ((0#64, lkE C.length E.length base n 1), (C, E)) := by unfold geR; rw [if_neg hz]
    rw [hr]
    exact rget_err h base n idx hz
theorem fst0_stay (V : Nat → BitVec 64) (v : BitVec 64) (n k m d : Nat) (hk : k ≠ n) (h : fst0 V v n m = k) : fst0 V v n (m + d) = k := by
  induction d with
  | zero => exact h
  | succ d ih =>
    have hd : fst0 V v n (m + (d + 1)) = if fst0 V v n (m + d) = n ∧ v = V (m + d) then m + d else fst0 V v n (m + d) := rfl
    rw [hd, ih, if_neg (fun hh => hk hh.1)]
theorem fst0_hit (V : Nat → BitVec 64) (v : BitVec 64) (n k : Nat) (hk : k < n) (h : fst0 V v n k = n) (hv : V k = v) : fst0 V v n n = k := by
  have hd : fst0 V v n (k + 1) = if fst0 V v n k = n ∧ v = V k then k else fst0 V v n k := rfl
  rw [if_pos ⟨h, hv.symm⟩] at hd
  have := fst0_stay V v n k (k + 1) (n - (k + 1)) (by omega) hd
  rwa [show k + 1 + (n - (k + 1)) = n by omega] at this
theorem fst0_miss (V : Nat → BitVec 64) (v : BitVec 64) (n k : Nat) (h : fst0 V v n k = n) (hv : V k ≠ v) : fst0 V v n (k + 1) = n := by
  have hd : fst0 V v n (k + 1) = if fst0 V v n k = n ∧ v = V k then k else fst0 V v n k := rfl
  rw [hd, if_neg (fun hh => hv hh.2.symm), h]
set_option maxHeartbeats 1000000 in
theorem rfind_ok (h : Rf w F r C E) (base n : Nat) (v : BitVec 64) (hz : lkE C.length E.length base n ((1 : Nat) : Int) = 0) :
    Calls Try.prog 43 #[.pointer (some ⟨r, 0, none⟩), .int .i64 (base : Int), .int .i64 (n : Int), .int .u64 (n64 v)] w fun e w' => e = .returned (.tuple #[.int .u64 (fst0 (fun i => cl C (base + i)) v n n : Nat), .int .i64 0]) ∧ RfTo w F r C (ldE base E n) w' := by
  obtain ⟨g1, g2, g3, g4, g5⟩ := lkE_zero hz
  have hn2 := h.n2
  have HC := Lib.hid (rtable_any h base n 1 (by decide))
  have HZ := Lib.hid hz
  have HA := Lib.hid h
  have HL := Lib.hid (loaded_ok h base n (by omega) (by omega))
  have hNN : n64 (bv (n : Int)) = (n : Int) := n64_bvN n (by omega)
  obtain ⟨V, hV⟩ : ∃ V : Nat → BitVec 64, (fun i => cl C (base + i)) = V := ⟨_, rfl⟩
  have HV := Lib.hid hV
  rw [hV]
  clear h hz g5 hV
  go_enter Try.func43, Try.ntmps43
  go_wp2_with fail
  refine Calls.mono (R := fun e w' => e = .returned (.int .i64 0) ∧ w = w') (by have := HC.out; rwa [HZ.out] at this) ?_
  rintro e w' ⟨rfl, rfl⟩
  go_wp2_with fail
  refine HL.out.mono ?_
  rintro e w1 ⟨u, rfl, hld⟩
  obtain ⟨g, cap, rfl, hcp, hg1, hg2, hcells⟩ := hld.row (by omega)
  have HTo := Lib.hid (hld.to HA.out)
  have HCC : Hid (∀ j, j < n → w1.cell? ⟨g, j, none⟩ = some (.int .u64 (n64 (V j)))) := Lib.hid (fun j hj => by rw [← HV.out]; exact hcells j hj)
  clear hld hcells hg1 hg2 HC HL HV
  go_wp2_with fail
  go_loop [12] (fun i => ∃ k : Nat, k ≤ n ∧ i = .int .i64 k ∧ fst0 V v n k = n) (fun i => n - (intOf i).toNat)
  case atStart => exact ⟨0, Nat.zero_le _, rfl, rfl⟩
  case round =>
    obtain ⟨k, hk, rfl, hf⟩ := hrel
    have HF := Lib.hid hf
    clear hf
    by_cases hlt : k < n
    · have hcell := HCC.out k hlt
      have hKK : n64 (bv (k : Int)) = (k : Int) := n64_bvN k (by omega)
      by_cases hv : V k = v
      · have t : (n64 (V k) == n64 v) = true := by rw [hv]; simp
        have HR := Lib.hid (fst0_hit V v n k hlt HF.out hv)
        clear hv
        go_wp2_with fail
        go_ret2
        exact ⟨by rw [HR.out]; rfl, HTo.out⟩
      · have t : (n64 (V k) == n64 v) = false := by rw [beq_eq_false_iff_ne]; exact fun e => hv (n64_inj e)
        have HR := Lib.hid (fst0_miss V v n k HF.out hv)
        clear hv
        go_wp2_with fail
        go_round
        case rel => exact ⟨k + 1, by omega, by go_num, HR.out⟩
        case measure => simp [intOf]; omega
    · obtain rfl : n = k := by omega
      go_wp2_with fail
      go_ret2
      exact ⟨by rw [HF.out]; rfl, HTo.out⟩
theorem rfind_err (h : Rf w F r C E) (base n : Int) (v : BitVec 64) (hz : lkE C.length E.length base n ((1 : Nat) : Int) ≠ 0) :
    Calls Try.prog 43 #[.pointer (some ⟨r, 0, none⟩), .int .i64 base, .int .i64 n, .int .u64 (n64 v)] w fun e w' => e = .returned (.tuple #[.int .u64 0, .int .i64 (lkE C.length E.length base n ((1 : Nat) : Int))]) ∧ RfTo w F r C E w' := by
  have HC := Lib.hid (rtable_any h base n 1 (by decide))
  have hq : (lkE C.length E.length base n ((1 : Nat) : Int) != 0) = true := by rw [bne_iff_ne]; exact hz
  obtain ⟨e, he⟩ : ∃ e, lkE C.length E.length base n ((1 : Nat) : Int) = e := ⟨_, rfl⟩
  rw [he] at HC hq ⊢
  have HA := Lib.hid h
  clear h hz he
  go_enter Try.func43, Try.ntmps43
  go_wp2_with fail
  refine Calls.mono (R := fun e' w' => e' = .returned (.int .i64 e) ∧ w = w') HC.out ?_
  rintro e' w' ⟨rfl, rfl⟩
  go_wp2_with fail
  go_ret2
  exact ⟨rfl, RfTo.refl HA.out⟩
theorem rfind_any (h : Rf w F r C E) (base n : Int) (v : BitVec 64) :
    Calls Try.prog 43 #[.pointer (some ⟨r, 0, none⟩), .int .i64 base, .int .i64 n, .int .u64 (n64 v)] w (RGePost w F r (fiR C E base n v)) := by
  by_cases hz : lkE C.length E.length base n 1 = 0
  · obtain ⟨g1, g2, g3, _⟩ := lkE_zero hz
    obtain ⟨base, rfl⟩ := Int.eq_ofNat_of_zero_le g3
    obtain ⟨n, rfl⟩ := Int.eq_ofNat_of_zero_le (show 0 ≤ n by omega)
    have hr : fiR C E base n v = ((BitVec.ofNat 64 (fst0 (fun i => cl C (base + i)) v n n), 0), (C, ldE base E n)) := by unfold fiR; rw [if_pos hz]; rfl
    have hl : fst0 (fun i => cl C (base + i)) v n n < 18446744073709551616 := by rcases fst0_le (fun i => cl C (base + i)) v n n (Nat.le_refl _) with h | h <;> omega
    rw [hr]
    refine (rfind_ok h base n v hz).mono fun e w' hh => ?_
    unfold RGePost
    dsimp only
    rw [n64_nat _ hl]
    exact hh
  · have hr : fiR C E base n v = ((0#64, lkE C.length E.length base n 1), (C, E)) := by unfold fiR; rw [if_neg hz]
    rw [hr]
    exact rfind_err h base n v hz
end
end Go.Proofs.Ytgdklokoeeokbaa
