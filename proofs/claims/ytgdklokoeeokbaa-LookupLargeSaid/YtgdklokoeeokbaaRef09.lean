/-
  dragnetref09's functions over the specification's arena: table, Put, Add, Fill.
-/
import Derived.Test.YtgdklokoeeokbaaLookFill
import Derived.Test.YtgdklokoeeokbaaRefAll
import Derived.Test.YtgdklokoeeokbaaRef07
namespace Go.Proofs.Ytgdklokoeeokbaa
open Go.RowKit
attribute [local go_sem] bits_and_u64 bits_or_u64 bits_xor_u64 bits_andNot_u64 wrap_u64 bv_add bv_neg bv_sub bv_mul
set_option linter.unusedVariables false
set_option maxRecDepth 100000
section
variable {w : World} {F : Nat → Prop} {r : Nat} {C : List (BitVec 64)} {E : List Ev}
set_option maxHeartbeats 1000000 in
theorem rtable_any (h : Rf w F r C E) (base n : Int) (s : Nat) (hs : s ≤ 2) :
    Calls Try.prog 58 #[.pointer (some ⟨r, 0, none⟩), .int .i64 base, .int .i64 n, .int .i64 (s : Int)] w fun e w' => e = .returned (.int .i64 (lkE C.length E.length base n s)) ∧ w = w' := by
  have H := Lib.hid h
  clear h
  by_cases n1 : n < 1
  · have HF := Lib.hid (show lkE C.length E.length base n s = 7 by unfold lkE; rw [if_pos (.inl n1)])
    go_enter Try.func58, Try.ntmps58
    go_wp2_with fail
    go_ret
    exact ⟨by rw [HF.out]; rfl, rfl⟩
  by_cases n2 : 4096 < n
  · have HF := Lib.hid (show lkE C.length E.length base n s = 7 by unfold lkE; rw [if_pos (.inr n2)])
    go_enter Try.func58, Try.ntmps58
    go_wp2_with fail
    go_ret
    exact ⟨by rw [HF.out]; rfl, rfl⟩
  have hn : ¬ (n < 1 ∨ 4096 < n) := by omega
  by_cases hb : hasE C.length base n = 0
  · have HB := Lib.hid hb
    have HF := Lib.hid (show lkE C.length E.length base n s = roomE E.length ((s : Int) * n) by unfold lkE; rw [if_neg hn, if_pos hb])
    have m1 : 0 ≤ (s : Int) * n := Int.mul_nonneg (by omega) (by omega)
    have m2 : (s : Int) * n ≤ 2 * n := Int.mul_le_mul_of_nonneg_right (by omega) (by omega)
    clear hb hn
    go_enter Try.func58, Try.ntmps58
    go_wp2_with fail
    refine Calls.mono (R := fun e w' => e = .returned (.int .i64 0) ∧ w = w') (by have := rhas_any H.out base n; rwa [HB.out] at this) ?_
    rintro e w' ⟨rfl, rfl⟩
    go_wp2_with fail
    refine (rroom_any H.out ((s : Int) * n)).mono ?_
    rintro e w' ⟨rfl, rfl⟩
    go_wp2_with fail
    go_ret
    exact ⟨by rw [HF.out]; rfl, rfl⟩
  · have HF := Lib.hid (show lkE C.length E.length base n s = hasE C.length base n by unfold lkE; rw [if_neg hn, if_neg hb])
    have hq : (hasE C.length base n == 0) = false := by rw [beq_eq_false_iff_ne]; exact hb
    clear hb hn
    go_enter Try.func58, Try.ntmps58
    go_wp2_with fail
    refine (rhas_any H.out base n).mono ?_
    rintro e w' ⟨rfl, rfl⟩
    go_wp2_with fail
    go_ret
    exact ⟨by rw [HF.out]; rfl, rfl⟩
set_option maxHeartbeats 1000000 in
theorem rfill_ok {n b o c : Nat} {L : List (BitVec 64)} (h : Rf w F r C E) (hb : ¬ F b) (hbl : b < w.heap.size) (hL : L.length = n) (hc : ∀ j, j < n → w.cell? ⟨b, o + j, none⟩ = some (.int .u64 (n64 (cl L j)))) (base : Nat) (hz : lkE C.length E.length base n ((1 : Nat) : Int) = 0) :
    Calls Try.prog 45 #[.pointer (some ⟨r, 0, none⟩), .int .i64 (base : Int), .slice (some ⟨b, o, none⟩) n c] w fun e w' => e = .returned (.int .i64 0) ∧ RfTo w F r (flS L base C E n).1 (flS L base C E n).2 w' := by
  obtain ⟨g1, g2, g3, g4, g5⟩ := lkE_zero hz
  have hn2 := h.n2
  have HC := Lib.hid (rtable_any h base n 1 (by decide))
  have HZ := Lib.hid hz
  have HA := Lib.hid h
  have HCC := Lib.hid hc
  have G5 := Lib.hid g5
  clear h hz hc g5
  go_enter Try.func45, Try.ntmps45
  go_wp2_with fail
  refine Calls.mono (R := fun e w' => e = .returned (.int .i64 0) ∧ w = w') (by have := HC.out; rwa [HZ.out] at this) ?_
  rintro e w' ⟨rfl, rfl⟩
  clear HC HZ
  go_wp2_with fail
  go_loopw [8] (fun i wr => ∃ k : Nat, k ≤ n ∧ i = .int .i64 k ∧ RfTo w F r (flS L base C E k).1 (flS L base C E k).2 wr) (fun i _ => n - (intOf i).toNat)
  case atStart => exact ⟨0, Nat.zero_le _, rfl, RfTo.refl HA.out⟩
  case round =>
    obtain ⟨k, hk, rfl, hto⟩ := hrel
    have HT := Lib.hid hto
    by_cases hlt : k < n
    · have hcl : wr.cell? ⟨b, o + k, none⟩ = some (.int .u64 (n64 (cl L k))) := by
        obtain ⟨_, ho⟩ := hto
        have := ho.block b hbl hb
        unfold World.cell? at *
        rw [this]
        exact HCC.out k hlt
      obtain ⟨ha, ho⟩ := hto
      have hb1 : (base : Int) + (k : Int) ≤ 65536 := by omega
      have hb2 : 0 ≤ (base : Int) + (k : Int) := by omega
      have HS := Lib.hid (rstore_ok ha ((base : Int) + (k : Int)) (cl L k) (by omega) (by rw [(flS_len L base C E k).1]; omega) (by rw [(flS_len L base C E k).2]; have := G5.out; omega))
      clear ha ho
      go_wp2_with fail
      refine HS.out.mono ?_
      rintro e w1 ⟨rfl, h1⟩
      rw [show ((base : Int) + (k : Int)).toNat = base + k by omega] at h1
      have H1 : Hid (RfTo w F r (flS L base C E (k + 1)).1 (flS L base C E (k + 1)).2 w1) := Lib.hid (HT.out.trans h1)
      clear h1 HS
      go_wp2_with fail
      go_roundw
      case rel => exact ⟨k + 1, by omega, by go_num, H1.out⟩
      case measure => simp [intOf]; omega
    · obtain rfl : n = k := by omega
      clear hto
      go_wp2
      go_ret
      exact ⟨rfl, HT.out⟩
theorem rfill_err {n c : Nat} {A : Option Addr} (h : Rf w F r C E) (hn : n ≤ maxLen) (base : Int) (hz : lkE C.length E.length base n ((1 : Nat) : Int) ≠ 0) :
    Calls Try.prog 45 #[.pointer (some ⟨r, 0, none⟩), .int .i64 base, .slice A n c] w fun e w' => e = .returned (.int .i64 (lkE C.length E.length base n ((1 : Nat) : Int))) ∧ RfTo w F r C E w' := by
  have HC := Lib.hid (rtable_any h base n 1 (by decide))
  have hq : (lkE C.length E.length base n ((1 : Nat) : Int) == 0) = false := by rw [beq_eq_false_iff_ne]; exact hz
  obtain ⟨e, he⟩ : ∃ e, lkE C.length E.length base n ((1 : Nat) : Int) = e := ⟨_, rfl⟩
  rw [he] at HC hq ⊢
  have HA := Lib.hid h
  unfold maxLen at hn
  clear h hz he
  go_enter Try.func45, Try.ntmps45
  go_wp2_with fail
  refine Calls.mono (R := fun e' w' => e' = .returned (.int .i64 e) ∧ w = w') HC.out ?_
  rintro e' w' ⟨rfl, rfl⟩
  go_wp2_with fail
  go_loopw [8] (fun i wr => i = .int .i64 0 ∧ wr = w) (fun i _ => 0)
  case atStart => exact ⟨rfl, rfl⟩
  case round =>
    obtain ⟨rfl, rfl⟩ := hrel
    by_cases hn0 : 0 < n
    · have d0 : decide ((0 : Int) < (n : Int)) = true := decide_eq_true (by omega)
      go_wp2
      go_ret
      exact ⟨rfl, RfTo.refl HA.out⟩
    · obtain rfl : n = 0 := by omega
      go_wp2
      go_ret
      exact ⟨rfl, RfTo.refl HA.out⟩
theorem rfill_any {n : Nat} {G : Nat → Prop} {v : Value} {L : List (BitVec 64)} (h : Rf w F r C E) (hr : Rd w G 1 v n (u64s L)) (hd : ∀ k, G k → ¬ F k) (base : Int) :
    Calls Try.prog 45 #[.pointer (some ⟨r, 0, none⟩), .int .i64 base, v] w fun e w' => e = .returned (.int .i64 (flR L C E base n).1) ∧ RfTo w F r (flR L C E base n).2.1 (flR L C E base n).2.2 w' := by
  obtain ⟨A, c, rfl, hm, hl, hc⟩ := hr
  have hL : L.length = n := by rw [length_u64s] at hl; omega
  by_cases hz : lkE C.length E.length base n 1 = 0
  · obtain ⟨g1, g2, g3, _⟩ := lkE_zero hz
    obtain ⟨b, o, rfl, hb, hbl, hx⟩ := hc (by omega)
    obtain ⟨base, rfl⟩ := Int.eq_ofNat_of_zero_le g3
    have hR : flR L C E (base : Int) n = (0, flS L base C E n) := by unfold flR; rw [if_pos hz]; rfl
    rw [hR]
    exact rfill_ok h (hd b hb) hbl hL (fun j hj => hx j _ (getElem_u64s L j (by omega))) base hz
  · have hR : flR L C E base n = (lkE C.length E.length base n 1, (C, E)) := by unfold flR; rw [if_neg hz]
    rw [hR]
    exact rfill_err h hm base hz
end
end Go.Proofs.Ytgdklokoeeokbaa
