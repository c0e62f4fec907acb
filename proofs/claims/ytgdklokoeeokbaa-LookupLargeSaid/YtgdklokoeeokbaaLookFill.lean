/-
  lookup.Fill over an arena.
-/
import Derived.Test.YtgdklokoeeokbaaLookPut
namespace Go.Proofs.Ytgdklokoeeokbaa
open Go.RowKit Go.Shelf
attribute [local go_sem] bits_and_u64 bits_or_u64 bits_xor_u64 bits_andNot_u64 wrap_u64 bv_add bv_neg bv_sub bv_mul
set_option linter.unusedVariables false
set_option linter.unusedSimpArgs false
set_option maxRecDepth 100000
/-- What Fill has made of the cells behind k stores, and the steps. -/
def flS (L : List (BitVec 64)) (base : Nat) (C : List (BitVec 64)) (E : List Ev) : Nat → List (BitVec 64) × List Ev
  | 0 => (C, E)
  | k + 1 => ((flS L base C E k).1.set (base + k) (cl L k), (flS L base C E k).2 ++ [(2, base + k)])
theorem flS_len (L : List (BitVec 64)) (base : Nat) (C : List (BitVec 64)) (E : List Ev) (k : Nat) : (flS L base C E k).1.length = C.length ∧ (flS L base C E k).2.length = E.length + k := by
  induction k with
  | zero => exact ⟨rfl, rfl⟩
  | succ k ih =>
    constructor
    · show (List.set _ _ _).length = _
      rw [List.length_set]; exact ih.1
    · show (_ ++ _ : List Ev).length = _
      rw [List.length_append, ih.2]; simp; omega
/-- What Fill returns, and leaves. -/
def flR (L C : List (BitVec 64)) (E : List Ev) (base : Int) (n : Nat) : Int × (List (BitVec 64) × List Ev) :=
  if lkE C.length E.length base n 1 = 0 then (0, flS L base.toNat C E n) else (lkE C.length E.length base n 1, (C, E))
section
variable {w0 w : World} {F : Nat → Prop} {p : Nat} {C : List (BitVec 64)} {E : List Ev}
set_option maxHeartbeats 1000000 in
theorem fill_ok {n b o c : Nat} {L : List (BitVec 64)} (h : Ar w F p C E) (hb : ¬ F b) (hbl : b < w.heap.size) (hL : L.length = n) (hc : ∀ j, j < n → w.cell? ⟨b, o + j, none⟩ = some (.int .u64 (n64 (cl L j)))) (base : Nat) (hz : lkE C.length E.length base n ((1 : Nat) : Int) = 0) :
    Calls Try.prog 44 #[.pointer (some ⟨p, 0, none⟩), .int .i64 (base : Int), .slice (some ⟨b, o, none⟩) n c] w fun e w' => e = .returned (.int .i64 0) ∧ ArTo w F p (flS L base C E n).1 (flS L base C E n).2 w' := by
  obtain ⟨g1, g2, g3, g4, g5⟩ := lkE_zero hz
  have hn2 := h.n2
  have HC := Lib.hid (lcheck_any h base n 1 (by decide))
  have HZ := Lib.hid hz
  have HA := Lib.hid h
  have HCC := Lib.hid hc
  have G5 := Lib.hid g5
  clear h hz hc g5
  go_enter Try.func44, Try.ntmps44
  go_wp2_with fail
  refine Calls.mono (R := fun e w' => e = .returned (.int .i64 0) ∧ w = w') (by have := HC.out; rwa [HZ.out] at this) ?_
  rintro e w' ⟨rfl, rfl⟩
  clear HC HZ
  go_wp2_with fail
  go_loopw [20] (fun i wr => ∃ k : Nat, k ≤ n ∧ i = .int .i64 k ∧ ArTo w F p (flS L base C E k).1 (flS L base C E k).2 wr) (fun i _ => n - (intOf i).toNat)
  case atStart => exact ⟨0, Nat.zero_le _, rfl, ArTo.refl HA.out⟩
  case round =>
    obtain ⟨k, hk, rfl, hto⟩ := hrel
    have HT := Lib.hid hto
    by_cases hlt : k < n
    · have hcl : wr.cell? ⟨b, o + k, none⟩ = some (.int .u64 (n64 (cl L k))) := by
        obtain ⟨_, ho⟩ := hto
        have := ho.block b hbl hb
        unfold World.cell? at *
        rw [this]
        exact HCC.out k hlt
      obtain ⟨ha, ho⟩ := hto
      have hb1 : (base : Int) + (k : Int) ≤ 65536 := by omega
      have hb2 : 0 ≤ (base : Int) + (k : Int) := by omega
      have HS := Lib.hid (store_ok ha ((base : Int) + (k : Int)) (cl L k) (by omega) (by rw [(flS_len L base C E k).1]; omega) (by rw [(flS_len L base C E k).2]; have := G5.out; omega))
      clear ha ho
      go_wp2_with fail
      refine HS.out.mono ?_
      rintro e w1 ⟨rfl, h1⟩
      rw [show ((base : Int) + (k : Int)).toNat = base + k by omega] at h1
      have H1 : Hid (ArTo w F p (flS L base C E (k + 1)).1 (flS L base C E (k + 1)).2 w1) := Lib.hid (HT.out.trans h1)
      clear h1 HS
      go_wp2_with fail
      go_roundw
      case rel => exact ⟨k + 1, by omega, by go_num, H1.out⟩
      case measure => simp [intOf]; omega
    · obtain rfl : n = k := by omega
      clear hto
      go_wp2
      go_ret
      exact ⟨rfl, HT.out⟩
theorem fill_err {n c : Nat} {A : Option Addr} (h : Ar w F p C E) (hn : n ≤ maxLen) (base : Int) (hz : lkE C.length E.length base n ((1 : Nat) : Int) ≠ 0) :
    Calls Try.prog 44 #[.pointer (some ⟨p, 0, none⟩), .int .i64 base, .slice A n c] w fun e w' => e = .returned (.int .i64 (lkE C.length E.length base n ((1 : Nat) : Int))) ∧ ArTo w F p C E w' := by
  have HC := Lib.hid (lcheck_any h base n 1 (by decide))
  have hq : (lkE C.length E.length base n ((1 : Nat) : Int) != 0) = true := by rw [bne_iff_ne]; exact hz
  obtain ⟨e, he⟩ : ∃ e, lkE C.length E.length base n ((1 : Nat) : Int) = e := ⟨_, rfl⟩
  rw [he] at HC hq ⊢
  have HA := Lib.hid h
  unfold maxLen at hn
  clear h hz he
  go_enter Try.func44, Try.ntmps44
  go_wp2_with fail
  refine Calls.mono (R := fun e' w' => e' = .returned (.int .i64 e) ∧ w = w') HC.out ?_
  rintro e' w' ⟨rfl, rfl⟩
  go_wp2
  go_ret
  exact ⟨rfl, ArTo.refl HA.out⟩
theorem fill_any {n : Nat} {G : Nat → Prop} {v : Value} {L : List (BitVec 64)} (h : Ar w F p C E) (hr : Rd w G 1 v n (u64s L)) (hd : ∀ k, G k → ¬ F k) (base : Int) :
    Calls Try.prog 44 #[.pointer (some ⟨p, 0, none⟩), .int .i64 base, v] w fun e w' => e = .returned (.int .i64 (flR L C E base n).1) ∧ ArTo w F p (flR L C E base n).2.1 (flR L C E base n).2.2 w' := by
  obtain ⟨A, c, rfl, hm, hl, hc⟩ := hr
  have hL : L.length = n := by rw [length_u64s] at hl; omega
  by_cases hz : lkE C.length E.length base n 1 = 0
  · obtain ⟨g1, g2, g3, _⟩ := lkE_zero hz
    obtain ⟨b, o, rfl, hb, hbl, hx⟩ := hc (by omega)
    obtain ⟨base, rfl⟩ := Int.eq_ofNat_of_zero_le g3
    have hR : flR L C E (base : Int) n = (0, flS L base C E n) := by unfold flR; rw [if_pos hz]; rfl
    rw [hR]
    exact fill_ok h (hd b hb) hbl hL (fun j hj => hx j _ (getElem_u64s L j (by omega))) base hz
  · have hR : flR L C E base n = (lkE C.length E.length base n 1, (C, E)) := by unfold flR; rw [if_neg hz]
    rw [hR]
    exact fill_err h hm base hz
end
end Go.Proofs.Ytgdklokoeeokbaa
