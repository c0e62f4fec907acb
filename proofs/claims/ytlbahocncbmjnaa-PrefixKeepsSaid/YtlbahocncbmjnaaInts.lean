/-
  dragnetref16.Ints: two lists of integers are equal.
-/
import Derived.Test.YtlbahocncbmjnaaPrefOf
import Derived.Test.YtlbahocncbmjnaaCells
import Derived.BigQuiet
import Derived.Deep.QuietTactic
namespace Go.Proofs.Ytlbahocncbmjnaa
open Go.RowKit
set_option linter.unusedVariables false
set_option maxRecDepth 100000
/-- Two lists of integers are equal. -/
def intsB (A B : List Int) : Bool := decide (A = B)
theorem eq_take_succ' {A B : List Int} {k : Nat} (h : A.take k = B.take k) (ha : k < A.length) (hb : k < B.length) (hx : iat A k = iat B k) : A.take (k + 1) = B.take (k + 1) := by
  rw [List.take_succ_eq_append_getElem ha, List.take_succ_eq_append_getElem hb, h]
  simp [iat, List.getD, ha, hb] at hx
  rw [hx]
set_option maxHeartbeats 400000 in
theorem ints_some (w : World) (b o c b2 o2 c2 n : Nat) (A B : List Int) (ha : A.length = n) (hb : B.length = n) (hn : n ≤ maxLen)
    (hca : ∀ j u, (intsV A)[j]? = some u → w.cell? ⟨b, o + j, none⟩ = some u) (hcb : ∀ j u, (intsV B)[j]? = some u → w.cell? ⟨b2, o2 + j, none⟩ = some u) :
    Calls Try.prog 11 #[.slice (some ⟨b, o, none⟩) n c, .slice (some ⟨b2, o2, none⟩) n c2] w (BoolNew (intsB A B) w) := by
  have HA := Lib.hid ha
  have HB := Lib.hid hb
  have HCA := Lib.hid hca
  have HCB := Lib.hid hcb
  clear ha hb hca hcb
  unfold maxLen at hn
  go_enter Try.func11, Try.ntmps11
  go_wp2
  go_loopw [5] (fun i wr => ∃ k : Nat, k ≤ n ∧ i = .int .i64 k ∧ Off Nob w wr ∧ (∀ ad, wr.cell? ad = w.cell? ad) ∧ A.take k = B.take k) (fun i _ => n - (intOf i).toNat)
  case atStart => exact ⟨0, Nat.zero_le _, rfl, Off.refl _ _, fun _ => rfl, rfl⟩
  case round =>
    obtain ⟨k, hk, rfl, ho, hcl, htk⟩ := hrel
    have HO := Lib.hid ho
    have HT := Lib.hid htk
    have HX := Lib.hid hcl
    by_cases hlt : k < n
    · have hka : k < A.length := by have := HA.out; omega
      have hkb : k < B.length := by have := HB.out; omega
      have hc1 : wr.cell? ⟨b, o + k, none⟩ = some (.int .i64 (iat A k)) := by rw [hcl]; exact HCA.out k _ (getElem_intsV _ _ hka)
      have hc2 : wr.cell? ⟨b2, o2 + k, none⟩ = some (.int .i64 (iat B k)) := by rw [hcl]; exact HCB.out k _ (getElem_intsV _ _ hkb)
      clear ho htk hcl
      by_cases hx : iat A k = iat B k
      · have hq2 : (iat A k != iat B k) = false := by rw [hx]; simp
        have HQ := Lib.hid (eq_take_succ' HT.out hka hkb hx)
        have HE := Lib.hid hx
        clear hx
        go_wp2
        go_quiet (fail)
        go_wp2
        go_roundw
        case rel => exact ⟨k + 1, by omega, by go_num, HO.out.drewN _, fun ad => HX.out ad, HQ.out⟩
        case measure => simp [intOf]; omega
      · have hq2 : (iat A k != iat B k) = true := by rw [bne_iff_ne]; exact hx
        have HF : Hid (intsB A B = false) := by
          unfold intsB
          rw [decide_eq_false_iff_not]
          exact fun h => hx (by rw [h])
        clear hx
        go_wp2
        go_quiet (fail)
        go_wp2
        go_ret
        exact ⟨by rw [HF.out]; rfl, HO.out.drewN _⟩
    · clear ho htk hcl
      have HF : Hid (intsB A B = true) := by
        unfold intsB
        rw [decide_eq_true_iff]
        have h1 := HT.out
        rwa [List.take_of_length_le (by have := HA.out; omega), List.take_of_length_le (by have := HB.out; omega)] at h1
      go_wp2
      go_ret
      exact ⟨by rw [HF.out]; rfl, HO.out⟩
theorem ints_len (w : World) (X Y : Option Addr) (n m c d : Nat) (h : n ≠ m) :
    Calls Try.prog 11 #[.slice X n c, .slice Y m d] w (BoolNew false w) := by
  have hq : ((n : Int) != (m : Int)) = true := by rw [bne_iff_ne]; omega
  go_enter Try.func11, Try.ntmps11
  go_wp2
  go_ret
  exact ⟨rfl, Off.refl _ _⟩
theorem ints_zero (w : World) (X Y : Option Addr) (c d : Nat) :
    Calls Try.prog 11 #[.slice X 0 c, .slice Y 0 d] w (BoolNew true w) := by
  go_enter Try.func11, Try.ntmps11
  go_wp2
  refine wp_loop_rounds 1 ?_
  rw [rounds_succ]
  go_wp2_with fail
  go_ret
  exact ⟨rfl, Off.refl _ _⟩
theorem ints_any {w : World} {F G : Nat → Prop} {v u : Value} {n m : Nat} {A B : List Int} (ha : Rd w F 1 v n (intsV A)) (hb : Rd w G 1 u m (intsV B)) :
    Calls Try.prog 11 #[v, u] w (BoolNew (intsB A B) w) := by
  obtain ⟨X, c, rfl, hm1, hl1, hc1⟩ := ha
  obtain ⟨Y, d, rfl, hm2, hl2, hc2⟩ := hb
  rw [length_intsV, Nat.mul_one] at hl1 hl2
  by_cases hnm : n = m
  · subst hnm
    rcases Nat.eq_zero_or_pos n with h0 | h0
    · subst h0
      have e1 : A = [] := List.eq_nil_of_length_eq_zero hl1
      have e2 : B = [] := List.eq_nil_of_length_eq_zero hl2
      subst e1 e2
      exact ints_zero w X Y c d
    · obtain ⟨b, o, rfl, _, hb, hx⟩ := hc1 h0
      obtain ⟨b2, o2, rfl, _, hb2, hx2⟩ := hc2 h0
      exact ints_some w b o c b2 o2 d n A B hl1 hl2 hm1 hx hx2
  · have : intsB A B = false := by
      unfold intsB
      rw [decide_eq_false_iff_not]
      intro h
      subst h
      omega
    rw [this]
    exact ints_len w X Y n m c d hnm
theorem ints_same {w : World} {F G : Nat → Prop} {v u : Value} {n m : Nat} {A : List Int} (ha : Rd w F 1 v n (intsV A)) (hb : Rd w G 1 u m (intsV A)) : Calls Try.prog 11 #[v, u] w (BoolNew true w) := by
  have := ints_any ha hb
  rwa [show intsB A A = true by simp [intsB]] at this
theorem TwoRows.rd1 {w0 w : World} {v1 v2 : Value} {A B : List Int} (h : TwoRows w0 v1 v2 A B w) : Rd w (fun k => w0.heap.size ≤ k ∧ k < w.heap.size) 1 v1 A.length (intsV A) := Rd.own h.1 fun k hk => h.1.lt k hk
theorem TwoRows.rd2 {w0 w : World} {v1 v2 : Value} {A B : List Int} (h : TwoRows w0 v1 v2 A B w) : Rd w (fun k => w0.heap.size ≤ k ∧ k < w.heap.size) 1 v2 B.length (intsV B) := Rd.own h.2.1 fun k hk => h.2.1.lt k hk
/-- A slice of integers that was written out. -/
theorem Rd.litI (w : World) (t : TypeId) (C : List Int) (h : C.length ≤ maxLen) : Rd (w.alloc (.cells (intsV C).toArray t)) (fun k => k = w.heap.size) 1 (.slice (some ⟨w.heap.size, 0, none⟩) C.length C.length) C.length (intsV C) :=
  ⟨_, _, rfl, h, by rw [length_intsV, Nat.mul_one], fun _ => ⟨_, 0, rfl, rfl, by simp, fun j u hu => by rw [Nat.zero_add, World.cell?_alloc_new]; simpa using hu⟩⟩

end Go.Proofs.Ytlbahocncbmjnaa
