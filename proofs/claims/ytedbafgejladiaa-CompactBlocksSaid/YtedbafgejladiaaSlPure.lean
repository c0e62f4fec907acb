import Derived.Test.YtedbafgejladiaaEv
import Derived.BigQuiet
import Derived.Deep.QuietTactic
import Derived.Test.YtedbafgejladiaaCells
import Derived.Maps.AppendAt
import Derived.Test.YtedbafgejladiaaWords
/-
  Since and Events of an arena, dragnetlaw07.SameEvents.
-/
namespace Go.Proofs.Ytedbafgejladiaa
open Go.RowKit
set_option maxRecDepth 100000
theorem NewE.rd {w w' : World} {E : List Ev} {v : Value} (h : w'.ownsRow w.heap.size 102 2 v E.length (evs E)) : Rd w' (fun k => w.heap.size ≤ k ∧ k < w'.heap.size) 2 v E.length (evs E) := Rd.own h fun k hk => h.lt k hk
section
variable {w : World} {F : Nat → Prop} {p : Nat} {C : List (BitVec 64)} {E : List Ev}
set_option maxHeartbeats 400000 in
theorem since_ok (h : Ar w F p C E) (s : Nat) (hs : s ≤ E.length) :
    Calls Try.prog 52 #[.pointer (some ⟨p, 0, none⟩), .int .i64 s] w (NewE2 w (E.drop s)) := by
  have HN := Lib.hid (none_ok h)
  have HF := Lib.hid (from_ok h s hs)
  have c1 : w.cell? ⟨p, 1, none⟩ = some (.int .i64 (E.length : Int)) := by
    obtain ⟨cb, pv, ps, rg, _, h⟩ := h
    exact h.top.cell 1
  clear h
  go_enter Try.func52, Try.ntmps52
  go_wp2_with fail
  refine HN.out.mono ?_
  rintro e w' ⟨rfl, rfl⟩
  go_wp2_with fail
  refine HF.out.mono ?_
  rintro e w1 ⟨v, rfl, h1, h2⟩
  have H1 := Lib.hid h1
  have H2 := Lib.hid h2
  clear h1 h2
  go_wp2
  go_ret2
  exact ⟨_, rfl, H1.out, H2.out⟩
theorem events_ok (h : Ar w F p C E) : Calls Try.prog 22 #[.pointer (some ⟨p, 0, none⟩)] w (NewE w E) := by
  have HF := Lib.hid (since_ok h 0 (Nat.zero_le _))
  clear h
  go_enter Try.func22, Try.ntmps22
  go_wp2_with fail
  refine HF.out.mono ?_
  rintro e w1 ⟨v, rfl, h1, h2⟩
  have H1 := Lib.hid h1
  have H2 := Lib.hid h2
  clear h1 h2
  go_wp2
  go_ret
  exact ⟨_, rfl, H1.out, H2.out⟩
end
/-- A slice of steps that was written out. -/
theorem Rd.litE (w : World) (t : TypeId) (E : List Ev) (h : E.length ≤ maxLen) : Rd (w.alloc (.cells (evs E).toArray t)) (fun k => k = w.heap.size) 2 (.slice (some ⟨w.heap.size, 0, none⟩) E.length E.length) E.length (evs E) :=
  ⟨_, _, rfl, h, length_evs E, fun _ => ⟨_, 0, rfl, rfl, by simp, fun j u hu => by rw [Nat.zero_add, World.cell?_alloc_new]; simpa using hu⟩⟩
/-- Two lists of steps are equal. -/
def sameEB (A B : List Ev) : Bool := decide (A = B)
theorem evs_at (E : List Ev) (k : Nat) (h : k < E.length) : (evs E)[2 * k]? = some (.int .i32 ((evAt E k).1 : Int)) ∧ (evs E)[2 * k + 1]? = some (.int .i32 ((evAt E k).2 : Int)) := by
  induction E generalizing k with
  | nil => simp at h
  | cons e E ih =>
    cases k with
    | zero => exact ⟨rfl, rfl⟩
    | succ k =>
      obtain ⟨h1, h2⟩ := ih k (by simpa using h)
      have e1 : evs (e :: E) = .int .i32 (e.1 : Int) :: .int .i32 (e.2 : Int) :: evs E := by simp [evs]
      have e2 : evAt (e :: E) (k + 1) = evAt E k := by simp [evAt]
      rw [e1, e2]
      exact ⟨h1, h2⟩
theorem evs_take_succ {A B : List Ev} {k : Nat} (h : A.take k = B.take k) (ha : k < A.length) (hb : k < B.length) (hx : evAt A k = evAt B k) : A.take (k + 1) = B.take (k + 1) := by
  rw [List.take_succ_eq_append_getElem ha, List.take_succ_eq_append_getElem hb, h]
  simp [evAt, List.getD, ha, hb] at hx
  rw [hx]
set_option maxHeartbeats 400000 in
theorem sameEvents_some (w : World) (b o c b2 o2 c2 n : Nat) (A B : List Ev) (ha : A.length = n) (hb : B.length = n) (hn : n ≤ maxLen)
    (hca : ∀ j u, (evs A)[j]? = some u → w.cell? ⟨b, o + j, none⟩ = some u) (hcb : ∀ j u, (evs B)[j]? = some u → w.cell? ⟨b2, o2 + j, none⟩ = some u) :
    Calls Try.prog 21 #[.slice (some ⟨b, o, none⟩) n c, .slice (some ⟨b2, o2, none⟩) n c2] w (BoolNew (sameEB A B) w) := by
  have HA := Lib.hid ha
  have HB := Lib.hid hb
  have HCA := Lib.hid hca
  have HCB := Lib.hid hcb
  clear ha hb hca hcb
  unfold maxLen at hn
  go_enter Try.func21, Try.ntmps21
  go_wp2
  go_loopw [5] (fun i wr => ∃ k : Nat, k ≤ n ∧ i = .int .i64 k ∧ Off Nob w wr ∧ (∀ ad, wr.cell? ad = w.cell? ad) ∧ A.take k = B.take k) (fun i _ => n - (intOf i).toNat)
  case atStart => exact ⟨0, Nat.zero_le _, rfl, Off.refl _ _, fun _ => rfl, rfl⟩
  case round =>
    obtain ⟨k, hk, rfl, ho, hcl, htk⟩ := hrel
    have HO := Lib.hid ho
    have HT := Lib.hid htk
    have HX := Lib.hid hcl
    by_cases hlt : k < n
    · have hka : k < A.length := by have := HA.out; omega
      have hkb : k < B.length := by have := HB.out; omega
      have hc1 : wr.cell? ⟨b, o + k * 2, none⟩ = some (.int .i32 ((evAt A k).1 : Int)) := by rw [hcl, Nat.mul_comm]; exact HCA.out _ _ (evs_at A k hka).1
      have hc2 : wr.cell? ⟨b, o + k * 2 + 1, none⟩ = some (.int .i32 ((evAt A k).2 : Int)) := by rw [hcl, Nat.mul_comm, Nat.add_assoc]; exact HCA.out _ _ (evs_at A k hka).2
      have hc3 : wr.cell? ⟨b2, o2 + k * 2, none⟩ = some (.int .i32 ((evAt B k).1 : Int)) := by rw [hcl, Nat.mul_comm]; exact HCB.out _ _ (evs_at B k hkb).1
      have hc4 : wr.cell? ⟨b2, o2 + k * 2 + 1, none⟩ = some (.int .i32 ((evAt B k).2 : Int)) := by rw [hcl, Nat.mul_comm, Nat.add_assoc]; exact HCB.out _ _ (evs_at B k hkb).2
      clear ho htk hcl
      by_cases hx : evAt A k = evAt B k
      · have HQ := Lib.hid (evs_take_succ HT.out hka hkb hx)
        rw [← hx] at hc3 hc4
        clear hx
        revert hc1 hc2 hc3 hc4
        generalize ((evAt A k).1 : Int) = a1
        generalize ((evAt A k).2 : Int) = a2
        intro hc1 hc2 hc3 hc4
        go_wp2
        go_quiet (fail)
        go_wp2
        go_roundw
        case rel => exact ⟨k + 1, by omega, by go_num, HO.out.drewN _, fun ad => HX.out ad, HQ.out⟩
        case measure => simp [intOf]; omega
      · have HF : Hid (sameEB A B = false) := by
          unfold sameEB
          rw [decide_eq_false_iff_not]
          exact fun h => hx (by rw [h])
        by_cases hx1 : (evAt A k).1 = (evAt B k).1
        · have hx2 : (evAt A k).2 ≠ (evAt B k).2 := fun h => hx (Prod.ext hx1 h)
          have hq : (((evAt A k).2 : Int) == ((evAt B k).2 : Int)) = false := by rw [beq_eq_false_iff_ne]; omega
          rw [← hx1] at hc3
          clear hx hx1 hx2
          revert hc1 hc2 hc3 hc4 hq
          generalize ((evAt A k).1 : Int) = a1
          generalize ((evAt A k).2 : Int) = a2
          generalize ((evAt B k).2 : Int) = a3
          intro hc1 hc2 hc3 hc4 hq
          go_wp2
          go_quiet (fail)
          go_wp2
          go_ret
          exact ⟨by rw [HF.out]; rfl, HO.out.drewN _⟩
        · have hq : (((evAt A k).1 : Int) == ((evAt B k).1 : Int)) = false := by rw [beq_eq_false_iff_ne]; omega
          clear hx hx1
          revert hc1 hc2 hc3 hc4 hq
          generalize ((evAt A k).1 : Int) = a1
          generalize ((evAt A k).2 : Int) = a2
          generalize ((evAt B k).1 : Int) = a3
          generalize ((evAt B k).2 : Int) = a4
          intro hc1 hc2 hc3 hc4 hq
          go_wp2
          go_quiet (fail)
          go_wp2
          go_ret
          exact ⟨by rw [HF.out]; rfl, HO.out.drewN _⟩
    · clear ho htk hcl
      have HF : Hid (sameEB A B = true) := by
        unfold sameEB
        rw [decide_eq_true_iff]
        have h1 := HT.out
        rwa [List.take_of_length_le (by have := HA.out; omega), List.take_of_length_le (by have := HB.out; omega)] at h1
      go_wp2
      go_ret
      exact ⟨by rw [HF.out]; rfl, HO.out⟩
theorem sameEvents_len (w : World) (X Y : Option Addr) (n m c d : Nat) (h : n ≠ m) :
    Calls Try.prog 21 #[.slice X n c, .slice Y m d] w (BoolNew false w) := by
  have hq : ((n : Int) != (m : Int)) = true := by rw [bne_iff_ne]; omega
  go_enter Try.func21, Try.ntmps21
  go_wp2
  go_ret
  exact ⟨rfl, Off.refl _ _⟩
theorem sameEvents_zero (w : World) (X Y : Option Addr) (c d : Nat) :
    Calls Try.prog 21 #[.slice X 0 c, .slice Y 0 d] w (BoolNew true w) := by
  go_enter Try.func21, Try.ntmps21
  go_wp2
  refine wp_loop_rounds 1 ?_
  rw [rounds_succ]
  go_wp2_with fail
  go_ret
  exact ⟨rfl, Off.refl _ _⟩
theorem sameEvents_any {w : World} {F G : Nat → Prop} {v u : Value} {n m : Nat} {A B : List Ev} (ha : Rd w F 2 v n (evs A)) (hb : Rd w G 2 u m (evs B)) :
    Calls Try.prog 21 #[v, u] w (BoolNew (sameEB A B) w) := by
  obtain ⟨X, c, rfl, hm1, hl1, hc1⟩ := ha
  obtain ⟨Y, d, rfl, hm2, hl2, hc2⟩ := hb
  rw [length_evs] at hl1 hl2
  by_cases hnm : n = m
  · subst hnm
    rcases Nat.eq_zero_or_pos n with h0 | h0
    · subst h0
      have e1 : A = [] := List.eq_nil_of_length_eq_zero (by omega)
      have e2 : B = [] := List.eq_nil_of_length_eq_zero (by omega)
      subst e1 e2
      exact sameEvents_zero w X Y c d
    · obtain ⟨b, o, rfl, _, hb, hx⟩ := hc1 h0
      obtain ⟨b2, o2, rfl, _, hb2, hx2⟩ := hc2 h0
      exact sameEvents_some w b o c b2 o2 d n A B (by omega) (by omega) hm1 hx hx2
  · have : sameEB A B = false := by
      unfold sameEB
      rw [decide_eq_false_iff_not]
      intro h
      subst h
      omega
    rw [this]
    exact sameEvents_len w X Y n m c d hnm
end Go.Proofs.Ytedbafgejladiaa

/-
  The specification's arena: Has, Room, Load, Cells, Since, Events.
-/
namespace Go.Proofs.Ytedbafgejladiaa
open Go.RowKit
set_option maxRecDepth 100000
theorem rnone_nil (w : World) :
    Calls Try.prog 96 #[.pointer none] w fun e w' => e = .returned (.bool true) ∧ w = w' := by
  go_enter Try.func96, Try.ntmps96
  go_wp2
  go_ret
  exact ⟨rfl, rfl⟩
section
variable {w : World} {F : Nat → Prop} {r : Nat} {C : List (BitVec 64)} {E : List Ev}
end
end Go.Proofs.Ytedbafgejladiaa

/-
  Lists of slots: their cells; dragnetref22.Same of equal ones.
-/
namespace Go.Proofs.Ytedbafgejladiaa
open Go.RowKit
set_option linter.unusedVariables false
set_option maxRecDepth 100000
/-- A slot: Valid, End, Rule. -/
abbrev Sl := BitVec 64 × BitVec 64 × BitVec 64
def slC (l : List Sl) : List Value := l.flatMap fun s => [.int .u64 (n64 s.1), .int .u64 (n64 s.2.1), .int .u64 (n64 s.2.2)]
def slV (s : Sl) : Value := .agg #[.int .u64 (n64 s.1), .int .u64 (n64 s.2.1), .int .u64 (n64 s.2.2)]
/-- The slot at a place. -/
def sl (l : List Sl) (k : Nat) : Sl := l.getD k (0#64, 0#64, 0#64)
theorem slC_len (l : List Sl) : (slC l).length = l.length * 3 := by
  induction l with
  | nil => rfl
  | cons m l ih => simp [slC] at ih ⊢; omega
theorem slC_append (l m : List Sl) : slC (l ++ m) = slC l ++ slC m := by simp [slC]
theorem slC_snoc (l : List Sl) (s : Sl) : slC (l ++ [s]) = slC l ++ [.int .u64 (n64 s.1), .int .u64 (n64 s.2.1), .int .u64 (n64 s.2.2)] := by simp [slC]
theorem slC_at (l : List Sl) (k : Nat) (h : k < l.length) : (slC l)[k * 3]? = some (.int .u64 (n64 (sl l k).1)) ∧ (slC l)[k * 3 + 1]? = some (.int .u64 (n64 (sl l k).2.1)) ∧ (slC l)[k * 3 + 2]? = some (.int .u64 (n64 (sl l k).2.2)) := by
  induction l generalizing k with
  | nil => simp at h
  | cons m l ih =>
    cases k with
    | zero => exact ⟨rfl, rfl, rfl⟩
    | succ k =>
      have := ih k (by simpa using h)
      have e : sl (m :: l) (k + 1) = sl l k := by simp [sl]
      rw [show slC (m :: l) = [.int .u64 (n64 m.1), .int .u64 (n64 m.2.1), .int .u64 (n64 m.2.2)] ++ slC l from rfl, e]
      rw [List.getElem?_append_right (by simp; omega), List.getElem?_append_right (by simp; omega), List.getElem?_append_right (by simp; omega)]
      simp only [List.length_cons, List.length_nil]
      rw [show (k + 1) * 3 - (0 + 1 + 1 + 1) = k * 3 by omega, show (k + 1) * 3 + 1 - (0 + 1 + 1 + 1) = k * 3 + 1 by omega, show (k + 1) * 3 + 2 - (0 + 1 + 1 + 1) = k * 3 + 2 by omega]
      exact this
theorem slC_set (l : List Sl) (k : Nat) (s : Sl) : (((slC l).set (k * 3) (.int .u64 (n64 s.1))).set (k * 3 + 1) (.int .u64 (n64 s.2.1))).set (k * 3 + 2) (.int .u64 (n64 s.2.2)) = slC (l.set k s) := by
  induction l generalizing k with
  | nil => rfl
  | cons m l ih =>
    cases k with
    | zero => rfl
    | succ k =>
      have := ih k
      rw [show (k + 1) * 3 = k * 3 + 3 by omega, List.set_cons_succ, show slC (m :: l) = .int .u64 (n64 m.1) :: .int .u64 (n64 m.2.1) :: .int .u64 (n64 m.2.2) :: slC l from rfl]
      rw [show slC (m :: l.set k s) = .int .u64 (n64 m.1) :: .int .u64 (n64 m.2.1) :: .int .u64 (n64 m.2.2) :: slC (l.set k s) from rfl, ← this]
      rw [show k * 3 + 3 + 1 = k * 3 + 1 + 1 + 1 + 1 by omega, show k * 3 + 3 + 2 = k * 3 + 2 + 1 + 1 + 1 by omega, show k * 3 + 3 = k * 3 + 1 + 1 + 1 by omega]
      simp only [List.set_cons_succ]
theorem slC_one (l : List Sl) : ∀ u ∈ slC l, u.oneCell' = true := by
  intro u hu
  unfold slC at hu
  obtain ⟨s, _, hs⟩ := List.mem_flatMap.1 hu
  simp at hs
  rcases hs with rfl | rfl | rfl <;> rfl
theorem slC_replicate (n : Nat) : slC (List.replicate n (0#64, 0#64, 0#64)) = List.replicate (n * 3) (.int .u64 0) := by
  induction n with
  | zero => rfl
  | succ n ih =>
    rw [List.replicate_succ, show slC ((0#64, 0#64, 0#64) :: List.replicate n (0#64, 0#64, 0#64)) = [.int .u64 0, .int .u64 0, .int .u64 0] ++ slC (List.replicate n (0#64, 0#64, 0#64)) from rfl, ih, show (n + 1) * 3 = 3 + n * 3 by omega, ← List.replicate_append_replicate]
    rfl
theorem Try.infoSl : (Try.prog.info? 47).map (fun i => (i.zero, i.size, i.bytes)) = some (some (.agg #[.int .u64 0, .int .u64 0, .int .u64 0]), 3, 24) := by kernel_rfl
/-- The cells of a list that is read. -/
theorem Rd.slot {w : World} {F : Nat → Prop} {b o n c : Nat} {L : List Sl} (hc : ∀ j u, (slC L)[j]? = some u → w.cell? ⟨b, o + j, none⟩ = some u) (k : Nat) (hk : k < L.length) :
    w.cell? ⟨b, o + k * 3, none⟩ = some (.int .u64 (n64 (sl L k).1)) ∧ w.cell? ⟨b, o + k * 3 + 1, none⟩ = some (.int .u64 (n64 (sl L k).2.1)) ∧ w.cell? ⟨b, o + k * 3 + 2, none⟩ = some (.int .u64 (n64 (sl L k).2.2)) :=
  ⟨hc _ _ (slC_at L k hk).1, hc _ _ (slC_at L k hk).2.1, hc _ _ (slC_at L k hk).2.2⟩
set_option maxHeartbeats 400000 in
theorem sameSl_some (w : World) (b o c b2 o2 c2 n : Nat) (A : List Sl) (ha : A.length = n) (hn : n ≤ maxLen)
    (hca : ∀ j u, (slC A)[j]? = some u → w.cell? ⟨b, o + j, none⟩ = some u) (hcb : ∀ j u, (slC A)[j]? = some u → w.cell? ⟨b2, o2 + j, none⟩ = some u) :
    Calls Try.prog 16 #[.slice (some ⟨b, o, none⟩) n c, .slice (some ⟨b2, o2, none⟩) n c2] w (BoolNew true w) := by
  have HA := Lib.hid ha
  have HCA := Lib.hid hca
  have HCB := Lib.hid hcb
  clear ha hca hcb
  unfold maxLen at hn
  go_enter Try.func16, Try.ntmps16
  go_wp2
  go_loopw [5] (fun i wr => ∃ k : Nat, k ≤ n ∧ i = .int .i64 k ∧ Off Nob w wr ∧ (∀ ad, wr.cell? ad = w.cell? ad)) (fun i _ => n - (intOf i).toNat)
  case atStart => exact ⟨0, Nat.zero_le _, rfl, Off.refl _ _, fun _ => rfl⟩
  case round =>
    obtain ⟨k, hk, rfl, ho, hcl⟩ := hrel
    have HO := Lib.hid ho
    have HX := Lib.hid hcl
    by_cases hlt : k < n
    · obtain ⟨hc1, hc2, hc3⟩ := Rd.slot (F := Nob) (n := n) (c := c) HCA.out k (by have := HA.out; omega)
      obtain ⟨hd1, hd2, hd3⟩ := Rd.slot (F := Nob) (n := n) (c := c) HCB.out k (by have := HA.out; omega)
      rw [← hcl] at hc1 hc2 hc3 hd1 hd2 hd3
      clear ho hcl
      revert hc1 hc2 hc3 hd1 hd2 hd3
      generalize n64 (sl A k).1 = a1
      generalize n64 (sl A k).2.1 = a2
      generalize n64 (sl A k).2.2 = a3
      intro hc1 hc2 hc3 hd1 hd2 hd3
      go_wp2
      go_quiet (fail)
      go_wp2
      go_roundw
      case rel => exact ⟨k + 1, by omega, by go_num, HO.out.drewN _, fun ad => HX.out ad⟩
      case measure => simp [intOf]; omega
    · clear ho hcl
      go_wp2
      go_ret
      exact ⟨rfl, HO.out⟩
theorem sameSl_zero (w : World) (X Y : Option Addr) (c d : Nat) :
    Calls Try.prog 16 #[.slice X 0 c, .slice Y 0 d] w (BoolNew true w) := by
  go_enter Try.func16, Try.ntmps16
  go_wp2
  refine wp_loop_rounds 1 ?_
  rw [rounds_succ]
  go_wp2_with fail
  go_ret
  exact ⟨rfl, Off.refl _ _⟩
theorem sameSl_eq {w : World} {F G : Nat → Prop} {v u : Value} {n : Nat} {A : List Sl} (ha : Rd w F 3 v n (slC A)) (hb : Rd w G 3 u n (slC A)) :
    Calls Try.prog 16 #[v, u] w (BoolNew true w) := by
  obtain ⟨X, c, rfl, hm1, hl1, hc1⟩ := ha
  obtain ⟨Y, d, rfl, hm2, hl2, hc2⟩ := hb
  rw [slC_len] at hl1
  rcases Nat.eq_zero_or_pos n with h0 | h0
  · subst h0
    exact sameSl_zero w X Y c d
  · obtain ⟨b, o, rfl, _, hb, hx⟩ := hc1 h0
    obtain ⟨b2, o2, rfl, _, hb2, hx2⟩ := hc2 h0
    exact sameSl_some w b o c b2 o2 d n A (by omega) hm1 hx hx2
end Go.Proofs.Ytedbafgejladiaa

/-
  What the functions of package slots do to an arena, in plain Lean.
-/
namespace Go.Proofs.Ytedbafgejladiaa
open Go.RowKit
set_option linter.unusedVariables false
/-- Cells and steps. -/
abbrev SlSt := List (BitVec 64) × List Ev
/-- A slot is written. -/
def stS (s : SlSt) (x : Nat) (v : Sl) : SlSt := (((s.1.set x v.1).set (x + 1) v.2.1).set (x + 2) v.2.2, ((s.2 ++ [(2, x)]) ++ [(2, x + 1)]) ++ [(2, x + 2)])
theorem stS_len (s : SlSt) (x : Nat) (v : Sl) : (stS s x v).1.length = s.1.length ∧ (stS s x v).2.length = s.2.length + 3 := by
  unfold stS; simp
/-- Slots are written in a row. -/
def wrS (base : Nat) (L : Nat → Sl) (s : SlSt) : Nat → SlSt
  | 0 => s
  | k + 1 => stS (wrS base L s k) (base + 3 * k) (L k)
theorem wrS_len (base : Nat) (L : Nat → Sl) (s : SlSt) (k : Nat) : (wrS base L s k).1.length = s.1.length ∧ (wrS base L s k).2.length = s.2.length + 3 * k := by
  induction k with
  | zero => exact ⟨rfl, rfl⟩
  | succ k ih =>
    obtain ⟨h1, h2⟩ := stS_len (wrS base L s k) (base + 3 * k) (L k)
    exact ⟨h1.trans ih.1, by show (stS _ _ _).2.length = _; rw [h2, ih.2]; omega⟩
/-- An empty slot. -/
def sl0 : Sl := (0#64, 0#64, 0#64)
/-- The slot of a rule: valid if m is set and the hit's bit is. -/
def fiV (b : Bool) (e : BitVec 64) (r : Nat) (v : BitVec 64) : Sl :=
  if b && decide (v.toNat % 2 = 1) then (msk true, e, BitVec.ofNat 64 r) else (0#64, 0#64, 0#64)
/-- The slots of a byte are written. -/
def fiS (hits first : Nat) (b : Bool) (e : BitVec 64) (s : SlSt) : Nat → SlSt
  | 0 => s
  | r + 1 => stS ((fiS hits first b e s r).1, (fiS hits first b e s r).2 ++ [(1, hits + r)]) (first + 3 * r) (fiV b e r (cl (fiS hits first b e s r).1 (hits + r)))
theorem fiS_len (hits first : Nat) (b : Bool) (e : BitVec 64) (s : SlSt) (k : Nat) : (fiS hits first b e s k).1.length = s.1.length ∧ (fiS hits first b e s k).2.length = s.2.length + 4 * k := by
  induction k with
  | zero => exact ⟨rfl, rfl⟩
  | succ k ih =>
    obtain ⟨h1, h2⟩ := stS_len ((fiS hits first b e s k).1, (fiS hits first b e s k).2 ++ [(1, hits + k)]) (first + 3 * k) (fiV b e k (cl (fiS hits first b e s k).1 (hits + k)))
    exact ⟨h1.trans ih.1, by show (stS _ _ _).2.length = _; rw [h2, List.length_append, ih.2]; simp; omega⟩
/-- A slot is read. -/
def rdV (C : List (BitVec 64)) (x : Nat) : Sl := (cl C x, cl C (x + 1), cl C (x + 2))
def rdL (base : Nat) (C : List (BitVec 64)) (n : Nat) : List Sl := (List.range n).map fun i => rdV C (base + 3 * i)
def rdE (base : Nat) (E : List Ev) : Nat → List Ev
  | 0 => E
  | k + 1 => ((rdE base E k ++ [(1, base + 3 * k)]) ++ [(1, base + 3 * k + 1)]) ++ [(1, base + 3 * k + 2)]
theorem rdL_len (base : Nat) (C : List (BitVec 64)) (n : Nat) : (rdL base C n).length = n := by simp [rdL]
theorem rdE_len (base : Nat) (E : List Ev) (k : Nat) : (rdE base E k).length = E.length + 3 * k := by
  induction k with
  | zero => rfl
  | succ k ih => unfold rdE; simp [ih]; omega
theorem rdL_succ (base : Nat) (C : List (BitVec 64)) (n : Nat) : rdL base C (n + 1) = rdL base C n ++ [rdV C (base + 3 * n)] := by simp [rdL, List.range_succ]
/-- A list in the making: the first k slots, then empty ones. -/
def rdM (base : Nat) (C : List (BitVec 64)) (n k : Nat) : List Sl := rdL base C k ++ List.replicate (n - k) sl0
theorem rdM_len (base : Nat) (C : List (BitVec 64)) (n k : Nat) (h : k ≤ n) : (rdM base C n k).length = n := by simp [rdM, rdL_len]; omega
theorem rdM_zero (base : Nat) (C : List (BitVec 64)) (n : Nat) : rdM base C n 0 = List.replicate n sl0 := by simp [rdM, rdL]
theorem rdM_all (base : Nat) (C : List (BitVec 64)) (n : Nat) : rdM base C n n = rdL base C n := by simp [rdM]
theorem rdM_set (base : Nat) (C : List (BitVec 64)) (n k : Nat) (h : k < n) : (rdM base C n k).set k (rdV C (base + 3 * k)) = rdM base C n (k + 1) := by
  unfold rdM
  rw [List.set_append_right _ _ (by rw [rdL_len]; omega), rdL_len, rdL_succ, List.append_assoc]
  congr 1
  rw [Nat.sub_self]
  obtain ⟨m, hm⟩ : ∃ m, n - k = m + 1 := ⟨n - k - 1, by omega⟩
  rw [hm, show n - (k + 1) = m by omega]
  rfl
/-- The same, over a list of places. -/
def wrL (base : Nat) (L : Nat → Sl) (s : SlSt) (l : List Nat) : SlSt := l.foldl (fun s i => stS s (base + 3 * i) (L i)) s
theorem wrL_snoc (base : Nat) (L : Nat → Sl) (s : SlSt) (l : List Nat) (i : Nat) : wrL base L s (l ++ [i]) = stS (wrL base L s l) (base + 3 * i) (L i) := by unfold wrL; rw [List.foldl_append]; rfl
theorem wrL_len (base : Nat) (L : Nat → Sl) (s : SlSt) (l : List Nat) : (wrL base L s l).1.length = s.1.length ∧ (wrL base L s l).2.length = s.2.length + 3 * l.length := by
  induction l generalizing s with
  | nil => exact ⟨rfl, rfl⟩
  | cons i l ih =>
    obtain ⟨h1, h2⟩ := ih (stS s (base + 3 * i) (L i))
    obtain ⟨h3, h4⟩ := stS_len s (base + 3 * i) (L i)
    exact ⟨h1.trans h3, by show (wrL base L (stS s (base + 3 * i) (L i)) l).2.length = _; rw [h2, h4, List.length_cons]; omega⟩
theorem wrL_range (base : Nat) (L : Nat → Sl) (s : SlSt) (n : Nat) : wrL base L s (List.range n) = wrS base L s n := by
  induction n with
  | zero => rfl
  | succ n ih => rw [List.range_succ, wrL_snoc, ih]; rfl
/-- Slots are read into a list, over a list of places. -/
def rdP (base : Nat) (C : List (BitVec 64)) (s : List Sl × List Ev) (i : Nat) : List Sl × List Ev := (s.1.set i (rdV C (base + 3 * i)), ((s.2 ++ [(1, base + 3 * i)]) ++ [(1, base + 3 * i + 1)]) ++ [(1, base + 3 * i + 2)])
def rdF (base : Nat) (C : List (BitVec 64)) (s : List Sl × List Ev) (l : List Nat) : List Sl × List Ev := l.foldl (rdP base C) s
theorem rdF_snoc (base : Nat) (C : List (BitVec 64)) (s : List Sl × List Ev) (l : List Nat) (i : Nat) : rdF base C s (l ++ [i]) = rdP base C (rdF base C s l) i := by unfold rdF; rw [List.foldl_append]; rfl
theorem rdF_len (base : Nat) (C : List (BitVec 64)) (s : List Sl × List Ev) (l : List Nat) : (rdF base C s l).1.length = s.1.length ∧ (rdF base C s l).2.length = s.2.length + 3 * l.length := by
  induction l generalizing s with
  | nil => exact ⟨rfl, rfl⟩
  | cons i l ih =>
    obtain ⟨h1, h2⟩ := ih (rdP base C s i)
    refine ⟨h1.trans (by unfold rdP; simp), ?_⟩
    show (rdF base C (rdP base C s i) l).2.length = _
    rw [h2]; unfold rdP; simp; omega
theorem rdF_range (base : Nat) (C : List (BitVec 64)) (n k : Nat) (E : List Ev) (h : k ≤ n) : rdF base C (List.replicate n sl0, E) (List.range k) = (rdM base C n k, rdE base E k) := by
  induction k with
  | zero => rw [rdM_zero]; rfl
  | succ k ih =>
    rw [List.range_succ, rdF_snoc, ih (by omega)]
    unfold rdP
    rw [rdM_set _ _ _ _ (by omega)]
    rfl
/-- The error of a row. -/
def ckS (nC nE : Nat) (base n : Int) : Int := if n < 1 ∨ 288 < n then 7 else if hasE nC base (3 * n) = 0 then roomE nE (3 * n) else hasE nC base (3 * n)
theorem hasE_cases (n : Nat) (x k : Int) : (hasE n x k = 0 ∧ 0 ≤ x ∧ 0 ≤ k ∧ x + k ≤ n) ∨ (hasE n x k = 7 ∧ ¬ (0 ≤ x ∧ 0 ≤ k ∧ x + k ≤ n)) := by
  unfold hasE
  split
  · exact .inr ⟨rfl, by omega⟩
  · exact .inl ⟨rfl, by omega⟩
theorem roomE_zero {n : Nat} {s : Int} (h : roomE n s = 0) : 0 ≤ s ∧ n + s ≤ 8388608 := by
  unfold roomE at h
  split at h
  · cases h
  · split at h
    · cases h
    · omega
theorem ckS_zero {nC nE : Nat} {base n : Int} (h : ckS nC nE base n = 0) : 1 ≤ n ∧ n ≤ 288 ∧ 0 ≤ base ∧ base + 3 * n ≤ nC ∧ nE + 3 * n ≤ 8388608 := by
  unfold ckS at h
  split at h
  · cases h
  · rename_i h1
    rcases hasE_cases nC base (3 * n) with ⟨a, b⟩ | ⟨a, b⟩
    · rw [if_pos a] at h
      have := roomE_zero h
      omega
    · rw [if_neg (by rw [a]; decide), a] at h; cases h
theorem ckS_ok {nC nE : Nat} {base n : Int} (h : 1 ≤ n ∧ n ≤ 288 ∧ 0 ≤ base ∧ base + 3 * n ≤ nC ∧ nE + 3 * n ≤ 8388608) : ckS nC nE base n = 0 := by
  obtain ⟨h1, h2, h3, h4, h5⟩ := h
  unfold ckS
  rw [if_neg (by omega)]
  have e : hasE nC base (3 * n) = 0 := by unfold hasE; rw [if_neg (by omega)]
  rw [if_pos e]
  unfold roomE
  rw [if_neg (by omega), if_neg (by omega)]
/-- The error of Fill, whose mask is one or none. -/
def fiE (nC nE : Nat) (base hits p byte : Int) (im : Bool) : Int :=
  if p < 1 ∨ 16 < p ∨ byte < 0 ∨ 15 < byte ∨ base < 0 ∨ 65536 < base then 7 else if im = false then 2 else
  if hasE nC hits p = 0 then (if hasE nC (base + 3 * p * byte) (3 * p) = 0 then (if hits < base + 3 * p * byte + 3 * p ∧ base + 3 * p * byte < hits + p then 2 else roomE nE (4 * p)) else hasE nC (base + 3 * p * byte) (3 * p)) else hasE nC hits p
end Go.Proofs.Ytedbafgejladiaa

