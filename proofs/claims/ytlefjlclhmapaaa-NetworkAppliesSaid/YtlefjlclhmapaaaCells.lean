/-
  The values of an arena's cells as a slice (Clone, Cells), and dragnetlaw07.SameCells.
-/
import Derived.Test.YtlefjlclhmapaaaArena
namespace Go.Proofs.Ytlefjlclhmapaaa
open Go.RowKit
set_option maxRecDepth 100000

/-- A new slice of numbers. -/
def NewU (w : World) (C : List (BitVec 64)) (e : Ending) (w' : World) : Prop := ∃ v, e = .returned v ∧ w'.ownsRow w.heap.size 39 1 v C.length (u64s C) ∧ Off Nob w w'
theorem NewU.rd {w w' : World} {C : List (BitVec 64)} {v : Value} (h : w'.ownsRow w.heap.size 39 1 v C.length (u64s C)) : Rd w' (fun k => w.heap.size ≤ k ∧ k < w'.heap.size) 1 v C.length (u64s C) := Rd.own h fun k hk => h.lt k hk

theorem u64s_one (C : List (BitVec 64)) : ∀ u ∈ u64s C, u.oneCell' = true := by
  intro u hu
  simp [u64s] at hu
  obtain ⟨x, _, rfl⟩ := hu
  rfl

set_option maxHeartbeats 400000 in
theorem clone_ok (w : World) (b o n c : Nat) (C : List (BitVec 64)) (hn : C.length = n) (hn1 : n ≤ 65536) (hb : b < w.heap.size)
    (hc : ∀ j u, (u64s C)[j]? = some u → w.cell? ⟨b, o + j, none⟩ = some u) :
    Calls Try.prog 55 #[.slice (some ⟨b, o, none⟩) n c] w (NewU w C) := by
  obtain ⟨i0, hi, hz0, hz1, hz2⟩ := info_parts Try.infoU
  have HC := Lib.hid hc
  have HL := Lib.hid hn
  clear hc hn
  have hq : ∀ w : World, (binOp .eql 58 (.slice (some ⟨b, o, none⟩) n c) (.slice none 0 0)).run Try.prog w = .ok (.bool false) w := fun _ => by kernel_rfl
  go_enter Try.func55, Try.ntmps55
  go_wp2_with (at_builtin; refine wpList_append_own_at _ rfl _ _ 58 rfl w.heap.size 39 i0 (.int .u64 0) 1 8 Try.underlying58 hi hz0 hz1 hz2 rfl (by decide) (.slice (some ⟨w.heap.size, 0, none⟩) 0 0) 0 [] rfl ?c0 ⟨b, o, none⟩ n c (u64s C) rfl ?c6 ?c1 ?c2 ?c3 ?c4 ?c5 ?_)
  case c0 => exact World.ownsRow_made w #[] 0 (Nat.le_refl _) (Nat.zero_le _) rfl
  case c6 => rw [length_u64s, HL.out]; omega
  case c1 => intro j u hu; rw [add_addr, World.cell?_alloc_lt _ _ _ hb]; exact HC.out j u hu
  case c2 => exact u64s_one C
  case c3 => unfold maxLen; omega
  case c4 => omega
  case c5 => simp
  intro v' w1 hown' hgrow hnil hat
  have HR : Hid (w1.ownsRow w.heap.size 39 1 v' C.length (u64s C)) := by
    rw [HL.out]; exact hown'
  have HO : Hid (Off Nob w w1) := Off.grown (Off.alloc (Off.refl _ _) _) hgrow (fun k hk => by simp [Value.ownBlock] at hk; right; omega)
  clear hown' hgrow hnil hat
  go_wp2
  go_ret
  exact ⟨_, rfl, HR.out, HO.out⟩

section
variable {w : World} {F : Nat → Prop} {p : Nat} {C : List (BitVec 64)} {E : List Ev}
theorem cells_ok (h : Ar w F p C E) : Calls Try.prog 29 #[.pointer (some ⟨p, 0, none⟩)] w (NewU w C) := by
  have HN := Lib.hid (none_ok h)
  have h2 := h.n2
  obtain ⟨cb, pv, ps, rg, hpl, h⟩ := h
  have HC := Lib.hid (clone_ok w cb 0 C.length C.length C rfl h2 h.cel.lt (fun j u hu => by rw [Nat.zero_add, h.cel.cell]; simpa using hu))
  have c2 := h.top.cell 2
  simp only [List.getElem?_toArray, List.getElem?_cons_succ, List.getElem?_cons_zero] at c2
  clear h hpl h2
  go_enter Try.func29, Try.ntmps29
  go_wp2_with fail
  refine HN.out.mono ?_
  rintro e w' ⟨rfl, rfl⟩
  go_wp2_with fail
  refine HC.out.mono ?_
  rintro e w' ⟨v, rfl, h1, h2⟩
  have H1 := Lib.hid h1
  have H2 := Lib.hid h2
  clear h1 h2
  go_wp2
  go_ret
  exact ⟨_, rfl, H1.out, H2.out⟩
end

/-- Two lists of numbers are equal. -/
def sameB (A B : List (BitVec 64)) : Bool := decide (A = B)
def BoolNew (b : Bool) (w : World) (e : Ending) (w' : World) : Prop := e = .returned (.bool b) ∧ Off Nob w w'
theorem eq_take_succ {A B : List (BitVec 64)} {k : Nat} (h : A.take k = B.take k) (ha : k < A.length) (hb : k < B.length) (hx : cl A k = cl B k) : A.take (k + 1) = B.take (k + 1) := by
  rw [List.take_succ_eq_append_getElem ha, List.take_succ_eq_append_getElem hb, h]
  simp [cl, List.getD, ha, hb] at hx
  rw [hx]

set_option maxHeartbeats 400000 in
theorem sameCells_some (w : World) (b o c b2 o2 c2 n : Nat) (A B : List (BitVec 64)) (ha : A.length = n) (hb : B.length = n) (hn : n ≤ maxLen)
    (hca : ∀ j u, (u64s A)[j]? = some u → w.cell? ⟨b, o + j, none⟩ = some u) (hcb : ∀ j u, (u64s B)[j]? = some u → w.cell? ⟨b2, o2 + j, none⟩ = some u) :
    Calls Try.prog 28 #[.slice (some ⟨b, o, none⟩) n c, .slice (some ⟨b2, o2, none⟩) n c2] w (BoolNew (sameB A B) w) := by
  have HA := Lib.hid ha
  have HB := Lib.hid hb
  have HCA := Lib.hid hca
  have HCB := Lib.hid hcb
  clear ha hb hca hcb
  unfold maxLen at hn
  go_enter Try.func28, Try.ntmps28
  go_wp2
  go_loopw [5] (fun i wr => ∃ k : Nat, k ≤ n ∧ i = .int .i64 k ∧ Off Nob w wr ∧ (∀ ad, wr.cell? ad = w.cell? ad) ∧ A.take k = B.take k) (fun i _ => n - (intOf i).toNat)
  case atStart => exact ⟨0, Nat.zero_le _, rfl, Off.refl _ _, fun _ => rfl, rfl⟩
  case round =>
    obtain ⟨k, hk, rfl, ho, hcl, htk⟩ := hrel
    have HO := Lib.hid ho
    have HT := Lib.hid htk
    have HX := Lib.hid hcl
    by_cases hlt : k < n
    · have hka : k < A.length := by have := HA.out; omega
      have hkb : k < B.length := by have := HB.out; omega
      have hc1 : wr.cell? ⟨b, o + k, none⟩ = some (.int .u64 (n64 (cl A k))) := by rw [hcl]; exact HCA.out k _ (getElem_u64s _ _ hka)
      have hc2 : wr.cell? ⟨b2, o2 + k, none⟩ = some (.int .u64 (n64 (cl B k))) := by rw [hcl]; exact HCB.out k _ (getElem_u64s _ _ hkb)
      clear ho htk hcl
      by_cases hx : cl A k = cl B k
      · have hq : (n64 (cl A k) == n64 (cl B k)) = true := by rw [hx]; simp
        have hq2 : (n64 (cl A k) != n64 (cl B k)) = false := by rw [hx]; simp
        have HQ := Lib.hid (eq_take_succ HT.out hka hkb hx)
        have HE := Lib.hid hx
        clear hx
        go_wp2
        go_quiet (fail)
        go_wp2
        go_roundw
        case rel => exact ⟨k + 1, by omega, by go_num, HO.out.drewN _, fun ad => HX.out ad, HQ.out⟩
        case measure => simp [intOf]; omega
      · have hq2 : (n64 (cl A k) != n64 (cl B k)) = true := by rw [bne_iff_ne]; exact fun h => hx (n64_inj h)
        have HF : Hid (sameB A B = false) := by
          unfold sameB
          rw [decide_eq_false_iff_not]
          exact fun h => hx (by rw [h])
        clear hx
        go_wp2
        go_quiet (fail)
        go_wp2
        go_ret
        exact ⟨by rw [HF.out]; rfl, HO.out.drewN _⟩
    · clear ho htk hcl
      have HF : Hid (sameB A B = true) := by
        unfold sameB
        rw [decide_eq_true_iff]
        have h1 := HT.out
        rwa [List.take_of_length_le (by have := HA.out; omega), List.take_of_length_le (by have := HB.out; omega)] at h1
      go_wp2
      go_ret
      exact ⟨by rw [HF.out]; rfl, HO.out⟩
theorem sameCells_len (w : World) (X Y : Option Addr) (n m c d : Nat) (h : n ≠ m) :
    Calls Try.prog 28 #[.slice X n c, .slice Y m d] w (BoolNew false w) := by
  have hq : ((n : Int) != (m : Int)) = true := by rw [bne_iff_ne]; omega
  go_enter Try.func28, Try.ntmps28
  go_wp2
  go_ret
  exact ⟨rfl, Off.refl _ _⟩
theorem sameCells_zero (w : World) (X Y : Option Addr) (c d : Nat) :
    Calls Try.prog 28 #[.slice X 0 c, .slice Y 0 d] w (BoolNew true w) := by
  go_enter Try.func28, Try.ntmps28
  go_wp2
  refine wp_loop_rounds 1 ?_
  rw [rounds_succ]
  go_wp2_with fail
  go_ret
  exact ⟨rfl, Off.refl _ _⟩
theorem sameCells_any {w : World} {F G : Nat → Prop} {v u : Value} {n m : Nat} {A B : List (BitVec 64)} (ha : Rd w F 1 v n (u64s A)) (hb : Rd w G 1 u m (u64s B)) :
    Calls Try.prog 28 #[v, u] w (BoolNew (sameB A B) w) := by
  obtain ⟨X, c, rfl, hm1, hl1, hc1⟩ := ha
  obtain ⟨Y, d, rfl, hm2, hl2, hc2⟩ := hb
  rw [length_u64s, Nat.mul_one] at hl1 hl2
  by_cases hnm : n = m
  · subst hnm
    rcases Nat.eq_zero_or_pos n with h0 | h0
    · subst h0
      have e1 : A = [] := List.eq_nil_of_length_eq_zero hl1
      have e2 : B = [] := List.eq_nil_of_length_eq_zero hl2
      subst e1 e2
      exact sameCells_zero w X Y c d
    · obtain ⟨b, o, rfl, _, hb, hx⟩ := hc1 h0
      obtain ⟨b2, o2, rfl, _, hb2, hx2⟩ := hc2 h0
      exact sameCells_some w b o c b2 o2 d n A B hl1 hl2 hm1 hx hx2
  · have : sameB A B = false := by
      unfold sameB
      rw [decide_eq_false_iff_not]
      intro h
      subst h
      omega
    rw [this]
    exact sameCells_len w X Y n m c d hnm
end Go.Proofs.Ytlefjlclhmapaaa
