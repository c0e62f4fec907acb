import Derived.Test.YtedbafgejladiaaCompMeet
import Derived.Test.YtedbafgejladiaaNetRoute
import Derived.Deep.RegionHeld3
/-
  compact.check: what is wrong with a layout.
-/
namespace Go.Proofs.Ytedbafgejladiaa
open Go.RowKit
set_option linter.unusedVariables false
set_option maxRecDepth 100000
/-- The first error of Has. -/
def hasL (nC : Nat) : List Prt → Int
  | [] => 0
  | q :: l => if hasE nC q.1 q.2 = 0 then hasL nC l else hasE nC q.1 q.2
/-- Do two parts meet? -/
def meL (L : List Prt) : Bool := (List.range L.length).any fun i => anyM (pt L i) L i
def cpL (s r d f k n : Int) : List Prt := [(s, 3 * (k + n)), (r, k + n), (d, 1), (f, 1)]
def cpE (nC nE : Nat) (s r d f k n : Int) : Int :=
  if k < 1 ∨ 32 < k ∨ n < 1 ∨ 256 < n then 7 else if hasL nC (cpL s r d f k n) = 0 then (if meL (cpL s r d f k n) then 2 else roomE nE (cpN (k + n).toNat : Nat)) else hasL nC (cpL s r d f k n)
theorem hasL_first (nC : Nat) (L : List Prt) (j : Nat) (hj : j < L.length) (h : ∀ i, i < j → hasE nC (pt L i).1 (pt L i).2 = 0) (hz : hasE nC (pt L j).1 (pt L j).2 ≠ 0) : hasL nC L = hasE nC (pt L j).1 (pt L j).2 := by
  induction L generalizing j with
  | nil => simp at hj
  | cons q l ih =>
    cases j with
    | zero =>
      show (if hasE nC q.1 q.2 = 0 then _ else hasE nC q.1 q.2) = _
      rw [if_neg (by exact hz)]
      rfl
    | succ j =>
      show (if hasE nC q.1 q.2 = 0 then hasL nC l else _) = _
      rw [if_pos (by exact h 0 (by omega))]
      exact ih j (by simpa using hj) (fun i hi => by have := h (i + 1) (by omega); exact this) hz
theorem hasL_none (nC : Nat) (L : List Prt) (h : ∀ i, i < L.length → hasE nC (pt L i).1 (pt L i).2 = 0) : hasL nC L = 0 := by
  induction L with
  | nil => rfl
  | cons q l ih =>
    show (if hasE nC q.1 q.2 = 0 then hasL nC l else _) = _
    rw [if_pos (by exact h 0 (by simp))]
    exact ih (fun i hi => by have := h (i + 1) (by simpa using hi); exact this)
theorem meL_yes (L : List Prt) (j : Nat) (hj : j < L.length) (h : anyM (pt L j) L j = true) : meL L = true := by
  unfold meL
  rw [List.any_eq_true]
  exact ⟨j, List.mem_range.2 hj, h⟩
theorem meL_no (L : List Prt) (h : ∀ i, i < L.length → anyM (pt L i) L i = false) : meL L = false := by
  unfold meL
  rw [List.any_eq_false]
  intro x hx
  rw [h x (List.mem_range.1 hx)]
  simp
theorem idx_0 (a b c d e f g h : Int) (w : World) : (Instr.index 118 (.agg #[.int .i64 a, .int .i64 b, .int .i64 c, .int .i64 d, .int .i64 e, .int .i64 f, .int .i64 g, .int .i64 h]) (.int .i64 0)).run Try.prog w = .ok (.agg #[.int .i64 a, .int .i64 b]) w := by kernel_rfl
theorem idx_1 (a b c d e f g h : Int) (w : World) : (Instr.index 118 (.agg #[.int .i64 a, .int .i64 b, .int .i64 c, .int .i64 d, .int .i64 e, .int .i64 f, .int .i64 g, .int .i64 h]) (.int .i64 1)).run Try.prog w = .ok (.agg #[.int .i64 c, .int .i64 d]) w := by kernel_rfl
theorem idx_2 (a b c d e f g h : Int) (w : World) : (Instr.index 118 (.agg #[.int .i64 a, .int .i64 b, .int .i64 c, .int .i64 d, .int .i64 e, .int .i64 f, .int .i64 g, .int .i64 h]) (.int .i64 2)).run Try.prog w = .ok (.agg #[.int .i64 e, .int .i64 f]) w := by kernel_rfl
theorem idx_3 (a b c d e f g h : Int) (w : World) : (Instr.index 118 (.agg #[.int .i64 a, .int .i64 b, .int .i64 c, .int .i64 d, .int .i64 e, .int .i64 f, .int .i64 g, .int .i64 h]) (.int .i64 3)).run Try.prog w = .ok (.agg #[.int .i64 g, .int .i64 h]) w := by kernel_rfl
attribute [local go_sem] idx_0 idx_1 idx_2 idx_3
section
variable {w : World} {F : Nat → Prop} {p : Nat} {C : List (BitVec 64)} {E : List Ev}
theorem cpck_bad (q : Value) (s r d f k n : Int) (hb : k < 1 ∨ 32 < k ∨ n < 1 ∨ 256 < n) (w : World) :
    Calls Try.prog 31 #[q, .agg #[.int .i64 s, .int .i64 r, .int .i64 d, .int .i64 f], .int .i64 k, .int .i64 n] w fun e w' => e = .returned (.int .i64 7) ∧ Off Nob w w' := by
  have HS := Lib.hid (fun w => csteps_bad k n hb w)
  clear hb
  go_enter Try.func31, Try.ntmps31
  go_wp2_with fail
  refine (HS.out _).mono ?_
  rintro e w' ⟨rfl, rfl⟩
  go_wp2_with fail
  go_ret
  exact ⟨rfl, Off.alloc (Off.refl _ _) _⟩
set_option maxHeartbeats 4000000 in
theorem cpck_ok (h : Ar w F p C E) (s r d f : Int) (k n : Nat) (h1 : 1 ≤ k) (h2 : k ≤ 32) (h3 : 1 ≤ n) (h4 : n ≤ 256) :
    Calls Try.prog 31 #[.pointer (some ⟨p, 0, none⟩), .agg #[.int .i64 s, .int .i64 r, .int .i64 d, .int .i64 f], .int .i64 (k : Int), .int .i64 (n : Int)] w fun e w' => e = .returned (.int .i64 (cpE C.length E.length s r d f k n)) ∧ Off Nob w w' := by
  have HA := Lib.hid h
  have hn2 := Lib.hid h.n2
  have HS := Lib.hid (fun w => csteps_ok k n h1 h2 h3 h4 w)
  obtain ⟨M, hM⟩ : ∃ M, cpN (k + n) = M := ⟨_, rfl⟩
  have HM : Hid (cpN ((k : Int) + (n : Int)).toNat = M) := Lib.hid (by rw [show ((k : Int) + (n : Int)).toNat = k + n by omega, hM])
  rw [hM] at HS
  have HB : Hid (¬ ((k : Int) < 1 ∨ 32 < (k : Int) ∨ (n : Int) < 1 ∨ 256 < (n : Int))) := Lib.hid (by omega)
  obtain ⟨L, hL⟩ : ∃ L, cpL s r d f (k : Int) (n : Int) = L := ⟨_, rfl⟩
  have HL := Lib.hid hL
  have HP : Hid (pt L 0 = (s, 3 * ((k : Int) + (n : Int))) ∧ pt L 1 = (r, (k : Int) + (n : Int)) ∧ pt L 2 = (d, 1) ∧ pt L 3 = (f, 1) ∧ L.length = 4) := Lib.hid (by rw [← hL]; exact ⟨rfl, rfl, rfl, rfl, rfl⟩)
  have HC : Hid (ptC L = [.int .i64 s, .int .i64 (3 * ((k : Int) + (n : Int))), .int .i64 r, .int .i64 ((k : Int) + (n : Int)), .int .i64 d, .int .i64 1, .int .i64 f, .int .i64 1]) := Lib.hid (by rw [← hL]; rfl)
  have HH : Hid (∀ W, Off Nob w W → ∀ x y, Calls Try.prog 57 #[.pointer (some ⟨p, 0, none⟩), .int .i64 x, .int .i64 y] W fun e w' => e = .returned (.int .i64 (hasE C.length x y)) ∧ W = w') := Lib.hid (fun W o x y => has_any (h.keep o (fun _ _ h => h)) x y)
  clear h hM hL
  go_enter Try.func31, Try.ntmps31
  go_wp2_with fail
  refine (HS.out _).mono ?_
  rintro e w' ⟨rfl, rfl⟩
  go_wp2_with fail
  -- TAIL
  obtain ⟨g, hg⟩ : ∃ g, (w.alloc (.cells #[.int .i64 s, .int .i64 r, .int .i64 d, .int .i64 f] 39)).heap.size = g := ⟨_, rfl⟩
  obtain ⟨W, hW⟩ : ∃ W, (w.alloc (.cells #[.int .i64 s, .int .i64 r, .int .i64 d, .int .i64 f] 39)).alloc (.cells #[.int .i64 s, .int .i64 (3 * ((k : Int) + (n : Int))), .int .i64 r, .int .i64 ((k : Int) + (n : Int)), .int .i64 d, .int .i64 1, .int .i64 f, .int .i64 1] 118) = W := ⟨_, rfl⟩
  have hgs : w.heap.size + 1 = g := by rw [← hg]; simp
  have HBK : Hid (Blk W g 118 #[.int .i64 s, .int .i64 (3 * ((k : Int) + (n : Int))), .int .i64 r, .int .i64 ((k : Int) + (n : Int)), .int .i64 d, .int .i64 1, .int .i64 f, .int .i64 1]) := Lib.hid (by rw [← hW, ← hg]; exact Blk.new _ _ _)
  have HOW : Hid (Off Nob w W) := Lib.hid (by rw [← hW]; exact Off.alloc (Off.alloc (Off.refl _ _) _) _)
  simp only [World.size_alloc] at hg ⊢
  rw [hW]
  rw [hgs]
  clear hW hg hgs
  have HGL := Lib.hid HBK.out.lt
  have HCC : Hid (∀ j u, (ptC L)[j]? = some u → W.cell? ⟨g, j, none⟩ = some u) := Lib.hid (fun j u hu => by rw [HBK.out.cell, ← Array.getElem?_toList]; rw [HC.out] at hu; exact hu)
  go_loopw [47] (fun i wr => ∃ j : Nat, j ≤ 4 ∧ i = .int .i64 (j : Int) ∧ (∀ i, i < j → hasE C.length (pt L i).1 (pt L i).2 = 0) ∧ Off Nob W wr) (fun i _ => 4 - (intOf i).toNat)
  case atStart => exact ⟨0, Nat.zero_le _, rfl, fun i hi => absurd hi (by omega), Off.refl _ _⟩
  case round =>
    obtain ⟨j, hj, rfl, hall, hoff⟩ := hrel
    have HO := Lib.hid hoff
    have HAL := Lib.hid hall
    have hj5 : j = 0 ∨ j = 1 ∨ j = 2 ∨ j = 3 ∨ j = 4 := by omega
    clear hoff hall hj
    rcases hj5 with rfl | rfl | rfl | rfl | rfl
    · have HPj : Hid (pt L 0 = (s, (3 * ((k : Int) + (n : Int))))) := Lib.hid HP.out.1
      rcases hasE_cases2 C.length s (3 * ((k : Int) + (n : Int))) with ⟨hz, _⟩ | ⟨hz, _⟩
      · have HHj := Lib.hid (fun W o => HH.out W o s (3 * ((k : Int) + (n : Int))))
        rw [hz] at HHj
        have HZ := Lib.hid hz
        clear hz
        go_wp2_with fail
        refine (HHj.out _ ((HOW.out.also HO.out).alloc _)).mono ?_
        rintro e w' ⟨rfl, rfl⟩
        go_wp2_with fail
        go_roundw
        case rel => exact ⟨1, by omega, by rfl, fun i hi => by
          rcases Nat.lt_or_ge i 0 with h9 | h9
          · exact HAL.out i h9
          · have e9 : i = 0 := by omega
            rw [e9, HPj.out]
            exact HZ.out, HO.out.alloc _⟩
        case measure => simp [intOf]
      · have HHj := Lib.hid (fun W o => HH.out W o s (3 * ((k : Int) + (n : Int))))
        have HR : Hid (cpE C.length E.length s r d f (k : Int) (n : Int) = 7) := Lib.hid (by
          have h1 := hasL_first C.length L 0 (by rw [HP.out.2.2.2.2]; decide) HAL.out (by rw [HPj.out, hz]; decide)
          rw [HPj.out, hz] at h1
          unfold cpE
          rw [if_neg HB.out, HL.out, h1, if_neg (by decide)])
        rw [hz] at HHj
        clear hz
        go_wp2_with fail
        refine (HHj.out _ ((HOW.out.also HO.out).alloc _)).mono ?_
        rintro e w' ⟨rfl, rfl⟩
        go_wp2_with fail
        go_ret
        exact ⟨by rw [HR.out]; rfl, (HOW.out.also HO.out).alloc _⟩
    · have HPj : Hid (pt L 1 = (r, ((k : Int) + (n : Int)))) := Lib.hid HP.out.2.1
      rcases hasE_cases2 C.length r ((k : Int) + (n : Int)) with ⟨hz, _⟩ | ⟨hz, _⟩
      · have HHj := Lib.hid (fun W o => HH.out W o r ((k : Int) + (n : Int)))
        rw [hz] at HHj
        have HZ := Lib.hid hz
        clear hz
        go_wp2_with fail
        refine (HHj.out _ ((HOW.out.also HO.out).alloc _)).mono ?_
        rintro e w' ⟨rfl, rfl⟩
        go_wp2_with fail
        go_roundw
        case rel => exact ⟨2, by omega, by rfl, fun i hi => by
          rcases Nat.lt_or_ge i 1 with h9 | h9
          · exact HAL.out i h9
          · have e9 : i = 1 := by omega
            rw [e9, HPj.out]
            exact HZ.out, HO.out.alloc _⟩
        case measure => simp [intOf]
      · have HHj := Lib.hid (fun W o => HH.out W o r ((k : Int) + (n : Int)))
        have HR : Hid (cpE C.length E.length s r d f (k : Int) (n : Int) = 7) := Lib.hid (by
          have h1 := hasL_first C.length L 1 (by rw [HP.out.2.2.2.2]; decide) HAL.out (by rw [HPj.out, hz]; decide)
          rw [HPj.out, hz] at h1
          unfold cpE
          rw [if_neg HB.out, HL.out, h1, if_neg (by decide)])
        rw [hz] at HHj
        clear hz
        go_wp2_with fail
        refine (HHj.out _ ((HOW.out.also HO.out).alloc _)).mono ?_
        rintro e w' ⟨rfl, rfl⟩
        go_wp2_with fail
        go_ret
        exact ⟨by rw [HR.out]; rfl, (HOW.out.also HO.out).alloc _⟩
    · have HPj : Hid (pt L 2 = (d, 1)) := Lib.hid HP.out.2.2.1
      rcases hasE_cases2 C.length d 1 with ⟨hz, _⟩ | ⟨hz, _⟩
      · have HHj := Lib.hid (fun W o => HH.out W o d 1)
        rw [hz] at HHj
        have HZ := Lib.hid hz
        clear hz
        go_wp2_with fail
        refine (HHj.out _ ((HOW.out.also HO.out).alloc _)).mono ?_
        rintro e w' ⟨rfl, rfl⟩
        go_wp2_with fail
        go_roundw
        case rel => exact ⟨3, by omega, by rfl, fun i hi => by
          rcases Nat.lt_or_ge i 2 with h9 | h9
          · exact HAL.out i h9
          · have e9 : i = 2 := by omega
            rw [e9, HPj.out]
            exact HZ.out, HO.out.alloc _⟩
        case measure => simp [intOf]
      · have HHj := Lib.hid (fun W o => HH.out W o d 1)
        have HR : Hid (cpE C.length E.length s r d f (k : Int) (n : Int) = 7) := Lib.hid (by
          have h1 := hasL_first C.length L 2 (by rw [HP.out.2.2.2.2]; decide) HAL.out (by rw [HPj.out, hz]; decide)
          rw [HPj.out, hz] at h1
          unfold cpE
          rw [if_neg HB.out, HL.out, h1, if_neg (by decide)])
        rw [hz] at HHj
        clear hz
        go_wp2_with fail
        refine (HHj.out _ ((HOW.out.also HO.out).alloc _)).mono ?_
        rintro e w' ⟨rfl, rfl⟩
        go_wp2_with fail
        go_ret
        exact ⟨by rw [HR.out]; rfl, (HOW.out.also HO.out).alloc _⟩
    · have HPj : Hid (pt L 3 = (f, 1)) := Lib.hid HP.out.2.2.2.1
      rcases hasE_cases2 C.length f 1 with ⟨hz, _⟩ | ⟨hz, _⟩
      · have HHj := Lib.hid (fun W o => HH.out W o f 1)
        rw [hz] at HHj
        have HZ := Lib.hid hz
        clear hz
        go_wp2_with fail
        refine (HHj.out _ ((HOW.out.also HO.out).alloc _)).mono ?_
        rintro e w' ⟨rfl, rfl⟩
        go_wp2_with fail
        go_roundw
        case rel => exact ⟨4, by omega, by rfl, fun i hi => by
          rcases Nat.lt_or_ge i 3 with h9 | h9
          · exact HAL.out i h9
          · have e9 : i = 3 := by omega
            rw [e9, HPj.out]
            exact HZ.out, HO.out.alloc _⟩
        case measure => simp [intOf]
      · have HHj := Lib.hid (fun W o => HH.out W o f 1)
        have HR : Hid (cpE C.length E.length s r d f (k : Int) (n : Int) = 7) := Lib.hid (by
          have h1 := hasL_first C.length L 3 (by rw [HP.out.2.2.2.2]; decide) HAL.out (by rw [HPj.out, hz]; decide)
          rw [HPj.out, hz] at h1
          unfold cpE
          rw [if_neg HB.out, HL.out, h1, if_neg (by decide)])
        rw [hz] at HHj
        clear hz
        go_wp2_with fail
        refine (HHj.out _ ((HOW.out.also HO.out).alloc _)).mono ?_
        rintro e w' ⟨rfl, rfl⟩
        go_wp2_with fail
        go_ret
        exact ⟨by rw [HR.out]; rfl, (HOW.out.also HO.out).alloc _⟩
    · have HN : Hid (hasL C.length L = 0) := Lib.hid (hasL_none _ _ (fun i hi => HAL.out i (by rw [HP.out.2.2.2.2] at hi; exact hi)))
      have HOK : Hid (∀ i, i < L.length → PtOk (pt L i)) := Lib.hid (fun i hi => by
        have h9 := HAL.out i (by rw [HP.out.2.2.2.2] at hi; exact hi)
        have hn9 := hn2.out
        rcases hasE_cases2 C.length (pt L i).1 (pt L i).2 with ⟨_, h10⟩ | ⟨h10, _⟩
        · exact ⟨h10.1, h10.2.1, by omega⟩
        · rw [h10] at h9; cases h9)
      have hb8 := HBK.out.to (HO.out.block _ HBK.out.lt (fun h => h))
      have c0 := hb8.cell 0
      have c1 := hb8.cell 1
      have c2 := hb8.cell 2
      have c3 := hb8.cell 3
      have c4 := hb8.cell 4
      have c5 := hb8.cell 5
      have c6 := hb8.cell 6
      have c7 := hb8.cell 7
      simp only [List.getElem?_toArray, List.getElem?_cons_succ, List.getElem?_cons_zero] at c0 c1 c2 c3 c4 c5 c6 c7
      clear hb8
      go_wp2_with fail
      clear c0 c1 c2 c3 c4 c5 c6 c7
      try rw [show ((4 : Nat) : Int) = (4 : Int) from rfl]
      go_loopw [61] (fun i wx => ∃ j : Nat, j ≤ 4 ∧ i = .int .i64 (j : Int) ∧ (∀ i, i < j → anyM (pt L i) L i = false) ∧ Off Nob W wx) (fun i _ => 4 - (intOf i).toNat)
      case atStart => exact ⟨0, Nat.zero_le _, rfl, fun i hi => absurd hi (by omega), HO.out⟩
      case round =>
        obtain ⟨j, hj, rfl, hall, hoff⟩ := hrel
        have HO2 := Lib.hid hoff
        have HAM := Lib.hid hall
        have hj5 : j = 0 ∨ j = 1 ∨ j = 2 ∨ j = 3 ∨ j = 4 := by omega
        clear hoff hall hj HAL
        rcases hj5 with rfl | rfl | rfl | rfl | rfl
        · have HPj : Hid (pt L 0 = (s, (3 * ((k : Int) + (n : Int))))) := Lib.hid HP.out.1
          have HCM : Hid (∀ W2, Off Nob W W2 → Calls Try.prog 62 #[.slice (some ⟨g, 0, none⟩) 0 4, .func (.func 63) #[.agg #[.int .i64 s, .int .i64 (3 * ((k : Int) + (n : Int)))]] #[]] W2 fun e w' => e = .returned (.bool (anyM (pt L 0) L 0)) ∧ Off Nob W2 w') := Lib.hid (fun W2 o => by
            have := contains_meets (pt L 0) (HOK.out 0 (by rw [HP.out.2.2.2.2]; decide)) L HOK.out 0 (by rw [HP.out.2.2.2.2]; decide) g 4 W2 (Nat.lt_of_lt_of_le HGL.out o.size) (fun j u hu => (o.cell_old HGL.out _).trans (HCC.out j u hu)) (by decide)
            rw [HPj.out] at this ⊢
            exact this)
          have q0 : (wr.alloc (.cells #[.int .i64 s, .int .i64 (3 * ((k : Int) + (n : Int)))] 117)).cell? ⟨wr.heap.size, 0, none⟩ = some (.int .i64 s) := (Blk.new wr 117 #[.int .i64 s, .int .i64 (3 * ((k : Int) + (n : Int)))]).cell 0
          have q1 : (wr.alloc (.cells #[.int .i64 s, .int .i64 (3 * ((k : Int) + (n : Int)))] 117)).cell? ⟨wr.heap.size, 1, none⟩ = some (.int .i64 (3 * ((k : Int) + (n : Int)))) := (Blk.new wr 117 #[.int .i64 s, .int .i64 (3 * ((k : Int) + (n : Int)))]).cell 1
          cases hb : anyM (pt L 0) L 0
          · rw [hb] at HCM
            have HBF := Lib.hid hb
            clear hb
            go_wp2_with fail
            go_region_held3 (fun w' => w'.cell? ⟨wr.heap.size, 0, none⟩ = some (.int .i64 s) ∧ w'.cell? ⟨wr.heap.size, 1, none⟩ = some (.int .i64 (3 * ((k : Int) + (n : Int)))))
              (first | with_reducible assumption | go_keep)
              (first
                | (go_at_call 62; refine (HCM.out _ (by first | with_reducible exact Off.alloc HO2.out _ | with_reducible exact Off.drew (Off.alloc HO2.out _) | with_reducible exact Off.drewN (Off.alloc HO2.out _) _ | with_reducible exact Off.drew (Off.drew (Off.alloc HO2.out _)))).mono ?_; rintro e w2 ⟨rfl, o2⟩; have O2 := Lib.hid (Off.also (by first | with_reducible exact Off.alloc HO2.out _ | with_reducible exact Off.drew (Off.alloc HO2.out _) | with_reducible exact Off.drewN (Off.alloc HO2.out _) _ | with_reducible exact Off.drew (Off.drew (Off.alloc HO2.out _))) o2); have kq : w2.cell? ⟨wr.heap.size, 0, none⟩ = some (.int .i64 s) ∧ w2.cell? ⟨wr.heap.size, 1, none⟩ = some (.int .i64 (3 * ((k : Int) + (n : Int)))) := ⟨(o2.cell_old (by simp) _).trans (by simp), (o2.cell_old (by simp) _).trans (by simp)⟩; clear o2))
            clear q0 q1
            go_wp2_with fail
            go_roundw
            case rel => exact ⟨1, by omega, by rfl, fun i hi => by
              rcases Nat.lt_or_ge i 0 with h9 | h9
              · exact HAM.out i h9
              · have e9 : i = 0 := by omega
                rw [e9]
                exact HBF.out, O2.out⟩
            case measure => simp [intOf]
          · rw [hb] at HCM
            have HR : Hid (cpE C.length E.length s r d f (k : Int) (n : Int) = 2) := Lib.hid (by
              have h9 := meL_yes L 0 (by rw [HP.out.2.2.2.2]; decide) hb
              unfold cpE
              rw [if_neg HB.out, HL.out, HN.out, if_pos rfl, h9]
              rfl)
            clear hb
            go_wp2_with fail
            go_region_held3 (fun w' => w'.cell? ⟨wr.heap.size, 0, none⟩ = some (.int .i64 s) ∧ w'.cell? ⟨wr.heap.size, 1, none⟩ = some (.int .i64 (3 * ((k : Int) + (n : Int)))))
              (first | with_reducible assumption | go_keep)
              (first
                | (go_at_call 62; refine (HCM.out _ (by first | with_reducible exact Off.alloc HO2.out _ | with_reducible exact Off.drew (Off.alloc HO2.out _) | with_reducible exact Off.drewN (Off.alloc HO2.out _) _ | with_reducible exact Off.drew (Off.drew (Off.alloc HO2.out _)))).mono ?_; rintro e w2 ⟨rfl, o2⟩; have O2 := Lib.hid (Off.also (by first | with_reducible exact Off.alloc HO2.out _ | with_reducible exact Off.drew (Off.alloc HO2.out _) | with_reducible exact Off.drewN (Off.alloc HO2.out _) _ | with_reducible exact Off.drew (Off.drew (Off.alloc HO2.out _))) o2); have kq : w2.cell? ⟨wr.heap.size, 0, none⟩ = some (.int .i64 s) ∧ w2.cell? ⟨wr.heap.size, 1, none⟩ = some (.int .i64 (3 * ((k : Int) + (n : Int)))) := ⟨(o2.cell_old (by simp) _).trans (by simp), (o2.cell_old (by simp) _).trans (by simp)⟩; clear o2))
            clear q0 q1
            go_wp2_with fail
            go_ret
            exact ⟨by rw [HR.out]; rfl, HOW.out.also O2.out⟩
        · have HPj : Hid (pt L 1 = (r, ((k : Int) + (n : Int)))) := Lib.hid HP.out.2.1
          have HCM : Hid (∀ W2, Off Nob W W2 → Calls Try.prog 62 #[.slice (some ⟨g, 0, none⟩) 1 4, .func (.func 63) #[.agg #[.int .i64 r, .int .i64 ((k : Int) + (n : Int))]] #[]] W2 fun e w' => e = .returned (.bool (anyM (pt L 1) L 1)) ∧ Off Nob W2 w') := Lib.hid (fun W2 o => by
            have := contains_meets (pt L 1) (HOK.out 1 (by rw [HP.out.2.2.2.2]; decide)) L HOK.out 1 (by rw [HP.out.2.2.2.2]; decide) g 4 W2 (Nat.lt_of_lt_of_le HGL.out o.size) (fun j u hu => (o.cell_old HGL.out _).trans (HCC.out j u hu)) (by decide)
            rw [HPj.out] at this ⊢
            exact this)
          have q0 : (wr.alloc (.cells #[.int .i64 r, .int .i64 ((k : Int) + (n : Int))] 117)).cell? ⟨wr.heap.size, 0, none⟩ = some (.int .i64 r) := (Blk.new wr 117 #[.int .i64 r, .int .i64 ((k : Int) + (n : Int))]).cell 0
          have q1 : (wr.alloc (.cells #[.int .i64 r, .int .i64 ((k : Int) + (n : Int))] 117)).cell? ⟨wr.heap.size, 1, none⟩ = some (.int .i64 ((k : Int) + (n : Int))) := (Blk.new wr 117 #[.int .i64 r, .int .i64 ((k : Int) + (n : Int))]).cell 1
          cases hb : anyM (pt L 1) L 1
          · rw [hb] at HCM
            have HBF := Lib.hid hb
            clear hb
            go_wp2_with fail
            go_region_held3 (fun w' => w'.cell? ⟨wr.heap.size, 0, none⟩ = some (.int .i64 r) ∧ w'.cell? ⟨wr.heap.size, 1, none⟩ = some (.int .i64 ((k : Int) + (n : Int))))
              (first | with_reducible assumption | go_keep)
              (first
                | (go_at_call 62; refine (HCM.out _ (by first | with_reducible exact Off.alloc HO2.out _ | with_reducible exact Off.drew (Off.alloc HO2.out _) | with_reducible exact Off.drewN (Off.alloc HO2.out _) _ | with_reducible exact Off.drew (Off.drew (Off.alloc HO2.out _)))).mono ?_; rintro e w2 ⟨rfl, o2⟩; have O2 := Lib.hid (Off.also (by first | with_reducible exact Off.alloc HO2.out _ | with_reducible exact Off.drew (Off.alloc HO2.out _) | with_reducible exact Off.drewN (Off.alloc HO2.out _) _ | with_reducible exact Off.drew (Off.drew (Off.alloc HO2.out _))) o2); have kq : w2.cell? ⟨wr.heap.size, 0, none⟩ = some (.int .i64 r) ∧ w2.cell? ⟨wr.heap.size, 1, none⟩ = some (.int .i64 ((k : Int) + (n : Int))) := ⟨(o2.cell_old (by simp) _).trans (by simp), (o2.cell_old (by simp) _).trans (by simp)⟩; clear o2))
            clear q0 q1
            go_wp2_with fail
            go_roundw
            case rel => exact ⟨2, by omega, by rfl, fun i hi => by
              rcases Nat.lt_or_ge i 1 with h9 | h9
              · exact HAM.out i h9
              · have e9 : i = 1 := by omega
                rw [e9]
                exact HBF.out, O2.out⟩
            case measure => simp [intOf]
          · rw [hb] at HCM
            have HR : Hid (cpE C.length E.length s r d f (k : Int) (n : Int) = 2) := Lib.hid (by
              have h9 := meL_yes L 1 (by rw [HP.out.2.2.2.2]; decide) hb
              unfold cpE
              rw [if_neg HB.out, HL.out, HN.out, if_pos rfl, h9]
              rfl)
            clear hb
            go_wp2_with fail
            go_region_held3 (fun w' => w'.cell? ⟨wr.heap.size, 0, none⟩ = some (.int .i64 r) ∧ w'.cell? ⟨wr.heap.size, 1, none⟩ = some (.int .i64 ((k : Int) + (n : Int))))
              (first | with_reducible assumption | go_keep)
              (first
                | (go_at_call 62; refine (HCM.out _ (by first | with_reducible exact Off.alloc HO2.out _ | with_reducible exact Off.drew (Off.alloc HO2.out _) | with_reducible exact Off.drewN (Off.alloc HO2.out _) _ | with_reducible exact Off.drew (Off.drew (Off.alloc HO2.out _)))).mono ?_; rintro e w2 ⟨rfl, o2⟩; have O2 := Lib.hid (Off.also (by first | with_reducible exact Off.alloc HO2.out _ | with_reducible exact Off.drew (Off.alloc HO2.out _) | with_reducible exact Off.drewN (Off.alloc HO2.out _) _ | with_reducible exact Off.drew (Off.drew (Off.alloc HO2.out _))) o2); have kq : w2.cell? ⟨wr.heap.size, 0, none⟩ = some (.int .i64 r) ∧ w2.cell? ⟨wr.heap.size, 1, none⟩ = some (.int .i64 ((k : Int) + (n : Int))) := ⟨(o2.cell_old (by simp) _).trans (by simp), (o2.cell_old (by simp) _).trans (by simp)⟩; clear o2))
            clear q0 q1
            go_wp2_with fail
            go_ret
            exact ⟨by rw [HR.out]; rfl, HOW.out.also O2.out⟩
        · have HPj : Hid (pt L 2 = (d, 1)) := Lib.hid HP.out.2.2.1
          have HCM : Hid (∀ W2, Off Nob W W2 → Calls Try.prog 62 #[.slice (some ⟨g, 0, none⟩) 2 4, .func (.func 63) #[.agg #[.int .i64 d, .int .i64 1]] #[]] W2 fun e w' => e = .returned (.bool (anyM (pt L 2) L 2)) ∧ Off Nob W2 w') := Lib.hid (fun W2 o => by
            have := contains_meets (pt L 2) (HOK.out 2 (by rw [HP.out.2.2.2.2]; decide)) L HOK.out 2 (by rw [HP.out.2.2.2.2]; decide) g 4 W2 (Nat.lt_of_lt_of_le HGL.out o.size) (fun j u hu => (o.cell_old HGL.out _).trans (HCC.out j u hu)) (by decide)
            rw [HPj.out] at this ⊢
            exact this)
          have q0 : (wr.alloc (.cells #[.int .i64 d, .int .i64 1] 117)).cell? ⟨wr.heap.size, 0, none⟩ = some (.int .i64 d) := (Blk.new wr 117 #[.int .i64 d, .int .i64 1]).cell 0
          have q1 : (wr.alloc (.cells #[.int .i64 d, .int .i64 1] 117)).cell? ⟨wr.heap.size, 1, none⟩ = some (.int .i64 1) := (Blk.new wr 117 #[.int .i64 d, .int .i64 1]).cell 1
          cases hb : anyM (pt L 2) L 2
          · rw [hb] at HCM
            have HBF := Lib.hid hb
            clear hb
            go_wp2_with fail
            go_region_held3 (fun w' => w'.cell? ⟨wr.heap.size, 0, none⟩ = some (.int .i64 d) ∧ w'.cell? ⟨wr.heap.size, 1, none⟩ = some (.int .i64 1))
              (first | with_reducible assumption | go_keep)
              (first
                | (go_at_call 62; refine (HCM.out _ (by first | with_reducible exact Off.alloc HO2.out _ | with_reducible exact Off.drew (Off.alloc HO2.out _) | with_reducible exact Off.drewN (Off.alloc HO2.out _) _ | with_reducible exact Off.drew (Off.drew (Off.alloc HO2.out _)))).mono ?_; rintro e w2 ⟨rfl, o2⟩; have O2 := Lib.hid (Off.also (by first | with_reducible exact Off.alloc HO2.out _ | with_reducible exact Off.drew (Off.alloc HO2.out _) | with_reducible exact Off.drewN (Off.alloc HO2.out _) _ | with_reducible exact Off.drew (Off.drew (Off.alloc HO2.out _))) o2); have kq : w2.cell? ⟨wr.heap.size, 0, none⟩ = some (.int .i64 d) ∧ w2.cell? ⟨wr.heap.size, 1, none⟩ = some (.int .i64 1) := ⟨(o2.cell_old (by simp) _).trans (by simp), (o2.cell_old (by simp) _).trans (by simp)⟩; clear o2))
            clear q0 q1
            go_wp2_with fail
            go_roundw
            case rel => exact ⟨3, by omega, by rfl, fun i hi => by
              rcases Nat.lt_or_ge i 2 with h9 | h9
              · exact HAM.out i h9
              · have e9 : i = 2 := by omega
                rw [e9]
                exact HBF.out, O2.out⟩
            case measure => simp [intOf]
          · rw [hb] at HCM
            have HR : Hid (cpE C.length E.length s r d f (k : Int) (n : Int) = 2) := Lib.hid (by
              have h9 := meL_yes L 2 (by rw [HP.out.2.2.2.2]; decide) hb
              unfold cpE
              rw [if_neg HB.out, HL.out, HN.out, if_pos rfl, h9]
              rfl)
            clear hb
            go_wp2_with fail
            go_region_held3 (fun w' => w'.cell? ⟨wr.heap.size, 0, none⟩ = some (.int .i64 d) ∧ w'.cell? ⟨wr.heap.size, 1, none⟩ = some (.int .i64 1))
              (first | with_reducible assumption | go_keep)
              (first
                | (go_at_call 62; refine (HCM.out _ (by first | with_reducible exact Off.alloc HO2.out _ | with_reducible exact Off.drew (Off.alloc HO2.out _) | with_reducible exact Off.drewN (Off.alloc HO2.out _) _ | with_reducible exact Off.drew (Off.drew (Off.alloc HO2.out _)))).mono ?_; rintro e w2 ⟨rfl, o2⟩; have O2 := Lib.hid (Off.also (by first | with_reducible exact Off.alloc HO2.out _ | with_reducible exact Off.drew (Off.alloc HO2.out _) | with_reducible exact Off.drewN (Off.alloc HO2.out _) _ | with_reducible exact Off.drew (Off.drew (Off.alloc HO2.out _))) o2); have kq : w2.cell? ⟨wr.heap.size, 0, none⟩ = some (.int .i64 d) ∧ w2.cell? ⟨wr.heap.size, 1, none⟩ = some (.int .i64 1) := ⟨(o2.cell_old (by simp) _).trans (by simp), (o2.cell_old (by simp) _).trans (by simp)⟩; clear o2))
            clear q0 q1
            go_wp2_with fail
            go_ret
            exact ⟨by rw [HR.out]; rfl, HOW.out.also O2.out⟩
        · have HPj : Hid (pt L 3 = (f, 1)) := Lib.hid HP.out.2.2.2.1
          have HCM : Hid (∀ W2, Off Nob W W2 → Calls Try.prog 62 #[.slice (some ⟨g, 0, none⟩) 3 4, .func (.func 63) #[.agg #[.int .i64 f, .int .i64 1]] #[]] W2 fun e w' => e = .returned (.bool (anyM (pt L 3) L 3)) ∧ Off Nob W2 w') := Lib.hid (fun W2 o => by
            have := contains_meets (pt L 3) (HOK.out 3 (by rw [HP.out.2.2.2.2]; decide)) L HOK.out 3 (by rw [HP.out.2.2.2.2]; decide) g 4 W2 (Nat.lt_of_lt_of_le HGL.out o.size) (fun j u hu => (o.cell_old HGL.out _).trans (HCC.out j u hu)) (by decide)
            rw [HPj.out] at this ⊢
            exact this)
          have q0 : (wr.alloc (.cells #[.int .i64 f, .int .i64 1] 117)).cell? ⟨wr.heap.size, 0, none⟩ = some (.int .i64 f) := (Blk.new wr 117 #[.int .i64 f, .int .i64 1]).cell 0
          have q1 : (wr.alloc (.cells #[.int .i64 f, .int .i64 1] 117)).cell? ⟨wr.heap.size, 1, none⟩ = some (.int .i64 1) := (Blk.new wr 117 #[.int .i64 f, .int .i64 1]).cell 1
          cases hb : anyM (pt L 3) L 3
          · rw [hb] at HCM
            have HBF := Lib.hid hb
            clear hb
            go_wp2_with fail
            go_region_held3 (fun w' => w'.cell? ⟨wr.heap.size, 0, none⟩ = some (.int .i64 f) ∧ w'.cell? ⟨wr.heap.size, 1, none⟩ = some (.int .i64 1))
              (first | with_reducible assumption | go_keep)
              (first
                | (go_at_call 62; refine (HCM.out _ (by first | with_reducible exact Off.alloc HO2.out _ | with_reducible exact Off.drew (Off.alloc HO2.out _) | with_reducible exact Off.drewN (Off.alloc HO2.out _) _ | with_reducible exact Off.drew (Off.drew (Off.alloc HO2.out _)))).mono ?_; rintro e w2 ⟨rfl, o2⟩; have O2 := Lib.hid (Off.also (by first | with_reducible exact Off.alloc HO2.out _ | with_reducible exact Off.drew (Off.alloc HO2.out _) | with_reducible exact Off.drewN (Off.alloc HO2.out _) _ | with_reducible exact Off.drew (Off.drew (Off.alloc HO2.out _))) o2); have kq : w2.cell? ⟨wr.heap.size, 0, none⟩ = some (.int .i64 f) ∧ w2.cell? ⟨wr.heap.size, 1, none⟩ = some (.int .i64 1) := ⟨(o2.cell_old (by simp) _).trans (by simp), (o2.cell_old (by simp) _).trans (by simp)⟩; clear o2))
            clear q0 q1
            go_wp2_with fail
            go_roundw
            case rel => exact ⟨4, by omega, by rfl, fun i hi => by
              rcases Nat.lt_or_ge i 3 with h9 | h9
              · exact HAM.out i h9
              · have e9 : i = 3 := by omega
                rw [e9]
                exact HBF.out, O2.out⟩
            case measure => simp [intOf]
          · rw [hb] at HCM
            have HR : Hid (cpE C.length E.length s r d f (k : Int) (n : Int) = 2) := Lib.hid (by
              have h9 := meL_yes L 3 (by rw [HP.out.2.2.2.2]; decide) hb
              unfold cpE
              rw [if_neg HB.out, HL.out, HN.out, if_pos rfl, h9]
              rfl)
            clear hb
            go_wp2_with fail
            go_region_held3 (fun w' => w'.cell? ⟨wr.heap.size, 0, none⟩ = some (.int .i64 f) ∧ w'.cell? ⟨wr.heap.size, 1, none⟩ = some (.int .i64 1))
              (first | with_reducible assumption | go_keep)
              (first
                | (go_at_call 62; refine (HCM.out _ (by first | with_reducible exact Off.alloc HO2.out _ | with_reducible exact Off.drew (Off.alloc HO2.out _) | with_reducible exact Off.drewN (Off.alloc HO2.out _) _ | with_reducible exact Off.drew (Off.drew (Off.alloc HO2.out _)))).mono ?_; rintro e w2 ⟨rfl, o2⟩; have O2 := Lib.hid (Off.also (by first | with_reducible exact Off.alloc HO2.out _ | with_reducible exact Off.drew (Off.alloc HO2.out _) | with_reducible exact Off.drewN (Off.alloc HO2.out _) _ | with_reducible exact Off.drew (Off.drew (Off.alloc HO2.out _))) o2); have kq : w2.cell? ⟨wr.heap.size, 0, none⟩ = some (.int .i64 f) ∧ w2.cell? ⟨wr.heap.size, 1, none⟩ = some (.int .i64 1) := ⟨(o2.cell_old (by simp) _).trans (by simp), (o2.cell_old (by simp) _).trans (by simp)⟩; clear o2))
            clear q0 q1
            go_wp2_with fail
            go_ret
            exact ⟨by rw [HR.out]; rfl, HOW.out.also O2.out⟩
        · have HR : Hid (cpE C.length E.length s r d f (k : Int) (n : Int) = roomE E.length (M : Int)) := Lib.hid (by
            have h9 := meL_no L (fun i hi => HAM.out i (by rw [HP.out.2.2.2.2] at hi; exact hi))
            unfold cpE
            rw [if_neg HB.out, HL.out, HN.out, if_pos rfl, h9, HM.out]
            rfl)
          have HRM := Lib.hid (room_any (HA.out.keep (HOW.out.also HO2.out) (fun _ _ h => h)) (M : Int))
          go_wp2_with fail
          refine HRM.out.mono ?_
          rintro e w' ⟨rfl, rfl⟩
          go_wp2_with fail
          go_ret
          exact ⟨by rw [HR.out]; rfl, HOW.out.also HO2.out⟩
theorem cpck_any (h : Ar w F p C E) (s r d f k n : Int) :
    Calls Try.prog 31 #[.pointer (some ⟨p, 0, none⟩), .agg #[.int .i64 s, .int .i64 r, .int .i64 d, .int .i64 f], .int .i64 k, .int .i64 n] w fun e w' => e = .returned (.int .i64 (cpE C.length E.length s r d f k n)) ∧ Off Nob w w' := by
  by_cases hb : k < 1 ∨ 32 < k ∨ n < 1 ∨ 256 < n
  · have := cpck_bad (.pointer (some ⟨p, 0, none⟩)) s r d f k n hb w
    rwa [show cpE C.length E.length s r d f k n = 7 by unfold cpE; rw [if_pos hb]]
  · obtain ⟨k, rfl⟩ := Int.eq_ofNat_of_zero_le (show 0 ≤ k by omega)
    obtain ⟨n, rfl⟩ := Int.eq_ofNat_of_zero_le (show 0 ≤ n by omega)
    exact cpck_ok h s r d f k n (by omega) (by omega) (by omega) (by omega)
end
end Go.Proofs.Ytedbafgejladiaa

