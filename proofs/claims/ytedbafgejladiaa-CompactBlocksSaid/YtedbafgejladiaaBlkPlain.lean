/-
  Plain facts for CompactBlocks: the hits of blocks, what the arena holds behind each of them. Nothing of the program is named here.
-/
import Derived.Test.YtedbafgejladiaaCompFirst
import Derived.Test.YtedbafgejladiaaHitSorted
namespace Go.Proofs.Ytedbafgejladiaa
open Go.RowKit
open PackZ (cnt cnt_succ cnt_le cnt_step cnt_lt)
set_option linter.unusedVariables false
set_option linter.unusedSimpArgs false
/-- The hits of a block: bits, the first End, of the first places. -/
def hbL (X : List Bool) (f : Nat) : Nat → List Hi
  | 0 => []
  | m + 1 => if X.getD m false = true then hbL X f m ++ [(((f + m : Nat) : Int), ((m % 16 : Nat) : Int))] else hbL X f m
def hs (h : Hi) : Sl := (BitVec.ofNat 64 18446744073709551615, BitVec.ofNat 64 h.1.toNat, BitVec.ofNat 64 h.2.toNat)
/-- The hits of the first blocks. -/
def allH (R : Nat → List Bool) (n : Nat) : Nat → List Hi
  | 0 => []
  | i + 1 => allH R n i ++ hbL (R i) (1 + i * n) n
theorem hbL_succ (X : List Bool) (f m : Nat) : hbL X f (m + 1) = if X.getD m false = true then hbL X f m ++ [(((f + m : Nat) : Int), ((m % 16 : Nat) : Int))] else hbL X f m := rfl
theorem hbL_len (X : List Bool) (f m : Nat) : (hbL X f m).length ≤ m := by
  induction m with
  | zero => exact Nat.le_refl _
  | succ m ih =>
    rw [hbL_succ]
    split
    · rw [List.length_append]; simp; omega
    · omega
theorem hbL_more (X : List Bool) (f n m : Nat) (hx : X.length ≤ n) : ∀ k, hbL X f (n + k) = hbL X f n := by
  intro k
  induction k with
  | zero => rfl
  | succ k ih =>
    show (if X.getD (n + k) false = true then _ else hbL X f (n + k)) = _
    have e : X.getD (n + k) false = false := by rw [List.getD_eq_getElem?_getD, List.getElem?_eq_none (show X.length ≤ n + k by omega)]; rfl
    rw [if_neg (by rw [e]; decide), ih]
theorem hi_appL (A B : List Hi) (x : Nat) (h : x < A.length) : hi (A ++ B) x = hi A x := by simp [hi, List.getD, List.getElem?_append_left h]
theorem hi_appR (A B : List Hi) (x : Nat) (h : A.length ≤ x) : hi (A ++ B) x = hi B (x - A.length) := by simp [hi, List.getD, List.getElem?_append_right h]
theorem hbL_at (X : List Bool) (f : Nat) : ∀ m j, j < m → X.getD j false = true → (hbL X f j).length < (hbL X f m).length ∧ hi (hbL X f m) (hbL X f j).length = (((f + j : Nat) : Int), ((j % 16 : Nat) : Int)) := by
  intro m
  induction m with
  | zero => intro j h; omega
  | succ m ih =>
    intro j hj hx
    by_cases e : j = m
    · subst e
      have hu : hbL X f (j + 1) = hbL X f j ++ [(((f + j : Nat) : Int), ((j % 16 : Nat) : Int))] := by rw [hbL_succ, if_pos hx]
      rw [hu]
      refine ⟨by simp, ?_⟩
      rw [hi_appR _ _ _ (Nat.le_refl _), Nat.sub_self]
      rfl
    · obtain ⟨h1, h2⟩ := ih j (by omega) hx
      rw [hbL_succ]
      split
      · exact ⟨by rw [List.length_append]; omega, by rw [← h2]; exact hi_appL _ _ _ h1⟩
      · exact ⟨h1, h2⟩
/-- Hits that ascend, up to an End. -/
def Asc (H : List Hi) (b : Nat) : Prop := HiAsc H ∧ ∀ i, i < H.length → (hi H i).1 ≤ (b : Int)
theorem Asc.nil : Asc [] 0 := ⟨⟨fun i h => absurd h (Nat.not_lt_zero _), fun i h => absurd h (Nat.not_lt_zero _)⟩, fun i h => absurd h (Nat.not_lt_zero _)⟩
theorem Asc.mono {H : List Hi} {b c : Nat} (h : Asc H b) (hb : b ≤ c) : Asc H c := ⟨h.1, fun i hi => by have := h.2 i hi; omega⟩
theorem Asc.snoc {H : List Hi} {b e r : Nat} (h : Asc H b) (hb : b < e) (he : e ≤ 1000000000) (hr : r < 16) : Asc (H ++ [((e : Int), (r : Int))]) e := by
  have hl : (H ++ [((e : Int), (r : Int))]).length = H.length + 1 := by simp
  have last : hi (H ++ [((e : Int), (r : Int))]) H.length = ((e : Int), (r : Int)) := by rw [hi_appR _ _ _ (Nat.le_refl _), Nat.sub_self]; rfl
  refine ⟨⟨fun i hi2 => ?_, fun i hi2 => ?_⟩, fun i hi2 => ?_⟩
  · by_cases e2 : i < H.length
    · rw [hi_appL _ _ _ e2]; exact h.1.1 i e2
    · rw [show i = H.length by omega, last]; exact ⟨by show (1 : Int) ≤ (e : Int); omega, by show (e : Int) ≤ 1000000000; omega, by show (0 : Int) ≤ (r : Int); omega, by show (r : Int) < 16; omega⟩
  · by_cases e2 : i + 1 < H.length
    · rw [hi_appL _ _ _ e2, hi_appL _ _ _ (by omega)]; exact h.1.2 i e2
    · rw [show i + 1 = H.length by omega, last, hi_appL _ _ _ (by omega)]
      left
      have := h.2 i (by omega)
      show (hi H i).1 < (e : Int)
      omega
  · by_cases e2 : i < H.length
    · rw [hi_appL _ _ _ e2]; have := h.2 i e2; omega
    · rw [show i = H.length by omega, last]; exact Int.le_refl _
theorem Asc.block {H : List Hi} {b : Nat} (h : Asc H b) (X : List Bool) (m : Nat) (hm : 1 + b + m ≤ 1000000000) : Asc (H ++ hbL X (1 + b) m) (b + m) := by
  induction m with
  | zero => simpa [hbL] using h
  | succ m ih =>
    have i2 := ih (by omega)
    unfold hbL
    split
    · rw [← List.append_assoc]
      have := i2.snoc (e := 1 + b + m) (r := m % 16) (by omega) (by omega) (by omega)
      exact this.mono (by omega)
    · exact i2.mono (by omega)
theorem allH_asc (R : Nat → List Bool) (n : Nat) (hn : n ≤ 40) : ∀ i, i ≤ 8 → Asc (allH R n i) (i * n) ∧ (allH R n i).length ≤ i * n := by
  intro i
  induction i with
  | zero => exact fun _ => ⟨by rw [Nat.zero_mul]; exact Asc.nil, Nat.zero_le _⟩
  | succ i ih =>
    intro hi2
    obtain ⟨h1, h2⟩ := ih (by omega)
    have hin : i * n ≤ 8 * 40 := Nat.mul_le_mul (by omega) hn
    have hs2 : (i + 1) * n = i * n + n := Nat.succ_mul _ _
    rw [hs2]
    refine ⟨h1.block (R i) n (by omega), ?_⟩
    unfold allH
    rw [List.length_append]
    have := hbL_len (R i) (1 + i * n) n
    omega
/-- What the arena holds behind some blocks. -/
def Inv (H : List Hi) (k a : Nat) (C : List (BitVec 64)) : Prop :=
  C.length = 4 * a + 2 ∧ (∀ x, x < k → rdV C (3 * x) = if x < H.length then hs (hi H x) else sl0) ∧ cl C (4 * a) = BitVec.ofNat 64 (H.length - k) ∧ cl C (4 * a + 1) = msk (decide (k < H.length))
theorem cl_rep (m i : Nat) : cl (List.replicate m (0 : BitVec 64)) i = 0 := by
  unfold cl
  by_cases h : i < m
  · simp [List.getD, h]
  · rw [List.getD_eq_getElem?_getD, List.getElem?_eq_none (show (List.replicate m (0 : BitVec 64)).length ≤ i by rw [List.length_replicate]; omega)]; rfl
theorem Inv.start (k a : Nat) : Inv [] k a (List.replicate (4 * a + 2) 0) := by
  refine ⟨by simp, fun x _ => ?_, by rw [cl_rep]; simp, by rw [cl_rep]; rfl⟩
  unfold rdV
  rw [cl_rep, cl_rep, cl_rep]
  simp [sl0]
/-- The valid slots: the kept hits, and those of the block. -/
def vB (H : List Hi) (X : List Bool) (k i : Nat) : Bool := if i < k then decide (i < H.length) else X.getD (i - k) false
theorem cnt_vB1 (H : List Hi) (X : List Bool) (k : Nat) : ∀ i, i ≤ k → cnt (vB H X k) i = min i H.length := by
  intro i
  induction i with
  | zero => exact fun _ => (Nat.zero_min _).symm
  | succ i ih =>
    intro hi2
    rw [cnt_succ, ih (by omega), show vB H X k i = decide (i < H.length) by unfold vB; rw [if_pos (show i < k by omega)]]
    by_cases h : i < H.length
    · rw [decide_eq_true h]; simp; omega
    · rw [decide_eq_false h]; simp; omega
theorem cnt_vB2 (H : List Hi) (X : List Bool) (k f : Nat) : ∀ j, cnt (vB H X k) (k + j) = min k H.length + (hbL X f j).length := by
  intro j
  induction j with
  | zero => rw [Nat.add_zero, cnt_vB1 H X k k (Nat.le_refl _)]; rfl
  | succ j ih =>
    rw [show k + (j + 1) = (k + j) + 1 by omega, cnt_succ, ih, show vB H X k (k + j) = X.getD j false by unfold vB; rw [if_neg (show ¬ k + j < k by omega), Nat.add_sub_cancel_left], hbL_succ]
    by_cases h : X.getD j false = true
    · rw [if_pos h, if_pos h]; simp; omega
    · rw [if_neg h, if_neg h]; rfl
/-- The arena with the block's slots written behind the kept ones. -/
def wrB (X : List Bool) (f k n : Nat) (C : List (BitVec 64)) (E : List Ev) : List (BitVec 64) × List Ev := wrS (3 * k) (sl (vaT X f n n)) (C, E) n
theorem wrB_len (X : List Bool) (f k n : Nat) (C : List (BitVec 64)) (E : List Ev) : (wrB X f k n C E).1.length = C.length ∧ (wrB X f k n C E).2.length = E.length + 3 * n := wrS_len _ _ _ _
theorem wrB_rd (X : List Bool) (f k n : Nat) (C : List (BitVec 64)) (E : List Ev) (hC : C.length = 4 * (k + n) + 2) : (∀ i, i < k → rdV (wrB X f k n C E).1 (3 * i) = rdV C (3 * i)) ∧ (∀ j, j < n → rdV (wrB X f k n C E).1 (3 * (k + j)) = vaS X f j) ∧ ∀ x, 4 * (k + n) ≤ x → cl (wrB X f k n C E).1 x = cl C x := by
  have hw := fun x => cl_wrS (3 * k) (sl (vaT X f n n)) (C, E) n x (by show 3 * k + 3 * n ≤ C.length; omega)
  refine ⟨fun i hi => ?_, fun j hj => ?_, fun x hx => ?_⟩
  · unfold rdV wrB
    rw [hw, hw, hw, if_neg (by omega), if_neg (by omega), if_neg (by omega)]
  · unfold rdV wrB
    rw [hw, hw, hw, if_pos (by omega), if_pos (by omega), if_pos (by omega)]
    rw [show (3 * (k + j) - 3 * k) / 3 = j by omega, show (3 * (k + j) + 1 - 3 * k) / 3 = j by omega, show (3 * (k + j) + 2 - 3 * k) / 3 = j by omega, show (3 * (k + j) - 3 * k) % 3 = 0 by omega, show (3 * (k + j) + 1 - 3 * k) % 3 = 1 by omega, show (3 * (k + j) + 2 - 3 * k) % 3 = 2 by omega, vaT_at _ _ _ _ _ hj, if_pos hj]
    rfl
  · unfold wrB
    rw [hw, if_neg (by omega)]
theorem hs_one (h : Hi) : (hs h).1 = msk true := by rw [msk_true]; rfl
theorem Inv.step {H : List Hi} {k n : Nat} {C : List (BitVec 64)} (h : Inv H k (k + n) C) (hk1 : 1 ≤ k) (hk2 : k ≤ 32) (hn1 : 1 ≤ n) (hn2 : n ≤ 40) (hl : H.length ≤ 1000) (X : List Bool) (f : Nat) (E : List Ev) (hE : E.length + 3 * n + cpN (k + n) ≤ 8388608) :
    Inv (H ++ hbL X f n) k (k + n) (cpK 0 (3 * ((k : Int) + (n : Int))) (4 * ((k : Int) + (n : Int))) (4 * ((k : Int) + (n : Int)) + 1) k n (wrB X f k n C E).1 (wrB X f k n C E).2 6).1 := by
  obtain ⟨i1, i2, i3, i4⟩ := h
  obtain ⟨l1, l2⟩ := wrB_len X f k n C E
  obtain ⟨r1, r2, r3⟩ := wrB_rd X f k n C E i1
  rw [i1] at l1
  have hok := first_ok _ _ k n hk1 hk2 hn1 (by omega) l1 (show (wrB X f k n C E).2.length + cpN (k + n) ≤ 8388608 by rw [l2]; exact hE)
  have one : ∀ i, i < k + n → (rdV (wrB X f k n C E).1 (3 * i)).1 = msk (vB H X k i) ∧ (vB H X k i = false → rdV (wrB X f k n C E).1 (3 * i) = sl0) := fun i hi2 => by
    unfold vB
    by_cases hk : i < k
    · rw [if_pos hk, r1 i hk, i2 i hk]
      by_cases hh : i < H.length
      · rw [if_pos hh, decide_eq_true hh]; exact ⟨hs_one _, fun h => by cases h⟩
      · rw [if_neg hh, decide_eq_false hh]; exact ⟨rfl, fun _ => rfl⟩
    · rw [if_neg hk]
      have := r2 (i - k) (by omega)
      rw [show k + (i - k) = i by omega] at this
      rw [this]
      exact vaS_one X f (i - k)
  have PL := comp_plain (k + n) k n rfl rfl rfl rfl hok (vB H X k) (fun i hi2 => (one i hi2).1) (fun i hi2 hv => (one i hi2).2 hv)
  have hcn := cnt_vB2 H X k f n
  have hbl := hbL_len X f n
  refine ⟨PL.len.trans l1, fun x hx => ?_, ?_, ?_⟩
  · rw [List.length_append]
    by_cases hc : x < cnt (vB H X k) (k + n)
    · obtain ⟨i, e1, e2, e3⟩ := cnt_ex (vB H X k) (k + n) x hc
      have hkp : kpP (vB H X k) k i = true := by unfold kpP; rw [e2, e3, decide_eq_true hx]; rfl
      have hk3 := PL.kept i e1 hkp
      rw [e3] at hk3
      rw [hk3]
      by_cases hik : i < k
      · rw [cnt_vB1 H X k i (by omega)] at e3
        unfold vB at e2
        rw [if_pos hik] at e2
        have hih := of_decide_eq_true e2
        have hxi : x = i := by omega
        subst hxi
        rw [if_pos (by omega), r1 x hik, i2 x hik, if_pos hih, hi_appL _ _ _ hih]
      · obtain ⟨j, rfl⟩ : ∃ j, i = k + j := ⟨i - k, by omega⟩
        rw [cnt_vB2 H X k f j] at e3
        unfold vB at e2
        rw [if_neg (by omega), Nat.add_sub_cancel_left] at e2
        obtain ⟨b1, b2⟩ := hbL_at X f n j (by omega) e2
        rw [if_pos (by omega), r2 j (by omega), hi_appR _ _ _ (by omega), show x - H.length = (hbL X f j).length by omega, b2]
        unfold vaS
        rw [if_pos e2]
        rfl
    · rw [if_neg (by omega)]
      exact PL.rest x (by omega) hx
  · rw [PL.drop, r3 _ (by omega), i3, hcn, List.length_append]
    apply BitVec.eq_of_toNat_eq
    rw [sumM_toNat]
    simp only [BitVec.toNat_ofNat]
    omega
  · rw [PL.flag, r3 _ (by omega), i4, hcn, flag_or _ _ (by omega), List.length_append]
    by_cases hq : 0 < min k H.length + (hbL X f n).length - min (min k H.length + (hbL X f n).length) k
    · rw [if_pos hq, decide_eq_true (by omega)]
    · rw [if_neg hq]
      congr 1
      simp only [decide_eq_decide]
      omega
theorem hs_back (h : Hi) (h1 : 0 ≤ h.1) (h2 : h.1 ≤ 1000000000) (h3 : 0 ≤ h.2) (h4 : h.2 < 16) : vaB (hs h) = true ∧ hiV (hs h) = h := by
  refine ⟨by unfold vaB hs; exact decide_eq_true (by show (18446744073709551615#64).toNat % 2 = 1; decide), ?_⟩
  obtain ⟨a, b⟩ := h
  obtain ⟨a, rfl⟩ := Int.eq_ofNat_of_zero_le h1
  obtain ⟨b, rfl⟩ := Int.eq_ofNat_of_zero_le h3
  dsimp only at h2 h4
  unfold hiV hs
  have e : ∀ x : Nat, x ≤ 1000000000 → IntKind.i64.wrap (n64 (BitVec.ofNat 64 x)) = (x : Int) := fun x hx => by
    have : n64 (BitVec.ofNat 64 x) = (x : Int) := by unfold n64; rw [BitVec.toNat_ofNat]; omega
    rw [this]
    exact IntWalk.i64_in _ (by omega)
  show (IntKind.i64.wrap (n64 (BitVec.ofNat 64 a)), IntKind.i64.wrap (n64 (BitVec.ofNat 64 b))) = _
  rw [e a (by omega), e b (by omega)]
/-- The hits of the kept slots are the first hits. -/
theorem Inv.hits {H : List Hi} {k a b : Nat} {C : List (BitVec 64)} (h : Inv H k a C) (hA : Asc H b) : hiL (rdL 0 C k) = H.take k := by
  have key : ∀ m, m ≤ k → hiL ((rdL 0 C k).take m) = H.take m := by
    intro m
    induction m with
    | zero => intro _; rfl
    | succ m ih =>
      intro hm
      rw [hiL_step _ _ (by rw [rdL_len]; omega), ih (by omega), sl_rdL _ _ _ (by omega), h.2.1 m (by omega)]
      by_cases hh : m < H.length
      · obtain ⟨a1, a2, a3, a4⟩ := hA.1.1 m hh
        obtain ⟨b1, b2⟩ := hs_back (hi H m) (by omega) a2 a3 a4
        rw [if_pos hh, b1, if_pos rfl, b2]
        rw [List.take_add_one, List.getElem?_eq_getElem hh]
        congr 1
        simp [hi, List.getD, hh]
      · rw [if_neg hh, show vaB sl0 = false from rfl, if_neg (by simp), List.take_of_length_le (by omega), List.take_of_length_le (by omega)]
  have := key k (Nat.le_refl _)
  rwa [List.take_of_length_le (by rw [rdL_len]; exact Nat.le_refl _)] at this
end Go.Proofs.Ytedbafgejladiaa
