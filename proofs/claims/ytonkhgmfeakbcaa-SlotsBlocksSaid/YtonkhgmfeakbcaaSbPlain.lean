/-
  Plain facts for SlotsBlocks: what Fill leaves for the bytes of a block, in whatever order; its hits. Nothing of the program is named here.
-/
import Derived.Test.YtonkhgmfeakbcaaSlLaw
import Derived.Test.YtonkhgmfeakbcaaHitSorted
namespace Go.Proofs.Ytonkhgmfeakbcaa
open Go.RowKit
set_option linter.unusedVariables false
set_option linter.unusedSimpArgs false
theorem hi_appL (A B : List Hi) (x : Nat) (h : x < A.length) : hi (A ++ B) x = hi A x := by simp [hi, List.getD, List.getElem?_append_left h]
theorem hi_appR (A B : List Hi) (x : Nat) (h : A.length ≤ x) : hi (A ++ B) x = hi B (x - A.length) := by simp [hi, List.getD, List.getElem?_append_right h]
def bB (B : List Nat) (i r : Nat) : Bool := decide (B.getD i 0 / 2 ^ r % 2 = 1)
def vB (B : List Nat) (R : List Bool) (i r : Nat) : Bool := R.getD i false && bB B i r
/-- The slot of a byte and a rule. -/
def sB (B : List Nat) (R : List Bool) (last i r : Nat) : Sl := if vB B R i r = true then (msk true, BitVec.ofNat 64 (last + i + 1), BitVec.ofNat 64 r) else (0#64, 0#64, 0#64)
/-- The hits of the first places. -/
def wB (B : List Nat) (R : List Bool) (last P : Nat) : Nat → List Hi
  | 0 => []
  | x + 1 => if vB B R (x / P) (x % P) = true then wB B R last P x ++ [(((last + x / P + 1 : Nat) : Int), ((x % P : Nat) : Int))] else wB B R last P x
theorem wB_succ (B : List Nat) (R : List Bool) (last P x : Nat) : wB B R last P (x + 1) = if vB B R (x / P) (x % P) = true then wB B R last P x ++ [(((last + x / P + 1 : Nat) : Int), ((x % P : Nat) : Int))] else wB B R last P x := rfl
theorem wB_len (B : List Nat) (R : List Bool) (last P x : Nat) : (wB B R last P x).length ≤ x := by
  induction x with
  | zero => exact Nat.le_refl _
  | succ x ih =>
    rw [wB_succ]
    split
    · rw [List.length_append]; simp; omega
    · omega
theorem wB_at (B : List Nat) (R : List Bool) (last P i r : Nat) (hr : r < P) : wB B R last P (P * i + (r + 1)) = if vB B R i r = true then wB B R last P (P * i + r) ++ [(((last + i + 1 : Nat) : Int), ((r : Nat) : Int))] else wB B R last P (P * i + r) := by
  have e1 : (P * i + r) / P = i := by rw [Nat.mul_add_div (by omega), Nat.div_eq_of_lt hr, Nat.add_zero]
  have e2 : (P * i + r) % P = r := by rw [Nat.mul_add_mod, Nat.mod_eq_of_lt hr]
  rw [← Nat.add_assoc, wB_succ, e1, e2]
theorem wB_asc (B : List Nat) (R : List Bool) (last P : Nat) (hP : 1 ≤ P) (hP2 : P ≤ 16) (hlast : last ≤ 1000000) : ∀ x, x ≤ 256 → HiAsc (wB B R last P x) ∧ ∀ i, i < (wB B R last P x).length → ∃ y, y < x ∧ hi (wB B R last P x) i = (((last + y / P + 1 : Nat) : Int), ((y % P : Nat) : Int)) := by
  intro x
  induction x with
  | zero => exact fun _ => ⟨⟨fun i h => absurd h (Nat.not_lt_zero _), fun i h => absurd h (Nat.not_lt_zero _)⟩, fun i h => absurd h (Nat.not_lt_zero _)⟩
  | succ x ih =>
    intro hx
    obtain ⟨⟨h1, h2⟩, h3⟩ := ih (by omega)
    rw [wB_succ]
    split
    · obtain ⟨H, hH⟩ : ∃ H, wB B R last P x = H := ⟨_, rfl⟩
      rw [hH] at h1 h2 h3 ⊢
      have hq : x / P ≤ 256 := Nat.le_trans (Nat.div_le_self _ _) (by omega)
      have hm : x % P < P := Nat.mod_lt _ (by omega)
      have e1 := Nat.div_add_mod x P
      have hdm : ∀ y, y < x → y / P ≤ x / P := fun y hy => Nat.div_le_div_right (by omega)
      obtain ⟨qa, hqa⟩ : ∃ a, x / P = a := ⟨_, rfl⟩
      obtain ⟨qb, hqb⟩ : ∃ b, x % P = b := ⟨_, rfl⟩
      rw [hqa] at hq hdm e1 ⊢
      rw [hqb] at hm e1 ⊢
      have lst : hi (H ++ [(((last + qa + 1 : Nat) : Int), ((qb : Nat) : Int))]) H.length = (((last + qa + 1 : Nat) : Int), ((qb : Nat) : Int)) := by rw [hi_appR _ _ _ (Nat.le_refl _), Nat.sub_self]; rfl
      have hl : (H ++ [(((last + qa + 1 : Nat) : Int), ((qb : Nat) : Int))]).length = H.length + 1 := by simp
      refine ⟨⟨fun i hi2 => ?_, fun i hi2 => ?_⟩, fun i hi2 => ?_⟩
      · by_cases e : i < H.length
        · rw [hi_appL _ _ _ e]; exact h1 i e
        · rw [show i = H.length by omega, lst]; refine ⟨?_, ?_, ?_, ?_⟩ <;> dsimp only <;> omega
      · by_cases e : i + 1 < H.length
        · rw [hi_appL _ _ _ e, hi_appL _ _ _ (by omega)]; exact h2 i e
        · rw [show i + 1 = H.length by omega, lst, hi_appL _ _ _ (by omega)]
          obtain ⟨y, hy, he⟩ := h3 i (by omega)
          rw [he]
          have e2 := Nat.div_add_mod y P
          have hyx := hdm y hy
          generalize y / P = ya at *
          generalize y % P = yb at *
          by_cases hlt : ya < qa
          · left; dsimp only; omega
          · right
            rw [show ya = qa by omega] at e2 ⊢
            refine ⟨rfl, ?_⟩
            dsimp only
            omega
      · by_cases e : i < H.length
        · rw [hi_appL _ _ _ e]
          obtain ⟨y, hy, he⟩ := h3 i e
          exact ⟨y, by omega, he⟩
        · rw [show i = H.length by omega, lst]; exact ⟨x, by omega, by rw [hqa, hqb]⟩
    · exact ⟨⟨h1, h2⟩, fun i hi2 => by obtain ⟨y, hy, he⟩ := h3 i hi2; exact ⟨y, by omega, he⟩⟩
/-- The order of the bytes. -/
def od (odd : Bool) (n k : Nat) : Nat := if odd = true then n - 1 - k else k
/-- The first bytes, in the order, are filled. -/
def SbI (B : List Nat) (R : List Bool) (last P n : Nat) (odd : Bool) (k : Nat) (C : List (BitVec 64)) : Prop :=
  C.length = 3 * (n * P) + P ∧ ∀ j, j < k → ∀ r, r < P → rdV C (3 * (P * od odd n j + r)) = sB B R last (od odd n j) r
/-- The bits of a byte are stored. -/
def StI (B : List Nat) (P n i : Nat) (C C1 : List (BitVec 64)) (r : Nat) : Prop :=
  C1.length = C.length ∧ (∀ x, x < 3 * (n * P) → cl C1 x = cl C x) ∧ ∀ q, q < r → ((cl C1 (3 * (n * P) + q)).toNat % 2 = 1 ↔ bB B i q = true)
theorem StI.start (B : List Nat) (P n i : Nat) (C : List (BitVec 64)) : StI B P n i C C 0 := ⟨rfl, fun _ _ => rfl, fun q h => absurd h (Nat.not_lt_zero _)⟩
theorem cl_setB (C : List (BitVec 64)) (i x : Nat) (u : BitVec 64) (h : i < C.length) : cl (C.set i u) x = if x = i then u else cl C x := by
  unfold cl
  rw [List.getD_eq_getElem?_getD, List.getD_eq_getElem?_getD, List.getElem?_set]
  by_cases e : i = x
  · subst e; simp [h]
  · rw [if_neg e, if_neg (fun h => e h.symm)]
theorem StI.put {B : List Nat} {P n i r : Nat} {C C1 : List (BitVec 64)} (h : StI B P n i C C1 r) (hC : C.length = 3 * (n * P) + P) (hr : r < P) (v : BitVec 64) (hv : v.toNat % 2 = 1 ↔ bB B i r = true) : StI B P n i C (C1.set (3 * (n * P) + r) v) (r + 1) := by
  obtain ⟨h1, h2, h3⟩ := h
  have hs := fun x => cl_setB C1 (3 * (n * P) + r) x v (by rw [h1, hC]; omega)
  refine ⟨by rw [List.length_set, h1], fun x hx => by rw [hs, if_neg (by omega), h2 x hx], fun q hq => ?_⟩
  rw [hs]
  by_cases e : q = r
  · subst e; rw [if_pos rfl]; exact hv
  · rw [if_neg (by omega)]; exact h3 q (by omega)
theorem SbI.step {B : List Nat} {R : List Bool} {last P n k : Nat} {odd : Bool} {C C1 : List (BitVec 64)} (h : SbI B R last P n odd k C) (hk : k < n) (hP : 1 ≤ P) (h1 : StI B P n (od odd n k) C C1 P) (E1 : List Ev) :
    SbI B R last P n odd (k + 1) (fiS (3 * (n * P)) (0 + 3 * P * od odd n k) (R.getD (od odd n k) false) (BitVec.ofNat 64 (last + od odd n k + 1)) (C1, E1) P).1 := by
  obtain ⟨i, hi⟩ : ∃ i, od odd n k = i := ⟨_, rfl⟩
  have hin : i < n := by rw [← hi]; unfold od; split <;> omega
  have hPi : P * i + P ≤ n * P := by have := Nat.mul_le_mul_right P (show i + 1 ≤ n by omega); rw [Nat.add_mul, Nat.one_mul, Nat.mul_comm i P] at this; exact this
  rw [hi] at h1 ⊢
  obtain ⟨g1, g2⟩ := h
  obtain ⟨a1, a2, a3⟩ := h1
  have hf : 0 + 3 * P * i = 3 * (P * i) := by rw [Nat.zero_add, Nat.mul_assoc]
  rw [hf]
  have hc := fun x => cl_fiS (3 * (n * P)) (3 * (P * i)) (R.getD i false) (BitVec.ofNat 64 (last + i + 1)) (C1, E1) P x (by show 3 * (P * i) + 3 * P ≤ C1.length; rw [a1, g1]; omega) (.inr (by omega))
  refine ⟨by rw [(fiS_len _ _ _ _ _ _).1]; exact a1.trans g1, fun j hj r hr => ?_⟩
  by_cases e : j = k
  · subst e
    rw [hi]
    unfold rdV
    rw [hc, hc, hc, if_pos (by omega), if_pos (by omega), if_pos (by omega)]
    rw [show (3 * (P * i + r) - 3 * (P * i)) / 3 = r by omega, show (3 * (P * i + r) + 1 - 3 * (P * i)) / 3 = r by omega, show (3 * (P * i + r) + 2 - 3 * (P * i)) / 3 = r by omega, show (3 * (P * i + r) - 3 * (P * i)) % 3 = 0 by omega, show (3 * (P * i + r) + 1 - 3 * (P * i)) % 3 = 1 by omega, show (3 * (P * i + r) + 2 - 3 * (P * i)) % 3 = 2 by omega]
    have hb := a3 r hr
    have : fiV (R.getD i false) (BitVec.ofNat 64 (last + i + 1)) r (cl C1 (3 * (n * P) + r)) = sB B R last i r := by
      unfold fiV sB vB
      by_cases e : (cl C1 (3 * (n * P) + r)).toNat % 2 = 1
      · rw [decide_eq_true e, hb.1 e]
      · have : bB B i r = false := by cases q : bB B i r; rfl; exact absurd (hb.2 q) e
        rw [decide_eq_false e, this]
    show (slc (fiV _ _ r (cl C1 _)) 0, slc (fiV _ _ r (cl C1 _)) 1, slc (fiV _ _ r (cl C1 _)) 2) = _
    rw [this]
    rfl
  · have hjk : j < k := by omega
    have hne : od odd n j ≠ i := by rw [← hi]; unfold od; split <;> omega
    have hjn : od odd n j < n := by unfold od; split <;> omega
    have := g2 j hjk r hr
    rw [← this]
    obtain ⟨i2, hi2⟩ : ∃ i2, od odd n j = i2 := ⟨_, rfl⟩
    rw [hi2] at hne hjn ⊢
    have hP2 : P * i2 + P ≤ n * P := by have := Nat.mul_le_mul_right P (show i2 + 1 ≤ n by omega); rw [Nat.add_mul, Nat.one_mul, Nat.mul_comm i2 P] at this; exact this
    have hap : P * i2 + P ≤ P * i ∨ P * i + P ≤ P * i2 := by
      rcases Nat.lt_or_gt_of_ne hne with h | h
      · left; have := Nat.mul_le_mul_left P (show i2 + 1 ≤ i by omega); rw [Nat.mul_add, Nat.mul_one] at this; exact this
      · right; have := Nat.mul_le_mul_left P (show i + 1 ≤ i2 by omega); rw [Nat.mul_add, Nat.mul_one] at this; exact this
    unfold rdV
    rw [hc, hc, hc, if_neg (by omega), if_neg (by omega), if_neg (by omega)]
    dsimp only
    rw [a2 _ (by omega), a2 _ (by omega), a2 _ (by omega)]
theorem sB_one (B : List Nat) (R : List Bool) (last i r : Nat) (hl : last + i + 1 ≤ 1000000000) (hr : r ≤ 16) : vaB (sB B R last i r) = vB B R i r ∧ (vB B R i r = true → hiV (sB B R last i r) = (((last + i + 1 : Nat) : Int), ((r : Nat) : Int))) := by
  have e : ∀ x : Nat, x ≤ 1000000000 → IntKind.i64.wrap (n64 (BitVec.ofNat 64 x)) = (x : Int) := fun x hx => by
    have : n64 (BitVec.ofNat 64 x) = (x : Int) := by unfold n64; rw [BitVec.toNat_ofNat]; omega
    rw [this]
    exact IntWalk.i64_in _ (by omega)
  unfold sB
  cases vB B R i r
  · exact ⟨rfl, fun h => by cases h⟩
  · rw [if_pos rfl]
    refine ⟨by unfold vaB; rw [msk_true]; exact decide_eq_true (by show (BitVec.allOnes 64).toNat % 2 = 1; decide), fun _ => ?_⟩
    show (IntKind.i64.wrap (n64 (BitVec.ofNat 64 (last + i + 1))), IntKind.i64.wrap (n64 (BitVec.ofNat 64 r))) = _
    rw [e _ hl, e _ (by omega)]
theorem sl_rdLB (C : List (BitVec 64)) (k x : Nat) (h : x < k) : sl (rdL 0 C k) x = rdV C (3 * x) := by simp [sl, rdL, h]
/-- The hits of what is left are those that are wanted. -/
theorem SbI.hits {B : List Nat} {R : List Bool} {last P n : Nat} {odd : Bool} {C : List (BitVec 64)} (h : SbI B R last P n odd n C) (hP : 1 ≤ P) (hP2 : P ≤ 16) (hn : n ≤ 16) (hl : last ≤ 1000000) : hiL (rdL 0 C (n * P)) = wB B R last P (n * P) := by
  have one : ∀ i r, i < n → r < P → rdV C (3 * (P * i + r)) = sB B R last i r := fun i r hi hr => by
    have := h.2 (od odd n i) (by unfold od; split <;> omega) r hr
    rwa [show od odd n (od odd n i) = i by unfold od; split <;> omega] at this
  have key : ∀ m, m ≤ n * P → hiL ((rdL 0 C (n * P)).take m) = wB B R last P m := by
    intro m
    induction m with
    | zero => intro _; rfl
    | succ m ih =>
      intro hm
      have hd : m / P < n := Nat.div_lt_of_lt_mul (by rw [Nat.mul_comm]; omega)
      have hmm : m % P < P := Nat.mod_lt _ (by omega)
      have e : P * (m / P) + m % P = m := Nat.div_add_mod m P
      have hs := one (m / P) (m % P) hd hmm
      rw [e] at hs
      obtain ⟨b1, b2⟩ := sB_one B R last (m / P) (m % P) (by omega) (by omega)
      rw [hiL_step _ _ (by rw [rdL_len]; omega), ih (by omega), sl_rdLB _ _ _ (by omega), hs, b1, wB_succ]
      by_cases hv : vB B R (m / P) (m % P) = true
      · rw [if_pos hv, if_pos hv, b2 hv]
      · rw [if_neg hv, if_neg hv]
  have := key (n * P) (Nat.le_refl _)
  rwa [List.take_of_length_le (by rw [rdL_len]; exact Nat.le_refl _)] at this
end Go.Proofs.Ytonkhgmfeakbcaa
