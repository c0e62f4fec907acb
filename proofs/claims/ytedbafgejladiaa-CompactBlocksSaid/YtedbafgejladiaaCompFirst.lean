import Derived.Test.YtedbafgejladiaaCompBl
import Derived.Test.YtedbafgejladiaaSlLaw
/-
  Plain facts for CompactFirst and CompactBlocks: slots that are valid or empty, in an arena; the first so many valid ones. Nothing of the program is named here.
-/
namespace Go.Proofs.Ytedbafgejladiaa
open Go.RowKit
open PackZ (cnt cnt_succ cnt_le cnt_step cnt_lt)
set_option linter.unusedVariables false
set_option linter.unusedSimpArgs false
/-- The slot at a place; the slots, of which the first k are made. -/
def vaS (l : List Bool) (f i : Nat) : Sl := if l.getD i false = true then (BitVec.ofNat 64 18446744073709551615, BitVec.ofNat 64 (f + i), BitVec.ofNat 64 (i % 16)) else (0#64, 0#64, 0#64)
def vaT (l : List Bool) (f n k : Nat) : List Sl := (List.range n).map fun i => if i < k then vaS l f i else (0#64, 0#64, 0#64)
theorem vaT_len (l : List Bool) (f n k : Nat) : (vaT l f n k).length = n := by simp [vaT]
theorem vaT_zero (l : List Bool) (f n : Nat) : vaT l f n 0 = List.replicate n (0#64, 0#64, 0#64) := by
  apply List.ext_getElem <;> simp [vaT]
theorem vaT_at (l : List Bool) (f n k i : Nat) (h : i < n) : sl (vaT l f n k) i = if i < k then vaS l f i else (0#64, 0#64, 0#64) := by simp [sl, vaT, h]
theorem vaT_no (l : List Bool) (f n k : Nat) (h : l.getD k false = false) : vaT l f n (k + 1) = vaT l f n k := by
  unfold vaT
  apply List.map_congr_left
  intro i _
  by_cases e : i = k
  · subst e
    rw [if_pos (by omega), if_neg (by omega)]
    unfold vaS
    rw [h]
    rfl
  · by_cases h2 : i < k
    · rw [if_pos h2, if_pos (by omega)]
    · rw [if_neg h2, if_neg (by omega)]
theorem vaT_yes (l : List Bool) (f n k : Nat) (hk : k < n) (h : l.getD k false = true) : vaT l f n (k + 1) = (vaT l f n k).set k (BitVec.ofNat 64 18446744073709551615, BitVec.ofNat 64 (f + k), BitVec.ofNat 64 (k % 16)) := by
  apply List.ext_getElem
  · simp [vaT]
  · intro i h1 h2
    rw [List.getElem_set]
    simp only [vaT, List.getElem_map, List.getElem_range]
    by_cases e : k = i
    · subst e
      rw [if_pos rfl, if_pos (by omega)]
      unfold vaS
      rw [if_pos h]
    · rw [if_neg e]
      by_cases h3 : i < k
      · rw [if_pos h3, if_pos (by omega)]
      · rw [if_neg h3, if_neg (by omega)]
theorem vaS_one (l : List Bool) (f i : Nat) : (vaS l f i).1 = msk (l.getD i false) ∧ (l.getD i false = false → vaS l f i = sl0) := by
  unfold vaS
  cases l.getD i false
  · exact ⟨rfl, fun _ => rfl⟩
  · exact ⟨by rw [if_pos rfl, msk_true]; rfl, fun h => by cases h⟩
theorem sl_appL (A B : List Sl) (i : Nat) (h : i < A.length) : sl (A ++ B) i = sl A i := by simp [sl, List.getD, List.getElem?_append_left h]
theorem sl_appR (A B : List Sl) (i : Nat) (h : A.length ≤ i) : sl (A ++ B) i = sl B (i - A.length) := by simp [sl, List.getD, List.getElem?_append_right h]
theorem bool_appL (A B : List Bool) (i : Nat) (h : i < A.length) : (A ++ B).getD i false = A.getD i false := by simp [List.getD, List.getElem?_append_left h]
theorem bool_appR (A B : List Bool) (i : Nat) (h : A.length ≤ i) : (A ++ B).getD i false = B.getD (i - A.length) false := by simp [List.getD, List.getElem?_append_right h]
theorem va_two (X Y : List Bool) (k n f g : Nat) (hX : X.length = k) (hY : Y.length = n) : (vaT X f k k ++ vaT Y g n n).length = k + n ∧ ∀ i, i < k + n → (sl (vaT X f k k ++ vaT Y g n n) i).1 = msk ((X ++ Y).getD i false) ∧ ((X ++ Y).getD i false = false → sl (vaT X f k k ++ vaT Y g n n) i = sl0) := by
  refine ⟨by simp [vaT_len], fun i hi => ?_⟩
  by_cases h : i < k
  · rw [sl_appL _ _ _ (by rw [vaT_len]; exact h), bool_appL _ _ _ (by omega), vaT_at _ _ _ _ _ h, if_pos h]
    exact vaS_one _ _ _
  · rw [sl_appR _ _ _ (by rw [vaT_len]; omega), bool_appR _ _ _ (by omega), vaT_len, hX, vaT_at _ _ _ _ _ (by omega), if_pos (by omega)]
    exact vaS_one _ _ _
theorem cnt_ex (V : Nat → Bool) : ∀ a x, x < cnt V a → ∃ i, i < a ∧ V i = true ∧ cnt V i = x := by
  intro a
  induction a with
  | zero => intro x h; exact absurd h (Nat.not_lt_zero _)
  | succ a ih =>
    intro x h
    rw [cnt_succ] at h
    by_cases h2 : x < cnt V a
    · obtain ⟨i, h3, h4, h5⟩ := ih x h2
      exact ⟨i, by omega, h4, h5⟩
    · cases e : V a
      · rw [e] at h; simp at h; omega
      · rw [e] at h; simp at h; exact ⟨a, by omega, e, by omega⟩
/-- The first k valid slots of the first i. -/
def waL (V : Nat → Bool) (L : Nat → Sl) (k : Nat) : Nat → List Sl
  | 0 => List.replicate k sl0
  | i + 1 => if V i = true ∧ cnt V i < k then (waL V L k i).set (cnt V i) (L i) else waL V L k i
theorem waL_len (V : Nat → Bool) (L : Nat → Sl) (k i : Nat) : (waL V L k i).length = k := by
  induction i with
  | zero => simp [waL]
  | succ i ih => unfold waL; split <;> simp [ih]
theorem waL_sl (V : Nat → Bool) (L : Nat → Sl) (k i : Nat) : (∀ j, j < i → V j = true → cnt V j < k → sl (waL V L k i) (cnt V j) = L j) ∧ ∀ x, cnt V i ≤ x → sl (waL V L k i) x = sl0 := by
  induction i with
  | zero =>
    refine ⟨fun j h => absurd h (Nat.not_lt_zero _), fun x _ => ?_⟩
    unfold waL sl
    by_cases h : x < k
    · simp [h, sl0]
    · rw [List.getD, List.getElem?_eq_none (show (List.replicate k sl0).length ≤ x by rw [List.length_replicate]; omega)]; rfl
  | succ i ih =>
    obtain ⟨h1, h2⟩ := ih
    have hs := cnt_succ (v := V) i
    unfold waL
    by_cases e : V i = true ∧ cnt V i < k
    · rw [if_pos e]
      rw [if_pos e.1] at hs
      have hset := fun x => PackZ.sl_set_at (waL V L k i) (cnt V i) x (L i) (by rw [waL_len]; exact e.2)
      refine ⟨fun j hj hv hk => ?_, fun x hx => ?_⟩
      · rw [hset]
        by_cases e2 : j = i
        · rw [e2, if_pos rfl]
        · have := cnt_lt (v := V) (show j < i by omega) hv
          rw [if_neg (by omega)]
          exact h1 j (by omega) hv hk
      · rw [hset, if_neg (by omega)]
        exact h2 x (by omega)
    · rw [if_neg e]
      refine ⟨fun j hj hv hk => ?_, fun x hx => h2 x (by rw [hs] at hx; exact Nat.le_trans (Nat.le_add_right _ _) hx)⟩
      by_cases e2 : j = i
      · subst e2; exact absurd ⟨hv, hk⟩ e
      · exact h1 j (by omega) hv hk
theorem sl_ext {A B : List Sl} (hl : A.length = B.length) (h : ∀ x, x < A.length → sl A x = sl B x) : A = B := by
  apply List.ext_getElem hl
  intro i h1 h2
  have := h i h1
  simpa [sl, List.getD, List.getElem?_eq_getElem h1, List.getElem?_eq_getElem h2] using this
theorem sl_rdL (C : List (BitVec 64)) (k x : Nat) (h : x < k) : sl (rdL 0 C k) x = rdV C (3 * x) := by simp [sl, rdL, h]
/-- What Compact leaves are the first valid slots. -/
theorem waL_rd {V : Nat → Bool} {a k : Nat} {C C6 : List (BitVec 64)} (h : CpPlain V a k C C6) (L : Nat → Sl) (hL : ∀ i, i < a → rdV C (3 * i) = L i) : waL V L k a = rdL 0 C6 k := by
  obtain ⟨w1, w2⟩ := waL_sl V L k a
  refine sl_ext (by rw [waL_len, rdL_len]) (fun x hx => ?_)
  rw [waL_len] at hx
  rw [sl_rdL _ _ _ hx]
  by_cases hc : x < cnt V a
  · obtain ⟨i, h1, h2, h3⟩ := cnt_ex V a x hc
    subst h3
    rw [w1 i h1 h2 hx, h.kept i h1 (by unfold kpP; rw [h2, decide_eq_true hx]; rfl), hL i h1]
  · rw [w2 x (by omega), h.rest x (by omega) hx]
    rfl
/-- The arena behind the slots, and two cells more. -/
def fiW (L : Nat → Sl) (a : Nat) (dv fv : BitVec 64) : List (BitVec 64) × List Ev :=
  (((wrS 0 L (List.replicate (4 * a + 2) 0, []) a).1.set (4 * a) dv).set (4 * a + 1) fv, ((wrS 0 L (List.replicate (4 * a + 2) 0, []) a).2 ++ [(2, 4 * a)]) ++ [(2, 4 * a + 1)])
theorem fiW_len (L : Nat → Sl) (a : Nat) (dv fv : BitVec 64) : (fiW L a dv fv).1.length = 4 * a + 2 ∧ (fiW L a dv fv).2.length = 3 * a + 2 := by
  obtain ⟨h1, h2⟩ := wrS_len 0 L (List.replicate (4 * a + 2) (0 : BitVec 64), []) a
  refine ⟨?_, ?_⟩
  · show (List.set (List.set _ _ _) _ _).length = _
    rw [List.length_set, List.length_set, h1]; simp
  · show (((wrS 0 L (List.replicate (4 * a + 2) 0, []) a).2 ++ [(2, 4 * a)]) ++ [(2, 4 * a + 1)]).length = _
    rw [List.length_append, List.length_append, h2]; simp
theorem slc_sl (v : Sl) : slc v 0 = v.1 ∧ slc v 1 = v.2.1 ∧ slc v 2 = v.2.2 := ⟨rfl, rfl, rfl⟩
theorem fiW_cl (L : Nat → Sl) (a : Nat) (dv fv : BitVec 64) : (∀ i, i < a → rdV (fiW L a dv fv).1 (3 * i) = L i) ∧ cl (fiW L a dv fv).1 (4 * a) = dv ∧ cl (fiW L a dv fv).1 (4 * a + 1) = fv := by
  obtain ⟨h1, h2⟩ := wrS_len 0 L (List.replicate (4 * a + 2) (0 : BitVec 64), []) a
  have hl : (wrS 0 L (List.replicate (4 * a + 2) (0 : BitVec 64), []) a).1.length = 4 * a + 2 := by rw [h1]; simp
  have key : ∀ x, cl (fiW L a dv fv).1 x = if x = 4 * a + 1 then fv else if x = 4 * a then dv else cl (wrS 0 L (List.replicate (4 * a + 2) (0 : BitVec 64), []) a).1 x := fun x => by
    show cl (List.set (List.set _ _ _) _ _) x = _
    rw [cl_setP _ _ _ _ (by rw [List.length_set, hl]; omega), cl_setP _ _ _ _ (by omega)]
  refine ⟨fun i hi => ?_, by rw [key, if_neg (by omega), if_pos rfl], by rw [key, if_pos rfl]⟩
  unfold rdV
  rw [key, key, key]
  have hw := fun c (hc : c < 3) => cl_wrS 0 L (List.replicate (4 * a + 2) (0 : BitVec 64), []) a (3 * i + c) (by simp; omega)
  have e : ∀ c, c < 3 → cl (wrS 0 L (List.replicate (4 * a + 2) (0 : BitVec 64), []) a).1 (3 * i + c) = slc (L i) c := fun c hc => by
    rw [hw c hc, if_pos (by omega), show (3 * i + c - 0) / 3 = i by omega, show (3 * i + c - 0) % 3 = c by omega]
  have e0 : cl (wrS 0 L (List.replicate (4 * a + 2) (0 : BitVec 64), []) a).1 (3 * i) = slc (L i) 0 := e 0 (by omega)
  rw [if_neg (by omega), if_neg (by omega), if_neg (by omega), if_neg (by omega), if_neg (by omega), if_neg (by omega), e0, e 1 (by omega), e 2 (by omega)]
  rfl
theorem sum_drop (dr o : Nat) (h : dr ≤ 65535) (ho : o ≤ 100000) : n64 (sumM (BitVec.ofNat 64 dr) (BitVec.ofNat 64 o) 65535#64) = min ((dr : Int) + (o : Int)) 65535 := by
  unfold n64
  rw [sumM_toNat, BitVec.toNat_ofNat, BitVec.toNat_ofNat, Nat.mod_eq_of_lt (show dr < 2 ^ 64 by omega), Nat.mod_eq_of_lt (show o < 2 ^ 64 by omega)]
  show ((min (dr + o) 65535 : Nat) : Int) = _
  omega
theorem flag_or (b : Bool) (o : Nat) (ho : o ≤ 100000) : msk b ||| ~~~ zeM (BitVec.ofNat 64 o) = if 0 < o then msk true else msk b := by
  unfold zeM
  rw [BitVec.toNat_ofNat, Nat.mod_eq_of_lt (show o < 2 ^ 64 by omega), msk_not]
  by_cases h : 0 < o
  · rw [if_pos h, decide_eq_false (by omega)]; cases b <;> rfl
  · rw [if_neg h, decide_eq_true (by omega)]; cases b <;> rfl
/-- Compact finds nothing wrong with these. -/
theorem first_ok (nC nE a b : Nat) (h1 : 1 ≤ a) (h2 : a ≤ 32) (h3 : 1 ≤ b) (h4 : b ≤ 256) (hC : nC = 4 * (a + b) + 2) (hE : nE + cpN (a + b) ≤ 8388608) : CpOk nC nE 0 (3 * ((a : Int) + (b : Int))) (4 * ((a : Int) + (b : Int))) (4 * ((a : Int) + (b : Int)) + 1) a b := by
  have hc := cpN_le (a := a + b) (by omega) (by omega)
  refine ⟨h1, h2, h3, h4, by omega, ?_, by omega, ?_, by omega, ?_, by omega, ?_, by omega, ?_⟩
  all_goals omega
theorem first_cpE (nC nE a b : Nat) (h1 : 1 ≤ a) (h2 : a ≤ 32) (h3 : 1 ≤ b) (h4 : b ≤ 256) (hC : nC = 4 * (a + b) + 2) (hE : nE + cpN (a + b) ≤ 8388608) : cpE nC nE 0 (3 * ((a : Int) + (b : Int))) (4 * ((a : Int) + (b : Int))) (4 * ((a : Int) + (b : Int)) + 1) a b = 0 := by
  have hc := cpN_le (a := a + b) (by omega) (by omega)
  unfold cpE
  rw [if_neg (by omega)]
  have e0 : hasL nC (cpL 0 (3 * ((a : Int) + (b : Int))) (4 * ((a : Int) + (b : Int))) (4 * ((a : Int) + (b : Int)) + 1) a b) = 0 := by
    rw [hC]
    have q1 : hasE (4 * (a + b) + 2) 0 (3 * ((a : Int) + (b : Int))) = 0 := by unfold hasE; rw [if_neg (by omega)]
    have q2 : hasE (4 * (a + b) + 2) (3 * ((a : Int) + (b : Int))) ((a : Int) + (b : Int)) = 0 := by unfold hasE; rw [if_neg (by omega)]
    have q3 : hasE (4 * (a + b) + 2) (4 * ((a : Int) + (b : Int))) 1 = 0 := by unfold hasE; rw [if_neg (by omega)]
    have q4 : hasE (4 * (a + b) + 2) (4 * ((a : Int) + (b : Int)) + 1) 1 = 0 := by unfold hasE; rw [if_neg (by omega)]
    simp only [cpL, hasL, q1, q2, q3, q4, if_true]
  rw [e0, if_pos rfl]
  have e1 : meL (cpL 0 (3 * ((a : Int) + (b : Int))) (4 * ((a : Int) + (b : Int))) (4 * ((a : Int) + (b : Int)) + 1) a b) = false := by
    refine meL_no _ (fun i hi => ?_)
    have hi4 : i = 0 ∨ i = 1 ∨ i = 2 ∨ i = 3 := by simp [cpL] at hi; omega
    rcases hi4 with rfl | rfl | rfl | rfl
    all_goals
      simp only [anyM, cpL, pt, meB, List.getD_cons_zero, List.getD_cons_succ, List.take_zero, List.take_succ_cons, List.any_nil, List.any_cons, Bool.or_false, Bool.or_eq_false_iff, Bool.and_eq_false_iff, decide_eq_false_iff_not]
      try omega
  rw [e1]
  simp only [Bool.false_eq_true, if_false]
  unfold roomE
  rw [show ((a : Int) + (b : Int)).toNat = a + b by omega, if_neg (by omega), if_neg (by omega)]
end Go.Proofs.Ytedbafgejladiaa

