import Derived.Test.YtedbafgejladiaaComp
import Derived.Test.YtedbafgejladiaaPackZ
import Derived.Test.YtedbafgejladiaaSlPure
/-
  What Compact computes, over slots that are valid or empty: the first valid ones, in order; how many others there were. Nothing of the program is named here.
-/
namespace Go.Proofs.Ytedbafgejladiaa
open Go.RowKit
open PackZ (cnt cnt_succ cnt_le cnt_step cnt_lt)
set_option linter.unusedVariables false
set_option linter.unusedSimpArgs false
set_option maxRecDepth 100000
theorem cl_setP (C : List (BitVec 64)) (i x : Nat) (u : BitVec 64) (h : i < C.length) : cl (C.set i u) x = if x = i then u else cl C x := PackZ.cl_set C i x u h
theorem ofM_mskP (b : Bool) : ofM (msk b) = msk b := by cases b <;> rfl
theorem msk_oneP (b : Bool) : msk b &&& 1#64 = BitVec.ofNat 64 (if b = true then 1 else 0) := by cases b <;> rfl
theorem lt_mskP (a b : Nat) (ha : a < 1000000) (hb : b < 1000000) : ltM (BitVec.ofNat 64 a) (BitVec.ofNat 64 b) = msk (decide (a < b)) := by
  unfold ltM
  rw [BitVec.toNat_ofNat, BitVec.toNat_ofNat, Nat.mod_eq_of_lt (show a < 2 ^ 64 by omega), Nat.mod_eq_of_lt (show b < 2 ^ 64 by omega)]
theorem msk_ifP (b : Bool) (x : BitVec 64) : msk b &&& x = if b = true then x else 0#64 := by
  cases b
  · simp [msk]
  · rw [msk_true, BitVec.allOnes_and]; simp
theorem ofNat_subP (i r : Nat) (h : r ≤ i) (hi : i < 1000000) : BitVec.ofNat 64 i - BitVec.ofNat 64 r = BitVec.ofNat 64 (i - r) := by
  apply BitVec.eq_of_toNat_eq
  rw [BitVec.toNat_sub]
  simp only [BitVec.toNat_ofNat]
  omega
/-- The slot is kept: it is one of the first K valid ones. -/
def kpP (V : Nat → Bool) (K i : Nat) : Bool := V i && decide (cnt V i < K)
theorem cnt_kp (V : Nat → Bool) (K i : Nat) : cnt (kpP V K) i = min (cnt V i) K := by
  induction i with
  | zero => simp [cnt]
  | succ i ih =>
    rw [cnt_succ, cnt_succ, ih]
    unfold kpP
    cases V i
    · simp
    · by_cases h : cnt V i < K
      · rw [decide_eq_true h]; simp; omega
      · rw [decide_eq_false h]; simp; omega
section
variable {a : Nat} {C : List (BitVec 64)} {V : Nat → Bool}
theorem rk_stage (ha : a ≤ 288) (hC : 4 * a ≤ C.length) (hV : ∀ i, i < a → cl C (3 * i) = msk (V i)) (E : List Ev) : ∀ i, i ≤ a →
    (repS (rkF 0 (3 * a)) (C, E, 0#64) i).1.length = C.length ∧ (∀ j, cl (repS (rkF 0 (3 * a)) (C, E, 0#64) i).1 j = if 3 * a ≤ j ∧ j < 3 * a + i then BitVec.ofNat 64 (cnt V (j - 3 * a)) else cl C j) ∧ (repS (rkF 0 (3 * a)) (C, E, 0#64) i).2.2 = BitVec.ofNat 64 (cnt V i) := by
  intro i
  induction i with
  | zero => exact fun _ => ⟨rfl, fun j => by rw [repS_zero, if_neg (by omega)], rfl⟩
  | succ i ih =>
    intro hi
    obtain ⟨h1, h2, h3⟩ := ih (by omega)
    rw [repS_succ]
    revert h1 h2 h3
    generalize repS (rkF 0 (3 * a)) (C, E, 0#64) i = q
    obtain ⟨D, E1, m⟩ := q
    intro h1 h2 h3
    dsimp only at h1 h2 h3
    have hv : ofM (cl D (0 + 3 * i)) = msk (V i) := by rw [Nat.zero_add, h2, if_neg (by omega), hV i (by omega), ofM_mskP]
    unfold rkF
    refine ⟨by simp [h1], fun j => ?_, ?_⟩
    · show cl (D.set (3 * a + i) m) j = _
      rw [cl_setP _ _ _ _ (by omega), h2]
      by_cases e : j = 3 * a + i
      · rw [if_pos e, if_pos (by omega), h3, show j - 3 * a = i by omega]
      · rw [if_neg e]
        by_cases e2 : 3 * a ≤ j ∧ j < 3 * a + i
        · rw [if_pos e2, if_pos (by omega)]
        · rw [if_neg e2, if_neg (by omega)]
    · show m + (ofM (cl D (0 + 3 * i)) &&& 1#64) = _
      rw [hv, h3, msk_oneP, cnt_succ]
      apply BitVec.eq_of_toNat_eq
      rw [BitVec.toNat_add]
      simp only [BitVec.toNat_ofNat]
      omega
theorem sp_stage (ha : a ≤ 288) (K : Nat) (hK : K ≤ 300) (hC : 4 * a ≤ C.length) (hV : ∀ i, i < a → cl C (3 * i) = msk (V i)) (hR : ∀ i, i < a → cl C (3 * a + i) = BitVec.ofNat 64 (cnt V i)) (E : List Ev) : ∀ i, i ≤ a →
    (repS (spF (bv (K : Int)) 0 (3 * a)) (C, E, 0#64) i).1.length = C.length ∧ (∀ j, cl (repS (spF (bv (K : Int)) 0 (3 * a)) (C, E, 0#64) i).1 j = if j % 3 = 0 ∧ j < 3 * i then msk (kpP V K (j / 3)) else cl C j) ∧ (repS (spF (bv (K : Int)) 0 (3 * a)) (C, E, 0#64) i).2.2 = BitVec.ofNat 64 (cnt V i - min (cnt V i) K) := by
  have hb : bv (K : Int) = BitVec.ofNat 64 K := by unfold bv; exact BitVec.ofInt_natCast ..
  rw [hb]
  intro i
  induction i with
  | zero => exact fun _ => ⟨rfl, fun j => by rw [repS_zero, if_neg (by omega)], by rw [repS_zero]; simp [cnt]⟩
  | succ i ih =>
    intro hi
    obtain ⟨h1, h2, h3⟩ := ih (by omega)
    rw [repS_succ]
    revert h1 h2 h3
    generalize repS (spF (BitVec.ofNat 64 K) 0 (3 * a)) (C, E, 0#64) i = q
    obtain ⟨D, E1, m⟩ := q
    intro h1 h2 h3
    dsimp only at h1 h2 h3
    have hcl := cnt_le (v := V) i
    have hv : ofM (cl D (0 + 3 * i)) = msk (V i) := by rw [Nat.zero_add, h2, if_neg (by omega), hV i (by omega), ofM_mskP]
    have hr : cl D (3 * a + i) = BitVec.ofNat 64 (cnt V i) := by rw [h2, if_neg (by omega), hR i (by omega)]
    have hs : spK (BitVec.ofNat 64 K) 0 (3 * a) D i = msk (kpP V K i) := by
      unfold spK
      rw [hv, hr, lt_mskP _ _ (by omega) (by omega), msk_and]
      rfl
    unfold spF
    refine ⟨by simp [h1], fun j => ?_, ?_⟩
    · show cl (D.set (0 + 3 * i) (spK (BitVec.ofNat 64 K) 0 (3 * a) D i)) j = _
      rw [hs, Nat.zero_add, cl_setP _ _ _ _ (by omega), h2]
      by_cases e : j = 3 * i
      · rw [if_pos e, if_pos (by omega), show j / 3 = i by omega]
      · rw [if_neg e]
        by_cases e2 : j % 3 = 0 ∧ j < 3 * i
        · rw [if_pos e2, if_pos (by omega)]
        · rw [if_neg e2, if_neg (by omega)]
    · show m + ((ofM (cl D (0 + 3 * i)) &&& ~~~ spK (BitVec.ofNat 64 K) 0 (3 * a) D i) &&& 1#64) = _
      rw [hs, hv, h3, msk_not, msk_and, msk_oneP, cnt_succ]
      apply BitVec.eq_of_toNat_eq
      rw [BitVec.toNat_add]
      simp only [BitVec.toNat_ofNat]
      unfold kpP
      cases V i
      · simp
      · by_cases hlt : cnt V i < K
        · rw [decide_eq_true hlt]; simp; omega
        · rw [decide_eq_false hlt]; simp; omega
theorem di_stage (ha : a ≤ 288) (W : Nat → Bool) (R : Nat → Nat) (hC : 4 * a ≤ C.length) (hV : ∀ i, i < a → cl C (3 * i) = msk (W i)) (hR : ∀ i, i < a → cl C (3 * a + i) = BitVec.ofNat 64 (R i)) (hle : ∀ i, R i ≤ i) (E : List Ev) : ∀ i, i ≤ a →
    (repS (diF 0 (3 * a)) (C, E, 0#64) i).1.length = C.length ∧ (∀ j, cl (repS (diF 0 (3 * a)) (C, E, 0#64) i).1 j = if 3 * a ≤ j ∧ j < 3 * a + i then (if W (j - 3 * a) = true then BitVec.ofNat 64 (j - 3 * a - R (j - 3 * a)) else 0#64) else cl C j) := by
  intro i
  induction i with
  | zero => exact fun _ => ⟨rfl, fun j => by rw [repS_zero, if_neg (by omega)]⟩
  | succ i ih =>
    intro hi
    obtain ⟨h1, h2⟩ := ih (by omega)
    rw [repS_succ]
    revert h1 h2
    generalize repS (diF 0 (3 * a)) (C, E, 0#64) i = q
    obtain ⟨D, E1, m⟩ := q
    intro h1 h2
    dsimp only at h1 h2
    have hv : ofM (cl D (0 + 3 * i)) = msk (W i) := by rw [Nat.zero_add, h2, if_neg (by omega), hV i (by omega), ofM_mskP]
    have hr : cl D (3 * a + i) = BitVec.ofNat 64 (R i) := by rw [h2, if_neg (by omega), hR i (by omega)]
    unfold diF
    refine ⟨by simp [h1], fun j => ?_⟩
    show cl (D.set (3 * a + i) (ofM (cl D (0 + 3 * i)) &&& (BitVec.ofNat 64 i - cl D (3 * a + i)))) j = _
    rw [hv, hr, ofNat_subP _ _ (hle i) (by omega), msk_ifP, cl_setP _ _ _ _ (by omega), h2]
    by_cases e : j = 3 * a + i
    · rw [if_pos e, if_pos (show 3 * a ≤ j ∧ j < 3 * a + (i + 1) by omega), show j - 3 * a = i by omega]
    · rw [if_neg e]
      by_cases e2 : 3 * a ≤ j ∧ j < 3 * a + i
      · rw [if_pos e2, if_pos (show 3 * a ≤ j ∧ j < 3 * a + (i + 1) by omega)]
      · rw [if_neg e2, if_neg (show ¬ (3 * a ≤ j ∧ j < 3 * a + (i + 1)) by omega)]
end
theorem prR_nat {C : List (BitVec 64)} {E : List Ev} {base m out : Int} {s : Nat} {f : Nat → Nat → St → Nat → St} (b n o : Nat) (hb : base = b) (hm : m = n) (ho : out = o) (h : pkE C.length E.length base m out s = 0) :
    (prR C E base m out s f).1.1 = (repS (f b o) (C, E, 0#64) n).2.2 ∧ (prR C E base m out s f).2.1 = (repS (f b o) (C, E, 0#64) n).1 := by
  subst hb hm ho
  unfold prR
  rw [if_pos h]
  exact ⟨rfl, rfl⟩
theorem chRes_nat {C : List (BitVec 64)} {E : List Ev} {x : Int} {g : BitVec 64 → BitVec 64} (y : Nat) (hx : x = y) (h1 : y < C.length) (h2 : E.length + 2 ≤ 8388608) : (chRes C E x g).2.1 = C.set y (g (cl C y)) := by
  subst hx
  unfold chRes
  rw [if_pos ⟨by omega, by omega⟩, if_pos h2]
  rfl
theorem rtR_nat {C : List (BitVec 64)} {E : List Ev} {base m far : Int} (b n o : Nat) (hb : base = b) (hm : m = n) (ho : far = o) (h : rtE C.length E.length base m far = 0) : (rtR C E base m far).1 = (rtL b o (C, E) (moves n)).1 := by
  subst hb hm ho
  unfold rtR
  rw [if_pos h]
  rfl
/-- What Compact leaves. -/
structure CpPlain (V : Nat → Bool) (a k : Nat) (C C6 : List (BitVec 64)) : Prop where
  len : C6.length = C.length
  kept : ∀ i, i < a → kpP V k i = true → rdV C6 (3 * cnt V i) = rdV C (3 * i)
  rest : ∀ x, cnt V a ≤ x → x < k → rdV C6 (3 * x) = (0#64, 0#64, 0#64)
  drop : cl C6 (4 * a) = sumM (cl C (4 * a)) (BitVec.ofNat 64 (cnt V a - min (cnt V a) k)) 65535#64
  flag : cl C6 (4 * a + 1) = cl C (4 * a + 1) ||| ~~~ zeM (BitVec.ofNat 64 (cnt V a - min (cnt V a) k))
theorem comp_plain (a k n : Nat) (hkn : a = k + n) {C : List (BitVec 64)} {E : List Ev} {r d f : Int} (hr : r = 3 * ((k : Int) + (n : Int))) (hd : d = 4 * ((k : Int) + (n : Int))) (hf : f = 4 * ((k : Int) + (n : Int)) + 1) (h : CpOk C.length E.length 0 r d f k n) (V : Nat → Bool)
    (hV : ∀ i, i < a → cl C (3 * i) = msk (V i)) (hZ : ∀ i, i < a → V i = false → rdV C (3 * i) = (0#64, 0#64, 0#64)) : CpPlain V a k C (cpK 0 r d f k n C E 6).1 := by
  have q1 := h.k1; have q2 := h.k2; have q3 := h.n1; have q4 := h.n2
  have hro := h.ro
  unfold cpN at hro
  have hLen : 4 * a + 2 ≤ C.length := by have := h.f2; omega
  have ha : a ≤ 288 := by omega
  have hr' : r = ((3 * a : Nat) : Int) := by omega
  have hd' : d = ((4 * a : Nat) : Int) := by omega
  have hf' : f = ((4 * a + 1 : Nat) : Int) := by omega
  have hm' : (k : Int) + (n : Int) = (a : Int) := by omega
  have pk : ∀ j, j ≤ 5 → ∀ s : Nat, (s = 2 ∨ s = 3) → cpV (k + n) j + s * (k + n) ≤ cpV (k + n) 6 → pkE (cpK 0 r d f k n C E j).1.length (cpK 0 r d f k n C E j).2.1.length 0 ((k : Int) + (n : Int)) r s = 0 := fun j hj s _ hs => by
    obtain ⟨i1, i2⟩ := cpK_len h j (by omega)
    have hk := h
    rw [← i1] at hk
    refine pk_ok hk _ s ?_
    rw [i2]
    simp only [cpV] at hs ⊢
    omega
  -- Ranks
  obtain ⟨a1, a2, a3⟩ := rk_stage (V := V) ha (show 4 * a ≤ C.length by omega) hV E a (Nat.le_refl _)
  have A0 := prR_nat (C := C) (E := E) (f := rkF) 0 a (3 * a) rfl hm' hr' (pk 0 (by omega) 2 (.inl rfl) (by simp only [cpV]; omega))
  have A : (cpK 0 r d f k n C E 1).1 = (repS (rkF 0 (3 * a)) (C, E, 0#64) a).1 := A0.2
  rw [← A] at a1 a2
  generalize hC1 : (cpK 0 r d f k n C E 1).1 = C1 at a1 a2
  -- Split
  have hV1 : ∀ i, i < a → cl C1 (3 * i) = msk (V i) := fun i hi => by rw [a2, if_neg (by omega), hV i hi]
  have hR1 : ∀ i, i < a → cl C1 (3 * a + i) = BitVec.ofNat 64 (cnt V i) := fun i hi => by rw [a2, if_pos (by omega), show 3 * a + i - 3 * a = i by omega]
  obtain ⟨b1, b2, b3⟩ := sp_stage (V := V) ha k (by omega) (show 4 * a ≤ C1.length by omega) hV1 hR1 (cpK 0 r d f k n C E 1).2.1 a (Nat.le_refl _)
  have B0 := prR_nat (C := (cpK 0 r d f k n C E 1).1) (E := (cpK 0 r d f k n C E 1).2.1) (f := spF (bv (k : Int))) 0 a (3 * a) rfl hm' hr' (pk 1 (by omega) 3 (.inr rfl) (by simp only [cpV]; omega))
  have B : (cpK 0 r d f k n C E 2).1 = (repS (spF (bv (k : Int)) 0 (3 * a)) ((cpK 0 r d f k n C E 1).1, (cpK 0 r d f k n C E 1).2.1, 0#64) a).1 := B0.2
  have Bd : (cpK 0 r d f k n C E 2).2.2 = (repS (spF (bv (k : Int)) 0 (3 * a)) ((cpK 0 r d f k n C E 1).1, (cpK 0 r d f k n C E 1).2.1, 0#64) a).2.2 := B0.1
  rw [hC1] at B Bd
  rw [← B] at b1 b2
  rw [← Bd] at b3
  generalize hC2 : (cpK 0 r d f k n C E 2).1 = C2 at b1 b2
  -- Plus
  have hE2 := (cpK_len h 2 (by omega)).2
  have hE3 := (cpK_len h 3 (by omega)).2
  have P0 := chRes_nat (C := (cpK 0 r d f k n C E 2).1) (E := (cpK 0 r d f k n C E 2).2.1) (g := fun v => sumM v (cpK 0 r d f k n C E 2).2.2 65535#64) (4 * a) hd' (by rw [hC2]; omega) (by rw [hE2]; simp only [cpV] at *; omega)
  have P : (cpK 0 r d f k n C E 3).1 = C2.set (4 * a) (sumM (cl C2 (4 * a)) (cpK 0 r d f k n C E 2).2.2 65535#64) := by rw [← hC2]; exact P0
  have Pd : (cpK 0 r d f k n C E 3).2.2 = (cpK 0 r d f k n C E 2).2.2 := rfl
  rw [b3] at P Pd
  generalize hC3 : (cpK 0 r d f k n C E 3).1 = C3 at P
  have l3 : C3.length = C2.length := by rw [P]; simp
  have c3 : ∀ j, cl C3 j = if j = 4 * a then sumM (cl C2 (4 * a)) (BitVec.ofNat 64 (cnt V a - min (cnt V a) k)) 65535#64 else cl C2 j := fun j => by rw [P, cl_setP _ _ _ _ (by omega)]
  -- Stick
  have Q0 := chRes_nat (C := (cpK 0 r d f k n C E 3).1) (E := (cpK 0 r d f k n C E 3).2.1) (g := fun v => v ||| ~~~ zeM (cpK 0 r d f k n C E 3).2.2) (4 * a + 1) hf' (by rw [hC3]; omega) (by rw [hE3]; simp only [cpV] at *; omega)
  have Q : (cpK 0 r d f k n C E 4).1 = C3.set (4 * a + 1) (cl C3 (4 * a + 1) ||| ~~~ zeM (cpK 0 r d f k n C E 3).2.2) := by rw [← hC3]; exact Q0
  rw [Pd] at Q
  generalize hC4 : (cpK 0 r d f k n C E 4).1 = C4 at Q
  have l4 : C4.length = C3.length := by rw [Q]; simp
  have c4 : ∀ j, cl C4 j = if j = 4 * a + 1 then cl C3 (4 * a + 1) ||| ~~~ zeM (BitVec.ofNat 64 (cnt V a - min (cnt V a) k)) else cl C3 j := fun j => by rw [Q, cl_setP _ _ _ _ (by omega)]
  have c42 : ∀ j, j < 4 * a → cl C4 j = cl C2 j := fun j hj => by rw [c4, if_neg (by omega), c3, if_neg (by omega)]
  -- Distances
  have hV4 : ∀ i, i < a → cl C4 (3 * i) = msk (kpP V k i) := fun i hi => by rw [c42 _ (by omega), b2, if_pos (by omega), show 3 * i / 3 = i by omega]
  have hR4 : ∀ i, i < a → cl C4 (3 * a + i) = BitVec.ofNat 64 (cnt V i) := fun i hi => by rw [c42 _ (by omega), b2, if_neg (by omega), hR1 i hi]
  obtain ⟨d1, d2⟩ := di_stage ha (kpP V k) (cnt V) (show 4 * a ≤ C4.length by omega) hV4 hR4 (fun i => cnt_le i) (cpK 0 r d f k n C E 4).2.1 a (Nat.le_refl _)
  have D0 := prR_nat (C := (cpK 0 r d f k n C E 4).1) (E := (cpK 0 r d f k n C E 4).2.1) (f := diF) 0 a (3 * a) rfl hm' hr' (pk 4 (by omega) 3 (.inr rfl) (by simp only [cpV]; omega))
  have D : (cpK 0 r d f k n C E 5).1 = (repS (diF 0 (3 * a)) ((cpK 0 r d f k n C E 4).1, (cpK 0 r d f k n C E 4).2.1, 0#64) a).1 := D0.2
  rw [hC4] at D
  rw [← D] at d1 d2
  -- Route
  have R0 := rtR_nat (C := (cpK 0 r d f k n C E 5).1) (E := (cpK 0 r d f k n C E 5).2.1) 0 a (3 * a) rfl hm' hr' (cpZ5 h)
  have R : (cpK 0 r d f k n C E 6).1 = (rtL 0 (3 * a) ((cpK 0 r d f k n C E 5).1, (cpK 0 r d f k n C E 5).2.1) (moves a)).1 := R0
  generalize hC5 : (cpK 0 r d f k n C E 5).1 = C5 at d1 d2 R
  generalize hC6 : (cpK 0 r d f k n C E 6).1 = C6 at R
  have l6 := (cpK_len h 6 (by omega)).1
  rw [hC6] at l6
  have c52 : ∀ j, j < 3 * a → cl C5 j = cl C2 j := fun j hj => by rw [d2, if_neg (by omega), c42 _ (by omega)]
  let L : List Sl := (List.range a).map fun i => (msk (kpP V k i), cl C (3 * i + 1), cl C (3 * i + 2))
  let far : List Nat := (List.range a).map fun i => if kpP V k i = true then i - cnt V i else 0
  have hL : ∀ i, i < a → sl L i = (msk (kpP V k i), cl C (3 * i + 1), cl C (3 * i + 2)) := fun i hi => by simp [L, sl, hi]
  have hfar : ∀ i, i < a → far.getD i 0 = if kpP V k i = true then i - cnt V i else 0 := fun i hi => by simp [far, hi]
  have hRel : PackZ.RelC a C5 (L, far) := by
    refine ⟨by omega, by simp [L], by simp [far], fun i => ?_, fun i hi => ?_⟩
    · show far.getD i 0 ≤ 288
      by_cases hi : i < a
      · rw [hfar i hi]; split <;> omega
      · simp [far, List.getD, hi]
    · rw [c52 _ (by omega), c52 _ (by omega), c52 _ (by omega), b2, b2, b2, if_pos (by omega), if_neg (by omega), if_neg (by omega), show 3 * i / 3 = i by omega, a2, a2, if_neg (by omega), if_neg (by omega), hL i hi, d2, if_pos (by omega), show 3 * a + i - 3 * a = i by omega, hfar i hi]
      refine ⟨rfl, rfl, rfl, ?_⟩
      split <;> rfl
  obtain ⟨p1, p2, p3⟩ := PackZ.apL_packs (Z := cnt V a ≤ k) (v := kpP V k) (l := L) (far := far) (by omega) ha (by simp [L]) (by simp [far]) (fun i hi => by
      rw [hfar i hi]
      by_cases e : kpP V k i = true
      · rw [if_pos e, if_pos e, cnt_kp]
        unfold kpP at e
        simp at e
        omega
      · rw [if_neg e, if_neg e]) (fun hz i hi hv => by
    rw [hL i hi, hv]
    have hVi : V i = false := by
      unfold kpP at hv
      cases e : V i
      · rfl
      · rw [e] at hv
        have := cnt_lt (v := V) hi e
        simp at hv
        omega
    have := hZ i hi hVi
    unfold rdV at this
    injection this with t1 t2
    injection t2 with t2 t3
    rw [t2, t3]
    rfl)
  have hRel6 := PackZ.relC_route (c := (C5, (cpK 0 r d f k n C E 5).2.1)) hRel
  rw [← R] at hRel6
  obtain ⟨_, _, _, _, g4⟩ := hRel6
  have rd6 : ∀ x, x < a → rdV C6 (3 * x) = sl (PackZ.apL L far (moves a)).1 x := fun x hx => by
    obtain ⟨t0, t1, t2, _⟩ := g4 x hx
    unfold rdV
    rw [t0, t1, t2]
  have hkeep : ∀ x, 4 * a ≤ x → cl C6 x = cl C4 x := fun x hx => by rw [R, PackZ.route_keep _ hx]; show cl C5 x = _; rw [d2, if_neg (by omega)]
  refine ⟨l6, fun i hi hk => ?_, fun x hx hxk => ?_, ?_, ?_⟩
  · have hk2 := hk
    unfold kpP at hk2
    simp at hk2
    have e : cnt (kpP V k) i = cnt V i := by rw [cnt_kp]; omega
    have := p2 i hi hk
    rw [e] at this
    rw [rd6 _ (by have := cnt_le (v := V) i; omega), this, hL i hi, hk]
    unfold rdV
    rw [hV i hi, hk2.1]
  · rw [rd6 x (by omega)]
    exact p3 (by omega) x (by omega) (by rw [cnt_kp]; omega)
  · rw [hkeep _ (by omega), c4, if_neg (by omega), c3, if_pos rfl, b2, if_neg (by omega), a2, if_neg (by omega)]
  · rw [hkeep _ (by omega), c4, if_pos rfl, c3, if_neg (by omega), b2, if_neg (by omega), a2, if_neg (by omega)]
end Go.Proofs.Ytedbafgejladiaa

/-
  The steps of Compact depend on the arena's length alone.
-/
namespace Go.Proofs.Ytedbafgejladiaa
open Go.RowKit
set_option linter.unusedVariables false
set_option linter.unusedSimpArgs false
theorem repS_evq (f : St → Nat → St) (g : Nat → List Ev) (hf : ∀ s i, (f s i).2.1 = s.2.1 ++ g i) (s t : St) (h : s.2.1 = t.2.1) (k : Nat) : (repS f s k).2.1 = (repS f t k).2.1 := by
  induction k with
  | zero => rw [repS_zero, repS_zero]; exact h
  | succ k ih => rw [repS_succ, repS_succ, hf, hf, ih]
theorem prR_evq {C D : List (BitVec 64)} (hl : C.length = D.length) (E : List Ev) (base k out : Int) (s : Nat) (f : Nat → Nat → St → Nat → St) (g : Nat → Nat → Nat → List Ev) (hf : ∀ b o t i, (f b o t i).1.length = t.1.length ∧ (f b o t i).2.1.length = t.2.1.length + s) (hg : ∀ b o t i, (f b o t i).2.1 = t.2.1 ++ g b o i) :
    (prR C E base k out s f).2.2 = (prR D E base k out s f).2.2 ∧ (prR C E base k out s f).2.1.length = (prR D E base k out s f).2.1.length := by
  unfold prR
  rw [hl]
  split
  · exact ⟨repS_evq _ _ (hg _ _) (C, E, 0#64) (D, E, 0#64) rfl _, ((repS_len _ s (hf _ _) _ _).1.trans hl).trans (repS_len _ s (hf _ _) _ _).1.symm⟩
  · exact ⟨rfl, hl⟩
theorem chRes_evq {C D : List (BitVec 64)} (hl : C.length = D.length) (E : List Ev) (x : Int) (g g' : BitVec 64 → BitVec 64) : (chRes C E x g).2.2 = (chRes D E x g').2.2 ∧ (chRes C E x g).2.1.length = (chRes D E x g').2.1.length := by
  unfold chRes
  rw [hl]
  split
  · split
    · exact ⟨rfl, by simp [hl]⟩
    · exact ⟨rfl, hl⟩
  · exact ⟨rfl, hl⟩
theorem rcS_evq (b b' : Bool) (f t : Nat) (s u : List (BitVec 64) × List Ev) (h : s.2 = u.2) (hl : s.1.length = u.1.length) (c : Nat) : (rcS b f t s c).2 = (rcS b' f t u c).2 ∧ (rcS b f t s c).1.length = (rcS b' f t u c).1.length := by
  induction c with
  | zero => exact ⟨h, hl⟩
  | succ c ih =>
    refine ⟨?_, ?_⟩
    · show (rcS b f t s c).2 ++ _ = (rcS b' f t u c).2 ++ _
      rw [ih.1]
    · show (((rcS b f t s c).1.set _ _).set _ _).length = (((rcS b' f t u c).1.set _ _).set _ _).length
      rw [List.length_set, List.length_set, List.length_set, List.length_set, ih.2]
theorem rtL_evq (base far : Nat) (ms : List Mv) : ∀ (s u : List (BitVec 64) × List Ev), s.2 = u.2 → s.1.length = u.1.length → (rtL base far s ms).2 = (rtL base far u ms).2 ∧ (rtL base far s ms).1.length = (rtL base far u ms).1.length := by
  unfold rtL
  induction ms with
  | nil => exact fun s u h hl => ⟨h, hl⟩
  | cons m ms ih =>
    intro s u h hl
    rw [List.foldl_cons, List.foldl_cons]
    refine ih _ _ ?_ ?_
    all_goals
      unfold rtM
      first | refine (rcS_evq _ _ _ _ _ _ ?_ ?_ _).1 | refine (rcS_evq _ _ _ _ _ _ ?_ ?_ _).2
    all_goals first
      | (show s.2 ++ _ = u.2 ++ _; rw [h])
      | (show ((s.1.set _ _).set _ _).length = ((u.1.set _ _).set _ _).length; rw [List.length_set, List.length_set, List.length_set, List.length_set, hl])
theorem rtR_evq {C D : List (BitVec 64)} (hl : C.length = D.length) (E : List Ev) (x y z : Int) : (rtR C E x y z).2 = (rtR D E x y z).2 ∧ (rtR C E x y z).1.length = (rtR D E x y z).1.length := by
  unfold rtR
  rw [hl]
  split
  · exact rtL_evq _ _ _ _ _ rfl hl
  · exact ⟨rfl, hl⟩
theorem cpF_evq (s r d f k n : Int) (x y : CpS) (hl : x.1.length = y.1.length) (he : x.2.1 = y.2.1) (j : Nat) : (cpF s r d f k n x j).2.1 = (cpF s r d f k n y j).2.1 ∧ (cpF s r d f k n x j).1.length = (cpF s r d f k n y j).1.length := by
  obtain ⟨X, E, u⟩ := x
  obtain ⟨Y, E2, v⟩ := y
  dsimp only at hl he
  subst he
  match j with
  | 0 => exact prR_evq hl _ _ _ _ 2 rkF (fun b o i => [(1, b + 3 * i), (2, o + i)]) rkF_len (fun _ _ _ _ => rfl)
  | 1 => exact prR_evq hl _ _ _ _ 3 (spF (bv k)) (fun b o i => [(1, b + 3 * i), (1, o + i), (2, b + 3 * i)]) (spF_len _) (fun _ _ _ _ => rfl)
  | 2 => exact chRes_evq hl _ _ _ _
  | 3 => exact chRes_evq hl _ _ _ _
  | 4 => exact prR_evq hl _ _ _ _ 3 diF (fun b o i => [(1, b + 3 * i), (1, o + i), (2, o + i)]) diF_len (fun _ _ _ _ => rfl)
  | j + 5 => exact rtR_evq hl _ _ _ _
/-- The steps depend on the length alone. -/
theorem cpK_evq (s r d f k n : Int) {C D : List (BitVec 64)} (hl : C.length = D.length) (E : List Ev) (j : Nat) : (cpK s r d f k n C E j).2.1 = (cpK s r d f k n D E j).2.1 ∧ (cpK s r d f k n C E j).1.length = (cpK s r d f k n D E j).1.length := by
  induction j with
  | zero => exact ⟨rfl, hl⟩
  | succ j ih => exact cpF_evq s r d f k n _ _ ih.2 ih.1 j
end Go.Proofs.Ytedbafgejladiaa

