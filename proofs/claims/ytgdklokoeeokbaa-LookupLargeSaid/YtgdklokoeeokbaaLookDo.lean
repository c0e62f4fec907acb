/-
  lookup: (change).do over an arena.
-/
import Derived.Test.YtgdklokoeeokbaaLookGet
namespace Go.Proofs.Ytgdklokoeeokbaa
open Go.RowKit Go.Shelf
attribute [local go_sem] Oper.semAt_some
attribute [local go_sem] bits_and_u64 bits_or_u64 bits_xor_u64 bits_andNot_u64 wrap_u64 bv_add bv_neg bv_sub bv_mul
set_option linter.unusedVariables false
set_option linter.unusedSimpArgs false
set_option maxRecDepth 100000
/-- What a change has made of the cells behind k rounds, and the steps. -/
def chS (val : BitVec 64 → BitVec 64) (idx m : BitVec 64) (base : Nat) (C : List (BitVec 64)) (E : List Ev) : Nat → List (BitVec 64) × List Ev
  | 0 => (C, E)
  | k + 1 => ((chS val idx m base C E k).1.set (base + k) (selM (m &&& eqM (BitVec.ofNat 64 k) idx) (val (cl C (base + k))) (cl C (base + k))), (chS val idx m base C E k).2 ++ [(1, base + k), (2, base + k)])
theorem chS_len (val : BitVec 64 → BitVec 64) (idx m : BitVec 64) (base : Nat) (C : List (BitVec 64)) (E : List Ev) (k : Nat) : (chS val idx m base C E k).1.length = C.length ∧ (chS val idx m base C E k).2.length = E.length + 2 * k := by
  induction k with
  | zero => exact ⟨rfl, rfl⟩
  | succ k ih =>
    constructor
    · show (List.set _ _ _).length = _
      rw [List.length_set]; exact ih.1
    · show (_ ++ _ : List Ev).length = _
      rw [List.length_append, ih.2]; simp; omega
theorem chS_out (val : BitVec 64 → BitVec 64) (idx m : BitVec 64) (base : Nat) (C : List (BitVec 64)) (E : List Ev) (k j : Nat) (h : j < base ∨ base + k ≤ j) : cl (chS val idx m base C E k).1 j = cl C j := by
  induction k with
  | zero => rfl
  | succ k ih =>
    show cl (List.set _ _ _) j = _
    unfold cl at ih ⊢
    rw [List.getD_eq_getElem?_getD, List.getElem?_set_ne (by omega), ← List.getD_eq_getElem?_getD]
    exact ih (by omega)
theorem chS_in (val : BitVec 64 → BitVec 64) (idx m : BitVec 64) (base : Nat) (C : List (BitVec 64)) (E : List Ev) (k i : Nat) (hi : i < k) (hl : base + k ≤ C.length) : cl (chS val idx m base C E k).1 (base + i) = selM (m &&& eqM (BitVec.ofNat 64 i) idx) (val (cl C (base + i))) (cl C (base + i)) := by
  induction k with
  | zero => omega
  | succ k ih =>
    show cl (List.set _ _ _) (base + i) = _
    by_cases h : i = k
    · subst h
      unfold cl
      rw [List.getD_eq_getElem?_getD, List.getElem?_set_self (by rw [(chS_len val idx m base C E i).1]; omega)]
      rfl
    · have := ih (by omega) (by omega)
      rw [← this]
      unfold cl
      rw [List.getD_eq_getElem?_getD, List.getElem?_set_ne (by omega), ← List.getD_eq_getElem?_getD]
section
variable {w0 w : World} {F : Nat → Prop} {p : Nat} {C : List (BitVec 64)} {E : List Ev}
/-- The boxes of do. -/
def cB (s p base n vb g : Nat) (idx m v : BitVec 64) : Bks := [(s + 1 + 1 + 1 + 1 + 1, 3, #[.int .i64 (n : Int)]), (s + 1 + 1 + 1 + 1, 3, #[.int .i64 (base : Int)]), (s + 1 + 1 + 1, 27, #[.pointer (some ⟨p, 0, none⟩)]), (s + 1 + 1, 3, #[.int .i64 (base : Int)]), (s + 1, 27, #[.pointer (some ⟨p, 0, none⟩)]), (s, 66, #[.int .u64 (n64 idx), .int .u64 (n64 m), (Value.func (.func g) #[] #[.pointer (some ⟨vb, 0, none⟩)])]), (vb, 23, #[.int .u64 (n64 v)])]
theorem cB_cells {W : World} {s base n vb g : Nat} {idx m v : BitVec 64} (h : Wk w0 F W (cB s p base n vb g idx m v) p C E) :
    W.cell? ⟨s + 1, 0, none⟩ = some (.pointer (some ⟨p, 0, none⟩)) ∧ W.cell? ⟨s + 1 + 1, 0, none⟩ = some (.int .i64 (base : Int)) ∧ W.cell? ⟨s, 1, none⟩ = some (.int .u64 (n64 m)) ∧ W.cell? ⟨s, 0, none⟩ = some (.int .u64 (n64 idx)) ∧ W.cell? ⟨s, 2, none⟩ = some (Value.func (.func g) #[] #[.pointer (some ⟨vb, 0, none⟩)]) ∧ W.cell? ⟨vb, 0, none⟩ = some (.int .u64 (n64 v)) := by
  have h1 := h.blk (b := s + 1) (t := 27) (cs := #[.pointer (some ⟨p, 0, none⟩)]) (by unfold cB; simp)
  have h2 := h.blk (b := s + 1 + 1) (t := 3) (cs := #[.int .i64 (base : Int)]) (by unfold cB; simp)
  have h3 := h.blk (b := s) (t := 66) (cs := #[.int .u64 (n64 idx), .int .u64 (n64 m), (Value.func (.func g) #[] #[.pointer (some ⟨vb, 0, none⟩)])]) (by unfold cB; simp)
  have h4 := h.blk (b := vb) (t := 23) (cs := #[.int .u64 (n64 v)]) (by unfold cB; simp)
  exact ⟨h1.cell 0, h2.cell 0, h3.cell 1, h3.cell 0, h3.cell 2, h4.cell 0⟩
set_option maxHeartbeats 2000000 in
theorem do_ok {vb g : Nat} {v : BitVec 64} (h : Wk w0 F w [(vb, 23, #[.int .u64 (n64 v)])] p C E) (base n : Nat) (idx m : BitVec 64) (val : BitVec 64 → BitVec 64)
    (hent : ∀ (xs : Array Value) (W : World), (callFunc g xs).run Try.prog W = .ok (.enter g xs) W)
    (hval : ∀ (x : BitVec 64) (W : World), W.cell? ⟨vb, 0, none⟩ = some (.int .u64 (n64 v)) → Calls Try.prog g #[.int .u64 (n64 x), .pointer (some ⟨vb, 0, none⟩)] W fun e w' => e = .returned (.int .u64 (n64 (val x))) ∧ W = w')
    (hm : isM m = true) (hz : lkE C.length E.length base n ((2 : Nat) : Int) = 0) :
    Calls Try.prog 34 #[.agg #[.int .u64 (n64 idx), .int .u64 (n64 m), (Value.func (.func g) #[] #[.pointer (some ⟨vb, 0, none⟩)])], .pointer (some ⟨p, 0, none⟩), .int .i64 (base : Int), .int .i64 (n : Int)] w fun e w' => e = .returned (.int .i64 0) ∧ Wk w0 F w' [(vb, 23, #[.int .u64 (n64 v)])] p (chS val idx m base C E n).1 (chS val idx m base C E n).2 := by
  obtain ⟨g1, g2, g3, g4, g5⟩ := lkE_zero hz
  have hc2 := h.n2
  have HZ := Lib.hid hz
  have HW2 := ((h.push 66 #[.int .u64 (n64 idx), .int .u64 (n64 m), (Value.func (.func g) #[] #[.pointer (some ⟨vb, 0, none⟩)])]).push 27 #[.pointer (some ⟨p, 0, none⟩)]).push 3 #[.int .i64 (base : Int)]
  obtain ⟨Fx, hFx⟩ := HW2.ar
  have HC := Lib.hid (lcheck_any hFx base n 2 (by decide))
  have HW := Lib.hid HW2
  have G5 := Lib.hid g5
  have H0 := Lib.hid h
  obtain ⟨sz, hsz⟩ : ∃ sz, w.heap.size = sz := ⟨_, rfl⟩
  have hw0 : w0.heap.size ≤ sz := by rw [← hsz]; exact (by obtain ⟨_, _, _, ho, _⟩ := h; exact ho.size)
  have d1 : decide ((n : Int) < 1) = false := by simp; omega
  have d2 : decide ((4096 : Int) < (n : Int)) = false := by simp; omega
  have HSZ := Lib.hid hsz
  clear h hz hFx HW2 g5 hsz
  refine (callsIn_wide (n := 4)).1 ?_
  refine callsIn_of_wp_marks Try.func34 rfl trivial ?_ rfl
  simp only [Try.ntmps34, List.size_toArray, List.length_cons, List.length_nil, Nat.reduceAdd, Nat.reduceSub, Array.replicate_succ, Array.replicate_zero, List.push_toArray, List.append_toArray, List.nil_append, List.cons_append]
  gi_wp2_with fail
  refine ⟨trivial, ?_⟩
  refine monoIn (R := fun e w' => e = .returned (.bool true) ∧ _ = w') (by have := is_any m; rw [hm] at this; exact this _) ?_
  rintro e w' ⟨rfl, rfl⟩
  gi_wp2_with fail
  refine ⟨trivial, ?_⟩
  refine monoIn (R := fun e w' => e = .returned (.int .i64 0) ∧ _ = w') (by have := HC.out; rwa [HZ.out] at this) ?_
  rintro e w' ⟨rfl, rfl⟩
  gi_wp2_with fail
  refine ⟨trivial, ?_⟩
  refine monoIn (all_any p (base : Int) (n : Int) _) ?_
  rintro e w' ⟨rfl, rfl⟩
  have HW5 := ((HW.out.push 27 #[.pointer (some ⟨p, 0, none⟩)]).push 3 #[.int .i64 (base : Int)]).push 3 #[.int .i64 (n : Int)]
  clear HC HZ HW
  simp only [World.size_alloc] at HW5
  gi_wp2_with fail
  have hs0 : ((((((w.alloc (.cells #[.int .u64 (n64 idx), .int .u64 (n64 m), (Value.func (.func g) #[] #[.pointer (some ⟨vb, 0, none⟩)])] 66)).alloc (.cells #[.pointer (some ⟨p, 0, none⟩)] 27)).alloc (.cells #[.int .i64 (base : Int)] 3)).alloc (.cells #[.pointer (some ⟨p, 0, none⟩)] 27)).alloc (.cells #[.int .i64 (base : Int)] 3)).alloc (.cells #[.int .i64 (n : Int)] 3)).heap.size = w.heap.size + 6 := by simp
  generalize (((((w.alloc (.cells #[.int .u64 (n64 idx), .int .u64 (n64 m), (Value.func (.func g) #[] #[.pointer (some ⟨vb, 0, none⟩)])] 66)).alloc (.cells #[.pointer (some ⟨p, 0, none⟩)] 27)).alloc (.cells #[.int .i64 (base : Int)] 3)).alloc (.cells #[.pointer (some ⟨p, 0, none⟩)] 27)).alloc (.cells #[.int .i64 (base : Int)] 3)).alloc (.cells #[.int .i64 (n : Int)] 3) = W0 at *
  have HS := Lib.hid hs0
  have HW0 : Hid (Wk w0 F W0 (cB w.heap.size p base n vb g idx m v) p (chS val idx m base C E 0).1 (chS val idx m base C E 0).2) := Lib.hid HW5
  clear HW5 hs0
  obtain ⟨s, hs⟩ : ∃ s, w.heap.size = s := ⟨_, rfl⟩
  have HSS := Lib.hid hs
  have hsw : w0.heap.size ≤ s := by rw [← hs, HSZ.out]; exact hw0
  rw [hs] at HW0 ⊢
  clear hs
  apply range_eff (α := Nat × BitVec 64) (n := 4) (by decide) (gf := 53) (lb := #[.pointer (some ⟨s + 1 + 1 + 1 + 1 + 1, 0, none⟩), .pointer (some ⟨s + 1 + 1 + 1, 0, none⟩), .pointer (some ⟨s + 1 + 1 + 1 + 1, 0, none⟩)]) rfl (enters_of Try.func53 (by kernel_rfl) rfl) (fun _ => rfl)
    (fun pre W => Wk w0 F W (cB s p base n vb g idx m v) p (chS val idx m base C E pre.length).1 (chS val idx m base C E pre.length).2)
    (fun pre x W => x.1 = pre.length ∧ x.1 < n ∧ x.2 = cl C (base + x.1) ∧ Wk w0 F W (cB s p base n vb g idx m v) p (chS val idx m base C E x.1).1 ((chS val idx m base C E x.1).2 ++ [(1, base + x.1)]))
    (wk_own (by rw [HS.out, HSS.out]; omega) _ _ _ _) (fun x s1 W W' row hh hg hr => ⟨hh.1, hh.2.1, hh.2.2.1, hh.2.2.2.turn hg (fun r e => ⟨Nat.le_trans (by rw [HS.out, HSS.out]; omega) (hr r e).1, (hr r e).2⟩)⟩) HW0.out
    (all_drives (4 - 1) (by decide) p base n (s + 1 + 1 + 1 + 1 + 1) (s + 1 + 1 + 1) (s + 1 + 1 + 1 + 1) W0.heap.size (by omega) (fun i => cl C (base + i))
      (fun k W => Wk w0 F W (cB s p base n vb g idx m v) p (chS val idx m base C E k).1 (chS val idx m base C E k).2) (fun k W => Wk w0 F W (cB s p base n vb g idx m v) p (chS val idx m base C E k).1 ((chS val idx m base C E k).2 ++ [(1, base + k)]))
      (fun k W hk => ⟨(hk.blk (b := s + 1 + 1 + 1 + 1 + 1) (t := 3) (cs := #[.int .i64 (n : Int)]) (by unfold cB; simp)).cell 0, (hk.blk (b := s + 1 + 1 + 1) (t := 27) (cs := #[.pointer (some ⟨p, 0, none⟩)]) (by unfold cB; simp)).cell 0, (hk.blk (b := s + 1 + 1 + 1 + 1) (t := 3) (cs := #[.int .i64 (base : Int)]) (by unfold cB; simp)).cell 0⟩)
      (fun k W hlt hk => (hk.callO (e0 := .returned (.tuple #[.int .u64 (n64 (cl C (base + k))), .int .i64 0])) (C2 := (chS val idx m base C E k).1) (E2 := (chS val idx m base C E k).2 ++ [(1, base + k)]) (fun w1 F1 ha => by
        have := load_ok ha ((base : Int) + (k : Int)) (by omega) (by rw [(chS_len val idx m base C E k).1]; omega) (by rw [(chS_len val idx m base C E k).2]; have := G5.out; omega)
        rw [show ((base : Int) + (k : Int)).toNat = base + k by omega, chS_out val idx m base C E k (base + k) (.inr (Nat.le_refl _))] at this
        exact this))))
  case hassign =>
    intro l x W K hK
    gi_wp2
    exact hK
  case hbody =>
    rintro l pre ⟨i, u⟩ W ⟨hi, hlt, hv, hk⟩
    dsimp only at hi hlt hv hk
    subst hi hv
    have hwb : Hid (IntKind.i64.wrap ((base : Int) + (pre.length : Int)) = (base : Int) + (pre.length : Int)) := Lib.hid (by rw [IntKind.wrap_i64]; omega)
    have hb1 : (base : Int) + (pre.length : Int) ≤ 65536 := by omega
    have hb2 : 0 ≤ (base : Int) + (pre.length : Int) := by omega
    have hmx : Try.prog.follows .mixedOrders = true := by kernel_rfl
    have HK := Lib.hid hk
    obtain ⟨c1, c2, c3, c4, c5, cvb⟩ := cB_cells hk
    have hst : ∀ W2, Wk w0 F W2 (cB s p base n vb g idx m v) p (chS val idx m base C E pre.length).1 ((chS val idx m base C E pre.length).2 ++ [(1, base + pre.length)]) → Calls Try.prog 26 #[.pointer (some ⟨p, 0, none⟩), .int .i64 ((base : Int) + (pre.length : Int)), .int .u64 (n64 (selM (m &&& eqM (BitVec.ofNat 64 pre.length) idx) (val (cl C (base + pre.length))) (cl C (base + pre.length))))] W2 fun e w' => e = .returned (.int .i64 0) ∧ Wk w0 F w' (cB s p base n vb g idx m v) p (chS val idx m base C E (pre.length + 1)).1 (chS val idx m base C E (pre.length + 1)).2 ∧ KeepsOthers W2 w' := fun W2 h2 =>
      h2.callO (fun w1 F1 ha => by
        have := store_ok ha ((base : Int) + (pre.length : Int)) (selM (m &&& eqM (BitVec.ofNat 64 pre.length) idx) (val (cl C (base + pre.length))) (cl C (base + pre.length))) (by omega) (by rw [(chS_len val idx m base C E pre.length).1]; omega) (by rw [List.length_append, (chS_len val idx m base C E pre.length).2]; have := G5.out; simp; omega)
        rw [show ((base : Int) + (pre.length : Int)).toNat = base + pre.length by omega, List.append_assoc] at this
        exact this)
    clear hk
    dsimp only
    gi_wp2_with fail
    refine round_held (S := fun W => W.cell? ⟨s + 1, 0, none⟩ = some (.pointer (some ⟨p, 0, none⟩)) ∧ W.cell? ⟨s + 1 + 1, 0, none⟩ = some (.int .i64 (base : Int)) ∧ W.cell? ⟨s, 1, none⟩ = some (.int .u64 (n64 m)) ∧ W.cell? ⟨s, 0, none⟩ = some (.int .u64 (n64 idx)) ∧ W.cell? ⟨s, 2, none⟩ = some (Value.func (.func g) #[] #[.pointer (some ⟨vb, 0, none⟩)])) hmx (by kernel_rfl) (fun ⟨_, _, h⟩ => h) ⟨c1, c2, c3, c4, c5⟩ (fun hHeld => ?_)
    refine wpAnyH_take (i := 0) (v := ?v0) rfl (by kernel_rfl) (by kernel_rfl) (by kernel_rfl) (fun _ _ _ h => h) (Or.inl ⟨by rfl, ?h0⟩) (by assumption) ?r0
    case h0 => (intro w hSw; (try dsimp only at hSw); go_simp <;> with_reducible rfl)
    try simp only [Act.put, List.setIfInBounds_toArray, List.set_cons_zero, List.set_cons_succ]
    refine wpAnyH_take (i := 1) (v := ?v1) rfl (by kernel_rfl) (by kernel_rfl) (by kernel_rfl) (fun _ _ _ h => h) (Or.inl ⟨by rfl, ?h1⟩) (by assumption) ?r1
    case h1 => (intro w hSw; (try dsimp only at hSw); go_simp <;> with_reducible rfl)
    try simp only [Act.put, List.setIfInBounds_toArray, List.set_cons_zero, List.set_cons_succ]
    refine wpAnyH_take (i := 2) (v := ?v2) rfl (by kernel_rfl) (by kernel_rfl) (by kernel_rfl) (fun _ _ _ h => h) (Or.inl ⟨by rfl, ?h2⟩) (by assumption) ?r2
    case h2 => (intro w hSw; (try dsimp only at hSw); go_simp <;> with_reducible rfl)
    try simp only [Act.put, List.setIfInBounds_toArray, List.set_cons_zero, List.set_cons_succ]
    refine wpAnyH_take (i := 3) (v := ?v3) rfl (by kernel_rfl) (by kernel_rfl) (by kernel_rfl) (fun _ _ _ h => h) (Or.inl ⟨by rfl, ?h3⟩) (by assumption) ?r3
    case h3 => (intro w hSw; (try dsimp only at hSw); (go_simp; (try rewrite [hwb.out])) <;> with_reducible rfl)
    try simp only [Act.put, List.setIfInBounds_toArray, List.set_cons_zero, List.set_cons_succ]
    refine wpAnyH_take (i := 4) (v := ?v4) rfl (by kernel_rfl) (by kernel_rfl) (by kernel_rfl) (fun _ _ _ h => h) (Or.inl ⟨by rfl, ?h4⟩) (by assumption) ?r4
    case h4 => (intro w hSw; (try dsimp only at hSw); go_simp <;> with_reducible rfl)
    try simp only [Act.put, List.setIfInBounds_toArray, List.set_cons_zero, List.set_cons_succ]
    refine wpAnyH_take (i := 5) (v := ?v5) rfl (by kernel_rfl) (by kernel_rfl) (by kernel_rfl) (fun _ _ _ h => h) (Or.inl ⟨by rfl, ?h5⟩) (by assumption) ?r5
    case h5 => (intro w hSw; (try dsimp only at hSw); go_simp <;> with_reducible rfl)
    try simp only [Act.put, List.setIfInBounds_toArray, List.set_cons_zero, List.set_cons_succ]
    refine wpAnyH_take (i := 6) (v := ?v6) rfl (by kernel_rfl) (by kernel_rfl) (by kernel_rfl) (fun _ _ _ h => h) (Or.inl ⟨by rfl, ?h6⟩) (by assumption) ?r6
    case h6 => (intro w hSw; (try dsimp only at hSw); go_simp <;> with_reducible rfl)
    try simp only [Act.put, List.setIfInBounds_toArray, List.set_cons_zero, List.set_cons_succ]
    refine wpAnyH_take (i := 7) (v := ?v7) rfl (by kernel_rfl) (by kernel_rfl) (by kernel_rfl) (fun _ _ _ h => h) (Or.inl ⟨by rfl, ?h7⟩) (by assumption) ?r7
    case h7 => (intro w hSw; (try dsimp only at hSw); go_simp <;> with_reducible rfl)
    try simp only [Act.put, List.setIfInBounds_toArray, List.set_cons_zero, List.set_cons_succ]
    refine wpAnyH_take (i := 8) (v := ?v8) rfl (by kernel_rfl) (by kernel_rfl) (by kernel_rfl) (fun _ _ _ h => h) (Or.inl ⟨by rfl, ?h8⟩) (by assumption) ?r8
    case h8 => (intro w hSw; (try dsimp only at hSw); go_simp <;> with_reducible rfl)
    try simp only [Act.put, List.setIfInBounds_toArray, List.set_cons_zero, List.set_cons_succ]
    refine wpAnyH_take (i := 11) (v := ?v9) rfl (by kernel_rfl) (by kernel_rfl) (by kernel_rfl) (fun _ _ _ h => h) (Or.inl ⟨by rfl, ?h9⟩) (by assumption) ?r9
    case h9 => (intro w hSw; (try dsimp only at hSw); go_simp <;> with_reducible rfl)
    try simp only [Act.put, List.setIfInBounds_toArray, List.set_cons_zero, List.set_cons_succ]
    refine wpAnyH_take (i := 12) (v := ?v10) rfl (by kernel_rfl) (by kernel_rfl) (by kernel_rfl) (fun _ _ _ h => h) (Or.inl ⟨by rfl, ?h10⟩) (by assumption) ?r10
    case h10 => (intro w hSw; (try dsimp only at hSw); go_simp <;> with_reducible rfl)
    try simp only [Act.put, List.setIfInBounds_toArray, List.set_cons_zero, List.set_cons_succ]
    refine wpAnyH_take (i := 13) (v := ?v11) rfl (by kernel_rfl) (by kernel_rfl) (by kernel_rfl) (fun _ _ _ h => h) (Or.inl ⟨by rfl, ?h11⟩) (by assumption) ?r11
    case h11 => (intro w hSw; (try dsimp only at hSw); go_simp <;> with_reducible rfl)
    try simp only [Act.put, List.setIfInBounds_toArray, List.set_cons_zero, List.set_cons_succ]
    refine wpAnyH_take (i := 15) (v := ?v12) rfl (by kernel_rfl) (by kernel_rfl) (by kernel_rfl) (fun _ _ _ h => h) (Or.inl ⟨by rfl, ?h12⟩) (by assumption) ?r12
    case h12 => (intro w hSw; (try dsimp only at hSw); go_simp <;> with_reducible rfl)
    try simp only [Act.put, List.setIfInBounds_toArray, List.set_cons_zero, List.set_cons_succ]
    refine wpAnyH_ready (rs := [9]) (by kernel_rfl) (by simp) ?_
    refine AllReadyH.cons rfl (fun K hK => ?s13) ?m13
    case s13 =>
      go_simp
      refine (lat_any pre.length (by omega) idx _).mono ?_
      rintro e w' ⟨rfl, rfl⟩
      go_simp
      refine hK.out _ _ ?_ (fun hHeld => ?_)
      · first | with_reducible assumption | exact ⟨q1, q2, q3, q4, q5⟩ | go_keep
      clear hK K
      try simp only [Act.put, List.setIfInBounds_toArray, List.set_cons_zero, List.set_cons_succ]
      refine wpAnyH_take (i := 10) (v := ?v14) rfl (by kernel_rfl) (by kernel_rfl) (by kernel_rfl) (fun _ _ _ h => h) (Or.inl ⟨by rfl, ?h14⟩) (by assumption) ?r14
      case h14 => (intro w hSw; (try dsimp only at hSw); go_simp <;> with_reducible rfl)
      try simp only [Act.put, List.setIfInBounds_toArray, List.set_cons_zero, List.set_cons_succ]
      refine wpAnyH_ready (rs := [14]) (by kernel_rfl) (by simp) ?_
      refine AllReadyH.cons rfl (fun K hK => ?s15) ?m15
      case s15 =>
        go_simp
        try simp only [hent]
        go_simp
        refine (hval _ _ (by simpa using cvb)).mono ?_
        rintro e w' ⟨rfl, rfl⟩
        go_simp
        refine hK.out _ _ ?_ (fun hHeld => ?_)
        · first | with_reducible assumption | exact ⟨q1, q2, q3, q4, q5⟩ | go_keep
        clear hK K
        try simp only [Act.put, List.setIfInBounds_toArray, List.set_cons_zero, List.set_cons_succ]
        refine wpAnyH_ready (rs := [16]) (by kernel_rfl) (by simp) ?_
        refine AllReadyH.cons rfl (fun K hK => ?s16) ?m16
        case s16 =>
          go_simp
          refine (select_any (m &&& eqM (BitVec.ofNat 64 pre.length) idx) (val (cl C (base + pre.length))) (cl C (base + pre.length)) _).mono ?_
          rintro e w' ⟨rfl, rfl⟩
          go_simp
          refine hK.out _ _ ?_ (fun hHeld => ?_)
          · first | with_reducible assumption | exact ⟨q1, q2, q3, q4, q5⟩ | go_keep
          clear hK K
          try simp only [Act.put, List.setIfInBounds_toArray, List.set_cons_zero, List.set_cons_succ]
          refine wpAnyH_ready (rs := [17]) (by kernel_rfl) (by simp) ?_
          refine AllReadyH.cons rfl (fun K hK => ?s17) ?m17
          case s17 =>
            go_simp
            refine (hst _ (HK.out.off (Off.drew (Off.refl _ _)))).mono ?_
            rintro e w' ⟨rfl, hw, hko⟩
            have HW9 := Lib.hid hw
            have HKO := Lib.hid hko
            obtain ⟨q1, q2, q3, q4, q5, q6⟩ := cB_cells hw
            clear hw hko
            go_simp
            refine hK.out _ _ ?_ (fun hHeld => ?_)
            · first | with_reducible assumption | exact ⟨q1, q2, q3, q4, q5⟩ | go_keep
            clear hK K
            try simp only [Act.put, List.setIfInBounds_toArray, List.set_cons_zero, List.set_cons_succ]
            refine wpAnyH_done (by kernel_rfl) ?_ _
            gi_wp2
            exact ⟨(KeepsOthers.drew _).trans HKO.out, by rw [List.length_append]; exact HW9.out⟩
          exact AllReadyH.nil
        exact AllReadyH.nil
      exact AllReadyH.nil
    exact AllReadyH.nil
  case hdone =>
    rintro D xs W hD hxs hi hK
    rw [hxs] at hi
    have HI := Lib.hid hi
    have HD := Lib.hid hK
    clear hi hK hxs
    gi_wp2_with fail
    have hK' := HD.out
    have hU := HI.out.unmark (o' := .deferred none) (by have := HS.out; have := HSS.out; omega) hK' rfl
    refine ⟨by simp, .inl ⟨_, _, rfl, run_takeDeferred hK', ?_⟩⟩
    refine ⟨.int .i64 0, ?_, rfl, hU.sub (fun x hx => by unfold cB; simp at hx ⊢; simp [hx]) (by simp)⟩
    simp [results, Try.f34, go_sem]
end
end Go.Proofs.Ytgdklokoeeokbaa
