/-
  lookup.Find over an arena.
-/
import Derived.Test.YtgdklokoeeokbaaLookGet
namespace Go.Proofs.Ytgdklokoeeokbaa
open Go.RowKit Go.Shelf
attribute [local go_sem] Oper.semAt_some
attribute [local go_sem] bits_and_u64 bits_or_u64 bits_xor_u64 bits_andNot_u64 wrap_u64 bv_add bv_neg bv_sub bv_mul
set_option linter.unusedVariables false
set_option linter.unusedSimpArgs false
set_option maxRecDepth 100000
/-- The first of k places that has the value; n: none. -/
def fst0 (V : Nat → BitVec 64) (v : BitVec 64) (n : Nat) : Nat → Nat
  | 0 => n
  | k + 1 => if fst0 V v n k = n ∧ v = V k then k else fst0 V v n k
theorem fst0_le (V : Nat → BitVec 64) (v : BitVec 64) (n k : Nat) (hk : k ≤ n) : fst0 V v n k = n ∨ fst0 V v n k < k := by
  induction k with
  | zero => exact .inl rfl
  | succ k ih =>
    show (if fst0 V v n k = n ∧ v = V k then k else fst0 V v n k) = n ∨ (if fst0 V v n k = n ∧ v = V k then k else fst0 V v n k) < k + 1
    split
    · right; omega
    · rcases ih (by omega) with h | h
      · exact .inl h
      · right; omega
theorem eqM_nat (a b : Nat) (ha : a < 18446744073709551616) (hb : b < 18446744073709551616) : eqM (BitVec.ofNat 64 a) (BitVec.ofNat 64 b) = msk (decide (a = b)) := by
  unfold eqM
  congr 1
  rw [Bool.eq_iff_iff]
  simp only [decide_eq_true_eq]
  constructor
  · intro h
    have := congrArg BitVec.toNat h
    rw [BitVec.toNat_ofNat, BitVec.toNat_ofNat, Nat.mod_eq_of_lt ha, Nat.mod_eq_of_lt hb] at this
    exact this
  · intro h; rw [h]
theorem fst0_step (V : Nat → BitVec 64) (v : BitVec 64) (n k : Nat) (hk : k < n) (hn : n ≤ 4096) :
    selM (eqM v (V k) &&& eqM (BitVec.ofNat 64 (fst0 V v n k)) (BitVec.ofNat 64 n)) (BitVec.ofNat 64 k) (BitVec.ofNat 64 (fst0 V v n k)) = BitVec.ofNat 64 (fst0 V v n (k + 1)) := by
  have hl := fst0_le V v n k (by omega)
  rw [eqM_nat _ _ (by omega) (by omega)]
  unfold eqM
  rw [msk_and, sel_msk]
  show _ = BitVec.ofNat 64 (if fst0 V v n k = n ∧ v = V k then k else fst0 V v n k)
  by_cases h1 : v = V k
  · by_cases h2 : fst0 V v n k = n
    · rw [decide_eq_true h1, decide_eq_true h2, if_pos (show (true && true) = true from rfl), if_pos ⟨h2, h1⟩]
    · rw [decide_eq_true h1, decide_eq_false h2, if_neg (by decide), if_neg (fun h => h2 h.1)]
  · rw [decide_eq_false h1, Bool.false_and, if_neg (by decide), if_neg (fun h => h1 h.2)]
theorem n64_nat (m : Nat) (h : m < 18446744073709551616) : n64 (BitVec.ofNat 64 m) = (m : Int) := by unfold n64; rw [BitVec.toNat_ofNat, Nat.mod_eq_of_lt h]
section
variable {w : World} {F : Nat → Prop} {p : Nat} {C : List (BitVec 64)} {E : List Ev}
/-- The boxes of Find. -/
def fB (s p base n : Nat) (v x : BitVec 64) : Bks := [(s + 1 + 1, 23, #[.int .u64 (n64 x)]), (s, 3, #[.int .i64 (n : Int)]), (s + 1, 23, #[.int .u64 (n64 v)]), (s + 1 + 1 + 1, 27, #[.pointer (some ⟨p, 0, none⟩)]), (s + 1 + 1 + 1 + 1, 3, #[.int .i64 (base : Int)]), (s + 1 + 1 + 1 + 1 + 1, 3, #[.int .i64 (n : Int)])]
theorem fB_put {w W : World} {F : Nat → Prop} {s base n : Nat} {v x : BitVec 64} (h : Wk w F W (fB s p base n v x) p C E) (x' : BitVec 64) : Wk w F (W.setCell ⟨s + 1 + 1, 0, none⟩ (.int .u64 (n64 x'))).drew (fB s p base n v x') p C E :=
  (h.put 0 (.int .u64 (n64 x'))).off (Off.drew (Off.refl _ _))
set_option maxHeartbeats 8000000 in
theorem find_ok (h : Ar w F p C E) (base n : Nat) (v : BitVec 64) (hz : lkE C.length E.length base n ((1 : Nat) : Int) = 0) :
    Calls Try.prog 12 #[.pointer (some ⟨p, 0, none⟩), .int .i64 (base : Int), .int .i64 (n : Int), .int .u64 (n64 v)] w fun e w' => e = .returned (.tuple #[.int .u64 (n64 (BitVec.ofNat 64 (fst0 (fun i => cl C (base + i)) v n n))), .int .i64 0]) ∧ ArTo w F p C (ldE base E n) w' := by
  obtain ⟨g1, g2, g3, g4, g5⟩ := lkE_zero hz
  have hn2 := h.n2
  have HZ := Lib.hid hz
  have HAR := Lib.hid h
  have HW2 := (((Wk.start h).push 3 #[.int .i64 (n : Int)]).push 23 #[.int .u64 (n64 v)]).push 23 #[.int .u64 0]
  obtain ⟨Fx, hFx⟩ := HW2.ar
  have HC := Lib.hid (lcheck_any hFx base n 1 (by decide))
  have HW := Lib.hid HW2
  have G5 := Lib.hid g5
  clear h hz hFx HW2 g5
  refine (callsIn_wide (n := 4)).1 ?_
  refine callsIn_of_wp_marks Try.func12 rfl trivial ?_ rfl
  simp only [Try.ntmps12, List.size_toArray, List.length_cons, List.length_nil, Nat.reduceAdd, Nat.reduceSub, Array.replicate_succ, Array.replicate_zero, List.push_toArray, List.append_toArray, List.nil_append, List.cons_append]
  gi_wp2_with fail
  refine ⟨trivial, ?_⟩
  refine monoIn (R := fun e w' => e = .returned (.int .i64 0) ∧ _ = w') (by have := HC.out; rwa [HZ.out] at this) ?_
  rintro e w' ⟨rfl, rfl⟩
  have HW3 : Hid (Wk w F ((((w.alloc (.cells #[.int .i64 (n : Int)] 3)).alloc (.cells #[.int .u64 (n64 v)] 23)).alloc (.cells #[.int .u64 (n64 (BitVec.ofNat 64 n))] 23))) [(w.heap.size + 1 + 1, 23, #[.int .u64 (n64 (BitVec.ofNat 64 n))]), (w.heap.size + 1, 23, #[.int .u64 (n64 v)]), (w.heap.size, 3, #[.int .i64 (n : Int)])] p C E) := by
    exact Lib.hid (by
      have h0 : Ar w F p C E := HAR.out
      have := (((Wk.start h0).push 3 #[.int .i64 (n : Int)]).push 23 #[.int .u64 (n64 v)]).push 23 #[.int .u64 (n64 (BitVec.ofNat 64 n))]
      simpa using this)
  have hnn : n64 (BitVec.ofNat 64 n) = (n : Int) := n64_nat n (by omega)
  have HNN := Lib.hid hnn
  rw [hnn] at HW3
  clear hnn HW
  gi_wp2_with fail
  refine ⟨trivial, ?_⟩
  refine monoIn (all_any p (base : Int) (n : Int) _) ?_
  rintro e w' ⟨rfl, rfl⟩
  have HW5 := ((HW3.out.push 27 #[.pointer (some ⟨p, 0, none⟩)]).push 3 #[.int .i64 (base : Int)]).push 3 #[.int .i64 (n : Int)]
  clear HC HZ HW3
  simp only [World.size_alloc] at HW5
  gi_wp2_with fail
  have hbv : n64 (bv (n : Int)) = (n : Int) := by rw [show bv (n : Int) = BitVec.ofNat 64 n from BitVec.ofInt_natCast ..]; exact HNN.out
  rw [hbv]
  clear hbv
  have hs0 : ((((((w.alloc (.cells #[.int .i64 (n : Int)] 3)).alloc (.cells #[.int .u64 (n64 v)] 23)).alloc (.cells #[.int .u64 (n : Int)] 23)).alloc (.cells #[.pointer (some ⟨p, 0, none⟩)] 27)).alloc (.cells #[.int .i64 (base : Int)] 3)).alloc (.cells #[.int .i64 (n : Int)] 3)).heap.size = w.heap.size + 6 := by simp
  generalize (((((w.alloc (.cells #[.int .i64 (n : Int)] 3)).alloc (.cells #[.int .u64 (n64 v)] 23)).alloc (.cells #[.int .u64 (n : Int)] 23)).alloc (.cells #[.pointer (some ⟨p, 0, none⟩)] 27)).alloc (.cells #[.int .i64 (base : Int)] 3)).alloc (.cells #[.int .i64 (n : Int)] 3) = W0 at *
  have HS := Lib.hid hs0
  have HW0 : Hid (Wk w F W0 (fB w.heap.size p base n v (BitVec.ofNat 64 (fst0 (fun i => cl C (base + i)) v n 0))) p C (ldE base E 0)) := Lib.hid (HW5.sub (fun x hx => by unfold fB at hx; rw [show fst0 (fun i => cl C (base + i)) v n 0 = n from rfl, HNN.out] at hx; simp at hx ⊢; rcases hx with rfl | rfl | rfl | rfl | rfl | rfl <;> simp) (by unfold fB; simp; omega))
  clear HW5 hs0
  obtain ⟨s, hs⟩ : ∃ s, w.heap.size = s := ⟨_, rfl⟩
  have HSS := Lib.hid hs
  rw [hs] at HW0 ⊢
  clear hs
  apply range_eff (α := Nat × BitVec 64) (n := 4) (by decide) (gf := 53) (lb := #[.pointer (some ⟨s + 1 + 1 + 1 + 1 + 1, 0, none⟩), .pointer (some ⟨s + 1 + 1 + 1, 0, none⟩), .pointer (some ⟨s + 1 + 1 + 1 + 1, 0, none⟩)]) rfl (enters_of Try.func53 (by kernel_rfl) rfl) (fun _ => rfl)
    (fun pre W => Wk w F W (fB s p base n v (BitVec.ofNat 64 (fst0 (fun i => cl C (base + i)) v n pre.length))) p C (ldE base E pre.length))
    (fun pre x W => x.1 = pre.length ∧ x.1 < n ∧ x.2 = cl C (base + x.1) ∧ Wk w F W (fB s p base n v (BitVec.ofNat 64 (fst0 (fun i => cl C (base + i)) v n x.1))) p C (ldE base E (x.1 + 1)))
    (wk_own (by rw [HS.out]; omega) _ _ _ _) (fun x s1 W W' row hh hg hr => ⟨hh.1, hh.2.1, hh.2.2.1, hh.2.2.2.turn hg (fun r e => ⟨Nat.le_trans (by rw [HS.out]; omega) (hr r e).1, (hr r e).2⟩)⟩) HW0.out
    (all_drives (4 - 1) (by decide) p base n (s + 1 + 1 + 1 + 1 + 1) (s + 1 + 1 + 1) (s + 1 + 1 + 1 + 1) W0.heap.size (by omega) (fun i => cl C (base + i))
      (fun k W => Wk w F W (fB s p base n v (BitVec.ofNat 64 (fst0 (fun i => cl C (base + i)) v n k))) p C (ldE base E k)) (fun k W => Wk w F W (fB s p base n v (BitVec.ofNat 64 (fst0 (fun i => cl C (base + i)) v n k))) p C (ldE base E (k + 1)))
      (fun k W hk => ⟨(hk.blk (b := s + 1 + 1 + 1 + 1 + 1) (t := 3) (cs := #[.int .i64 (n : Int)]) (by unfold fB; simp)).cell 0, (hk.blk (t := 27) (cs := #[.pointer (some ⟨p, 0, none⟩)]) (by unfold fB; simp)).cell 0, (hk.blk (b := s + 1 + 1 + 1 + 1) (t := 3) (cs := #[.int .i64 (base : Int)]) (by unfold fB; simp)).cell 0⟩)
      (fun k W hlt hk => (hk.callO (e0 := .returned (.tuple #[.int .u64 (n64 (cl C (base + k))), .int .i64 0])) (C2 := C) (E2 := ldE base E (k + 1)) (fun w1 F1 ha => by
        have := load_ok ha ((base : Int) + (k : Int)) (by omega) (by omega) (by rw [length_ldE]; have := G5.out; omega)
        rw [show ((base : Int) + (k : Int)).toNat = base + k by omega] at this
        exact this))))
  case hassign =>
    intro l x W K hK
    gi_wp2
    exact hK
  case hbody =>
    rintro l pre ⟨i, u⟩ W ⟨hi, hlt, hv, hk⟩
    dsimp only at hi hlt hv hk
    subst hi hv
    have hmx : Try.prog.follows .mixedOrders = true := by kernel_rfl
    have HK := Lib.hid hk
    have hb8 := hk.blk (b := s + 1 + 1) (t := 23) (cs := #[.int .u64 (n64 (BitVec.ofNat 64 (fst0 (fun i => cl C (base + i)) v n pre.length)))]) (by unfold fB; simp)
    have c8 : W.cell? ⟨s + 1 + 1, 0, none⟩ = some (.int .u64 (n64 (BitVec.ofNat 64 (fst0 (fun i => cl C (base + i)) v n pre.length)))) := hb8.cell 0
    have f8 := hb8.frozen 0
    have c6 : W.cell? ⟨s, 0, none⟩ = some (.int .i64 (n : Int)) := (hk.blk (b := s) (t := 3) (cs := #[.int .i64 (n : Int)]) (by unfold fB; simp)).cell 0
    have c7 : W.cell? ⟨s + 1, 0, none⟩ = some (.int .u64 (n64 v)) := (hk.blk (b := s + 1) (t := 23) (cs := #[.int .u64 (n64 v)]) (by unfold fB; simp)).cell 0
    have feq := fun W2 => equal_any (BitVec.ofNat 64 (fst0 (fun i => cl C (base + i)) v n pre.length)) (bv (n : Int)) W2
    have fsel := fun W2 => (by have := select_any (eqM v (cl C (base + pre.length)) &&& eqM (BitVec.ofNat 64 (fst0 (fun i => cl C (base + i)) v n pre.length)) (bv (n : Int))) (bv (pre.length : Int)) (BitVec.ofNat 64 (fst0 (fun i => cl C (base + i)) v n pre.length)) W2; rwa [show selM (eqM v (cl C (base + pre.length)) &&& eqM (BitVec.ofNat 64 (fst0 (fun i => cl C (base + i)) v n pre.length)) (bv (n : Int))) (bv (pre.length : Int)) (BitVec.ofNat 64 (fst0 (fun i => cl C (base + i)) v n pre.length)) = BitVec.ofNat 64 (fst0 (fun i => cl C (base + i)) v n (pre.length + 1)) from by rw [show bv (n : Int) = BitVec.ofNat 64 n from BitVec.ofInt_natCast .., show bv (pre.length : Int) = BitVec.ofNat 64 pre.length from BitVec.ofInt_natCast ..]; exact fst0_step (fun i => cl C (base + i)) v n pre.length hlt (by omega)] at this : Calls Try.prog 31 #[.int .u64 (n64 (eqM v (cl C (base + pre.length)) &&& eqM (BitVec.ofNat 64 (fst0 (fun i => cl C (base + i)) v n pre.length)) (bv (n : Int)))), .int .u64 (n64 (bv (pre.length : Int))), .int .u64 (n64 (BitVec.ofNat 64 (fst0 (fun i => cl C (base + i)) v n pre.length)))] W2 fun e w' => e = .returned (.int .u64 (n64 (BitVec.ofNat 64 (fst0 (fun i => cl C (base + i)) v n (pre.length + 1))))) ∧ W2 = w')
    have n1 : s ≠ s + 1 + 1 := by omega
    have n2 : s + 1 ≠ s + 1 + 1 := by omega
    have n3 : s + 1 + 1 ≠ s := by omega
    have n4 : s + 1 + 1 ≠ s + 1 := by omega
    clear hk hb8
    dsimp only
    gi_wp2_with fail
    refine round_held (S := fun W => W.cell? ⟨s, 0, none⟩ = some (.int .i64 (n : Int)) ∧ W.cell? ⟨s + 1, 0, none⟩ = some (.int .u64 (n64 v)) ∧ W.frozen? ⟨s + 1 + 1, 0, none⟩ = false) hmx (by kernel_rfl) (fun ⟨_, _, h⟩ => h) ⟨c6, c7, f8⟩ (fun hHeld => ?_)
    refine wpAnyH_take (i := 0) (v := ?v0) rfl (by kernel_rfl) (by kernel_rfl) (by kernel_rfl) (fun _ _ _ h => h) (Or.inl ⟨by rfl, ?h0⟩) (by assumption) ?r0
    case h0 => (intro w hSw; (try dsimp only at hSw); go_simp <;> with_reducible rfl)
    try simp only [Act.put, List.setIfInBounds_toArray, List.set_cons_zero, List.set_cons_succ]
    refine wpAnyH_take (i := 1) (v := ?v1) rfl (by kernel_rfl) (by kernel_rfl) (by kernel_rfl) (fun _ _ _ h => h) (Or.inl ⟨by rfl, ?h1⟩) (by assumption) ?r1
    case h1 => (intro w hSw; (try dsimp only at hSw); go_simp <;> with_reducible rfl)
    try simp only [Act.put, List.setIfInBounds_toArray, List.set_cons_zero, List.set_cons_succ]
    refine wpAnyH_take (i := 4) (v := ?v2) rfl (by kernel_rfl) (by kernel_rfl) (by kernel_rfl) (fun _ _ _ h => h) (Or.inl ⟨by rfl, ?h2⟩) (by assumption) ?r2
    case h2 => (intro w hSw; (try dsimp only at hSw); go_simp <;> with_reducible rfl)
    try simp only [Act.put, List.setIfInBounds_toArray, List.set_cons_zero, List.set_cons_succ]
    refine wpAnyH_take (i := 5) (v := ?v3) rfl (by kernel_rfl) (by kernel_rfl) (by kernel_rfl) (fun _ _ _ h => h) (Or.inl ⟨by rfl, ?h3⟩) (by assumption) ?r3
    case h3 => (intro w hSw; (try dsimp only at hSw); go_simp <;> with_reducible rfl)
    try simp only [Act.put, List.setIfInBounds_toArray, List.set_cons_zero, List.set_cons_succ]
    refine wpAnyH_take (i := 8) (v := ?v4) rfl (by kernel_rfl) (by kernel_rfl) (by kernel_rfl) (fun _ _ _ h => h) (Or.inl ⟨by rfl, ?h4⟩) (by assumption) ?r4
    case h4 => (intro w hSw; (try dsimp only at hSw); go_simp <;> with_reducible rfl)
    try simp only [Act.put, List.setIfInBounds_toArray, List.set_cons_zero, List.set_cons_succ]
    refine wpAnyH_take (i := 9) (v := ?v5) rfl (by kernel_rfl) (by kernel_rfl) (by kernel_rfl) (fun _ _ _ h => h) (Or.inl ⟨by rfl, ?h5⟩) (by assumption) ?r5
    case h5 => (intro w hSw; (try dsimp only at hSw); go_simp <;> with_reducible rfl)
    try simp only [Act.put, List.setIfInBounds_toArray, List.set_cons_zero, List.set_cons_succ]
    refine wpAnyH_ready (rs := [2, 3, 10]) (by kernel_rfl) (by simp) ?_
    refine AllReadyH.cons rfl (fun K hK => ?s6) ?m6
    case s6 =>
      go_simp
      refine (equal_any v (cl C (base + pre.length)) _).mono ?_
      rintro e w' ⟨rfl, rfl⟩
      go_simp
      refine hK.out _ _ ?_ (fun hHeld => ?_)
      · first | with_reducible assumption | exact ⟨(World.cell?_setCell_far _ _ _ _ n3).trans (by simpa using c6), (World.cell?_setCell_far _ _ _ _ n4).trans (by simpa using c7), by simp [f8]⟩ | go_keep
      clear hK K
      try simp only [Act.put, List.setIfInBounds_toArray, List.set_cons_zero, List.set_cons_succ]
      refine wpAnyH_ready (rs := [3, 10]) (by kernel_rfl) (by simp) ?_
      refine AllReadyH.cons rfl (fun K hK => ?s7) ?m7
      case s7 =>
        go_simp
        refine hK.out _ _ ?_ (fun hHeld => ?_)
        · first | with_reducible assumption | exact ⟨(World.cell?_setCell_far _ _ _ _ n3).trans (by simpa using c6), (World.cell?_setCell_far _ _ _ _ n4).trans (by simpa using c7), by simp [f8]⟩ | go_keep
        clear hK K
        try simp only [Act.put, List.setIfInBounds_toArray, List.set_cons_zero, List.set_cons_succ]
        refine wpAnyH_ready (rs := [6, 10]) (by kernel_rfl) (by simp) ?_
        refine AllReadyH.cons rfl (fun K hK => ?s8) ?m8
        case s8 =>
          go_simp
          refine (feq _).mono ?_
          rintro e w' ⟨rfl, rfl⟩
          go_simp
          refine hK.out _ _ ?_ (fun hHeld => ?_)
          · first | with_reducible assumption | exact ⟨(World.cell?_setCell_far _ _ _ _ n3).trans (by simpa using c6), (World.cell?_setCell_far _ _ _ _ n4).trans (by simpa using c7), by simp [f8]⟩ | go_keep
          clear hK K
          try simp only [Act.put, List.setIfInBounds_toArray, List.set_cons_zero, List.set_cons_succ]
          refine wpAnyH_take (i := 7) (v := ?v9) rfl (by kernel_rfl) (by kernel_rfl) (by kernel_rfl) (fun _ _ _ h => h) (Or.inl ⟨by rfl, ?h9⟩) (by assumption) ?r9
          case h9 => (intro w hSw; (try dsimp only at hSw); go_simp <;> with_reducible rfl)
          try simp only [Act.put, List.setIfInBounds_toArray, List.set_cons_zero, List.set_cons_succ]
          refine wpAnyH_ready (rs := [10]) (by kernel_rfl) (by simp) ?_
          refine AllReadyH.cons rfl (fun K hK => ?s10) ?m10
          case s10 =>
            go_simp
            refine hK.out _ _ ?_ (fun hHeld => ?_)
            · first | with_reducible assumption | exact ⟨(World.cell?_setCell_far _ _ _ _ n3).trans (by simpa using c6), (World.cell?_setCell_far _ _ _ _ n4).trans (by simpa using c7), by simp [f8]⟩ | go_keep
            clear hK K
            try simp only [Act.put, List.setIfInBounds_toArray, List.set_cons_zero, List.set_cons_succ]
            refine wpAnyH_ready (rs := [11]) (by kernel_rfl) (by simp) ?_
            refine AllReadyH.cons rfl (fun K hK => ?s11) ?m11
            case s11 =>
              go_simp
              refine (fsel _).mono ?_
              rintro e w' ⟨rfl, rfl⟩
              go_simp
              refine hK.out _ _ ?_ (fun hHeld => ?_)
              · first | with_reducible assumption | exact ⟨(World.cell?_setCell_far _ _ _ _ n3).trans (by simpa using c6), (World.cell?_setCell_far _ _ _ _ n4).trans (by simpa using c7), by simp [f8]⟩ | go_keep
              clear hK K
              try simp only [Act.put, List.setIfInBounds_toArray, List.set_cons_zero, List.set_cons_succ]
              refine wpAnyH_ready (rs := [12]) (by kernel_rfl) (by simp) ?_
              refine AllReadyH.cons rfl (fun K hK => ?s12) ?m12
              case s12 =>
                go_simp
                refine hK.out _ _ ?_ (fun hHeld => ?_)
                · first | with_reducible assumption | exact ⟨(World.cell?_setCell_far _ _ _ _ n3).trans (by simpa using c6), (World.cell?_setCell_far _ _ _ _ n4).trans (by simpa using c7), by simp [f8]⟩ | go_keep
                clear hK K
                try simp only [Act.put, List.setIfInBounds_toArray, List.set_cons_zero, List.set_cons_succ]
                refine wpAnyH_done (by kernel_rfl) ?_ _
                gi_wp2
                exact ⟨(KeepsOthers.setCell _ _ _).trans (KeepsOthers.drew _), by rw [List.length_append]; exact fB_put HK.out _⟩
              exact AllReadyH.nil
            exact AllReadyH.nil
          exact AllReadyH.nil
        refine AllReadyH.cons rfl (fun K hK => ?s13) ?m13
        case s13 =>
          go_simp
          refine hK.out _ _ ?_ (fun hHeld => ?_)
          · first | with_reducible assumption | exact ⟨(World.cell?_setCell_far _ _ _ _ n3).trans (by simpa using c6), (World.cell?_setCell_far _ _ _ _ n4).trans (by simpa using c7), by simp [f8]⟩ | go_keep
          clear hK K
          try simp only [Act.put, List.setIfInBounds_toArray, List.set_cons_zero, List.set_cons_succ]
          refine wpAnyH_ready (rs := [6]) (by kernel_rfl) (by simp) ?_
          refine AllReadyH.cons rfl (fun K hK => ?s14) ?m14
          case s14 =>
            go_simp
            refine (feq _).mono ?_
            rintro e w' ⟨rfl, rfl⟩
            go_simp
            refine hK.out _ _ ?_ (fun hHeld => ?_)
            · first | with_reducible assumption | exact ⟨(World.cell?_setCell_far _ _ _ _ n3).trans (by simpa using c6), (World.cell?_setCell_far _ _ _ _ n4).trans (by simpa using c7), by simp [f8]⟩ | go_keep
            clear hK K
            try simp only [Act.put, List.setIfInBounds_toArray, List.set_cons_zero, List.set_cons_succ]
            refine wpAnyH_take (i := 7) (v := ?v15) rfl (by kernel_rfl) (by kernel_rfl) (by kernel_rfl) (fun _ _ _ h => h) (Or.inl ⟨by rfl, ?h15⟩) (by assumption) ?r15
            case h15 => (intro w hSw; (try dsimp only at hSw); go_simp <;> with_reducible rfl)
            try simp only [Act.put, List.setIfInBounds_toArray, List.set_cons_zero, List.set_cons_succ]
            refine wpAnyH_ready (rs := [11]) (by kernel_rfl) (by simp) ?_
            refine AllReadyH.cons rfl (fun K hK => ?s16) ?m16
            case s16 =>
              go_simp
              refine (fsel _).mono ?_
              rintro e w' ⟨rfl, rfl⟩
              go_simp
              refine hK.out _ _ ?_ (fun hHeld => ?_)
              · first | with_reducible assumption | exact ⟨(World.cell?_setCell_far _ _ _ _ n3).trans (by simpa using c6), (World.cell?_setCell_far _ _ _ _ n4).trans (by simpa using c7), by simp [f8]⟩ | go_keep
              clear hK K
              try simp only [Act.put, List.setIfInBounds_toArray, List.set_cons_zero, List.set_cons_succ]
              refine wpAnyH_ready (rs := [12]) (by kernel_rfl) (by simp) ?_
              refine AllReadyH.cons rfl (fun K hK => ?s17) ?m17
              case s17 =>
                go_simp
                refine hK.out _ _ ?_ (fun hHeld => ?_)
                · first | with_reducible assumption | exact ⟨(World.cell?_setCell_far _ _ _ _ n3).trans (by simpa using c6), (World.cell?_setCell_far _ _ _ _ n4).trans (by simpa using c7), by simp [f8]⟩ | go_keep
                clear hK K
                try simp only [Act.put, List.setIfInBounds_toArray, List.set_cons_zero, List.set_cons_succ]
                refine wpAnyH_done (by kernel_rfl) ?_ _
                gi_wp2
                exact ⟨(KeepsOthers.setCell _ _ _).trans (KeepsOthers.drew _), by rw [List.length_append]; exact fB_put HK.out _⟩
              exact AllReadyH.nil
            exact AllReadyH.nil
          exact AllReadyH.nil
        exact AllReadyH.nil
      refine AllReadyH.cons rfl (fun K hK => ?s18) ?m18
      case s18 =>
        go_simp
        refine hK.out _ _ ?_ (fun hHeld => ?_)
        · first | with_reducible assumption | exact ⟨(World.cell?_setCell_far _ _ _ _ n3).trans (by simpa using c6), (World.cell?_setCell_far _ _ _ _ n4).trans (by simpa using c7), by simp [f8]⟩ | go_keep
        clear hK K
        try simp only [Act.put, List.setIfInBounds_toArray, List.set_cons_zero, List.set_cons_succ]
        refine wpAnyH_ready (rs := [3]) (by kernel_rfl) (by simp) ?_
        refine AllReadyH.cons rfl (fun K hK => ?s19) ?m19
        case s19 =>
          go_simp
          refine hK.out _ _ ?_ (fun hHeld => ?_)
          · first | with_reducible assumption | exact ⟨(World.cell?_setCell_far _ _ _ _ n3).trans (by simpa using c6), (World.cell?_setCell_far _ _ _ _ n4).trans (by simpa using c7), by simp [f8]⟩ | go_keep
          clear hK K
          try simp only [Act.put, List.setIfInBounds_toArray, List.set_cons_zero, List.set_cons_succ]
          refine wpAnyH_ready (rs := [6]) (by kernel_rfl) (by simp) ?_
          refine AllReadyH.cons rfl (fun K hK => ?s20) ?m20
          case s20 =>
            go_simp
            refine (feq _).mono ?_
            rintro e w' ⟨rfl, rfl⟩
            go_simp
            refine hK.out _ _ ?_ (fun hHeld => ?_)
            · first | with_reducible assumption | exact ⟨(World.cell?_setCell_far _ _ _ _ n3).trans (by simpa using c6), (World.cell?_setCell_far _ _ _ _ n4).trans (by simpa using c7), by simp [f8]⟩ | go_keep
            clear hK K
            try simp only [Act.put, List.setIfInBounds_toArray, List.set_cons_zero, List.set_cons_succ]
            refine wpAnyH_take (i := 7) (v := ?v21) rfl (by kernel_rfl) (by kernel_rfl) (by kernel_rfl) (fun _ _ _ h => h) (Or.inl ⟨by rfl, ?h21⟩) (by assumption) ?r21
            case h21 => (intro w hSw; (try dsimp only at hSw); go_simp <;> with_reducible rfl)
            try simp only [Act.put, List.setIfInBounds_toArray, List.set_cons_zero, List.set_cons_succ]
            refine wpAnyH_ready (rs := [11]) (by kernel_rfl) (by simp) ?_
            refine AllReadyH.cons rfl (fun K hK => ?s22) ?m22
            case s22 =>
              go_simp
              refine (fsel _).mono ?_
              rintro e w' ⟨rfl, rfl⟩
              go_simp
              refine hK.out _ _ ?_ (fun hHeld => ?_)
              · first | with_reducible assumption | exact ⟨(World.cell?_setCell_far _ _ _ _ n3).trans (by simpa using c6), (World.cell?_setCell_far _ _ _ _ n4).trans (by simpa using c7), by simp [f8]⟩ | go_keep
              clear hK K
              try simp only [Act.put, List.setIfInBounds_toArray, List.set_cons_zero, List.set_cons_succ]
              refine wpAnyH_ready (rs := [12]) (by kernel_rfl) (by simp) ?_
              refine AllReadyH.cons rfl (fun K hK => ?s23) ?m23
              case s23 =>
                go_simp
                refine hK.out _ _ ?_ (fun hHeld => ?_)
                · first | with_reducible assumption | exact ⟨(World.cell?_setCell_far _ _ _ _ n3).trans (by simpa using c6), (World.cell?_setCell_far _ _ _ _ n4).trans (by simpa using c7), by simp [f8]⟩ | go_keep
                clear hK K
                try simp only [Act.put, List.setIfInBounds_toArray, List.set_cons_zero, List.set_cons_succ]
                refine wpAnyH_done (by kernel_rfl) ?_ _
                gi_wp2
                exact ⟨(KeepsOthers.setCell _ _ _).trans (KeepsOthers.drew _), by rw [List.length_append]; exact fB_put HK.out _⟩
              exact AllReadyH.nil
            exact AllReadyH.nil
          exact AllReadyH.nil
        exact AllReadyH.nil
      exact AllReadyH.nil
    refine AllReadyH.cons rfl (fun K hK => ?s24) ?m24
    case s24 =>
      go_simp
      refine hK.out _ _ ?_ (fun hHeld => ?_)
      · first | with_reducible assumption | exact ⟨(World.cell?_setCell_far _ _ _ _ n3).trans (by simpa using c6), (World.cell?_setCell_far _ _ _ _ n4).trans (by simpa using c7), by simp [f8]⟩ | go_keep
      clear hK K
      try simp only [Act.put, List.setIfInBounds_toArray, List.set_cons_zero, List.set_cons_succ]
      refine wpAnyH_ready (rs := [2, 10]) (by kernel_rfl) (by simp) ?_
      refine AllReadyH.cons rfl (fun K hK => ?s25) ?m25
      case s25 =>
        go_simp
        refine (equal_any v (cl C (base + pre.length)) _).mono ?_
        rintro e w' ⟨rfl, rfl⟩
        go_simp
        refine hK.out _ _ ?_ (fun hHeld => ?_)
        · first | with_reducible assumption | exact ⟨(World.cell?_setCell_far _ _ _ _ n3).trans (by simpa using c6), (World.cell?_setCell_far _ _ _ _ n4).trans (by simpa using c7), by simp [f8]⟩ | go_keep
        clear hK K
        try simp only [Act.put, List.setIfInBounds_toArray, List.set_cons_zero, List.set_cons_succ]
        refine wpAnyH_ready (rs := [6, 10]) (by kernel_rfl) (by simp) ?_
        refine AllReadyH.cons rfl (fun K hK => ?s26) ?m26
        case s26 =>
          go_simp
          refine (feq _).mono ?_
          rintro e w' ⟨rfl, rfl⟩
          go_simp
          refine hK.out _ _ ?_ (fun hHeld => ?_)
          · first | with_reducible assumption | exact ⟨(World.cell?_setCell_far _ _ _ _ n3).trans (by simpa using c6), (World.cell?_setCell_far _ _ _ _ n4).trans (by simpa using c7), by simp [f8]⟩ | go_keep
          clear hK K
          try simp only [Act.put, List.setIfInBounds_toArray, List.set_cons_zero, List.set_cons_succ]
          refine wpAnyH_take (i := 7) (v := ?v27) rfl (by kernel_rfl) (by kernel_rfl) (by kernel_rfl) (fun _ _ _ h => h) (Or.inl ⟨by rfl, ?h27⟩) (by assumption) ?r27
          case h27 => (intro w hSw; (try dsimp only at hSw); go_simp <;> with_reducible rfl)
          try simp only [Act.put, List.setIfInBounds_toArray, List.set_cons_zero, List.set_cons_succ]
          refine wpAnyH_ready (rs := [10]) (by kernel_rfl) (by simp) ?_
          refine AllReadyH.cons rfl (fun K hK => ?s28) ?m28
          case s28 =>
            go_simp
            refine hK.out _ _ ?_ (fun hHeld => ?_)
            · first | with_reducible assumption | exact ⟨(World.cell?_setCell_far _ _ _ _ n3).trans (by simpa using c6), (World.cell?_setCell_far _ _ _ _ n4).trans (by simpa using c7), by simp [f8]⟩ | go_keep
            clear hK K
            try simp only [Act.put, List.setIfInBounds_toArray, List.set_cons_zero, List.set_cons_succ]
            refine wpAnyH_ready (rs := [11]) (by kernel_rfl) (by simp) ?_
            refine AllReadyH.cons rfl (fun K hK => ?s29) ?m29
            case s29 =>
              go_simp
              refine (fsel _).mono ?_
              rintro e w' ⟨rfl, rfl⟩
              go_simp
              refine hK.out _ _ ?_ (fun hHeld => ?_)
              · first | with_reducible assumption | exact ⟨(World.cell?_setCell_far _ _ _ _ n3).trans (by simpa using c6), (World.cell?_setCell_far _ _ _ _ n4).trans (by simpa using c7), by simp [f8]⟩ | go_keep
              clear hK K
              try simp only [Act.put, List.setIfInBounds_toArray, List.set_cons_zero, List.set_cons_succ]
              refine wpAnyH_ready (rs := [12]) (by kernel_rfl) (by simp) ?_
              refine AllReadyH.cons rfl (fun K hK => ?s30) ?m30
              case s30 =>
                go_simp
                refine hK.out _ _ ?_ (fun hHeld => ?_)
                · first | with_reducible assumption | exact ⟨(World.cell?_setCell_far _ _ _ _ n3).trans (by simpa using c6), (World.cell?_setCell_far _ _ _ _ n4).trans (by simpa using c7), by simp [f8]⟩ | go_keep
                clear hK K
                try simp only [Act.put, List.setIfInBounds_toArray, List.set_cons_zero, List.set_cons_succ]
                refine wpAnyH_done (by kernel_rfl) ?_ _
                gi_wp2
                exact ⟨(KeepsOthers.setCell _ _ _).trans (KeepsOthers.drew _), by rw [List.length_append]; exact fB_put HK.out _⟩
              exact AllReadyH.nil
            exact AllReadyH.nil
          exact AllReadyH.nil
        refine AllReadyH.cons rfl (fun K hK => ?s31) ?m31
        case s31 =>
          go_simp
          refine hK.out _ _ ?_ (fun hHeld => ?_)
          · first | with_reducible assumption | exact ⟨(World.cell?_setCell_far _ _ _ _ n3).trans (by simpa using c6), (World.cell?_setCell_far _ _ _ _ n4).trans (by simpa using c7), by simp [f8]⟩ | go_keep
          clear hK K
          try simp only [Act.put, List.setIfInBounds_toArray, List.set_cons_zero, List.set_cons_succ]
          refine wpAnyH_ready (rs := [6]) (by kernel_rfl) (by simp) ?_
          refine AllReadyH.cons rfl (fun K hK => ?s32) ?m32
          case s32 =>
            go_simp
            refine (feq _).mono ?_
            rintro e w' ⟨rfl, rfl⟩
            go_simp
            refine hK.out _ _ ?_ (fun hHeld => ?_)
            · first | with_reducible assumption | exact ⟨(World.cell?_setCell_far _ _ _ _ n3).trans (by simpa using c6), (World.cell?_setCell_far _ _ _ _ n4).trans (by simpa using c7), by simp [f8]⟩ | go_keep
            clear hK K
            try simp only [Act.put, List.setIfInBounds_toArray, List.set_cons_zero, List.set_cons_succ]
            refine wpAnyH_take (i := 7) (v := ?v33) rfl (by kernel_rfl) (by kernel_rfl) (by kernel_rfl) (fun _ _ _ h => h) (Or.inl ⟨by rfl, ?h33⟩) (by assumption) ?r33
            case h33 => (intro w hSw; (try dsimp only at hSw); go_simp <;> with_reducible rfl)
            try simp only [Act.put, List.setIfInBounds_toArray, List.set_cons_zero, List.set_cons_succ]
            refine wpAnyH_ready (rs := [11]) (by kernel_rfl) (by simp) ?_
            refine AllReadyH.cons rfl (fun K hK => ?s34) ?m34
            case s34 =>
              go_simp
              refine (fsel _).mono ?_
              rintro e w' ⟨rfl, rfl⟩
              go_simp
              refine hK.out _ _ ?_ (fun hHeld => ?_)
              · first | with_reducible assumption | exact ⟨(World.cell?_setCell_far _ _ _ _ n3).trans (by simpa using c6), (World.cell?_setCell_far _ _ _ _ n4).trans (by simpa using c7), by simp [f8]⟩ | go_keep
              clear hK K
              try simp only [Act.put, List.setIfInBounds_toArray, List.set_cons_zero, List.set_cons_succ]
              refine wpAnyH_ready (rs := [12]) (by kernel_rfl) (by simp) ?_
              refine AllReadyH.cons rfl (fun K hK => ?s35) ?m35
              case s35 =>
                go_simp
                refine hK.out _ _ ?_ (fun hHeld => ?_)
                · first | with_reducible assumption | exact ⟨(World.cell?_setCell_far _ _ _ _ n3).trans (by simpa using c6), (World.cell?_setCell_far _ _ _ _ n4).trans (by simpa using c7), by simp [f8]⟩ | go_keep
                clear hK K
                try simp only [Act.put, List.setIfInBounds_toArray, List.set_cons_zero, List.set_cons_succ]
                refine wpAnyH_done (by kernel_rfl) ?_ _
                gi_wp2
                exact ⟨(KeepsOthers.setCell _ _ _).trans (KeepsOthers.drew _), by rw [List.length_append]; exact fB_put HK.out _⟩
              exact AllReadyH.nil
            exact AllReadyH.nil
          exact AllReadyH.nil
        exact AllReadyH.nil
      refine AllReadyH.cons rfl (fun K hK => ?s36) ?m36
      case s36 =>
        go_simp
        refine hK.out _ _ ?_ (fun hHeld => ?_)
        · first | with_reducible assumption | exact ⟨(World.cell?_setCell_far _ _ _ _ n3).trans (by simpa using c6), (World.cell?_setCell_far _ _ _ _ n4).trans (by simpa using c7), by simp [f8]⟩ | go_keep
        clear hK K
        try simp only [Act.put, List.setIfInBounds_toArray, List.set_cons_zero, List.set_cons_succ]
        refine wpAnyH_ready (rs := [2]) (by kernel_rfl) (by simp) ?_
        refine AllReadyH.cons rfl (fun K hK => ?s37) ?m37
        case s37 =>
          go_simp
          refine (equal_any v (cl C (base + pre.length)) _).mono ?_
          rintro e w' ⟨rfl, rfl⟩
          go_simp
          refine hK.out _ _ ?_ (fun hHeld => ?_)
          · first | with_reducible assumption | exact ⟨(World.cell?_setCell_far _ _ _ _ n3).trans (by simpa using c6), (World.cell?_setCell_far _ _ _ _ n4).trans (by simpa using c7), by simp [f8]⟩ | go_keep
          clear hK K
          try simp only [Act.put, List.setIfInBounds_toArray, List.set_cons_zero, List.set_cons_succ]
          refine wpAnyH_ready (rs := [6]) (by kernel_rfl) (by simp) ?_
          refine AllReadyH.cons rfl (fun K hK => ?s38) ?m38
          case s38 =>
            go_simp
            refine (feq _).mono ?_
            rintro e w' ⟨rfl, rfl⟩
            go_simp
            refine hK.out _ _ ?_ (fun hHeld => ?_)
            · first | with_reducible assumption | exact ⟨(World.cell?_setCell_far _ _ _ _ n3).trans (by simpa using c6), (World.cell?_setCell_far _ _ _ _ n4).trans (by simpa using c7), by simp [f8]⟩ | go_keep
            clear hK K
            try simp only [Act.put, List.setIfInBounds_toArray, List.set_cons_zero, List.set_cons_succ]
            refine wpAnyH_take (i := 7) (v := ?v39) rfl (by kernel_rfl) (by kernel_rfl) (by kernel_rfl) (fun _ _ _ h => h) (Or.inl ⟨by rfl, ?h39⟩) (by assumption) ?r39
            case h39 => (intro w hSw; (try dsimp only at hSw); go_simp <;> with_reducible rfl)
            try simp only [Act.put, List.setIfInBounds_toArray, List.set_cons_zero, List.set_cons_succ]
            refine wpAnyH_ready (rs := [11]) (by kernel_rfl) (by simp) ?_
            refine AllReadyH.cons rfl (fun K hK => ?s40) ?m40
            case s40 =>
              go_simp
              refine (fsel _).mono ?_
              rintro e w' ⟨rfl, rfl⟩
              go_simp
              refine hK.out _ _ ?_ (fun hHeld => ?_)
              · first | with_reducible assumption | exact ⟨(World.cell?_setCell_far _ _ _ _ n3).trans (by simpa using c6), (World.cell?_setCell_far _ _ _ _ n4).trans (by simpa using c7), by simp [f8]⟩ | go_keep
              clear hK K
              try simp only [Act.put, List.setIfInBounds_toArray, List.set_cons_zero, List.set_cons_succ]
              refine wpAnyH_ready (rs := [12]) (by kernel_rfl) (by simp) ?_
              refine AllReadyH.cons rfl (fun K hK => ?s41) ?m41
              case s41 =>
                go_simp
                refine hK.out _ _ ?_ (fun hHeld => ?_)
                · first | with_reducible assumption | exact ⟨(World.cell?_setCell_far _ _ _ _ n3).trans (by simpa using c6), (World.cell?_setCell_far _ _ _ _ n4).trans (by simpa using c7), by simp [f8]⟩ | go_keep
                clear hK K
                try simp only [Act.put, List.setIfInBounds_toArray, List.set_cons_zero, List.set_cons_succ]
                refine wpAnyH_done (by kernel_rfl) ?_ _
                gi_wp2
                exact ⟨(KeepsOthers.setCell _ _ _).trans (KeepsOthers.drew _), by rw [List.length_append]; exact fB_put HK.out _⟩
              exact AllReadyH.nil
            exact AllReadyH.nil
          exact AllReadyH.nil
        exact AllReadyH.nil
      exact AllReadyH.nil
    refine AllReadyH.cons rfl (fun K hK => ?s42) ?m42
    case s42 =>
      go_simp
      refine hK.out _ _ ?_ (fun hHeld => ?_)
      · first | with_reducible assumption | exact ⟨(World.cell?_setCell_far _ _ _ _ n3).trans (by simpa using c6), (World.cell?_setCell_far _ _ _ _ n4).trans (by simpa using c7), by simp [f8]⟩ | go_keep
      clear hK K
      try simp only [Act.put, List.setIfInBounds_toArray, List.set_cons_zero, List.set_cons_succ]
      refine wpAnyH_ready (rs := [2, 3]) (by kernel_rfl) (by simp) ?_
      refine AllReadyH.cons rfl (fun K hK => ?s43) ?m43
      case s43 =>
        go_simp
        refine (equal_any v (cl C (base + pre.length)) _).mono ?_
        rintro e w' ⟨rfl, rfl⟩
        go_simp
        refine hK.out _ _ ?_ (fun hHeld => ?_)
        · first | with_reducible assumption | exact ⟨(World.cell?_setCell_far _ _ _ _ n3).trans (by simpa using c6), (World.cell?_setCell_far _ _ _ _ n4).trans (by simpa using c7), by simp [f8]⟩ | go_keep
        clear hK K
        try simp only [Act.put, List.setIfInBounds_toArray, List.set_cons_zero, List.set_cons_succ]
        refine wpAnyH_ready (rs := [3]) (by kernel_rfl) (by simp) ?_
        refine AllReadyH.cons rfl (fun K hK => ?s44) ?m44
        case s44 =>
          go_simp
          refine hK.out _ _ ?_ (fun hHeld => ?_)
          · first | with_reducible assumption | exact ⟨(World.cell?_setCell_far _ _ _ _ n3).trans (by simpa using c6), (World.cell?_setCell_far _ _ _ _ n4).trans (by simpa using c7), by simp [f8]⟩ | go_keep
          clear hK K
          try simp only [Act.put, List.setIfInBounds_toArray, List.set_cons_zero, List.set_cons_succ]
          refine wpAnyH_ready (rs := [6]) (by kernel_rfl) (by simp) ?_
          refine AllReadyH.cons rfl (fun K hK => ?s45) ?m45
          case s45 =>
            go_simp
            refine (feq _).mono ?_
            rintro e w' ⟨rfl, rfl⟩
            go_simp
            refine hK.out _ _ ?_ (fun hHeld => ?_)
            · first | with_reducible assumption | exact ⟨(World.cell?_setCell_far _ _ _ _ n3).trans (by simpa using c6), (World.cell?_setCell_far _ _ _ _ n4).trans (by simpa using c7), by simp [f8]⟩ | go_keep
            clear hK K
            try simp only [Act.put, List.setIfInBounds_toArray, List.set_cons_zero, List.set_cons_succ]
            refine wpAnyH_take (i := 7) (v := ?v46) rfl (by kernel_rfl) (by kernel_rfl) (by kernel_rfl) (fun _ _ _ h => h) (Or.inl ⟨by rfl, ?h46⟩) (by assumption) ?r46
            case h46 => (intro w hSw; (try dsimp only at hSw); go_simp <;> with_reducible rfl)
            try simp only [Act.put, List.setIfInBounds_toArray, List.set_cons_zero, List.set_cons_succ]
            refine wpAnyH_ready (rs := [11]) (by kernel_rfl) (by simp) ?_
            refine AllReadyH.cons rfl (fun K hK => ?s47) ?m47
            case s47 =>
              go_simp
              refine (fsel _).mono ?_
              rintro e w' ⟨rfl, rfl⟩
              go_simp
              refine hK.out _ _ ?_ (fun hHeld => ?_)
              · first | with_reducible assumption | exact ⟨(World.cell?_setCell_far _ _ _ _ n3).trans (by simpa using c6), (World.cell?_setCell_far _ _ _ _ n4).trans (by simpa using c7), by simp [f8]⟩ | go_keep
              clear hK K
              try simp only [Act.put, List.setIfInBounds_toArray, List.set_cons_zero, List.set_cons_succ]
              refine wpAnyH_ready (rs := [12]) (by kernel_rfl) (by simp) ?_
              refine AllReadyH.cons rfl (fun K hK => ?s48) ?m48
              case s48 =>
                go_simp
                refine hK.out _ _ ?_ (fun hHeld => ?_)
                · first | with_reducible assumption | exact ⟨(World.cell?_setCell_far _ _ _ _ n3).trans (by simpa using c6), (World.cell?_setCell_far _ _ _ _ n4).trans (by simpa using c7), by simp [f8]⟩ | go_keep
                clear hK K
                try simp only [Act.put, List.setIfInBounds_toArray, List.set_cons_zero, List.set_cons_succ]
                refine wpAnyH_done (by kernel_rfl) ?_ _
                gi_wp2
                exact ⟨(KeepsOthers.setCell _ _ _).trans (KeepsOthers.drew _), by rw [List.length_append]; exact fB_put HK.out _⟩
              exact AllReadyH.nil
            exact AllReadyH.nil
          exact AllReadyH.nil
        exact AllReadyH.nil
      refine AllReadyH.cons rfl (fun K hK => ?s49) ?m49
      case s49 =>
        go_simp
        refine hK.out _ _ ?_ (fun hHeld => ?_)
        · first | with_reducible assumption | exact ⟨(World.cell?_setCell_far _ _ _ _ n3).trans (by simpa using c6), (World.cell?_setCell_far _ _ _ _ n4).trans (by simpa using c7), by simp [f8]⟩ | go_keep
        clear hK K
        try simp only [Act.put, List.setIfInBounds_toArray, List.set_cons_zero, List.set_cons_succ]
        refine wpAnyH_ready (rs := [2]) (by kernel_rfl) (by simp) ?_
        refine AllReadyH.cons rfl (fun K hK => ?s50) ?m50
        case s50 =>
          go_simp
          refine (equal_any v (cl C (base + pre.length)) _).mono ?_
          rintro e w' ⟨rfl, rfl⟩
          go_simp
          refine hK.out _ _ ?_ (fun hHeld => ?_)
          · first | with_reducible assumption | exact ⟨(World.cell?_setCell_far _ _ _ _ n3).trans (by simpa using c6), (World.cell?_setCell_far _ _ _ _ n4).trans (by simpa using c7), by simp [f8]⟩ | go_keep
          clear hK K
          try simp only [Act.put, List.setIfInBounds_toArray, List.set_cons_zero, List.set_cons_succ]
          refine wpAnyH_ready (rs := [6]) (by kernel_rfl) (by simp) ?_
          refine AllReadyH.cons rfl (fun K hK => ?s51) ?m51
          case s51 =>
            go_simp
            refine (feq _).mono ?_
            rintro e w' ⟨rfl, rfl⟩
            go_simp
            refine hK.out _ _ ?_ (fun hHeld => ?_)
            · first | with_reducible assumption | exact ⟨(World.cell?_setCell_far _ _ _ _ n3).trans (by simpa using c6), (World.cell?_setCell_far _ _ _ _ n4).trans (by simpa using c7), by simp [f8]⟩ | go_keep
            clear hK K
            try simp only [Act.put, List.setIfInBounds_toArray, List.set_cons_zero, List.set_cons_succ]
            refine wpAnyH_take (i := 7) (v := ?v52) rfl (by kernel_rfl) (by kernel_rfl) (by kernel_rfl) (fun _ _ _ h => h) (Or.inl ⟨by rfl, ?h52⟩) (by assumption) ?r52
            case h52 => (intro w hSw; (try dsimp only at hSw); go_simp <;> with_reducible rfl)
            try simp only [Act.put, List.setIfInBounds_toArray, List.set_cons_zero, List.set_cons_succ]
            refine wpAnyH_ready (rs := [11]) (by kernel_rfl) (by simp) ?_
            refine AllReadyH.cons rfl (fun K hK => ?s53) ?m53
            case s53 =>
              go_simp
              refine (fsel _).mono ?_
              rintro e w' ⟨rfl, rfl⟩
              go_simp
              refine hK.out _ _ ?_ (fun hHeld => ?_)
              · first | with_reducible assumption | exact ⟨(World.cell?_setCell_far _ _ _ _ n3).trans (by simpa using c6), (World.cell?_setCell_far _ _ _ _ n4).trans (by simpa using c7), by simp [f8]⟩ | go_keep
              clear hK K
              try simp only [Act.put, List.setIfInBounds_toArray, List.set_cons_zero, List.set_cons_succ]
              refine wpAnyH_ready (rs := [12]) (by kernel_rfl) (by simp) ?_
              refine AllReadyH.cons rfl (fun K hK => ?s54) ?m54
              case s54 =>
                go_simp
                refine hK.out _ _ ?_ (fun hHeld => ?_)
                · first | with_reducible assumption | exact ⟨(World.cell?_setCell_far _ _ _ _ n3).trans (by simpa using c6), (World.cell?_setCell_far _ _ _ _ n4).trans (by simpa using c7), by simp [f8]⟩ | go_keep
                clear hK K
                try simp only [Act.put, List.setIfInBounds_toArray, List.set_cons_zero, List.set_cons_succ]
                refine wpAnyH_done (by kernel_rfl) ?_ _
                gi_wp2
                exact ⟨(KeepsOthers.setCell _ _ _).trans (KeepsOthers.drew _), by rw [List.length_append]; exact fB_put HK.out _⟩
              exact AllReadyH.nil
            exact AllReadyH.nil
          exact AllReadyH.nil
        exact AllReadyH.nil
      exact AllReadyH.nil
    exact AllReadyH.nil
  case hdone =>
    rintro D xs W hD hxs hi hK
    rw [hxs] at hi
    have HI := Lib.hid hi
    have hb8 := hi.blk (b := s + 1 + 1) (t := 23) (cs := #[.int .u64 (n64 (BitVec.ofNat 64 (fst0 (fun i => cl C (base + i)) v n n)))]) (by unfold fB; simp)
    have c8 : W.cell? ⟨s + 1 + 1, 0, none⟩ = some (.int .u64 (n64 (BitVec.ofNat 64 (fst0 (fun i => cl C (base + i)) v n n)))) := hb8.cell 0
    have f8 := hb8.frozen 0
    have HD := Lib.hid hK
    clear hi hb8 hK hxs
    gi_wp2_with fail
    have hP := HI.out.put 0 (.int .u64 (n64 (BitVec.ofNat 64 (fst0 (fun i => cl C (base + i)) v n n))))
    have hK' := (KeepsOthers.setCell W ⟨s + 1 + 1, 0, none⟩ (.int .u64 (n64 (BitVec.ofNat 64 (fst0 (fun i => cl C (base + i)) v n n))))).same D _ HD.out rfl
    have hU := hP.unmark (o' := .deferred none) (by have := HS.out; omega) hK' rfl
    have hc := (hU.blk (List.mem_cons_self ..)).cell 0
    refine ⟨by simp, .inl ⟨_, _, rfl, run_takeDeferred hK', ?_⟩⟩
    refine ⟨.tuple #[.int .u64 (n64 (BitVec.ofNat 64 (fst0 (fun i => cl C (base + i)) v n n))), .int .i64 0], ?_, rfl, hU.done⟩
    simp [results, Try.f12, go_sem, hc]
/-- What Find returns, and leaves. -/
def fiR (C : List (BitVec 64)) (E : List Ev) (base n : Int) (v : BitVec 64) : (BitVec 64 × Int) × (List (BitVec 64) × List Ev) :=
  if lkE C.length E.length base n 1 = 0 then ((BitVec.ofNat 64 (fst0 (fun i => cl C (base.toNat + i)) v n.toNat n.toNat), 0), (C, ldE base.toNat E n.toNat)) else ((0#64, lkE C.length E.length base n 1), (C, E))
set_option maxHeartbeats 1000000 in
theorem find_err (h : Ar w F p C E) (base n : Int) (v : BitVec 64) (hz : lkE C.length E.length base n 1 ≠ 0) :
    Calls Try.prog 12 #[.pointer (some ⟨p, 0, none⟩), .int .i64 base, .int .i64 n, .int .u64 (n64 v)] w fun e w' => e = .returned (.tuple #[.int .u64 0, .int .i64 (lkE C.length E.length base n 1)]) ∧ ArTo w F p C E w' := by
  have HT : Hid (ArTo w F p C E (((w.alloc (.cells #[.int .i64 n] 3)).alloc (.cells #[.int .u64 (n64 v)] 23)).alloc (.cells #[.int .u64 0] 23))) := ArTo.box h (ArTo.box (h.box _) (ArTo.box ((h.box _).box _) (ArTo.refl (((h.box _).box _).box _))))
  have HC := Lib.hid (lcheck_any (((h.box (.cells #[.int .i64 n] 3)).box (.cells #[.int .u64 (n64 v)] 23)).box (.cells #[.int .u64 0] 23)) base n 1 (by decide))
  have hq : (lkE C.length E.length base n 1 != 0) = true := by rw [bne_iff_ne]; exact hz
  clear h hz
  go_enter Try.func12, Try.ntmps12
  go_wp2_with fail
  refine Calls.mono (R := fun e w' => e = .returned (.int .i64 (lkE C.length E.length base n 1)) ∧ _ = w') HC.out ?_
  rintro e w' ⟨rfl, rfl⟩
  go_wp2_with fail
  exact bodyPost_ret (v := .tuple #[.int .u64 0, .int .i64 (lkE C.length E.length base n 1)]) (by simp [results, Try.f12, go_sem]) rfl ⟨rfl, HT.out⟩
theorem find_any (h : Ar w F p C E) (base n : Int) (v : BitVec 64) :
    Calls Try.prog 12 #[.pointer (some ⟨p, 0, none⟩), .int .i64 base, .int .i64 n, .int .u64 (n64 v)] w (GePost w F p (fiR C E base n v)) := by
  by_cases hz : lkE C.length E.length base n 1 = 0
  · obtain ⟨g1, g2, g3, _⟩ := lkE_zero hz
    obtain ⟨base, rfl⟩ := Int.eq_ofNat_of_zero_le g3
    obtain ⟨n, rfl⟩ := Int.eq_ofNat_of_zero_le (show 0 ≤ n by omega)
    have hr : fiR C E base n v = ((BitVec.ofNat 64 (fst0 (fun i => cl C (base + i)) v n n), 0), (C, ldE base E n)) := by unfold fiR; rw [if_pos hz]; rfl
    rw [hr]
    exact find_ok h base n v hz
  · have hr : fiR C E base n v = ((0#64, lkE C.length E.length base n 1), (C, E)) := by unfold fiR; rw [if_neg hz]
    rw [hr]
    exact find_err h base n v hz
end
end Go.Proofs.Ytgdklokoeeokbaa
