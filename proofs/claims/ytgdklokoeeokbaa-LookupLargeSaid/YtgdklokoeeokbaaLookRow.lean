/-
  lookup.GetRow over an arena.
-/
import Derived.Test.YtgdklokoeeokbaaLookGet
namespace Go.Proofs.Ytgdklokoeeokbaa
open Go.RowKit Go.Shelf
attribute [local go_sem] Oper.semAt_some
attribute [local go_sem] bits_and_u64 bits_or_u64 bits_xor_u64 bits_andNot_u64 wrap_u64 bv_add bv_neg bv_sub bv_mul
set_option linter.unusedVariables false
set_option linter.unusedSimpArgs false
set_option maxRecDepth 100000
/-- What GetRow has gathered at place j behind k rounds. -/
def rwF (V : Nat → BitVec 64) (idx : BitVec 64) (n : Nat) : Nat → Nat → BitVec 64
  | 0, _ => 0#64
  | k + 1, j => if k % n = j then rwF V idx n k j ||| (V k &&& eqM (BitVec.ofNat 64 (k / n)) idx) else rwF V idx n k j
def rwC (V : Nat → BitVec 64) (idx : BitVec 64) (n k : Nat) : Array Value := ((List.range n).map fun j => Value.int .u64 (n64 (rwF V idx n k j))).toArray
theorem rwC_zero (V : Nat → BitVec 64) (idx : BitVec 64) (n : Nat) : rwC V idx n 0 = Array.replicate n (Value.int .u64 0) := by
  unfold rwC
  rw [← List.toArray_replicate]
  congr 1
  apply List.ext_getElem
  · simp
  · intro i h1 h2; simp [rwF, n64]
theorem rwC_at (V : Nat → BitVec 64) (idx : BitVec 64) (n k j : Nat) (hj : j < n) : (rwC V idx n k)[j]? = some (.int .u64 (n64 (rwF V idx n k j))) := by unfold rwC; simp [hj]
theorem rwC_put (V : Nat → BitVec 64) (idx : BitVec 64) (n k : Nat) : (rwC V idx n k).setIfInBounds (k % n) (.int .u64 (n64 (rwF V idx n k (k % n) ||| (V k &&& eqM (BitVec.ofNat 64 (k / n)) idx)))) = rwC V idx n (k + 1) := by
  unfold rwC
  rw [List.setIfInBounds_toArray]
  congr 1
  apply List.ext_getElem
  · simp
  · intro i h1 h2
    rw [List.getElem_set]
    simp only [List.getElem_map, List.getElem_range]
    show _ = Value.int .u64 (n64 (if k % n = i then rwF V idx n k i ||| (V k &&& eqM (BitVec.ofNat 64 (k / n)) idx) else rwF V idx n k i))
    split
    · rename_i h; rw [h]
    · rfl
section
variable {w : World} {F : Nat → Prop} {p : Nat} {C : List (BitVec 64)} {E : List Ev}
/-- The boxes of GetRow. -/
def rB (s p base n N : Nat) (idx : BitVec 64) (row : Array Value) : Bks := [(s + 1 + 1, 23, row), (s, 3, #[.int .i64 (n : Int)]), (s + 1, 23, #[.int .u64 (n64 idx)]), (s + 1 + 1 + 1, 22, #[.slice (some ⟨s + 1 + 1, 0, none⟩) n n]), (s + 1 + 1 + 1 + 1, 27, #[.pointer (some ⟨p, 0, none⟩)]), (s + 1 + 1 + 1 + 1 + 1, 3, #[.int .i64 (base : Int)]), (s + 1 + 1 + 1 + 1 + 1 + 1, 3, #[.int .i64 (N : Int)])]
theorem rB_put {w W : World} {F : Nat → Prop} {s base n N : Nat} {V : Nat → BitVec 64} {idx : BitVec 64} {k m q : Nat} (hm : k % n = m) (hq : k / n = q) (h : Wk w F W (rB s p base n N idx (rwC V idx n k)) p C E) : Wk w F (W.setCell ⟨s + 1 + 1, m, none⟩ (.int .u64 (n64 (rwF V idx n k m ||| (V k &&& eqM (BitVec.ofNat 64 q) idx))))).drew (rB s p base n N idx (rwC V idx n (k + 1))) p C E := by
  subst hm hq
  have := (h.put (k % n) (.int .u64 (n64 (rwF V idx n k (k % n) ||| (V k &&& eqM (BitVec.ofNat 64 (k / n)) idx))))).off (Off.drew (Off.refl _ _))
  rw [rwC_put] at this
  exact this
set_option maxHeartbeats 8000000 in
theorem getRow_ok (h : Ar w F p C E) (base n many : Nat) (hn1 : 1 ≤ n) (hn2 : n ≤ 64) (hm1 : 1 ≤ many) (hm2 : many ≤ 4096) (idx : BitVec 64) (hz : lkE C.length E.length base ((many : Int) * (n : Int)) ((1 : Nat) : Int) = 0) :
    Calls Try.prog 10 #[.pointer (some ⟨p, 0, none⟩), .int .i64 (base : Int), .int .i64 (many : Int), .int .i64 (n : Int), .int .u64 (n64 idx)] w fun e w' => ∃ g, e = .returned (.tuple #[.slice (some ⟨g, 0, none⟩) n n, .int .i64 0]) ∧ Wk w F w' [(g, 23, rwC (fun i => cl C (base + i)) idx n (many * n))] p C (ldE base E (many * n)) := by
  obtain ⟨g1, g2, g3, g4, g5⟩ := lkE_zero hz
  have hc2 := h.n2
  have HZ := Lib.hid hz
  have HW2 := ((Wk.start h).push 3 #[.int .i64 (n : Int)]).push 23 #[.int .u64 (n64 idx)]
  obtain ⟨Fx, hFx⟩ := HW2.ar
  have HC := Lib.hid (lcheck_any hFx base ((many : Int) * (n : Int)) 1 (by decide))
  have HW := Lib.hid HW2
  have G5 := Lib.hid g5
  have d1 : decide ((n : Int) < 1) = false := by simp; omega
  have d2 : decide ((64 : Int) < (n : Int)) = false := by simp; omega
  have d3 : decide ((many : Int) < 1) = false := by simp; omega
  have d4 : decide ((4096 : Int) < (many : Int)) = false := by simp; omega
  obtain ⟨i0, hi, hz0, hz1, hz2⟩ := info_parts Try.infoU
  have hmk : ∀ u : World, (Instr.makeSlice 22 (.int .i64 (n : Int)) (.int .i64 (n : Int))).run Try.prog u = .ok (.slice (some ⟨u.heap.size, 0, none⟩) n n) (u.alloc (.cells (Array.replicate n (Value.int .u64 0)) 23)) := fun u => by
    have := run_makeSlice (P := Try.prog) u 22 23 i0 (.int .u64 0) Try.underlying22 hi hz0 .i64 .i64 (n : Int) (n : Int) (by omega) (Int.le_refl _) (by rw [hz1]; omega) (by rw [hz2]; omega) (by omega)
    rw [this, hz1, Int.toNat_natCast, Nat.mul_one]
    congr 3
    apply Array.ext
    · simp [madeCells]
    · intro i h1 h2; simp [madeCells, Value.cells, Nat.mod_one]
  clear h hz hFx HW2 g5 hi hz0 hz1 hz2
  obtain ⟨N, hN⟩ : ∃ N, many * n = N := ⟨_, rfl⟩
  have hNi : (many : Int) * (n : Int) = (N : Int) := by rw [← hN]; exact (Int.natCast_mul many n).symm
  rw [hN]
  have HNI := Lib.hid hNi
  clear hNi hN
  refine (callsIn_wide (n := 4)).1 ?_
  refine callsIn_of_wp_marks Try.func10 rfl trivial ?_ rfl
  simp only [Try.ntmps10, List.size_toArray, List.length_cons, List.length_nil, Nat.reduceAdd, Nat.reduceSub, Array.replicate_succ, Array.replicate_zero, List.push_toArray, List.append_toArray, List.nil_append, List.cons_append]
  gi_wp2_with fail
  refine ⟨trivial, ?_⟩
  refine monoIn (R := fun e w' => e = .returned (.int .i64 0) ∧ _ = w') (by have := HC.out; rwa [HZ.out] at this) ?_
  rintro e w' ⟨rfl, rfl⟩
  gi_wp2_with fail
  refine ⟨trivial, ?_⟩
  refine monoIn (all_any p (base : Int) ((many : Int) * (n : Int)) _) ?_
  rintro e w' ⟨rfl, rfl⟩
  have HW5 := ((((HW.out.push 23 (Array.replicate n (Value.int .u64 0))).push 22 #[.slice (some ⟨w.heap.size + 1 + 1, 0, none⟩) n n]).push 27 #[.pointer (some ⟨p, 0, none⟩)]).push 3 #[.int .i64 (base : Int)]).push 3 #[.int .i64 ((many : Int) * (n : Int))]
  clear HC HZ HW
  simp only [World.size_alloc] at HW5
  gi_wp2_with fail
  have hs0 : (((((((w.alloc (.cells #[.int .i64 (n : Int)] 3)).alloc (.cells #[.int .u64 (n64 idx)] 23)).alloc (.cells (Array.replicate n (Value.int .u64 0)) 23)).alloc (.cells #[.slice (some ⟨w.heap.size + 1 + 1, 0, none⟩) n n] 22)).alloc (.cells #[.pointer (some ⟨p, 0, none⟩)] 27)).alloc (.cells #[.int .i64 (base : Int)] 3)).alloc (.cells #[.int .i64 ((many : Int) * (n : Int))] 3)).heap.size = w.heap.size + 7 := by simp
  generalize ((((((w.alloc (.cells #[.int .i64 (n : Int)] 3)).alloc (.cells #[.int .u64 (n64 idx)] 23)).alloc (.cells (Array.replicate n (Value.int .u64 0)) 23)).alloc (.cells #[.slice (some ⟨w.heap.size + 1 + 1, 0, none⟩) n n] 22)).alloc (.cells #[.pointer (some ⟨p, 0, none⟩)] 27)).alloc (.cells #[.int .i64 (base : Int)] 3)).alloc (.cells #[.int .i64 ((many : Int) * (n : Int))] 3) = W0 at *
  have HS := Lib.hid hs0
  have hNi := HNI.out
  rw [hNi] at HW5 g1 g2 g4 ⊢
  have HW0 : Hid (Wk w F W0 (rB w.heap.size p base n N idx (rwC (fun i => cl C (base + i)) idx n 0)) p C (ldE base E 0)) := Lib.hid (HW5.sub (fun x hx => by unfold rB at hx; rw [rwC_zero] at hx; simp at hx ⊢; rcases hx with rfl | rfl | rfl | rfl | rfl | rfl | rfl <;> simp) (by unfold rB; simp; omega))
  clear HW5 hs0
  obtain ⟨s, hs⟩ : ∃ s, w.heap.size = s := ⟨_, rfl⟩
  have HSS := Lib.hid hs
  rw [hs] at HW0 ⊢
  clear hs
  apply range_eff (α := Nat × BitVec 64) (n := 4) (by decide) (gf := 53) (lb := #[.pointer (some ⟨s + 1 + 1 + 1 + 1 + 1 + 1, 0, none⟩), .pointer (some ⟨s + 1 + 1 + 1 + 1, 0, none⟩), .pointer (some ⟨s + 1 + 1 + 1 + 1 + 1, 0, none⟩)]) rfl (enters_of Try.func53 (by kernel_rfl) rfl) (fun _ => rfl)
    (fun pre W => Wk w F W (rB s p base n N idx (rwC (fun i => cl C (base + i)) idx n pre.length)) p C (ldE base E pre.length))
    (fun pre x W => x.1 = pre.length ∧ x.1 < N ∧ x.2 = cl C (base + x.1) ∧ Wk w F W (rB s p base n N idx (rwC (fun i => cl C (base + i)) idx n x.1)) p C (ldE base E (x.1 + 1)))
    (wk_own (by rw [HS.out]; omega) _ _ _ _) (fun x s1 W W' row hh hg hr => ⟨hh.1, hh.2.1, hh.2.2.1, hh.2.2.2.turn hg (fun r e => ⟨Nat.le_trans (by rw [HS.out]; omega) (hr r e).1, (hr r e).2⟩)⟩) HW0.out
    (all_drives (4 - 1) (by decide) p base N (s + 1 + 1 + 1 + 1 + 1 + 1) (s + 1 + 1 + 1 + 1) (s + 1 + 1 + 1 + 1 + 1) W0.heap.size (by omega) (fun i => cl C (base + i))
      (fun k W => Wk w F W (rB s p base n N idx (rwC (fun i => cl C (base + i)) idx n k)) p C (ldE base E k)) (fun k W => Wk w F W (rB s p base n N idx (rwC (fun i => cl C (base + i)) idx n k)) p C (ldE base E (k + 1)))
      (fun k W hk => ⟨(hk.blk (b := s + 1 + 1 + 1 + 1 + 1 + 1) (t := 3) (cs := #[.int .i64 (N : Int)]) (by unfold rB; simp)).cell 0, (hk.blk (t := 27) (cs := #[.pointer (some ⟨p, 0, none⟩)]) (by unfold rB; simp)).cell 0, (hk.blk (b := s + 1 + 1 + 1 + 1 + 1) (t := 3) (cs := #[.int .i64 (base : Int)]) (by unfold rB; simp)).cell 0⟩)
      (fun k W hlt hk => (hk.callO (e0 := .returned (.tuple #[.int .u64 (n64 (cl C (base + k))), .int .i64 0])) (C2 := C) (E2 := ldE base E (k + 1)) (fun w1 F1 ha => by
        have := load_ok ha ((base : Int) + (k : Int)) (by omega) (by omega) (by rw [length_ldE]; have := G5.out; rw [hNi] at this; omega)
        rw [show ((base : Int) + (k : Int)).toNat = base + k by omega] at this
        exact this))))
  case hassign =>
    intro l x W K hK
    gi_wp2
    exact hK
  case hbody =>
    rintro l pre ⟨i, u⟩ W ⟨hi, hlt, hv, hk⟩
    dsimp only at hi hlt hv hk
    subst hi hv
    have hmx : Try.prog.follows .mixedOrders = true := by kernel_rfl
    have HK := Lib.hid hk
    obtain ⟨m, hm⟩ : ∃ m, pre.length % n = m := ⟨_, rfl⟩
    obtain ⟨q, hq⟩ : ∃ q, pre.length / n = q := ⟨_, rfl⟩
    have HM := Lib.hid hm
    have HQ := Lib.hid hq
    have hmod : m < n := by rw [← hm]; exact Nat.mod_lt _ (by omega)
    have hql : q ≤ pre.length := by rw [← hq]; exact Nat.div_le_self _ _
    have hb8 := hk.blk (b := s + 1 + 1) (t := 23) (cs := rwC (fun i => cl C (base + i)) idx n pre.length) (by unfold rB; simp)
    have c8 : W.cell? ⟨s + 1 + 1, m, none⟩ = some (.int .u64 (n64 (rwF (fun i => cl C (base + i)) idx n pre.length m))) := by rw [hb8.cell]; exact rwC_at _ _ _ _ _ hmod
    have f8 : W.frozen? ⟨s + 1 + 1, m, none⟩ = false := hb8.frozen _
    have c6 : W.cell? ⟨s, 0, none⟩ = some (.int .i64 (n : Int)) := (hk.blk (b := s) (t := 3) (cs := #[.int .i64 (n : Int)]) (by unfold rB; simp)).cell 0
    have c7 : W.cell? ⟨s + 1, 0, none⟩ = some (.int .u64 (n64 idx)) := (hk.blk (b := s + 1) (t := 23) (cs := #[.int .u64 (n64 idx)]) (by unfold rB; simp)).cell 0
    have c9 : W.cell? ⟨s + 1 + 1 + 1, 0, none⟩ = some (.slice (some ⟨s + 1 + 1, 0, none⟩) n n) := (hk.blk (b := s + 1 + 1 + 1) (t := 22) (cs := #[.slice (some ⟨s + 1 + 1, 0, none⟩) n n]) (by unfold rB; simp)).cell 0
    have flat := fun W2 => lat_any q (by omega) idx W2
    have n1 : s ≠ s + 1 + 1 := by omega
    have n3 : s + 1 + 1 ≠ s := by omega
    have n4 : s + 1 + 1 ≠ s + 1 := by omega
    have n5 : s + 1 + 1 ≠ s + 1 + 1 + 1 := by omega
    have hnz : ¬ n = 0 := by omega
    have hrm : Hid ((pre.length : Int).tmod (n : Int) = (m : Int)) := Lib.hid (by rw [← hm]; exact (Int.ofNat_tmod _ _).symm)
    have hrm2 : Hid ((pre.length : Int) % (n : Int) = (m : Int)) := Lib.hid (by rw [← hm]; rfl)
    have hdv : Hid ((pre.length : Int).tdiv (n : Int) = (q : Int)) := Lib.hid (by rw [← hq]; exact (Int.ofNat_tdiv _ _).symm)
    have hdv2 : Hid ((pre.length : Int) / (n : Int) = (q : Int)) := Lib.hid (by rw [← hq]; rfl)
    have hwq : Hid (IntKind.i64.wrap (q : Int) = (q : Int)) := Lib.hid (by rw [IntKind.wrap_i64]; omega)
    clear hm hq
    clear hk hb8
    dsimp only
    gi_wp2_with fail
    refine round_held (S := fun W => W.cell? ⟨s, 0, none⟩ = some (.int .i64 (n : Int)) ∧ W.cell? ⟨s + 1, 0, none⟩ = some (.int .u64 (n64 idx)) ∧ W.cell? ⟨s + 1 + 1 + 1, 0, none⟩ = some (.slice (some ⟨s + 1 + 1, 0, none⟩) n n) ∧ W.frozen? ⟨s + 1 + 1, m, none⟩ = false) hmx (by kernel_rfl) (fun ⟨_, _, h⟩ => h) ⟨c6, c7, c9, f8⟩ (fun hHeld => ?_)
    refine wpAnyH_take (i := 0) (v := ?v0) rfl (by kernel_rfl) (by kernel_rfl) (by kernel_rfl) (fun _ _ _ h => h) (Or.inl ⟨by rfl, ?h0⟩) (by assumption) ?r0
    case h0 => (intro w hSw; (try dsimp only at hSw); go_simp <;> with_reducible rfl)
    try simp only [Act.put, List.setIfInBounds_toArray, List.set_cons_zero, List.set_cons_succ]
    refine wpAnyH_take (i := 1) (v := ?v1) rfl (by kernel_rfl) (by kernel_rfl) (by kernel_rfl) (fun _ _ _ h => h) (Or.inl ⟨by rfl, ?h1⟩) (by assumption) ?r1
    case h1 => (intro w hSw; (try dsimp only at hSw); go_simp <;> with_reducible rfl)
    try simp only [Act.put, List.setIfInBounds_toArray, List.set_cons_zero, List.set_cons_succ]
    refine wpAnyH_take (i := 2) (v := ?v2) rfl (by kernel_rfl) (by kernel_rfl) (by kernel_rfl) (fun _ _ _ h => h) (Or.inl ⟨by rfl, ?h2⟩) (by assumption) ?r2
    case h2 => (intro w hSw; (try dsimp only at hSw); go_simp <;> with_reducible rfl)
    try simp only [Act.put, List.setIfInBounds_toArray, List.set_cons_zero, List.set_cons_succ]
    refine wpAnyH_take (i := 3) (v := ?v3) rfl (by kernel_rfl) (by kernel_rfl) (by kernel_rfl) (fun _ _ _ h => h) (Or.inl ⟨by rfl, ?h3⟩) (by assumption) ?r3
    case h3 => (intro w hSw; (try dsimp only at hSw); (go_simp; first | rw [hrm.out] | rw [hrm2.out] | skip) <;> with_reducible rfl)
    try simp only [Act.put, List.setIfInBounds_toArray, List.set_cons_zero, List.set_cons_succ]
    refine wpAnyH_take (i := 4) (v := ?v4) rfl (by kernel_rfl) (by kernel_rfl) (by kernel_rfl) (fun _ _ _ h => h) (Or.inl ⟨by rfl, ?h4⟩) (by assumption) ?r4
    case h4 => (intro w hSw; (try dsimp only at hSw); go_simp <;> with_reducible rfl)
    try simp only [Act.put, List.setIfInBounds_toArray, List.set_cons_zero, List.set_cons_succ]
    refine wpAnyH_take (i := 6) (v := ?v5) rfl (by kernel_rfl) (by kernel_rfl) (by kernel_rfl) (fun _ _ _ h => h) (Or.inl ⟨by rfl, ?h5⟩) (by assumption) ?r5
    case h5 => (intro w hSw; (try dsimp only at hSw); go_simp <;> with_reducible rfl)
    try simp only [Act.put, List.setIfInBounds_toArray, List.set_cons_zero, List.set_cons_succ]
    refine wpAnyH_take (i := 7) (v := ?v6) rfl (by kernel_rfl) (by kernel_rfl) (by kernel_rfl) (fun _ _ _ h => h) (Or.inl ⟨by rfl, ?h6⟩) (by assumption) ?r6
    case h6 => (intro w hSw; (try dsimp only at hSw); go_simp <;> with_reducible rfl)
    try simp only [Act.put, List.setIfInBounds_toArray, List.set_cons_zero, List.set_cons_succ]
    refine wpAnyH_take (i := 8) (v := ?v7) rfl (by kernel_rfl) (by kernel_rfl) (by kernel_rfl) (fun _ _ _ h => h) (Or.inl ⟨by rfl, ?h7⟩) (by assumption) ?r7
    case h7 => (intro w hSw; (try dsimp only at hSw); go_simp <;> with_reducible rfl)
    try simp only [Act.put, List.setIfInBounds_toArray, List.set_cons_zero, List.set_cons_succ]
    refine wpAnyH_take (i := 9) (v := ?v8) rfl (by kernel_rfl) (by kernel_rfl) (by kernel_rfl) (fun _ _ _ h => h) (Or.inl ⟨by rfl, ?h8⟩) (by assumption) ?r8
    case h8 => (intro w hSw; (try dsimp only at hSw); (go_simp; (first | rewrite [hdv.out] | rewrite [hdv2.out] | skip); (try rewrite [hwq.out])) <;> with_reducible rfl)
    try simp only [Act.put, List.setIfInBounds_toArray, List.set_cons_zero, List.set_cons_succ]
    refine wpAnyH_take (i := 10) (v := ?v9) rfl (by kernel_rfl) (by kernel_rfl) (by kernel_rfl) (fun _ _ _ h => h) (Or.inl ⟨by rfl, ?h9⟩) (by assumption) ?r9
    case h9 => (intro w hSw; (try dsimp only at hSw); go_simp <;> with_reducible rfl)
    try simp only [Act.put, List.setIfInBounds_toArray, List.set_cons_zero, List.set_cons_succ]
    refine wpAnyH_ready (rs := [5, 11]) (by kernel_rfl) (by simp) ?_
    refine AllReadyH.cons rfl (fun K hK => ?s10) ?m10
    case s10 =>
      go_simp
      refine hK.out _ _ ?_ (fun hHeld => ?_)
      · first | with_reducible assumption | go_keep
      clear hK K
      try simp only [Act.put, List.setIfInBounds_toArray, List.set_cons_zero, List.set_cons_succ]
      refine wpAnyH_ready (rs := [11]) (by kernel_rfl) (by simp) ?_
      refine AllReadyH.cons rfl (fun K hK => ?s11) ?m11
      case s11 =>
        go_simp
        refine (flat _).mono ?_
        rintro e w' ⟨rfl, rfl⟩
        go_simp
        refine hK.out _ _ ?_ (fun hHeld => ?_)
        · first | with_reducible assumption | go_keep
        clear hK K
        try simp only [Act.put, List.setIfInBounds_toArray, List.set_cons_zero, List.set_cons_succ]
        refine wpAnyH_take (i := 12) (v := ?v12) rfl (by kernel_rfl) (by kernel_rfl) (by kernel_rfl) (fun _ _ _ h => h) (Or.inl ⟨by rfl, ?h12⟩) (by assumption) ?r12
        case h12 => (intro w hSw; (try dsimp only at hSw); go_simp <;> with_reducible rfl)
        try simp only [Act.put, List.setIfInBounds_toArray, List.set_cons_zero, List.set_cons_succ]
        refine wpAnyH_take (i := 13) (v := ?v13) rfl (by kernel_rfl) (by kernel_rfl) (by kernel_rfl) (fun _ _ _ h => h) (Or.inl ⟨by rfl, ?h13⟩) (by assumption) ?r13
        case h13 => (intro w hSw; (try dsimp only at hSw); go_simp <;> with_reducible rfl)
        try simp only [Act.put, List.setIfInBounds_toArray, List.set_cons_zero, List.set_cons_succ]
        refine wpAnyH_take (i := 14) (v := ?v14) rfl (by kernel_rfl) (by kernel_rfl) (by kernel_rfl) (fun _ _ _ h => h) (Or.inl ⟨by rfl, ?h14⟩) (by assumption) ?r14
        case h14 => (intro w hSw; (try dsimp only at hSw); go_simp <;> with_reducible rfl)
        try simp only [Act.put, List.setIfInBounds_toArray, List.set_cons_zero, List.set_cons_succ]
        refine wpAnyH_ready (rs := [15]) (by kernel_rfl) (by simp) ?_
        refine AllReadyH.cons rfl (fun K hK => ?s15) ?m15
        case s15 =>
          go_simp
          refine hK.out _ _ ?_ (fun hHeld => ?_)
          · first | with_reducible assumption | go_keep
          clear hK K
          try simp only [Act.put, List.setIfInBounds_toArray, List.set_cons_zero, List.set_cons_succ]
          refine wpAnyH_done (by kernel_rfl) ?_ _
          gi_wp2
          exact ⟨(KeepsOthers.setCell _ _ _).trans (KeepsOthers.drew _), by rw [List.length_append]; exact rB_put HM.out HQ.out HK.out⟩
        exact AllReadyH.nil
      exact AllReadyH.nil
    refine AllReadyH.cons rfl (fun K hK => ?s16) ?m16
    case s16 =>
      go_simp
      refine (flat _).mono ?_
      rintro e w' ⟨rfl, rfl⟩
      go_simp
      refine hK.out _ _ ?_ (fun hHeld => ?_)
      · first | with_reducible assumption | go_keep
      clear hK K
      try simp only [Act.put, List.setIfInBounds_toArray, List.set_cons_zero, List.set_cons_succ]
      refine wpAnyH_take (i := 12) (v := ?v17) rfl (by kernel_rfl) (by kernel_rfl) (by kernel_rfl) (fun _ _ _ h => h) (Or.inl ⟨by rfl, ?h17⟩) (by assumption) ?r17
      case h17 => (intro w hSw; (try dsimp only at hSw); go_simp <;> with_reducible rfl)
      try simp only [Act.put, List.setIfInBounds_toArray, List.set_cons_zero, List.set_cons_succ]
      refine wpAnyH_ready (rs := [5]) (by kernel_rfl) (by simp) ?_
      refine AllReadyH.cons rfl (fun K hK => ?s18) ?m18
      case s18 =>
        go_simp
        refine hK.out _ _ ?_ (fun hHeld => ?_)
        · first | with_reducible assumption | go_keep
        clear hK K
        try simp only [Act.put, List.setIfInBounds_toArray, List.set_cons_zero, List.set_cons_succ]
        refine wpAnyH_take (i := 13) (v := ?v19) rfl (by kernel_rfl) (by kernel_rfl) (by kernel_rfl) (fun _ _ _ h => h) (Or.inl ⟨by rfl, ?h19⟩) (by assumption) ?r19
        case h19 => (intro w hSw; (try dsimp only at hSw); go_simp <;> with_reducible rfl)
        try simp only [Act.put, List.setIfInBounds_toArray, List.set_cons_zero, List.set_cons_succ]
        refine wpAnyH_take (i := 14) (v := ?v20) rfl (by kernel_rfl) (by kernel_rfl) (by kernel_rfl) (fun _ _ _ h => h) (Or.inl ⟨by rfl, ?h20⟩) (by assumption) ?r20
        case h20 => (intro w hSw; (try dsimp only at hSw); go_simp <;> with_reducible rfl)
        try simp only [Act.put, List.setIfInBounds_toArray, List.set_cons_zero, List.set_cons_succ]
        refine wpAnyH_ready (rs := [15]) (by kernel_rfl) (by simp) ?_
        refine AllReadyH.cons rfl (fun K hK => ?s21) ?m21
        case s21 =>
          go_simp
          refine hK.out _ _ ?_ (fun hHeld => ?_)
          · first | with_reducible assumption | go_keep
          clear hK K
          try simp only [Act.put, List.setIfInBounds_toArray, List.set_cons_zero, List.set_cons_succ]
          refine wpAnyH_done (by kernel_rfl) ?_ _
          gi_wp2
          exact ⟨(KeepsOthers.setCell _ _ _).trans (KeepsOthers.drew _), by rw [List.length_append]; exact rB_put HM.out HQ.out HK.out⟩
        exact AllReadyH.nil
      exact AllReadyH.nil
    exact AllReadyH.nil
  case hdone =>
    rintro D xs W hD hxs hi hK
    rw [hxs] at hi
    have HI := Lib.hid hi
    have c9 : W.cell? ⟨s + 1 + 1 + 1, 0, none⟩ = some (.slice (some ⟨s + 1 + 1, 0, none⟩) n n) := (hi.blk (b := s + 1 + 1 + 1) (t := 22) (cs := #[.slice (some ⟨s + 1 + 1, 0, none⟩) n n]) (by unfold rB; simp)).cell 0
    have HD := Lib.hid hK
    clear hi hK hxs
    gi_wp2_with fail
    have hK' := HD.out
    have hU := HI.out.unmark (o' := .deferred none) (by have := HS.out; omega) hK' rfl
    refine ⟨by simp, .inl ⟨_, _, rfl, run_takeDeferred hK', ?_⟩⟩
    refine ⟨.tuple #[.slice (some ⟨s + 1 + 1, 0, none⟩) n n, .int .i64 0], ?_, s + 1 + 1, rfl, hU.sub (fun x hx => by unfold rB; simp at hx ⊢; simp [hx]) (by simp)⟩
    simp [results, Try.f10, go_sem]
theorem getRow_err (h : Ar w F p C E) (base many n : Int) (idx : BitVec 64) (hn1 : 1 ≤ n) (hn2 : n ≤ 64) (hm1 : 1 ≤ many) (hm2 : many ≤ 4096) (hz : lkE C.length E.length base (many * n) ((1 : Nat) : Int) ≠ 0) :
    Calls Try.prog 10 #[.pointer (some ⟨p, 0, none⟩), .int .i64 base, .int .i64 many, .int .i64 n, .int .u64 (n64 idx)] w fun e w' => e = .returned (.tuple #[.slice none 0 0, .int .i64 (lkE C.length E.length base (many * n) ((1 : Nat) : Int))]) ∧ ArTo w F p C E w' := by
  have HT : Hid (ArTo w F p C E ((w.alloc (.cells #[.int .i64 n] 3)).alloc (.cells #[.int .u64 (n64 idx)] 23))) := ArTo.box h (ArTo.box (h.box _) (ArTo.refl ((h.box _).box _)))
  have HC := Lib.hid (lcheck_any ((h.box (.cells #[.int .i64 n] 3)).box (.cells #[.int .u64 (n64 idx)] 23)) base (many * n) 1 (by decide))
  have hq : (lkE C.length E.length base (many * n) ((1 : Nat) : Int) != 0) = true := by rw [bne_iff_ne]; exact hz
  obtain ⟨e, he⟩ : ∃ e, lkE C.length E.length base (many * n) ((1 : Nat) : Int) = e := ⟨_, rfl⟩
  rw [he] at HC hq ⊢
  have d1 : decide (n < 1) = false := by simp; omega
  have d2 : decide (64 < n) = false := by simp; omega
  have d3 : decide (many < 1) = false := by simp; omega
  have d4 : decide (4096 < many) = false := by simp; omega
  have b1 : 0 ≤ many * n := Int.mul_nonneg (by omega) (by omega)
  have b2 : many * n ≤ 4096 * 64 := Int.mul_le_mul hm2 hn2 (by omega) (by omega)
  clear h hz he
  go_enter Try.func10, Try.ntmps10
  go_wp2_with fail
  refine Calls.mono (R := fun e' w' => e' = .returned (.int .i64 e) ∧ _ = w') HC.out ?_
  rintro e' w' ⟨rfl, rfl⟩
  go_wp2_with fail
  exact bodyPost_ret (v := .tuple #[.slice none 0 0, .int .i64 e]) (by simp [results, Try.f10, go_sem]) rfl ⟨rfl, HT.out⟩
theorem getRow_bad (h : Ar w F p C E) (base many n : Int) (idx : BitVec 64) (hb : ¬ (1 ≤ n ∧ n ≤ 64 ∧ 1 ≤ many ∧ many ≤ 4096)) :
    Calls Try.prog 10 #[.pointer (some ⟨p, 0, none⟩), .int .i64 base, .int .i64 many, .int .i64 n, .int .u64 (n64 idx)] w fun e w' => e = .returned (.tuple #[.slice none 0 0, .int .i64 7]) ∧ ArTo w F p C E w' := by
  have HT : Hid (ArTo w F p C E ((w.alloc (.cells #[.int .i64 n] 3)).alloc (.cells #[.int .u64 (n64 idx)] 23))) := ArTo.box h (ArTo.box (h.box _) (ArTo.refl ((h.box _).box _)))
  clear h
  by_cases c1 : n < 1
  · clear hb
    go_enter Try.func10, Try.ntmps10
    have d1 : decide (n < 1) = true := by simp; omega
    go_wp2_with fail
    exact bodyPost_ret (v := .tuple #[.slice none 0 0, .int .i64 7]) (by simp [results, Try.f10, go_sem]) rfl ⟨rfl, HT.out⟩
  by_cases c2 : 64 < n
  · clear hb
    go_enter Try.func10, Try.ntmps10
    have d1 : decide (n < 1) = false := by simp; omega
    have d2 : decide (64 < n) = true := by simp; omega
    go_wp2_with fail
    exact bodyPost_ret (v := .tuple #[.slice none 0 0, .int .i64 7]) (by simp [results, Try.f10, go_sem]) rfl ⟨rfl, HT.out⟩
  by_cases c3 : many < 1
  · clear hb
    go_enter Try.func10, Try.ntmps10
    have d1 : decide (n < 1) = false := by simp; omega
    have d2 : decide (64 < n) = false := by simp; omega
    have d3 : decide (many < 1) = true := by simp; omega
    go_wp2_with fail
    exact bodyPost_ret (v := .tuple #[.slice none 0 0, .int .i64 7]) (by simp [results, Try.f10, go_sem]) rfl ⟨rfl, HT.out⟩
  · have c4 : 4096 < many := by omega
    clear hb
    go_enter Try.func10, Try.ntmps10
    have d1 : decide (n < 1) = false := by simp; omega
    have d2 : decide (64 < n) = false := by simp; omega
    have d3 : decide (many < 1) = false := by simp; omega
    have d4 : decide (4096 < many) = true := by simp; omega
    go_wp2_with fail
    exact bodyPost_ret (v := .tuple #[.slice none 0 0, .int .i64 7]) (by simp [results, Try.f10, go_sem]) rfl ⟨rfl, HT.out⟩
/-- GetRow's error. -/
def grE (nC nE : Nat) (base many n : Int) : Int := if 1 ≤ n ∧ n ≤ 64 ∧ 1 ≤ many ∧ many ≤ 4096 then lkE nC nE base (many * n) 1 else 7
/-- What GetRow does: an error, or a row of its own. -/
def GrPost (w : World) (F : Nat → Prop) (p : Nat) (C : List (BitVec 64)) (E : List Ev) (base many n : Int) (idx : BitVec 64) (e : Ending) (w' : World) : Prop :=
  (grE C.length E.length base many n ≠ 0 ∧ e = .returned (.tuple #[.slice none 0 0, .int .i64 (grE C.length E.length base many n)]) ∧ ArTo w F p C E w') ∨
  (grE C.length E.length base many n = 0 ∧ ∃ g, e = .returned (.tuple #[.slice (some ⟨g, 0, none⟩) n.toNat n.toNat, .int .i64 0]) ∧ Wk w F w' [(g, 23, rwC (fun i => cl C (base.toNat + i)) idx n.toNat (many.toNat * n.toNat))] p C (ldE base.toNat E (many.toNat * n.toNat)))
theorem getRow_any (h : Ar w F p C E) (base many n : Int) (idx : BitVec 64) :
    Calls Try.prog 10 #[.pointer (some ⟨p, 0, none⟩), .int .i64 base, .int .i64 many, .int .i64 n, .int .u64 (n64 idx)] w (GrPost w F p C E base many n idx) := by
  by_cases hb : 1 ≤ n ∧ n ≤ 64 ∧ 1 ≤ many ∧ many ≤ 4096
  · have hg : grE C.length E.length base many n = lkE C.length E.length base (many * n) 1 := by unfold grE; rw [if_pos hb]
    by_cases hz : lkE C.length E.length base (many * n) ((1 : Nat) : Int) = 0
    · obtain ⟨g1, g2, g3, _⟩ := lkE_zero hz
      obtain ⟨base, rfl⟩ := Int.eq_ofNat_of_zero_le g3
      obtain ⟨n, rfl⟩ := Int.eq_ofNat_of_zero_le (show 0 ≤ n by omega)
      obtain ⟨many, rfl⟩ := Int.eq_ofNat_of_zero_le (show 0 ≤ many by omega)
      exact (getRow_ok h base n many (by omega) (by omega) (by omega) (by omega) idx hz).mono fun e w' hh => .inr ⟨hg.trans hz, hh⟩
    · exact (getRow_err h base many n idx hb.1 hb.2.1 hb.2.2.1 hb.2.2.2 hz).mono fun e w' hh => .inl ⟨by rw [hg]; exact hz, by rw [hg]; exact hh⟩
  · have hg : grE C.length E.length base many n = 7 := by unfold grE; rw [if_neg hb]
    exact (getRow_bad h base many n idx hb).mono fun e w' hh => .inl ⟨by rw [hg]; decide, by rw [hg]; exact hh⟩
end
end Go.Proofs.Ytgdklokoeeokbaa
