/-
  compare.Sort over an arena.
-/
import Derived.Test.YtdgehacbpjgmcaaCmpPairs
import Derived.Deep.RegionHeld3
import Derived.BigQuiet
import Derived.Deep.QuietTactic
namespace Go.Proofs.Ytdgehacbpjgmcaa
open Go.RowKit Go.Shelf
attribute [local go_sem] Oper.semAt_some
set_option linter.unusedVariables false
set_option maxRecDepth 100000
def soE (nC nE : Nat) (base many n : Int) : Int :=
  if many < 1 ∨ 16 < many ∨ n < 1 ∨ 64 < n ∨ 64 < many * n then 7 else if hasE nC base (many * n) = 0 then roomE nE ((4 * n + 2) * many * (many - 1) / 2) else hasE nC base (many * n)
/-- One pair put in order; all of them. -/
def soS (base n : Nat) (s : List (BitVec 64) × List Ev) (i : Nat) : List (BitVec 64) × List Ev := exF n s (base + i * n) (base + (i + 1) * n)
def soL (base n : Nat) (s : List (BitVec 64) × List Ev) (l : List Nat) : List (BitVec 64) × List Ev := l.foldl (soS base n) s
def soR (C : List (BitVec 64)) (E : List Ev) (base many n : Int) : Int × (List (BitVec 64) × List Ev) :=
  if soE C.length E.length base many n = 0 then (0, soL base.toNat n.toNat (C, E) (pl (many.toNat - 1))) else (soE C.length E.length base many n, (C, E))
theorem soL_len (base n : Nat) (s : List (BitVec 64) × List Ev) (l : List Nat) : (soL base n s l).1.length = s.1.length ∧ (soL base n s l).2.length = s.2.length + (4 * n + 2) * l.length := by
  induction l generalizing s with
  | nil => exact ⟨rfl, rfl⟩
  | cons i l ih =>
    show (soL base n (soS base n s i) l).1.length = _ ∧ (soL base n (soS base n s i) l).2.length = _
    obtain ⟨h1, h2⟩ := ih (soS base n s i)
    obtain ⟨h3, h4⟩ := exF_len n s (base + i * n) (base + (i + 1) * n)
    have h5 : (soS base n s i).1.length = s.1.length := h3
    have h6 : (soS base n s i).2.length = s.2.length + (4 * n + 2) := h4
    refine ⟨h1.trans h5, ?_⟩
    rw [h2, h6, List.length_cons, Nat.mul_succ]; omega
theorem soL_snoc (base n : Nat) (s : List (BitVec 64) × List Ev) (l : List Nat) (i : Nat) : soL base n s (l ++ [i]) = soS base n (soL base n s l) i := by unfold soL; rw [List.foldl_append]; rfl
theorem pl_len (e : Nat) : 2 * (pl e).length = e * (e + 1) := by
  induction e with
  | zero => rfl
  | succ e ih =>
    show 2 * (List.range (e + 1) ++ pl e).length = _
    rw [List.length_append, List.length_range, Nat.mul_add, ih, Nat.mul_add (e + 1) (e + 1) 1, Nat.add_mul e 1 (e + 1), Nat.mul_one]
    have := Nat.mul_comm e (e + 1)
    omega
theorem pl_mem {e i : Nat} (h : i ∈ pl e) : i < e := by
  induction e with
  | zero => cases h
  | succ e ih =>
    rcases List.mem_append.1 h with h | h
    · exact List.mem_range.1 h
    · have := ih h; omega
theorem soE_zero {nC nE : Nat} {base many n : Int} (h : soE nC nE base many n = 0) : 1 ≤ many ∧ many ≤ 16 ∧ 1 ≤ n ∧ n ≤ 64 ∧ many * n ≤ 64 ∧ 0 ≤ base ∧ base + many * n ≤ nC ∧ nE + (4 * n + 2) * many * (many - 1) / 2 ≤ 8388608 := by
  unfold soE at h
  split at h
  · cases h
  · rename_i h1
    split at h
    · rename_i h2
      rcases hasE_cases nC base (many * n) with ⟨_, h3⟩ | ⟨h3, _⟩
      · have := (roomE_zero h).2
        omega
      · rw [h3] at h2; cases h2
    · rename_i h2; exact absurd h h2
theorem Calls.monoIn {n : Nat} {P : Program} {f : FuncId} {args : Array Value} {w : World} {R R' : Ending → World → Prop} (h : Calls P f args w R) (hr : ∀ e w', R e w' → R' e w') : CallsIn Fence.wide n P f args w R' := callsIn_wide.2 (h.mono hr)
theorem pl_tot (n many : Nat) (h : 1 ≤ many) : (4 * (n : Int) + 2) * many * ((many : Int) - 1) / 2 = (((4 * n + 2) * (pl (many - 1)).length : Nat) : Int) := by
  obtain ⟨m, rfl⟩ : ∃ m, many = m + 1 := ⟨many - 1, by omega⟩
  have h1 := pl_len m
  have h2 : (((m + 1 : Nat) : Int)) * (((m + 1 : Nat) : Int) - 1) = 2 * ((pl m).length : Int) := by
    have h3 : ((2 * (pl m).length : Nat) : Int) = ((m * (m + 1) : Nat) : Int) := by rw [h1]
    have h4 : ((2 * (pl m).length : Nat) : Int) = 2 * ((pl m).length : Int) := by simp
    rw [← h4, h3, show (((m + 1 : Nat) : Int) - 1) = (m : Int) by omega, Int.natCast_mul, Int.mul_comm]
  rw [Int.mul_assoc, h2, Int.mul_left_comm, Nat.add_sub_cancel]
  rw [Int.mul_ediv_cancel_left _ (by decide)]
  simp
section
variable {w : World} {F : Nat → Prop} {p : Nat} {C : List (BitVec 64)} {E : List Ev}
set_option maxHeartbeats 1000000 in
set_option pp.deepTerms true in
set_option pp.maxSteps 1000000 in
theorem csort_ok (h : Ar w F p C E) (base many n : Nat) (hz : soE C.length E.length base many n = 0) :
    Calls Try.prog 14 #[.pointer (some ⟨p, 0, none⟩), .int .i64 (base : Int), .int .i64 (many : Int), .int .i64 (n : Int)] w fun e w' => e = .returned (.int .i64 0) ∧ ArTo w F p (soL base n (C, E) (pl (many - 1))).1 (soL base n (C, E) (pl (many - 1))).2 w' := by
  obtain ⟨g1, g2, g3, g4, g5, g6, g7, g8⟩ := soE_zero hz
  have hn2 := h.n2
  have HW : Hid (Wk w F ((((w.alloc (.cells #[.pointer (some ⟨p, 0, none⟩)] 24)).alloc (.cells #[.int .i64 (base : Int)] 3)).alloc (.cells #[.int .i64 (n : Int)] 3)).alloc (.cells #[.int .i64 0] 29))
    [(w.heap.size + 1 + 1 + 1, 29, #[.int .i64 0]), (w.heap.size + 1 + 1, 3, #[.int .i64 (n : Int)]), (w.heap.size + 1, 3, #[.int .i64 (base : Int)]), (w.heap.size, 24, #[.pointer (some ⟨p, 0, none⟩)])] p C E) := by
    have := ((((Wk.start h).push 24 #[.pointer (some ⟨p, 0, none⟩)]).push 3 #[.int .i64 (base : Int)]).push 3 #[.int .i64 (n : Int)]).push 29 #[.int .i64 0]
    simp only [World.size_alloc] at this
    exact Lib.hid this
  have m0 : 0 ≤ (many : Int) * n := Int.mul_nonneg (by omega) (by omega)
  have hq1 : decide (64 < (many : Int) * n) = false := decide_eq_false (by omega)
  have p0 : 0 ≤ (4 * (n : Int) + 2) * many := Int.mul_nonneg (by omega) (by omega)
  have p1 : (4 * (n : Int) + 2) * many ≤ 258 * 16 := Int.mul_le_mul (by omega) (by omega) (by omega) (by omega)
  have p2 : 0 ≤ (4 * (n : Int) + 2) * many * ((many : Int) - 1) := Int.mul_nonneg p0 (by omega)
  have p3 : (4 * (n : Int) + 2) * many * ((many : Int) - 1) ≤ 258 * 16 * 15 := Int.mul_le_mul p1 (by omega) (by omega) (by omega)
  have hb : ¬ ((many : Int) < 1 ∨ 16 < (many : Int) ∨ (n : Int) < 1 ∨ 64 < (n : Int) ∨ 64 < (many : Int) * n) := by omega
  have hz1 : hasE C.length base ((many : Int) * n) = 0 := by unfold hasE; rw [if_neg (by omega)]
  have hz2 : roomE E.length ((4 * (n : Int) + 2) * many * ((many : Int) - 1) / 2) = 0 := by unfold soE at hz; rwa [if_neg hb, if_pos hz1] at hz
  have HZ1 := Lib.hid hz1
  have HZ2 := Lib.hid hz2
  have q1 : decide ((many : Int) < 1) = false := decide_eq_false (by omega)
  have q2 : decide (16 < (many : Int)) = false := decide_eq_false (by omega)
  have q3 : decide ((n : Int) < 1) = false := decide_eq_false (by omega)
  have q4 : decide (64 < (n : Int)) = false := decide_eq_false (by omega)
  have HTOT : Hid (E.length + (4 * n + 2) * (pl (many - 1)).length ≤ 8388608) := Lib.hid (by
    rw [pl_tot n many (by omega)] at g8
    omega)
  clear h hz g8 hb hz1 hz2
  refine (callsIn_wide (n := 4)).1 ?_
  refine callsIn_of_wp_marks Try.func14 rfl trivial ?_ rfl
  simp only [Try.ntmps14, List.size_toArray, List.length_cons, List.length_nil, Nat.reduceAdd, Nat.reduceSub, Array.replicate_succ, Array.replicate_zero, List.push_toArray, List.append_toArray, List.nil_append, List.cons_append]
  obtain ⟨Fx, hFx⟩ := HW.out.ar
  have HH := Lib.hid (has_any hFx base ((many : Int) * n))
  have HR := Lib.hid (room_any hFx ((4 * (n : Int) + 2) * many * ((many : Int) - 1) / 2))
  clear hFx
  gi_wp2_with fail
  refine ⟨trivial, ?_⟩
  refine Calls.monoIn (R := fun e w' => e = .returned (.int .i64 0) ∧ _ = w') (by have := HH.out; rwa [HZ1.out] at this) ?_
  rintro e w' ⟨rfl, rfl⟩
  gi_wp2_with fail
  refine ⟨trivial, ?_⟩
  refine Calls.monoIn (R := fun e w' => e = .returned (.int .i64 0) ∧ _ = w') (by have := HR.out; rwa [HZ2.out] at this) ?_
  rintro e w' ⟨rfl, rfl⟩
  gi_wp2_with fail
  refine ⟨trivial, ?_⟩
  refine Calls.monoIn (pairs_any (many : Int) _) ?_
  rintro e w' ⟨rfl, rfl⟩
  have HW5 := HW.out.push 3 #[.int .i64 (many : Int)]
  clear HH HR HZ1 HZ2 HW
  gi_wp2_with fail
  simp only [World.size_alloc] at HW5
  have hs0 : (((((w.alloc (.cells #[.pointer (some ⟨p, 0, none⟩)] 24)).alloc (.cells #[.int .i64 (base : Int)] 3)).alloc (.cells #[.int .i64 (n : Int)] 3)).alloc (.cells #[.int .i64 0] 29)).alloc (.cells #[.int .i64 (many : Int)] 3)).heap.size = w.heap.size + 5 := by simp
  generalize ((((w.alloc (.cells #[.pointer (some ⟨p, 0, none⟩)] 24)).alloc (.cells #[.int .i64 (base : Int)] 3)).alloc (.cells #[.int .i64 (n : Int)] 3)).alloc (.cells #[.int .i64 0] 29)).alloc (.cells #[.int .i64 (many : Int)] 3) = W0 at *
  have HW := Lib.hid HW5
  have HS := Lib.hid hs0
  have hbl := HW5.blk (List.mem_cons_self ..)
  clear HW5 hs0
  apply wpIn_rangeFunc_ownG (F := Fence.wide) (n := 4) rfl (by decide) (gf := 65) (lb := #[.pointer (some ⟨w.heap.size + 1 + 1 + 1 + 1, 0, none⟩)]) rfl trivial (enters_of Try.func65 (by kernel_rfl) rfl)
    (pairs_stops (4 - 1) (by decide) (w.heap.size + 1 + 1 + 1 + 1) many (by omega) (by omega) W0 hbl) (fun h k => kpB_t h k) (kpB_b (fun b hb => by rw [HS.out]; simp at hb; omega)) (Below.refl _ _) (fun _ => rfl)
    (fun pre W => Wk w F W [(w.heap.size + 1 + 1 + 1 + 1, 3, #[.int .i64 (many : Int)]), (w.heap.size + 1 + 1 + 1, 29, #[.int .i64 0]), (w.heap.size + 1 + 1, 3, #[.int .i64 (n : Int)]), (w.heap.size + 1, 3, #[.int .i64 (base : Int)]), (w.heap.size, 24, #[.pointer (some ⟨p, 0, none⟩)])] p (soL base n (C, E) (pre.map Subtype.val)).1 (soL base n (C, E) (pre.map Subtype.val)).2)
    (fun _ _ _ => False) (wk_own (by rw [HS.out]; omega) _ _ _ _) (fun _ _ _ _ _ hs _ _ => hs) HW.out
  case hassign =>
    intro l x W K hK
    gi_wp2
    exact hK
  case hbody =>
    rintro l pre x W hi hlt
    obtain ⟨i, hx⟩ := x
    have hie := pl_mem hx
    have HI := Lib.hid hi
    obtain ⟨hl1, hl2⟩ := soL_len base n (C, E) (pre.map Subtype.val)
    have HL1 := Lib.hid (show (soL base n (C, E) (pre.map Subtype.val)).1.length = C.length from hl1)
    have HL2 := Lib.hid (show (soL base n (C, E) (pre.map Subtype.val)).2.length = E.length + (4 * n + 2) * pre.length by rw [hl2, List.length_map])
    have HLT := Lib.hid hlt
    have c0 : W.cell? ⟨w.heap.size, 0, none⟩ = some (.pointer (some ⟨p, 0, none⟩)) := (hi.blk (t := 24) (cs := #[.pointer (some ⟨p, 0, none⟩)]) (by simp)).cell 0
    have c1 : W.cell? ⟨w.heap.size + 1, 0, none⟩ = some (.int .i64 (base : Int)) := (hi.blk (t := 3) (cs := #[.int .i64 (base : Int)]) (by simp)).cell 0
    have c2 : W.cell? ⟨w.heap.size + 1 + 1, 0, none⟩ = some (.int .i64 (n : Int)) := (hi.blk (t := 3) (cs := #[.int .i64 (n : Int)]) (by simp)).cell 0
    have HIX := Lib.hid hie
    have a1 : 0 ≤ (i : Int) * n := Int.mul_nonneg (by omega) (by omega)
    have a2 : ((i : Int) + 2) * n ≤ (many : Int) * n := Int.mul_le_mul_of_nonneg_right (by omega) (by omega)
    have a3 : ((i : Int) + 2) * n = (i : Int) * n + 2 * n := by rw [Int.add_mul]
    have a4 : ((i : Int) + 1) * n = (i : Int) * n + n := by rw [Int.add_mul, Int.one_mul]
    have a5 : 0 ≤ ((i : Int) + 1) * n := by omega
    have a6 : ((i : Int) + 1) * n ≤ 64 := by omega
    have a7 : (i : Int) * n ≤ 64 := by omega
    have A4 := Lib.hid a4
    have A3 := Lib.hid a3
    have HNX := Lib.hid (show (pre ++ [(⟨i, hx⟩ : {x // x ∈ pl (many - 1)})]).map Subtype.val = pre.map Subtype.val ++ [i] by simp)
    dsimp only
    generalize pre ++ [(⟨i, hx⟩ : {x // x ∈ pl (many - 1)})] = nx at HNX ⊢
    clear hi hl1 hl2 hlt hx a3 a4
    have HC := Lib.hid (HI.out.callO (e0 := .returned (.int .i64 0)) (C2 := (soL base n (C, E) (nx.map Subtype.val)).1) (E2 := (soL base n (C, E) (nx.map Subtype.val)).2) (P := Try.prog) (f := 44) (xs := #[.pointer (some ⟨p, 0, none⟩), .int .i64 ((base : Int) + (i : Int) * n), .int .i64 ((base : Int) + ((i : Int) + 1) * n), .int .i64 (n : Int)]) (fun w1 F1 ha => by
      have e1 : ((base + i * n : Nat) : Int) = (base : Int) + (i : Int) * n := by rw [Int.natCast_add, Int.natCast_mul]
      have e2 : ((base + (i + 1) * n : Nat) : Int) = (base : Int) + ((i : Int) + 1) * n := by rw [Int.natCast_add, Int.natCast_mul, Int.natCast_add]; rfl
      have e3 : base + (i + 1) * n = base + i * n + n := by rw [Nat.add_mul, Nat.one_mul]; omega
      have A4' := A4.out
      have A3' := A3.out
      have l1 := HL1.out
      have l2 := HL2.out
      have l3 : (4 * n + 2) * (pre.length + 1) ≤ (4 * n + 2) * (pl (many - 1)).length := Nat.mul_le_mul_left _ HLT.out
      rw [Nat.mul_succ] at l3
      have l4 := HTOT.out
      have := cexch_ok ha (base + i * n) (base + (i + 1) * n) n (by omega) (by omega) (by rw [l1]; omega) (by rw [l1]; omega) (by omega) (by rw [l2]; omega)
      rw [e1, e2] at this
      rw [HNX.out, soL_snoc]
      exact this))
    clear a2
    gi_wp2_with fail
    refine ⟨trivial, ?_⟩
    refine (CallsIn.inRound l (Calls.monoIn HC.out (fun _ _ h => h))).mono ?_
    rintro e w3 ⟨rfl, h3, hk3⟩
    have H3 := Lib.hid h3
    have HK3 := Lib.hid hk3
    clear h3 hk3
    gi_wp2_with fail
    exact ⟨HK3.out.from _, kpB_of (bl := [(w.heap.size + 1 + 1 + 1 + 1, 3, #[.int .i64 (many : Int)])]) (fun x hx => by simp at hx; subst hx; exact HI.out.blk (List.mem_cons_self ..)) (fun x hx => by simp at hx; subst hx; exact H3.out.blk (List.mem_cons_self ..)), H3.out⟩
  case hdone =>
    rintro D xs W hD hxs hi hK
    have HI := Lib.hid hi
    have hbr := hi.blk (b := w.heap.size + 1 + 1 + 1) (t := 29) (cs := #[.int .i64 0]) (by simp)
    have c8 : W.cell? ⟨w.heap.size + 1 + 1 + 1, 0, none⟩ = some (.int .i64 0) := hbr.cell 0
    have f8 := hbr.frozen 0
    have HX := Lib.hid hxs
    have HK := Lib.hid hK
    clear hi hbr hxs hK
    gi_wp2_with fail
    have hP := (HI.out.sub (bs2 := [(w.heap.size + 1 + 1 + 1, 29, #[.int .i64 0])]) (fun x hx => by simp at hx; subst hx; simp) (by simp)).put 0 (.int .i64 0)
    have hK' := (KeepsOthers.setCell W ⟨w.heap.size + 1 + 1 + 1, 0, none⟩ (.int .i64 0)).same D _ HK.out rfl
    have hU := hP.unmark (o' := .deferred none) (by have := HS.out; omega) hK' rfl
    have hc := (hU.blk (List.mem_cons_self ..)).cell 0
    refine ⟨by simp, .inl ⟨_, _, rfl, run_takeDeferred hK', ?_⟩⟩
    refine ⟨.int .i64 0, ?_, rfl, ?_⟩
    · simp [results, Try.f14, go_sem, hc]
    · have := hU.done
      rw [HX.out] at this
      exact this
  case hstop =>
    rintro D c pre W _ _ h _
    exact h.elim
end
end Go.Proofs.Ytdgehacbpjgmcaa
