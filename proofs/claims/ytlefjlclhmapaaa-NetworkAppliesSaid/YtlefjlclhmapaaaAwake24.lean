/-
  dragnetlaw24.awake returns true.
-/
import Derived.Test.YtlefjlclhmapaaaNetApErr
namespace Go.Proofs.Ytlefjlclhmapaaa
open Go.RowKit
set_option linter.unusedVariables false
set_option maxRecDepth 100000
theorem aw_rn : rn 5 = 3 := by decide +kernel
theorem aw_mv : moves 4 = [(0, 1, 0), (0, 2, 1), (0, 3, 2), (1, 2, 0), (1, 3, 1)] := by decide +kernel
def awA : List Sl := [(0#64, 0#64, 0#64), (18446744073709551615#64, 5#64, 0#64), (0#64, 0#64, 0#64), (18446744073709551615#64, 6#64, 0#64)]
def awB : List Sl := [(18446744073709551615#64, 5#64, 0#64), (18446744073709551615#64, 6#64, 0#64), (0#64, 0#64, 0#64), (0#64, 0#64, 0#64)]
def awD : List Nat := [0, 1, 0, 2]
theorem aw_ap : (apL awA awD (moves 4)).1 = awB := by decide +kernel
/-- Behind an own row: it reads on. -/
theorem own_off0 {w w' : World} {base size n : Nat} {e : TypeId} {v : Value} {xs : List Value} (h : w.ownsRow base e size v n xs) (o : Off Nob w w') : w'.ownsRow base e size v n xs :=
  own_to h (fun g hg => o.block g (h.lt g hg).2 (fun h => h))
set_option maxHeartbeats 4000000 in
theorem awake_ok (w : World) : Calls Try.prog 15 #[] w (BoolNew true w) := by
  obtain ⟨i0, hI, hz0, hz1, hz2⟩ := info_parts Try.infoSl
  go_enter Try.func15, Try.ntmps15
  go_wp2_with fail
  refine Calls.mono (R := fun e w' => e = .returned (.tuple #[.int .i64 3, .int .i64 0]) ∧ w = w') (by have := nrounds_ok 5 (by decide) (by decide) w; rw [aw_rn] at this; exact this) ?_
  rintro e w' ⟨rfl, rfl⟩
  go_wp2_with fail
  refine Calls.mono (R := fun e w' => e = .returned (.tuple #[.int .i64 80, .int .i64 0]) ∧ w = w') (by have := nsteps_ok 4 (by decide) (by decide) w; rw [aw_mv] at this; exact this) ?_
  rintro e w' ⟨rfl, rfl⟩
  go_wp2_with fail
  refine Calls.mono (R := NewM2 w (moves 4)) (nplan_ok 4 (by decide) (by decide) w) ?_
  rintro e w1 ⟨v, rfl, r1, o1⟩
  have hvf : ∃ g cap, v = .slice (some ⟨g, 0, none⟩) 5 cap ∧ g < w1.heap.size := by
    have hl := r1.lt
    rw [aw_mv] at r1
    rcases r1.2 with ⟨rfl, h0⟩ | ⟨g, cap, cur, rfl, _⟩
    · cases h0
    · exact ⟨g, cap, rfl, (hl g rfl).2⟩
  obtain ⟨g, cap, rfl, hg⟩ := hvf
  rw [aw_mv] at r1
  have R1 : Hid (w1.cell? ⟨g, 9, none⟩ = some (.int .i64 1) ∧ w1.cell? ⟨g, 10, none⟩ = some (.int .i64 2) ∧ w1.cell? ⟨g, 11, none⟩ = some (.int .i64 0)) := Lib.hid ⟨r1.cellAt 9 (by decide), r1.cellAt 10 (by decide), r1.cellAt 11 (by decide)⟩
  have O1 := Lib.hid o1
  clear r1 o1
  go_wp2_with fail
  refine Calls.mono (R := fun e w' => ∃ g2 c2, e = .returned (.tuple #[.slice (some ⟨g2, 0, none⟩) 4 c2, .int .i64 0]) ∧ g2 < w'.heap.size ∧ Rd w' (fun k => k = g2) 3 (.slice (some ⟨g2, 0, none⟩) 4 c2) 4 (slC awB) ∧ Off Nob w1 w') (by
    have hb : Blk ((w1.alloc (.cells (slC awA).toArray 41)).alloc (.cells (inC awD).toArray 3)) (w1.heap.size + 1) 3 (inC awD).toArray := by
      have := Blk.new (w1.alloc (.cells (slC awA).toArray 41)) 3 (inC awD).toArray
      simpa using this
    have := napply_ok 4 w1.heap.size 0 4 (w1.heap.size + 1) 0 4 awA awD rfl rfl (by decide) (by decide) ((w1.alloc (.cells (slC awA).toArray 41)).alloc (.cells (inC awD).toArray 3)) (by simp; omega) (by simp)
      (fun j u hu => by rw [Nat.zero_add, ((Blk.new w1 41 (slC awA).toArray).alloc (.cells (inC awD).toArray 3)).cell]; simpa using hu) (fun j u hu => by rw [Nat.zero_add, hb.cell]; simpa using hu) (by decide)
    rw [aw_ap] at this
    exact this.mono fun e w' ⟨g2, c2, he, _, hr, ho⟩ => ⟨g2, c2, he, (hr.lt g2 rfl).2, Rd.own hr (fun g hg => by simp [Value.ownBlock] at hg; exact hg.symm), ((Off.alloc (Off.refl Nob w1) _).alloc _).also ho⟩) ?_
  rintro e w2 ⟨g2, c2, rfl, hg2, r2, o2⟩
  have R2 := Lib.hid r2
  have C2 : Hid (w2.cell? ⟨g, 9, none⟩ = some (.int .i64 1) ∧ w2.cell? ⟨g, 10, none⟩ = some (.int .i64 2) ∧ w2.cell? ⟨g, 11, none⟩ = some (.int .i64 0)) := Lib.hid ⟨(o2.cell_old hg _).trans R1.out.1, (o2.cell_old hg _).trans R1.out.2.1, (o2.cell_old hg _).trans R1.out.2.2⟩
  have hgl : g < w2.heap.size := Nat.lt_of_lt_of_le hg o2.size
  have O2 := Lib.hid (O1.out.also o2)
  clear r2 o2 R1 O1
  go_wp2_with (at_make; refine wpList_make_full _ rfl _ _ 33 rfl w2.heap.size 41 i0 (.agg #[.int .u64 0, .int .u64 0, .int .u64 0]) 3 Try.underlying33 hI hz0 hz1 .i64 .i64 _ _ 2 rfl rfl rfl rfl (by rw [hz2]; omega) (by unfold maxLen; omega) (Nat.le_refl _) ?_; intro w3 hown0 hgrow0)
  have o3 : Off Nob w2 w3 := Off.grown (Off.refl _ _) hgrow0 (fun k hk => by cases hk)
  have O3 := Lib.hid o3
  clear hown0 hgrow0 o3
  go_wp2_with fail
  refine Calls.mono (R := fun e w' => e = .returned (.tuple #[.slice none 0 0, .int .i64 2]) ∧ _ = w') (napply_bad _ 2 _ w3.heap.size 0 2 1 [0, 2] (by decide) (by decide) (by decide) (fun i hi => by match i, hi with | 0, _ => decide) (by decide) _ (fun i hi => by
    match i, hi with
    | 0, _ => exact (Blk.new w3 3 #[.int .i64 0, .int .i64 2]).cell 0
    | 1, _ => exact (Blk.new w3 3 #[.int .i64 0, .int .i64 2]).cell 1)) ?_
  rintro e w' ⟨rfl, rfl⟩
  obtain ⟨W5, hW5⟩ : ∃ W5, w3.alloc (.cells #[.int .i64 0, .int .i64 2] 3) = W5 := ⟨_, rfl⟩
  have O5 : Hid (Off Nob w2 W5) := Lib.hid (by rw [← hW5]; exact O3.out.alloc _)
  rw [hW5]
  obtain ⟨x0, x1, x2⟩ : W5.cell? ⟨g, 9, none⟩ = some (.int .i64 1) ∧ W5.cell? ⟨g, 10, none⟩ = some (.int .i64 2) ∧ W5.cell? ⟨g, 11, none⟩ = some (.int .i64 0) := ⟨(O5.out.cell_old hgl _).trans C2.out.1, (O5.out.cell_old hgl _).trans C2.out.2.1, (O5.out.cell_old hgl _).trans C2.out.2.2⟩
  have RS : Hid (∀ o, Rd (W5.alloc o) (fun k => k = g2) 3 (.slice (some ⟨g2, 0, none⟩) 4 c2) 4 (slC awB)) := Lib.hid (fun o => R2.out.keep (O5.out.alloc o) (fun _ _ h => h))
  have O6 := Lib.hid (O2.out.also O5.out)
  clear hW5 O3 C2 R2 O5 O2
  go_wp2_with fail
  refine Calls.mono (R := BoolNew true _) (sameSl_eq (RS.out _) (show Rd (W5.alloc (.cells (slC awB).toArray 41)) (fun k => k = W5.heap.size) 3 (.slice (some ⟨W5.heap.size, 0, none⟩) 4 4) 4 (slC awB) from
    ⟨_, _, rfl, by unfold maxLen; omega, rfl, fun _ => ⟨_, 0, rfl, rfl, by simp, fun j u hu => by rw [Nat.zero_add, (Blk.new W5 41 (slC awB).toArray).cell]; simpa using hu⟩⟩)) ?_
  rintro e w7 ⟨rfl, o7⟩
  have O7 := Lib.hid ((O6.out.alloc _).also o7)
  clear o7
  go_wp2_with fail
  go_ret
  exact ⟨rfl, O7.out⟩
end Go.Proofs.Ytlefjlclhmapaaa
