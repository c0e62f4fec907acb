import Derived.Test.YtedbafgejladiaaGreatRefComp
import Derived.Test.YtedbafgejladiaaGreatPG
/-
  Compact and its specification without an arena.
-/
namespace Go.Proofs.YtedbafgejladiaaGreat
open Go.RowKit
set_option linter.unusedVariables false
set_option linter.unusedSimpArgs false
set_option maxRecDepth 100000
attribute [local go_sem] idx_0
theorem cpck_nil0 (s r d f : Int) (k n : Nat) (h1 : 1 ≤ k) (h2 : k ≤ 32) (h3 : 1 ≤ n) (h4 : n ≤ 256) (w : World) :
    Calls Tryz.prog 31 #[.pointer none, .agg #[.int .i64 s, .int .i64 r, .int .i64 d, .int .i64 f], .int .i64 (k : Int), .int .i64 (n : Int)] w fun e w' => e = .returned (.int .i64 1) ∧ Off Nob w w' := by
  have HS := Lib.hid (fun w => csteps_ok k n h1 h2 h3 h4 w)
  obtain ⟨M, hM⟩ : ∃ M, cpN (k + n) = M := ⟨_, rfl⟩
  rw [hM] at HS
  clear hM
  go_enter Tryz.func31, Tryz.ntmps31
  go_wp2_with fail
  refine (HS.out _).mono ?_
  rintro e w' ⟨rfl, rfl⟩
  go_wp2_with fail
  have o0 : Off Nob w ((w.alloc (.cells #[.int .i64 s, .int .i64 r, .int .i64 d, .int .i64 f] 35)).alloc (.cells #[.int .i64 s, .int .i64 (3 * ((k : Int) + (n : Int))), .int .i64 r, .int .i64 ((k : Int) + (n : Int)), .int .i64 d, .int .i64 1, .int .i64 f, .int .i64 1] 106)) := Off.alloc (Off.alloc (Off.refl _ _) _) _
  have HO := Lib.hid o0
  clear o0
  go_loopw [47] (fun i wr => i = .int .i64 ((0 : Nat) : Int) ∧ Off Nob w wr) (fun i _ => 4 - (intOf i).toNat)
  case atStart => exact ⟨rfl, HO.out⟩
  case round =>
    obtain ⟨rfl, hrel⟩ := hrel
    have H1 := Lib.hid hrel
    clear hrel
    go_wp2_with fail
    refine (has_nil _ _ _).mono ?_
    rintro e w' ⟨rfl, rfl⟩
    go_wp2_with fail
    go_ret
    exact ⟨rfl, H1.out.alloc _⟩
theorem cpck_nil (w : World) :
    Calls Tryz.prog 31 #[.pointer none, .agg #[.int .i64 0, .int .i64 6, .int .i64 8, .int .i64 9], .int .i64 1, .int .i64 1] w fun e w' => e = .returned (.int .i64 1) ∧ Off Nob w w' := cpck_nil0 0 6 8 9 1 1 (by decide) (by decide) (by decide) (by decide) w
theorem ccompact_nil (w : World) :
    Calls Tryz.prog 12 #[.pointer none, .agg #[.int .i64 0, .int .i64 6, .int .i64 8, .int .i64 9], .int .i64 1, .int .i64 1] w fun e w' => e = .returned (.int .i64 1) ∧ Off Nob w w' := by
  go_enter Tryz.func12, Tryz.ntmps12
  go_wp2_with fail
  refine (cpck_nil _).mono ?_
  rintro e w1 ⟨rfl, o1⟩
  have O1 := Lib.hid ((Off.alloc (Off.alloc (Off.alloc (Off.refl Nob w) _) _) _).also o1)
  clear o1
  go_wp2_with fail
  go_ret
  exact ⟨rfl, O1.out⟩
theorem rcpck_nil (w : World) :
    Calls Tryz.prog 46 #[.pointer none, .agg #[.int .i64 0, .int .i64 6, .int .i64 8, .int .i64 9], .int .i64 1, .int .i64 1] w fun e w' => e = .returned (.int .i64 1) ∧ Off Nob w w' := by
  have HS := Lib.hid (fun w => rcsteps_ok 1 1 (by decide) (by decide) (by decide) (by decide) w)
  obtain ⟨M, hM⟩ : ∃ M, cpN (1 + 1) = M := ⟨_, rfl⟩
  rw [hM] at HS
  clear hM
  go_enter Tryz.func46, Tryz.ntmps46
  go_wp2_with fail
  refine Calls.mono (R := fun e w' => e = .returned (.tuple #[.int .i64 (M : Int), .int .i64 0]) ∧ Off Nob _ w') (HS.out _) ?_
  rintro e w1 ⟨rfl, o1⟩
  have hb1 := (Blk.new w 35 #[.int .i64 0, .int .i64 6, .int .i64 8, .int .i64 9]).to (o1.block _ (Blk.new w 35 #[.int .i64 0, .int .i64 6, .int .i64 8, .int .i64 9]).lt (fun h => h))
  have y0 := hb1.cell 0
  have y1 := hb1.cell 1
  have y2 := hb1.cell 2
  have y3 := hb1.cell 3
  simp only [List.getElem?_toArray, List.getElem?_cons_succ, List.getElem?_cons_zero] at y0 y1 y2 y3
  have O1 := Lib.hid ((Off.alloc (Off.refl Nob w) _).also o1)
  clear o1 hb1
  go_wp2_with fail
  refine Calls.mono (R := _) (rparts_ok 0 6 8 9 1 1 (by decide) (by decide) _) ?_
  rintro e W ⟨g, rfl, hbk, o2⟩
  have HO := Lib.hid (O1.out.also o2)
  have HCC : Hid (∀ W', Off Nob W W' → W'.cell? ⟨g, 0, none⟩ = some (.int .i64 0) ∧ W'.cell? ⟨g, 1, none⟩ = some (.int .i64 6)) := Lib.hid (fun W' o => ⟨(o.cell_old hbk.lt _).trans (hbk.cell 0), (o.cell_old hbk.lt _).trans (hbk.cell 1)⟩)
  clear hbk o2 O1 y0 y1 y2 y3
  go_wp2_with fail
  go_loopw [12] (fun i wr => i = .int .i64 0 ∧ Off Nob W wr) (fun i _ => 4 - (intOf i).toNat)
  case atStart => exact ⟨rfl, Off.refl _ _⟩
  case round =>
    obtain ⟨rfl, hrel⟩ := hrel
    obtain ⟨q0, q1⟩ := HCC.out _ hrel
    have H1 := Lib.hid (HO.out.also hrel)
    clear hrel
    go_wp2_with fail
    go_region_held3 (fun w' => w'.cell? ⟨g, 0, none⟩ = some (.int .i64 0) ∧ w'.cell? ⟨g, 1, none⟩ = some (.int .i64 6))
      (first | with_reducible assumption | go_keep)
      (first | (go_at_call 95; refine (rhas_nil _ _ _).mono ?_; rintro e w' ⟨rfl, rfl⟩))
    go_wp2_with fail
    go_ret
    exact ⟨rfl, H1.out.drew⟩
theorem rccompact_nil (w : World) :
    Calls Tryz.prog 13 #[.pointer none, .agg #[.int .i64 0, .int .i64 6, .int .i64 8, .int .i64 9], .int .i64 1, .int .i64 1] w fun e w' => e = .returned (.int .i64 1) ∧ Off Nob w w' := by
  go_enter Tryz.func13, Tryz.ntmps13
  go_wp2_with fail
  refine (rcpck_nil _).mono ?_
  rintro e w1 ⟨rfl, o1⟩
  have O1 := Lib.hid ((Off.alloc (Off.refl Nob w) _).also o1)
  clear o1
  go_wp2_with fail
  go_ret
  exact ⟨rfl, O1.out⟩
end Go.Proofs.YtedbafgejladiaaGreat

