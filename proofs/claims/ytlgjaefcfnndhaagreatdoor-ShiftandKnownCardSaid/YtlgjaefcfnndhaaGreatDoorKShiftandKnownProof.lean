/-
 The statement on dragnet/dragnetlaw20.ShiftandKnown: for every input it returns true, and its arguments read as before.
-/
import Derived.Test.YtlgjaefcfnndhaaGreatDoorKShiftandKnownWalk
import Derived.Test.YtlgjaefcfnndhaaGreatDoorK49
import Derived.Test.YtlgjaefcfnndhaaGreatDoorCards
import Derived.Test.YtlgjaefcfnndhaaGreatDoorK40
set_option linter.unusedVariables false
set_option linter.unusedSimpArgs false
namespace Go.Proofs.YtlgjaefcfnndhaaGreatDoor.shiftandKnown
open Go.ChangeShapes Go.WideShapes Go.ChangeAt Go.RowKit
theorem own : ownKnob Tryz.prog.godebug = none := by kernel_rfl
theorem laidOut : laidOutB Tryz.prog = true := by kernel_rfl
set_option maxRecDepth 100000 in
theorem lifted (os : Os) (started : os.Started) (H : Type) (enc : TypeId × Value → H) :
  ReturnsInLeavingWide {} Tryz.checked os 9 .any (fun w args => (Rows.shiftandKnownSpec.pre enc Tryz.prog Tryz.f9 [] false w args ∧ laidMetH Tryz.prog Rows.shiftandKnownRow.laid w) ∧ sizedMet enc Tryz.prog Tryz.f9 (OpenSpec.ofChange Rows.shiftandKnownSpec) false w args) (Rows.shiftandKnownSpec.post enc Tryz.prog Tryz.f9 false true false false) := by
 refine Go.Ride.returnsInLeavingWide_of_go0 (C := Tryz.checked) (X := fun w _ => laidMetH Tryz.prog laidTab w) (fun _ _ _ hh h => h.of_heap hh) mild own started Tryz.func9 rfl
  (ChangeSpec.witness_shaped (enc := enc) (C := Tryz.checked) (os := os) (X := fun w _ => laidMetH Tryz.prog laidTab w) false (World.laidAll Tryz.prog os laidTab) #[] 8 (World.laidAll_os _ _ _)
   (World.shaped_of_ZipB (by kernel_rfl) (by kernel_rfl)) (by kernel_rfl) (by kernel_rfl) (by kernel_rfl)
   (by rw [MakeChecks.laidMetH_plain _ _ _ (by kernel_rfl)]; exact laidMet_laidAll _ (by kernel_rfl) (by kernel_rfl))) ?_
 intro W base args ds gs before hval0 hW _ _ hL _
 have hZ := tzt_of hL
 have hval : ∀ (j : Nat) t v, Tryz.f9.params[j]? = some t → args[j]? = some v → Value.okWide Tryz.prog W .any base t v := hval0
 have hW' := hW
 obtain ⟨p, q, hA0, hV, rfl, hfz, hnd⟩ := hW
 have hA : DataW.TrodAll enc Tryz.prog W 0 (fun _ => true) true Tryz.f9.params.toList args.toList ds p := hA0
 rw [Tryz.params9] at hA hval
 obtain ⟨hargs, rfl, rfl⟩ := trodAll_nil hA
 obtain rfl : args = #[] := by cases args; simp_all
 obtain ⟨rfl, rfl⟩ := trodVars_none hV
 clear hA0 hval0
 refine ⟨_, shiftandKnown_walk (w := W) hZ , fun v W' ht ⟨τ, d, hv, hl⟩ => ?_⟩
 have hoff : Off Nob W W' := ⟨hl.os, ht, hl.output, hl.size, fun k hk _ => hl.block k hk⟩
 have bel := hoff.belowNob
 subst hv
 exact ⟨_, _, _, [], _, [], hW', trodAll_mk1 (shut_bool Tryz.underlying4 _), trodAll_mk0, rfl, bel.frame _, fun h => by cases h⟩
theorem over : Rows.shiftandKnownRow.holds Tryz.pinned (OpenSpec.ofChange Rows.shiftandKnownSpec) :=
 OpenClaim.holds_of_wide_leaving 9 Tryz.f9 rfl rfl rfl rfl rfl rfl rfl ⟨rfl, rfl, rfl, rfl, rfl⟩ rfl rfl rfl rfl rfl (by kernel_rfl) Tryz.func9 (by kernel_rfl)
  (of_decide_eq_true (by kernel_rfl)) (by unfold Func.isWrapper; first | (rw [if_pos (by decide +kernel)]; kernel_rfl) | (rw [if_neg (by decide +kernel)]; exact ⟨rfl, rfl⟩))
  (fun os started H enc _ => lifted os started H enc)
theorem proved : Rows.ShiftandKnownCardSaid :=
 holds_tied_goes_at .later [] [.data] true (true, "d7131a8387f1644c2d338b128761ad6af079cc5c22ccc5d6e3db0b880232634f") false over (fun _ h => by cases h) (by kernel_rfl) (fun _ h => by cases h) shiftandKnown_row_tie rfl ⟨rfl, rfl⟩ (by kernel_rfl) rfl
  (fun f fn hf hfn => by
   obtain rfl : f = 9 := Option.some.inj (hf.symm.trans (show Tryz.prog.funcNamed "dragnet/dragnetlaw20.ShiftandKnown" = some 9 by kernel_rfl))
   obtain rfl : fn = Tryz.f9 := Option.some.inj (hfn.symm.trans Tryz.func9)
   refine ⟨by kernel_rfl, fun j t ht => ?_⟩
   have h := show (Tryz.f9.params.toList.all fun t => !Tryz.prog.wantsStandIn t) = true by kernel_rfl
   rw [← Array.getElem?_toList] at ht
   have h2 := List.all_eq_true.1 h t (List.mem_of_getElem? ht)
   exact Bool.not_eq_true' _ ▸ h2)
  (by kernel_rfl)
#print axioms proved
end Go.Proofs.YtlgjaefcfnndhaaGreatDoor.shiftandKnown
