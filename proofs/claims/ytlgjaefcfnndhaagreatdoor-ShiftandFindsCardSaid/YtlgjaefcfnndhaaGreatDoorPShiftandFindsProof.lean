/-
 The statement on dragnet/dragnetlaw20.ShiftandFinds: for every input it returns true, and its arguments read as before.
-/
import Derived.Test.YtlgjaefcfnndhaaGreatDoorPShiftandFindsWalk
import Derived.Test.YtlgjaefcfnndhaaGreatDoorP44
import Derived.Test.YtlgjaefcfnndhaaGreatDoorCards
import Derived.Test.YtlgjaefcfnndhaaGreatDoorP31
import Derived.Test.YtlgjaefcfnndhaaGreatDoorP32
import Derived.Test.YtlgjaefcfnndhaaGreatDoorP41
set_option linter.unusedVariables false
set_option linter.unusedSimpArgs false
set_option maxHeartbeats 16000000
set_option maxRecDepth 100000
namespace Go.Proofs.YtlgjaefcfnndhaaGreatDoor.shiftandFinds
open Go.ChangeShapes Go.WideShapes Go.ChangeAt Go.RowKit
theorem own : ownKnob Tryz.prog.godebug = none := by kernel_rfl
theorem laidOut : laidOutB Tryz.prog = true := by kernel_rfl
set_option maxRecDepth 100000 in
theorem q19 (os : Os) (started : os.Started) (H : Type) (enc : TypeId × Value → H) :
  ReturnsInLeavingWide {} Tryz.checked os 5 .any (fun w args => (Rows.shiftandFindsSpec.pre enc Tryz.prog Tryz.f5 [] false w args ∧ laidMetH Tryz.prog Rows.shiftandFindsRow.laid w) ∧ sizedMet enc Tryz.prog Tryz.f5 (OpenSpec.ofChange Rows.shiftandFindsSpec) false w args) (Rows.shiftandFindsSpec.post enc Tryz.prog Tryz.f5 false true false false) := by
 refine Go.Ride.returnsInLeavingWide_of_go0 (C := Tryz.checked) (X := fun w _ => laidMetH Tryz.prog qim w) (fun _ _ _ hh h => h.of_heap hh) mild own started Tryz.func5 rfl
  (ChangeSpec.witness_shaped (enc := enc) (C := Tryz.checked) (os := os) (X := fun w _ => laidMetH Tryz.prog qim w) false (World.laidAll Tryz.prog os qim) #[.slice none 0 0, .slice none 0 0, .slice none 0 0] 8 (World.laidAll_os _ _ _)
   (World.shaped_of_ZipB (by kernel_rfl) (by kernel_rfl)) (by kernel_rfl) (by kernel_rfl) (by kernel_rfl)
   (by rw [MakeChecks.laidMetH_plain _ _ _ (by kernel_rfl)]; exact laidMet_laidAll _ (by kernel_rfl) (by kernel_rfl))) ?_
 intro W base args ds gs before hval0 hW _ _ hL _
 have hZ := q17 hL
 have hval : ∀ (j : Nat) t v, Tryz.f5.params[j]? = some t → args[j]? = some v → Value.okWide Tryz.prog W .any base t v := hval0
 have hW' := hW
 obtain ⟨p, q, hA0, hV, rfl, hfz, hnd⟩ := hW
 have hA : DataW.TrodAll enc Tryz.prog W 0 (fun _ => true) true Tryz.f5.params.toList args.toList ds p := hA0
 rw [Tryz.params5] at hA hval
 obtain ⟨v0, vs0, d0, ds0, p0, q0, hargs, rfl, rfl, h0, r0⟩ := trodAll_cons hA
 obtain ⟨v1, vs1, d1, ds1, p1, q1, rfl, rfl, rfl, h1, r1⟩ := trodAll_cons r0
 obtain ⟨v2, vs2, d2, ds2, p2, q2, rfl, rfl, rfl, h2, r2⟩ := trodAll_cons r1
 obtain ⟨rfl, rfl, rfl⟩ := trodAll_nil r2
 obtain rfl : args = #[v0, v1, v2] := by cases args; simp_all
 obtain ⟨rfl, rfl⟩ := trodVars_none hV
 have k0 := h0
 have lt0 : ∀ x ∈ p0, x.block < W.heap.size := by obtain ⟨m, hm⟩ := k0; exact DataW.trod_lt m _ _ _ hm
 obtain ⟨a0, e0, b0⟩ := qo6 Tryz.underlying22 Tryz.underlying3 (by kernel_rfl) (hval 0 22 v0 rfl rfl) h0
 have k1 := h1
 have lt1 : ∀ x ∈ p1, x.block < W.heap.size := by obtain ⟨m, hm⟩ := k1; exact DataW.trod_lt m _ _ _ hm
 obtain ⟨a1, e1, b1⟩ := qqg Tryz.underlying53 Tryz.underlying54 (by kernel_rfl) (by kernel_rfl) (by kernel_rfl) (by kernel_rfl) (by kernel_rfl) (by kernel_rfl) (by kernel_rfl) (by kernel_rfl) (by kernel_rfl) (hval 1 53 v1 rfl rfl) h1
 have k2 := h2
 have lt2 : ∀ x ∈ p2, x.block < W.heap.size := by obtain ⟨m, hm⟩ := k2; exact DataW.trod_lt m _ _ _ hm
 obtain ⟨L2, e2, l2, z2⟩ := qok Tryz.underlying45 Tryz.underlying5 (by kernel_rfl) (hval 2 45 v2 rfl rfl) h2
 clear hA0 hval0
 refine ⟨_, shiftandFinds_walk (w := W) hZ e0 b0 e1 b1 e2 l2, fun v W' ht ⟨τ, d, hv, hl⟩ => ?_⟩
 have hoff : Off Nob W W' := ⟨hl.os, ht, hl.output, hl.size, fun k hk _ => hl.block k hk⟩
 have bel := hoff.belowNob
 subst hv
 exact ⟨_, _, _, [], _, [], hW', trodAll_mk1 (shut_bool Tryz.underlying4 _), (trodAll_cons_mk (Below.trod laidOut (by kernel_rfl) (of_decide_eq_true (by kernel_rfl)) k0 bel lt0) (trodAll_cons_mk (Below.trod laidOut (by kernel_rfl) (of_decide_eq_true (by kernel_rfl)) k1 bel lt1) (trodAll_cons_mk (Below.trod laidOut (by kernel_rfl) (of_decide_eq_true (by kernel_rfl)) k2 bel lt2) trodAll_mk0))), rfl, bel.frame _, fun h => by cases h⟩
theorem over : Rows.shiftandFindsRow.holds Tryz.pinned (OpenSpec.ofChange Rows.shiftandFindsSpec) :=
 OpenClaim.holds_of_wide_leaving 5 Tryz.f5 rfl rfl rfl rfl rfl rfl rfl ⟨rfl, rfl, rfl, rfl, rfl⟩ rfl rfl rfl rfl rfl (by kernel_rfl) Tryz.func5 (by kernel_rfl)
  (of_decide_eq_true (by kernel_rfl)) (by unfold Func.isWrapper; first | (rw [if_pos (by decide +kernel)]; kernel_rfl) | (rw [if_neg (by decide +kernel)]; exact ⟨rfl, rfl⟩))
  (fun os started H enc _ => q19 os started H enc)
theorem proved : Rows.ShiftandFindsCardSaid :=
 qic .later [] [.data] true (true, "d7131a8387f1644c2d338b128761ad6af079cc5c22ccc5d6e3db0b880232634f") false over (fun _ h => by cases h) (by kernel_rfl) (fun _ h => by cases h) shiftandFinds_row_tie rfl ⟨rfl, rfl⟩ (by kernel_rfl) rfl
  (fun f fn hf hfn => by
   obtain rfl : f = 5 := Option.some.inj (hf.symm.trans (show Tryz.prog.funcNamed "dragnet/dragnetlaw20.ShiftandFinds" = some 5 by kernel_rfl))
   obtain rfl : fn = Tryz.f5 := Option.some.inj (hfn.symm.trans Tryz.func5)
   refine ⟨by kernel_rfl, fun j t ht => ?_⟩
   have h := show (Tryz.f5.params.toList.all fun t => !Tryz.prog.wantsStandIn t) = true by kernel_rfl
   rw [← Array.getElem?_toList] at ht
   have h2 := List.all_eq_true.1 h t (List.mem_of_getElem? ht)
   exact Bool.not_eq_true' _ ▸ h2)
  (by kernel_rfl)
#print axioms proved
end Go.Proofs.YtlgjaefcfnndhaaGreatDoor.shiftandFinds
