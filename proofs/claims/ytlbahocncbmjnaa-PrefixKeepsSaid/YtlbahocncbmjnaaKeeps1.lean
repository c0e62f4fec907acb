/-
  PrefixKeeps: the cells that made lays.
-/
import Derived.Test.YtlbahocncbmjnaaPrefTop
namespace Go.Proofs.Ytlbahocncbmjnaa
open Go.RowKit
set_option linter.unusedVariables false
set_option maxRecDepth 100000
/-- The cells that made lays: behind k rounds. -/
def mkC (l : List Bool) (k j : Nat) : BitVec 64 :=
  if j < 3 * k then
    if j % 3 = 0 then BitVec.ofNat 64 (2 * (j / 3) + (if l.getD (j / 3) false = true then 1 else 0)) else if j % 3 = 1 then BitVec.ofNat 64 (j / 3 + 100) else BitVec.ofNat 64 (j / 3 + 500)
  else 0#64
def mkL (l : List Bool) (k : Nat) : List (BitVec 64) := (List.range (4 * l.length)).map (mkC l k)
theorem length_mkL (l : List Bool) (k : Nat) : (mkL l k).length = 4 * l.length := by simp [mkL]
theorem cl_mkL (l : List Bool) (k j : Nat) (h : j < 4 * l.length) : cl (mkL l k) j = mkC l k j := by simp [cl, mkL, List.getD, h]
theorem mkL_zero (l : List Bool) : mkL l 0 = List.replicate (4 * l.length) 0#64 := by
  apply List.ext_getElem
  · simp [mkL]
  · intro i h1 h2
    simp [mkL, mkC]
/-- A list of cells by a function. -/
def fL (n : Nat) (f : Nat → BitVec 64) : List (BitVec 64) := (List.range n).map f
theorem length_fL (n : Nat) (f : Nat → BitVec 64) : (fL n f).length = n := by simp [fL]
theorem cl_fL (n : Nat) (f : Nat → BitVec 64) (j : Nat) (h : j < n) : cl (fL n f) j = f j := by simp [cl, fL, List.getD, h]
theorem fL_set (n : Nat) (f : Nat → BitVec 64) (j : Nat) (v : BitVec 64) : (fL n f).set j v = fL n (fun x => if x = j then v else f x) := by
  apply List.ext_getElem
  · simp [fL]
  · intro i h1 h2
    rw [List.getElem_set]
    simp only [fL, List.getElem_map, List.getElem_range]
    by_cases h : j = i
    · rw [if_pos h, if_pos h.symm]
    · rw [if_neg h, if_neg (fun e => h e.symm)]
theorem fL_ext (n : Nat) (f g : Nat → BitVec 64) (h : ∀ j, j < n → f j = g j) : fL n f = fL n g := by
  unfold fL
  apply List.map_congr_left
  intro j hj
  exact h j (List.mem_range.1 hj)
theorem mkL_fL (l : List Bool) (k : Nat) : mkL l k = fL (4 * l.length) (mkC l k) := rfl

end Go.Proofs.Ytlbahocncbmjnaa
