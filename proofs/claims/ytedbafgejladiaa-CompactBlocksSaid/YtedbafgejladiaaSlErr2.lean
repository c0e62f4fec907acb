import Derived.Test.YtedbafgejladiaaRef22F
import Derived.Test.YtedbafgejladiaaSlRd
import Derived.LoopN
/-
  Fill, Wipe, Read and Write of slots and of dragnetref22: what they answer where nothing is done.
-/
namespace Go.Proofs.Ytedbafgejladiaa
open Go.RowKit Go.Shelf
attribute [local go_sem] Oper.semAt_some
set_option linter.unusedVariables false
set_option linter.unusedSimpArgs false
set_option maxRecDepth 100000
theorem read_c (q : Option Addr) (base n c : Int) (hc : c ≠ 0)  (w : World) (H : ∀ w', Off Nob w w' → Calls Try.prog 26 #[.pointer q, .int .i64 base, .int .i64 n] w' fun e w'' => e = .returned (.int .i64 c) ∧ w' = w'') :
    Calls Try.prog 14 #[.pointer q, .int .i64 base, .int .i64 n] w fun e w' => e = .returned (.tuple #[.slice none 0 0, .int .i64 c]) ∧ Off Nob w w' := by
  have H1 := Lib.hid (H _ (Off.alloc (Off.refl _ w) (.cells #[.pointer q] 29)))
  have hz2 : (c == 0) = false := by simpa using hc
  have hz3 : (c != 0) = true := by simpa using hc
  clear hc H
  go_enter Try.func14, Try.ntmps14
  go_wp2_with fail
  refine H1.out.mono ?_
  rintro e w' ⟨rfl, rfl⟩
  go_wp2_with fail
  go_ret2
  exact ⟨rfl, Off.alloc (Off.refl _ _) _⟩
theorem write_c (q : Option Addr) (base c : Int) (A : Option Addr) (n cc : Nat) (hn : n ≤ maxLen) (hc : c ≠ 0) (w : World) (H : ∀ w', Off Nob w w' → Calls Try.prog 26 #[.pointer q, .int .i64 base, .int .i64 (n : Int)] w' fun e w'' => e = .returned (.int .i64 c) ∧ w' = w'') :
    Calls Try.prog 9 #[.pointer q, .int .i64 base, .slice A n cc] w fun e w' => e = .returned (.int .i64 c) ∧ Off Nob w w' := by
  have H1 := Lib.hid (H _ (Off.alloc (Off.alloc (Off.refl _ w) (.cells #[.pointer q] 29)) (.cells #[.slice A n cc] 27)))
  have hz2 : (c == 0) = false := by simpa using hc
  have hz3 : (c != 0) = true := by simpa using hc
  unfold maxLen at hn
  clear hc H
  go_enter Try.func9, Try.ntmps9
  go_wp2_with fail
  refine H1.out.mono ?_
  rintro e w' ⟨rfl, rfl⟩
  go_wp2_with fail
  go_ret
  exact ⟨rfl, Off.alloc (Off.alloc (Off.refl _ _) _) _⟩
end Go.Proofs.Ytedbafgejladiaa

