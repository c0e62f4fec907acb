import Derived.Test.YtedbafgejladiaaGreatSlOf
import Derived.Test.YtedbafgejladiaaGreatSlRd
import Derived.LoopN
/-
  Fill, Wipe, Read and Write of slots and of dragnetref22: what they answer where nothing is done.
-/
namespace Go.Proofs.YtedbafgejladiaaGreat
open Go.RowKit Go.Shelf
attribute [local go_sem] Oper.semAt_some
set_option linter.unusedVariables false
set_option linter.unusedSimpArgs false
set_option maxRecDepth 100000
theorem read_c (q : Option Addr) (base n c : Int) (hc : c ≠ 0)  (w : World) (H : ∀ w', Off Nob w w' → Calls Tryz.prog 61 #[.pointer q, .int .i64 base, .int .i64 n] w' fun e w'' => e = .returned (.int .i64 c) ∧ w' = w'') :
    Calls Tryz.prog 21 #[.pointer q, .int .i64 base, .int .i64 n] w fun e w' => e = .returned (.tuple #[.slice none 0 0, .int .i64 c]) ∧ Off Nob w w' := by
  have H1 := Lib.hid (H _ (Off.alloc (Off.refl _ w) (.cells #[.pointer q] 30)))
  have hz2 : (c == 0) = false := by simpa using hc
  have hz3 : (c != 0) = true := by simpa using hc
  clear hc H
  go_enter Tryz.func21, Tryz.ntmps21
  go_wp2_with fail
  refine H1.out.mono ?_
  rintro e w' ⟨rfl, rfl⟩
  go_wp2_with fail
  go_ret2
  exact ⟨rfl, Off.alloc (Off.refl _ _) _⟩
theorem write_c (q : Option Addr) (base c : Int) (A : Option Addr) (n cc : Nat) (hn : n ≤ maxLen) (hc : c ≠ 0) (w : World) (H : ∀ w', Off Nob w w' → Calls Tryz.prog 61 #[.pointer q, .int .i64 base, .int .i64 (n : Int)] w' fun e w'' => e = .returned (.int .i64 c) ∧ w' = w'') :
    Calls Tryz.prog 17 #[.pointer q, .int .i64 base, .slice A n cc] w fun e w' => e = .returned (.int .i64 c) ∧ Off Nob w w' := by
  have H1 := Lib.hid (H _ (Off.alloc (Off.alloc (Off.refl _ w) (.cells #[.pointer q] 30)) (.cells #[.slice A n cc] 22)))
  have hz2 : (c == 0) = false := by simpa using hc
  have hz3 : (c != 0) = true := by simpa using hc
  unfold maxLen at hn
  clear hc H
  go_enter Tryz.func17, Tryz.ntmps17
  go_wp2_with fail
  refine H1.out.mono ?_
  rintro e w' ⟨rfl, rfl⟩
  go_wp2_with fail
  go_ret
  exact ⟨rfl, Off.alloc (Off.alloc (Off.refl _ _) _) _⟩
theorem rread_c (q : Option Addr) (base n c : Int) (hc : c ≠ 0)  (w : World) (H : ∀ w', Off Nob w w' → Calls Tryz.prog 68 #[.pointer q, .int .i64 base, .int .i64 n, .int .i64 3] w' fun e w'' => e = .returned (.int .i64 c) ∧ w' = w'') :
    Calls Tryz.prog 25 #[.pointer q, .int .i64 base, .int .i64 n] w fun e w' => e = .returned (.tuple #[.slice none 0 0, .int .i64 c]) ∧ Off Nob w w' := by
  have H1 := Lib.hid (H w (Off.refl _ _))
  have hz2 : (c == 0) = false := by simpa using hc
  have hz3 : (c != 0) = true := by simpa using hc
  clear hc H
  go_enter Tryz.func25, Tryz.ntmps25
  go_wp2_with fail
  refine H1.out.mono ?_
  rintro e w' ⟨rfl, rfl⟩
  go_wp2_with fail
  go_ret2
  exact ⟨rfl, Off.refl _ _⟩
theorem rwrite_c (q : Option Addr) (base c : Int) (A : Option Addr) (n cc : Nat) (hn : n ≤ maxLen) (hc : c ≠ 0) (w : World) (H : ∀ w', Off Nob w w' → Calls Tryz.prog 68 #[.pointer q, .int .i64 base, .int .i64 (n : Int), .int .i64 3] w' fun e w'' => e = .returned (.int .i64 c) ∧ w' = w'') :
    Calls Tryz.prog 24 #[.pointer q, .int .i64 base, .slice A n cc] w fun e w' => e = .returned (.int .i64 c) ∧ Off Nob w w' := by
  have H1 := Lib.hid (H w (Off.refl _ _))
  have hz2 : (c == 0) = false := by simpa using hc
  have hz3 : (c != 0) = true := by simpa using hc
  unfold maxLen at hn
  clear hc H
  go_enter Tryz.func24, Tryz.ntmps24
  go_wp2_with fail
  refine H1.out.mono ?_
  rintro e w' ⟨rfl, rfl⟩
  go_wp2_with fail
  refine wp_loop_rounds 1 ?_
  rw [rounds_succ]
  go_wp2_with fail
  all_goals
    go_ret
    exact ⟨rfl, Off.refl _ _⟩
end Go.Proofs.YtedbafgejladiaaGreat

