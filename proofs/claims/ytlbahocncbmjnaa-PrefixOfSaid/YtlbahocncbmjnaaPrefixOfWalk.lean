/-
  The walk of dragnetlaw23.PrefixOf.
-/
import Derived.Test.YtlbahocncbmjnaaAwake23
import Derived.Test.YtlbahocncbmjnaaOpen
namespace Go.Proofs.Ytlbahocncbmjnaa
open Go.RowKit
set_option linter.unusedVariables false
set_option maxRecDepth 100000
set_option maxHeartbeats 2000000 in
theorem prefixOf_small {w : World} {v : Value} {n : Nat} {l : List Bool} (h : Rd w (Old w) 1 v n (boolsV l)) (hn : n ≤ 300) : Calls Try.prog 3 #[v] w (BoolNew true w) := by
  have H := Lib.hid h
  obtain ⟨A, c, rfl, _⟩ := h.form
  have hd : decide (300 < (n : Int)) = false := by simp; omega
  clear h
  go_enter Try.func3, Try.ntmps3
  go_wp2_with fail
  refine (pof_any H.out (by omega)).mono ?_
  rintro e w1 ⟨x, y, rfl, h1⟩
  have T1 := Lib.hid h1
  clear h1
  go_wp2_with fail
  refine (rof_any (H.out.keep T1.out.off (fun _ _ h => h)) (by omega)).mono ?_
  rintro e w2 ⟨x2, y2, rfl, h2⟩
  have RX := Lib.hid (T1.out.rd1.keep h2.off (fun _ _ h => h))
  have RY := Lib.hid (T1.out.rd2.keep h2.off (fun _ _ h => h))
  have SX := Lib.hid h2.rd1
  have SY := Lib.hid h2.rd2
  have O2 := Lib.hid (T1.out.off.also h2.off)
  clear h2 T1
  obtain ⟨xa, xc, hxf, _⟩ := RX.out.form
  obtain ⟨ya, yc, hyf, _⟩ := RY.out.form
  obtain ⟨ua, uc, huf, _⟩ := SX.out.form
  obtain ⟨va, vc, hvf, _⟩ := SY.out.form
  subst hxf hyf huf hvf
  go_wp2_with fail
  refine (ints_same RX.out SX.out).mono ?_
  rintro e w3 ⟨rfl, o3⟩
  have RY3 := Lib.hid (RY.out.keep o3 (fun _ _ h => h))
  have SY3 := Lib.hid (SY.out.keep o3 (fun _ _ h => h))
  have O3 := Lib.hid (O2.out.also o3)
  clear o3 RX RY SX SY O2
  go_wp2_with fail
  refine (ints_same RY3.out SY3.out).mono ?_
  rintro e w4 ⟨rfl, o4⟩
  have O4 := Lib.hid (O3.out.also o4)
  clear o4 RY3 SY3 O3
  go_wp2_with fail
  refine (awake_ok _).mono ?_
  rintro e w5 ⟨rfl, o5⟩
  have O5 := Lib.hid (O4.out.also o5)
  clear o5
  go_wp2
  go_ret
  exact ⟨rfl, O5.out⟩
theorem prefixOf_long {w : World} (A : Option Addr) (n c : Nat) (hn : 300 < n) (h1 : n ≤ maxLen) : Calls Try.prog 3 #[.slice A n c] w (BoolNew true w) := by
  unfold maxLen at h1
  have hd : decide (300 < (n : Int)) = true := by simp; omega
  go_enter Try.func3, Try.ntmps3
  go_wp2_with fail
  refine (awake_ok _).mono ?_
  rintro e w5 ⟨rfl, o5⟩
  have O5 := Lib.hid o5
  clear o5
  go_wp2
  go_ret
  exact ⟨rfl, O5.out⟩
theorem prefixOf_walk {w : World} {v : Value} {n : Nat} {l : List Bool} (h : Rd w (Old w) 1 v n (boolsV l)) : Calls Try.prog 3 #[v] w (BoolNew true w) := by
  by_cases hn : n ≤ 300
  · exact prefixOf_small h hn
  · obtain ⟨A, c, rfl, hm, _⟩ := h.form
    exact prefixOf_long A n c (by omega) hm

end Go.Proofs.Ytlbahocncbmjnaa
