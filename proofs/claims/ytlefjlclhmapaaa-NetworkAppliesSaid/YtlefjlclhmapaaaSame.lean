/-
  dragnetlaw07.Same of two arenas that have the same cells and steps.
-/
import Derived.Test.YtlefjlclhmapaaaRefEv
namespace Go.Proofs.Ytlefjlclhmapaaa
open Go.RowKit
set_option maxRecDepth 100000
set_option maxHeartbeats 1000000 in
theorem same_ok {w : World} {F R : Nat → Prop} {p r : Nat} {C : List (BitVec 64)} {E : List Ev} (h : Ar w F p C E) (k : Rf w R r C E) :
    Calls Try.prog 33 #[.pointer (some ⟨p, 0, none⟩), .pointer (some ⟨r, 0, none⟩)] w (BoolNew true w) := by
  have H := Lib.hid h
  have K := Lib.hid k
  clear h k
  go_enter Try.func33, Try.ntmps33
  go_wp2_with fail
  refine (cells_ok H.out).mono ?_
  rintro e w1 ⟨v1, rfl, h1, o1⟩
  have H1 := Lib.hid (H.out.keep o1 (fun _ _ h => h))
  have K1 := Lib.hid (K.out.keep o1 (fun _ _ h => h))
  have V1 := Lib.hid (NewU.rd h1)
  have O1 := Lib.hid o1
  clear h1 o1 H K
  go_wp2_with fail
  refine (rcells_ok K1.out).mono ?_
  rintro e w2 ⟨v2, rfl, h2, o2⟩
  have H2 := Lib.hid (H1.out.keep o2 (fun _ _ h => h))
  have K2 := Lib.hid (K1.out.keep o2 (fun _ _ h => h))
  have V2 := Lib.hid (V1.out.keep o2 (fun _ _ h => h))
  have U2 := Lib.hid (NewU.rd h2)
  have O2 := Lib.hid (O1.out.also o2)
  clear h2 o2 H1 K1 V1 O1
  go_wp2_with fail
  refine Calls.mono (R := BoolNew true w2) (by have := sameCells_any V2.out U2.out; rwa [show sameB C C = true by simp [sameB]] at this) ?_
  rintro e w3 ⟨rfl, o3⟩
  have H3 := Lib.hid (H2.out.keep o3 (fun _ _ h => h))
  have K3 := Lib.hid (K2.out.keep o3 (fun _ _ h => h))
  have O3 := Lib.hid (O2.out.also o3)
  clear o3 H2 K2 V2 U2 O2
  go_wp2_with fail
  refine (events_ok H3.out).mono ?_
  rintro e w4 ⟨v4, rfl, h4, o4⟩
  have K4 := Lib.hid (K3.out.keep o4 (fun _ _ h => h))
  have V4 := Lib.hid (NewE.rd h4)
  have O4 := Lib.hid (O3.out.also o4)
  clear h4 o4 H3 K3 O3
  go_wp2_with fail
  refine (revents_ok K4.out).mono ?_
  rintro e w5 ⟨v5, rfl, h5, o5⟩
  have V5 := Lib.hid (V4.out.keep o5 (fun _ _ h => h))
  have U5 := Lib.hid (NewE.rd h5)
  have O5 := Lib.hid (O4.out.also o5)
  clear h5 o5 K4 V4 O4
  go_wp2_with fail
  refine Calls.mono (R := BoolNew true w5) (by have := sameEvents_any V5.out U5.out; rwa [show sameEB E E = true by simp [sameEB]] at this) ?_
  rintro e w6 ⟨rfl, o6⟩
  have O6 := Lib.hid (O5.out.also o6)
  clear o6
  go_wp2
  go_ret
  exact ⟨rfl, O6.out⟩
end Go.Proofs.Ytlefjlclhmapaaa
