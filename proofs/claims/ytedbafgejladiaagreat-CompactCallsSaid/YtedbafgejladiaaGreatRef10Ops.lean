import Derived.Test.YtedbafgejladiaaGreatRef10
import Derived.Test.YtedbafgejladiaaGreatCount
import Derived.Test.YtedbafgejladiaaGreatPair
/-
  dragnetref10.Count, Plus, Stick, Take, Above over the specification's arena.
-/
namespace Go.Proofs.YtedbafgejladiaaGreat
open Go.RowKit
attribute [local go_sem] bits_and_u64 bits_or_u64 bits_xor_u64 bits_andNot_u64 wrap_u64 bv_add bv_neg bv_sub bv_mul
set_option maxRecDepth 100000
/-- The error of a cell and steps. -/
def askE (nC nE : Nat) (x s : Int) : Int := if hasE nC x 1 = 0 then roomE nE s else hasE nC x 1
theorem askE_zero {nC nE : Nat} {x s : Int} (h : askE nC nE x s = 0) : 0 ≤ x ∧ x < nC ∧ nE + s ≤ 8388608 := by
  by_cases hb : 0 ≤ x ∧ x < nC
  · have e1 : hasE nC x 1 = 0 := by unfold hasE; rw [if_neg (by omega)]
    unfold askE at h
    rw [if_pos e1] at h
    unfold roomE at h
    refine ⟨hb.1, hb.2, ?_⟩
    by_cases h1 : s < 0
    · rw [if_pos h1] at h; cases h
    · rw [if_neg h1] at h
      by_cases h2 : 8388608 - (nE : Int) < s
      · rw [if_pos h2] at h; cases h
      · omega
  · have e1 : hasE nC x 1 = 7 := by unfold hasE; rw [if_pos (by omega)]
    unfold askE at h
    rw [if_neg (by rw [e1]; decide), e1] at h
    cases h
theorem askE_chRes (C : List (BitVec 64)) (E : List Ev) (x : Int) (g : BitVec 64 → BitVec 64) (h : askE C.length E.length x 2 ≠ 0) : chRes C E x g = ((0, askE C.length E.length x 2), (C, E)) := by
  by_cases hb : 0 ≤ x ∧ x < C.length
  · have e1 : hasE C.length x 1 = 0 := by unfold hasE; rw [if_neg (by omega)]
    by_cases he : E.length + 2 ≤ 8388608
    · exfalso
      apply h
      unfold askE
      rw [if_pos e1]
      unfold roomE
      rw [if_neg (by omega), if_neg (by omega)]
    · have e2 : askE C.length E.length x 2 = 3 := by
        unfold askE
        rw [if_pos e1]
        unfold roomE
        rw [if_neg (by omega), if_pos (by omega)]
      rw [e2]
      unfold chRes
      rw [if_pos hb, if_neg he]
  · have e1 : hasE C.length x 1 = 7 := by unfold hasE; rw [if_pos (by omega)]
    have e2 : askE C.length E.length x 2 = 7 := by unfold askE; rw [if_neg (by rw [e1]; decide), e1]
    rw [e2]
    unfold chRes
    rw [if_neg hb]
theorem askE_abRes (C : List (BitVec 64)) (E : List Ev) (x : Int) (k : BitVec 64) (h : askE C.length E.length x 1 ≠ 0) : abRes C E x k = ((0, askE C.length E.length x 1), (C, E)) := by
  by_cases hb : 0 ≤ x ∧ x < C.length
  · have e1 : hasE C.length x 1 = 0 := by unfold hasE; rw [if_neg (by omega)]
    by_cases he : E.length + 1 ≤ 8388608
    · exfalso
      apply h
      unfold askE
      rw [if_pos e1]
      unfold roomE
      rw [if_neg (by omega), if_neg (by omega)]
    · have e2 : askE C.length E.length x 1 = 3 := by
        unfold askE
        rw [if_pos e1]
        unfold roomE
        rw [if_neg (by omega), if_pos (by omega)]
      rw [e2]
      unfold abRes
      rw [if_pos hb, if_neg he]
  · have e1 : hasE C.length x 1 = 7 := by unfold hasE; rw [if_pos (by omega)]
    have e2 : askE C.length E.length x 1 = 7 := by unfold askE; rw [if_neg (by rw [e1]; decide), e1]
    rw [e2]
    unfold abRes
    rw [if_neg hb]
theorem chRes_yes (C : List (BitVec 64)) (E : List Ev) (x : Int) (g : BitVec 64 → BitVec 64) (h0 : 0 ≤ x) (h1 : x < C.length) (h2 : (E.length : Int) + 2 ≤ 8388608) : chRes C E x g = ((cl C x.toNat, 0), (C.set x.toNat (g (cl C x.toNat)), E ++ [(1, x.toNat), (2, x.toNat)])) := by
  unfold chRes; rw [if_pos ⟨h0, h1⟩, if_pos (by omega)]
theorem abRes_yes (C : List (BitVec 64)) (E : List Ev) (x : Int) (k : BitVec 64) (h0 : 0 ≤ x) (h1 : x < C.length) (h2 : (E.length : Int) + 1 ≤ 8388608) : abRes C E x k = ((restM (cl C x.toNat) k, 0), (C, E ++ [(1, x.toNat)])) := by
  unfold abRes; rw [if_pos ⟨h0, h1⟩, if_pos (by omega)]
def RChPost (w : World) (F : Nat → Prop) (p : Nat) (r : (BitVec 64 × Int) × (List (BitVec 64) × List Ev)) (e : Ending) (w' : World) : Prop :=
  e = .returned (.tuple #[.int .u64 (n64 r.1.1), .int .i64 r.1.2]) ∧ RfTo w F p r.2.1 r.2.2 w'
section
variable {w : World} {F : Nat → Prop} {r : Nat} {C : List (BitVec 64)} {E : List Ev}
set_option maxHeartbeats 400000 in
theorem asked_any (h : Rf w F r C E) (x s : Int) :
    Calls Tryz.prog 99 #[.pointer (some ⟨r, 0, none⟩), .int .i64 x, .int .i64 s] w fun e w' => e = .returned (.int .i64 (askE C.length E.length x s)) ∧ w = w' := by
  have HH := Lib.hid (rhas_any h x 1)
  have HR := Lib.hid (rroom_any h s)
  clear h
  by_cases hz : hasE C.length x 1 = 0
  · have HF := Lib.hid (show askE C.length E.length x s = roomE E.length s by unfold askE; rw [if_pos hz])
    have HZ := Lib.hid hz
    clear hz
    go_enter Tryz.func99, Tryz.ntmps99
    go_wp2_with fail
    refine Calls.mono (R := fun e w' => e = .returned (.int .i64 0) ∧ w = w') (by have := HH.out; rwa [HZ.out] at this) ?_
    rintro e w' ⟨rfl, rfl⟩
    go_wp2_with fail
    refine HR.out.mono ?_
    rintro e w' ⟨rfl, rfl⟩
    go_wp2
    go_ret
    exact ⟨by rw [HF.out]; rfl, rfl⟩
  · have HF := Lib.hid (show askE C.length E.length x s = hasE C.length x 1 by unfold askE; rw [if_neg hz])
    have hq : (hasE C.length x 1 == 0) = false := by rw [beq_eq_false_iff_ne]; exact hz
    clear hz
    go_enter Tryz.func99, Tryz.ntmps99
    go_wp2_with fail
    refine HH.out.mono ?_
    rintro e w' ⟨rfl, rfl⟩
    go_wp2
    go_ret
    exact ⟨by rw [HF.out]; rfl, rfl⟩
set_option maxHeartbeats 1000000 in
theorem rplusA_any (h : Rf w F r C E) (x : Int) (m k : BitVec 64) :
    Calls Tryz.prog 49 #[.pointer (some ⟨r, 0, none⟩), .int .i64 x, .int .u64 (n64 m), .int .u64 (n64 k)] w (RErPost w F r (chRes C E x (fun v => sumM v m k)).1.2 (chRes C E x (fun v => sumM v m k)).2) := by
  have H := Lib.hid h
  have HA := Lib.hid (asked_any h x 2)
  skip
  clear h
  by_cases hz : askE C.length E.length x 2 = 0
  · obtain ⟨h0, h1, h2⟩ := askE_zero hz
    have HR := Lib.hid (chRes_yes C E x (fun v => sumM v m k) h0 h1 h2)
    have HE := Lib.hid h2
    have HZ := Lib.hid hz
    clear hz h2
    go_enter Tryz.func49, Tryz.ntmps49
    go_wp2_with fail
    refine Calls.mono (R := fun e w' => e = .returned (.int .i64 0) ∧ w = w') (by have := HA.out; rwa [HZ.out] at this) ?_
    rintro e w' ⟨rfl, rfl⟩
    go_wp2_with fail
    refine (rload_ok H.out x h0 h1 (by have := HE.out; omega)).mono ?_
    rintro e w1 ⟨rfl, hw1⟩
    have H1 := Lib.hid hw1
    clear hw1
    go_wp2_with fail
    refine (rsum_any _ m k w1).mono ?_
    rintro e w2 ⟨rfl, rfl⟩
    go_wp2_with fail
    refine (rstore_ok H1.out.1 x _ h0 h1 (by have := HE.out; simp; omega)).mono ?_
    rintro e w3 ⟨rfl, hw3⟩
    have H3 := Lib.hid (H1.out.trans hw3)
    clear hw3 H1
    go_wp2
    go_ret
    rw [HR.out]
    have := H3.out
    simp only [List.append_assoc, List.cons_append, List.nil_append] at this
    exact ⟨rfl, this⟩
  · have HR := Lib.hid (askE_chRes C E x (fun v => sumM v m k) hz)
    have hq : (askE C.length E.length x 2 != 0) = true := by rw [bne_iff_ne]; exact hz
    revert HA HR hq
    generalize askE C.length E.length x 2 = c
    intro HA HR hq
    clear hz
    go_enter Tryz.func49, Tryz.ntmps49
    go_wp2_with fail
    refine (HA.out).mono ?_
    rintro e w' ⟨rfl, rfl⟩
    go_wp2_with fail
    go_ret
    rw [HR.out]
    exact ⟨rfl, RfTo.refl H.out⟩
set_option maxHeartbeats 1000000 in
theorem rstick_any (h : Rf w F r C E) (x : Int) (m : BitVec 64) (hm : isM m = true) :
    Calls Tryz.prog 50 #[.pointer (some ⟨r, 0, none⟩), .int .i64 x, .int .u64 (n64 m)] w (RErPost w F r (chRes C E x (fun v => v ||| m)).1.2 (chRes C E x (fun v => v ||| m)).2) := by
  have H := Lib.hid h
  have HA := Lib.hid (asked_any h x 2)
  have HM := Lib.hid hm
  clear h hm
  by_cases hz : askE C.length E.length x 2 = 0
  · obtain ⟨h0, h1, h2⟩ := askE_zero hz
    have HR := Lib.hid (chRes_yes C E x (fun v => v ||| m) h0 h1 h2)
    have HE := Lib.hid h2
    have HZ := Lib.hid hz
    clear hz h2
    go_enter Tryz.func50, Tryz.ntmps50
    go_wp2_with fail
    refine (ris_any m _).mono ?_
    rintro e w' ⟨rfl, rfl⟩
    rw [HM.out]
    go_wp2_with fail
    refine Calls.mono (R := fun e w' => e = .returned (.int .i64 0) ∧ w = w') (by have := HA.out; rwa [HZ.out] at this) ?_
    rintro e w' ⟨rfl, rfl⟩
    go_wp2_with fail
    refine (rload_ok H.out x h0 h1 (by have := HE.out; omega)).mono ?_
    rintro e w1 ⟨rfl, hw1⟩
    have H1 := Lib.hid hw1
    clear hw1
    go_wp2_with fail
    refine (rstore_ok H1.out.1 x _ h0 h1 (by have := HE.out; simp; omega)).mono ?_
    rintro e w3 ⟨rfl, hw3⟩
    have H3 := Lib.hid (H1.out.trans hw3)
    clear hw3 H1
    go_wp2
    go_ret
    rw [HR.out]
    have := H3.out
    simp only [List.append_assoc, List.cons_append, List.nil_append] at this
    exact ⟨rfl, this⟩
  · have HR := Lib.hid (askE_chRes C E x (fun v => v ||| m) hz)
    have hq : (askE C.length E.length x 2 != 0) = true := by rw [bne_iff_ne]; exact hz
    revert HA HR hq
    generalize askE C.length E.length x 2 = c
    intro HA HR hq
    clear hz
    go_enter Tryz.func50, Tryz.ntmps50
    go_wp2_with fail
    refine (ris_any m _).mono ?_
    rintro e w' ⟨rfl, rfl⟩
    rw [HM.out]
    go_wp2_with fail
    refine (HA.out).mono ?_
    rintro e w' ⟨rfl, rfl⟩
    go_wp2_with fail
    go_ret
    rw [HR.out]
    exact ⟨rfl, RfTo.refl H.out⟩
end
theorem rstick_arg (w : World) (a : Value) (x : Int) (m : BitVec 64) (hm : isM m = false) :
    Calls Tryz.prog 50 #[a, .int .i64 x, .int .u64 (n64 m)] w fun e w' => e = .returned (.int .i64 2) ∧ w = w' := by
  go_enter Tryz.func50, Tryz.ntmps50
  go_wp2_with fail
  refine (ris_any m _).mono ?_
  rintro e w' ⟨rfl, rfl⟩
  rw [hm]
  go_wp2
  go_ret
  exact ⟨rfl, rfl⟩
theorem asked_nil (w : World) (x s : Int) :
    Calls Tryz.prog 99 #[.pointer none, .int .i64 x, .int .i64 s] w fun e w' => e = .returned (.int .i64 1) ∧ w = w' := by
  go_enter Tryz.func99, Tryz.ntmps99
  go_wp2_with fail
  refine (rhas_nil w x 1).mono ?_
  rintro e w' ⟨rfl, rfl⟩
  go_wp2
  go_ret
  exact ⟨rfl, rfl⟩
theorem rplus_nil (w : World) (x : Int) (m k : BitVec 64) :
    Calls Tryz.prog 49 #[.pointer none, .int .i64 x, .int .u64 (n64 m), .int .u64 (n64 k)] w fun e w' => e = .returned (.int .i64 1) ∧ w = w' := by
  go_enter Tryz.func49, Tryz.ntmps49
  go_wp2_with fail
  refine (asked_nil w x 2).mono ?_
  rintro e w' ⟨rfl, rfl⟩
  go_wp2
  go_ret
  exact ⟨rfl, rfl⟩
theorem rstick_nil (w : World) (x : Int) (m : BitVec 64) (hm : isM m = true) :
    Calls Tryz.prog 50 #[.pointer none, .int .i64 x, .int .u64 (n64 m)] w fun e w' => e = .returned (.int .i64 1) ∧ w = w' := by
  go_enter Tryz.func50, Tryz.ntmps50
  go_wp2_with fail
  refine (ris_any m _).mono ?_
  rintro e w' ⟨rfl, rfl⟩
  rw [hm]
  go_wp2_with fail
  refine (asked_nil w x 2).mono ?_
  rintro e w' ⟨rfl, rfl⟩
  go_wp2
  go_ret
  exact ⟨rfl, rfl⟩
end Go.Proofs.YtedbafgejladiaaGreat

