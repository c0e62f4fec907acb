/-
  The walk of dragnetlaw10.CountersFlags.
-/
import Derived.Test.YtoobgfammippfaaAwake10
import Derived.Test.YtoobgfammippfaaOpen
namespace Go.Proofs.Ytoobgfammippfaa
open Go.RowKit
set_option maxRecDepth 100000
theorem chRes_ok (C : List (BitVec 64)) (E : List Ev) (x : Nat) (g : BitVec 64 → BitVec 64) (hx : x < C.length) (he : E.length + 2 ≤ 8388608) :
    chRes C E x g = ((cl C x, 0), (C.set x (g (cl C x)), E ++ [(1, x), (2, x)])) := by
  unfold chRes
  rw [if_pos ⟨by omega, by omega⟩, if_pos he, Int.toNat_natCast]
theorem stick_one {w0 w : World} {p : Nat} {E : List Ev} (a b : Bool) (h : Have w0 w p [msk a] E) (he : E.length + 2 ≤ 8388608) :
    Calls Try.prog 18 #[.pointer (some ⟨p, 0, none⟩), .int .i64 0, .int .u64 (n64 (msk b))] w fun e w' => e = .returned (.int .i64 0) ∧ Have w0 w' p [msk (a || b)] (E ++ [(1, 0), (2, 0)]) :=
  stick_at h 0 (msk b) (msk a) 0 (isM_msk b) (by have := chRes_ok [msk a] E 0 (fun v => v ||| msk b) (by simp) he; rw [← msk_or]; exact this)
theorem take_one {w0 w : World} {p : Nat} {E : List Ev} (a : Bool) (h : Have w0 w p [msk a] E) (he : E.length + 2 ≤ 8388608) :
    Calls Try.prog 21 #[.pointer (some ⟨p, 0, none⟩), .int .i64 0] w fun e w' => e = .returned (.tuple #[.int .u64 (n64 (msk a)), .int .i64 0]) ∧ Have w0 w' p [msk false] (E ++ [(1, 0), (2, 0)]) :=
  take_at h 0 (msk a) 0 (chRes_ok [msk a] E 0 (fun _ => 0) (by simp) he)
/-- Cells of an arena of one's own, held against a list that was written out. -/
theorem cells_same {w0 w : World} {p : Nat} {C : List (BitVec 64)} {E : List Ev} (h : Have w0 w p C E) :
    Calls Try.prog 20 #[.pointer (some ⟨p, 0, none⟩)] w fun e w' => ∃ v, e = .returned v ∧ Have w0 w' p C E ∧ Rd w' (fun k => w.heap.size ≤ k ∧ k < w'.heap.size) 1 v C.length (u64s C) := by
  obtain ⟨F, hF⟩ := h.ar
  exact (cells_ok hF).mono fun e w' ⟨v, he, hv, ho⟩ => ⟨v, he, h.off ho, NewU.rd hv⟩

/-- Whether the flag is set behind k masks. -/
def isAt (was : Bool) (l : List Bool) (k : Nat) : Bool := was || (l.take k).any id
def FlagRel (w : World) (p : Nat) (was : Bool) (l : List Bool) (k : Nat) (wr : World) : Prop := ∃ E : List Ev, E.length = 1 + 2 * k ∧ Have w wr p [msk (isAt was l k)] E
theorem any_take (l : List Bool) (k : Nat) (h : k < l.length) : (l.take (k + 1)).any id = ((l.take k).any id || l.getD k false) := by
  rw [List.take_succ_eq_append_getElem h, List.any_append]
  simp [List.getD, h]
theorem isAt_succ (was : Bool) (l : List Bool) (k : Nat) (h : k < l.length) : isAt was l (k + 1) = (isAt was l k || l.getD k false) := by unfold isAt; rw [any_take _ _ h, Bool.or_assoc]
theorem isAt_zero (was : Bool) (l : List Bool) : isAt was l 0 = was := by simp [isAt]
theorem one_lit (w : World) (x : BitVec 64) : Calls Try.prog 17 #[.slice (some ⟨w.heap.size, 0, none⟩) 1 1] (w.alloc (.cells #[.int .u64 (n64 x)] 22)) fun e w' => ∃ p r, e = .returned (.tuple #[.pointer (some ⟨p, 0, none⟩), .pointer (some ⟨r, 0, none⟩)]) ∧ Have w w' p [x] [(2, 0)] := by
  refine (arena_any (C := [x]) (Rd.lit w 22 [x] (by unfold maxLen; simp)) (by simp)).mono fun e w' h => ?_
  obtain ⟨p, r, he, F, h1, h2, h3⟩ := h.have_
  exact ⟨p, r, he, F, h1, (Off.alloc (Off.refl _ _) _).also h2, fun k hk => by have := h3 k hk; simp at this; omega⟩

set_option maxHeartbeats 4000000
theorem flags_false {w : World} (A : Option Addr) (n c : Nat) (l : List Bool) (hl : l.length = n) (hn : n ≤ 300)
    (hc : 0 < n → ∃ b o, A = some ⟨b, o, none⟩ ∧ b < w.heap.size ∧ ∀ j, j < n → w.cell? ⟨b, o + j, none⟩ = some (.bool (l.getD j false))) :
    Calls Try.prog 4 #[.bool false, .slice A n c] w (BoolNew true w) := by
  have HL := Lib.hid hl
  have HC := Lib.hid hc
  clear hl hc
  have hd : decide (300 < (n : Int)) = false := by simp; omega
  go_enter Try.func4, Try.ntmps4
  go_wp2_with fail
  refine (one_lit w 0#64).mono ?_
  rintro e w1 ⟨p, r, rfl, h1⟩
  have H1 : Hid (FlagRel w p false l 0 w1) := ⟨_, rfl, by rw [isAt_zero]; exact h1⟩
  clear h1
  go_wp2_with fail
  go_loopw [5, 9] (fun s i wr => ∃ k : Nat, k ≤ n ∧ i = .int .i64 k ∧ s = .bool (isAt false l k) ∧ FlagRel w p false l k wr) (fun _ i _ => n - (intOf i).toNat)
  case atStart => exact ⟨0, Nat.zero_le _, rfl, by rw [isAt_zero], H1.out⟩
  case round =>
    obtain ⟨k, hk, rfl, rfl, hrel⟩ := hrel
    by_cases hlt : k < n
    · obtain ⟨b, o, hA, hb, hcell⟩ := HC.out (by omega)
      subst hA
      obtain ⟨E, hE, hH⟩ := hrel
      have hkl : k < l.length := by have := HL.out; omega
      have hc1 : wr.cell? ⟨b, o + k, none⟩ = some (.bool (l.getD k false)) := (World.cell?_of_block (a := ⟨b, o + k, none⟩) (hH.old.block b hb (fun h => h))).trans (hcell k hlt)
      have HE := Lib.hid hE
      have HH := Lib.hid hH
      clear hE hH hcell H1
      cases hi : isAt false l k <;> cases hbt : l.getD k false <;> rw [hi] at HH <;> rw [hbt] at hc1 <;> have HI := Lib.hid hi <;> have HB := Lib.hid hbt <;> clear hi hbt
      · go_wp2_with fail
        refine (stick_one false false HH.out (by have := HE.out; omega)).mono ?_
        rintro e w2 ⟨rfl, h2⟩
        have H2 := Lib.hid h2
        clear h2
        go_wp2_with fail
        refine (cells_same H2.out).mono ?_
        rintro e w3 ⟨v, rfl, h3, hv⟩
        have H3 := Lib.hid h3
        have HV := Lib.hid (Rd.keep hv (Off.alloc (Off.refl Nob w3) (.cells #[.int .u64 0] 22)) (fun _ _ h => h))
        have HQ := Lib.hid (Rd.lit w3 22 [0#64] (by decide))
        clear h3 hv H2
        go_wp2_with fail
        refine Calls.mono (R := BoolNew true (w3.alloc (.cells #[.int .u64 0] 22))) (sameCells_any HV.out HQ.out) ?_
        rintro e w4 ⟨rfl, o4⟩
        have H4 : Hid (FlagRel w p false l (k + 1) w4) := by
          refine ⟨E ++ [(1, 0), (2, 0)], ?_, ?_⟩
          · have := HE.out; simp; omega
          · have := H3.out.off ((Off.alloc (Off.refl _ _) _).also o4)
            rw [isAt_succ _ _ _ hkl, HI.out, HB.out]
            exact this
        clear o4 H3 HV HQ
        go_wp2_with fail
        go_roundw
        case rel => exact ⟨k + 1, by omega, by go_num, by rw [isAt_succ _ _ _ hkl, HI.out, HB.out]; rfl, H4.out⟩
        case measure => simp [intOf]; omega
      · go_wp2_with fail
        refine (stick_one false true HH.out (by have := HE.out; omega)).mono ?_
        rintro e w2 ⟨rfl, h2⟩
        have H2 := Lib.hid h2
        clear h2
        go_wp2_with fail
        refine (cells_same H2.out).mono ?_
        rintro e w3 ⟨v, rfl, h3, hv⟩
        have H3 := Lib.hid h3
        have HV := Lib.hid (Rd.keep hv (Off.alloc (Off.refl Nob w3) (.cells #[.int .u64 18446744073709551615] 22)) (fun _ _ h => h))
        have HQ := Lib.hid (Rd.lit w3 22 [18446744073709551615#64] (by decide))
        clear h3 hv H2
        go_wp2_with fail
        refine Calls.mono (R := BoolNew true (w3.alloc (.cells #[.int .u64 18446744073709551615] 22))) (sameCells_any HV.out HQ.out) ?_
        rintro e w4 ⟨rfl, o4⟩
        have H4 : Hid (FlagRel w p false l (k + 1) w4) := by
          refine ⟨E ++ [(1, 0), (2, 0)], ?_, ?_⟩
          · have := HE.out; simp; omega
          · have := H3.out.off ((Off.alloc (Off.refl _ _) _).also o4)
            rw [isAt_succ _ _ _ hkl, HI.out, HB.out]
            exact this
        clear o4 H3 HV HQ
        go_wp2_with fail
        go_roundw
        case rel => exact ⟨k + 1, by omega, by go_num, by rw [isAt_succ _ _ _ hkl, HI.out, HB.out]; rfl, H4.out⟩
        case measure => simp [intOf]; omega
      · go_wp2_with fail
        refine (stick_one true false HH.out (by have := HE.out; omega)).mono ?_
        rintro e w2 ⟨rfl, h2⟩
        have H2 := Lib.hid h2
        clear h2
        go_wp2_with fail
        refine (cells_same H2.out).mono ?_
        rintro e w3 ⟨v, rfl, h3, hv⟩
        have H3 := Lib.hid h3
        have HV := Lib.hid (Rd.keep hv (Off.alloc (Off.refl Nob w3) (.cells #[.int .u64 18446744073709551615] 22)) (fun _ _ h => h))
        have HQ := Lib.hid (Rd.lit w3 22 [18446744073709551615#64] (by decide))
        clear h3 hv H2
        go_wp2_with fail
        refine Calls.mono (R := BoolNew true (w3.alloc (.cells #[.int .u64 18446744073709551615] 22))) (sameCells_any HV.out HQ.out) ?_
        rintro e w4 ⟨rfl, o4⟩
        have H4 : Hid (FlagRel w p false l (k + 1) w4) := by
          refine ⟨E ++ [(1, 0), (2, 0)], ?_, ?_⟩
          · have := HE.out; simp; omega
          · have := H3.out.off ((Off.alloc (Off.refl _ _) _).also o4)
            rw [isAt_succ _ _ _ hkl, HI.out, HB.out]
            exact this
        clear o4 H3 HV HQ
        go_wp2_with fail
        go_roundw
        case rel => exact ⟨k + 1, by omega, by go_num, by rw [isAt_succ _ _ _ hkl, HI.out, HB.out]; rfl, H4.out⟩
        case measure => simp [intOf]; omega
      · go_wp2_with fail
        refine (stick_one true true HH.out (by have := HE.out; omega)).mono ?_
        rintro e w2 ⟨rfl, h2⟩
        have H2 := Lib.hid h2
        clear h2
        go_wp2_with fail
        refine (cells_same H2.out).mono ?_
        rintro e w3 ⟨v, rfl, h3, hv⟩
        have H3 := Lib.hid h3
        have HV := Lib.hid (Rd.keep hv (Off.alloc (Off.refl Nob w3) (.cells #[.int .u64 18446744073709551615] 22)) (fun _ _ h => h))
        have HQ := Lib.hid (Rd.lit w3 22 [18446744073709551615#64] (by decide))
        clear h3 hv H2
        go_wp2_with fail
        refine Calls.mono (R := BoolNew true (w3.alloc (.cells #[.int .u64 18446744073709551615] 22))) (sameCells_any HV.out HQ.out) ?_
        rintro e w4 ⟨rfl, o4⟩
        have H4 : Hid (FlagRel w p false l (k + 1) w4) := by
          refine ⟨E ++ [(1, 0), (2, 0)], ?_, ?_⟩
          · have := HE.out; simp; omega
          · have := H3.out.off ((Off.alloc (Off.refl _ _) _).also o4)
            rw [isAt_succ _ _ _ hkl, HI.out, HB.out]
            exact this
        clear o4 H3 HV HQ
        go_wp2_with fail
        go_roundw
        case rel => exact ⟨k + 1, by omega, by go_num, by rw [isAt_succ _ _ _ hkl, HI.out, HB.out]; rfl, H4.out⟩
        case measure => simp [intOf]; omega
    · have hkn : k = n := by omega
      have HR := Lib.hid hrel
      have HK := Lib.hid hkn
      obtain ⟨E, hE, hH⟩ := hrel
      have HE := Lib.hid hE
      have HH := Lib.hid hH
      clear hE hH H1 hkn HR
      cases hi : isAt false l k <;> rw [hi] at HH <;> have HI := Lib.hid hi <;> clear hi
      · go_wp2_with fail
        refine Calls.mono (R := fun e w' => e = .returned (.tuple #[.int .u64 0, .int .i64 0]) ∧ Have w w' p [msk false] (E ++ [(1, 0), (2, 0)])) (take_one false HH.out (by have := HE.out; omega)) ?_
        rintro e w2 ⟨rfl, h2⟩
        have H2 := Lib.hid h2
        clear h2
        go_wp2_with fail
        refine Calls.mono (R := fun e w' => e = .returned (.tuple #[.int .u64 0, .int .i64 0]) ∧ Have w w' p [msk false] ((E ++ [(1, 0), (2, 0)]) ++ [(1, 0), (2, 0)])) (take_one false H2.out (by have := HE.out; simp; omega)) ?_
        rintro e w3 ⟨rfl, h3⟩
        have H3 := Lib.hid h3
        clear h3 H2
        go_wp2_with fail
        refine (awake_ok _).mono ?_
        rintro e w4 ⟨rfl, h4⟩
        have H4 := Lib.hid h4
        clear h4
        go_wp2
        go_ret
        exact ⟨rfl, H3.out.old.also H4.out⟩
      · go_wp2_with fail
        refine Calls.mono (R := fun e w' => e = .returned (.tuple #[.int .u64 18446744073709551615, .int .i64 0]) ∧ Have w w' p [msk false] (E ++ [(1, 0), (2, 0)])) (take_one true HH.out (by have := HE.out; omega)) ?_
        rintro e w2 ⟨rfl, h2⟩
        have H2 := Lib.hid h2
        clear h2
        go_wp2_with fail
        refine Calls.mono (R := fun e w' => e = .returned (.tuple #[.int .u64 0, .int .i64 0]) ∧ Have w w' p [msk false] ((E ++ [(1, 0), (2, 0)]) ++ [(1, 0), (2, 0)])) (take_one false H2.out (by have := HE.out; simp; omega)) ?_
        rintro e w3 ⟨rfl, h3⟩
        have H3 := Lib.hid h3
        clear h3 H2
        go_wp2_with fail
        refine (awake_ok _).mono ?_
        rintro e w4 ⟨rfl, h4⟩
        have H4 := Lib.hid h4
        clear h4
        go_wp2
        go_ret
        exact ⟨rfl, H3.out.old.also H4.out⟩
theorem flags_true {w : World} (A : Option Addr) (n c : Nat) (l : List Bool) (hl : l.length = n) (hn : n ≤ 300)
    (hc : 0 < n → ∃ b o, A = some ⟨b, o, none⟩ ∧ b < w.heap.size ∧ ∀ j, j < n → w.cell? ⟨b, o + j, none⟩ = some (.bool (l.getD j false))) :
    Calls Try.prog 4 #[.bool true, .slice A n c] w (BoolNew true w) := by
  have HL := Lib.hid hl
  have HC := Lib.hid hc
  clear hl hc
  have hd : decide (300 < (n : Int)) = false := by simp; omega
  go_enter Try.func4, Try.ntmps4
  go_wp2_with fail
  refine (one_lit w 18446744073709551615#64).mono ?_
  rintro e w1 ⟨p, r, rfl, h1⟩
  have H1 : Hid (FlagRel w p true l 0 w1) := ⟨_, rfl, by rw [isAt_zero]; exact h1⟩
  clear h1
  go_wp2_with fail
  go_loopw [5, 9] (fun s i wr => ∃ k : Nat, k ≤ n ∧ i = .int .i64 k ∧ s = .bool (isAt true l k) ∧ FlagRel w p true l k wr) (fun _ i _ => n - (intOf i).toNat)
  case atStart => exact ⟨0, Nat.zero_le _, rfl, by rw [isAt_zero], H1.out⟩
  case round =>
    obtain ⟨k, hk, rfl, rfl, hrel⟩ := hrel
    by_cases hlt : k < n
    · obtain ⟨b, o, hA, hb, hcell⟩ := HC.out (by omega)
      subst hA
      obtain ⟨E, hE, hH⟩ := hrel
      have hkl : k < l.length := by have := HL.out; omega
      have hc1 : wr.cell? ⟨b, o + k, none⟩ = some (.bool (l.getD k false)) := (World.cell?_of_block (a := ⟨b, o + k, none⟩) (hH.old.block b hb (fun h => h))).trans (hcell k hlt)
      have HE := Lib.hid hE
      have HH := Lib.hid hH
      clear hE hH hcell H1
      cases hi : isAt true l k <;> cases hbt : l.getD k false <;> rw [hi] at HH <;> rw [hbt] at hc1 <;> have HI := Lib.hid hi <;> have HB := Lib.hid hbt <;> clear hi hbt
      · go_wp2_with fail
        refine (stick_one false false HH.out (by have := HE.out; omega)).mono ?_
        rintro e w2 ⟨rfl, h2⟩
        have H2 := Lib.hid h2
        clear h2
        go_wp2_with fail
        refine (cells_same H2.out).mono ?_
        rintro e w3 ⟨v, rfl, h3, hv⟩
        have H3 := Lib.hid h3
        have HV := Lib.hid (Rd.keep hv (Off.alloc (Off.refl Nob w3) (.cells #[.int .u64 0] 22)) (fun _ _ h => h))
        have HQ := Lib.hid (Rd.lit w3 22 [0#64] (by decide))
        clear h3 hv H2
        go_wp2_with fail
        refine Calls.mono (R := BoolNew true (w3.alloc (.cells #[.int .u64 0] 22))) (sameCells_any HV.out HQ.out) ?_
        rintro e w4 ⟨rfl, o4⟩
        have H4 : Hid (FlagRel w p true l (k + 1) w4) := by
          refine ⟨E ++ [(1, 0), (2, 0)], ?_, ?_⟩
          · have := HE.out; simp; omega
          · have := H3.out.off ((Off.alloc (Off.refl _ _) _).also o4)
            rw [isAt_succ _ _ _ hkl, HI.out, HB.out]
            exact this
        clear o4 H3 HV HQ
        go_wp2_with fail
        go_roundw
        case rel => exact ⟨k + 1, by omega, by go_num, by rw [isAt_succ _ _ _ hkl, HI.out, HB.out]; rfl, H4.out⟩
        case measure => simp [intOf]; omega
      · go_wp2_with fail
        refine (stick_one false true HH.out (by have := HE.out; omega)).mono ?_
        rintro e w2 ⟨rfl, h2⟩
        have H2 := Lib.hid h2
        clear h2
        go_wp2_with fail
        refine (cells_same H2.out).mono ?_
        rintro e w3 ⟨v, rfl, h3, hv⟩
        have H3 := Lib.hid h3
        have HV := Lib.hid (Rd.keep hv (Off.alloc (Off.refl Nob w3) (.cells #[.int .u64 18446744073709551615] 22)) (fun _ _ h => h))
        have HQ := Lib.hid (Rd.lit w3 22 [18446744073709551615#64] (by decide))
        clear h3 hv H2
        go_wp2_with fail
        refine Calls.mono (R := BoolNew true (w3.alloc (.cells #[.int .u64 18446744073709551615] 22))) (sameCells_any HV.out HQ.out) ?_
        rintro e w4 ⟨rfl, o4⟩
        have H4 : Hid (FlagRel w p true l (k + 1) w4) := by
          refine ⟨E ++ [(1, 0), (2, 0)], ?_, ?_⟩
          · have := HE.out; simp; omega
          · have := H3.out.off ((Off.alloc (Off.refl _ _) _).also o4)
            rw [isAt_succ _ _ _ hkl, HI.out, HB.out]
            exact this
        clear o4 H3 HV HQ
        go_wp2_with fail
        go_roundw
        case rel => exact ⟨k + 1, by omega, by go_num, by rw [isAt_succ _ _ _ hkl, HI.out, HB.out]; rfl, H4.out⟩
        case measure => simp [intOf]; omega
      · go_wp2_with fail
        refine (stick_one true false HH.out (by have := HE.out; omega)).mono ?_
        rintro e w2 ⟨rfl, h2⟩
        have H2 := Lib.hid h2
        clear h2
        go_wp2_with fail
        refine (cells_same H2.out).mono ?_
        rintro e w3 ⟨v, rfl, h3, hv⟩
        have H3 := Lib.hid h3
        have HV := Lib.hid (Rd.keep hv (Off.alloc (Off.refl Nob w3) (.cells #[.int .u64 18446744073709551615] 22)) (fun _ _ h => h))
        have HQ := Lib.hid (Rd.lit w3 22 [18446744073709551615#64] (by decide))
        clear h3 hv H2
        go_wp2_with fail
        refine Calls.mono (R := BoolNew true (w3.alloc (.cells #[.int .u64 18446744073709551615] 22))) (sameCells_any HV.out HQ.out) ?_
        rintro e w4 ⟨rfl, o4⟩
        have H4 : Hid (FlagRel w p true l (k + 1) w4) := by
          refine ⟨E ++ [(1, 0), (2, 0)], ?_, ?_⟩
          · have := HE.out; simp; omega
          · have := H3.out.off ((Off.alloc (Off.refl _ _) _).also o4)
            rw [isAt_succ _ _ _ hkl, HI.out, HB.out]
            exact this
        clear o4 H3 HV HQ
        go_wp2_with fail
        go_roundw
        case rel => exact ⟨k + 1, by omega, by go_num, by rw [isAt_succ _ _ _ hkl, HI.out, HB.out]; rfl, H4.out⟩
        case measure => simp [intOf]; omega
      · go_wp2_with fail
        refine (stick_one true true HH.out (by have := HE.out; omega)).mono ?_
        rintro e w2 ⟨rfl, h2⟩
        have H2 := Lib.hid h2
        clear h2
        go_wp2_with fail
        refine (cells_same H2.out).mono ?_
        rintro e w3 ⟨v, rfl, h3, hv⟩
        have H3 := Lib.hid h3
        have HV := Lib.hid (Rd.keep hv (Off.alloc (Off.refl Nob w3) (.cells #[.int .u64 18446744073709551615] 22)) (fun _ _ h => h))
        have HQ := Lib.hid (Rd.lit w3 22 [18446744073709551615#64] (by decide))
        clear h3 hv H2
        go_wp2_with fail
        refine Calls.mono (R := BoolNew true (w3.alloc (.cells #[.int .u64 18446744073709551615] 22))) (sameCells_any HV.out HQ.out) ?_
        rintro e w4 ⟨rfl, o4⟩
        have H4 : Hid (FlagRel w p true l (k + 1) w4) := by
          refine ⟨E ++ [(1, 0), (2, 0)], ?_, ?_⟩
          · have := HE.out; simp; omega
          · have := H3.out.off ((Off.alloc (Off.refl _ _) _).also o4)
            rw [isAt_succ _ _ _ hkl, HI.out, HB.out]
            exact this
        clear o4 H3 HV HQ
        go_wp2_with fail
        go_roundw
        case rel => exact ⟨k + 1, by omega, by go_num, by rw [isAt_succ _ _ _ hkl, HI.out, HB.out]; rfl, H4.out⟩
        case measure => simp [intOf]; omega
    · have hkn : k = n := by omega
      have HR := Lib.hid hrel
      have HK := Lib.hid hkn
      obtain ⟨E, hE, hH⟩ := hrel
      have HE := Lib.hid hE
      have HH := Lib.hid hH
      clear hE hH H1 hkn HR
      cases hi : isAt true l k <;> rw [hi] at HH <;> have HI := Lib.hid hi <;> clear hi
      · go_wp2_with fail
        refine Calls.mono (R := fun e w' => e = .returned (.tuple #[.int .u64 0, .int .i64 0]) ∧ Have w w' p [msk false] (E ++ [(1, 0), (2, 0)])) (take_one false HH.out (by have := HE.out; omega)) ?_
        rintro e w2 ⟨rfl, h2⟩
        have H2 := Lib.hid h2
        clear h2
        go_wp2_with fail
        refine Calls.mono (R := fun e w' => e = .returned (.tuple #[.int .u64 0, .int .i64 0]) ∧ Have w w' p [msk false] ((E ++ [(1, 0), (2, 0)]) ++ [(1, 0), (2, 0)])) (take_one false H2.out (by have := HE.out; simp; omega)) ?_
        rintro e w3 ⟨rfl, h3⟩
        have H3 := Lib.hid h3
        clear h3 H2
        go_wp2_with fail
        refine (awake_ok _).mono ?_
        rintro e w4 ⟨rfl, h4⟩
        have H4 := Lib.hid h4
        clear h4
        go_wp2
        go_ret
        exact ⟨rfl, H3.out.old.also H4.out⟩
      · go_wp2_with fail
        refine Calls.mono (R := fun e w' => e = .returned (.tuple #[.int .u64 18446744073709551615, .int .i64 0]) ∧ Have w w' p [msk false] (E ++ [(1, 0), (2, 0)])) (take_one true HH.out (by have := HE.out; omega)) ?_
        rintro e w2 ⟨rfl, h2⟩
        have H2 := Lib.hid h2
        clear h2
        go_wp2_with fail
        refine Calls.mono (R := fun e w' => e = .returned (.tuple #[.int .u64 0, .int .i64 0]) ∧ Have w w' p [msk false] ((E ++ [(1, 0), (2, 0)]) ++ [(1, 0), (2, 0)])) (take_one false H2.out (by have := HE.out; simp; omega)) ?_
        rintro e w3 ⟨rfl, h3⟩
        have H3 := Lib.hid h3
        clear h3 H2
        go_wp2_with fail
        refine (awake_ok _).mono ?_
        rintro e w4 ⟨rfl, h4⟩
        have H4 := Lib.hid h4
        clear h4
        go_wp2
        go_ret
        exact ⟨rfl, H3.out.old.also H4.out⟩
theorem flags_long {w : World} (was : Bool) (A : Option Addr) (n c : Nat) (hn : 300 < n) (hm : n ≤ maxLen) :
    Calls Try.prog 4 #[.bool was, .slice A n c] w (BoolNew true w) := by
  unfold maxLen at hm
  have hd : decide (300 < (n : Int)) = true := by simp; omega
  go_enter Try.func4, Try.ntmps4
  go_wp2_with fail
  refine (awake_ok _).mono ?_
  rintro e w4 ⟨rfl, h4⟩
  have H4 := Lib.hid h4
  clear h4
  go_wp2
  go_ret
  exact ⟨rfl, H4.out⟩
theorem countersFlags_walk {w : World} (was : Bool) {v : Value} {n : Nat} {l : List Bool} (h : Rd w (Old w) 1 v n (boolsV l)) : Calls Try.prog 4 #[.bool was, v] w (BoolNew true w) := by
  obtain ⟨A, c, rfl, hm, hl, hc⟩ := h
  rw [boolsV, List.length_map, Nat.mul_one] at hl
  rcases Nat.lt_or_ge 300 n with h1 | h1
  · exact flags_long was A n c h1 hm
  · have hx : 0 < n → ∃ b o, A = some ⟨b, o, none⟩ ∧ b < w.heap.size ∧ ∀ j, j < n → w.cell? ⟨b, o + j, none⟩ = some (.bool (l.getD j false)) := by
      intro h0
      obtain ⟨b, o, hA, _, hb, hcell⟩ := hc h0
      exact ⟨b, o, hA, hb, fun j hj => hcell j _ (by simp [boolsV, List.getD, List.getElem?_eq_getElem (show j < l.length by omega)])⟩
    cases was
    · exact flags_false A n c l hl h1 hx
    · exact flags_true A n c l hl h1 hx
end Go.Proofs.Ytoobgfammippfaa
