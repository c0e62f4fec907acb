/-
  The walk of dragnetlaw10.CountersMany.
-/
import Derived.Test.YtoobgfammippfaaCountersFlagsWalk
namespace Go.Proofs.Ytoobgfammippfaa
open Go.RowKit
set_option maxRecDepth 100000
/-- A number, at most another. -/
def capM (x : Nat) (most : BitVec 64) : BitVec 64 := BitVec.ofNat 64 (min x most.toNat)
theorem capM_toNat (x : Nat) (most : BitVec 64) : (capM x most).toNat = min x most.toNat := by
  unfold capM; have := most.isLt; rw [BitVec.toNat_ofNat, Nat.mod_eq_of_lt (by omega)]
theorem capM_add (x y : Nat) (b most : BitVec 64) (hb : b.toNat = y) : sumM (capM x most) b most = capM (x + y) most := by
  apply BitVec.eq_of_toNat_eq
  rw [sumM_toNat, capM_toNat, capM_toNat, hb]
  omega
theorem capM_zero (most : BitVec 64) : capM 0 most = 0#64 := by unfold capM; rw [Nat.zero_min]
theorem run_min_cap {P : Program} {w : World} (ts : Array TypeId) (t : TypeId) (x : Nat) (m : BitVec 64) : (Builtin.min_ ts t #[.int .u64 (x : Int), .int .u64 (n64 m)]).run P w = .ok (.int .u64 (n64 (capM x m))) w := by
  rw [run_min_int2]
  congr 2
  unfold n64
  rw [capM_toNat]
  split <;> omega
attribute [local go_sem ↓] run_min_cap
/-- How many of the first k are set. -/
def cnt (l : List Bool) (k : Nat) : Nat := ((l.take k).filter id).length
theorem cnt_zero (l : List Bool) : cnt l 0 = 0 := by simp [cnt]
theorem cnt_le (l : List Bool) (k : Nat) : cnt l k ≤ k := by
  unfold cnt
  have := List.length_filter_le id (l.take k)
  have := List.length_take_le k l
  omega
theorem cnt_succ (l : List Bool) (k : Nat) (h : k < l.length) : cnt l (k + 1) = cnt l k + (if l.getD k false = true then 1 else 0) := by
  unfold cnt
  rw [List.take_succ_eq_append_getElem h, List.filter_append, List.length_append]
  congr 1
  simp only [List.getD, List.getElem?_eq_getElem h, Option.getD_some]
  cases l[k] <;> rfl
/-- A number of the list; the sum of the first k. -/
def zat (zs : List Int) (k : Nat) : Nat := (zs.getD k 0).toNat
def zsum (zs : List Int) (k : Nat) : Nat := ((zs.take k).map Int.toNat).sum
theorem zsum_zero (zs : List Int) : zsum zs 0 = 0 := by simp [zsum]
theorem zsum_succ (zs : List Int) (k : Nat) (h : k < zs.length) : zsum zs (k + 1) = zsum zs k + zat zs k := by
  unfold zsum zat
  rw [List.take_succ_eq_append_getElem h, List.map_append, List.sum_append]
  simp only [List.getD, List.getElem?_eq_getElem h, Option.getD_some, List.map_cons, List.map_nil, List.sum_cons, List.sum_nil, Nat.add_zero]
theorem zat_lt (zs : List Int) (hw : ∀ z ∈ zs, (Lit.int .u32 z).wf = true) (k : Nat) (h : k < zs.length) : zat zs k ≤ 4294967295 ∧ zs.getD k 0 = (zat zs k : Int) := by
  have := bounds_u32 (hw zs[k] (List.getElem_mem h))
  unfold zat
  simp only [List.getD, List.getElem?_eq_getElem h, Option.getD_some]
  omega
theorem zsum_bd (zs : List Int) (M : Nat) (hM : ∀ k, k < zs.length → zat zs k ≤ M) : ∀ k, k ≤ zs.length → zsum zs k ≤ k * M := by
  intro k
  induction k with
  | zero => intro _; rw [zsum_zero]; exact Nat.zero_le _
  | succ k ih =>
    intro h
    have h1 := ih (by omega)
    have h2 := hM k (by omega)
    rw [zsum_succ _ _ (by omega), Nat.succ_mul]
    omega
theorem zsum_le (zs : List Int) (hw : ∀ z ∈ zs, (Lit.int .u32 z).wf = true) (k : Nat) (h : k ≤ zs.length) (h3 : k ≤ 300) : zsum zs k ≤ 1288490188500 := by
  have h1 := zsum_bd zs 4294967295 (fun k hk => (zat_lt zs hw k hk).1) k h
  have h2 : k * 4294967295 ≤ 300 * 4294967295 := Nat.mul_le_mul_right _ h3
  omega
def ManyRel (w : World) (p : Nat) (a b : Nat) (most : BitVec 64) (n : Nat) (wr : World) : Prop := ∃ E : List Ev, E.length = n ∧ Have w wr p [capM a most, capM b most] E
theorem count_two {w0 w : World} {p : Nat} {x y n : Nat} {most : BitVec 64} (b : Bool) (h : ManyRel w0 p x y most n w) (he : n + 2 ≤ 8388608) :
    Calls Try.prog 22 #[.pointer (some ⟨p, 0, none⟩), .int .i64 0, .int .u64 (n64 (msk b)), .int .u64 (n64 most)] w fun e w' => e = .returned (.int .i64 0) ∧ ManyRel w0 p (x + if b = true then 1 else 0) y most (n + 2) w' := by
  obtain ⟨E, rfl, h⟩ := h
  refine (count_at h 0 (msk b) most (capM x most) 0 (isM_msk b) (chRes_ok _ E 0 _ (by simp) he)).mono fun e w' ⟨h1, h2⟩ => ⟨h1, E ++ [(1, 0), (2, 0)], by simp, ?_⟩
  · have e1 : sumM (capM x most) (msk b &&& 1#64) most = capM (x + if b = true then 1 else 0) most := capM_add _ _ _ _ (by cases b <;> rfl)
    rw [← e1]
    exact h2
theorem plus_two {w0 w : World} {p : Nat} {x y z n : Nat} {most : BitVec 64} (h : ManyRel w0 p x y most n w) (he : n + 2 ≤ 8388608) (hz : z ≤ 4294967295) :
    Calls Try.prog 23 #[.pointer (some ⟨p, 0, none⟩), .int .i64 1, .int .u64 (z : Int), .int .u64 (n64 most)] w fun e w' => e = .returned (.int .i64 0) ∧ ManyRel w0 p x (y + z) most (n + 2) w' := by
  obtain ⟨E, rfl, h⟩ := h
  have hb : (BitVec.ofNat 64 z).toNat = z := by rw [BitVec.toNat_ofNat, Nat.mod_eq_of_lt (by omega)]
  have hz2 : (z : Int) = n64 (BitVec.ofNat 64 z) := by unfold n64; rw [hb]
  rw [hz2]
  refine (plus_at h 1 (BitVec.ofNat 64 z) most (capM y most) 0 (chRes_ok _ E 1 _ (by simp) he)).mono fun e w' ⟨h1, h2⟩ => ⟨h1, E ++ [(1, 1), (2, 1)], by simp, ?_⟩
  · have e1 : sumM (capM y most) (BitVec.ofNat 64 z) most = capM (y + z) most := capM_add _ _ _ _ hb
    rw [← e1]
    exact h2
theorem ManyRel.ar {w0 w : World} {p : Nat} {x y n : Nat} {most : BitVec 64} (h : ManyRel w0 p x y most n w) : ∃ E : List Ev, E.length = n ∧ Have w0 w p [capM x most, capM y most] E := h
theorem two_lit (w : World) (most : BitVec 64) : Calls Try.prog 17 #[.slice (some ⟨w.heap.size, 0, none⟩) 2 2] (w.alloc (.cells #[.int .u64 0, .int .u64 0] 22)) fun e w' => ∃ p r, e = .returned (.tuple #[.pointer (some ⟨p, 0, none⟩), .pointer (some ⟨r, 0, none⟩)]) ∧ ManyRel w p 0 0 most 2 w' := by
  refine (arena_any (C := [0#64, 0#64]) (Rd.lit w 22 [0#64, 0#64] (by unfold maxLen; simp)) (by simp)).mono fun e w' h => ?_
  obtain ⟨p, r, he, F, h1, h2, h3⟩ := h.have_
  refine ⟨p, r, he, [(2, 0), (2, 1)], rfl, F, ?_, (Off.alloc (Off.refl _ _) _).also h2, fun k hk => by have := h3 k hk; simp at this; omega⟩
  rw [capM_zero]
  exact h1

set_option maxHeartbeats 4000000
theorem many_small {w : World} (A B : Option Addr) (n c m d : Nat) (l : List Bool) (zs : List Int) (most : BitVec 64) (hl : l.length = n) (hn : n ≤ 300) (hzl : zs.length = m) (hm : m ≤ 300) (hwf : ∀ z ∈ zs, (Lit.int .u32 z).wf = true)
    (hc : 0 < n → ∃ b o, A = some ⟨b, o, none⟩ ∧ b < w.heap.size ∧ ∀ j, j < n → w.cell? ⟨b, o + j, none⟩ = some (.bool (l.getD j false)))
    (hz : 0 < m → ∃ b o, B = some ⟨b, o, none⟩ ∧ b < w.heap.size ∧ ∀ j, j < m → w.cell? ⟨b, o + j, none⟩ = some (.int .u32 (zat zs j : Int))) :
    Calls Try.prog 6 #[.slice A n c, .slice B m d, .int .u64 (n64 most)] w (BoolNew true w) := by
  have HL := Lib.hid hl
  have HC := Lib.hid hc
  have HZ := Lib.hid hz
  have HM := Lib.hid hzl
  have HW := Lib.hid hwf
  clear hl hc hz hzl hwf
  have hd : decide (300 < (n : Int)) = false := by simp; omega
  have hd2 : decide (300 < (m : Int)) = false := by simp; omega
  go_enter Try.func6, Try.ntmps6
  go_wp2_with fail
  refine (two_lit w most).mono ?_
  rintro e w1 ⟨p, r, rfl, h1⟩
  have H1 := Lib.hid h1
  clear h1
  go_wp2_with fail
  go_loopw [9, 11] (fun s i wr => ∃ k : Nat, k ≤ n ∧ i = .int .i64 k ∧ s = .int .u64 (cnt l k : Int) ∧ ManyRel w p (cnt l k) 0 most (2 + 2 * k) wr) (fun _ i _ => n - (intOf i).toNat)
  case atStart => exact ⟨0, Nat.zero_le _, rfl, by rw [cnt_zero]; rfl, by rw [cnt_zero]; exact H1.out⟩
  case round =>
    obtain ⟨k, hk, rfl, rfl, hrel⟩ := hrel
    have hcl := cnt_le l k
    by_cases hlt : k < n
    · obtain ⟨b, o, hA, hb, hcell⟩ := HC.out (by omega)
      subst hA
      have hkl : k < l.length := by have := HL.out; omega
      have hc1 : wr.cell? ⟨b, o + k, none⟩ = some (.bool (l.getD k false)) := by
        obtain ⟨E, _, hH⟩ := hrel
        exact (World.cell?_of_block (a := ⟨b, o + k, none⟩) (hH.old.block b hb (fun h => h))).trans (hcell k hlt)
      have HR := Lib.hid hrel
      have HS := Lib.hid (cnt_succ l k hkl)
      clear hrel hcell H1
      cases hbt : l.getD k false <;> rw [hbt] at hc1 <;> rw [hbt] at HS <;> have HB := Lib.hid hbt <;> clear hbt
      · go_wp2_with fail
        refine (count_two false HR.out (by omega)).mono ?_
        rintro e w2 ⟨rfl, h2⟩
        have H2 := Lib.hid h2
        clear h2
        go_wp2_with fail
        go_roundw
        case rel => exact ⟨k + 1, by omega, by go_num, by rw [HS.out]; rfl, by rw [HS.out]; exact H2.out⟩
        case measure => simp [intOf]; omega
      · go_wp2_with fail
        refine (count_two true HR.out (by omega)).mono ?_
        rintro e w2 ⟨rfl, h2⟩
        have H2 := Lib.hid h2
        clear h2
        go_wp2_with fail
        go_roundw
        case rel => exact ⟨k + 1, by omega, by go_num, by rw [HS.out]; rfl, by rw [HS.out]; exact H2.out⟩
        case measure => simp [intOf]; omega
    · obtain rfl : n = k := by omega
      have HR := Lib.hid hrel
      clear hrel H1 hlt hk
      go_wp2_with fail
      go_loopw [10, 13] (fun s i wr => ∃ k : Nat, k ≤ m ∧ i = .int .i64 k ∧ s = .int .u64 (zsum zs k : Int) ∧ ManyRel w p (cnt l n) (zsum zs k) most (2 + 2 * n + 2 * k) wr) (fun _ i _ => m - (intOf i).toNat)
      case atStart => exact ⟨0, Nat.zero_le _, rfl, by rw [zsum_zero]; rfl, by rw [zsum_zero]; exact HR.out⟩
      case round =>
        obtain ⟨k, hk, rfl, rfl, hrel⟩ := hrel
        have hsl := zsum_le zs HW.out k (by have := HM.out; omega) (by omega)
        by_cases hlt : k < m
        · obtain ⟨b, o, hB, hb, hcell⟩ := HZ.out (by omega)
          subst hB
          have hkl : k < zs.length := by have := HM.out; omega
          have hzk := (zat_lt zs HW.out k hkl).1
          have hc1 : wr.cell? ⟨b, o + k, none⟩ = some (.int .u32 (zat zs k : Int)) := by
            obtain ⟨E, _, hH⟩ := hrel
            exact (World.cell?_of_block (a := ⟨b, o + k, none⟩) (hH.old.block b hb (fun h => h))).trans (hcell k hlt)
          have HR2 := Lib.hid hrel
          have HS := Lib.hid (zsum_succ zs k hkl)
          clear hrel hcell HR
          go_wp2_with fail
          refine (plus_two HR2.out (by omega) hzk).mono ?_
          rintro e w2 ⟨rfl, h2⟩
          have H2 := Lib.hid h2
          clear h2
          go_wp2_with fail
          go_roundw
          case rel => exact ⟨k + 1, by omega, by go_num, by rw [HS.out]; go_num, by rw [HS.out]; exact H2.out⟩
          case measure => simp [intOf]; omega
        · obtain rfl : m = k := by omega
          obtain ⟨E, hE, hH⟩ := hrel
          have HE := Lib.hid hE
          have HH := Lib.hid hH
          clear hE hH HR hlt hk
          go_wp2_with fail
          refine (cells_same HH.out).mono ?_
          rintro e w3 ⟨v, rfl, h3, hv⟩
          have H3 := Lib.hid h3
          have HV := Lib.hid (Rd.keep hv (Off.alloc (Off.refl Nob w3) (.cells #[.int .u64 (n64 (capM (cnt l n) most)), .int .u64 (n64 (capM (zsum zs m) most))] 22)) (fun _ _ h => h))
          have HQ := Lib.hid (Rd.lit w3 22 [capM (cnt l n) most, capM (zsum zs m) most] (by unfold maxLen; simp))
          clear h3 hv HH
          go_wp2_with fail
          refine Calls.mono (R := BoolNew true (w3.alloc (.cells #[.int .u64 (n64 (capM (cnt l n) most)), .int .u64 (n64 (capM (zsum zs m) most))] 22))) (by have := sameCells_any HV.out HQ.out; rwa [show sameB [capM (cnt l n) most, capM (zsum zs m) most] [capM (cnt l n) most, capM (zsum zs m) most] = true by simp [sameB]] at this) ?_
          rintro e w4 ⟨rfl, o4⟩
          have H4 := Lib.hid (H3.out.off ((Off.alloc (Off.refl _ _) _).also o4))
          clear o4 H3 HV HQ
          obtain ⟨G, hG⟩ := H4.out.ar
          have HS := Lib.hid (steps_any hG)
          have hEq : ((E.length : Int) == 2 + 2 * (n : Int) + 2 * (m : Int)) = true := by rw [beq_iff_eq]; have := HE.out; omega
          clear hG
          go_wp2_with fail
          refine HS.out.mono ?_
          rintro e w' ⟨rfl, rfl⟩
          go_wp2_with fail
          refine (awake_ok _).mono ?_
          rintro e w5 ⟨rfl, h5⟩
          have H5 := Lib.hid h5
          clear h5
          go_wp2
          go_ret
          exact ⟨rfl, H4.out.old.also H5.out⟩
theorem many_long {w : World} (A B : Option Addr) (n c m d : Nat) (most : BitVec 64) (hn : 300 < n ∨ 300 < m) (h1 : n ≤ maxLen) (h2 : m ≤ maxLen) :
    Calls Try.prog 6 #[.slice A n c, .slice B m d, .int .u64 (n64 most)] w (BoolNew true w) := by
  unfold maxLen at h1 h2
  by_cases h3 : 300 < n
  · have hd : decide (300 < (n : Int)) = true := by simp; omega
    go_enter Try.func6, Try.ntmps6
    go_wp2_with fail
    refine (awake_ok _).mono ?_
    rintro e w4 ⟨rfl, h4⟩
    have H4 := Lib.hid h4
    clear h4
    go_wp2
    go_ret
    exact ⟨rfl, H4.out⟩
  · have hd : decide (300 < (n : Int)) = false := by simp; omega
    have h4 : 300 < m := by omega
    have hd2 : decide (300 < (m : Int)) = true := by simp; omega
    clear hn
    go_enter Try.func6, Try.ntmps6
    go_wp2_with fail
    refine (awake_ok _).mono ?_
    rintro e w4 ⟨rfl, h4⟩
    have H4 := Lib.hid h4
    clear h4
    go_wp2
    go_ret
    exact ⟨rfl, H4.out⟩
theorem countersMany_walk {w : World} {v u : Value} {n m : Nat} {l : List Bool} {zs : List Int} (h : Rd w (Old w) 1 v n (boolsV l)) (k : Rd w (Old w) 1 u m (zs.map (Value.int .u32))) (hw : ∀ z ∈ zs, (Lit.int .u32 z).wf = true) (most : BitVec 64) :
    Calls Try.prog 6 #[v, u, .int .u64 (n64 most)] w (BoolNew true w) := by
  obtain ⟨A, c, rfl, hm, hl, hc⟩ := h
  obtain ⟨B, d, rfl, hm2, hl2, hc2⟩ := k
  rw [boolsV, List.length_map, Nat.mul_one] at hl
  rw [List.length_map, Nat.mul_one] at hl2
  by_cases hs : n ≤ 300 ∧ m ≤ 300
  · refine many_small A B n c m d l zs most hl hs.1 hl2 hs.2 hw (fun h0 => ?_) (fun h0 => ?_)
    · obtain ⟨b, o, hA, _, hb, hcell⟩ := hc h0
      exact ⟨b, o, hA, hb, fun j hj => hcell j _ (by simp [boolsV, List.getD, List.getElem?_eq_getElem (show j < l.length by omega)])⟩
    · obtain ⟨b, o, hA, _, hb, hcell⟩ := hc2 h0
      refine ⟨b, o, hA, hb, fun j hj => hcell j _ ?_⟩
      have hj2 : j < zs.length := by omega
      rw [← (zat_lt zs hw j hj2).2]
      simp [List.getD, hj2]
  · exact many_long A B n c m d most (by omega) hm hm2
end Go.Proofs.Ytoobgfammippfaa
