/-
  Package slots: outside, cells, store, check, row and what goes through a row.
-/
import Derived.Test.YtonkhgmfeakbcaaSlPure
import Derived.Test.YtonkhgmfeakbcaaSeq
import Derived.Test.YtonkhgmfeakbcaaWk
import Derived.Test.YtonkhgmfeakbcaaMasks
namespace Go.Proofs.Ytonkhgmfeakbcaa
open Go.RowKit Go.Shelf
set_option linter.unusedVariables false
set_option linter.unusedSimpArgs false
set_option maxRecDepth 100000
theorem outside_in (n l h : Int) (h1 : l ≤ n) (h2 : n ≤ h) (w : World) : Calls Try.prog 35 #[.int .i64 n, .int .i64 l, .int .i64 h] w fun e w' => e = .returned (.bool false) ∧ w = w' := by
  have d1 : decide (n < l) = false := decide_eq_false (by omega)
  have d2 : decide (h < n) = false := decide_eq_false (by omega)
  clear h1 h2
  go_enter Try.func35, Try.ntmps35
  go_wp2
  go_ret
  exact ⟨rfl, rfl⟩
theorem outside_out (n l h : Int) (h1 : n < l ∨ h < n) (w : World) : Calls Try.prog 35 #[.int .i64 n, .int .i64 l, .int .i64 h] w fun e w' => e = .returned (.bool true) ∧ w = w' := by
  by_cases g : n < l
  · have d1 : decide (n < l) = true := decide_eq_true g
    clear h1 g
    go_enter Try.func35, Try.ntmps35
    go_wp2
    go_ret
    exact ⟨rfl, rfl⟩
  · have d1 : decide (n < l) = false := decide_eq_false g
    have d2 : decide (h < n) = true := decide_eq_true (by omega)
    clear h1 g
    go_enter Try.func35, Try.ntmps35
    go_wp2
    go_ret
    exact ⟨rfl, rfl⟩
theorem slCells_ok (x : Sl) (w : World) : Calls Try.prog 61 #[slV x] w fun e w' => e = .returned (.agg #[.int .u64 (n64 x.1), .int .u64 (n64 x.2.1), .int .u64 (n64 x.2.2)]) ∧ Off Nob w w' := by
  obtain ⟨a, b, c⟩ := x
  unfold slV
  dsimp only
  go_enter Try.func61, Try.ntmps61
  go_wp2
  refine bodyPost_ret (v := .agg #[.int .u64 (n64 a), .int .u64 (n64 b), .int .u64 (n64 c)]) (by simp [results, Try.f61, go_sem]) rfl ⟨rfl, ?_⟩
  exact Off.alloc (Off.alloc (Off.refl _ _) _) _
section
variable {w : World} {F : Nat → Prop} {p : Nat} {C : List (BitVec 64)} {E : List Ev}
set_option maxHeartbeats 2000000 in
theorem slStore_ok (h : Ar w F p C E) (x : Nat) (v : Sl) (hx : x + 3 ≤ C.length) (hE : E.length + 3 ≤ 8388608) :
    Calls Try.prog 44 #[.pointer (some ⟨p, 0, none⟩), .int .i64 (x : Int), slV v] w fun e w' => e = .returned (.tuple #[]) ∧ ArTo w F p (stS (C, E) x v).1 (stS (C, E) x v).2 w' := by
  have hn2 := h.n2
  obtain ⟨a, b, c⟩ := v
  unfold slV
  dsimp only
  have HW := Lib.hid ((Wk.start h).push 75 #[.int .u64 (n64 a), .int .u64 (n64 b), .int .u64 (n64 c)])
  have HC := Lib.hid (slCells_ok (a, b, c))
  unfold slV at HC
  dsimp only at HC
  clear h
  obtain ⟨a', ha⟩ : ∃ a', n64 a = a' := ⟨_, rfl⟩
  obtain ⟨b', hb⟩ : ∃ b', n64 b = b' := ⟨_, rfl⟩
  obtain ⟨c', hc⟩ : ∃ c', n64 c = c' := ⟨_, rfl⟩
  have HV := Lib.hid (And.intro ha (And.intro hb hc))
  rw [ha, hb, hc] at HC ⊢
  rw [ha, hb, hc] at HW
  clear ha hb hc
  have i0 : ∀ w, (Instr.index 114 (.agg #[.int .u64 a', .int .u64 b', .int .u64 c']) (.int .i64 0)).run Try.prog w = .ok (.int .u64 a') w := fun _ => by kernel_rfl
  have i1 : ∀ w, (Instr.index 114 (.agg #[.int .u64 a', .int .u64 b', .int .u64 c']) (.int .i64 1)).run Try.prog w = .ok (.int .u64 b') w := fun _ => by kernel_rfl
  have i2 : ∀ w, (Instr.index 114 (.agg #[.int .u64 a', .int .u64 b', .int .u64 c']) (.int .i64 2)).run Try.prog w = .ok (.int .u64 c') w := fun _ => by kernel_rfl
  go_enter Try.func44, Try.ntmps44
  go_wp2_with fail
  refine (HC.out _).mono ?_
  rintro e w1 ⟨rfl, h1⟩
  have H1 := Lib.hid (HW.out.off h1)
  clear h1 HW HC
  go_wp2_with fail
  refine wp_loop_rounds 4 ?_
  rw [rounds_succ]
  go_wp2_with fail
  refine (H1.out.call (fun w F ha => by have := store_ok ha (x : Int) a (by omega) (by omega) (by omega); rw [Int.toNat_natCast, HV.out.1] at this; exact this)).mono ?_
  rintro e w2 ⟨rfl, h2⟩
  have H2 := Lib.hid h2
  clear h2 H1 i0
  go_wp2_with fail
  rw [rounds_succ]
  go_wp2_with fail
  refine (H2.out.call (fun w F ha => by have := store_ok ha ((x : Int) + 1) b (by omega) (by simp; omega) (by simp; omega); rw [show ((x : Int) + 1).toNat = x + 1 by omega, HV.out.2.1] at this; exact this)).mono ?_
  rintro e w3 ⟨rfl, h3⟩
  have H3 := Lib.hid h3
  clear h3 H2 i1
  go_wp2_with fail
  rw [rounds_succ]
  go_wp2_with fail
  refine (H3.out.call (fun w F ha => by have := store_ok ha ((x : Int) + 2) c (by omega) (by simp; omega) (by simp; omega); rw [show ((x : Int) + 2).toNat = x + 2 by omega, HV.out.2.2] at this; exact this)).mono ?_
  rintro e w4 ⟨rfl, h4⟩
  have H4 := Lib.hid h4
  clear h4 H3 i2
  go_wp2_with fail
  rw [rounds_succ]
  go_wp2_with fail
  go_end0
  exact ⟨rfl, H4.out.done⟩
theorem check_bad (v : Value) (base n : Int) (hn : n < 1 ∨ 288 < n) (w : World) :
    Calls Try.prog 45 #[v, .int .i64 base, .int .i64 n] w fun e w' => e = .returned (.int .i64 7) ∧ w = w' := by
  have HO := Lib.hid (outside_out n 1 288 hn w)
  clear hn
  go_enter Try.func45, Try.ntmps45
  go_wp2_with fail
  refine HO.out.mono ?_
  rintro e w' ⟨rfl, rfl⟩
  go_wp2_with fail
  go_ret
  exact ⟨rfl, rfl⟩
theorem check_nil (base n : Int) (h1 : 1 ≤ n) (h2 : n ≤ 288) (w : World) :
    Calls Try.prog 45 #[.pointer none, .int .i64 base, .int .i64 n] w fun e w' => e = .returned (.int .i64 1) ∧ w = w' := by
  have HO := Lib.hid (outside_in n 1 288 h1 h2 w)
  go_enter Try.func45, Try.ntmps45
  go_wp2_with fail
  refine HO.out.mono ?_
  rintro e w' ⟨rfl, rfl⟩
  go_wp2_with fail
  refine (has_nil _ _ _).mono ?_
  rintro e w' ⟨rfl, rfl⟩
  go_wp2_with fail
  go_ret
  exact ⟨rfl, rfl⟩
theorem check_any (h : Ar w F p C E) (base n : Int) :
    Calls Try.prog 45 #[.pointer (some ⟨p, 0, none⟩), .int .i64 base, .int .i64 n] w fun e w' => e = .returned (.int .i64 (ckS C.length E.length base n)) ∧ w = w' := by
  by_cases hn : n < 1 ∨ 288 < n
  · have := check_bad (.pointer (some ⟨p, 0, none⟩)) base n hn w
    rwa [show ckS C.length E.length base n = 7 by unfold ckS; rw [if_pos hn]]
  · have h1 : 1 ≤ n := by omega
    have h2 : n ≤ 288 := by omega
    have HO := Lib.hid (outside_in n 1 288 h1 h2 w)
    have HH := Lib.hid (has_any h base (3 * n))
    have HR := Lib.hid (room_any h (3 * n))
    have HC : Hid (ckS C.length E.length base n = if hasE C.length base (3 * n) = 0 then roomE E.length (3 * n) else hasE C.length base (3 * n)) := Lib.hid (by unfold ckS; rw [if_neg hn])
    obtain ⟨c1, hc1⟩ : ∃ c, hasE C.length base (3 * n) = c := ⟨_, rfl⟩
    obtain ⟨c2, hc2⟩ : ∃ c, roomE E.length (3 * n) = c := ⟨_, rfl⟩
    rw [hc1] at HH HC
    rw [hc2] at HR HC
    clear hc1 hc2 hn h
    by_cases hz : c1 = 0
    · subst hz
      rw [HC.out, if_pos rfl]
      go_enter Try.func45, Try.ntmps45
      go_wp2_with fail
      refine HO.out.mono ?_
      rintro e w' ⟨rfl, rfl⟩
      go_wp2_with fail
      refine HH.out.mono ?_
      rintro e w' ⟨rfl, rfl⟩
      go_wp2_with fail
      refine HR.out.mono ?_
      rintro e w' ⟨rfl, rfl⟩
      go_wp2_with fail
      go_ret
      exact ⟨rfl, rfl⟩
    · rw [HC.out, if_neg hz]
      have hz2 : (c1 == 0) = false := by simpa using hz
      have hz3 : (c1 != 0) = true := by simpa using hz
      clear hz
      go_enter Try.func45, Try.ntmps45
      go_wp2_with fail
      refine HO.out.mono ?_
      rintro e w' ⟨rfl, rfl⟩
      go_wp2_with fail
      refine HH.out.mono ?_
      rintro e w' ⟨rfl, rfl⟩
      go_wp2_with fail
      go_ret
      exact ⟨rfl, rfl⟩
end
theorem row_any (base n : Int) (w : World) : Calls Try.prog 46 #[.int .i64 base, .int .i64 n] w fun e w' => e = .returned (.func (.func 62) #[] #[.pointer (some ⟨w.heap.size + 1, 0, none⟩), .pointer (some ⟨w.heap.size, 0, none⟩)]) ∧ w' = (w.alloc (.cells #[.int .i64 base] 3)).alloc (.cells #[.int .i64 n] 3) := by
  go_enter Try.func46, Try.ntmps46
  go_wp2
  go_ret
  exact ⟨rfl, rfl⟩
/-- The places of a row: a number, and an address. -/
def rowV (base i : Nat) : Array Value := #[.int .i64 (i : Int), .int .i64 ((base : Int) + 3 * (i : Int))]
attribute [local go_sem] Oper.semAt_some
theorem range_from (n i : Nat) (h : i < n) : (List.range n).drop i = i :: (List.range n).drop (i + 1) := by
  rw [List.drop_eq_getElem_cons (by simpa using h)]
  simp
set_option maxHeartbeats 2000000 in
theorem row_stops (m : Nat) (hm : 1 ≤ m) (b base n : Nat) (h1 : base ≤ 65536) (h2 : n ≤ 288) (w : World) (hb : Blk w b 3 #[.int .i64 base]) (hb1 : Blk w (b + 1) 3 #[.int .i64 n]) :
    Iter Try.prog m 62 #[.pointer (some ⟨b + 1, 0, none⟩), .pointer (some ⟨b, 0, none⟩)] (rowV base) [b, b + 1] (List.range n) w := fun l J Jx W hW hJ hJx hY h0 => by
  have HB := Lib.hid (hb.to (hW.block b hb.lt))
  have HB1 := Lib.hid (hb1.to (hW.block (b + 1) hb1.lt))
  have HY := Lib.hid (fun x rest W h => rest_yield (x := x) (rest := rest) (W := W) hY h)
  have HJ := Lib.hid (Rest.start h0)
  clear hW hJ hJx hY h0 hb hb1
  refine callsIn_of_wp Try.func62 rfl trivial ?_ rfl
  simp only [Try.ntmps62, List.size_toArray, List.length_cons, List.length_nil, Nat.reduceAdd, Nat.reduceSub, Array.replicate_succ, Array.replicate_zero, List.push_toArray, List.append_toArray, List.nil_append, List.cons_append]
  have c0 : W.cell? ⟨b + 1, 0, none⟩ = some (.int .i64 (n : Int)) := HB1.out.cell 0
  gi_wp2
  clear c0
  gi_loopw [6] (fun q wr => ∃ i : Nat, i ≤ n ∧ q = .int .i64 (i : Int) ∧ Rest (List.range n) J ((List.range n).drop i) wr ∧ Blk wr b 3 #[.int .i64 base] ∧ Blk wr (b + 1) 3 #[.int .i64 n]) (fun q wr => n - (intOf q).toNat)
  case atStart => exact ⟨0, Nat.zero_le _, rfl, by simpa using HJ.out, HB.out, HB1.out⟩
  case round =>
    obtain ⟨i, hi, rfl, hrel, hbk, hbk1⟩ := hrel
    have HQ := Lib.hid hrel
    have c0 : wr.cell? ⟨b, 0, none⟩ = some (.int .i64 (base : Int)) := hbk.cell 0
    have HBQ := Lib.hid hbk
    have HBQ1 := Lib.hid hbk1
    clear hrel hbk hbk1 HB HB1
    by_cases hlt : i < n
    · obtain ⟨fn, tmps, assign, body, hy, hR⟩ := HY.out i ((List.range n).drop (i + 1)) wr (by have := HQ.out; rw [range_from n i hlt] at this; exact this)
      unfold rowV at hy
      gi_wp2
      refine hR.mono ?_
      rintro e3 W3 (⟨rfl, h3, hk⟩ | ⟨rfl, pre, h3⟩)
      · have H3 := Lib.hid h3
        have B3 := Lib.hid (hk.blk (by simp) HBQ.out)
        have B4 := Lib.hid (hk.blk (by simp) HBQ1.out)
        clear h3 hk hy hR c0
        gi_wp2
        go_roundw
        case rel => exact ⟨i + 1, hlt, by go_num, H3.out, B3.out, B4.out⟩
        case measure => simp [intOf]; omega
      · have H3 := Lib.hid h3
        clear h3 hy hR
        gi_wp2
        refine bodyPost_ret (results_none rfl _ _ _) rfl ?_
        exact ⟨⟨_, rfl⟩, .inr ⟨pre, trivial, H3.out⟩⟩
    · obtain rfl : n = i := by omega
      have HQ2 : Hid (Rest (List.range n) J [] wr) := by
        have := HQ.out
        rw [List.drop_of_length_le (by simp)] at this
        exact Lib.hid this
      gi_wp2
      go_end0
      obtain ⟨xs, g1, g2⟩ := rest_done HQ2.out
      exact ⟨⟨_, rfl⟩, .inl ⟨xs, g1, g2⟩⟩
end Go.Proofs.Ytonkhgmfeakbcaa
