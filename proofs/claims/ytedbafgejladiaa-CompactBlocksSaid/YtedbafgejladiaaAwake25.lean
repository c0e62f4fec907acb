import Derived.Test.YtedbafgejladiaaCompVal
/-
  dragnetlaw25.awake returns true.
-/
namespace Go.Proofs.Ytedbafgejladiaa
open Go.RowKit
set_option linter.unusedVariables false
set_option linter.unusedSimpArgs false
set_option maxRecDepth 100000
def a5L : List Sl := [(msk true, 4#64, 0#64), sl0] ++ [sl0, (msk true, 7#64, 0#64), (msk true, 8#64, 0#64)]
set_option maxHeartbeats 1000000
theorem a5_len : (ofKK a5L 2 3).1.length = 22 := by decide +kernel
theorem a5_len2 : (ofKK a5L 2 3).2.1.length = 187 := by decide +kernel
theorem a5_dr : ofDr a5L 2 3 = 1#64 := by decide +kernel
theorem a5_lst : ∃ T, ofLst a5L 2 3 = (msk true, 4#64, 0#64) :: (msk true, 7#64, 0#64) :: T := by
  refine ⟨(ofLst a5L 2 3).drop 2, ?_⟩
  have : (ofLst a5L 2 3).take 2 = [(msk true, 4#64, 0#64), (msk true, 7#64, 0#64)] := by decide +kernel
  rw [← List.take_append_drop 2 (ofLst a5L 2 3), this]
  simp
theorem a5_c : cl (ofKK a5L 2 3).1 1 = 4#64 ∧ cl (ofKK a5L 2 3).1 4 = 7#64 ∧ cl (ofKK a5L 2 3).1 20 = 1#64 ∧ cl (ofKK a5L 2 3).1 21 = msk true := by decide +kernel
theorem a5_n : cpN (2 + 3) = 172 ∧ cpN (32 + 256) = 35604 := by decide +kernel
theorem a5_e : cpE (ofKK a5L 2 3).1.length (ofKK a5L 2 3).2.1.length 0 15 14 21 2 3 = 2 := by rw [a5_len, a5_len2]; decide +kernel
theorem slot_ok (k : Int) (w : World) : Calls Try.prog 24 #[.int .u64 k] w fun e w' => e = .returned (.agg #[.int .u64 18446744073709551615, .int .u64 k, .int .u64 0]) ∧ Off Nob w w' := by
  obtain ⟨i0, hi, hz0, hz1, hz2⟩ := info_parts Try.infoSl
  go_enter Try.func24, Try.ntmps24
  go_wp2_with fail
  refine bodyPost_ret (v := .agg #[.int .u64 18446744073709551615, .int .u64 k, .int .u64 0]) (results_cell_row rfl _ _ _ _ _ (0, 0) _ rfl (heap_alloc_new _ _) Try.underlying47 rfl ?_) rfl ⟨rfl, Off.alloc (Off.refl _ _) _⟩
  rw [hi, Option.map_some, hz1]
  rfl
theorem Rd.litS (w : World) (t : TypeId) (L : List Sl) (h : L.length ≤ maxLen) : Rd (w.alloc (.cells (slC L).toArray t)) (fun k => k = w.heap.size) 3 (.slice (some ⟨w.heap.size, 0, none⟩) L.length L.length) L.length (slC L) :=
  ⟨_, _, rfl, h, by rw [slC_len], fun _ => ⟨w.heap.size, 0, rfl, rfl, by simp, fun j u hu => by rw [Nat.zero_add, (Blk.new w t (slC L).toArray).cell, List.getElem?_toArray]; exact hu⟩⟩
theorem One.add {w0 w : World} {bs : Bks} {p g : Nat} {C : List (BitVec 64)} {E : List Ev} {t : TypeId} {cs : Array Value} (h : One w0 w bs p C E) (hb : Blk w g t cs) (hg : g < w0.heap.size) : One w0 w ((g, t, cs) :: bs) p C E := by
  obtain ⟨F, ha, ho, hf, hbs⟩ := h
  refine ⟨F, ha, ho, hf, fun x hx => ?_⟩
  rcases List.mem_cons.1 hx with rfl | hx
  · exact ⟨hb, fun hk => by have := hf _ hk; simp at this; omega⟩
  · exact hbs x hx
abbrev a5T (T : List Sl) : Array Value := (slC ((msk true, 4#64, 0#64) :: (msk true, 7#64, 0#64) :: T)).toArray
theorem a5_at {w1 : World} {g : Nat} {T : List Sl} (h1 : Blk w1 g 47 (a5T T)) : w1.cell? ⟨g, 0, none⟩ = some (.int .u64 18446744073709551615) ∧ w1.cell? ⟨g, 1, none⟩ = some (.int .u64 4) ∧ w1.cell? ⟨g, 2, none⟩ = some (.int .u64 0) ∧ w1.cell? ⟨g, 3, none⟩ = some (.int .u64 18446744073709551615) ∧ w1.cell? ⟨g, 4, none⟩ = some (.int .u64 7) ∧ w1.cell? ⟨g, 5, none⟩ = some (.int .u64 0) :=
  ⟨h1.cell 0, h1.cell 1, h1.cell 2, h1.cell 3, h1.cell 4, h1.cell 5⟩
theorem a5_row {w w' : World} {C : List (BitVec 64)} {e : Ending} (h : NewU w C e w') (hn : 0 < C.length) : ∃ h c, e = .returned (.slice (some ⟨h, 0, none⟩) C.length c) ∧ w'.ownsRow w.heap.size 33 1 (.slice (some ⟨h, 0, none⟩) C.length c) C.length (u64s C) ∧ Off Nob w w' := by
  obtain ⟨v, rfl, h, o⟩ := h
  rcases h.2 with ⟨_, h2⟩ | ⟨g, cap, cur, hv, _⟩
  · have := h.1; rw [h2] at this; simp at this; omega
  · subst hv; exact ⟨g, cap, rfl, h, o⟩
theorem a5_cell {w w' : World} {C : List (BitVec 64)} {h c n base : Nat} (hw : w.ownsRow base 33 1 (.slice (some ⟨h, 0, none⟩) n c) n (u64s C)) (o : Off Nob w w') (i : Nat) (hi : i < C.length) (u : Int) (hu : n64 (cl C i) = u) : w'.cell? ⟨h, i, none⟩ = some (.int .u64 u) := by
  have := (own_to hw (fun g hg => o.block g (hw.lt g hg).2 (fun h => h))).cells (g := h) rfl i (.int .u64 (n64 (cl C i))) (getElem_u64s C i hi)
  rw [← hu, ← this, add_addr, Nat.zero_add]
set_option maxHeartbeats 4000000 in
theorem awake_ok (w : World) : Calls Try.prog 6 #[] w (BoolNew true w) := by
  go_enter Try.func6, Try.ntmps6
  go_wp2_with fail
  refine Calls.mono (R := fun e w' => e = .returned (.tuple #[.int .i64 172, .int .i64 0]) ∧ w = w') (by have := csteps_ok 2 3 (by decide) (by decide) (by decide) (by decide) w; rwa [a5_n.1] at this) ?_
  rintro e w' ⟨rfl, rfl⟩
  go_wp2_with fail
  refine Calls.mono (R := fun e w' => e = .returned (.tuple #[.int .i64 35604, .int .i64 0]) ∧ w = w') (by have := csteps_ok 32 256 (by decide) (by decide) (by decide) (by decide) w; rwa [a5_n.2] at this) ?_
  rintro e w' ⟨rfl, rfl⟩
  go_wp2_with fail
  refine (slot_ok _ _).mono ?_
  rintro e w1 ⟨rfl, o1⟩
  have O1 := Lib.hid o1
  clear o1
  go_wp2_with fail
  refine (slot_ok _ _).mono ?_
  rintro e w2 ⟨rfl, o2⟩
  have O2 := Lib.hid o2
  clear o2
  go_wp2_with fail
  refine (slot_ok _ _).mono ?_
  rintro e w3 ⟨rfl, o3⟩
  have O3 := Lib.hid o3
  clear o3
  go_wp2_with fail
  have RA := (((Rd.litS w1 47 [(msk true, 4#64, 0#64), sl0] (by unfold maxLen; decide)).keep O2.out (fun k _ h => h)).keep O3.out (fun k _ h => h)).keep (Off.alloc (Off.refl Nob w3) (.cells (slC [sl0, (msk true, 7#64, 0#64), (msk true, 8#64, 0#64)]).toArray 47)) (fun k _ h => h)
  have RB := Rd.litS w3 47 [sl0, (msk true, 7#64, 0#64), (msk true, 8#64, 0#64)] (by unfold maxLen; decide)
  refine Calls.mono (R := fun e w' => ∃ g, e = .returned (.tuple #[.slice (some ⟨g, 0, none⟩) 5 5, .int .i64 1, .int .i64 0]) ∧ (∃ T, Blk w' g 47 (a5T T)) ∧ Off Nob w3 w') ((cof_ok (a := 2) (b := 3) RA RB (by decide) (by decide) (by decide) (by decide)).mono (fun e w' ⟨g, he, hb, ho⟩ => by
    obtain ⟨T, hT⟩ := a5_lst
    have hb2 : Blk w' g 47 (slC (ofLst a5L 2 3)).toArray := hb
    rw [hT] at hb2
    have hd : ofDr ([(msk true, 4#64, 0#64), sl0] ++ [sl0, (msk true, 7#64, 0#64), (msk true, 8#64, 0#64)]) 2 3 = 1#64 := a5_dr
    rw [hd, show wrap64 (n64 1#64) = 1 by decide +kernel] at he
    exact ⟨g, he, ⟨T, hb2⟩, (Off.alloc (Off.refl _ _) _).also ho⟩)) ?_
  clear RA RB
  rintro e w4 ⟨g, rfl, ⟨T, b4⟩, o4⟩
  have B4 := Lib.hid b4
  have O4 : Hid (Off Nob w w4) := Lib.hid (((O1.out.also ((Off.alloc (Off.refl _ _) _).also O2.out)).also O3.out).also o4)
  clear b4 o4 O1 O2 O3
  go_wp2_with fail
  refine Calls.mono (R := fun e w' => ∃ p, e = .returned (.tuple #[.pointer (some ⟨p, 0, none⟩), .int .i64 0]) ∧ One w4 w' [] p (List.replicate (4 * (2 + 3) + 2) 0) []) ((new_ok 22 w4 (by decide) (by decide)).mono fun e w' ⟨p, he, F, ha, ho, hf⟩ => ⟨p, he, F, ha, ho, hf, fun x hx => by cases hx⟩) ?_
  rintro e w5 ⟨p, rfl, u5⟩
  have U5 : Hid (One w4 w5 [(g, 47, a5T T)] p (List.replicate (4 * (2 + 3) + 2) 0) []) := Lib.hid (u5.add (B4.out.to (u5.oldR.block _ B4.out.lt (fun h => h))) B4.out.lt)
  clear u5 B4
  go_wp2_with fail
  refine (slot_ok _ _).mono ?_
  rintro e w6 ⟨rfl, o6⟩
  have O6 := Lib.hid o6
  clear o6
  go_wp2_with fail
  refine (slot_ok _ _).mono ?_
  rintro e w7 ⟨rfl, o7⟩
  have O7 := Lib.hid o7
  clear o7
  go_wp2_with fail
  refine (slot_ok _ _).mono ?_
  rintro e w8 ⟨rfl, o8⟩
  have U8 := Lib.hid ((U5.out.offR ((O6.out.also O7.out).also o8)).push 47 (slC a5L).toArray)
  clear o8 O7 O6 U5
  go_wp2_with fail
  refine Calls.mono (R := fun e w' => e = .returned (.int .i64 0) ∧ One w4 w' _ p (ofW a5L 2 3).1 (ofW a5L 2 3).2) (U8.out.writeC (List.mem_cons_self) (fun j u hu => by rw [List.getElem?_toArray]; exact hu) rfl 5 0 (ckS_ok (by decide))) ?_
  rintro e w9 ⟨rfl, u9⟩
  have U9 := Lib.hid u9
  clear u9 U8
  go_wp2_with fail
  refine Calls.mono (R := fun e w' => e = .returned (.int .i64 0) ∧ One w4 w' _ p (ofKK a5L 2 3).1 (ofKK a5L 2 3).2.1) (U9.out.call (fun W F ha => ccompact_ok ha 0 _ _ _ 2 3 (of_ok a5L 2 3 (by decide) (by decide) (by decide) (by decide)) (of_cpE a5L 2 3 (by decide) (by decide) (by decide) (by decide)))) ?_
  rintro e w10 ⟨rfl, u10⟩
  have U10 := Lib.hid u10
  clear u10 U9
  go_wp2_with fail
  refine Calls.mono (R := fun e w' => e = .returned (.int .i64 2) ∧ One w4 w' _ p (ofKK a5L 2 3).1 (ofKK a5L 2 3).2.1) (U10.out.call (fun W F ha => by have := ccompact_err ha 0 15 14 21 2 3 (by rw [a5_e]; decide); rwa [a5_e] at this)) ?_
  rintro e w11 ⟨rfl, u11⟩
  have U11 := Lib.hid u11
  clear u11 U10
  go_wp2_with fail
  refine Calls.mono (R := fun e w' => ∃ h c, e = .returned (.slice (some ⟨h, 0, none⟩) 22 c) ∧ w'.ownsRow w11.heap.size 33 1 (.slice (some ⟨h, 0, none⟩) 22 c) 22 (u64s (ofKK a5L 2 3).1) ∧ Off Nob w11 w') (by
    obtain ⟨F, ha⟩ := U11.out.ar
    refine (cells_ok ha).mono fun e w' he => ?_
    have := a5_row he (by rw [a5_len]; decide)
    rw [a5_len] at this
    exact this) ?_
  rintro e w12 ⟨h, c, rfl, hr, o12⟩
  have U12 := Lib.hid (U11.out.offR o12)
  have HC : Hid (∀ W, Off Nob w12 W → W.cell? ⟨h, 1, none⟩ = some (.int .u64 4) ∧ W.cell? ⟨h, 4, none⟩ = some (.int .u64 7) ∧ W.cell? ⟨h, 20, none⟩ = some (.int .u64 1) ∧ W.cell? ⟨h, 21, none⟩ = some (.int .u64 18446744073709551615)) := Lib.hid (fun W o => by
    obtain ⟨q1, q2, q3, q4⟩ := a5_c
    exact ⟨a5_cell hr o 1 (by rw [a5_len]; decide) _ (by rw [q1]; rfl), a5_cell hr o 4 (by rw [a5_len]; decide) _ (by rw [q2]; rfl), a5_cell hr o 20 (by rw [a5_len]; decide) _ (by rw [q3]; rfl), a5_cell hr o 21 (by rw [a5_len]; decide) _ (by rw [q4]; rfl)⟩)
  have HB : Hid (∀ W, Off Nob w12 W → W.cell? ⟨g, 0, none⟩ = some (.int .u64 18446744073709551615) ∧ W.cell? ⟨g, 1, none⟩ = some (.int .u64 4) ∧ W.cell? ⟨g, 2, none⟩ = some (.int .u64 0) ∧ W.cell? ⟨g, 3, none⟩ = some (.int .u64 18446744073709551615) ∧ W.cell? ⟨g, 4, none⟩ = some (.int .u64 7) ∧ W.cell? ⟨g, 5, none⟩ = some (.int .u64 0) ∧ W.cell? ⟨h, 1, none⟩ = some (.int .u64 4) ∧ W.cell? ⟨h, 4, none⟩ = some (.int .u64 7) ∧ W.cell? ⟨h, 20, none⟩ = some (.int .u64 1) ∧ W.cell? ⟨h, 21, none⟩ = some (.int .u64 18446744073709551615)) := Lib.hid (fun W o => by
    obtain ⟨c0, c1, c2, c3, c4, c5⟩ := a5_at ((U12.out.offR o).blk (List.mem_cons_of_mem _ (List.mem_cons_self)))
    exact ⟨c0, c1, c2, c3, c4, c5, HC.out W o⟩)
  have k0 := HB.out _ (Off.refl _ _)
  have OX : Hid (Off Nob w12 w12) := Lib.hid (Off.refl _ _)
  clear hr o12 U11 HC
  go_wp2_with fail
  simp only [List.append_eq, List.cons_append, List.nil_append]
  go_region_held3 (fun w' => w'.cell? ⟨g, 0, none⟩ = some (.int .u64 18446744073709551615) ∧ w'.cell? ⟨g, 1, none⟩ = some (.int .u64 4) ∧ w'.cell? ⟨g, 2, none⟩ = some (.int .u64 0) ∧ w'.cell? ⟨g, 3, none⟩ = some (.int .u64 18446744073709551615) ∧ w'.cell? ⟨g, 4, none⟩ = some (.int .u64 7) ∧ w'.cell? ⟨g, 5, none⟩ = some (.int .u64 0) ∧ w'.cell? ⟨h, 1, none⟩ = some (.int .u64 4) ∧ w'.cell? ⟨h, 4, none⟩ = some (.int .u64 7) ∧ w'.cell? ⟨h, 20, none⟩ = some (.int .u64 1) ∧ w'.cell? ⟨h, 21, none⟩ = some (.int .u64 18446744073709551615))
    (first | with_reducible assumption | go_keep)
    (first
      | (go_at_call 24; refine (slot_ok _ _).mono ?_; rintro e w' ⟨rfl, o1⟩; have OY : Hid (Off Nob w12 w') := Lib.hid (Off.also (by first | with_reducible exact Off.refl _ _ | with_reducible exact Off.drew (Off.refl _ _) | with_reducible exact Off.drewN (Off.refl _ _) _ | with_reducible exact OX.out | with_reducible exact Off.drew OX.out | with_reducible exact Off.drewN OX.out _) o1); have kq := HB.out _ OY.out; clear o1 OX; have OX := Lib.hid OY.out; clear OY))
  go_wp2_with fail
  go_ret
  exact ⟨rfl, O4.out.also (U12.out.offR OX.out).oldR⟩
end Go.Proofs.Ytedbafgejladiaa

