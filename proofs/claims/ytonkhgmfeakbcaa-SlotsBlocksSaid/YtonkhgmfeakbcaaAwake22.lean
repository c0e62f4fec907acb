/-
  dragnetlaw22.awake returns true.
-/
import Derived.Test.YtonkhgmfeakbcaaSlErr
import Derived.Test.YtonkhgmfeakbcaaSlOf
import Derived.Test.YtonkhgmfeakbcaaSlSame
import Derived.Test.YtonkhgmfeakbcaaOneRow
namespace Go.Proofs.Ytonkhgmfeakbcaa
open Go.RowKit
set_option linter.unusedVariables false
set_option maxRecDepth 100000
/-- Behind an own row: it reads on. -/
theorem own_off0 {w w' : World} {base size n : Nat} {e : TypeId} {v : Value} {xs : List Value} (h : w.ownsRow base e size v n xs) (o : Off Nob w w') : w'.ownsRow base e size v n xs :=
  own_to h (fun g hg => o.block g (h.lt g hg).2 (fun h => h))
def a2C : List (BitVec 64) := List.replicate 19 0#64 ++ [msk true]
def a2S : St := fiS 18 6 true 9#64 (a2C, stores 20) 2
def a2L : List Sl := [sl0, sl0, sl0, (msk true, 9#64, 1#64)]
theorem a2_rd : rdL 0 a2S.1 4 = a2L := by decide +kernel
theorem a2_hi : hiL a2L = [(9, 1)] := by decide +kernel
theorem a2_of : ofL [(9, 1)] 2 = [(msk true, 9#64, 1#64), sl0] := by decide +kernel
theorem a2_len : a2S.1.length = 20 ∧ a2S.2.length = 28 := by decide +kernel
theorem a2_el : (rdE 0 a2S.2 4).length = 40 := by rw [rdE_len, a2_len.2]
theorem a2_C : (u64s (List.replicate 20 0#64)).set 19 (.int .u64 18446744073709551615) = u64s a2C := by rfl
theorem made_u20 : (madeCells (Value.int .u64 0).cells (20 * 1)).toList = u64s (List.replicate 20 0#64) := by
  show (madeCells #[.int .u64 0] 20).toList = _
  rw [toList_madeCells_one]
  rfl
theorem Try.infoU22 : (Try.prog.info? 41).map (fun i => (i.zero, i.size, i.bytes)) = some (some (.int .u64 0), 1, 8) := by kernel_rfl
set_option maxHeartbeats 4000000 in
theorem awake_ok (w : World) : Calls Try.prog 9 #[] w (BoolNew true w) := by
  obtain ⟨i0, hI, hz0, hz1, hz2⟩ := info_parts Try.infoU22
  go_enter Try.func9, Try.ntmps9
  go_wp2_with (at_make; refine wpList_make_full _ rfl _ _ 40 rfl w.heap.size 41 i0 (.int .u64 0) 1 Try.underlying40 hI hz0 hz1 .i64 .i64 _ _ 20 rfl rfl rfl rfl (by rw [hz2]; omega) (by unfold maxLen; omega) (Nat.le_refl _) ?_; intro w0 hown0 hgrow0; rw [made_u20] at hown0; have c19' : w0.cell? ⟨w.heap.size, 19, none⟩ = some (.int .u64 0) := (by rw [hown0.cellAt 19 (by decide)]; rfl); have f19 := hown0.frozenAt 19)
  have o0 : Off Nob w w0 := Off.grown (Off.refl _ _) hgrow0 (fun k hk => by cases hk)
  have h1 := (hown0.stored 19 (.int .u64 18446744073709551615)).1
  rw [a2_C] at h1
  have hlt := (hown0.lt _ rfl).1
  have O1 := Lib.hid (o0.put (p := ⟨w.heap.size, 19, none⟩) (.inr hlt) (.int .u64 18446744073709551615))
  have R1 := Lib.hid (Rd.own h1 (F := fun _ => True) (fun _ _ => trivial))
  clear hown0 hgrow0 o0 h1 hlt c19' f19
  go_wp2_with fail
  refine (arena_any R1.out (by decide)).mono ?_
  rintro e w1 h1
  obtain ⟨p, r, rfl, hh⟩ := h1.have_
  obtain ⟨w0', hw0⟩ : ∃ x, w0.setCell ⟨w.heap.size, 19, none⟩ (.int .u64 18446744073709551615) = x := ⟨_, rfl⟩
  rw [hw0] at hh O1
  have H1 := Lib.hid hh.one
  have OW := Lib.hid O1.out
  clear h1 hh R1 O1 hw0
  clear hI hz0 hz1 hz2
  go_wp2_with fail
  refine Calls.mono (R := fun e w' => e = .returned (.tuple #[.int .i64 24, .int .i64 0]) ∧ w1 = w') (size_any 4 2 w1) ?_
  rintro e w' ⟨rfl, rfl⟩
  go_wp2_with fail
  refine Calls.mono (R := fun e w' => e = .returned (.int .i64 0) ∧ One w0' w' [] p a2S.1 a2S.2) (H1.out.call (fun w F ha => fill_ok ha 0 18 2 1 true 9#64 (by decide +kernel))) ?_
  rintro e w2 ⟨rfl, h2⟩
  have H2 := Lib.hid h2
  clear h2 H1
  go_wp2_with fail
  refine Calls.mono (R := fun e w' => ∃ g, e = .returned (.tuple #[.slice (some ⟨g, 0, none⟩) 4 4, .int .i64 0]) ∧ One w0' w' [(g, 75, (slC a2L).toArray)] p a2S.1 (rdE 0 a2S.2 4)) (H2.out.row (fun F ha => by
    have := read_ok ha 0 4 (ckS_ok (by have := a2_len; omega))
    rw [a2_rd] at this
    exact this)) ?_
  rintro e w3 ⟨g, rfl, h3⟩
  have H3 := Lib.hid h3
  clear h3 H2
  go_wp2_with fail
  refine Calls.mono (R := fun e w' => e = .returned (.int .i64 2) ∧ w3 = w') (by
    obtain ⟨F, ha⟩ := H3.out.ar
    have hz : fiE a2S.1.length (rdE 0 a2S.2 4).length 0 7 2 1 (isM (msk true)) = 2 := by rw [a2_len.1, a2_el]; decide +kernel
    have := fill_err ha 0 7 2 1 (msk true) 9#64 (by rw [hz]; decide)
    rw [hz] at this
    exact this) ?_
  rintro e w' ⟨rfl, rfl⟩
  go_wp2_with fail
  refine Calls.mono (R := fun e w' => ∃ g, e = .returned (.tuple #[.slice (some ⟨g, 0, none⟩) 2 2, .int .i64 0]) ∧ OfI (w3.alloc (.cells #[.int .i64 9, .int .i64 1] 50)) g 2 [(msk true, 9#64, 1#64), sl0] w') (by
    have := sof_some (w3.alloc (.cells #[.int .i64 9, .int .i64 1] 50)) (some ⟨w3.heap.size, 0, none⟩) 1 1 2 [(9, 1)] rfl (by decide) (by decide) (by decide) (fun _ => ⟨w3.heap.size, 0, rfl, by simp, fun j u hu => by rw [Nat.zero_add, (Blk.new w3 50 #[.int .i64 9, .int .i64 1]).cell]; simpa [hiC] using hu⟩)
    rw [a2_of] at this
    exact this) ?_
  rintro e w4 ⟨g4, rfl, h4⟩
  have R4 := Lib.hid h4.1
  have H4 := Lib.hid (H3.out.offR ((Off.alloc (Off.refl _ _) _).also h4.2))
  clear h4 H3
  go_wp2_with fail
  have RL : Hid (Rd w4 (fun k => k = g) 3 (.slice (some ⟨g, 0, none⟩) 4 4) 4 (slC a2L)) := Lib.hid ⟨_, _, rfl, by unfold maxLen; omega, rfl, fun _ => ⟨g, 0, rfl, rfl, (H4.out.blk (List.mem_cons_self ..)).lt, fun j u hu => by rw [Nat.zero_add, (H4.out.blk (List.mem_cons_self ..)).cell]; simpa using hu⟩⟩
  refine Calls.mono (R := NewH w4 [(9, 1)]) (by have := hits_any RL.out (by decide); rwa [a2_hi] at this) ?_
  rintro e w5 ⟨v5, rfl, h5, o5⟩
  have R5 := Lib.hid (Rd.own h5 (F := fun _ => True) (fun _ _ => trivial))
  have R45 := Lib.hid (own_off0 R4.out o5)
  have H5 := Lib.hid (H4.out.offR o5)
  clear h5 o5 H4 R4 RL
  go_wp2_with fail
  refine (sameHi_eq (A := [(9, 1)]) (F := fun _ => True) (G := fun _ => True) (R5.out.keep (Off.alloc (Off.refl Nob w5) (.cells #[.int .i64 9, .int .i64 1] 50)) (fun _ _ h => h)) (show Rd (w5.alloc (.cells #[.int .i64 9, .int .i64 1] 50)) (fun _ => True) 2 (.slice (some ⟨w5.heap.size, 0, none⟩) 1 1) 1 (hiC [(9, 1)]) from
    ⟨_, _, rfl, by unfold maxLen; omega, rfl, fun _ => ⟨_, 0, rfl, trivial, by simp, fun j u hu => by rw [Nat.zero_add, (Blk.new w5 50 #[.int .i64 9, .int .i64 1]).cell]; simpa [hiC] using hu⟩⟩)).mono ?_
  rintro e w6 ⟨rfl, o6⟩
  have O56 : Hid (Off Nob w5 w6) := Lib.hid ((Off.alloc (Off.refl _ _) _).also o6)
  have R46 := Lib.hid (own_off0 R45.out O56.out)
  have H6 := Lib.hid (H5.out.offR O56.out)
  clear o6 O56 H5 R45 R5
  go_wp2_with fail
  refine (sameSl_eq (A := [(msk true, 9#64, 1#64), sl0]) (F := fun _ => True) (G := fun _ => True) (Rd.own (own_off0 R46.out (Off.alloc (Off.refl Nob w6) (.cells #[.int .u64 18446744073709551615, .int .u64 9, .int .u64 1, .int .u64 0, .int .u64 0, .int .u64 0] 75))) (fun _ _ => trivial)) (show Rd (w6.alloc (.cells #[.int .u64 18446744073709551615, .int .u64 9, .int .u64 1, .int .u64 0, .int .u64 0, .int .u64 0] 75)) (fun _ => True) 3 (.slice (some ⟨w6.heap.size, 0, none⟩) 2 2) 2 (slC [(msk true, 9#64, 1#64), sl0]) from
    ⟨_, _, rfl, by unfold maxLen; omega, rfl, fun _ => ⟨_, 0, rfl, trivial, by simp, fun j u hu => by rw [Nat.zero_add, (Blk.new w6 75 #[.int .u64 18446744073709551615, .int .u64 9, .int .u64 1, .int .u64 0, .int .u64 0, .int .u64 0]).cell, List.getElem?_toArray]; exact hu⟩⟩)).mono ?_
  rintro e w7 ⟨rfl, o7⟩
  have H7 := Lib.hid (H6.out.offR ((Off.alloc (Off.refl _ _) _).also o7))
  clear o7 H6 R46
  go_wp2_with fail
  refine Calls.mono (R := fun e w' => e = .returned (.int .i64 40) ∧ w7 = w') (by
    obtain ⟨F, ha⟩ := H7.out.ar
    have := steps_any ha
    rwa [a2_el] at this) ?_
  rintro e w' ⟨rfl, rfl⟩
  go_wp2_with fail
  go_ret
  exact ⟨rfl, OW.out.also H7.out.oldR⟩
end Go.Proofs.Ytonkhgmfeakbcaa
