/-
  The specification's arena: Has, Room, Load, Cells, Since, Events.
-/
import Derived.Test.YtlefjlclhmapaaaRef
import Derived.Test.YtlefjlclhmapaaaEvs
namespace Go.Proofs.Ytlefjlclhmapaaa
open Go.RowKit
set_option maxRecDepth 100000
theorem rnone_nil (w : World) :
    Calls Try.prog 56 #[.pointer none] w fun e w' => e = .returned (.bool true) ∧ w = w' := by
  go_enter Try.func56, Try.ntmps56
  go_wp2
  go_ret
  exact ⟨rfl, rfl⟩
section
variable {w : World} {F : Nat → Prop} {r : Nat} {C : List (BitVec 64)} {E : List Ev}
set_option maxHeartbeats 400000 in
theorem rhas_any (h : Rf w F r C E) (x k : Int) :
    Calls Try.prog 49 #[.pointer (some ⟨r, 0, none⟩), .int .i64 x, .int .i64 k] w fun e w' => e = .returned (.int .i64 (hasE C.length x k)) ∧ w = w' := by
  have HN := Lib.hid (rnone_ok h)
  have h2 := h.n2
  obtain ⟨cb, ev, rg, h⟩ := h
  have c0 := h.top.cell 0
  simp only [List.getElem?_toArray, List.getElem?_cons_zero] at c0
  clear h
  generalize C.length = n at *
  by_cases h1 : x < 0
  · go_enter Try.func49, Try.ntmps49
    go_wp2_with (go_at_call 56; refine HN.out.mono ?_; rintro e w' ⟨rfl, rfl⟩)
    go_ret
    exact ⟨ret_int (by unfold hasE; rw [if_pos (by omega)]), rfl⟩
  by_cases h4 : k < 0
  · go_enter Try.func49, Try.ntmps49
    go_wp2_with (go_at_call 56; refine HN.out.mono ?_; rintro e w' ⟨rfl, rfl⟩)
    go_ret
    exact ⟨ret_int (by unfold hasE; rw [if_pos (by omega)]), rfl⟩
  by_cases h3 : (n : Int) < x
  · go_enter Try.func49, Try.ntmps49
    go_wp2_with (go_at_call 56; refine HN.out.mono ?_; rintro e w' ⟨rfl, rfl⟩)
    go_ret
    exact ⟨ret_int (by unfold hasE; rw [if_pos (by omega)]), rfl⟩
  by_cases h5 : (n : Int) - x < k
  · go_enter Try.func49, Try.ntmps49
    go_wp2_with (go_at_call 56; refine HN.out.mono ?_; rintro e w' ⟨rfl, rfl⟩)
    go_ret
    exact ⟨ret_int (by unfold hasE; rw [if_pos (by omega)]), rfl⟩
  · go_enter Try.func49, Try.ntmps49
    go_wp2_with (go_at_call 56; refine HN.out.mono ?_; rintro e w' ⟨rfl, rfl⟩)
    go_ret
    exact ⟨ret_int (by unfold hasE; rw [if_neg (by omega)]), rfl⟩
set_option maxHeartbeats 400000 in
theorem rroom_any (h : Rf w F r C E) (s : Int) :
    Calls Try.prog 50 #[.pointer (some ⟨r, 0, none⟩), .int .i64 s] w fun e w' => e = .returned (.int .i64 (roomE E.length s)) ∧ w = w' := by
  have HN := Lib.hid (rnone_ok h)
  have h2 := h.e2
  obtain ⟨cb, ev, rg, h⟩ := h
  obtain ⟨A, c, hev⟩ := h.form
  subst hev
  have c2 := h.top.cell 2
  simp only [List.getElem?_toArray, List.getElem?_cons_succ, List.getElem?_cons_zero] at c2
  clear h
  generalize E.length = n at *
  by_cases h1 : s < 0
  · go_enter Try.func50, Try.ntmps50
    go_wp2_with (go_at_call 56; refine HN.out.mono ?_; rintro e w' ⟨rfl, rfl⟩)
    go_ret
    exact ⟨ret_int (by unfold roomE; rw [if_pos (by omega)]), rfl⟩
  by_cases h3 : 8388608 - (n : Int) < s
  · go_enter Try.func50, Try.ntmps50
    go_wp2_with (go_at_call 56; refine HN.out.mono ?_; rintro e w' ⟨rfl, rfl⟩)
    go_ret
    exact ⟨ret_int (by unfold roomE; rw [if_neg (by omega), if_pos (by omega)]), rfl⟩
  · go_enter Try.func50, Try.ntmps50
    go_wp2_with (go_at_call 56; refine HN.out.mono ?_; rintro e w' ⟨rfl, rfl⟩)
    go_ret
    exact ⟨ret_int (by unfold roomE; rw [if_neg (by omega), if_neg (by omega)]), rfl⟩
set_option maxHeartbeats 400000 in
theorem rload_ok (h : Rf w F r C E) (x : Int) (h0 : 0 ≤ x) (h1 : x < C.length) (he : E.length < 8388608) :
    Calls Try.prog 53 #[.pointer (some ⟨r, 0, none⟩), .int .i64 x] w fun e w' => e = .returned (.tuple #[.int .u64 (n64 (cl C x.toNat)), .int .i64 0]) ∧ RfTo w F r C (E ++ [(1, x.toNat)]) w' := by
  have HS := Lib.hid (rstep_ok h 1 (by decide) x h0 h1 he)
  obtain ⟨x, rfl⟩ := Int.eq_ofNat_of_zero_le h0
  go_enter Try.func53, Try.ntmps53
  go_wp2_with fail
  refine HS.out.mono ?_
  rintro e w1 ⟨rfl, hw⟩
  have HW := Lib.hid hw
  obtain ⟨⟨cb, ev, rg, h⟩, ho⟩ := hw
  have c0 := h.top.cell 0
  have hx : x < C.length := by omega
  have cx := h.cel.cell x
  rw [List.getElem?_toArray, getElem_u64s _ _ hx] at cx
  simp only [List.getElem?_toArray, List.getElem?_cons_zero] at c0
  clear h ho
  go_wp2
  go_ret2
  exact ⟨rfl, HW.out⟩
set_option maxHeartbeats 400000 in
theorem rcells_ok (h : Rf w F r C E) : Calls Try.prog 30 #[.pointer (some ⟨r, 0, none⟩)] w (NewU w C) := by
  obtain ⟨i0, hi, hz0, hz1, hz2⟩ := info_parts Try.infoU
  have HN := Lib.hid (rnone_ok h)
  have h2 := h.n2
  obtain ⟨cb, ev, rg, h⟩ := h
  have hcb := h.cel.lt
  have HC := Lib.hid h.cel
  have hlt := h.top.lt
  have c0 := h.top.cell 0
  simp only [List.getElem?_toArray, List.getElem?_cons_zero] at c0
  clear h
  go_enter Try.func30, Try.ntmps30
  go_wp2_with fail
  refine HN.out.mono ?_
  rintro e w' ⟨rfl, rfl⟩
  have c0' : (w.alloc (.cells #[] 39)).cell? ⟨r, 0, none⟩ = some (.slice (some ⟨cb, 0, none⟩) C.length C.length) := by rw [World.cell?_alloc_lt _ _ _ hlt]; exact c0
  go_wp2_with (at_builtin; refine wpList_append_own_at _ rfl _ _ 58 rfl w.heap.size 39 i0 (.int .u64 0) 1 8 Try.underlying58 hi hz0 hz1 hz2 rfl (by decide) (.slice (some ⟨w.heap.size, 0, none⟩) 0 0) 0 [] rfl ?c0 ⟨cb, 0, none⟩ C.length C.length (u64s C) rfl ?c6 ?c1 ?c2 ?c3 ?c4 ?c5 ?_)
  case c0 => exact World.ownsRow_made w #[] 0 (Nat.le_refl _) (Nat.zero_le _) rfl
  case c6 => rw [length_u64s]; omega
  case c1 => intro j u hu; rw [add_addr, World.cell?_alloc_lt _ _ _ hcb, Nat.zero_add, HC.out.cell]; simpa using hu
  case c2 => exact u64s_one C
  case c3 => unfold maxLen; omega
  case c4 => omega
  case c5 => simp
  intro v' w1 hown' hgrow hnil hat
  have HR : Hid (w1.ownsRow w.heap.size 39 1 v' C.length (u64s C)) := hown'
  have HO : Hid (Off Nob w w1) := Off.grown (Off.alloc (Off.refl _ _) _) hgrow (fun k hk => by simp [Value.ownBlock] at hk; right; omega)
  clear hown' hgrow hnil hat
  go_wp2
  go_ret
  exact ⟨_, rfl, HR.out, HO.out⟩
end
theorem rhas_nil (w : World) (x k : Int) :
    Calls Try.prog 49 #[.pointer none, .int .i64 x, .int .i64 k] w fun e w' => e = .returned (.int .i64 1) ∧ w = w' := by
  go_enter Try.func49, Try.ntmps49
  go_wp2
  go_ret
  exact ⟨rfl, rfl⟩
end Go.Proofs.Ytlefjlclhmapaaa
