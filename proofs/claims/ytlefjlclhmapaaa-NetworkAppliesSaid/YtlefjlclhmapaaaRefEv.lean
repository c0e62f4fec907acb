/-
  The specification's arena: Since (from the first step on) and Events.
-/
import Derived.Test.YtlefjlclhmapaaaRefAll
import Derived.Laws.AppendOwnNone
namespace Go.Proofs.Ytlefjlclhmapaaa
open Go.RowKit
set_option maxRecDepth 100000
section
variable {w : World} {F : Nat → Prop} {r : Nat} {C : List (BitVec 64)} {E : List Ev}
set_option maxHeartbeats 400000 in
theorem rsince_some {cb g c : Nat} {rg : Value} (h : RfAt w F r C E cb (.slice (some ⟨g, 0, none⟩) E.length c) rg) (hg : g < w.heap.size) (_ : E.length ≤ c) :
    Calls Try.prog 69 #[.pointer (some ⟨r, 0, none⟩), .int .i64 0] w (NewE2 w E) := by
  obtain ⟨i0, hi, hz0, hz1, hz2⟩ := info_parts Try.infoEv
  have HN := Lib.hid (rnone_ok ⟨cb, _, rg, h⟩)
  have h2 := h.e2
  have HW := Lib.hid h.own
  have hlt := h.top.lt
  have c2 := h.top.cell 2
  simp only [List.getElem?_toArray, List.getElem?_cons_succ, List.getElem?_cons_zero] at c2
  clear h
  go_enter Try.func69, Try.ntmps69
  go_wp2_with fail
  refine HN.out.mono ?_
  rintro e w' ⟨rfl, rfl⟩
  have c2' : (w.alloc (.cells #[] 103)).cell? ⟨r, 2, none⟩ = some (.slice (some ⟨g, 0, none⟩) E.length c) := by rw [World.cell?_alloc_lt _ _ _ hlt]; exact c2
  go_wp2_with (at_builtin; refine wpList_append_own_at _ rfl _ _ 71 rfl w.heap.size 103 i0 (.agg #[.int .i32 0, .int .i32 0]) 2 8 Try.underlying71 hi hz0 hz1 hz2 rfl (by decide) (.slice (some ⟨w.heap.size, 0, none⟩) 0 0) 0 [] rfl ?c0 ⟨g, 0, none⟩ E.length c (evs E) rfl ?c6 ?c1 ?c2 ?c3 ?c4 ?c5 ?_)
  case c0 => exact World.ownsRow_made w #[] 0 (Nat.le_refl _) (Nat.zero_le _) rfl
  case c6 => exact length_evs E
  case c1 =>
    intro j u hu
    have := HW.out.cells (g := g) rfl j u hu
    rw [add_addr] at this ⊢
    rw [World.cell?_alloc_lt _ _ _ hg]
    exact this
  case c2 => exact evs_one E
  case c3 => unfold maxLen; omega
  case c4 => omega
  case c5 => simp
  intro v' w1 hown' hgrow hnil hat
  have HR : Hid (w1.ownsRow w.heap.size 103 2 v' E.length (evs E)) := hown'
  have HO : Hid (Off Nob w w1) := Off.grown (Off.alloc (Off.refl _ _) _) hgrow (fun k hk => by simp [Value.ownBlock] at hk; right; omega)
  clear hown' hgrow hnil hat
  go_wp2
  go_ret2
  exact ⟨_, rfl, HR.out, HO.out⟩
set_option maxHeartbeats 400000 in
theorem rsince_none {cb : Nat} {rg : Value} (h : RfAt w F r C [] cb (.slice none 0 0) rg) :
    Calls Try.prog 69 #[.pointer (some ⟨r, 0, none⟩), .int .i64 0] w (NewE2 w []) := by
  obtain ⟨i0, hi, hz0, hz1, hz2⟩ := info_parts Try.infoEv
  have HN := Lib.hid (rnone_ok ⟨cb, _, rg, h⟩)
  have hlt := h.top.lt
  have c2 := h.top.cell 2
  simp only [List.getElem?_toArray, List.getElem?_cons_succ, List.getElem?_cons_zero] at c2
  clear h
  go_enter Try.func69, Try.ntmps69
  go_wp2_with fail
  refine HN.out.mono ?_
  rintro e w' ⟨rfl, rfl⟩
  have c2' : (w.alloc (.cells #[] 103)).cell? ⟨r, 2, none⟩ = some (.slice none 0 0) := by rw [World.cell?_alloc_lt _ _ _ hlt]; exact c2
  have HR : Hid ((w.alloc (.cells #[] 103)).ownsRow w.heap.size 103 2 (.slice (some ⟨w.heap.size, 0, none⟩) 0 0) 0 []) := World.ownsRow_made w #[] 0 (Nat.le_refl _) (Nat.zero_le _) rfl
  go_wp2_with (at_builtin; refine wpList_append_own_none rfl _ _ 71 rfl w.heap.size 103 i0 2 Try.underlying71 hi (.slice (some ⟨w.heap.size, 0, none⟩) 0 0) 0 [] rfl HR.out rfl ?_)
  go_ret2
  exact ⟨_, rfl, HR.out, Off.alloc (Off.refl _ _) _⟩
theorem rsince_ok (h : Rf w F r C E) : Calls Try.prog 69 #[.pointer (some ⟨r, 0, none⟩), .int .i64 0] w (NewE2 w E) := by
  obtain ⟨cb, ev, rg, h⟩ := h
  rcases h.own.2 with ⟨rfl, h0⟩ | ⟨g, cap, cur, rfl, _, hg, hc, _⟩
  · have : E = [] := List.eq_nil_of_length_eq_zero h0
    subst this
    exact rsince_none h
  · exact rsince_some h (Array.getElem?_eq_some_iff.1 hg).1 hc
theorem revents_ok (h : Rf w F r C E) : Calls Try.prog 57 #[.pointer (some ⟨r, 0, none⟩)] w (NewE w E) := by
  have HF := Lib.hid (rsince_ok h)
  clear h
  go_enter Try.func57, Try.ntmps57
  go_wp2_with fail
  refine HF.out.mono ?_
  rintro e w1 ⟨v, rfl, h1, h2⟩
  have H1 := Lib.hid h1
  have H2 := Lib.hid h2
  clear h1 h2
  go_wp2
  go_ret
  exact ⟨_, rfl, H1.out, H2.out⟩
end
end Go.Proofs.Ytlefjlclhmapaaa
