/-
  slots.Read.
-/
import Derived.Test.YtonkhgmfeakbcaaSlWr
import Derived.LoopNIn
import Derived.BigFrameIn
namespace Go.Proofs.Ytonkhgmfeakbcaa
open Go.RowKit Go.Shelf
attribute [local go_sem] Oper.semAt_some
set_option linter.unusedVariables false
set_option linter.unusedSimpArgs false
set_option maxRecDepth 100000
theorem made_slots (n : Nat) : (madeCells #[.int .u64 0, .int .u64 0, .int .u64 0] (n * 3)).toList = slC (List.replicate n sl0) := by
  unfold sl0
  rw [slC_replicate]
  apply List.ext_getElem
  · simp [madeCells]
  · intro i h1 h2
    simp only [madeCells, List.getElem_replicate, Value.cells]
    have hlt : i % 3 < 3 := Nat.mod_lt _ (by decide)
    have : i % 3 = 0 ∨ i % 3 = 1 ∨ i % 3 = 2 := by omega
    rcases this with e | e | e <;> simp [e]
theorem Wk.cellx {w0 w : World} {F : Nat → Prop} {bs : Bks} {p g : Nat} {t : TypeId} {cs : Array Value} {C : List (BitVec 64)} {E : List Ev} (h : Wk w0 F w ((g, t, cs) :: bs) p C E) (i : Nat) (hi : i < cs.size) : (∃ u, w.cell? ⟨g, i, none⟩ = some u) ∧ w.frozen? ⟨g, i, none⟩ = false := by
  have hb := h.blk (List.mem_cons_self ..)
  exact ⟨⟨cs[i], (hb.cell i).trans (Array.getElem?_eq_getElem hi)⟩, hb.frozen i⟩
section
variable {w : World} {F : Nat → Prop} {p : Nat} {C : List (BitVec 64)} {E : List Ev}
set_option maxHeartbeats 4000000 in
theorem read_ok (h : Ar w F p C E) (base n : Nat) (hz : ckS C.length E.length base n = 0) :
    Calls Try.prog 21 #[.pointer (some ⟨p, 0, none⟩), .int .i64 (base : Int), .int .i64 (n : Int)] w fun e w' => ∃ g, e = .returned (.tuple #[.slice (some ⟨g, 0, none⟩) n n, .int .i64 0]) ∧ Wk w F w' [(g, 75, (slC (rdL base C n)).toArray)] p C (rdE base E n) := by
  obtain ⟨g1, g2, g3, g4, g5⟩ := ckS_zero hz
  have hn2 := h.n2
  obtain ⟨i0, hi, hz0, hz1, hz2⟩ := info_parts Try.infoSl
  have hmk : ∀ w, (Instr.makeSlice 22 (.int .i64 (n : Int)) (.int .i64 (n : Int))).run Try.prog w = .ok (.slice (some ⟨w.heap.size, 0, none⟩) n n) (w.alloc (.cells (slC (List.replicate n sl0)).toArray 75)) := fun w => by
    have := run_makeSlice (P := Try.prog) (w := w) 22 75 i0 _ Try.underlying22 hi hz0 .i64 .i64 (n : Int) (n : Int) (by omega) (by omega) (by rw [hz1]; omega) (by rw [hz2]; omega) (by omega)
    rw [this]
    congr 3
    apply Array.ext'
    rw [Int.toNat_natCast, hz1]
    exact made_slots n
  have HW := Lib.hid ((Wk.start h).push 42 #[.pointer (some ⟨p, 0, none⟩)])
  have HCK : Hid (∀ w F, Ar w F p C E → Calls Try.prog 45 #[.pointer (some ⟨p, 0, none⟩), .int .i64 (base : Int), .int .i64 (n : Int)] w fun e w' => e = .returned (.int .i64 0) ∧ w = w') := Lib.hid (fun w F ha => by have := check_any ha (base : Int) (n : Int); rwa [hz] at this)
  clear h hz hi hz0 hz1 hz2
  refine (callsIn_wide (n := 4)).1 ?_
  refine callsIn_of_wp_marks Try.func21 rfl trivial ?_ rfl
  simp only [Try.ntmps21, List.size_toArray, List.length_cons, List.length_nil, Nat.reduceAdd, Nat.reduceSub, Array.replicate_succ, Array.replicate_zero, List.push_toArray, List.append_toArray, List.nil_append, List.cons_append]
  gi_wp2_with fail
  refine ⟨trivial, ?_⟩
  refine monoInS ((HCK.out _ _ HW.out.ar.choose_spec)) ?_
  rintro e w' ⟨rfl, rfl⟩
  gi_wp2_with fail
  refine ⟨trivial, ?_⟩
  refine monoInS (row_any (base : Int) (n : Int) _) ?_
  rintro e w' ⟨rfl, rfl⟩
  gi_wp2_with fail
  obtain ⟨W0, hW0⟩ : ∃ W0, (((((w.alloc (.cells #[.pointer (some ⟨p, 0, none⟩)] 42)).alloc (.cells (slC (List.replicate n sl0)).toArray 75)).alloc (.cells #[.slice (some ⟨w.heap.size + 1, 0, none⟩) n n] 22)).alloc (.cells #[.int .i64 (base : Int)] 3)).alloc (.cells #[.int .i64 (n : Int)] 3)) = W0 := ⟨_, rfl⟩
  have HS : Hid (W0.heap.size = w.heap.size + 5) := Lib.hid (by rw [← hW0]; simp)
  have HW0 := (((HW.out.push 75 (slC (List.replicate n sl0)).toArray).push 22 #[.slice (some ⟨w.heap.size + 1, 0, none⟩) n n]).push 3 #[.int .i64 (base : Int)]).push 3 #[.int .i64 (n : Int)]
  simp only [World.size_alloc] at HW0
  rw [hW0] at HW0 ⊢
  obtain ⟨s, hs⟩ : ∃ s, w.heap.size = s := ⟨_, rfl⟩
  have HSS := Lib.hid hs
  rw [hs] at HW0 HS ⊢
  have HWK : Hid (Wk w F W0 [(s + 1, 75, (slC (List.replicate n sl0)).toArray), (s + 1 + 1 + 1 + 1, 3, #[.int .i64 (n : Int)]), (s + 1 + 1 + 1, 3, #[.int .i64 (base : Int)]), (s + 1 + 1, 22, #[.slice (some ⟨s + 1, 0, none⟩) n n]), (s, 42, #[.pointer (some ⟨p, 0, none⟩)])] p C E) := Lib.hid (HW0.sub (fun x hx => by simp only [List.mem_cons] at hx ⊢; rcases hx with h | h | h | h | h; exact .inr (.inr (.inr (.inl h))); exact .inl h; exact .inr (.inl h); exact .inr (.inr (.inl h)); exact .inr (.inr (.inr (.inr h)))) (by simp; omega))
  have hbl := HW0.blk (b := s + 1 + 1 + 1) (t := 3) (cs := #[.int .i64 (base : Int)]) (by simp)
  have hbl1 := HW0.blk (b := s + 1 + 1 + 1 + 1) (t := 3) (cs := #[.int .i64 (n : Int)]) (by simp)
  clear hW0 hs HW0 HW HCK hmk
  apply wpIn_rangeFunc_ownG (F := Fence.wide) (n := 4) rfl (by decide) (gf := 62) (lb := #[.pointer (some ⟨s + 1 + 1 + 1 + 1, 0, none⟩), .pointer (some ⟨s + 1 + 1 + 1, 0, none⟩)]) rfl trivial (enters_of Try.func62 (by kernel_rfl) rfl)
    (row_stops (4 - 1) (by decide) (s + 1 + 1 + 1) base n (by omega) (by omega) W0 hbl hbl1) (fun h k => kpB_t h k) (kpB_b (fun b hb => by rw [HS.out]; simp at hb; omega)) (Below.refl _ _) (fun _ => rfl)
    (fun (pre : List {x : Nat // x ∈ List.range n}) W => Wk w F W [(s + 1, 75, (slC (rdF base C (List.replicate n sl0, E) (pre.map Subtype.val)).1).toArray), (s + 1 + 1 + 1 + 1, 3, #[.int .i64 (n : Int)]), (s + 1 + 1 + 1, 3, #[.int .i64 (base : Int)]), (s + 1 + 1, 22, #[.slice (some ⟨s + 1, 0, none⟩) n n]), (s, 42, #[.pointer (some ⟨p, 0, none⟩)])] p C (rdF base C (List.replicate n sl0, E) (pre.map Subtype.val)).2)
    (fun _ _ _ => False) (wk_own (by rw [HS.out]; have := HSS.out; omega) _ _ _ _) (fun _ _ _ _ _ hs _ _ => hs) HWK.out
  case hassign =>
    intro l x W K hK
    simp only [rowV]
    gi_wp2
    exact hK
  case hbody =>
    rintro l pre x W hi hlt
    obtain ⟨i, hx⟩ := x
    have hin : i < n := List.mem_range.1 hx
    obtain ⟨hl1, hl2⟩ := rdF_len base C (List.replicate n sl0, E) (pre.map Subtype.val)
    rw [List.length_map] at hl2
    have HNX := Lib.hid (show (pre ++ [(⟨i, hx⟩ : {x // x ∈ List.range n})]).map Subtype.val = pre.map Subtype.val ++ [i] by simp)
    have HAP := Lib.hid (rdF_snoc base C (List.replicate n sl0, E) (pre.map Subtype.val) i)
    rw [← HNX.out] at HAP
    dsimp only at hl1 hl2 hlt ⊢
    rw [List.length_range] at hlt
    rw [List.length_replicate] at hl1
    generalize pre ++ [(⟨i, hx⟩ : {x // x ∈ List.range n})] = nx at HNX HAP ⊢
    obtain ⟨⟨A1, E1⟩, hAE⟩ : ∃ x, rdF base C (List.replicate n sl0, E) (pre.map Subtype.val) = x := ⟨_, rfl⟩
    rw [hAE] at hi hl1 hl2 HAP
    dsimp only at hi hl1 hl2
    have HI := Lib.hid hi
    have c2 : W.cell? ⟨s + 1 + 1, 0, none⟩ = some (.slice (some ⟨s + 1, 0, none⟩) n n) := (hi.blk (b := s + 1 + 1) (t := 22) (cs := #[.slice (some ⟨s + 1, 0, none⟩) n n]) (by simp)).cell 0
    have HBL := Lib.hid (And.intro (hi.blk (b := s + 1 + 1 + 1) (t := 3) (cs := #[.int .i64 (base : Int)]) (by simp)) (hi.blk (b := s + 1 + 1 + 1 + 1) (t := 3) (cs := #[.int .i64 (n : Int)]) (by simp)))
    obtain ⟨B3, hB3⟩ : ∃ B3, W.heap.size = B3 := ⟨_, rfl⟩
    have HB3 := Lib.hid hB3
    obtain ⟨x0, hx0⟩ : ∃ x, cl C (base + 3 * i) = x := ⟨_, rfl⟩
    obtain ⟨x1, hx1⟩ : ∃ x, cl C (base + 3 * i + 1) = x := ⟨_, rfl⟩
    obtain ⟨x2, hx2⟩ : ∃ x, cl C (base + 3 * i + 2) = x := ⟨_, rfl⟩
    have HX := Lib.hid (And.intro hx0 (And.intro hx1 hx2))
    clear hi hx hAE HNX hB3 hx0 hx1 hx2
    gi_wp2_with fail
    rename_i K8 hK8
    refine round_held (S := fun W => W.cell? ⟨s + 1 + 1, 0, none⟩ = some (.slice (some ⟨s + 1, 0, none⟩) n n)) (by kernel_rfl) (by kernel_rfl) (fun ⟨_, _, h⟩ => h) c2 (fun hHeld => ?_)
    refine wpAnyH_take (i := 0) (v := ?v0) rfl (by kernel_rfl) (by kernel_rfl) (by kernel_rfl) (fun _ _ _ h => h) (Or.inl ⟨by rfl, ?h0⟩) (by assumption) ?r0
    case h0 => (intro w hSw; (try dsimp only at hSw); go_simp <;> with_reducible rfl)
    try simp only [Act.put, List.getElem_toArray, List.getElem_cons_zero, List.getElem_cons_succ, List.setIfInBounds_toArray, List.set_cons_zero, List.set_cons_succ]
    refine wpAnyH_take (i := 1) (v := ?v1) rfl (by kernel_rfl) (by kernel_rfl) (by kernel_rfl) (fun _ _ _ h => h) (Or.inl ⟨by rfl, ?h1⟩) (by assumption) ?r1
    case h1 => (intro w hSw; (try dsimp only at hSw); go_simp <;> with_reducible rfl)
    try simp only [Act.put, List.getElem_toArray, List.getElem_cons_zero, List.getElem_cons_succ, List.setIfInBounds_toArray, List.set_cons_zero, List.set_cons_succ]
    refine wpAnyH_take (i := 2) (v := ?v2) rfl (by kernel_rfl) (by kernel_rfl) (by kernel_rfl) (fun _ _ _ h => h) (Or.inl ⟨by rfl, ?h2⟩) (by assumption) ?r2
    case h2 => (intro w hSw; (try dsimp only at hSw); go_simp <;> with_reducible rfl)
    try simp only [Act.put, List.getElem_toArray, List.getElem_cons_zero, List.getElem_cons_succ, List.setIfInBounds_toArray, List.set_cons_zero, List.set_cons_succ]
    refine wpAnyH_take (i := 3) (v := ?v3) rfl (by kernel_rfl) (by kernel_rfl) (by kernel_rfl) (fun _ _ _ h => h) (Or.inl ⟨by rfl, ?h3⟩) (by assumption) ?r3
    case h3 => (intro w hSw; (try dsimp only at hSw); go_simp <;> with_reducible rfl)
    try simp only [Act.put, List.getElem_toArray, List.getElem_cons_zero, List.getElem_cons_succ, List.setIfInBounds_toArray, List.set_cons_zero, List.set_cons_succ]
    refine wpAnyH_take (i := 4) (v := ?v4) rfl (by kernel_rfl) (by kernel_rfl) (by kernel_rfl) (fun _ _ _ h => h) (Or.inl ⟨by rfl, ?h4⟩) (by assumption) ?r4
    case h4 => (intro w hSw; (try dsimp only at hSw); go_simp <;> with_reducible rfl)
    try simp only [Act.put, List.getElem_toArray, List.getElem_cons_zero, List.getElem_cons_succ, List.setIfInBounds_toArray, List.set_cons_zero, List.set_cons_succ]
    refine wpAnyH_take (i := 5) (v := ?v5) rfl (by kernel_rfl) (by kernel_rfl) (by kernel_rfl) (fun _ _ _ h => h) (Or.inl ⟨by rfl, ?h5⟩) (by assumption) ?r5
    case h5 => (intro w hSw; (try dsimp only at hSw); go_simp <;> with_reducible rfl)
    try simp only [Act.put, List.getElem_toArray, List.getElem_cons_zero, List.getElem_cons_succ, List.setIfInBounds_toArray, List.set_cons_zero, List.set_cons_succ]
    refine wpAnyH_take (i := 6) (v := ?v6) rfl (by kernel_rfl) (by kernel_rfl) (by kernel_rfl) (fun _ _ _ h => h) (Or.inl ⟨by rfl, ?h6⟩) (by assumption) ?r6
    case h6 => (intro w hSw; (try dsimp only at hSw); go_simp <;> with_reducible rfl)
    try simp only [Act.put, List.getElem_toArray, List.getElem_cons_zero, List.getElem_cons_succ, List.setIfInBounds_toArray, List.set_cons_zero, List.set_cons_succ]
    refine wpAnyH_take (i := 7) (v := ?v7) rfl (by kernel_rfl) (by kernel_rfl) (by kernel_rfl) (fun _ _ _ h => h) (Or.inl ⟨by rfl, ?h7⟩) (by assumption) ?r7
    case h7 => (intro w hSw; (try dsimp only at hSw); go_simp <;> with_reducible rfl)
    try simp only [Act.put, List.getElem_toArray, List.getElem_cons_zero, List.getElem_cons_succ, List.setIfInBounds_toArray, List.set_cons_zero, List.set_cons_succ]
    refine wpAnyH_take (i := 8) (v := ?v8) rfl (by kernel_rfl) (by kernel_rfl) (by kernel_rfl) (fun _ _ _ h => h) (Or.inl ⟨by rfl, ?h8⟩) (by assumption) ?r8
    case h8 => (intro w hSw; (try dsimp only at hSw); go_simp <;> with_reducible rfl)
    try simp only [Act.put, List.getElem_toArray, List.getElem_cons_zero, List.getElem_cons_succ, List.setIfInBounds_toArray, List.set_cons_zero, List.set_cons_succ]
    refine wpAnyH_take (i := 9) (v := ?v9) rfl (by kernel_rfl) (by kernel_rfl) (by kernel_rfl) (fun _ _ _ h => h) (Or.inl ⟨by rfl, ?h9⟩) (by assumption) ?r9
    case h9 => (intro w hSw; (try dsimp only at hSw); go_simp <;> with_reducible rfl)
    try simp only [Act.put, List.getElem_toArray, List.getElem_cons_zero, List.getElem_cons_succ, List.setIfInBounds_toArray, List.set_cons_zero, List.set_cons_succ]
    refine wpAnyH_take (i := 10) (v := ?v10) rfl (by kernel_rfl) (by kernel_rfl) (by kernel_rfl) (fun _ _ _ h => h) (Or.inl ⟨by rfl, ?h10⟩) (by assumption) ?r10
    case h10 => (intro w hSw; (try dsimp only at hSw); go_simp <;> with_reducible rfl)
    try simp only [Act.put, List.getElem_toArray, List.getElem_cons_zero, List.getElem_cons_succ, List.setIfInBounds_toArray, List.set_cons_zero, List.set_cons_succ]
    refine wpAnyH_take (i := 11) (v := ?v11) rfl (by kernel_rfl) (by kernel_rfl) (by kernel_rfl) (fun _ _ _ h => h) (Or.inl ⟨by rfl, ?h11⟩) (by assumption) ?r11
    case h11 => (intro w hSw; (try dsimp only at hSw); go_simp <;> with_reducible rfl)
    try simp only [Act.put, List.getElem_toArray, List.getElem_cons_zero, List.getElem_cons_succ, List.setIfInBounds_toArray, List.set_cons_zero, List.set_cons_succ]
    refine wpAnyH_take (i := 14) (v := ?v12) rfl (by kernel_rfl) (by kernel_rfl) (by kernel_rfl) (fun _ _ _ h => h) (Or.inl ⟨by rfl, ?h12⟩) (by assumption) ?r12
    case h12 => (intro w hSw; (try dsimp only at hSw); go_simp <;> with_reducible rfl)
    try simp only [Act.put, List.getElem_toArray, List.getElem_cons_zero, List.getElem_cons_succ, List.setIfInBounds_toArray, List.set_cons_zero, List.set_cons_succ]
    refine wpAnyH_ready (rs := [12]) (by kernel_rfl) (by simp) ?_
    refine AllReadyH.cons rfl (fun K hK => ?s13) ?m13
    case s13 =>
      go_simp
      refine hK.out _ _ ?_ (fun hHeld => ?_)
      · first | with_reducible assumption | (first | with_reducible assumption | go_keep) | go_keep
      clear hK K
      try simp only [Act.put, List.getElem_toArray, List.getElem_cons_zero, List.getElem_cons_succ, List.setIfInBounds_toArray, List.set_cons_zero, List.set_cons_succ]
      refine wpAnyH_take (i := 13) (v := ?v14) rfl (by kernel_rfl) (by kernel_rfl) (by kernel_rfl) (fun _ _ _ h => h) (Or.inl ⟨by rfl, ?h14⟩) (by assumption) ?r14
      case h14 => (intro w hSw; (try dsimp only at hSw); go_simp <;> with_reducible rfl)
      try simp only [Act.put, List.getElem_toArray, List.getElem_cons_zero, List.getElem_cons_succ, List.setIfInBounds_toArray, List.set_cons_zero, List.set_cons_succ]
      refine wpAnyH_done (by kernel_rfl) ?_ _
      refine hK8 _ _ ?_
      rw [HB3.out]
      gi_wp2_with fail
      have H0 : Hid (Wk w F (W.drew.alloc (.cells #[.pointer (some ⟨s + 1, i * 3, none⟩), .pointer (some ⟨s + 1, i * 3 + 1, none⟩), .pointer (some ⟨s + 1, i * 3 + 2, none⟩)] 100)) [(s + 1, 75, (slC A1).toArray), (B3, 100, #[.pointer (some ⟨s + 1, i * 3, none⟩), .pointer (some ⟨s + 1, i * 3 + 1, none⟩), .pointer (some ⟨s + 1, i * 3 + 2, none⟩)]), (s + 1 + 1 + 1 + 1, 3, #[.int .i64 (n : Int)]), (s + 1 + 1 + 1, 3, #[.int .i64 (base : Int)]), (s + 1 + 1, 22, #[.slice (some ⟨s + 1, 0, none⟩) n n]), (s, 42, #[.pointer (some ⟨p, 0, none⟩)])] p C E1) := Lib.hid (by
        have := (HI.out.off (Off.drew (Off.refl _ _))).push 100 #[.pointer (some ⟨s + 1, i * 3, none⟩), .pointer (some ⟨s + 1, i * 3 + 1, none⟩), .pointer (some ⟨s + 1, i * 3 + 2, none⟩)]
        rw [World.size_drew, HB3.out] at this
        refine this.sub (fun x hx => ?_) ?_
        · simp only [List.mem_cons] at hx ⊢
          rcases hx with h | h | h
          · exact .inr (.inl h)
          · exact .inl h
          · exact .inr (.inr h)
        · have hnd := this.nodup
          simp only [List.map_cons, List.map_nil, List.nodup_cons, List.mem_cons, not_or] at hnd ⊢
          obtain ⟨⟨a1, a2⟩, a3, a4⟩ := hnd
          exact ⟨⟨fun e => a1 e.symm, a3⟩, a2, a4⟩)
      have K0 : Hid (KeepsOthers W (W.drew.alloc (.cells #[.pointer (some ⟨s + 1, i * 3, none⟩), .pointer (some ⟨s + 1, i * 3 + 1, none⟩), .pointer (some ⟨s + 1, i * 3 + 2, none⟩)] 100))) := Lib.hid ((KeepsOthers.drew W).trans (KeepsOthers.alloc _ _))
      clear c2 hHeld
      revert H0 K0
      rw [show W.drew.alloc (.cells #[.pointer (some ⟨s + 1, i * 3, none⟩), .pointer (some ⟨s + 1, i * 3 + 1, none⟩), .pointer (some ⟨s + 1, i * 3 + 2, none⟩)] 100) = (W.alloc (.cells #[.pointer (some ⟨s + 1, i * 3, none⟩), .pointer (some ⟨s + 1, i * 3 + 1, none⟩), .pointer (some ⟨s + 1, i * 3 + 2, none⟩)] 100)).drew from rfl]
      generalize (W.alloc (.cells #[.pointer (some ⟨s + 1, i * 3, none⟩), .pointer (some ⟨s + 1, i * 3 + 1, none⟩), .pointer (some ⟨s + 1, i * 3 + 2, none⟩)] 100)).drew = W9
      intro H0 K0
      refine wpIn_loop_rounds 4 ?_
      rw [roundsIn_succ]
      have c0 := (H0.out.blk (b := s) (t := 42) (cs := #[.pointer (some ⟨p, 0, none⟩)]) (by simp)).cell 0
      have c3 := (H0.out.blk (b := B3) (t := 100) (cs := #[.pointer (some ⟨s + 1, i * 3, none⟩), .pointer (some ⟨s + 1, i * 3 + 1, none⟩), .pointer (some ⟨s + 1, i * 3 + 2, none⟩)]) (by simp)).cell 0
      simp only [List.getElem?_toArray, List.getElem?_cons_succ, List.getElem?_cons_zero] at c0 c3
      have HC0 := Lib.hid (H0.out.callO (e0 := .returned (.tuple #[.int .u64 (n64 x0), .int .i64 0])) (C2 := C) (E2 := (E1 ++ [(1, base + 3 * i)])) (P := Try.prog) (f := 43) (xs := #[.pointer (some ⟨p, 0, none⟩), .int .i64 ((base : Int) + 3 * (i : Int))]) (fun w1 F1 ha => by
        have := load_ok ha ((base : Int) + 3 * (i : Int)) (by omega) (by omega) (by omega)
        rw [show ((base : Int) + 3 * (i : Int)).toNat = base + 3 * i by omega, HX.out.1] at this
        exact this))
      gi_wp2_with fail
      refine ⟨trivial, ?_⟩
      refine (CallsIn.inRound l (monoInS HC0.out (fun _ _ h => h))).mono ?_
      rintro e V0 ⟨rfl, h0, hk0⟩
      obtain ⟨⟨u0, t0⟩, f0⟩ := h0.cellx (i * 3) (by simp only [Array.size_setIfInBounds, List.size_toArray]; rw [slC_len]; omega)
      have H1 := Lib.hid (h0.put (i * 3) (.int .u64 (n64 x0)))
      have K1 := Lib.hid ((K0.out.trans hk0).trans (KeepsOthers.setCell V0 ⟨s + 1, i * 3, none⟩ (.int .u64 (n64 x0))))
      clear h0 hk0 HC0 H0 K0 c0 c3
      gi_wp2_with fail
      clear t0 f0
      rw [roundsIn_succ]
      have c0 := (H1.out.blk (b := s) (t := 42) (cs := #[.pointer (some ⟨p, 0, none⟩)]) (by simp)).cell 0
      have c3 := (H1.out.blk (b := B3) (t := 100) (cs := #[.pointer (some ⟨s + 1, i * 3, none⟩), .pointer (some ⟨s + 1, i * 3 + 1, none⟩), .pointer (some ⟨s + 1, i * 3 + 2, none⟩)]) (by simp)).cell 1
      simp only [List.getElem?_toArray, List.getElem?_cons_succ, List.getElem?_cons_zero] at c0 c3
      have HC1 := Lib.hid (H1.out.callO (e0 := .returned (.tuple #[.int .u64 (n64 x1), .int .i64 0])) (C2 := C) (E2 := ((E1 ++ [(1, base + 3 * i)]) ++ [(1, base + 3 * i + 1)])) (P := Try.prog) (f := 43) (xs := #[.pointer (some ⟨p, 0, none⟩), .int .i64 ((base : Int) + 3 * (i : Int) + 1)]) (fun w1 F1 ha => by
        have := load_ok ha ((base : Int) + 3 * (i : Int) + 1) (by omega) (by omega) (by simp; omega)
        rw [show ((base : Int) + 3 * (i : Int) + 1).toNat = base + 3 * i + 1 by omega, HX.out.2.1] at this
        exact this))
      gi_wp2_with fail
      refine ⟨trivial, ?_⟩
      refine (CallsIn.inRound l (monoInS HC1.out (fun _ _ h => h))).mono ?_
      rintro e V1 ⟨rfl, h1, hk1⟩
      obtain ⟨⟨u1, t1⟩, f1⟩ := h1.cellx (i * 3 + 1) (by simp only [Array.size_setIfInBounds, List.size_toArray]; rw [slC_len]; omega)
      have H2 := Lib.hid (h1.put (i * 3 + 1) (.int .u64 (n64 x1)))
      have K2 := Lib.hid ((K1.out.trans hk1).trans (KeepsOthers.setCell V1 ⟨s + 1, i * 3 + 1, none⟩ (.int .u64 (n64 x1))))
      clear h1 hk1 HC1 H1 K1 c0 c3
      gi_wp2_with fail
      clear t1 f1
      rw [roundsIn_succ]
      have c0 := (H2.out.blk (b := s) (t := 42) (cs := #[.pointer (some ⟨p, 0, none⟩)]) (by simp)).cell 0
      have c3 := (H2.out.blk (b := B3) (t := 100) (cs := #[.pointer (some ⟨s + 1, i * 3, none⟩), .pointer (some ⟨s + 1, i * 3 + 1, none⟩), .pointer (some ⟨s + 1, i * 3 + 2, none⟩)]) (by simp)).cell 2
      simp only [List.getElem?_toArray, List.getElem?_cons_succ, List.getElem?_cons_zero] at c0 c3
      have HC2 := Lib.hid (H2.out.callO (e0 := .returned (.tuple #[.int .u64 (n64 x2), .int .i64 0])) (C2 := C) (E2 := (((E1 ++ [(1, base + 3 * i)]) ++ [(1, base + 3 * i + 1)]) ++ [(1, base + 3 * i + 2)])) (P := Try.prog) (f := 43) (xs := #[.pointer (some ⟨p, 0, none⟩), .int .i64 ((base : Int) + 3 * (i : Int) + 2)]) (fun w1 F1 ha => by
        have := load_ok ha ((base : Int) + 3 * (i : Int) + 2) (by omega) (by omega) (by simp; omega)
        rw [show ((base : Int) + 3 * (i : Int) + 2).toNat = base + 3 * i + 2 by omega, HX.out.2.2] at this
        exact this))
      gi_wp2_with fail
      refine ⟨trivial, ?_⟩
      refine (CallsIn.inRound l (monoInS HC2.out (fun _ _ h => h))).mono ?_
      rintro e V2 ⟨rfl, h2, hk2⟩
      obtain ⟨⟨u2, t2⟩, f2⟩ := h2.cellx (i * 3 + 2) (by simp only [Array.size_setIfInBounds, List.size_toArray]; rw [slC_len]; omega)
      have H3 := Lib.hid (h2.put (i * 3 + 2) (.int .u64 (n64 x2)))
      have K3 := Lib.hid ((K2.out.trans hk2).trans (KeepsOthers.setCell V2 ⟨s + 1, i * 3 + 2, none⟩ (.int .u64 (n64 x2))))
      clear h2 hk2 HC2 H2 K2 c0 c3
      gi_wp2_with fail
      clear t2 f2
      rw [roundsIn_succ]
      gi_wp2_with fail
      refine ⟨K3.out.from _, fun y hy => ?_, ?_⟩
      · simp at hy
        rcases hy with rfl | rfl
        · exact (H3.out.blk (b := s + 1 + 1 + 1) (t := 3) (cs := #[.int .i64 (base : Int)]) (by simp)).trans HBL.out.1.symm
        · exact (H3.out.blk (b := s + 1 + 1 + 1 + 1) (t := 3) (cs := #[.int .i64 (n : Int)]) (by simp)).trans HBL.out.2.symm
      · have := H3.out.sub (bs2 := [(s + 1, 75, (slC (rdP base C (A1, E1) i).1).toArray), (s + 1 + 1 + 1 + 1, 3, #[.int .i64 (n : Int)]), (s + 1 + 1 + 1, 3, #[.int .i64 (base : Int)]), (s + 1 + 1, 22, #[.slice (some ⟨s + 1, 0, none⟩) n n]), (s, 42, #[.pointer (some ⟨p, 0, none⟩)])]) (fun x hx => by
          rcases List.mem_cons.1 hx with rfl | hx
          · have e : (slC (rdP base C (A1, E1) i).1).toArray = ((((slC A1).toArray.setIfInBounds (i * 3) (.int .u64 (n64 x0))).setIfInBounds (i * 3 + 1) (.int .u64 (n64 x1))).setIfInBounds (i * 3 + 2) (.int .u64 (n64 x2))) := by
              apply Array.ext'
              simp only [List.setIfInBounds_toArray]
              rw [← HX.out.1, ← HX.out.2.1, ← HX.out.2.2]
              exact (slC_set A1 i (rdV C (base + 3 * i))).symm
            rw [e]
            exact List.mem_cons_self ..
          · exact List.mem_cons_of_mem _ (List.mem_cons_of_mem _ hx)) (by simp; omega)
        dsimp only
        rw [HAP.out]
        exact this
    exact AllReadyH.nil
  case hdone =>
    rintro D xs W hD hxs hi hK
    rw [hxs, rdF_range _ _ _ _ _ (Nat.le_refl _), rdM_all] at hi
    dsimp only at hi
    have hb := hi.blk (b := s + 1 + 1) (t := 22) (cs := #[.slice (some ⟨s + 1, 0, none⟩) n n]) (by simp)
    have c2 := hb.cell 0
    have HU := Lib.hid ((hi.unmark (o' := .deferred none) (by rw [HS.out] at hD; have := HSS.out; omega) hK rfl).sub (bs2 := [(s + 1, 75, (slC (rdL base C n)).toArray)]) (fun x hx => by simp at hx; subst hx; exact List.mem_cons_self ..) (by simp))
    have HK := Lib.hid hK
    clear hi hK hxs hb
    gi_wp2_with fail
    refine ⟨by simp, .inl ⟨_, _, rfl, run_takeDeferred HK.out, ?_⟩⟩
    exact ⟨.tuple #[.slice (some ⟨s + 1, 0, none⟩) n n, .int .i64 0], by simp [results, Try.f21, go_sem], s + 1, rfl, HU.out⟩
  case hstop =>
    rintro D c pre W _ _ h _
    exact h.elim
end
end Go.Proofs.Ytonkhgmfeakbcaa
