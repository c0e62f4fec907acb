/-
  slots.Wipe and slots.Write.
-/
import Derived.Test.YtonkhgmfeakbcaaSlOps
import Derived.Test.YtonkhgmfeakbcaaRound
import Derived.Deep.MidRow
namespace Go.Proofs.Ytonkhgmfeakbcaa
open Go.RowKit Go.Shelf
attribute [local go_sem] Oper.semAt_some
set_option linter.unusedVariables false
set_option linter.unusedSimpArgs false
set_option maxRecDepth 100000
theorem monoInS {n : Nat} {P : Program} {f : FuncId} {args : Array Value} {w : World} {R R' : Ending → World → Prop} (h : Calls P f args w R) (hr : ∀ e w', R e w' → R' e w') : CallsIn Fence.wide n P f args w R' := callsIn_wide.2 (h.mono hr)
section
variable {w : World} {F : Nat → Prop} {p : Nat} {C : List (BitVec 64)} {E : List Ev}
set_option maxHeartbeats 4000000 in
theorem wipe_ok (h : Ar w F p C E) (base n : Nat) (hz : ckS C.length E.length base n = 0) :
    Calls Try.prog 31 #[.pointer (some ⟨p, 0, none⟩), .int .i64 (base : Int), .int .i64 (n : Int)] w fun e w' => e = .returned (.int .i64 0) ∧ ArTo w F p (wrS base (fun _ => sl0) (C, E) n).1 (wrS base (fun _ => sl0) (C, E) n).2 w' := by
  obtain ⟨g1, g2, g3, g4, g5⟩ := ckS_zero hz
  have hn2 := h.n2
  have HW := Lib.hid ((Wk.start h).push 42 #[.pointer (some ⟨p, 0, none⟩)])
  have HCK : Hid (∀ w F, Ar w F p C E → Calls Try.prog 45 #[.pointer (some ⟨p, 0, none⟩), .int .i64 (base : Int), .int .i64 (n : Int)] w fun e w' => e = .returned (.int .i64 0) ∧ w = w') := Lib.hid (fun w F ha => by have := check_any ha (base : Int) (n : Int); rwa [hz] at this)
  clear h hz
  refine (callsIn_wide (n := 4)).1 ?_
  refine callsIn_of_wp_marks Try.func31 rfl trivial ?_ rfl
  simp only [Try.ntmps31, List.size_toArray, List.length_cons, List.length_nil, Nat.reduceAdd, Nat.reduceSub, Array.replicate_succ, Array.replicate_zero, List.push_toArray, List.append_toArray, List.nil_append, List.cons_append]
  gi_wp2_with fail
  refine ⟨trivial, ?_⟩
  refine monoInS ((HCK.out _ _ HW.out.ar.choose_spec)) ?_
  rintro e w' ⟨rfl, rfl⟩
  gi_wp2_with fail
  refine ⟨trivial, ?_⟩
  refine monoInS (row_any (base : Int) (n : Int) _) ?_
  rintro e w' ⟨rfl, rfl⟩
  gi_wp2_with fail
  obtain ⟨W0, hW0⟩ : ∃ W0, (((w.alloc (.cells #[.pointer (some ⟨p, 0, none⟩)] 42)).alloc (.cells #[.int .i64 (base : Int)] 3)).alloc (.cells #[.int .i64 (n : Int)] 3)) = W0 := ⟨_, rfl⟩
  have HS : Hid (W0.heap.size = w.heap.size + 3) := Lib.hid (by rw [← hW0]; simp)
  have HW0 := (HW.out.push 3 #[.int .i64 (base : Int)]).push 3 #[.int .i64 (n : Int)]
  simp only [World.size_alloc] at HW0
  rw [hW0] at HW0 ⊢
  obtain ⟨s, hs⟩ : ∃ s, w.heap.size = s := ⟨_, rfl⟩
  have HSS := Lib.hid hs
  rw [hs] at HW0 HS ⊢
  have HWK : Hid (Wk w F W0 [(s + 1 + 1, 3, #[.int .i64 (n : Int)]), (s + 1, 3, #[.int .i64 (base : Int)]), (s, 42, #[.pointer (some ⟨p, 0, none⟩)])] p C E) := Lib.hid HW0
  have hbl := HW0.blk (b := s + 1) (t := 3) (cs := #[.int .i64 (base : Int)]) (by simp)
  have hbl1 := HW0.blk (b := s + 1 + 1) (t := 3) (cs := #[.int .i64 (n : Int)]) (by simp)
  clear hW0 hs HW0 HW HCK
  apply wpIn_rangeFunc_ownG (F := Fence.wide) (n := 4) rfl (by decide) (gf := 62) (lb := #[.pointer (some ⟨s + 1 + 1, 0, none⟩), .pointer (some ⟨s + 1, 0, none⟩)]) rfl trivial (enters_of Try.func62 (by kernel_rfl) rfl)
    (row_stops (4 - 1) (by decide) (s + 1) base n (by omega) (by omega) W0 hbl hbl1) (fun h k => kpB_t h k) (kpB_b (fun b hb => by rw [HS.out]; simp at hb; omega)) (Below.refl _ _) (fun _ => rfl)
    (fun (pre : List {x : Nat // x ∈ List.range n}) W => Wk w F W [(s + 1 + 1, 3, #[.int .i64 (n : Int)]), (s + 1, 3, #[.int .i64 (base : Int)]), (s, 42, #[.pointer (some ⟨p, 0, none⟩)])] p (wrL base (fun _ => sl0) (C, E) (pre.map Subtype.val)).1 (wrL base (fun _ => sl0) (C, E) (pre.map Subtype.val)).2)
    (fun _ _ _ => False) (wk_own (by rw [HS.out]; have := HSS.out; omega) _ _ _ _) (fun _ _ _ _ _ hs _ _ => hs) HWK.out
  case hassign =>
    intro l x W K hK
    simp only [rowV]
    gi_wp2
    exact hK
  case hbody =>
    rintro l pre x W hi hlt
    obtain ⟨i, hx⟩ := x
    have hin : i < n := List.mem_range.1 hx
    have HI := Lib.hid hi
    obtain ⟨hl1, hl2⟩ := wrL_len base (fun _ => sl0) (C, E) (pre.map Subtype.val)
    rw [List.length_map] at hl2
    have HNX := Lib.hid (show (pre ++ [(⟨i, hx⟩ : {x // x ∈ List.range n})]).map Subtype.val = pre.map Subtype.val ++ [i] by simp)
    dsimp only at hl1 hl2 hlt ⊢
    rw [List.length_range] at hlt
    generalize pre ++ [(⟨i, hx⟩ : {x // x ∈ List.range n})] = nx at HNX ⊢
    have c0 : W.cell? ⟨s, 0, none⟩ = some (.pointer (some ⟨p, 0, none⟩)) := (hi.blk (b := s) (t := 42) (cs := #[.pointer (some ⟨p, 0, none⟩)]) (by simp)).cell 0
    have HC := Lib.hid (HI.out.callO (e0 := .returned (.tuple #[])) (C2 := (wrL base (fun _ => sl0) (C, E) (nx.map Subtype.val)).1) (E2 := (wrL base (fun _ => sl0) (C, E) (nx.map Subtype.val)).2) (P := Try.prog) (f := 44) (xs := #[.pointer (some ⟨p, 0, none⟩), .int .i64 ((base : Int) + 3 * (i : Int)), .agg #[.int .u64 0, .int .u64 0, .int .u64 0]]) (fun w1 F1 ha => by
      have := slStore_ok ha (base + 3 * i) sl0 (by rw [hl1]; omega) (by rw [hl2]; omega)
      rw [HNX.out, wrL_snoc]
      push_cast at this
      exact this))
    have HBL := Lib.hid (And.intro (hi.blk (b := s + 1) (t := 3) (cs := #[.int .i64 (base : Int)]) (by simp)) (hi.blk (b := s + 1 + 1) (t := 3) (cs := #[.int .i64 (n : Int)]) (by simp)))
    clear hi hl1 hl2 hlt hx
    gi_wp2_with fail
    refine ⟨trivial, ?_⟩
    refine (CallsIn.inRound l (monoInS HC.out (fun _ _ h => h))).mono ?_
    rintro e w3 ⟨rfl, h3, hk3⟩
    have H3 := Lib.hid h3
    have HK3 := Lib.hid hk3
    clear h3 hk3 c0
    gi_wp2_with fail
    refine ⟨HK3.out.from _, fun y hy => ?_, H3.out⟩
    simp at hy
    rcases hy with rfl | rfl
    · exact (H3.out.blk (b := s + 1) (t := 3) (cs := #[.int .i64 (base : Int)]) (by simp)).trans HBL.out.1.symm
    · exact (H3.out.blk (b := s + 1 + 1) (t := 3) (cs := #[.int .i64 (n : Int)]) (by simp)).trans HBL.out.2.symm
  case hdone =>
    rintro D xs W hD hxs hi hK
    rw [hxs, wrL_range] at hi
    have HU := Lib.hid (hi.unmark (o' := .deferred none) (by rw [HS.out] at hD; have := HSS.out; omega) hK rfl).done
    have HK := Lib.hid hK
    clear hi hK hxs
    gi_wp2_with fail
    refine ⟨by simp, .inl ⟨_, _, rfl, run_takeDeferred HK.out, ?_⟩⟩
    exact ⟨.int .i64 0, by simp [results, Try.f31, go_sem], rfl, HU.out⟩
  case hstop =>
    rintro D c pre W _ _ h _
    exact h.elim
set_option maxHeartbeats 4000000 in
theorem write_ok (h : Ar w F p C E) (base n : Nat) (b o c : Nat) (L : List Sl) (hL : L.length = n) (hb : b < w.heap.size) (hF : ¬ F b) (hc : ∀ j u, (slC L)[j]? = some u → w.cell? ⟨b, o + j, none⟩ = some u) (hz : ckS C.length E.length base n = 0) :
    Calls Try.prog 23 #[.pointer (some ⟨p, 0, none⟩), .int .i64 (base : Int), .slice (some ⟨b, o, none⟩) n c] w fun e w' => e = .returned (.int .i64 0) ∧ ArTo w F p (wrS base (sl L) (C, E) n).1 (wrS base (sl L) (C, E) n).2 w' := by
  obtain ⟨g1, g2, g3, g4, g5⟩ := ckS_zero hz
  have hn2 := h.n2
  have HW := Lib.hid (((Wk.start h).push 42 #[.pointer (some ⟨p, 0, none⟩)]).push 22 #[.slice (some ⟨b, o, none⟩) n c])
  have HCK : Hid (∀ w F, Ar w F p C E → Calls Try.prog 45 #[.pointer (some ⟨p, 0, none⟩), .int .i64 (base : Int), .int .i64 (n : Int)] w fun e w' => e = .returned (.int .i64 0) ∧ w = w') := Lib.hid (fun w F ha => by have := check_any ha (base : Int) (n : Int); rwa [hz] at this)
  have HD := Lib.hid (And.intro hL (And.intro hb (And.intro hF hc)))
  clear h hz hL hb hF hc
  refine (callsIn_wide (n := 4)).1 ?_
  refine callsIn_of_wp_marks Try.func23 rfl trivial ?_ rfl
  simp only [Try.ntmps23, List.size_toArray, List.length_cons, List.length_nil, Nat.reduceAdd, Nat.reduceSub, Array.replicate_succ, Array.replicate_zero, List.push_toArray, List.append_toArray, List.nil_append, List.cons_append]
  gi_wp2_with fail
  refine ⟨trivial, ?_⟩
  refine monoInS ((HCK.out _ _ HW.out.ar.choose_spec)) ?_
  rintro e w' ⟨rfl, rfl⟩
  gi_wp2_with fail
  refine ⟨trivial, ?_⟩
  refine monoInS (row_any (base : Int) (n : Int) _) ?_
  rintro e w' ⟨rfl, rfl⟩
  gi_wp2_with fail
  obtain ⟨W0, hW0⟩ : ∃ W0, ((((w.alloc (.cells #[.pointer (some ⟨p, 0, none⟩)] 42)).alloc (.cells #[.slice (some ⟨b, o, none⟩) n c] 22)).alloc (.cells #[.int .i64 (base : Int)] 3)).alloc (.cells #[.int .i64 (n : Int)] 3)) = W0 := ⟨_, rfl⟩
  have HS : Hid (W0.heap.size = w.heap.size + 4) := Lib.hid (by rw [← hW0]; simp)
  have HW0 := (HW.out.push 3 #[.int .i64 (base : Int)]).push 3 #[.int .i64 (n : Int)]
  simp only [World.size_alloc] at HW0
  rw [hW0] at HW0 ⊢
  obtain ⟨s, hs⟩ : ∃ s, w.heap.size = s := ⟨_, rfl⟩
  have HSS := Lib.hid hs
  rw [hs] at HW0 HS ⊢
  have HWK : Hid (Wk w F W0 [(s + 1 + 1 + 1, 3, #[.int .i64 (n : Int)]), (s + 1 + 1, 3, #[.int .i64 (base : Int)]), (s + 1, 22, #[.slice (some ⟨b, o, none⟩) n c]), (s, 42, #[.pointer (some ⟨p, 0, none⟩)])] p C E) := Lib.hid HW0
  have hbl := HW0.blk (b := s + 1 + 1) (t := 3) (cs := #[.int .i64 (base : Int)]) (by simp)
  have hbl1 := HW0.blk (b := s + 1 + 1 + 1) (t := 3) (cs := #[.int .i64 (n : Int)]) (by simp)
  clear hW0 hs HW0 HW HCK
  apply wpIn_rangeFunc_ownG (F := Fence.wide) (n := 4) rfl (by decide) (gf := 62) (lb := #[.pointer (some ⟨s + 1 + 1 + 1, 0, none⟩), .pointer (some ⟨s + 1 + 1, 0, none⟩)]) rfl trivial (enters_of Try.func62 (by kernel_rfl) rfl)
    (row_stops (4 - 1) (by decide) (s + 1 + 1) base n (by omega) (by omega) W0 hbl hbl1) (fun h k => kpB_t h k) (kpB_b (fun b hb => by rw [HS.out]; simp at hb; omega)) (Below.refl _ _) (fun _ => rfl)
    (fun (pre : List {x : Nat // x ∈ List.range n}) W => Wk w F W [(s + 1 + 1 + 1, 3, #[.int .i64 (n : Int)]), (s + 1 + 1, 3, #[.int .i64 (base : Int)]), (s + 1, 22, #[.slice (some ⟨b, o, none⟩) n c]), (s, 42, #[.pointer (some ⟨p, 0, none⟩)])] p (wrL base (sl L) (C, E) (pre.map Subtype.val)).1 (wrL base (sl L) (C, E) (pre.map Subtype.val)).2)
    (fun _ _ _ => False) (wk_own (by rw [HS.out]; have := HSS.out; omega) _ _ _ _) (fun _ _ _ _ _ hs _ _ => hs) HWK.out
  case hassign =>
    intro l x W K hK
    simp only [rowV]
    gi_wp2
    exact hK
  case hbody =>
    rintro l pre x W hi hlt
    obtain ⟨i, hx⟩ := x
    have hin : i < n := List.mem_range.1 hx
    have HI := Lib.hid hi
    obtain ⟨hl1, hl2⟩ := wrL_len base (sl L) (C, E) (pre.map Subtype.val)
    rw [List.length_map] at hl2
    have HNX := Lib.hid (show (pre ++ [(⟨i, hx⟩ : {x // x ∈ List.range n})]).map Subtype.val = pre.map Subtype.val ++ [i] by simp)
    dsimp only at hl1 hl2 hlt ⊢
    rw [List.length_range] at hlt
    generalize pre ++ [(⟨i, hx⟩ : {x // x ∈ List.range n})] = nx at HNX ⊢
    have c0 : W.cell? ⟨s, 0, none⟩ = some (.pointer (some ⟨p, 0, none⟩)) := (hi.blk (b := s) (t := 42) (cs := #[.pointer (some ⟨p, 0, none⟩)]) (by simp)).cell 0
    have c1 : W.cell? ⟨s + 1, 0, none⟩ = some (.slice (some ⟨b, o, none⟩) n c) := (hi.blk (b := s + 1) (t := 22) (cs := #[.slice (some ⟨b, o, none⟩) n c]) (by simp)).cell 0
    have HOC := Lib.hid (fun (W : World) (C' : List (BitVec 64)) (E' : List Ev) (hk : Wk w F W [(s + 1 + 1 + 1, 3, #[.int .i64 (n : Int)]), (s + 1 + 1, 3, #[.int .i64 (base : Int)]), (s + 1, 22, #[.slice (some ⟨b, o, none⟩) n c]), (s, 42, #[.pointer (some ⟨p, 0, none⟩)])] p C' E') (j : Nat) (u : Value) (hu : (slC L)[j]? = some u) => (show W.cell? ⟨b, o + j, none⟩ = some u from (World.cell?_of_block (a := ⟨b, o + j, none⟩) (hk.done.2.block b HD.out.2.1 HD.out.2.2.1)).trans (HD.out.2.2.2 j u hu)))
    obtain ⟨d0, d1, d2⟩ := Rd.slot (F := Nob) (n := n) (c := c) (HOC.out _ _ _ hi) i (by rw [HD.out.1]; exact hin)
    obtain ⟨x, hx'⟩ : ∃ x, sl L i = x := ⟨_, rfl⟩
    rw [hx'] at d0 d1 d2
    have HC := Lib.hid ((HI.out.off (Off.drew (Off.refl _ _))).callO (e0 := .returned (.tuple #[])) (C2 := (wrL base (sl L) (C, E) (nx.map Subtype.val)).1) (E2 := (wrL base (sl L) (C, E) (nx.map Subtype.val)).2) (P := Try.prog) (f := 44) (xs := #[.pointer (some ⟨p, 0, none⟩), .int .i64 ((base : Int) + 3 * (i : Int)), slV x]) (fun w1 F1 ha => by
      have := slStore_ok ha (base + 3 * i) x (by rw [hl1]; omega) (by rw [hl2]; omega)
      rw [HNX.out, wrL_snoc, hx']
      push_cast at this
      exact this))
    unfold slV at HC
    have HST := Lib.hid (fun (W : World) (hk : Wk w F W [(s + 1 + 1 + 1, 3, #[.int .i64 (n : Int)]), (s + 1 + 1, 3, #[.int .i64 (base : Int)]), (s + 1, 22, #[.slice (some ⟨b, o, none⟩) n c]), (s, 42, #[.pointer (some ⟨p, 0, none⟩)])] p (wrL base (sl L) (C, E) (nx.map Subtype.val)).1 (wrL base (sl L) (C, E) (nx.map Subtype.val)).2) => (by
      obtain ⟨d0, d1, d2⟩ := Rd.slot (F := Nob) (n := n) (c := c) (HOC.out _ _ _ hk) i (by rw [HD.out.1]; exact hin)
      rw [hx'] at d0 d1 d2
      exact ⟨(hk.blk (b := s) (t := 42) (cs := #[.pointer (some ⟨p, 0, none⟩)]) (by simp)).cell 0, (hk.blk (b := s + 1) (t := 22) (cs := #[.slice (some ⟨b, o, none⟩) n c]) (by simp)).cell 0, d0, d1, d2⟩ : W.cell? ⟨s, 0, none⟩ = some (.pointer (some ⟨p, 0, none⟩)) ∧ W.cell? ⟨s + 1, 0, none⟩ = some (.slice (some ⟨b, o, none⟩) n c) ∧ W.cell? ⟨b, o + i * 3, none⟩ = some (.int .u64 (n64 x.1)) ∧ W.cell? ⟨b, o + i * 3 + 1, none⟩ = some (.int .u64 (n64 x.2.1)) ∧ W.cell? ⟨b, o + i * 3 + 2, none⟩ = some (.int .u64 (n64 x.2.2))))
    have HBL := Lib.hid (And.intro (hi.blk (b := s + 1 + 1) (t := 3) (cs := #[.int .i64 (base : Int)]) (by simp)) (hi.blk (b := s + 1 + 1 + 1) (t := 3) (cs := #[.int .i64 (n : Int)]) (by simp)))
    clear hi hl1 hl2 hlt hx hx'
    revert d0 d1 d2 HC HST
    generalize n64 x.1 = v0
    generalize n64 x.2.1 = v1
    generalize n64 x.2.2 = v2
    intro d2 d1 d0 HC HST
    gi_wp2_with fail

    refine round_held (S := fun W => W.cell? ⟨s, 0, none⟩ = some (.pointer (some ⟨p, 0, none⟩)) ∧ W.cell? ⟨s + 1, 0, none⟩ = some (.slice (some ⟨b, o, none⟩) n c) ∧ W.cell? ⟨b, o + i * 3, none⟩ = some (.int .u64 v0) ∧ W.cell? ⟨b, o + i * 3 + 1, none⟩ = some (.int .u64 v1) ∧ W.cell? ⟨b, o + i * 3 + 2, none⟩ = some (.int .u64 v2)) (by kernel_rfl) (by kernel_rfl) (fun ⟨_, _, h⟩ => h) ⟨c0, c1, d0, d1, d2⟩ (fun hHeld => ?_)
    refine wpAnyH_take (i := 0) (v := ?v0) rfl (by kernel_rfl) (by kernel_rfl) (by kernel_rfl) (fun _ _ _ h => h) (Or.inl ⟨by rfl, ?h0⟩) (by assumption) ?r0
    case h0 => (intro w hSw; (try dsimp only at hSw); go_simp <;> with_reducible rfl)
    try simp only [Act.put, List.getElem_toArray, List.getElem_cons_zero, List.getElem_cons_succ, List.setIfInBounds_toArray, List.set_cons_zero, List.set_cons_succ]
    refine wpAnyH_take (i := 1) (v := ?v1) rfl (by kernel_rfl) (by kernel_rfl) (by kernel_rfl) (fun _ _ _ h => h) (Or.inl ⟨by rfl, ?h1⟩) (by assumption) ?r1
    case h1 => (intro w hSw; (try dsimp only at hSw); go_simp <;> with_reducible rfl)
    try simp only [Act.put, List.getElem_toArray, List.getElem_cons_zero, List.getElem_cons_succ, List.setIfInBounds_toArray, List.set_cons_zero, List.set_cons_succ]
    refine wpAnyH_take (i := 2) (v := ?v2) rfl (by kernel_rfl) (by kernel_rfl) (by kernel_rfl) (fun _ _ _ h => h) (Or.inl ⟨by rfl, ?h2⟩) (by assumption) ?r2
    case h2 => (intro w hSw; (try dsimp only at hSw); go_simp <;> with_reducible rfl)
    try simp only [Act.put, List.getElem_toArray, List.getElem_cons_zero, List.getElem_cons_succ, List.setIfInBounds_toArray, List.set_cons_zero, List.set_cons_succ]
    refine wpAnyH_take (i := 3) (v := ?v3) rfl (by kernel_rfl) (by kernel_rfl) (by kernel_rfl) (fun _ _ _ h => h) (Or.inl ⟨by rfl, ?h3⟩) (by assumption) ?r3
    case h3 => (intro w hSw; (try dsimp only at hSw); go_simp <;> with_reducible rfl)
    try simp only [Act.put, List.getElem_toArray, List.getElem_cons_zero, List.getElem_cons_succ, List.setIfInBounds_toArray, List.set_cons_zero, List.set_cons_succ]
    refine wpAnyH_take (i := 4) (v := ?v4) rfl (by kernel_rfl) (by kernel_rfl) (by kernel_rfl) (fun _ _ _ h => h) (Or.inl ⟨by rfl, ?h4⟩) (by assumption) ?r4
    case h4 => (intro w hSw; (try dsimp only at hSw); go_simp <;> with_reducible rfl)
    try simp only [Act.put, List.getElem_toArray, List.getElem_cons_zero, List.getElem_cons_succ, List.setIfInBounds_toArray, List.set_cons_zero, List.set_cons_succ]
    refine wpAnyH_take (i := 5) (v := ?v5) rfl (by kernel_rfl) (by kernel_rfl) (by kernel_rfl) (fun _ _ _ h => h) (Or.inl ⟨by rfl, ?h5⟩) (by assumption) ?r5
    case h5 => (intro w hSw; (try dsimp only at hSw); go_simp <;> with_reducible rfl)
    try simp only [Act.put, List.getElem_toArray, List.getElem_cons_zero, List.getElem_cons_succ, List.setIfInBounds_toArray, List.set_cons_zero, List.set_cons_succ]
    refine wpAnyH_ready (rs := [6]) (by kernel_rfl) (by simp) ?_
    refine AllReadyH.cons rfl (fun K hK => ?s6) ?m6
    case s6 =>
      go_simp
      refine HC.out.mono ?_
      rintro e w3 ⟨rfl, h3, hk3⟩
      have H3 := Lib.hid h3
      have HK3 := Lib.hid hk3
      have hS3 := HST.out w3 h3
      clear h3 hk3
      go_simp
      refine hK.out _ _ ?_ (fun hHeld => ?_)
      · first | with_reducible assumption | go_keep
      clear hK K
      try simp only [Act.put, List.getElem_toArray, List.getElem_cons_zero, List.getElem_cons_succ, List.setIfInBounds_toArray, List.set_cons_zero, List.set_cons_succ]
      refine wpAnyH_done (by kernel_rfl) ?_ _
      gi_wp2_with fail
      refine ⟨((KeepsOthers.drew _).trans HK3.out).from _, fun y hy => ?_, H3.out⟩
      simp at hy
      rcases hy with rfl | rfl
      · exact (H3.out.blk (b := s + 1 + 1) (t := 3) (cs := #[.int .i64 (base : Int)]) (by simp)).trans HBL.out.1.symm
      · exact (H3.out.blk (b := s + 1 + 1 + 1) (t := 3) (cs := #[.int .i64 (n : Int)]) (by simp)).trans HBL.out.2.symm
    exact AllReadyH.nil
  case hdone =>
    rintro D xs W hD hxs hi hK
    rw [hxs, wrL_range] at hi
    have HU := Lib.hid (hi.unmark (o' := .deferred none) (by rw [HS.out] at hD; have := HSS.out; omega) hK rfl).done
    have HK := Lib.hid hK
    clear hi hK hxs
    gi_wp2_with fail
    refine ⟨by simp, .inl ⟨_, _, rfl, run_takeDeferred HK.out, ?_⟩⟩
    exact ⟨.int .i64 0, by simp [results, Try.f23, go_sem], rfl, HU.out⟩
  case hstop =>
    rintro D c pre W _ _ h _
    exact h.elim
end
end Go.Proofs.Ytonkhgmfeakbcaa
