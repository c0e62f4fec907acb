import Derived.Test.YtedbafgejladiaaGreatSlFill
import Derived.Test.YtedbafgejladiaaGreatRound
import Derived.Deep.MidRow
import Derived.Maps.AppendAt
import Derived.BigQuiet
import Derived.Deep.QuietTactic
import Derived.Test.YtedbafgejladiaaGreatPG
import Derived.Test.YtedbafgejladiaaGreatRef10
/-
  slots.Wipe and slots.Write.
-/
namespace Go.Proofs.YtedbafgejladiaaGreat
open Go.RowKit Go.Shelf
attribute [local go_sem] Oper.semAt_some
set_option linter.unusedVariables false
set_option linter.unusedSimpArgs false
set_option maxRecDepth 100000
theorem monoInS {n : Nat} {P : Program} {f : FuncId} {args : Array Value} {w : World} {R R' : Ending → World → Prop} (h : Calls P f args w R) (hr : ∀ e w', R e w' → R' e w') : CallsIn Fence.wide n P f args w R' := callsIn_wide.2 (h.mono hr)
section
variable {w : World} {F : Nat → Prop} {p : Nat} {C : List (BitVec 64)} {E : List Ev}
set_option maxHeartbeats 4000000 in
theorem write_ok (h : Ar w F p C E) (base n : Nat) (b o c : Nat) (L : List Sl) (hL : L.length = n) (hb : b < w.heap.size) (hF : ¬ F b) (hc : ∀ j u, (slC L)[j]? = some u → w.cell? ⟨b, o + j, none⟩ = some u) (hz : ckS C.length E.length base n = 0) :
    Calls Tryz.prog 17 #[.pointer (some ⟨p, 0, none⟩), .int .i64 (base : Int), .slice (some ⟨b, o, none⟩) n c] w fun e w' => e = .returned (.int .i64 0) ∧ ArTo w F p (wrS base (sl L) (C, E) n).1 (wrS base (sl L) (C, E) n).2 w' := by
  obtain ⟨g1, g2, g3, g4, g5⟩ := ckS_zero hz
  have hn2 := h.n2
  have HW := Lib.hid (((Wk.start h).push 30 #[.pointer (some ⟨p, 0, none⟩)]).push 22 #[.slice (some ⟨b, o, none⟩) n c])
  have HCK : Hid (∀ w F, Ar w F p C E → Calls Tryz.prog 61 #[.pointer (some ⟨p, 0, none⟩), .int .i64 (base : Int), .int .i64 (n : Int)] w fun e w' => e = .returned (.int .i64 0) ∧ w = w') := Lib.hid (fun w F ha => by have := check_any ha (base : Int) (n : Int); rwa [hz] at this)
  have HD := Lib.hid (And.intro hL (And.intro hb (And.intro hF hc)))
  clear h hz hL hb hF hc
  refine (callsIn_wide (n := 4)).1 ?_
  refine callsIn_of_wp_marks Tryz.func17 rfl trivial ?_ rfl
  simp only [Tryz.ntmps17, List.size_toArray, List.length_cons, List.length_nil, Nat.reduceAdd, Nat.reduceSub, Array.replicate_succ, Array.replicate_zero, List.push_toArray, List.append_toArray, List.nil_append, List.cons_append]
  gi_wp2_with fail
  refine ⟨trivial, ?_⟩
  refine monoInS ((HCK.out _ _ HW.out.ar.choose_spec)) ?_
  rintro e w' ⟨rfl, rfl⟩
  gi_wp2_with fail
  refine ⟨trivial, ?_⟩
  refine monoInS (row_any (base : Int) (n : Int) _) ?_
  rintro e w' ⟨rfl, rfl⟩
  gi_wp2_with fail
  obtain ⟨W0, hW0⟩ : ∃ W0, ((((w.alloc (.cells #[.pointer (some ⟨p, 0, none⟩)] 30)).alloc (.cells #[.slice (some ⟨b, o, none⟩) n c] 22)).alloc (.cells #[.int .i64 (base : Int)] 3)).alloc (.cells #[.int .i64 (n : Int)] 3)) = W0 := ⟨_, rfl⟩
  have HS : Hid (W0.heap.size = w.heap.size + 4) := Lib.hid (by rw [← hW0]; simp)
  have HW0 := (HW.out.push 3 #[.int .i64 (base : Int)]).push 3 #[.int .i64 (n : Int)]
  simp only [World.size_alloc] at HW0
  rw [hW0] at HW0 ⊢
  obtain ⟨s, hs⟩ : ∃ s, w.heap.size = s := ⟨_, rfl⟩
  have HSS := Lib.hid hs
  rw [hs] at HW0 HS ⊢
  have HWK : Hid (Wk w F W0 [(s + 1 + 1 + 1, 3, #[.int .i64 (n : Int)]), (s + 1 + 1, 3, #[.int .i64 (base : Int)]), (s + 1, 22, #[.slice (some ⟨b, o, none⟩) n c]), (s, 30, #[.pointer (some ⟨p, 0, none⟩)])] p C E) := Lib.hid HW0
  have hbl := HW0.blk (b := s + 1 + 1) (t := 3) (cs := #[.int .i64 (base : Int)]) (by simp)
  have hbl1 := HW0.blk (b := s + 1 + 1 + 1) (t := 3) (cs := #[.int .i64 (n : Int)]) (by simp)
  clear hW0 hs HW0 HW HCK
  apply wpIn_rangeFunc_ownG (F := Fence.wide) (n := 4) rfl (by decide) (gf := 109) (lb := #[.pointer (some ⟨s + 1 + 1 + 1, 0, none⟩), .pointer (some ⟨s + 1 + 1, 0, none⟩)]) rfl trivial (enters_of Tryz.func109 (by kernel_rfl) rfl)
    (row_stops (4 - 1) (by decide) (s + 1 + 1) base n (by omega) (by omega) W0 hbl hbl1) (fun h k => kpB_t h k) (kpB_b (fun b hb => by rw [HS.out]; simp at hb; omega)) (Below.refl _ _) (fun _ => rfl)
    (fun (pre : List {x : Nat // x ∈ List.range n}) W => Wk w F W [(s + 1 + 1 + 1, 3, #[.int .i64 (n : Int)]), (s + 1 + 1, 3, #[.int .i64 (base : Int)]), (s + 1, 22, #[.slice (some ⟨b, o, none⟩) n c]), (s, 30, #[.pointer (some ⟨p, 0, none⟩)])] p (wrL base (sl L) (C, E) (pre.map Subtype.val)).1 (wrL base (sl L) (C, E) (pre.map Subtype.val)).2)
    (fun _ _ _ => False) (wk_own (by rw [HS.out]; have := HSS.out; omega) _ _ _ _) (fun _ _ _ _ _ hs _ _ => hs) HWK.out
  case hassign =>
    intro l x W K hK
    simp only [rowV]
    gi_wp2
    exact hK
  case hbody =>
    rintro l pre x W hi hlt
    obtain ⟨i, hx⟩ := x
    have hin : i < n := List.mem_range.1 hx
    have HI := Lib.hid hi
    obtain ⟨hl1, hl2⟩ := wrL_len base (sl L) (C, E) (pre.map Subtype.val)
    rw [List.length_map] at hl2
    have HNX := Lib.hid (show (pre ++ [(⟨i, hx⟩ : {x // x ∈ List.range n})]).map Subtype.val = pre.map Subtype.val ++ [i] by simp)
    dsimp only at hl1 hl2 hlt ⊢
    rw [List.length_range] at hlt
    generalize pre ++ [(⟨i, hx⟩ : {x // x ∈ List.range n})] = nx at HNX ⊢
    have c0 : W.cell? ⟨s, 0, none⟩ = some (.pointer (some ⟨p, 0, none⟩)) := (hi.blk (b := s) (t := 30) (cs := #[.pointer (some ⟨p, 0, none⟩)]) (by simp)).cell 0
    have c1 : W.cell? ⟨s + 1, 0, none⟩ = some (.slice (some ⟨b, o, none⟩) n c) := (hi.blk (b := s + 1) (t := 22) (cs := #[.slice (some ⟨b, o, none⟩) n c]) (by simp)).cell 0
    have HOC := Lib.hid (fun (W : World) (C' : List (BitVec 64)) (E' : List Ev) (hk : Wk w F W [(s + 1 + 1 + 1, 3, #[.int .i64 (n : Int)]), (s + 1 + 1, 3, #[.int .i64 (base : Int)]), (s + 1, 22, #[.slice (some ⟨b, o, none⟩) n c]), (s, 30, #[.pointer (some ⟨p, 0, none⟩)])] p C' E') (j : Nat) (u : Value) (hu : (slC L)[j]? = some u) => (show W.cell? ⟨b, o + j, none⟩ = some u from (World.cell?_of_block (a := ⟨b, o + j, none⟩) (hk.done.2.block b HD.out.2.1 HD.out.2.2.1)).trans (HD.out.2.2.2 j u hu)))
    obtain ⟨d0, d1, d2⟩ := Rd.slot (F := Nob) (n := n) (c := c) (HOC.out _ _ _ hi) i (by rw [HD.out.1]; exact hin)
    obtain ⟨x, hx'⟩ : ∃ x, sl L i = x := ⟨_, rfl⟩
    rw [hx'] at d0 d1 d2
    have HC := Lib.hid ((HI.out.off (Off.drew (Off.refl _ _))).callO (e0 := .returned (.tuple #[])) (C2 := (wrL base (sl L) (C, E) (nx.map Subtype.val)).1) (E2 := (wrL base (sl L) (C, E) (nx.map Subtype.val)).2) (P := Tryz.prog) (f := 63) (xs := #[.pointer (some ⟨p, 0, none⟩), .int .i64 ((base : Int) + 3 * (i : Int)), slV x]) (fun w1 F1 ha => by
      have := slStore_ok ha (base + 3 * i) x (by rw [hl1]; omega) (by rw [hl2]; omega)
      rw [HNX.out, wrL_snoc, hx']
      push_cast at this
      exact this))
    unfold slV at HC
    have HST := Lib.hid (fun (W : World) (hk : Wk w F W [(s + 1 + 1 + 1, 3, #[.int .i64 (n : Int)]), (s + 1 + 1, 3, #[.int .i64 (base : Int)]), (s + 1, 22, #[.slice (some ⟨b, o, none⟩) n c]), (s, 30, #[.pointer (some ⟨p, 0, none⟩)])] p (wrL base (sl L) (C, E) (nx.map Subtype.val)).1 (wrL base (sl L) (C, E) (nx.map Subtype.val)).2) => (by
      obtain ⟨d0, d1, d2⟩ := Rd.slot (F := Nob) (n := n) (c := c) (HOC.out _ _ _ hk) i (by rw [HD.out.1]; exact hin)
      rw [hx'] at d0 d1 d2
      exact ⟨(hk.blk (b := s) (t := 30) (cs := #[.pointer (some ⟨p, 0, none⟩)]) (by simp)).cell 0, (hk.blk (b := s + 1) (t := 22) (cs := #[.slice (some ⟨b, o, none⟩) n c]) (by simp)).cell 0, d0, d1, d2⟩ : W.cell? ⟨s, 0, none⟩ = some (.pointer (some ⟨p, 0, none⟩)) ∧ W.cell? ⟨s + 1, 0, none⟩ = some (.slice (some ⟨b, o, none⟩) n c) ∧ W.cell? ⟨b, o + i * 3, none⟩ = some (.int .u64 (n64 x.1)) ∧ W.cell? ⟨b, o + i * 3 + 1, none⟩ = some (.int .u64 (n64 x.2.1)) ∧ W.cell? ⟨b, o + i * 3 + 2, none⟩ = some (.int .u64 (n64 x.2.2))))
    have HBL := Lib.hid (And.intro (hi.blk (b := s + 1 + 1) (t := 3) (cs := #[.int .i64 (base : Int)]) (by simp)) (hi.blk (b := s + 1 + 1 + 1) (t := 3) (cs := #[.int .i64 (n : Int)]) (by simp)))
    clear hi hl1 hl2 hlt hx hx'
    revert d0 d1 d2 HC HST
    generalize n64 x.1 = v0
    generalize n64 x.2.1 = v1
    generalize n64 x.2.2 = v2
    intro d2 d1 d0 HC HST
    gi_wp2_with fail

    refine round_held (S := fun W => W.cell? ⟨s, 0, none⟩ = some (.pointer (some ⟨p, 0, none⟩)) ∧ W.cell? ⟨s + 1, 0, none⟩ = some (.slice (some ⟨b, o, none⟩) n c) ∧ W.cell? ⟨b, o + i * 3, none⟩ = some (.int .u64 v0) ∧ W.cell? ⟨b, o + i * 3 + 1, none⟩ = some (.int .u64 v1) ∧ W.cell? ⟨b, o + i * 3 + 2, none⟩ = some (.int .u64 v2)) (by kernel_rfl) (by kernel_rfl) (fun ⟨_, _, h⟩ => h) ⟨c0, c1, d0, d1, d2⟩ (fun hHeld => ?_)
    refine wpAnyH_take (i := 0) (v := ?v0) rfl (by kernel_rfl) (by kernel_rfl) (by kernel_rfl) (fun _ _ _ h => h) (Or.inl ⟨by rfl, ?h0⟩) (by assumption) ?r0
    case h0 => (intro w hSw; (try dsimp only at hSw); go_simp <;> with_reducible rfl)
    try simp only [Act.put, List.getElem_toArray, List.getElem_cons_zero, List.getElem_cons_succ, List.setIfInBounds_toArray, List.set_cons_zero, List.set_cons_succ]
    refine wpAnyH_take (i := 1) (v := ?v1) rfl (by kernel_rfl) (by kernel_rfl) (by kernel_rfl) (fun _ _ _ h => h) (Or.inl ⟨by rfl, ?h1⟩) (by assumption) ?r1
    case h1 => (intro w hSw; (try dsimp only at hSw); go_simp <;> with_reducible rfl)
    try simp only [Act.put, List.getElem_toArray, List.getElem_cons_zero, List.getElem_cons_succ, List.setIfInBounds_toArray, List.set_cons_zero, List.set_cons_succ]
    refine wpAnyH_take (i := 2) (v := ?v2) rfl (by kernel_rfl) (by kernel_rfl) (by kernel_rfl) (fun _ _ _ h => h) (Or.inl ⟨by rfl, ?h2⟩) (by assumption) ?r2
    case h2 => (intro w hSw; (try dsimp only at hSw); go_simp <;> with_reducible rfl)
    try simp only [Act.put, List.getElem_toArray, List.getElem_cons_zero, List.getElem_cons_succ, List.setIfInBounds_toArray, List.set_cons_zero, List.set_cons_succ]
    refine wpAnyH_take (i := 3) (v := ?v3) rfl (by kernel_rfl) (by kernel_rfl) (by kernel_rfl) (fun _ _ _ h => h) (Or.inl ⟨by rfl, ?h3⟩) (by assumption) ?r3
    case h3 => (intro w hSw; (try dsimp only at hSw); go_simp <;> with_reducible rfl)
    try simp only [Act.put, List.getElem_toArray, List.getElem_cons_zero, List.getElem_cons_succ, List.setIfInBounds_toArray, List.set_cons_zero, List.set_cons_succ]
    refine wpAnyH_take (i := 4) (v := ?v4) rfl (by kernel_rfl) (by kernel_rfl) (by kernel_rfl) (fun _ _ _ h => h) (Or.inl ⟨by rfl, ?h4⟩) (by assumption) ?r4
    case h4 => (intro w hSw; (try dsimp only at hSw); go_simp <;> with_reducible rfl)
    try simp only [Act.put, List.getElem_toArray, List.getElem_cons_zero, List.getElem_cons_succ, List.setIfInBounds_toArray, List.set_cons_zero, List.set_cons_succ]
    refine wpAnyH_take (i := 5) (v := ?v5) rfl (by kernel_rfl) (by kernel_rfl) (by kernel_rfl) (fun _ _ _ h => h) (Or.inl ⟨by rfl, ?h5⟩) (by assumption) ?r5
    case h5 => (intro w hSw; (try dsimp only at hSw); go_simp <;> with_reducible rfl)
    try simp only [Act.put, List.getElem_toArray, List.getElem_cons_zero, List.getElem_cons_succ, List.setIfInBounds_toArray, List.set_cons_zero, List.set_cons_succ]
    refine wpAnyH_ready (rs := [6]) (by kernel_rfl) (by simp) ?_
    refine AllReadyH.cons rfl (fun K hK => ?s6) ?m6
    case s6 =>
      go_simp
      refine HC.out.mono ?_
      rintro e w3 ⟨rfl, h3, hk3⟩
      have H3 := Lib.hid h3
      have HK3 := Lib.hid hk3
      have hS3 := HST.out w3 h3
      clear h3 hk3
      go_simp
      refine hK.out _ _ ?_ (fun hHeld => ?_)
      · first | with_reducible assumption | go_keep
      clear hK K
      try simp only [Act.put, List.getElem_toArray, List.getElem_cons_zero, List.getElem_cons_succ, List.setIfInBounds_toArray, List.set_cons_zero, List.set_cons_succ]
      refine wpAnyH_done (by kernel_rfl) ?_ _
      gi_wp2_with fail
      refine ⟨((KeepsOthers.drew _).trans HK3.out).from _, fun y hy => ?_, H3.out⟩
      simp at hy
      rcases hy with rfl | rfl
      · exact (H3.out.blk (b := s + 1 + 1) (t := 3) (cs := #[.int .i64 (base : Int)]) (by simp)).trans HBL.out.1.symm
      · exact (H3.out.blk (b := s + 1 + 1 + 1) (t := 3) (cs := #[.int .i64 (n : Int)]) (by simp)).trans HBL.out.2.symm
    exact AllReadyH.nil
  case hdone =>
    rintro D xs W hD hxs hi hK
    rw [hxs, wrL_range] at hi
    have HU := Lib.hid (hi.unmark (o' := .deferred none) (by rw [HS.out] at hD; have := HSS.out; omega) hK rfl).done
    have HK := Lib.hid hK
    clear hi hK hxs
    gi_wp2_with fail
    refine ⟨by simp, .inl ⟨_, _, rfl, run_takeDeferred HK.out, ?_⟩⟩
    exact ⟨.int .i64 0, by simp [results, Tryz.f17, go_sem], rfl, HU.out⟩
  case hstop =>
    rintro D c pre W _ _ h _
    exact h.elim
end
end Go.Proofs.YtedbafgejladiaaGreat

/-
  Hits of slots, slots of hits; dragnetref16.Same of equal lists.
-/
namespace Go.Proofs.YtedbafgejladiaaGreat
open Go.RowKit
set_option linter.unusedVariables false
set_option linter.unusedSimpArgs false
set_option maxRecDepth 100000
theorem wp_append_own_at {P : Program} {w : World} {o : Oper} {a : Act} {K : Act → World → Prop} {Q : Exit → Act → World → Prop} (s x : Operand) (t : TypeId)
    (ho : o.op = .call { callee := .builtin .append, args := #[s, x], argTypes := #[t, t] })
    (base : Nat) (e : TypeId) (i : TypeInfo) (z : Value) (size bytes : Nat) (ht : P.underlying t = some (.slice e)) (hi : P.info? e = some i) (hz : i.zero = some z)
    (hsize : i.size = size) (hby : i.bytes = bytes) (hzs : z.cells.size = size) (hsz : 0 < size)
    (v : Value) (n : Nat) (xs : List Value) (hs : a.eval s = v) (hown : w.ownsRow base e size v n xs)
    (ad : Addr) (m c : Nat) (news : List Value) (hx : a.eval x = .slice (some ad) m c) (hl : news.length = m * size) (hnews : ∀ j u, news[j]? = some u → w.cell? (ad.add j) = some u) (h1 : ∀ u ∈ news, u.oneCell' = true)
    (h63 : n + m ≤ maxLen) (hbytes : (n + m) * bytes ≤ 140737488355328) (hbase : base ≤ w.heap.size)
    (h : ∀ v' w', w'.ownsRow base e size v' (n + m) (xs ++ news) → w.grownBy w' v.ownBlock → (v' = .slice none 0 0 ↔ v = .slice none 0 0 ∧ m = 0) → (v'.ownBlock = v.ownBlock ∨ v'.ownBlock = some w.heap.size) → K (a.put o.dst v') w') : o.wp P a w K Q := by
  obtain ⟨v', w', hr, h2, h3, h4, h5⟩ := run_append_own_at (P := P) w base t o.type e i z size bytes ht hi hz hsize hby hzs hsz v n xs hown ad m c news hl hnews h1 h63 hbytes hbase
  unfold Oper.wp execOp
  simp only [ho, resolve, invoke, builtin, Sem.run_bind, Sem.run_pure, Result.andThen_ok, List.map_toArray, List.map_cons, List.map_nil, hs, hx, hr]
  exact h v' w' h2 h3 h4 h5
/-- A hit: End, Rule. -/
abbrev Hi := Int × Int
def hiC (l : List Hi) : List Value := l.flatMap fun h => [.int .i64 h.1, .int .i64 h.2]
theorem hiC_len (l : List Hi) : (hiC l).length = l.length * 2 := by
  induction l with
  | nil => rfl
  | cons m l ih => simp [hiC] at ih ⊢; omega
theorem hiC_snoc (l : List Hi) (s : Hi) : hiC (l ++ [s]) = hiC l ++ [.int .i64 s.1, .int .i64 s.2] := by simp [hiC]
/-- The hit at a place. -/
def hi (l : List Hi) (k : Nat) : Hi := l.getD k (0, 0)
theorem hiC_at (l : List Hi) (k : Nat) (h : k < l.length) : (hiC l)[k * 2]? = some (.int .i64 (hi l k).1) ∧ (hiC l)[k * 2 + 1]? = some (.int .i64 (hi l k).2) := by
  induction l generalizing k with
  | nil => simp at h
  | cons m l ih =>
    cases k with
    | zero => exact ⟨rfl, rfl⟩
    | succ k =>
      have := ih k (by simpa using h)
      have e : hi (m :: l) (k + 1) = hi l k := by simp [hi]
      rw [show hiC (m :: l) = [.int .i64 m.1, .int .i64 m.2] ++ hiC l from rfl, e]
      rw [List.getElem?_append_right (by simp; omega), List.getElem?_append_right (by simp; omega)]
      simp only [List.length_cons, List.length_nil]
      rw [show (k + 1) * 2 - (0 + 1 + 1) = k * 2 by omega, show (k + 1) * 2 + 1 - (0 + 1 + 1) = k * 2 + 1 by omega]
      exact this
theorem hiC_one (l : List Hi) : ∀ u ∈ hiC l, u.oneCell' = true := by
  intro u hu
  unfold hiC at hu
  obtain ⟨s, _, hs⟩ := List.mem_flatMap.1 hu
  simp at hs
  rcases hs with rfl | rfl <;> rfl
/-- Is a slot valid? -/
def vaB (s : Sl) : Bool := decide (s.1.toNat % 2 = 1)
/-- The hit of a slot. -/
def hiV (s : Sl) : Hi := (IntKind.i64.wrap (n64 s.2.1), IntKind.i64.wrap (n64 s.2.2))
/-- The hits of slots. -/
def hiL (l : List Sl) : List Hi := (l.filter vaB).map hiV
theorem hiL_le (l : List Sl) : (hiL l).length ≤ l.length := by unfold hiL; rw [List.length_map]; exact List.length_filter_le _ _
theorem hiL_step (l : List Sl) (k : Nat) (h : k < l.length) : hiL (l.take (k + 1)) = if vaB (sl l k) then hiL (l.take k) ++ [hiV (sl l k)] else hiL (l.take k) := by
  have e : l.take (k + 1) = l.take k ++ [sl l k] := by
    rw [List.take_succ_eq_append_getElem h]
    congr 2
    simp [sl, List.getD, h]
  unfold hiL
  rw [e, List.filter_append, List.map_append]
  cases hb : vaB (sl l k) <;> simp [List.filter_cons, hb]
theorem vaB_bits (v : BitVec 64) : bits .and .u64 (n64 v) 1 = if v.toNat % 2 = 1 then 1 else 0 := by
  rw [bits_and_u64, bv_n64, bv_one]
  unfold n64
  rw [and_one]
  rcases Nat.mod_two_eq_zero_or_one v.toNat with h | h <;> rw [h] <;> rfl
end Go.Proofs.YtedbafgejladiaaGreat

/-
  dragnetref22.Row, Wipe, Read, Write and Fill.
-/
namespace Go.Proofs.YtedbafgejladiaaGreat
open Go.RowKit
set_option linter.unusedVariables false
set_option linter.unusedSimpArgs false
set_option maxRecDepth 100000
/-- Cells are made 0 one by one. -/
def ziS (base : Nat) (s : SlSt) : Nat → SlSt
  | 0 => s
  | k + 1 => ((ziS base s k).1.set (base + k) 0#64, (ziS base s k).2 ++ [(2, base + k)])
theorem ziS_len (base : Nat) (s : SlSt) (k : Nat) : (ziS base s k).1.length = s.1.length ∧ (ziS base s k).2.length = s.2.length + k := by
  induction k with
  | zero => exact ⟨rfl, rfl⟩
  | succ k ih => unfold ziS; simp [ih]; omega
theorem ziS_all (base : Nat) (s : SlSt) (n : Nat) : ziS base s (3 * n) = wrS base (fun _ => sl0) s n := by
  induction n with
  | zero => rfl
  | succ n ih =>
    show ziS base s (3 * n + 1 + 1 + 1) = _
    simp only [ziS, ih]
    rfl
theorem cell_threeR (w : World) (x y z : Value) (t : TypeId) : ∀ j u, [x, y, z][j]? = some u → (w.alloc (.cells #[x, y, z] t)).cell? ((⟨w.heap.size, 0, none⟩ : Addr).add j) = some u := by
  intro j u hu
  rw [add_addr, Nat.zero_add, World.cell?_alloc_new]
  simpa using hu
section
variable {w : World} {F : Nat → Prop} {r : Nat} {C : List (BitVec 64)} {E : List Ev}
theorem rrow_bad (v : Value) (base n : Int) (hn : n < 1 ∨ 288 < n) (w : World) :
    Calls Tryz.prog 68 #[v, .int .i64 base, .int .i64 n, .int .i64 3] w fun e w' => e = .returned (.int .i64 7) ∧ w = w' := by
  have t : decide (n < 1) = true ∨ (decide (n < 1) = false ∧ decide (288 < n) = true) := by
    by_cases q : n < 1
    · exact .inl (decide_eq_true q)
    · exact .inr ⟨decide_eq_false q, decide_eq_true (by omega)⟩
  clear hn
  rcases t with t1 | ⟨t1, t2⟩
  all_goals
    go_enter Tryz.func68, Tryz.ntmps68
    go_wp2_with fail
    go_ret
    exact ⟨rfl, rfl⟩
theorem rrow_nil (base n : Int) (h1 : 1 ≤ n) (h2 : n ≤ 288) (w : World) :
    Calls Tryz.prog 68 #[.pointer none, .int .i64 base, .int .i64 n, .int .i64 3] w fun e w' => e = .returned (.int .i64 1) ∧ w = w' := by
  have d1 : decide (n < 1) = false := decide_eq_false (by omega)
  have d2 : decide (288 < n) = false := decide_eq_false (by omega)
  go_enter Tryz.func68, Tryz.ntmps68
  go_wp2_with fail
  refine (rhas_nil _ _ _).mono ?_
  rintro e w' ⟨rfl, rfl⟩
  go_wp2_with fail
  go_ret
  exact ⟨rfl, rfl⟩
theorem rrow_any (h : Rf w F r C E) (base n : Int) :
    Calls Tryz.prog 68 #[.pointer (some ⟨r, 0, none⟩), .int .i64 base, .int .i64 n, .int .i64 3] w fun e w' => e = .returned (.int .i64 (ckS C.length E.length base n)) ∧ w = w' := by
  by_cases hn : n < 1 ∨ 288 < n
  · have := rrow_bad (.pointer (some ⟨r, 0, none⟩)) base n hn w
    rwa [show ckS C.length E.length base n = 7 by unfold ckS; rw [if_pos hn]]
  · have d1 : decide (n < 1) = false := decide_eq_false (by omega)
    have d2 : decide (288 < n) = false := decide_eq_false (by omega)
    have g1 : 1 ≤ n := by omega
    have g2 : n ≤ 288 := by omega
    have HH := Lib.hid (rhas_any h base (3 * n))
    have HR := Lib.hid (rroom_any h (3 * n))
    have HC : Hid (ckS C.length E.length base n = if hasE C.length base (3 * n) = 0 then roomE E.length (3 * n) else hasE C.length base (3 * n)) := Lib.hid (by unfold ckS; rw [if_neg hn])
    obtain ⟨c1, hc1⟩ : ∃ c, hasE C.length base (3 * n) = c := ⟨_, rfl⟩
    obtain ⟨c2, hc2⟩ : ∃ c, roomE E.length (3 * n) = c := ⟨_, rfl⟩
    rw [hc1] at HH HC
    rw [hc2] at HR HC
    clear hc1 hc2 hn h
    by_cases hz : c1 = 0
    · subst hz
      rw [HC.out, if_pos rfl]
      go_enter Tryz.func68, Tryz.ntmps68
      go_wp2_with fail
      refine HH.out.mono ?_
      rintro e w' ⟨rfl, rfl⟩
      go_wp2_with fail
      refine HR.out.mono ?_
      rintro e w' ⟨rfl, rfl⟩
      go_wp2_with fail
      go_ret
      exact ⟨rfl, rfl⟩
    · rw [HC.out, if_neg hz]
      have hz2 : (c1 == 0) = false := by simpa using hz
      have hz3 : (c1 != 0) = true := by simpa using hz
      clear hz
      go_enter Tryz.func68, Tryz.ntmps68
      go_wp2_with fail
      refine HH.out.mono ?_
      rintro e w' ⟨rfl, rfl⟩
      go_wp2_with fail
      go_ret
      exact ⟨rfl, rfl⟩
set_option maxHeartbeats 1000000 in
theorem rwrite_ok (h : Rf w F r C E) (base n : Nat) (b o c : Nat) (L : List Sl) (hL : L.length = n) (hb : b < w.heap.size) (hF : ¬ F b) (hc : ∀ j u, (slC L)[j]? = some u → w.cell? ⟨b, o + j, none⟩ = some u) (hz : ckS C.length E.length base n = 0) :
    Calls Tryz.prog 24 #[.pointer (some ⟨r, 0, none⟩), .int .i64 (base : Int), .slice (some ⟨b, o, none⟩) n c] w fun e w' => e = .returned (.int .i64 0) ∧ RfTo w F r (wrS base (sl L) (C, E) n).1 (wrS base (sl L) (C, E) n).2 w' := by
  obtain ⟨g1, g2, g3, g4, g5⟩ := ckS_zero hz
  have hn2 := h.n2
  have HCK := Lib.hid (rrow_any h (base : Int) (n : Int))
  rw [hz] at HCK
  have HW := Lib.hid (WkR.start h)
  have HC := Lib.hid hc
  have HL := Lib.hid hL
  have HB := Lib.hid (And.intro hb hF)
  clear h hz hc hL hb hF
  go_enter Tryz.func24, Tryz.ntmps24
  go_wp2_with fail
  refine HCK.out.mono ?_
  rintro e w' ⟨rfl, rfl⟩
  go_wp2_with fail
  clear HCK
  go_loopw [8] (fun i wr => ∃ j : Nat, j ≤ n ∧ i = .int .i64 (j : Int) ∧ WkR w F wr [] r (wrS base (sl L) (C, E) j).1 (wrS base (sl L) (C, E) j).2) (fun i _ => n - (intOf i).toNat)
  case atStart => exact ⟨0, Nat.zero_le _, rfl, HW.out⟩
  case round =>
    obtain ⟨j, hj, rfl, hrel⟩ := hrel
    have H0 := Lib.hid hrel
    clear hrel HW
    by_cases hlt : j < n
    rotate_left
    · obtain rfl : j = n := by omega
      go_wp2_with fail
      go_ret
      exact ⟨rfl, H0.out.done⟩
    obtain ⟨l1, l2⟩ := wrS_len base (sl L) (C, E) j
    have HN : Hid (wrS base (sl L) (C, E) (j + 1) = stS (wrS base (sl L) (C, E) j) (base + 3 * j) (sl L j)) := Lib.hid rfl
    obtain ⟨⟨C1, E1⟩, hCE⟩ : ∃ s, wrS base (sl L) (C, E) j = s := ⟨_, rfl⟩
    rw [hCE] at H0 HN l1 l2
    dsimp only at H0 HN l1 l2
    obtain ⟨d0, d1, d2⟩ := Rd.slot (F := Nob) (n := n) (c := c) HC.out j (by rw [HL.out]; exact hlt)
    have e0 := (World.cell?_of_block (a := ⟨b, o + j * 3, none⟩) (H0.out.done.2.block b HB.out.1 HB.out.2)).trans d0
    obtain ⟨⟨x0, x1, x2⟩, hx⟩ : ∃ x, sl L j = x := ⟨_, rfl⟩
    rw [hx] at e0 d1 d2 HN
    dsimp only at e0 d1 d2
    have HDD := Lib.hid (And.intro d1 d2)
    clear hCE hx d0 d1 d2
    go_wp2_with fail
    refine (H0.out.call (fun w F ha => by have := rstore_ok ha ((base : Int) + 3 * (j : Int)) x0 (by omega) (by rw [l1]; omega) (by rw [l2]; omega); rw [show ((base : Int) + 3 * (j : Int)).toNat = base + 3 * j by omega] at this; exact this)).mono ?_
    rintro e w1 ⟨rfl, h1⟩
    have H1 := Lib.hid h1
    clear h1 H0 e0
    have e1 := (H1.out.done.2.block b HB.out.1 HB.out.2)
    replace e1 := (World.cell?_of_block (a := ⟨b, o + j * 3 + 1, none⟩) e1).trans HDD.out.1
    go_wp2_with fail
    refine (H1.out.call (fun w F ha => by have := rstore_ok ha ((base : Int) + 3 * (j : Int) + 1) x1 (by omega) (by simp [l1]; omega) (by simp [l2]; omega); rw [show ((base : Int) + 3 * (j : Int) + 1).toNat = base + 3 * j + 1 by omega] at this; exact this)).mono ?_
    rintro e w2 ⟨rfl, h2⟩
    have H2 := Lib.hid h2
    clear h2 H1 e1
    have e2 := (H2.out.done.2.block b HB.out.1 HB.out.2)
    replace e2 := (World.cell?_of_block (a := ⟨b, o + j * 3 + 2, none⟩) e2).trans HDD.out.2
    go_wp2_with fail
    refine (H2.out.call (fun w F ha => by have := rstore_ok ha ((base : Int) + 3 * (j : Int) + 2) x2 (by omega) (by simp [l1]; omega) (by simp [l2]; omega); rw [show ((base : Int) + 3 * (j : Int) + 2).toNat = base + 3 * j + 2 by omega] at this; exact this)).mono ?_
    rintro e w3 ⟨rfl, h3⟩
    have H3 := Lib.hid h3
    clear h3 H2 e2
    go_wp2_with fail
    go_roundw
    case rel => exact ⟨j + 1, by omega, by go_num, by rw [HN.out]; exact H3.out⟩
    case measure => simp [intOf]; omega
/-- A list that is read, in the making: apart from the arena. -/
def RdI (w : World) (F : Nat → Prop) (r : Nat) (C : List (BitVec 64)) (E : List Ev) (base j : Nat) (v : Value) (W : World) : Prop :=
  ∃ F1, Rf W F1 r C (rdE base E j) ∧ (∀ k, F1 k → F k ∨ w.heap.size ≤ k) ∧ Off F w W ∧ (∀ k, F k → k < w.heap.size) ∧ W.ownsRow w.heap.size 46 3 v j (slC (rdL base C j)) ∧ ∀ k, v.ownBlock = some k → ¬ F1 k
theorem RdI.form {w : World} {F : Nat → Prop} {r : Nat} {C : List (BitVec 64)} {E : List Ev} {base j : Nat} {v : Value} {W : World} (h : RdI w F r C E base j v W) : ∃ A c, v = .slice A j c := by
  obtain ⟨F1, hr, hf, ho, hl, hown, hap⟩ := h
  rcases hown.2 with ⟨rfl, h0⟩ | ⟨g, cap, cur, rfl, _⟩
  · have e0 : j = 0 := by have := hown.1; rw [h0] at this; simp at this; omega
    exact ⟨none, 0, by rw [e0]⟩
  · exact ⟨_, cap, rfl⟩
set_option maxHeartbeats 4000000 in
theorem rread_ok (h : Rf w F r C E) (base n : Nat) (hz : ckS C.length E.length base n = 0) :
    Calls Tryz.prog 25 #[.pointer (some ⟨r, 0, none⟩), .int .i64 (base : Int), .int .i64 (n : Int)] w fun e w' => ∃ v, e = .returned (.tuple #[v, .int .i64 0]) ∧ RdI w F r C E base n v w' := by
  obtain ⟨g1, g2, g3, g4, g5⟩ := ckS_zero hz
  have hn2 := h.n2
  obtain ⟨is0, his, hsz0, hsz1, hsz2⟩ := info_parts Tryz.infoSl
  have HCK := Lib.hid (rrow_any h (base : Int) (n : Int))
  rw [hz] at HCK
  have HW : Hid (RdI w F r C E base 0 (.slice none 0 0) w) := Lib.hid ⟨F, h, fun k hk => .inl hk, Off.refl _ _, h.lt, World.ownsRow_nil _ _ _ _, fun k hk => by simp [Value.ownBlock] at hk⟩
  clear h hz
  go_enter Tryz.func25, Tryz.ntmps25
  go_wp2_with fail
  refine HCK.out.mono ?_
  rintro e w' ⟨rfl, rfl⟩
  go_wp2_with fail
  clear HCK
  go_loopw [9, 10] (fun v i wr => ∃ j : Nat, j ≤ n ∧ i = .int .i64 (j : Int) ∧ RdI w F r C E base j v wr) (fun _ i _ => n - (intOf i).toNat)
  case atStart => exact ⟨0, Nat.zero_le _, rfl, HW.out⟩
  case round =>
    obtain ⟨j, hj, rfl, hrel⟩ := hrel
    by_cases hlt : j < n
    rotate_left
    · obtain rfl : j = n := by omega
      have HR := Lib.hid hrel
      clear hrel HW
      go_wp2_with fail
      go_ret2
      exact ⟨_, rfl, HR.out⟩
    obtain ⟨A, cap, rfl⟩ := RdI.form hrel
    obtain ⟨F1, hr, hf, ho, hl, hown, hap⟩ := hrel
    have H0 := Lib.hid (WkR.start hr)
    have HF := Lib.hid (And.intro hf (And.intro ho (And.intro hl (And.intro hown (And.intro hap hr.lt)))))
    have l2 := rdE_len base E j
    have HN : Hid (rdE base E (j + 1) = ((rdE base E j ++ [(1, base + 3 * j)]) ++ [(1, base + 3 * j + 1)]) ++ [(1, base + 3 * j + 2)]) := Lib.hid rfl
    have HNL := Lib.hid (rdL_succ base C j)
    obtain ⟨E1, hE1⟩ : ∃ s, rdE base E j = s := ⟨_, rfl⟩
    rw [hE1] at H0 HN l2
    obtain ⟨x0, hx0⟩ : ∃ x, cl C (base + 3 * j) = x := ⟨_, rfl⟩
    obtain ⟨x1, hx1⟩ : ∃ x, cl C (base + 3 * j + 1) = x := ⟨_, rfl⟩
    obtain ⟨x2, hx2⟩ : ∃ x, cl C (base + 3 * j + 2) = x := ⟨_, rfl⟩
    have HX := Lib.hid (And.intro hx0 (And.intro hx1 hx2))
    clear hE1 hx0 hx1 hx2 hr hf ho hl hown hap HW
    go_wp2_with fail
    refine (H0.out.call (fun w F ha => by have := rload_ok ha ((base : Int) + 3 * (j : Int)) (by omega) (by omega) (by rw [l2]; omega); rw [show ((base : Int) + 3 * (j : Int)).toNat = base + 3 * j by omega, HX.out.1] at this; exact this)).mono ?_
    rintro e w1 ⟨rfl, h1⟩
    have H1 := Lib.hid h1
    clear h1 H0
    go_wp2_with fail
    refine (H1.out.call (fun w F ha => by have := rload_ok ha ((base : Int) + 3 * (j : Int) + 1) (by omega) (by omega) (by simp [l2]; omega); rw [show ((base : Int) + 3 * (j : Int) + 1).toNat = base + 3 * j + 1 by omega, HX.out.2.1] at this; exact this)).mono ?_
    rintro e w2 ⟨rfl, h2⟩
    have H2 := Lib.hid h2
    clear h2 H1
    go_wp2_with fail
    refine (H2.out.call (fun w F ha => by have := rload_ok ha ((base : Int) + 3 * (j : Int) + 2) (by omega) (by omega) (by simp [l2]; omega); rw [show ((base : Int) + 3 * (j : Int) + 2).toNat = base + 3 * j + 2 by omega, HX.out.2.2] at this; exact this)).mono ?_
    rintro e w3 ⟨rfl, h3⟩
    have H3 := Lib.hid h3
    clear h3 H2
    have hown3 := Lib.hid (own_to HF.out.2.2.2.1 (fun g hg => H3.out.done.2.block g (HF.out.2.2.2.1.lt g hg).2 (HF.out.2.2.2.2.1 g hg)))
    go_wp2_with (at_builtin; refine wpList_append_own_at _ rfl _ _ 22 rfl w.heap.size 46 is0 (.agg #[.int .u64 0, .int .u64 0, .int .u64 0]) 3 24 Tryz.underlying22 his hsz0 hsz1 hsz2 rfl (by decide) (.slice A j cap) j (slC (rdL base C j)) rfl (hown3.out.alloc _) ⟨w3.heap.size, 0, none⟩ 1 1 [.int .u64 (n64 x0), .int .u64 (n64 x1), .int .u64 (n64 x2)] rfl rfl ?c1 ?c2 ?c3 ?c4 ?c5 ?_)
    case c1 => exact cell_threeR _ _ _ _ _
    case c2 => intro u hu; simp at hu; rcases hu with rfl | rfl | rfl <;> rfl
    case c3 => unfold maxLen; omega
    case c4 => omega
    case c5 => have := H3.out.done.2.size; have := HF.out.2.1.size; simp; omega
    intro v' w4 hown' hgrow hnil hat
    have HR4 : Hid (RdI w F r C E base (j + 1) v' w4) := Lib.hid (by
      obtain ⟨F1', a1, a2⟩ := H3.out
      obtain ⟨k1, k2⟩ := H3.out.done
      have hsz3 := k2.size
      have hap3 : ∀ k, (Value.slice A j cap).ownBlock = some k → ¬ Grow F1 wr w3 k := fun k hk hn => by
        rcases hn with hn | hn
        · exact HF.out.2.2.2.2.1 k hk hn
        · have := (HF.out.2.2.2.1.lt k hk).2; omega
      have oG : Off (fun k => (Value.slice A j cap).ownBlock = some k) w3 w4 := Off.grown (Off.alloc (Off.refl _ _) _) hgrow (fun k hk => .inl hk)
      refine ⟨Grow F1 wr w3, by rw [HN.out]; exact k1.keep oG (fun k hk hn => hap3 k hn hk), fun k hk => ?_, ?_, HF.out.2.2.1, ?_, fun k hk => ?_⟩
      · rcases hk with hk | hk
        · exact HF.out.1 k hk
        · exact .inr (Nat.le_trans HF.out.2.1.size hk.1)
      · have o2 : Off F w w3 := ⟨k2.os.trans HF.out.2.1.os, k2.tape.trans HF.out.2.1.tape, k2.output.trans HF.out.2.1.output, Nat.le_trans HF.out.2.1.size k2.size, fun k hk hn => (k2.block k (Nat.lt_of_lt_of_le hk HF.out.2.1.size) (fun hf1 => by rcases HF.out.1 k hf1 with h | h; exact hn h; omega)).trans (HF.out.2.1.block k hk hn)⟩
        exact (o2.alloc _).grown hgrow (fun k hk => .inr (HF.out.2.2.2.1.lt k hk).1)
      · rw [HNL.out, slC_snoc]
        unfold rdV
        rw [HX.out.1, HX.out.2.1, HX.out.2.2]
        exact hown'
      · rcases hat with e | e
        · exact hap3 k (e ▸ hk)
        · rw [e] at hk
          injection hk with hk
          subst hk
          intro hn
          rcases hn with hn | hn
          · have := HF.out.2.2.2.2.2 _ hn; omega
          · have := hn.2; omega)
    clear hown' hgrow hnil hat
    go_wp2_with fail
    go_roundw
    case rel => exact ⟨j + 1, by omega, by go_num, HR4.out⟩
    case measure => simp [intOf]; omega
end
end Go.Proofs.YtedbafgejladiaaGreat

/-
  dragnetref22.Fill.
-/
namespace Go.Proofs.YtedbafgejladiaaGreat
open Go.RowKit
set_option linter.unusedVariables false
set_option linter.unusedSimpArgs false
set_option maxRecDepth 100000
section
variable {w : World} {F : Nat → Prop} {r : Nat} {C : List (BitVec 64)} {E : List Ev}
theorem ris_msk (b : Bool) (w : World) : Calls Tryz.prog 101 #[.int .u64 (n64 (msk b))] w fun e w' => e = .returned (.bool true) ∧ w = w' := by
  cases b
  · show Calls Tryz.prog 101 #[.int .u64 0] w _
    go_enter Tryz.func101, Tryz.ntmps101
    go_wp2_with fail
    go_ret
    exact ⟨rfl, rfl⟩
  · show Calls Tryz.prog 101 #[.int .u64 18446744073709551615] w _
    go_enter Tryz.func101, Tryz.ntmps101
    go_wp2_with fail
    go_ret
    exact ⟨rfl, rfl⟩
end
end Go.Proofs.YtedbafgejladiaaGreat

/-
  slots.Of.
-/
namespace Go.Proofs.YtedbafgejladiaaGreat
open Go.RowKit
set_option linter.unusedVariables false
set_option linter.unusedSimpArgs false
set_option maxRecDepth 100000
/-- The slot of a hit. -/
def ofV (x : Hi) : Sl := (msk true, bv x.1, bv x.2)
/-- The slots of the first k hits, and empty ones. -/
def ofK (H : List Hi) (n k : Nat) : List Sl := (H.take k).map ofV ++ List.replicate (n - k) sl0
theorem ofK_len (H : List Hi) (n k : Nat) (h : k ≤ n) (h2 : k ≤ H.length) : (ofK H n k).length = n := by simp [ofK]; omega
theorem ofK_zero (H : List Hi) (n : Nat) : ofK H n 0 = List.replicate n sl0 := by simp [ofK]
theorem ofK_set (H : List Hi) (n k : Nat) (h : k < n) (h2 : k < H.length) : (ofK H n k).set k (ofV (hi H k)) = ofK H n (k + 1) := by
  unfold ofK
  have e : H.take (k + 1) = H.take k ++ [hi H k] := by
    rw [List.take_succ_eq_append_getElem h2]
    congr 2
    simp [hi, List.getD, h2]
  rw [List.set_append_right _ _ (by simp; omega), e, List.map_append, List.append_assoc]
  congr 1
  rw [show k - (List.map ofV (List.take k H)).length = 0 by simp; omega]
  obtain ⟨m, hm⟩ : ∃ m, n - k = m + 1 := ⟨n - k - 1, by omega⟩
  rw [hm, show n - (k + 1) = m by omega]
  rfl
/-- The slots of hits. -/
def ofL (H : List Hi) (n : Nat) : List Sl := ofK H n H.length
/-- The error of Of. -/
def ofE (m : Nat) (n : Int) : Int := if n < 1 ∨ 288 < n then 7 else if n < m then 3 else 0
def OfI (w : World) (g n : Nat) (A : List Sl) (W : World) : Prop := W.ownsRow w.heap.size 46 3 (.slice (some ⟨g, 0, none⟩) n n) n (slC A) ∧ Off Nob w W
theorem OfI.put {w W : World} {g n : Nat} {A : List Sl} (h : OfI w g n A W) (k : Nat) (x : Sl) : OfI w g n (A.set k x) (W.setCells g (k * 3) [.int .u64 (n64 x.1), .int .u64 (n64 x.2.1), .int .u64 (n64 x.2.2)]) := by
  obtain ⟨i3, i5⟩ := h
  have hw := (i3.lt g rfl).1
  show OfI w g n (A.set k x) (((W.setCell ⟨g, k * 3, none⟩ (.int .u64 (n64 x.1))).setCell ⟨g, k * 3 + 1, none⟩ (.int .u64 (n64 x.2.1))).setCell ⟨g, k * 3 + 1 + 1, none⟩ (.int .u64 (n64 x.2.2)))
  refine ⟨?_, ((i5.put (p := ⟨g, _, none⟩) (.inr hw) _).put (p := ⟨g, _, none⟩) (.inr hw) _).put (p := ⟨g, _, none⟩) (.inr hw) _⟩
  have := (((i3.stored (k * 3) (.int .u64 (n64 x.1))).1.stored (k * 3 + 1) (.int .u64 (n64 x.2.1))).1.stored (k * 3 + 2) (.int .u64 (n64 x.2.2))).1
  rw [slC_set] at this
  exact this
theorem OfI.there {w W : World} {g n : Nat} {A : List Sl} (h : OfI w g n A W) (k : Nat) (hk : k < n) : W.there g (k * 3) 3 := fun j hj =>
  ⟨by rw [h.1.cellAt _ (by omega), List.getElem?_eq_getElem (by rw [h.1.1]; omega)]; rfl, h.1.frozenAt _⟩
theorem OfI.off {w W W1 : World} {g n : Nat} {A : List Sl} (h : OfI w g n A W) (o : Off Nob W W1) : OfI w g n A W1 := ⟨own_to h.1 (fun k hk => o.block k (h.1.lt k hk).2 (fun h => h)), h.2.also o⟩
theorem made_slots' (n : Nat) : (madeCells (Value.agg #[.int .u64 0, .int .u64 0, .int .u64 0]).cells (n * 3)).toList = slC (List.replicate n sl0) := by
  unfold sl0
  rw [slC_replicate]
  apply List.ext_getElem
  · simp [madeCells]
  · intro i h1 h2
    simp only [madeCells, List.getElem_replicate, Value.cells]
    have hlt : i % 3 < 3 := Nat.mod_lt _ (by decide)
    have : i % 3 = 0 ∨ i % 3 = 1 ∨ i % 3 = 2 := by omega
    rcases this with e | e | e <;> simp [e]
theorem Tryz.infoSl3o : (Tryz.prog.info? 46).map (·.size) = some 3 := by kernel_rfl
theorem cell_apartO {W : World} {b i : Nat} {v : Value} (h : W.cell? ⟨b, i, none⟩ = some v) (g o : Nat) (vs : List Value) (hap : b ≠ g) : (W.setCells g o vs).cell? ⟨b, i, none⟩ = some v := by
  have := World.rangeAt_setCells_apart (w := W) (b' := b) (o' := i) (cs := [v]) (fun j u hu => by
    match j, hu with
    | 0, hu => simp at hu; subst hu; exact h) g o vs (.inl hap)
  exact this 0 v rfl
end Go.Proofs.YtedbafgejladiaaGreat

