/-
  network.Rounds, Steps, Plan.
-/
import Derived.Test.YtlefjlclhmapaaaNetMoves
import Derived.Test.YtlefjlclhmapaaaBitsLen
import Derived.Test.YtlefjlclhmapaaaBoxR
import Derived.Maps.OwnIn
import Derived.Maps.AppendAt
import Derived.Deep.MidRow
namespace Go.Proofs.Ytlefjlclhmapaaa
open Go.RowKit Go.Shelf
set_option linter.unusedVariables false
set_option maxRecDepth 100000
theorem ret_fst {a b : Int} {v : Value} (h : a = b) : Ending.returned (.tuple #[.int .i64 a, v]) = .returned (.tuple #[.int .i64 b, v]) := by rw [h]
theorem nrounds_ok (n : Nat) (h1 : 1 ≤ n) (h2 : n ≤ 288) (w : World) : Calls Try.prog 9 #[.int .i64 n] w fun e w' => e = .returned (.tuple #[.int .i64 (rn n), .int .i64 0]) ∧ w = w' := by
  have d1 : decide ((n : Int) < 1) = false := decide_eq_false (by omega)
  have d2 : decide ((288 : Int) < (n : Int)) = false := decide_eq_false (by omega)
  have HB := Lib.hid (bits_Len ((n : Int) - 1) w (by omega) (by omega))
  have hr : ((n : Int) - 1).toNat = n - 1 := by omega
  rw [hr] at HB
  clear hr
  go_enter Try.func9, Try.ntmps9
  go_wp2_with fail
  refine HB.out.mono ?_
  rintro e w' ⟨rfl, rfl⟩
  go_wp2_with fail
  go_ret2
  exact ⟨rfl, rfl⟩
theorem nrounds_bad (n : Int) (h : n < 1 ∨ 288 < n) (w : World) : Calls Try.prog 9 #[.int .i64 n] w fun e w' => e = .returned (.tuple #[.int .i64 0, .int .i64 7]) ∧ w = w' := by
  by_cases h1 : n < 1
  · have d1 : decide (n < 1) = true := decide_eq_true h1
    clear h
    go_enter Try.func9, Try.ntmps9
    go_wp2_with fail
    go_ret2
    exact ⟨rfl, rfl⟩
  · have d1 : decide (n < 1) = false := decide_eq_false h1
    have d2 : decide (288 < n) = true := decide_eq_true (by omega)
    clear h
    go_enter Try.func9, Try.ntmps9
    go_wp2_with fail
    go_ret2
    exact ⟨rfl, rfl⟩
theorem nsteps_bad (n : Int) (h : n < 1 ∨ 288 < n) (w : World) : Calls Try.prog 11 #[.int .i64 n] w fun e w' => e = .returned (.tuple #[.int .i64 0, .int .i64 7]) ∧ w = w' := by
  have HR := Lib.hid (nrounds_bad n h w)
  clear h
  go_enter Try.func11, Try.ntmps11
  go_wp2_with fail
  refine HR.out.mono ?_
  rintro e w' ⟨rfl, rfl⟩
  go_wp2_with fail
  go_ret2
  exact ⟨rfl, rfl⟩
set_option maxHeartbeats 2000000 in
theorem nsteps_ok (n : Nat) (h1 : 1 ≤ n) (h2 : n ≤ 288) (w : World) : Calls Try.prog 11 #[.int .i64 n] w fun e w' => e = .returned (.tuple #[.int .i64 ((16 * (moves n).length : Nat) : Int), .int .i64 0]) ∧ w = w' := by
  have HR := Lib.hid (nrounds_ok n h1 h2 w)
  have hl := moves_len h1 h2
  obtain ⟨L, hL⟩ : ∃ L, (moves n).length = L := ⟨_, rfl⟩
  have hr9 := (rn_ok h1 h2).1
  obtain ⟨r, hr⟩ : ∃ r, rn n = r := ⟨_, rfl⟩
  rw [hL, hr] at hl
  rw [hr] at HR hr9
  rw [hL]
  clear hL hr
  have hc : r = 0 ∨ r = 1 ∨ r = 2 ∨ r = 3 ∨ r = 4 ∨ r = 5 ∨ r = 6 ∨ r = 7 ∨ r = 8 ∨ r = 9 := by omega
  have HL := Lib.hid hl
  clear hl hr9
  rcases hc with rfl | rfl | rfl | rfl | rfl | rfl | rfl | rfl | rfl | rfl
  all_goals
    go_enter Try.func11, Try.ntmps11
    go_wp2_with fail
    refine HR.out.mono ?_
    rintro e w' ⟨rfl, rfl⟩
    go_wp2_with fail
    go_ret2
    exact ⟨ret_fst (by have := HL.out; omega), rfl⟩
/-- A new list of moves. -/
def NewM (w : World) (L : List Mv) (e : Ending) (w' : World) : Prop := ∃ v, e = .returned v ∧ w'.ownsRow w.heap.size 29 3 v L.length (mvC L) ∧ Off Nob w w'
/-- What has been collected, in the box s. -/
def CoI (w : World) (s : Nat) (L : List Mv) (W : World) : Prop := ∃ v, Blk W s 25 #[v] ∧ W.ownsRow w.heap.size 29 3 v L.length (mvC L) ∧ Off Nob w W
theorem coI_own {β : Type} {w : World} {s B : Nat} (hB : w.heap.size ≤ B) (f : β → List Mv) : OwnFrom B (fun x W => CoI w s (f x) W) := fun x W W' row h hg hr => by
  obtain ⟨v, h1, h2, h3⟩ := h
  have hr2 := fun r e => (hr r e).2
  refine ⟨v, h1.to (turn_same hg hr2 h1 rfl), own_to h2 (fun g hg2 => ?_), h3.grown hg (fun k hk => .inr (Nat.le_trans hB (hr k hk).1))⟩
  obtain ⟨o, ho, hc⟩ := own_isC h2 g hg2
  exact turn_same hg hr2 ho hc
theorem blk_own {β : Type} {B : Nat} (s : Nat) (t : TypeId) (cs : Array Value) (q : Prop) : OwnFrom B (fun (_ : β) W => q ∧ Blk W s t cs) := fun x W W' row h hg hr =>
  ⟨h.1, h.2.to (turn_same hg (fun r e => (hr r e).2) h.2 rfl)⟩
theorem Try.infoMv : (Try.prog.info? 29).map (fun i => (i.zero, i.size, i.bytes)) = some (some (.agg #[.int .i64 0, .int .i64 0, .int .i64 0]), 3, 24) := by kernel_rfl
theorem cell_three_new (w : World) (x y z : Value) (t : TypeId) : ∀ j u, [x, y, z][j]? = some u → (w.alloc (.cells #[x, y, z] t)).cell? ((⟨w.heap.size, 0, none⟩ : Addr).add j) = some u := by
  intro j u hu
  rw [add_addr, Nat.zero_add, World.cell?_alloc_new]
  simpa using hu
section
attribute [local go_sem] Oper.semAt_some
set_option maxHeartbeats 4000000 in
theorem nappend_ok (b n : Nat) (h1 : 1 ≤ n) (h2 : n ≤ 288) (w : World) (hb : Blk w b 3 #[.int .i64 n]) :
    Calls Try.prog 61 #[.slice none 0 0, .func (.func 62) #[] #[.pointer (some ⟨b, 0, none⟩)]] w (NewM w (moves n)) := by
  obtain ⟨i0, hI, hz0, hz1, hz2⟩ := info_parts Try.infoMv
  have hml := (moves_le h1 h2).2.2
  have hblt := hb.lt
  have HB := Lib.hid hb
  clear hb
  refine (callsIn_wide (n := 4)).1 ?_
  refine callsIn_of_wp_marks Try.func61 rfl trivial ?_ rfl
  simp only [Try.ntmps61, List.size_toArray, List.length_cons, List.length_nil, Nat.reduceAdd, Nat.reduceSub, Array.replicate_succ, Array.replicate_zero, List.push_toArray, List.append_toArray, List.nil_append, List.cons_append]
  gi_wp2_with fail
  obtain ⟨W0, hW0⟩ : ∃ W0, w.alloc (.cells #[.slice none 0 0] 25) = W0 := ⟨_, rfl⟩
  have HS : Hid (W0.heap.size = w.heap.size + 1) := Lib.hid (by rw [← hW0]; simp)
  have HI0 : Hid (CoI w w.heap.size [] W0) := Lib.hid (by rw [← hW0]; exact ⟨_, Blk.new _ _ _, (World.ownsRow_nil _ _ _ _ : World.ownsRow _ w.heap.size 29 3 (.slice none 0 0) 0 []), Off.alloc (Off.refl _ _) _⟩)
  have HB0 : Hid (Blk W0 b 3 #[.int .i64 n]) := Lib.hid (by rw [← hW0]; exact HB.out.alloc _)
  rw [hW0]
  clear hW0 HB
  apply wpIn_rangeFunc_ownH (F := Fence.wide) (n := 4) rfl (by decide) (gf := 62) (lb := #[.pointer (some ⟨b, 0, none⟩)]) rfl trivial (enters_of Try.func62 (by kernel_rfl) rfl)
    (moves_stops (4 - 1) (by decide) b n h1 h2 W0 HB0.out) (fun h k => kpB_t h k) (kpB_b (fun x hx => by rw [HS.out]; simp at hx; omega)) (Below.refl _ _) (fun _ => rfl)
    (fun pre W => CoI w w.heap.size (pre.map Subtype.val) W)
    (fun _ _ _ => False) (coI_own (by rw [HS.out]; omega) _) (fun _ _ _ _ _ hs _ _ => hs) HI0.out
    (fun x a' W => ∃ Bx, W0.heap.size ≤ Bx ∧ Blk W Bx 29 #[.int .i64 x.1.1, .int .i64 x.1.2.1, .int .i64 x.1.2.2] ∧ a' = { tmps := #[.slice none 0 0, .func (.func 62) #[] #[.pointer (some ⟨b, 0, none⟩)], .pointer (some ⟨w.heap.size, 0, none⟩), undef, .slice none 0 0, .pointer (some ⟨Bx, 0, none⟩), .func (.func 62) #[] #[.pointer (some ⟨b, 0, none⟩)], .agg #[.int .i64 x.1.1, .int .i64 x.1.2.1, .int .i64 x.1.2.2], undef, undef, undef, undef, undef], defers := [] })
  case hAx =>
    rintro x a' s W W' row ⟨Bx, g1, g2, g3⟩ hg hr
    exact ⟨Bx, g1, g2.to (turn_same hg (fun r e => (hr r e).2) g2 rfl), g3⟩
  case hassign =>
    intro l pre x W K hi hK
    obtain ⟨v, g1, g2, g3⟩ := hi
    have HI : Hid (CoI w w.heap.size (pre.map Subtype.val) (W.alloc (.cells #[.int .i64 x.1.1, .int .i64 x.1.2.1, .int .i64 x.1.2.2] 29))) := Lib.hid ⟨v, g1.alloc _, g2.alloc _, g3.alloc _⟩
    have HK := Lib.hid (hK _ _ ((KeepsOthers.alloc W _).from _) (fun x hx => Below.heap_alloc _ _ _ (by simp at hx; have := g3.size; omega)) HI.out ⟨W.heap.size, by have := g3.size; have := g1.lt; rw [HS.out]; omega, Blk.new _ _ _, rfl⟩)
    clear hK g1 g2 g3 HI
    simp only [mvV]
    gi_wp2
    exact HK.out
  case hbody =>
    rintro l pre x a' W hl hr hi ⟨Bx, hBx, bX, rfl⟩ hlt
    obtain ⟨⟨mj, mi, mk⟩, hm⟩ := x
    obtain ⟨v, g1, g2, g3⟩ := hi
    have HNX := Lib.hid (show (pre ++ [(⟨(mj, mi, mk), hm⟩ : {x // x ∈ moves n})]).map Subtype.val = pre.map Subtype.val ++ [(mj, mi, mk)] by simp)
    dsimp only at bX ⊢
    generalize pre ++ [(⟨(mj, mi, mk), hm⟩ : {x // x ∈ moves n})] = nx at HNX ⊢
    have hvf : ∃ A c, v = .slice A (pre.map Subtype.val).length c := by
      rcases g2.2 with ⟨rfl, h0⟩ | ⟨g, cap, cur, rfl, _⟩
      · exact ⟨none, 0, by rw [h0]⟩
      · exact ⟨_, cap, rfl⟩
    obtain ⟨A, cap, rfl⟩ := hvf
    have hpl : (pre.map Subtype.val).length ≤ 2592 := by rw [List.length_map]; omega
    obtain ⟨L, hL⟩ : ∃ L, pre.map Subtype.val = L := ⟨_, rfl⟩
    rw [hL] at g1 g2 hpl HNX
    have c0 := g1.cell 0
    have x0 := bX.cell 0
    have x1 := bX.cell 1
    have x2 := bX.cell 2
    simp only [List.getElem?_toArray, List.getElem?_cons_succ, List.getElem?_cons_zero] at c0 x0 x1 x2
    have f0 := g1.frozen 0
    have G1 := Lib.hid g1
    have G2 := Lib.hid g2
    have G3 := Lib.hid g3
    have HBX := Lib.hid bX
    clear hm hlt hl hr bX hL g1 g2 g3 HI0
    gi_wp2_with (gi_at_builtin; refine wpListIn_append_own_at _ rfl _ _ 25 rfl w.heap.size 29 i0 (.agg #[.int .i64 0, .int .i64 0, .int .i64 0]) 3 24 Try.underlying25 hI hz0 hz1 hz2 rfl (by decide) (.slice A L.length cap) L.length (mvC L) rfl (G2.out.alloc _) ⟨W.heap.size, 0, none⟩ 1 1 [.int .i64 mj, .int .i64 mi, .int .i64 mk] rfl rfl ?c1 ?c2 ?c3 ?c4 ?c5 ?_)
    case c1 => exact cell_three_new _ _ _ _ _
    case c2 => intro u hu; simp at hu; rcases hu with rfl | rfl | rfl <;> rfl
    case c3 => unfold maxLen; omega
    case c4 => omega
    case c5 => have := G3.out.size; simp; omega
    intro v' w1 hown' hgrow hnil hat
    rw [show mvC L ++ [Value.int .i64 mj, .int .i64 mi, .int .i64 mk] = mvC (nx.map Subtype.val) by rw [HNX.out, mvC_snoc]] at hown'
    have hne : (Value.slice A L.length cap).ownBlock ≠ some w.heap.size := own_diff G2.out G1.out (by decide)
    have hB1 : Blk w1 w.heap.size 25 #[.slice A L.length cap] := (G1.out.alloc (.cells #[.int .i64 mj, .int .i64 mi, .int .i64 mk] 29)).to (hgrow.block _ (by have := G1.out.lt; simp; omega) (Ne.symm hne))
    have hb0 := hB1.cell 0
    have hf0 := hB1.frozen 0
    simp only [List.getElem?_toArray, List.getElem?_cons_zero] at hb0
    have HG := Lib.hid hgrow
    have HO := Lib.hid hown'
    have HB1 := Lib.hid hB1
    have hvf : ∃ A c, v' = .slice A (L.length + 1) c := by
      rcases hown'.2 with ⟨rfl, h0⟩ | ⟨g, cap, cur, rfl, _⟩
      · omega
      · exact ⟨_, cap, rfl⟩
    obtain ⟨A2, cap2, rfl⟩ := hvf
    clear hown' hgrow hnil hat hne hB1 c0 x0 x1 x2 f0
    gi_wp2_with fail
    have hown2 : (w1.setCell ⟨w.heap.size, 0, none⟩ (.slice A2 (L.length + 1) cap2)).ownsRow w.heap.size 29 3 (.slice A2 (L.length + 1) cap2) (L.length + 1) (mvC (nx.map Subtype.val)) := own_to HO.out fun g hg => Below.heap_setCell _ ⟨w.heap.size, 0, none⟩ _ _ (fun e => by subst e; exact own_diff HO.out HB1.out (by decide) hg)
    have hoff : Off (fun k => k = w.heap.size ∨ (Value.slice A L.length cap).ownBlock = some k) W (w1.setCell ⟨w.heap.size, 0, none⟩ (.slice A2 (L.length + 1) cap2)) :=
      Off.put (p := ⟨w.heap.size, 0, none⟩) (Off.grown (Off.alloc (Off.refl _ _) _) HG.out (fun k hk => .inl (.inr hk))) (.inl (.inl rfl)) _
    have hge : ∀ k, (k = w.heap.size ∨ (Value.slice A L.length cap).ownBlock = some k) → w.heap.size ≤ k := fun k hk => by
      rcases hk with rfl | hk
      · exact Nat.le_refl _
      · exact (G2.out.lt k hk).1
    refine ⟨(offC_keeps hoff (fun k hk => ?_)).from _, fun x hx => ?_, ?_⟩
    · rcases hk with rfl | hk
      · exact G1.out.isC
      · exact own_isC G2.out k hk
    · simp at hx
      subst hx
      exact hoff.block _ (by have := G3.out.size; omega) (fun h => by have := hge _ h; omega)
    · refine ⟨_, HB1.out.put 0 _, ?_, G3.out.own hoff hge⟩
      rw [show (nx.map Subtype.val).length = L.length + 1 by rw [HNX.out]; simp]
      exact hown2
  case hdone =>
    rintro D xs W hD hxs hi hK
    have HI : Hid (CoI w w.heap.size (moves n) (W.putObj D (.deferred none))) := Lib.hid (by
      rw [← hxs]
      exact coI_own (w := w) (s := w.heap.size) (B := w.heap.size) (Nat.le_refl _) (fun ys : List {x // x ∈ moves n} => ys.map Subtype.val) xs W _ (some D) hi (grownBy_putObj' W D (.deferred none)) (fun r e => by cases e; exact ⟨by have := HS.out; omega, _, hK, rfl⟩))
    obtain ⟨v, g1, g2, g3⟩ := hi
    obtain ⟨v2, k1, k2, k3⟩ := HI.out
    have hv : v2 = v := by
      have h1 := k1.cell 0
      have h2 := g1.cell 0
      rw [World.cell?_of_block (a := ⟨w.heap.size, 0, none⟩) (World.putObj_heap_other (fun e => by have := HS.out; simp at e; omega))] at h1
      rw [h2] at h1
      simpa using h1.symm
    subst hv
    have c0 := g1.cell 0
    simp only [List.getElem?_toArray, List.getElem?_cons_zero] at c0
    have HK := Lib.hid hK
    have K2 := Lib.hid k2
    have K3 := Lib.hid k3
    have hvf : ∃ A c, v2 = .slice A xs.length c := by
      rcases g2.2 with ⟨rfl, h0⟩ | ⟨g, cap, cur, rfl, _⟩
      · exact ⟨none, 0, by rw [List.length_map] at h0; rw [h0]⟩
      · exact ⟨_, cap, by rw [List.length_map]⟩
    obtain ⟨A, cap, rfl⟩ := hvf
    clear g1 g2 g3 k1 k2 k3 hxs hK HI
    gi_wp2_with fail
    refine ⟨by simp, .inl ⟨_, _, rfl, run_takeDeferred HK.out, ?_⟩⟩
    exact ⟨.slice A xs.length cap, by simp [results, Try.f61, go_sem], _, rfl, K2.out, K3.out⟩
  case hstop =>
    rintro D c pre W _ _ h _
    exact h.elim
end
theorem ncollect_ok (b n : Nat) (h1 : 1 ≤ n) (h2 : n ≤ 288) (w : World) (hb : Blk w b 3 #[.int .i64 n]) :
    Calls Try.prog 37 #[.func (.func 62) #[] #[.pointer (some ⟨b, 0, none⟩)]] w (NewM w (moves n)) := by
  have HA := Lib.hid (nappend_ok b n h1 h2 w hb)
  clear hb
  go_enter Try.func37, Try.ntmps37
  go_wp2_with fail
  refine HA.out.mono ?_
  rintro e w1 ⟨v, rfl, g1, g2⟩
  have G1 := Lib.hid g1
  have G2 := Lib.hid g2
  clear g1 g2
  go_wp2_with fail
  go_ret
  exact ⟨_, rfl, G1.out, G2.out⟩
/-- What Plan does. -/
def NewM2 (w : World) (L : List Mv) (e : Ending) (w' : World) : Prop := ∃ v, e = .returned (.tuple #[v, .int .i64 0]) ∧ w'.ownsRow w.heap.size 29 3 v L.length (mvC L) ∧ Off Nob w w'
theorem nplan_ok (n : Nat) (h1 : 1 ≤ n) (h2 : n ≤ 288) (w : World) :
    Calls Try.prog 13 #[.int .i64 n] w (NewM2 w (moves n)) := by
  go_enter Try.func13, Try.ntmps13
  go_wp2_with fail
  refine (nrounds_ok n h1 h2 w).mono ?_
  rintro e w' ⟨rfl, rfl⟩
  go_wp2_with fail
  refine (nmoves_any n w).mono ?_
  rintro e w' ⟨rfl, rfl⟩
  go_wp2_with fail
  refine (ncollect_ok w.heap.size n h1 h2 _ (Blk.new _ _ _)).mono ?_
  rintro e w1 ⟨v, rfl, g1, g2⟩
  have G1 : Hid (w1.ownsRow w.heap.size 29 3 v (moves n).length (mvC (moves n))) := Lib.hid (own_low (by simp) g1)
  have G2 : Hid (Off Nob w w1) := Lib.hid ((Off.alloc (Off.refl Nob w) _).also g2)
  clear g1 g2
  go_wp2_with fail
  go_ret2
  exact ⟨_, rfl, G1.out, G2.out⟩
theorem nplan_bad (n : Int) (h : n < 1 ∨ 288 < n) (w : World) :
    Calls Try.prog 13 #[.int .i64 n] w fun e w' => e = .returned (.tuple #[.slice none 0 0, .int .i64 7]) ∧ w = w' := by
  have HR := Lib.hid (nrounds_bad n h w)
  clear h
  go_enter Try.func13, Try.ntmps13
  go_wp2_with fail
  refine HR.out.mono ?_
  rintro e w' ⟨rfl, rfl⟩
  go_wp2_with fail
  go_ret2
  exact ⟨rfl, rfl⟩
end Go.Proofs.Ytlefjlclhmapaaa
