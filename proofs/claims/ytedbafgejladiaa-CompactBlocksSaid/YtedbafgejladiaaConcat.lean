import Derived.Test.YtedbafgejladiaaSlPure
import Derived.Test.YtedbafgejladiaaPair
import Derived.Test.YtedbafgejladiaaAppend
import Derived.Lib.AppendZeros
import Derived.LoopN
/-
  slices.Grow of nil, slices.Concat of two rows of slots.
-/
namespace Go.Proofs.Ytedbafgejladiaa
open Go.RowKit
set_option linter.unusedVariables false
set_option linter.unusedSimpArgs false
set_option maxRecDepth 100000
def GrowP (w : World) (e : Ending) (w' : World) : Prop := ∃ g c, e = .returned (.slice (some ⟨g, 0, none⟩) 0 c) ∧ w'.ownsRow w.heap.size 47 3 (.slice (some ⟨g, 0, none⟩) 0 c) 0 [] ∧ Off Nob w w'
theorem grow_ok (n : Nat) (h1 : 1 ≤ n) (hn : n ≤ 600) (w : World) : Calls Try.prog 86 #[.slice none 0 0, .int .i64 (n : Int)] w (GrowP w) := by
  obtain ⟨i0, hi, hz0, hz1, hz2⟩ := info_parts Try.infoSl
  have hp : decide (0 < (n : Int)) = true := decide_eq_true (by omega)
  have hng : decide ((n : Int) < 0) = false := decide_eq_false (by omega)
  have hr := fun w => Lib.run_append_nil_zeros (P := Try.prog) w 27 3 27 47 i0 _ .i64 .i64 Try.underlying27 Try.underlying3 hi hz0 n (by omega) (by omega) (by omega) (by rw [hz2]; omega)
  have HR := Lib.hid hr
  clear hr
  go_enter Try.func86, Try.ntmps86
  go_wp2_with (at_builtin; refine Lib.wpList_append_run _ rfl _ _ 27 3 rfl _ _ rfl rfl _ _ (HR.out _) ?_)
  go_ret
  refine ⟨_, _, rfl, own_to (World.ownsRow_made w _ _ (Nat.le_refl _) (grownCap_le_maxLen w n 0 _ (by unfold maxLen; omega)) ?_) (fun _ _ => rfl), Off.drew (Off.alloc (Off.refl _ _) _)⟩
  have := grownCap_ge w n 0 47
  simp only [Array.size_append, size_zeroCells]
  show n * 3 + (_ - n) * 3 = _ * 3
  omega
theorem own_form3 {w : World} {base n : Nat} {t : TypeId} {v : Value} {L : List Sl} (h : w.ownsRow base t 3 v n (slC L)) (hn : 0 < n) : ∃ g c, v = .slice (some ⟨g, 0, none⟩) n c := by
  rcases h.2 with ⟨_, h2⟩ | ⟨g, cap, cur, hv, _⟩
  · have := h.1; rw [h2] at this; simp at this; omega
  · exact ⟨g, cap, hv⟩
set_option maxHeartbeats 4000000 in
theorem concat_ok {w : World} {F G : Nat → Prop} {v0 v1 : Value} {a b : Nat} {A B : List Sl} (hA : Rd w F 3 v0 a (slC A)) (hB : Rd w G 3 v1 b (slC B)) (ha : 1 ≤ a) (hb : 1 ≤ b) (hm : a + b ≤ 600) (g : Nat) (hg : Blk w g 27 #[v0, v1]) :
    Calls Try.prog 53 #[.slice (some ⟨g, 0, none⟩) 2 2] w fun e w' => ∃ h c, e = .returned (.slice (some ⟨h, 0, none⟩) (a + b) c) ∧ w'.ownsRow w.heap.size 47 3 (.slice (some ⟨h, 0, none⟩) (a + b) c) (a + b) (slC (A ++ B)) ∧ Off Nob w w' := by
  obtain ⟨is0, his, hsz0, hsz1, hsz2⟩ := info_parts Try.infoSl
  obtain ⟨A0, c0, rfl, m0, l0, x0⟩ := hA
  obtain ⟨A1, c1, rfl, m1, l1, x1⟩ := hB
  obtain ⟨b0, o0, rfl, _, hb0, hc0⟩ := x0 (by omega)
  obtain ⟨b1, o1, rfl, _, hb1, hc1⟩ := x1 (by omega)
  have HG := Lib.hid hg
  have HN0 : Hid (∀ W, Off Nob w W → ∀ j u, (slC A)[j]? = some u → W.cell? ((⟨b0, o0, none⟩ : Addr).add j) = some u) := Lib.hid (fun W o j u hu => by rw [add_addr, o.cell_old hb0]; exact hc0 j u hu)
  have HN1 : Hid (∀ W, Off Nob w W → ∀ j u, (slC B)[j]? = some u → W.cell? ((⟨b1, o1, none⟩ : Addr).add j) = some u) := Lib.hid (fun W o j u hu => by rw [add_addr, o.cell_old hb1]; exact hc1 j u hu)
  have HL := Lib.hid (And.intro l0 l1)
  have q0 := hg.cell 0
  have q1 := hg.cell 1
  simp only [List.getElem?_toArray, List.getElem?_cons_succ, List.getElem?_cons_zero] at q0 q1
  have hab : decide (((a : Int) + (b : Int)) < 0) = false := decide_eq_false (by omega)
  have haa : decide ((a : Int) < 0) = false := decide_eq_false (by omega)
  clear hg l0 l1 x0 x1 hc0 hc1 hb0 hb1 m0 m1
  go_enter Try.func53, Try.ntmps53
  go_wp2_with fail
  go_loopw [3, 11] (fun z i wr => wr = w ∧ ((z = .int .i64 0 ∧ i = .int .i64 0) ∨ (z = .int .i64 (a : Int) ∧ i = .int .i64 1) ∨ (z = .int .i64 ((a : Int) + (b : Int)) ∧ i = .int .i64 2))) (fun _ i _ => 2 - (intOf i).toNat)
  case atStart => exact ⟨rfl, .inl ⟨rfl, rfl⟩⟩
  case round =>
    obtain ⟨he, hrel⟩ := hrel
    subst wr
    rcases hrel with ⟨rfl, rfl⟩ | ⟨rfl, rfl⟩ | ⟨rfl, rfl⟩
    · go_wp2_with fail
      go_roundw
      case rel => exact ⟨trivial, .inr (.inl ⟨rfl, rfl⟩)⟩
      case measure => simp [intOf]
    · go_wp2_with fail
      go_roundw
      case rel => exact ⟨trivial, .inr (.inr ⟨rfl, rfl⟩)⟩
      case measure => simp [intOf]
    · clear q0 q1
      go_wp2_with fail
      refine Calls.mono (R := GrowP w) (by have := grow_ok (a + b) (by omega) hm w; rwa [show ((a + b : Nat) : Int) = (a : Int) + (b : Int) by push_cast; rfl] at this) ?_
      rintro e W ⟨g1, k1, rfl, hw1, ow1⟩
      have W1 := Lib.hid hw1
      have O1 := Lib.hid ow1
      have hbk := HG.out.to (ow1.block _ HG.out.lt (fun h => h))
      have q0 := hbk.cell 0
      have q1 := hbk.cell 1
      simp only [List.getElem?_toArray, List.getElem?_cons_succ, List.getElem?_cons_zero] at q0 q1
      clear hw1 ow1 hbk q0 q1
      have hgl := HG.out.lt
      have HGL := Lib.hid hgl
      clear hgl
      go_wp2_with fail
      go_loopw [6, 27] (fun v i wx => (i = .int .i64 0 ∧ v = .slice (some ⟨g1, 0, none⟩) 0 k1 ∧ wx.ownsRow w.heap.size 47 3 (.slice (some ⟨g1, 0, none⟩) 0 k1) 0 [] ∧ Off Nob w wx) ∨ (∃ h c, i = .int .i64 1 ∧ v = .slice (some ⟨h, 0, none⟩) a c ∧ wx.ownsRow w.heap.size 47 3 (.slice (some ⟨h, 0, none⟩) a c) a (slC A) ∧ Off Nob w wx) ∨ (∃ h c, i = .int .i64 2 ∧ v = .slice (some ⟨h, 0, none⟩) (a + b) c ∧ wx.ownsRow w.heap.size 47 3 (.slice (some ⟨h, 0, none⟩) (a + b) c) (a + b) (slC (A ++ B)) ∧ Off Nob w wx)) (fun _ i _ => 2 - (intOf i).toNat)
      case atStart => exact .inl ⟨rfl, rfl, W1.out, O1.out⟩
      case round =>
        have hbk : ∀ W, Off Nob w W → W.cell? ⟨g, 0, none⟩ = some (.slice (some ⟨b0, o0, none⟩) a c0) ∧ W.cell? ⟨g, 1, none⟩ = some (.slice (some ⟨b1, o1, none⟩) b c1) := fun W o => ⟨(o.cell_old HGL.out _).trans (HG.out.cell 0), (o.cell_old HGL.out _).trans (HG.out.cell 1)⟩
        rcases hrel with ⟨rfl, rfl, h1, h2⟩ | ⟨h, c, rfl, rfl, h1, h2⟩ | ⟨h, c, rfl, rfl, h1, h2⟩
        · obtain ⟨q0, q1⟩ := hbk _ h2
          have HR := Lib.hid (And.intro h1 h2)
          clear hbk h1 h2 W1 O1
          go_wp2_with (at_builtin; refine wpList_append_own_at _ rfl _ _ 27 rfl w.heap.size 47 is0 (.agg #[.int .u64 0, .int .u64 0, .int .u64 0]) 3 24 Try.underlying27 his hsz0 hsz1 hsz2 rfl (by decide) (.slice (some ⟨g1, 0, none⟩) 0 k1) 0 [] rfl HR.out.1 ⟨b0, o0, none⟩ a _ (slC A) rfl HL.out.1 (HN0.out _ HR.out.2) (slC_one _) ?c3 ?c4 ?c5 ?_)
          case c3 => unfold maxLen; omega
          case c4 => omega
          case c5 => exact HR.out.2.size
          intro v' w2 hown' hgrow hnil hat
          try rw [Nat.zero_add] at hown'
          try rw [List.nil_append] at hown'
          obtain ⟨h2, c2, rfl⟩ := own_form3 hown' (by omega)
          have HR2 : Hid (w2.ownsRow w.heap.size 47 3 (.slice (some ⟨h2, 0, none⟩) (a) c2) (a) (slC (A)) ∧ Off Nob w w2) := Lib.hid ⟨hown', Off.grown HR.out.2 hgrow (fun k hk => .inr (HR.out.1.lt k hk).1)⟩
          clear hown' hgrow hnil hat q0 q1
          go_wp2_with fail
          go_roundw
          case rel => exact .inr (.inl ⟨h2, c2, rfl, rfl, HR2.out.1, HR2.out.2⟩)
          case measure => simp [intOf]
        · obtain ⟨q0, q1⟩ := hbk _ h2
          have HR := Lib.hid (And.intro h1 h2)
          clear hbk h1 h2 W1 O1
          go_wp2_with (at_builtin; refine wpList_append_own_at _ rfl _ _ 27 rfl w.heap.size 47 is0 (.agg #[.int .u64 0, .int .u64 0, .int .u64 0]) 3 24 Try.underlying27 his hsz0 hsz1 hsz2 rfl (by decide) (.slice (some ⟨h, 0, none⟩) a c) a (slC A) rfl HR.out.1 ⟨b1, o1, none⟩ b _ (slC B) rfl HL.out.2 (HN1.out _ HR.out.2) (slC_one _) ?c3 ?c4 ?c5 ?_)
          case c3 => unfold maxLen; omega
          case c4 => omega
          case c5 => exact HR.out.2.size
          intro v' w2 hown' hgrow hnil hat
          rw [← slC_append] at hown'
          obtain ⟨h2, c2, rfl⟩ := own_form3 hown' (by omega)
          have HR2 : Hid (w2.ownsRow w.heap.size 47 3 (.slice (some ⟨h2, 0, none⟩) (a + b) c2) (a + b) (slC (A ++ B)) ∧ Off Nob w w2) := Lib.hid ⟨hown', Off.grown HR.out.2 hgrow (fun k hk => .inr (HR.out.1.lt k hk).1)⟩
          clear hown' hgrow hnil hat q0 q1
          go_wp2_with fail
          go_roundw
          case rel => exact .inr (.inr ⟨h2, c2, rfl, rfl, HR2.out.1, HR2.out.2⟩)
          case measure => simp [intOf]
        · have HR := Lib.hid (And.intro h1 h2)
          clear hbk h1 h2 W1 O1
          go_wp2_with fail
          go_ret
          exact ⟨h, c, rfl, HR.out.1, HR.out.2⟩
end Go.Proofs.Ytedbafgejladiaa

