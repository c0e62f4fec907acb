/-
  dragnetref02.get, with and Of at rows of one word.
-/
import Derived.Test.YtkflicifngohcaaGreatDoorJ22
namespace Go.Proofs.YtkflicifngohcaaGreatDoor
open Go.RowKit
set_option linter.unusedVariables false
set_option linter.unusedSimpArgs false
set_option maxRecDepth 100000
theorem Tryz.infoU64 : (Tryz.prog.info? 41).map (fun i => (i.zero, i.size, i.bytes)) = some (some (.int .u64 0), 1, 8) := by kernel_rfl
theorem made_u1 : (madeCells (Value.int .u64 0).cells (1 * 1)).toList = [.int .u64 0] := by
  rw [Nat.mul_one]
  show (madeCells #[.int .u64 0] 1).toList = _
  rw [toList_madeCells_one]
  rfl
set_option maxHeartbeats 2000000 in
theorem co_get_0_0 (w : World) (v : Value) (hv : Rd w (fun _ => True) 1 v 1 [.int .u64 0]) : Calls Tryz.prog 139 #[v, .int .i64 0] w (RetV w (.bool false)) := by
  have hb : bits .and .u64 0 1 = 0 := by decide
  obtain ⟨b, o, c, rfl, hc⟩ := hv.cellsT (by decide)
  have c0 := hc _ (Off.refl _ _) 0 _ rfl
  simp only [Nat.add_zero] at c0
  clear hc hv
  go_enter Tryz.func139, Tryz.ntmps139
  go_wp2_with fail
  go_ret
  exact ⟨rfl, Off.refl _ _⟩
set_option maxHeartbeats 2000000 in
theorem co_with_0_0 (w : World) (v : Value) (hv : Rd w (fun _ => True) 1 v 1 [.int .u64 0]) : Calls Tryz.prog 140 #[v, .int .i64 0, .bool true] w (fun e w' => ∃ v, e = .returned v ∧ Rd w' (fun k => w.heap.size ≤ k) 1 v 1 [.int .u64 1] ∧ Off Nob w w') := by
  have hb : bits .xor .u64 0 1 = 1 := by decide
  obtain ⟨i_u64, h_u64, z_u64, s_u64, b_u64⟩ := info_parts Tryz.infoU64
  have HV := Lib.hid hv
  obtain ⟨b, o, c, rfl, hc⟩ := hv.cellsT (by decide)
  have HV1 := HV
  have HC := Lib.hid hc
  clear hc hv HV
  go_enter Tryz.func140, Tryz.ntmps140
  go_wp2_with (at_builtin; refine @wpList_append_lies _ _ _ _ _ _ _ rfl _ _ 23 rfl w.heap.size 41 i_u64 (.int .u64 0) 1 8 Tryz.underlying23 h_u64 z_u64 s_u64 b_u64 rfl (by decide) (.slice (some ⟨w.heap.size, 0, none⟩) 0 0) 0 [] rfl (World.ownsRow_made w #[] 0 (Nat.le_refl _) (by decide) rfl) ⟨b, o, none⟩ 1 c [.int .u64 0] rfl rfl ?c1 (by decide) (by decide) (by decide) (by decide) (Off.alloc (Off.refl Nob w) (.cells #[] 41)).size _ rfl ?_)
  case c1 => intro j u hj; rw [add_addr]; exact HC.out _ (Off.alloc (Off.refl _ _) _) j u hj
  intro g cap w1 hown hgrow hat hlt
  have OW1 : Hid (OwnL w w1 41 1 (.slice (some ⟨g, 0, none⟩) (0 + 1) cap) (0 + 1) ([] ++ [.int .u64 0])) := Lib.hid ⟨hown, Off.grown (Off.alloc (Off.refl _ _) _) hgrow (fun k hk => by simp [Value.ownBlock] at hk; right; omega)⟩
  clear hown hgrow hat hlt
  go_wp2_with fail
  refine (co_get_0_0 _ _ (HV1.out.keepT OW1.out.2)).mono ?_
  rintro e w2 ⟨rfl, o1⟩
  have OW2 := Lib.hid (OW1.out.off o1)
  clear o1 OW1
  have c0 := OW2.out.1.cellAt 0 (by decide)
  have f0 := OW2.out.1.frozenAt 0
  replace c0 : w2.cell? ⟨g, 0, none⟩ = some (.int .u64 0) := c0
  have OW3 : Hid (OwnL w (w2.setCell ⟨g, 0, none⟩ (.int .u64 1)) 41 1 (.slice (some ⟨g, 0, none⟩) 1 cap) 1 [.int .u64 1]) := Lib.hid ⟨(OW2.out.1.stored 0 (.int .u64 1)).1, OW2.out.2.put (.inr (OW2.out.1.lt g rfl).1) _⟩
  clear OW2
  go_wp2_with fail
  go_ret
  exact ⟨_, rfl, Rd.own OW3.out.1 (fun k hk => (OW3.out.1.lt k hk).1), OW3.out.2⟩
set_option maxHeartbeats 2000000 in
theorem co_get_1_2 (w : World) (v : Value) (hv : Rd w (fun _ => True) 1 v 1 [.int .u64 1]) : Calls Tryz.prog 139 #[v, .int .i64 2] w (RetV w (.bool false)) := by
  have hb : bits .and .u64 0 1 = 0 := by decide
  obtain ⟨b, o, c, rfl, hc⟩ := hv.cellsT (by decide)
  have c0 := hc _ (Off.refl _ _) 0 _ rfl
  simp only [Nat.add_zero] at c0
  clear hc hv
  go_enter Tryz.func139, Tryz.ntmps139
  go_wp2_with fail
  go_ret
  exact ⟨rfl, Off.refl _ _⟩
set_option maxHeartbeats 2000000 in
theorem co_with_1_2 (w : World) (v : Value) (hv : Rd w (fun _ => True) 1 v 1 [.int .u64 1]) : Calls Tryz.prog 140 #[v, .int .i64 2, .bool true] w (fun e w' => ∃ v, e = .returned v ∧ Rd w' (fun k => w.heap.size ≤ k) 1 v 1 [.int .u64 5] ∧ Off Nob w w') := by
  have hb : bits .xor .u64 1 4 = 5 := by decide
  obtain ⟨i_u64, h_u64, z_u64, s_u64, b_u64⟩ := info_parts Tryz.infoU64
  have HV := Lib.hid hv
  obtain ⟨b, o, c, rfl, hc⟩ := hv.cellsT (by decide)
  have HV1 := HV
  have HC := Lib.hid hc
  clear hc hv HV
  go_enter Tryz.func140, Tryz.ntmps140
  go_wp2_with (at_builtin; refine @wpList_append_lies _ _ _ _ _ _ _ rfl _ _ 23 rfl w.heap.size 41 i_u64 (.int .u64 0) 1 8 Tryz.underlying23 h_u64 z_u64 s_u64 b_u64 rfl (by decide) (.slice (some ⟨w.heap.size, 0, none⟩) 0 0) 0 [] rfl (World.ownsRow_made w #[] 0 (Nat.le_refl _) (by decide) rfl) ⟨b, o, none⟩ 1 c [.int .u64 1] rfl rfl ?c1 (by decide) (by decide) (by decide) (by decide) (Off.alloc (Off.refl Nob w) (.cells #[] 41)).size _ rfl ?_)
  case c1 => intro j u hj; rw [add_addr]; exact HC.out _ (Off.alloc (Off.refl _ _) _) j u hj
  intro g cap w1 hown hgrow hat hlt
  have OW1 : Hid (OwnL w w1 41 1 (.slice (some ⟨g, 0, none⟩) (0 + 1) cap) (0 + 1) ([] ++ [.int .u64 1])) := Lib.hid ⟨hown, Off.grown (Off.alloc (Off.refl _ _) _) hgrow (fun k hk => by simp [Value.ownBlock] at hk; right; omega)⟩
  clear hown hgrow hat hlt
  go_wp2_with fail
  refine (co_get_1_2 _ _ (HV1.out.keepT OW1.out.2)).mono ?_
  rintro e w2 ⟨rfl, o1⟩
  have OW2 := Lib.hid (OW1.out.off o1)
  clear o1 OW1
  have c0 := OW2.out.1.cellAt 0 (by decide)
  have f0 := OW2.out.1.frozenAt 0
  replace c0 : w2.cell? ⟨g, 0, none⟩ = some (.int .u64 1) := c0
  have OW3 : Hid (OwnL w (w2.setCell ⟨g, 0, none⟩ (.int .u64 5)) 41 1 (.slice (some ⟨g, 0, none⟩) 1 cap) 1 [.int .u64 5]) := Lib.hid ⟨(OW2.out.1.stored 0 (.int .u64 5)).1, OW2.out.2.put (.inr (OW2.out.1.lt g rfl).1) _⟩
  clear OW2
  go_wp2_with fail
  go_ret
  exact ⟨_, rfl, Rd.own OW3.out.1 (fun k hk => (OW3.out.1.lt k hk).1), OW3.out.2⟩
set_option maxHeartbeats 2000000 in
theorem co_get_0_1 (w : World) (v : Value) (hv : Rd w (fun _ => True) 1 v 1 [.int .u64 0]) : Calls Tryz.prog 139 #[v, .int .i64 1] w (RetV w (.bool false)) := by
  have hb : bits .and .u64 0 1 = 0 := by decide
  obtain ⟨b, o, c, rfl, hc⟩ := hv.cellsT (by decide)
  have c0 := hc _ (Off.refl _ _) 0 _ rfl
  simp only [Nat.add_zero] at c0
  clear hc hv
  go_enter Tryz.func139, Tryz.ntmps139
  go_wp2_with fail
  go_ret
  exact ⟨rfl, Off.refl _ _⟩
set_option maxHeartbeats 2000000 in
theorem co_with_0_1 (w : World) (v : Value) (hv : Rd w (fun _ => True) 1 v 1 [.int .u64 0]) : Calls Tryz.prog 140 #[v, .int .i64 1, .bool true] w (fun e w' => ∃ v, e = .returned v ∧ Rd w' (fun k => w.heap.size ≤ k) 1 v 1 [.int .u64 2] ∧ Off Nob w w') := by
  have hb : bits .xor .u64 0 2 = 2 := by decide
  obtain ⟨i_u64, h_u64, z_u64, s_u64, b_u64⟩ := info_parts Tryz.infoU64
  have HV := Lib.hid hv
  obtain ⟨b, o, c, rfl, hc⟩ := hv.cellsT (by decide)
  have HV1 := HV
  have HC := Lib.hid hc
  clear hc hv HV
  go_enter Tryz.func140, Tryz.ntmps140
  go_wp2_with (at_builtin; refine @wpList_append_lies _ _ _ _ _ _ _ rfl _ _ 23 rfl w.heap.size 41 i_u64 (.int .u64 0) 1 8 Tryz.underlying23 h_u64 z_u64 s_u64 b_u64 rfl (by decide) (.slice (some ⟨w.heap.size, 0, none⟩) 0 0) 0 [] rfl (World.ownsRow_made w #[] 0 (Nat.le_refl _) (by decide) rfl) ⟨b, o, none⟩ 1 c [.int .u64 0] rfl rfl ?c1 (by decide) (by decide) (by decide) (by decide) (Off.alloc (Off.refl Nob w) (.cells #[] 41)).size _ rfl ?_)
  case c1 => intro j u hj; rw [add_addr]; exact HC.out _ (Off.alloc (Off.refl _ _) _) j u hj
  intro g cap w1 hown hgrow hat hlt
  have OW1 : Hid (OwnL w w1 41 1 (.slice (some ⟨g, 0, none⟩) (0 + 1) cap) (0 + 1) ([] ++ [.int .u64 0])) := Lib.hid ⟨hown, Off.grown (Off.alloc (Off.refl _ _) _) hgrow (fun k hk => by simp [Value.ownBlock] at hk; right; omega)⟩
  clear hown hgrow hat hlt
  go_wp2_with fail
  refine (co_get_0_1 _ _ (HV1.out.keepT OW1.out.2)).mono ?_
  rintro e w2 ⟨rfl, o1⟩
  have OW2 := Lib.hid (OW1.out.off o1)
  clear o1 OW1
  have c0 := OW2.out.1.cellAt 0 (by decide)
  have f0 := OW2.out.1.frozenAt 0
  replace c0 : w2.cell? ⟨g, 0, none⟩ = some (.int .u64 0) := c0
  have OW3 : Hid (OwnL w (w2.setCell ⟨g, 0, none⟩ (.int .u64 2)) 41 1 (.slice (some ⟨g, 0, none⟩) 1 cap) 1 [.int .u64 2]) := Lib.hid ⟨(OW2.out.1.stored 0 (.int .u64 2)).1, OW2.out.2.put (.inr (OW2.out.1.lt g rfl).1) _⟩
  clear OW2
  go_wp2_with fail
  go_ret
  exact ⟨_, rfl, Rd.own OW3.out.1 (fun k hk => (OW3.out.1.lt k hk).1), OW3.out.2⟩
set_option maxHeartbeats 2000000 in
theorem co_get_0_2 (w : World) (v : Value) (hv : Rd w (fun _ => True) 1 v 1 [.int .u64 0]) : Calls Tryz.prog 139 #[v, .int .i64 2] w (RetV w (.bool false)) := by
  have hb : bits .and .u64 0 1 = 0 := by decide
  obtain ⟨b, o, c, rfl, hc⟩ := hv.cellsT (by decide)
  have c0 := hc _ (Off.refl _ _) 0 _ rfl
  simp only [Nat.add_zero] at c0
  clear hc hv
  go_enter Tryz.func139, Tryz.ntmps139
  go_wp2_with fail
  go_ret
  exact ⟨rfl, Off.refl _ _⟩
set_option maxHeartbeats 2000000 in
theorem co_with_0_2 (w : World) (v : Value) (hv : Rd w (fun _ => True) 1 v 1 [.int .u64 0]) : Calls Tryz.prog 140 #[v, .int .i64 2, .bool true] w (fun e w' => ∃ v, e = .returned v ∧ Rd w' (fun k => w.heap.size ≤ k) 1 v 1 [.int .u64 4] ∧ Off Nob w w') := by
  have hb : bits .xor .u64 0 4 = 4 := by decide
  obtain ⟨i_u64, h_u64, z_u64, s_u64, b_u64⟩ := info_parts Tryz.infoU64
  have HV := Lib.hid hv
  obtain ⟨b, o, c, rfl, hc⟩ := hv.cellsT (by decide)
  have HV1 := HV
  have HC := Lib.hid hc
  clear hc hv HV
  go_enter Tryz.func140, Tryz.ntmps140
  go_wp2_with (at_builtin; refine @wpList_append_lies _ _ _ _ _ _ _ rfl _ _ 23 rfl w.heap.size 41 i_u64 (.int .u64 0) 1 8 Tryz.underlying23 h_u64 z_u64 s_u64 b_u64 rfl (by decide) (.slice (some ⟨w.heap.size, 0, none⟩) 0 0) 0 [] rfl (World.ownsRow_made w #[] 0 (Nat.le_refl _) (by decide) rfl) ⟨b, o, none⟩ 1 c [.int .u64 0] rfl rfl ?c1 (by decide) (by decide) (by decide) (by decide) (Off.alloc (Off.refl Nob w) (.cells #[] 41)).size _ rfl ?_)
  case c1 => intro j u hj; rw [add_addr]; exact HC.out _ (Off.alloc (Off.refl _ _) _) j u hj
  intro g cap w1 hown hgrow hat hlt
  have OW1 : Hid (OwnL w w1 41 1 (.slice (some ⟨g, 0, none⟩) (0 + 1) cap) (0 + 1) ([] ++ [.int .u64 0])) := Lib.hid ⟨hown, Off.grown (Off.alloc (Off.refl _ _) _) hgrow (fun k hk => by simp [Value.ownBlock] at hk; right; omega)⟩
  clear hown hgrow hat hlt
  go_wp2_with fail
  refine (co_get_0_2 _ _ (HV1.out.keepT OW1.out.2)).mono ?_
  rintro e w2 ⟨rfl, o1⟩
  have OW2 := Lib.hid (OW1.out.off o1)
  clear o1 OW1
  have c0 := OW2.out.1.cellAt 0 (by decide)
  have f0 := OW2.out.1.frozenAt 0
  replace c0 : w2.cell? ⟨g, 0, none⟩ = some (.int .u64 0) := c0
  have OW3 : Hid (OwnL w (w2.setCell ⟨g, 0, none⟩ (.int .u64 4)) 41 1 (.slice (some ⟨g, 0, none⟩) 1 cap) 1 [.int .u64 4]) := Lib.hid ⟨(OW2.out.1.stored 0 (.int .u64 4)).1, OW2.out.2.put (.inr (OW2.out.1.lt g rfl).1) _⟩
  clear OW2
  go_wp2_with fail
  go_ret
  exact ⟨_, rfl, Rd.own OW3.out.1 (fun k hk => (OW3.out.1.lt k hk).1), OW3.out.2⟩
set_option maxHeartbeats 2000000 in
theorem co_get_2_2 (w : World) (v : Value) (hv : Rd w (fun _ => True) 1 v 1 [.int .u64 2]) : Calls Tryz.prog 139 #[v, .int .i64 2] w (RetV w (.bool false)) := by
  have hb : bits .and .u64 0 1 = 0 := by decide
  obtain ⟨b, o, c, rfl, hc⟩ := hv.cellsT (by decide)
  have c0 := hc _ (Off.refl _ _) 0 _ rfl
  simp only [Nat.add_zero] at c0
  clear hc hv
  go_enter Tryz.func139, Tryz.ntmps139
  go_wp2_with fail
  go_ret
  exact ⟨rfl, Off.refl _ _⟩
set_option maxHeartbeats 2000000 in
theorem co_with_2_2 (w : World) (v : Value) (hv : Rd w (fun _ => True) 1 v 1 [.int .u64 2]) : Calls Tryz.prog 140 #[v, .int .i64 2, .bool true] w (fun e w' => ∃ v, e = .returned v ∧ Rd w' (fun k => w.heap.size ≤ k) 1 v 1 [.int .u64 6] ∧ Off Nob w w') := by
  have hb : bits .xor .u64 2 4 = 6 := by decide
  obtain ⟨i_u64, h_u64, z_u64, s_u64, b_u64⟩ := info_parts Tryz.infoU64
  have HV := Lib.hid hv
  obtain ⟨b, o, c, rfl, hc⟩ := hv.cellsT (by decide)
  have HV1 := HV
  have HC := Lib.hid hc
  clear hc hv HV
  go_enter Tryz.func140, Tryz.ntmps140
  go_wp2_with (at_builtin; refine @wpList_append_lies _ _ _ _ _ _ _ rfl _ _ 23 rfl w.heap.size 41 i_u64 (.int .u64 0) 1 8 Tryz.underlying23 h_u64 z_u64 s_u64 b_u64 rfl (by decide) (.slice (some ⟨w.heap.size, 0, none⟩) 0 0) 0 [] rfl (World.ownsRow_made w #[] 0 (Nat.le_refl _) (by decide) rfl) ⟨b, o, none⟩ 1 c [.int .u64 2] rfl rfl ?c1 (by decide) (by decide) (by decide) (by decide) (Off.alloc (Off.refl Nob w) (.cells #[] 41)).size _ rfl ?_)
  case c1 => intro j u hj; rw [add_addr]; exact HC.out _ (Off.alloc (Off.refl _ _) _) j u hj
  intro g cap w1 hown hgrow hat hlt
  have OW1 : Hid (OwnL w w1 41 1 (.slice (some ⟨g, 0, none⟩) (0 + 1) cap) (0 + 1) ([] ++ [.int .u64 2])) := Lib.hid ⟨hown, Off.grown (Off.alloc (Off.refl _ _) _) hgrow (fun k hk => by simp [Value.ownBlock] at hk; right; omega)⟩
  clear hown hgrow hat hlt
  go_wp2_with fail
  refine (co_get_2_2 _ _ (HV1.out.keepT OW1.out.2)).mono ?_
  rintro e w2 ⟨rfl, o1⟩
  have OW2 := Lib.hid (OW1.out.off o1)
  clear o1 OW1
  have c0 := OW2.out.1.cellAt 0 (by decide)
  have f0 := OW2.out.1.frozenAt 0
  replace c0 : w2.cell? ⟨g, 0, none⟩ = some (.int .u64 2) := c0
  have OW3 : Hid (OwnL w (w2.setCell ⟨g, 0, none⟩ (.int .u64 6)) 41 1 (.slice (some ⟨g, 0, none⟩) 1 cap) 1 [.int .u64 6]) := Lib.hid ⟨(OW2.out.1.stored 0 (.int .u64 6)).1, OW2.out.2.put (.inr (OW2.out.1.lt g rfl).1) _⟩
  clear OW2
  go_wp2_with fail
  go_ret
  exact ⟨_, rfl, Rd.own OW3.out.1 (fun k hk => (OW3.out.1.lt k hk).1), OW3.out.2⟩
set_option maxHeartbeats 4000000 in
theorem co_rof_02 (w : World) (v : Value) (hv : Rd w (fun _ => True) 1 v 2 [.int .i64 0, .int .i64 2]) : Calls Tryz.prog 142 #[.int .i64 1, v] w (fun e w' => ∃ u, e = .returned (.tuple #[u, .int .i64 0]) ∧ Rd w' (fun k => w.heap.size ≤ k) 1 u 1 [.int .u64 5] ∧ Off Nob w w') := by
  obtain ⟨i_u64, h_u64, z_u64, s_u64, b_u64⟩ := info_parts Tryz.infoU64
  obtain ⟨b, o, c, rfl, hc⟩ := hv.cellsT (by decide)
  have GC : Hid (∀ W, Off Nob w W → W.cell? ⟨b, o, none⟩ = some (.int .i64 0) ∧ W.cell? ⟨b, o + 1, none⟩ = some (.int .i64 2)) := Lib.hid (fun W ho => ⟨hc W ho 0 _ rfl, hc W ho 1 _ rfl⟩)
  clear hc hv
  go_enter Tryz.func142, Tryz.ntmps142
  have X0 : Hid (Off Nob w w) := Lib.hid (Off.refl _ _)
  have X0' := X0
  clear X0'
  go_wp2_with (at_make; refine wpList_make_full _ rfl _ _ 23 rfl w.heap.size 41 i_u64 (.int .u64 0) 1 Tryz.underlying23 h_u64 z_u64 s_u64 .i64 .i64 _ _ 1 rfl rfl rfl rfl (by rw [b_u64]; decide) (by decide) (Nat.le_refl _) ?_; intro w1 hown hgrow)
  rw [made_u1] at hown
  have HR1 : Hid (Rd w1 (fun k => w.heap.size ≤ k) 1 (.slice (some ⟨w.heap.size, 0, none⟩) 1 1) 1 [.int .u64 0]) := Lib.hid (Rd.own hown (fun k hk => (hown.lt k hk).1))
  have X1 : Hid (Off Nob w w1) := Lib.hid (Off.grown (Off.refl _ _) hgrow (fun k hk => by cases hk))
  clear hown hgrow X0
  go_wp2_with fail
  refine wp_loop_rounds 3 ?_
  rw [rounds_succ]
  obtain ⟨c0, c1⟩ := GC.out _ X1.out
  go_wp2_with fail
  refine (co_with_0_0 _ _ HR1.out.any).mono ?_
  rintro e w2 ⟨v0, rfl, hr, o1⟩
  have X2 := Lib.hid (X1.out.also o1)
  obtain ⟨hr, o1⟩ := id (And.intro hr o1)
  obtain ⟨A0, k0, rfl, _⟩ := hr.form
  have HR2 := Lib.hid (Rd.mono hr (G := fun k => w.heap.size ≤ k) (fun k hk => Nat.le_trans X1.out.size hk))
  clear hr HR1
  clear o1 X1
  clear c0 c1
  obtain ⟨c0, c1⟩ := GC.out _ X2.out
  go_wp2_with fail
  rw [rounds_succ]
  clear c0 c1
  obtain ⟨c0, c1⟩ := GC.out _ X2.out
  go_wp2_with fail
  refine (co_with_1_2 _ _ HR2.out.any).mono ?_
  rintro e w3 ⟨v1, rfl, hr, o1⟩
  have X3 := Lib.hid (X2.out.also o1)
  obtain ⟨hr, o1⟩ := id (And.intro hr o1)
  obtain ⟨A1, k1, rfl, _⟩ := hr.form
  have HR3 := Lib.hid (Rd.mono hr (G := fun k => w.heap.size ≤ k) (fun k hk => Nat.le_trans X2.out.size hk))
  clear hr HR2
  clear o1 X2
  clear c0 c1
  obtain ⟨c0, c1⟩ := GC.out _ X3.out
  go_wp2_with fail
  rw [rounds_succ]
  clear c0 c1
  obtain ⟨c0, c1⟩ := GC.out _ X3.out
  go_wp2_with fail
  go_ret2
  exact ⟨_, rfl, HR3.out, X3.out⟩
set_option maxHeartbeats 4000000 in
theorem co_rof_1 (w : World) (v : Value) (hv : Rd w (fun _ => True) 1 v 1 [.int .i64 1]) : Calls Tryz.prog 142 #[.int .i64 1, v] w (fun e w' => ∃ u, e = .returned (.tuple #[u, .int .i64 0]) ∧ Rd w' (fun k => w.heap.size ≤ k) 1 u 1 [.int .u64 2] ∧ Off Nob w w') := by
  obtain ⟨i_u64, h_u64, z_u64, s_u64, b_u64⟩ := info_parts Tryz.infoU64
  obtain ⟨b, o, c, rfl, hc⟩ := hv.cellsT (by decide)
  have GC : Hid (∀ W, Off Nob w W → W.cell? ⟨b, o, none⟩ = some (.int .i64 1)) := Lib.hid (fun W ho => hc W ho 0 _ rfl)
  clear hc hv
  go_enter Tryz.func142, Tryz.ntmps142
  have X0 : Hid (Off Nob w w) := Lib.hid (Off.refl _ _)
  have X0' := X0
  clear X0'
  go_wp2_with (at_make; refine wpList_make_full _ rfl _ _ 23 rfl w.heap.size 41 i_u64 (.int .u64 0) 1 Tryz.underlying23 h_u64 z_u64 s_u64 .i64 .i64 _ _ 1 rfl rfl rfl rfl (by rw [b_u64]; decide) (by decide) (Nat.le_refl _) ?_; intro w1 hown hgrow)
  rw [made_u1] at hown
  have HR1 : Hid (Rd w1 (fun k => w.heap.size ≤ k) 1 (.slice (some ⟨w.heap.size, 0, none⟩) 1 1) 1 [.int .u64 0]) := Lib.hid (Rd.own hown (fun k hk => (hown.lt k hk).1))
  have X1 : Hid (Off Nob w w1) := Lib.hid (Off.grown (Off.refl _ _) hgrow (fun k hk => by cases hk))
  clear hown hgrow X0
  go_wp2_with fail
  refine wp_loop_rounds 2 ?_
  rw [rounds_succ]
  have c0 := GC.out _ X1.out
  go_wp2_with fail
  refine (co_with_0_1 _ _ HR1.out.any).mono ?_
  rintro e w2 ⟨v0, rfl, hr, o1⟩
  have X2 := Lib.hid (X1.out.also o1)
  obtain ⟨hr, o1⟩ := id (And.intro hr o1)
  obtain ⟨A0, k0, rfl, _⟩ := hr.form
  have HR2 := Lib.hid (Rd.mono hr (G := fun k => w.heap.size ≤ k) (fun k hk => Nat.le_trans X1.out.size hk))
  clear hr HR1
  clear o1 X1
  clear c0
  have c0 := GC.out _ X2.out
  go_wp2_with fail
  rw [rounds_succ]
  clear c0
  have c0 := GC.out _ X2.out
  go_wp2_with fail
  go_ret2
  exact ⟨_, rfl, HR2.out, X2.out⟩
set_option maxHeartbeats 4000000 in
theorem co_rof_2 (w : World) (v : Value) (hv : Rd w (fun _ => True) 1 v 1 [.int .i64 2]) : Calls Tryz.prog 142 #[.int .i64 1, v] w (fun e w' => ∃ u, e = .returned (.tuple #[u, .int .i64 0]) ∧ Rd w' (fun k => w.heap.size ≤ k) 1 u 1 [.int .u64 4] ∧ Off Nob w w') := by
  obtain ⟨i_u64, h_u64, z_u64, s_u64, b_u64⟩ := info_parts Tryz.infoU64
  obtain ⟨b, o, c, rfl, hc⟩ := hv.cellsT (by decide)
  have GC : Hid (∀ W, Off Nob w W → W.cell? ⟨b, o, none⟩ = some (.int .i64 2)) := Lib.hid (fun W ho => hc W ho 0 _ rfl)
  clear hc hv
  go_enter Tryz.func142, Tryz.ntmps142
  have X0 : Hid (Off Nob w w) := Lib.hid (Off.refl _ _)
  have X0' := X0
  clear X0'
  go_wp2_with (at_make; refine wpList_make_full _ rfl _ _ 23 rfl w.heap.size 41 i_u64 (.int .u64 0) 1 Tryz.underlying23 h_u64 z_u64 s_u64 .i64 .i64 _ _ 1 rfl rfl rfl rfl (by rw [b_u64]; decide) (by decide) (Nat.le_refl _) ?_; intro w1 hown hgrow)
  rw [made_u1] at hown
  have HR1 : Hid (Rd w1 (fun k => w.heap.size ≤ k) 1 (.slice (some ⟨w.heap.size, 0, none⟩) 1 1) 1 [.int .u64 0]) := Lib.hid (Rd.own hown (fun k hk => (hown.lt k hk).1))
  have X1 : Hid (Off Nob w w1) := Lib.hid (Off.grown (Off.refl _ _) hgrow (fun k hk => by cases hk))
  clear hown hgrow X0
  go_wp2_with fail
  refine wp_loop_rounds 2 ?_
  rw [rounds_succ]
  have c0 := GC.out _ X1.out
  go_wp2_with fail
  refine (co_with_0_2 _ _ HR1.out.any).mono ?_
  rintro e w2 ⟨v0, rfl, hr, o1⟩
  have X2 := Lib.hid (X1.out.also o1)
  obtain ⟨hr, o1⟩ := id (And.intro hr o1)
  obtain ⟨A0, k0, rfl, _⟩ := hr.form
  have HR2 := Lib.hid (Rd.mono hr (G := fun k => w.heap.size ≤ k) (fun k hk => Nat.le_trans X1.out.size hk))
  clear hr HR1
  clear o1 X1
  clear c0
  have c0 := GC.out _ X2.out
  go_wp2_with fail
  rw [rounds_succ]
  clear c0
  have c0 := GC.out _ X2.out
  go_wp2_with fail
  go_ret2
  exact ⟨_, rfl, HR2.out, X2.out⟩
set_option maxHeartbeats 4000000 in
theorem co_rof_12 (w : World) (v : Value) (hv : Rd w (fun _ => True) 1 v 2 [.int .i64 1, .int .i64 2]) : Calls Tryz.prog 142 #[.int .i64 1, v] w (fun e w' => ∃ u, e = .returned (.tuple #[u, .int .i64 0]) ∧ Rd w' (fun k => w.heap.size ≤ k) 1 u 1 [.int .u64 6] ∧ Off Nob w w') := by
  obtain ⟨i_u64, h_u64, z_u64, s_u64, b_u64⟩ := info_parts Tryz.infoU64
  obtain ⟨b, o, c, rfl, hc⟩ := hv.cellsT (by decide)
  have GC : Hid (∀ W, Off Nob w W → W.cell? ⟨b, o, none⟩ = some (.int .i64 1) ∧ W.cell? ⟨b, o + 1, none⟩ = some (.int .i64 2)) := Lib.hid (fun W ho => ⟨hc W ho 0 _ rfl, hc W ho 1 _ rfl⟩)
  clear hc hv
  go_enter Tryz.func142, Tryz.ntmps142
  have X0 : Hid (Off Nob w w) := Lib.hid (Off.refl _ _)
  have X0' := X0
  clear X0'
  go_wp2_with (at_make; refine wpList_make_full _ rfl _ _ 23 rfl w.heap.size 41 i_u64 (.int .u64 0) 1 Tryz.underlying23 h_u64 z_u64 s_u64 .i64 .i64 _ _ 1 rfl rfl rfl rfl (by rw [b_u64]; decide) (by decide) (Nat.le_refl _) ?_; intro w1 hown hgrow)
  rw [made_u1] at hown
  have HR1 : Hid (Rd w1 (fun k => w.heap.size ≤ k) 1 (.slice (some ⟨w.heap.size, 0, none⟩) 1 1) 1 [.int .u64 0]) := Lib.hid (Rd.own hown (fun k hk => (hown.lt k hk).1))
  have X1 : Hid (Off Nob w w1) := Lib.hid (Off.grown (Off.refl _ _) hgrow (fun k hk => by cases hk))
  clear hown hgrow X0
  go_wp2_with fail
  refine wp_loop_rounds 3 ?_
  rw [rounds_succ]
  obtain ⟨c0, c1⟩ := GC.out _ X1.out
  go_wp2_with fail
  refine (co_with_0_1 _ _ HR1.out.any).mono ?_
  rintro e w2 ⟨v0, rfl, hr, o1⟩
  have X2 := Lib.hid (X1.out.also o1)
  obtain ⟨hr, o1⟩ := id (And.intro hr o1)
  obtain ⟨A0, k0, rfl, _⟩ := hr.form
  have HR2 := Lib.hid (Rd.mono hr (G := fun k => w.heap.size ≤ k) (fun k hk => Nat.le_trans X1.out.size hk))
  clear hr HR1
  clear o1 X1
  clear c0 c1
  obtain ⟨c0, c1⟩ := GC.out _ X2.out
  go_wp2_with fail
  rw [rounds_succ]
  clear c0 c1
  obtain ⟨c0, c1⟩ := GC.out _ X2.out
  go_wp2_with fail
  refine (co_with_2_2 _ _ HR2.out.any).mono ?_
  rintro e w3 ⟨v1, rfl, hr, o1⟩
  have X3 := Lib.hid (X2.out.also o1)
  obtain ⟨hr, o1⟩ := id (And.intro hr o1)
  obtain ⟨A1, k1, rfl, _⟩ := hr.form
  have HR3 := Lib.hid (Rd.mono hr (G := fun k => w.heap.size ≤ k) (fun k hk => Nat.le_trans X2.out.size hk))
  clear hr HR2
  clear o1 X2
  clear c0 c1
  obtain ⟨c0, c1⟩ := GC.out _ X3.out
  go_wp2_with fail
  rw [rounds_succ]
  clear c0 c1
  obtain ⟨c0, c1⟩ := GC.out _ X3.out
  go_wp2_with fail
  go_ret2
  exact ⟨_, rfl, HR3.out, X3.out⟩
set_option maxHeartbeats 4000000 in
theorem co_rof_no (w : World) (v : Value) (hv : Rd w (fun _ => True) 1 v 0 []) : Calls Tryz.prog 142 #[.int .i64 1, v] w (fun e w' => ∃ u, e = .returned (.tuple #[u, .int .i64 0]) ∧ Rd w' (fun k => w.heap.size ≤ k) 1 u 1 [.int .u64 0] ∧ Off Nob w w') := by
  obtain ⟨i_u64, h_u64, z_u64, s_u64, b_u64⟩ := info_parts Tryz.infoU64
  obtain ⟨AA, cc, rfl, _⟩ := hv.form
  have hc := True.intro
  clear hc hv
  go_enter Tryz.func142, Tryz.ntmps142
  have X0 : Hid (Off Nob w w) := Lib.hid (Off.refl _ _)
  have X0' := X0
  clear X0'
  go_wp2_with (at_make; refine wpList_make_full _ rfl _ _ 23 rfl w.heap.size 41 i_u64 (.int .u64 0) 1 Tryz.underlying23 h_u64 z_u64 s_u64 .i64 .i64 _ _ 1 rfl rfl rfl rfl (by rw [b_u64]; decide) (by decide) (Nat.le_refl _) ?_; intro w1 hown hgrow)
  rw [made_u1] at hown
  have HR1 : Hid (Rd w1 (fun k => w.heap.size ≤ k) 1 (.slice (some ⟨w.heap.size, 0, none⟩) 1 1) 1 [.int .u64 0]) := Lib.hid (Rd.own hown (fun k hk => (hown.lt k hk).1))
  have X1 : Hid (Off Nob w w1) := Lib.hid (Off.grown (Off.refl _ _) hgrow (fun k hk => by cases hk))
  clear hown hgrow X0
  go_wp2_with fail
  refine wp_loop_rounds 1 ?_
  rw [rounds_succ]
  go_wp2_with fail
  go_ret2
  exact ⟨_, rfl, HR1.out, X1.out⟩
end Go.Proofs.YtkflicifngohcaaGreatDoor

/-
  dragnetref17.words, Check, Rules, Starts and Ends at the plan of the example.
-/
namespace Go.Proofs.YtkflicifngohcaaGreatDoor
open Go.RowKit
set_option linter.unusedVariables false
set_option linter.unusedSimpArgs false
set_option maxRecDepth 100000
theorem Tryz.infoLa : (Tryz.prog.info? 188).map (fun i => (i.zero, i.size, i.bytes)) = some (some (.agg #[.int .i64 0, .int .i64 0, .int .i64 0]), 3, 24) := by kernel_rfl
def ln_ab : List Value := [.int .i64 0, .int .i64 0, .int .i64 2, .int .i64 1, .int .i64 2, .int .i64 1]
theorem co_words (w : World) : Calls Tryz.prog 150 #[.int .i64 3] w fun e w' => e = .returned (.int .i64 1) ∧ w = w' := by
  go_enter Tryz.func150, Tryz.ntmps150
  go_wp2_with fail
  go_ret
  exact ⟨rfl, rfl⟩
set_option maxHeartbeats 4000000 in
theorem co_lcheck (w : World) (v : Value) (hv : Rd w (fun _ => True) 3 v 2 ln_ab) : Calls Tryz.prog 137 #[.agg #[.int .i64 1, v]] w (RetV w (.tuple #[.int .i64 0, .int .i64 0])) := by
  have HV0 := Lib.hid hv
  obtain ⟨b, o, c, rfl, hc⟩ := hv.cellsT (by decide)
  have HV := HV0
  have HC := Lib.hid hc
  clear hc hv HV0
  go_enter Tryz.func137, Tryz.ntmps137
  go_wp2_with fail
  have HB0 : Hid (Blk (w.alloc (.cells #[.int .i64 1, .slice (some ⟨b, o, none⟩) 2 c] 97)) w.heap.size 97 #[.int .i64 1, .slice (some ⟨b, o, none⟩) 2 c] ∧ Off Nob w (w.alloc (.cells #[.int .i64 1, .slice (some ⟨b, o, none⟩) 2 c] 97))) := Lib.hid ⟨Blk.new _ _ _, Off.alloc (Off.refl _ _) _⟩
  revert HB0
  generalize (w.alloc (.cells #[.int .i64 1, .slice (some ⟨b, o, none⟩) 2 c] 97)) = w0
  intro HB0
  have GC : Hid (∀ W, Off Nob w0 W → W.cell? ⟨w.heap.size, 0, none⟩ = some (.int .i64 1) ∧ W.cell? ⟨w.heap.size, 1, none⟩ = some (.slice (some ⟨b, o, none⟩) 2 c) ∧ W.cell? ⟨b, o, none⟩ = some (.int .i64 0) ∧ W.cell? ⟨b, o + 1, none⟩ = some (.int .i64 0) ∧ W.cell? ⟨b, o + 2, none⟩ = some (.int .i64 2) ∧ W.cell? ⟨b, o + 3, none⟩ = some (.int .i64 1) ∧ W.cell? ⟨b, o + 4, none⟩ = some (.int .i64 2) ∧ W.cell? ⟨b, o + 5, none⟩ = some (.int .i64 1)) := Lib.hid (fun W ho => by
    have h := HB0.out.1.to (ho.block _ HB0.out.1.lt (fun h => h))
    have k := HC.out W (HB0.out.2.also ho)
    exact ⟨h.cell 0, h.cell 1, k 0 _ rfl, k 1 _ rfl, k 2 _ rfl, k 3 _ rfl, k 4 _ rfl, k 5 _ rfl⟩)
  have X0 : Hid (Off Nob w0 w0) := Lib.hid (Off.refl _ _)
  obtain ⟨t0, t1, c0, c1, c2, c3, c4, c5⟩ := GC.out _ X0.out
  go_wp2_with fail
  refine wp_loop_rounds 3 ?_
  rw [rounds_succ]
  clear t0 t1 c0 c1 c2 c3 c4 c5
  obtain ⟨t0, t1, c0, c1, c2, c3, c4, c5⟩ := GC.out _ X0.out
  go_wp2_with fail
  have BL := Lib.hid (Blk.new w0 188 #[.int .i64 0, .int .i64 0, .int .i64 2])
  have X1 := Lib.hid (X0.out.alloc (.cells #[.int .i64 0, .int .i64 0, .int .i64 2] 188))
  clear X0
  clear t0 t1 c0 c1 c2 c3 c4 c5
  revert BL X1
  generalize w0.alloc (.cells #[.int .i64 0, .int .i64 0, .int .i64 2] 188) = w10
  intro BL X1
  have y0 := BL.out.cell 0
  have y1 := BL.out.cell 1
  have y2 := BL.out.cell 2
  simp only [List.getElem?_toArray, List.getElem?_cons_succ, List.getElem?_cons_zero] at y0 y1 y2
  go_quiet (fail)
  have X2 := Lib.hid (X1.out.drewN nq)
  clear X1 BL y0 y1 y2
  generalize w10.drewN nq = w11 at *
  obtain ⟨t0, t1, c0, c1, c2, c3, c4, c5⟩ := GC.out _ X2.out
  go_wp2_with fail
  rw [rounds_succ]
  clear t0 t1 c0 c1 c2 c3 c4 c5
  obtain ⟨t0, t1, c0, c1, c2, c3, c4, c5⟩ := GC.out _ X2.out
  go_wp2_with fail
  have BL := Lib.hid (Blk.new w11 188 #[.int .i64 1, .int .i64 2, .int .i64 1])
  have X3 := Lib.hid (X2.out.alloc (.cells #[.int .i64 1, .int .i64 2, .int .i64 1] 188))
  clear X2
  clear t0 t1 c0 c1 c2 c3 c4 c5
  revert BL X3
  generalize w11.alloc (.cells #[.int .i64 1, .int .i64 2, .int .i64 1] 188) = w21
  intro BL X3
  have y0 := BL.out.cell 0
  have y1 := BL.out.cell 1
  have y2 := BL.out.cell 2
  simp only [List.getElem?_toArray, List.getElem?_cons_succ, List.getElem?_cons_zero] at y0 y1 y2
  go_quiet (fail)
  have X4 := Lib.hid (X3.out.drewN nq)
  clear X3 BL y0 y1 y2
  generalize w21.drewN nq = w22 at *
  obtain ⟨t0, t1, c0, c1, c2, c3, c4, c5⟩ := GC.out _ X4.out
  go_wp2_with fail
  rw [rounds_succ]
  clear t0 t1 c0 c1 c2 c3 c4 c5
  obtain ⟨t0, t1, c0, c1, c2, c3, c4, c5⟩ := GC.out _ X4.out
  go_wp2_with fail
  go_region_held3 (fun W => W.cell? ⟨w.heap.size, 0, none⟩ = some (.int .i64 1))
    (first | with_reducible assumption | go_keep)
    (first
      | (go_at_call 150; refine (co_words _).mono ?_; rintro e w' ⟨rfl, rfl⟩))
  go_wp2_with fail
  go_ret2
  exact ⟨rfl, HB0.out.2.also X4.out.drew⟩
set_option maxHeartbeats 4000000 in
theorem co_lrules (w : World) (v : Value) (hv : Rd w (fun _ => True) 3 v 2 ln_ab) : Calls Tryz.prog 115 #[.agg #[.int .i64 1, v]] w (RetV w (.tuple #[.int .i64 2, .int .i64 0])) := by
  have HV0 := Lib.hid hv
  obtain ⟨b, o, c, rfl, hc⟩ := hv.cellsT (by decide)
  have HV := HV0
  have HC := Lib.hid hc
  clear hc hv HV0
  go_enter Tryz.func115, Tryz.ntmps115
  go_wp2_with fail
  have HB0 : Hid (Blk (w.alloc (.cells #[.int .i64 1, .slice (some ⟨b, o, none⟩) 2 c] 97)) w.heap.size 97 #[.int .i64 1, .slice (some ⟨b, o, none⟩) 2 c] ∧ Off Nob w (w.alloc (.cells #[.int .i64 1, .slice (some ⟨b, o, none⟩) 2 c] 97))) := Lib.hid ⟨Blk.new _ _ _, Off.alloc (Off.refl _ _) _⟩
  revert HB0
  generalize (w.alloc (.cells #[.int .i64 1, .slice (some ⟨b, o, none⟩) 2 c] 97)) = w0
  intro HB0
  have GC : Hid (∀ W, Off Nob w0 W → W.cell? ⟨w.heap.size, 0, none⟩ = some (.int .i64 1) ∧ W.cell? ⟨w.heap.size, 1, none⟩ = some (.slice (some ⟨b, o, none⟩) 2 c) ∧ W.cell? ⟨b, o, none⟩ = some (.int .i64 0) ∧ W.cell? ⟨b, o + 1, none⟩ = some (.int .i64 0) ∧ W.cell? ⟨b, o + 2, none⟩ = some (.int .i64 2) ∧ W.cell? ⟨b, o + 3, none⟩ = some (.int .i64 1) ∧ W.cell? ⟨b, o + 4, none⟩ = some (.int .i64 2) ∧ W.cell? ⟨b, o + 5, none⟩ = some (.int .i64 1)) := Lib.hid (fun W ho => by
    have h := HB0.out.1.to (ho.block _ HB0.out.1.lt (fun h => h))
    have k := HC.out W (HB0.out.2.also ho)
    exact ⟨h.cell 0, h.cell 1, k 0 _ rfl, k 1 _ rfl, k 2 _ rfl, k 3 _ rfl, k 4 _ rfl, k 5 _ rfl⟩)
  have X0 : Hid (Off Nob w0 w0) := Lib.hid (Off.refl _ _)
  obtain ⟨t0, t1, c0, c1, c2, c3, c4, c5⟩ := GC.out _ X0.out
  go_wp2_with fail
  refine (co_lcheck _ _ (HV.out.keepT HB0.out.2)).mono ?_
  rintro e w1 ⟨rfl, o1⟩
  have X1 := Lib.hid (X0.out.also o1)
  clear o1 X0
  clear t0 t1 c0 c1 c2 c3 c4 c5
  obtain ⟨t0, t1, c0, c1, c2, c3, c4, c5⟩ := GC.out _ X1.out
  go_wp2_with fail
  go_ret2
  exact ⟨rfl, HB0.out.2.also X1.out⟩
set_option maxHeartbeats 4000000 in
theorem co_lstarts (w : World) (v : Value) (hv : Rd w (fun _ => True) 3 v 2 ln_ab) : Calls Tryz.prog 116 #[.agg #[.int .i64 1, v]] w (fun e w' => ∃ u, e = .returned (.tuple #[u, .int .i64 0]) ∧ Rd w' (fun k => w.heap.size ≤ k) 1 u 1 [.int .u64 5] ∧ Off Nob w w') := by
  have HV0 := Lib.hid hv
  obtain ⟨b, o, c, rfl, hc⟩ := hv.cellsT (by decide)
  have HV := HV0
  have HC := Lib.hid hc
  clear hc hv HV0
  obtain ⟨i_int, h_int, z_int, s_int, b_int⟩ := info_parts Tryz.infoI'
  go_enter Tryz.func116, Tryz.ntmps116
  go_wp2_with fail
  have HB0 : Hid (Blk (w.alloc (.cells #[.int .i64 1, .slice (some ⟨b, o, none⟩) 2 c] 97)) w.heap.size 97 #[.int .i64 1, .slice (some ⟨b, o, none⟩) 2 c] ∧ Off Nob w (w.alloc (.cells #[.int .i64 1, .slice (some ⟨b, o, none⟩) 2 c] 97))) := Lib.hid ⟨Blk.new _ _ _, Off.alloc (Off.refl _ _) _⟩
  revert HB0
  generalize (w.alloc (.cells #[.int .i64 1, .slice (some ⟨b, o, none⟩) 2 c] 97)) = w0
  intro HB0
  have GC : Hid (∀ W, Off Nob w0 W → W.cell? ⟨w.heap.size, 0, none⟩ = some (.int .i64 1) ∧ W.cell? ⟨w.heap.size, 1, none⟩ = some (.slice (some ⟨b, o, none⟩) 2 c) ∧ W.cell? ⟨b, o, none⟩ = some (.int .i64 0) ∧ W.cell? ⟨b, o + 1, none⟩ = some (.int .i64 0) ∧ W.cell? ⟨b, o + 2, none⟩ = some (.int .i64 2) ∧ W.cell? ⟨b, o + 3, none⟩ = some (.int .i64 1) ∧ W.cell? ⟨b, o + 4, none⟩ = some (.int .i64 2) ∧ W.cell? ⟨b, o + 5, none⟩ = some (.int .i64 1)) := Lib.hid (fun W ho => by
    have h := HB0.out.1.to (ho.block _ HB0.out.1.lt (fun h => h))
    have k := HC.out W (HB0.out.2.also ho)
    exact ⟨h.cell 0, h.cell 1, k 0 _ rfl, k 1 _ rfl, k 2 _ rfl, k 3 _ rfl, k 4 _ rfl, k 5 _ rfl⟩)
  have X0 : Hid (Off Nob w0 w0) := Lib.hid (Off.refl _ _)
  obtain ⟨t0, t1, c0, c1, c2, c3, c4, c5⟩ := GC.out _ X0.out
  go_wp2_with fail
  refine (co_lcheck _ _ (HV.out.keepT HB0.out.2)).mono ?_
  rintro e w1 ⟨rfl, o1⟩
  have X1 := Lib.hid (X0.out.also o1)
  clear o1 X0
  clear t0 t1 c0 c1 c2 c3 c4 c5
  obtain ⟨t0, t1, c0, c1, c2, c3, c4, c5⟩ := GC.out _ X1.out
  go_wp2_with fail
  refine wp_loop_rounds 3 ?_
  rw [rounds_succ]
  clear t0 t1 c0 c1 c2 c3 c4 c5
  obtain ⟨t0, t1, c0, c1, c2, c3, c4, c5⟩ := GC.out _ X1.out
  go_wp2_with (at_builtin; refine @wpList_append_lies _ _ _ _ _ _ _ rfl _ _ 22 rfl w0.heap.size 3 i_int (.int .i64 0) 1 8 Tryz.underlying22 h_int z_int s_int b_int rfl (by decide) (.slice none 0 0) (0) ([]) rfl ((OwnL.nilAt X1.out 3 1).1.alloc _) ⟨w1.heap.size, 0, none⟩ 1 1 [.int .i64 0] rfl rfl ?c1 (by decide) (by decide) (by decide) (by decide) (by have := (OwnL.nilAt X1.out 3 1).2.size; simp; omega) _ rfl ?_)
  case c1 => exact cell_lit _ [.int .i64 0] _
  intro g2 cap2 w2 hown hgrow hat hlt
  have OW2 := Lib.hid ((OwnL.nilAt X1.out 3 1).grown (Off.alloc (Off.refl Nob w1) (.cells #[.int .i64 0] 3)) hown hgrow)
  have X2 := Lib.hid OW2.out.2
  clear hown hgrow hat hlt X1
  clear t0 t1 c0 c1 c2 c3 c4 c5
  obtain ⟨t0, t1, c0, c1, c2, c3, c4, c5⟩ := GC.out _ X2.out
  go_wp2_with fail
  rw [rounds_succ]
  clear t0 t1 c0 c1 c2 c3 c4 c5
  obtain ⟨t0, t1, c0, c1, c2, c3, c4, c5⟩ := GC.out _ X2.out
  go_wp2_with (at_builtin; refine @wpList_append_lies _ _ _ _ _ _ _ rfl _ _ 22 rfl w0.heap.size 3 i_int (.int .i64 0) 1 8 Tryz.underlying22 h_int z_int s_int b_int rfl (by decide) (.slice (some ⟨g2, 0, none⟩) (0 + 1) cap2) (0 + 1) ([] ++ [.int .i64 0]) rfl (OW2.out.1.alloc _) ⟨w2.heap.size, 0, none⟩ 1 1 [.int .i64 2] rfl rfl ?c1 (by decide) (by decide) (by decide) (by decide) (by have := OW2.out.2.size; simp; omega) _ rfl ?_)
  case c1 => exact cell_lit _ [.int .i64 2] _
  intro g3 cap3 w3 hown hgrow hat hlt
  have OW3 := Lib.hid (OW2.out.grown (Off.alloc (Off.refl Nob w2) (.cells #[.int .i64 2] 3)) hown hgrow)
  have X3 := Lib.hid OW3.out.2
  clear hown hgrow hat hlt X2 OW2
  clear t0 t1 c0 c1 c2 c3 c4 c5
  obtain ⟨t0, t1, c0, c1, c2, c3, c4, c5⟩ := GC.out _ X3.out
  go_wp2_with fail
  rw [rounds_succ]
  clear t0 t1 c0 c1 c2 c3 c4 c5
  obtain ⟨t0, t1, c0, c1, c2, c3, c4, c5⟩ := GC.out _ X3.out
  go_wp2_with fail
  refine (co_rof_02 _ _ OW3.out.rd).mono ?_
  rintro e w4 ⟨u, rfl, hr, o1⟩
  have X4 := Lib.hid (X3.out.also o1)
  obtain ⟨hr, o1⟩ := id (And.intro hr o1)
  have HR := Lib.hid (Rd.mono hr (G := fun k => w.heap.size ≤ k) (fun k hk => Nat.le_trans (HB0.out.2.also X3.out).size hk))
  clear hr
  clear o1 X3
  clear t0 t1 c0 c1 c2 c3 c4 c5
  obtain ⟨t0, t1, c0, c1, c2, c3, c4, c5⟩ := GC.out _ X4.out
  go_wp2_with fail
  go_ret2
  exact ⟨_, rfl, HR.out, HB0.out.2.also X4.out⟩
set_option maxHeartbeats 4000000 in
theorem co_lends0 (w : World) (v : Value) (hv : Rd w (fun _ => True) 3 v 2 ln_ab) : Calls Tryz.prog 117 #[.agg #[.int .i64 1, v], .int .i64 0] w (fun e w' => ∃ u, e = .returned (.tuple #[u, .int .i64 0]) ∧ Rd w' (fun k => w.heap.size ≤ k) 1 u 1 [.int .u64 2] ∧ Off Nob w w') := by
  have hw0 : IntKind.i64.wrap 0 = 0 := rfl
  have hw1 : IntKind.i64.wrap 1 = 1 := rfl
  have hw2 : IntKind.i64.wrap 2 = 2 := rfl
  have hw3 : IntKind.i64.wrap 3 = 3 := rfl
  have HV0 := Lib.hid hv
  obtain ⟨b, o, c, rfl, hc⟩ := hv.cellsT (by decide)
  have HV := HV0
  have HC := Lib.hid hc
  clear hc hv HV0
  obtain ⟨i_int, h_int, z_int, s_int, b_int⟩ := info_parts Tryz.infoI'
  go_enter Tryz.func117, Tryz.ntmps117
  go_wp2_with fail
  have HB0 : Hid (Blk (w.alloc (.cells #[.int .i64 1, .slice (some ⟨b, o, none⟩) 2 c] 97)) w.heap.size 97 #[.int .i64 1, .slice (some ⟨b, o, none⟩) 2 c] ∧ Off Nob w (w.alloc (.cells #[.int .i64 1, .slice (some ⟨b, o, none⟩) 2 c] 97))) := Lib.hid ⟨Blk.new _ _ _, Off.alloc (Off.refl _ _) _⟩
  revert HB0
  generalize (w.alloc (.cells #[.int .i64 1, .slice (some ⟨b, o, none⟩) 2 c] 97)) = w0
  intro HB0
  have GC : Hid (∀ W, Off Nob w0 W → W.cell? ⟨w.heap.size, 0, none⟩ = some (.int .i64 1) ∧ W.cell? ⟨w.heap.size, 1, none⟩ = some (.slice (some ⟨b, o, none⟩) 2 c) ∧ W.cell? ⟨b, o, none⟩ = some (.int .i64 0) ∧ W.cell? ⟨b, o + 1, none⟩ = some (.int .i64 0) ∧ W.cell? ⟨b, o + 2, none⟩ = some (.int .i64 2) ∧ W.cell? ⟨b, o + 3, none⟩ = some (.int .i64 1) ∧ W.cell? ⟨b, o + 4, none⟩ = some (.int .i64 2) ∧ W.cell? ⟨b, o + 5, none⟩ = some (.int .i64 1)) := Lib.hid (fun W ho => by
    have h := HB0.out.1.to (ho.block _ HB0.out.1.lt (fun h => h))
    have k := HC.out W (HB0.out.2.also ho)
    exact ⟨h.cell 0, h.cell 1, k 0 _ rfl, k 1 _ rfl, k 2 _ rfl, k 3 _ rfl, k 4 _ rfl, k 5 _ rfl⟩)
  have X0 : Hid (Off Nob w0 w0) := Lib.hid (Off.refl _ _)
  obtain ⟨t0, t1, c0, c1, c2, c3, c4, c5⟩ := GC.out _ X0.out
  go_wp2_with fail
  refine (co_lrules _ _ (HV.out.keepT HB0.out.2)).mono ?_
  rintro e w1 ⟨rfl, o1⟩
  have X1 := Lib.hid (X0.out.also o1)
  clear o1 X0
  clear t0 t1 c0 c1 c2 c3 c4 c5
  obtain ⟨t0, t1, c0, c1, c2, c3, c4, c5⟩ := GC.out _ X1.out
  go_wp2_with fail
  refine wp_loop_rounds 3 ?_
  rw [rounds_succ]
  clear t0 t1 c0 c1 c2 c3 c4 c5
  obtain ⟨t0, t1, c0, c1, c2, c3, c4, c5⟩ := GC.out _ X1.out
  go_wp2_with fail
  refine wp_region_held_drew (S := fun W => W.cell? ⟨w.heap.size, 1, none⟩ = some (.slice (some ⟨b, o, none⟩) 2 c) ∧ W.cell? ⟨b, o + 1, none⟩ = some (.int .i64 0) ∧ W.cell? ⟨b, o + 2, none⟩ = some (.int .i64 2)) (by kernel_rfl) ⟨t1, c1, c2⟩ (fun hHeld => ?_)
  refine wpAnyH_take (i := 0) (v := ?v0) rfl (by kernel_rfl) (by kernel_rfl) (by kernel_rfl) (fun _ _ _ h => h) (Or.inl ⟨by rfl, ?h0⟩) (by assumption) ?r0
  case h0 => (intro w hSw; (try dsimp only at hSw); go_simp <;> with_reducible rfl)
  try simp only [Act.put, List.getElem_toArray, List.getElem_cons_zero, List.getElem_cons_succ, List.setIfInBounds_toArray, List.set_cons_zero, List.set_cons_succ]
  refine wpAnyH_take (i := 1) (v := ?v1) rfl (by kernel_rfl) (by kernel_rfl) (by kernel_rfl) (fun _ _ _ h => h) (Or.inl ⟨by rfl, ?h1⟩) (by assumption) ?r1
  case h1 => (intro w hSw; (try dsimp only at hSw); go_simp <;> with_reducible rfl)
  try simp only [Act.put, List.getElem_toArray, List.getElem_cons_zero, List.getElem_cons_succ, List.setIfInBounds_toArray, List.set_cons_zero, List.set_cons_succ]
  refine wpAnyH_take (i := 2) (v := ?v2) rfl (by kernel_rfl) (by kernel_rfl) (by kernel_rfl) (fun _ _ _ h => h) (Or.inl ⟨by rfl, ?h2⟩) (by assumption) ?r2
  case h2 => (intro w hSw; (try dsimp only at hSw); go_simp <;> with_reducible rfl)
  try simp only [Act.put, List.getElem_toArray, List.getElem_cons_zero, List.getElem_cons_succ, List.setIfInBounds_toArray, List.set_cons_zero, List.set_cons_succ]
  refine wpAnyH_take (i := 3) (v := ?v3) rfl (by kernel_rfl) (by kernel_rfl) (by kernel_rfl) (fun _ _ _ h => h) (Or.inl ⟨by rfl, ?h3⟩) (by assumption) ?r3
  case h3 => (intro w hSw; (try dsimp only at hSw); go_simp <;> with_reducible rfl)
  try simp only [Act.put, List.getElem_toArray, List.getElem_cons_zero, List.getElem_cons_succ, List.setIfInBounds_toArray, List.set_cons_zero, List.set_cons_succ]
  refine wpAnyH_take (i := 4) (v := ?v4) rfl (by kernel_rfl) (by kernel_rfl) (by kernel_rfl) (fun _ _ _ h => h) (Or.inl ⟨by rfl, ?h4⟩) (by assumption) ?r4
  case h4 => (intro w hSw; (try dsimp only at hSw); go_simp <;> with_reducible rfl)
  try simp only [Act.put, List.getElem_toArray, List.getElem_cons_zero, List.getElem_cons_succ, List.setIfInBounds_toArray, List.set_cons_zero, List.set_cons_succ]
  refine wpAnyH_take (i := 5) (v := ?v5) rfl (by kernel_rfl) (by kernel_rfl) (by kernel_rfl) (fun _ _ _ h => h) (Or.inl ⟨by rfl, ?h5⟩) (by assumption) ?r5
  case h5 => (intro w hSw; (try dsimp only at hSw); go_simp <;> with_reducible rfl)
  try simp only [Act.put, List.getElem_toArray, List.getElem_cons_zero, List.getElem_cons_succ, List.setIfInBounds_toArray, List.set_cons_zero, List.set_cons_succ]
  refine wpAnyH_take (i := 6) (v := ?v6) rfl (by kernel_rfl) (by kernel_rfl) (by kernel_rfl) (fun _ _ _ h => h) (Or.inl ⟨by rfl, ?h6⟩) (by assumption) ?r6
  case h6 => (intro w hSw; (try dsimp only at hSw); go_simp <;> with_reducible rfl)
  try simp only [Act.put, List.getElem_toArray, List.getElem_cons_zero, List.getElem_cons_succ, List.setIfInBounds_toArray, List.set_cons_zero, List.set_cons_succ]
  refine wpAnyH_take (i := 7) (v := ?v7) rfl (by kernel_rfl) (by kernel_rfl) (by kernel_rfl) (fun _ _ _ h => h) (Or.inl ⟨by rfl, ?h7⟩) (by assumption) ?r7
  case h7 => (intro w hSw; (try dsimp only at hSw); go_simp <;> with_reducible rfl)
  try simp only [Act.put, List.getElem_toArray, List.getElem_cons_zero, List.getElem_cons_succ, List.setIfInBounds_toArray, List.set_cons_zero, List.set_cons_succ]
  refine wpAnyH_take (i := 8) (v := ?v8) rfl (by kernel_rfl) (by kernel_rfl) (by kernel_rfl) (fun _ _ _ h => h) (Or.inl ⟨by rfl, ?h8⟩) (by assumption) ?r8
  case h8 => (intro w hSw; (try dsimp only at hSw); go_simp <;> with_reducible rfl)
  try simp only [Act.put, List.getElem_toArray, List.getElem_cons_zero, List.getElem_cons_succ, List.setIfInBounds_toArray, List.set_cons_zero, List.set_cons_succ]
  refine wpAnyH_take (i := 9) (v := ?v9) rfl (by kernel_rfl) (by kernel_rfl) (by kernel_rfl) (fun _ _ _ h => h) (Or.inl ⟨by rfl, ?h9⟩) (by assumption) ?r9
  case h9 => (intro w hSw; (try dsimp only at hSw); go_simp <;> with_reducible rfl)
  try simp only [Act.put, List.getElem_toArray, List.getElem_cons_zero, List.getElem_cons_succ, List.setIfInBounds_toArray, List.set_cons_zero, List.set_cons_succ]
  refine wpAnyH_take (i := 10) (v := ?v10) rfl (by kernel_rfl) (by kernel_rfl) (by kernel_rfl) (fun _ _ _ h => h) (Or.inl ⟨by rfl, ?h10⟩) (by assumption) ?r10
  case h10 => (intro w hSw; (try dsimp only at hSw); go_simp <;> with_reducible rfl)
  try simp only [Act.put, List.getElem_toArray, List.getElem_cons_zero, List.getElem_cons_succ, List.setIfInBounds_toArray, List.set_cons_zero, List.set_cons_succ]
  refine wpAnyH_take (i := 11) (v := ?v11) rfl (by kernel_rfl) (by kernel_rfl) (by kernel_rfl) (fun _ _ _ h => h) (Or.inl ⟨by rfl, ?h11⟩) (by assumption) ?r11
  case h11 => (intro w hSw; (try dsimp only at hSw); go_simp <;> with_reducible rfl)
  try simp only [Act.put, List.getElem_toArray, List.getElem_cons_zero, List.getElem_cons_succ, List.setIfInBounds_toArray, List.set_cons_zero, List.set_cons_succ]
  refine wpAnyH_take (i := 12) (v := ?v12) rfl (by kernel_rfl) (by kernel_rfl) (by kernel_rfl) (fun _ _ _ h => h) (Or.inl ⟨by rfl, ?h12⟩) (by assumption) ?r12
  case h12 => (intro w hSw; (try dsimp only at hSw); go_simp <;> with_reducible rfl)
  try simp only [Act.put, List.getElem_toArray, List.getElem_cons_zero, List.getElem_cons_succ, List.setIfInBounds_toArray, List.set_cons_zero, List.set_cons_succ]
  refine wpAnyH_take (i := 13) (v := ?v13) rfl (by kernel_rfl) (by kernel_rfl) (by kernel_rfl) (fun _ _ _ h => h) (Or.inl ⟨by rfl, ?h13⟩) (by assumption) ?r13
  case h13 => (intro w hSw; (try dsimp only at hSw); go_simp <;> with_reducible rfl)
  try simp only [Act.put, List.getElem_toArray, List.getElem_cons_zero, List.getElem_cons_succ, List.setIfInBounds_toArray, List.set_cons_zero, List.set_cons_succ]
  refine wpAnyH_take (i := 14) (v := ?v14) rfl (by kernel_rfl) (by kernel_rfl) (by kernel_rfl) (fun _ _ _ h => h) (Or.inl ⟨by rfl, ?h14⟩) (by assumption) ?r14
  case h14 => (intro w hSw; (try dsimp only at hSw); go_simp <;> with_reducible rfl)
  try simp only [Act.put, List.getElem_toArray, List.getElem_cons_zero, List.getElem_cons_succ, List.setIfInBounds_toArray, List.set_cons_zero, List.set_cons_succ]
  refine wpAnyH_ready (rs := [15]) (by kernel_rfl) (by simp) ?_
  refine AllReadyH.cons rfl (fun K hK => ?s15) ?m15
  case s15 =>
    go_simp
    refine hK.out _ _ ?_ (fun hHeld => ?_)
    · first | (simp; exact ⟨t1, c1, c2⟩) | go_keep
    clear hK K
    try simp only [Act.put, List.getElem_toArray, List.getElem_cons_zero, List.getElem_cons_succ, List.setIfInBounds_toArray, List.set_cons_zero, List.set_cons_succ]
    refine wpAnyH_ready (rs := [16]) (by kernel_rfl) (by simp) ?_
    refine AllReadyH.cons rfl (fun K hK => ?s16) ?m16
    case s16 =>
      refine wp_append_lies _ _ _ 22 rfl w0.heap.size 3 i_int (.int .i64 0) 1 8 Tryz.underlying22 h_int z_int s_int b_int rfl (by decide) (.slice none 0 0) 0 [] rfl ((OwnL.nilAt X1.out.drew 3 1).1.alloc _) ⟨w1.heap.size, 0, none⟩ 1 1 [.int .i64 1] rfl rfl ?c1 (by decide) (by decide) (by decide) (by decide) (by have := X1.out.size; simp; omega) _ rfl ?_
      case c1 => exact cell_one w1.drew (.int .i64 1) 3
      intro g cap w2 hown hgrow hat hlt
      have OW2 := Lib.hid ((OwnL.nilAt X1.out.drew 3 1).grown (Off.alloc (Off.refl Nob w1.drew) (.cells #[.int .i64 1] 3)) hown hgrow)
      have X2 := Lib.hid OW2.out.2
      have kq := GC.out _ X2.out
      clear hown hgrow hat hlt X1
      refine hK.out _ _ ?_ (fun hHeld => ?_)
      · first | exact ⟨kq.2.1, kq.2.2.2.1, kq.2.2.2.2.1⟩ | go_keep
      clear hK K
      try simp only [Act.put, List.getElem_toArray, List.getElem_cons_zero, List.getElem_cons_succ, List.setIfInBounds_toArray, List.set_cons_zero, List.set_cons_succ]
      refine wpAnyH_take (i := 17) (v := ?v17) rfl (by kernel_rfl) (by kernel_rfl) (by kernel_rfl) (fun _ _ _ h => h) (Or.inl ⟨by rfl, ?h17⟩) (by assumption) ?r17
      case h17 => (intro w hSw; (try dsimp only at hSw); go_simp <;> with_reducible rfl)
      try simp only [Act.put, List.getElem_toArray, List.getElem_cons_zero, List.getElem_cons_succ, List.setIfInBounds_toArray, List.set_cons_zero, List.set_cons_succ]
      refine wpAnyH_done (by kernel_rfl) ?_ _
      clear hHeld kq t0 t1 c0 c1 c2 c3 c4 c5
      obtain ⟨t0, t1, c0, c1, c2, c3, c4, c5⟩ := GC.out _ X2.out
      go_wp2_with fail
      rw [rounds_succ]
      clear t0 t1 c0 c1 c2 c3 c4 c5
      obtain ⟨t0, t1, c0, c1, c2, c3, c4, c5⟩ := GC.out _ X2.out
      go_wp2_with fail
      rw [rounds_succ]
      clear t0 t1 c0 c1 c2 c3 c4 c5
      obtain ⟨t0, t1, c0, c1, c2, c3, c4, c5⟩ := GC.out _ X2.out
      go_wp2_with fail
      refine (co_rof_1 _ _ OW2.out.rd).mono ?_
      rintro e w3 ⟨u, rfl, hr, o1⟩
      have X3 := Lib.hid (X2.out.also o1)
      obtain ⟨hr, o1⟩ := id (And.intro hr o1)
      have HR := Lib.hid (Rd.mono hr (G := fun k => w.heap.size ≤ k) (fun k hk => Nat.le_trans (HB0.out.2.also X2.out).size hk))
      clear hr
      clear o1 X2
      clear t0 t1 c0 c1 c2 c3 c4 c5
      obtain ⟨t0, t1, c0, c1, c2, c3, c4, c5⟩ := GC.out _ X3.out
      go_wp2_with fail
      go_ret2
      exact ⟨_, rfl, HR.out, HB0.out.2.also X3.out⟩
    exact AllReadyH.nil
  exact AllReadyH.nil
set_option maxHeartbeats 4000000 in
theorem co_lends1 (w : World) (v : Value) (hv : Rd w (fun _ => True) 3 v 2 ln_ab) : Calls Tryz.prog 117 #[.agg #[.int .i64 1, v], .int .i64 1] w (fun e w' => ∃ u, e = .returned (.tuple #[u, .int .i64 0]) ∧ Rd w' (fun k => w.heap.size ≤ k) 1 u 1 [.int .u64 4] ∧ Off Nob w w') := by
  have hw0 : IntKind.i64.wrap 0 = 0 := rfl
  have hw1 : IntKind.i64.wrap 1 = 1 := rfl
  have hw2 : IntKind.i64.wrap 2 = 2 := rfl
  have hw3 : IntKind.i64.wrap 3 = 3 := rfl
  have HV0 := Lib.hid hv
  obtain ⟨b, o, c, rfl, hc⟩ := hv.cellsT (by decide)
  have HV := HV0
  have HC := Lib.hid hc
  clear hc hv HV0
  obtain ⟨i_int, h_int, z_int, s_int, b_int⟩ := info_parts Tryz.infoI'
  go_enter Tryz.func117, Tryz.ntmps117
  go_wp2_with fail
  have HB0 : Hid (Blk (w.alloc (.cells #[.int .i64 1, .slice (some ⟨b, o, none⟩) 2 c] 97)) w.heap.size 97 #[.int .i64 1, .slice (some ⟨b, o, none⟩) 2 c] ∧ Off Nob w (w.alloc (.cells #[.int .i64 1, .slice (some ⟨b, o, none⟩) 2 c] 97))) := Lib.hid ⟨Blk.new _ _ _, Off.alloc (Off.refl _ _) _⟩
  revert HB0
  generalize (w.alloc (.cells #[.int .i64 1, .slice (some ⟨b, o, none⟩) 2 c] 97)) = w0
  intro HB0
  have GC : Hid (∀ W, Off Nob w0 W → W.cell? ⟨w.heap.size, 0, none⟩ = some (.int .i64 1) ∧ W.cell? ⟨w.heap.size, 1, none⟩ = some (.slice (some ⟨b, o, none⟩) 2 c) ∧ W.cell? ⟨b, o, none⟩ = some (.int .i64 0) ∧ W.cell? ⟨b, o + 1, none⟩ = some (.int .i64 0) ∧ W.cell? ⟨b, o + 2, none⟩ = some (.int .i64 2) ∧ W.cell? ⟨b, o + 3, none⟩ = some (.int .i64 1) ∧ W.cell? ⟨b, o + 4, none⟩ = some (.int .i64 2) ∧ W.cell? ⟨b, o + 5, none⟩ = some (.int .i64 1)) := Lib.hid (fun W ho => by
    have h := HB0.out.1.to (ho.block _ HB0.out.1.lt (fun h => h))
    have k := HC.out W (HB0.out.2.also ho)
    exact ⟨h.cell 0, h.cell 1, k 0 _ rfl, k 1 _ rfl, k 2 _ rfl, k 3 _ rfl, k 4 _ rfl, k 5 _ rfl⟩)
  have X0 : Hid (Off Nob w0 w0) := Lib.hid (Off.refl _ _)
  obtain ⟨t0, t1, c0, c1, c2, c3, c4, c5⟩ := GC.out _ X0.out
  go_wp2_with fail
  refine (co_lrules _ _ (HV.out.keepT HB0.out.2)).mono ?_
  rintro e w1 ⟨rfl, o1⟩
  have X1 := Lib.hid (X0.out.also o1)
  clear o1 X0
  clear t0 t1 c0 c1 c2 c3 c4 c5
  obtain ⟨t0, t1, c0, c1, c2, c3, c4, c5⟩ := GC.out _ X1.out
  go_wp2_with fail
  refine wp_loop_rounds 3 ?_
  rw [rounds_succ]
  clear t0 t1 c0 c1 c2 c3 c4 c5
  obtain ⟨t0, t1, c0, c1, c2, c3, c4, c5⟩ := GC.out _ X1.out
  go_wp2_with fail
  rw [rounds_succ]
  clear t0 t1 c0 c1 c2 c3 c4 c5
  obtain ⟨t0, t1, c0, c1, c2, c3, c4, c5⟩ := GC.out _ X1.out
  go_wp2_with fail
  refine wp_region_held_drew (S := fun W => W.cell? ⟨w.heap.size, 1, none⟩ = some (.slice (some ⟨b, o, none⟩) 2 c) ∧ W.cell? ⟨b, o + 4, none⟩ = some (.int .i64 2) ∧ W.cell? ⟨b, o + 5, none⟩ = some (.int .i64 1)) (by kernel_rfl) ⟨t1, c4, c5⟩ (fun hHeld => ?_)
  refine wpAnyH_take (i := 0) (v := ?v0) rfl (by kernel_rfl) (by kernel_rfl) (by kernel_rfl) (fun _ _ _ h => h) (Or.inl ⟨by rfl, ?h0⟩) (by assumption) ?r0
  case h0 => (intro w hSw; (try dsimp only at hSw); go_simp <;> with_reducible rfl)
  try simp only [Act.put, List.getElem_toArray, List.getElem_cons_zero, List.getElem_cons_succ, List.setIfInBounds_toArray, List.set_cons_zero, List.set_cons_succ]
  refine wpAnyH_take (i := 1) (v := ?v1) rfl (by kernel_rfl) (by kernel_rfl) (by kernel_rfl) (fun _ _ _ h => h) (Or.inl ⟨by rfl, ?h1⟩) (by assumption) ?r1
  case h1 => (intro w hSw; (try dsimp only at hSw); go_simp <;> with_reducible rfl)
  try simp only [Act.put, List.getElem_toArray, List.getElem_cons_zero, List.getElem_cons_succ, List.setIfInBounds_toArray, List.set_cons_zero, List.set_cons_succ]
  refine wpAnyH_take (i := 2) (v := ?v2) rfl (by kernel_rfl) (by kernel_rfl) (by kernel_rfl) (fun _ _ _ h => h) (Or.inl ⟨by rfl, ?h2⟩) (by assumption) ?r2
  case h2 => (intro w hSw; (try dsimp only at hSw); go_simp <;> with_reducible rfl)
  try simp only [Act.put, List.getElem_toArray, List.getElem_cons_zero, List.getElem_cons_succ, List.setIfInBounds_toArray, List.set_cons_zero, List.set_cons_succ]
  refine wpAnyH_take (i := 3) (v := ?v3) rfl (by kernel_rfl) (by kernel_rfl) (by kernel_rfl) (fun _ _ _ h => h) (Or.inl ⟨by rfl, ?h3⟩) (by assumption) ?r3
  case h3 => (intro w hSw; (try dsimp only at hSw); go_simp <;> with_reducible rfl)
  try simp only [Act.put, List.getElem_toArray, List.getElem_cons_zero, List.getElem_cons_succ, List.setIfInBounds_toArray, List.set_cons_zero, List.set_cons_succ]
  refine wpAnyH_take (i := 4) (v := ?v4) rfl (by kernel_rfl) (by kernel_rfl) (by kernel_rfl) (fun _ _ _ h => h) (Or.inl ⟨by rfl, ?h4⟩) (by assumption) ?r4
  case h4 => (intro w hSw; (try dsimp only at hSw); go_simp <;> with_reducible rfl)
  try simp only [Act.put, List.getElem_toArray, List.getElem_cons_zero, List.getElem_cons_succ, List.setIfInBounds_toArray, List.set_cons_zero, List.set_cons_succ]
  refine wpAnyH_take (i := 5) (v := ?v5) rfl (by kernel_rfl) (by kernel_rfl) (by kernel_rfl) (fun _ _ _ h => h) (Or.inl ⟨by rfl, ?h5⟩) (by assumption) ?r5
  case h5 => (intro w hSw; (try dsimp only at hSw); go_simp <;> with_reducible rfl)
  try simp only [Act.put, List.getElem_toArray, List.getElem_cons_zero, List.getElem_cons_succ, List.setIfInBounds_toArray, List.set_cons_zero, List.set_cons_succ]
  refine wpAnyH_take (i := 6) (v := ?v6) rfl (by kernel_rfl) (by kernel_rfl) (by kernel_rfl) (fun _ _ _ h => h) (Or.inl ⟨by rfl, ?h6⟩) (by assumption) ?r6
  case h6 => (intro w hSw; (try dsimp only at hSw); go_simp <;> with_reducible rfl)
  try simp only [Act.put, List.getElem_toArray, List.getElem_cons_zero, List.getElem_cons_succ, List.setIfInBounds_toArray, List.set_cons_zero, List.set_cons_succ]
  refine wpAnyH_take (i := 7) (v := ?v7) rfl (by kernel_rfl) (by kernel_rfl) (by kernel_rfl) (fun _ _ _ h => h) (Or.inl ⟨by rfl, ?h7⟩) (by assumption) ?r7
  case h7 => (intro w hSw; (try dsimp only at hSw); go_simp <;> with_reducible rfl)
  try simp only [Act.put, List.getElem_toArray, List.getElem_cons_zero, List.getElem_cons_succ, List.setIfInBounds_toArray, List.set_cons_zero, List.set_cons_succ]
  refine wpAnyH_take (i := 8) (v := ?v8) rfl (by kernel_rfl) (by kernel_rfl) (by kernel_rfl) (fun _ _ _ h => h) (Or.inl ⟨by rfl, ?h8⟩) (by assumption) ?r8
  case h8 => (intro w hSw; (try dsimp only at hSw); go_simp <;> with_reducible rfl)
  try simp only [Act.put, List.getElem_toArray, List.getElem_cons_zero, List.getElem_cons_succ, List.setIfInBounds_toArray, List.set_cons_zero, List.set_cons_succ]
  refine wpAnyH_take (i := 9) (v := ?v9) rfl (by kernel_rfl) (by kernel_rfl) (by kernel_rfl) (fun _ _ _ h => h) (Or.inl ⟨by rfl, ?h9⟩) (by assumption) ?r9
  case h9 => (intro w hSw; (try dsimp only at hSw); go_simp <;> with_reducible rfl)
  try simp only [Act.put, List.getElem_toArray, List.getElem_cons_zero, List.getElem_cons_succ, List.setIfInBounds_toArray, List.set_cons_zero, List.set_cons_succ]
  refine wpAnyH_take (i := 10) (v := ?v10) rfl (by kernel_rfl) (by kernel_rfl) (by kernel_rfl) (fun _ _ _ h => h) (Or.inl ⟨by rfl, ?h10⟩) (by assumption) ?r10
  case h10 => (intro w hSw; (try dsimp only at hSw); go_simp <;> with_reducible rfl)
  try simp only [Act.put, List.getElem_toArray, List.getElem_cons_zero, List.getElem_cons_succ, List.setIfInBounds_toArray, List.set_cons_zero, List.set_cons_succ]
  refine wpAnyH_take (i := 11) (v := ?v11) rfl (by kernel_rfl) (by kernel_rfl) (by kernel_rfl) (fun _ _ _ h => h) (Or.inl ⟨by rfl, ?h11⟩) (by assumption) ?r11
  case h11 => (intro w hSw; (try dsimp only at hSw); go_simp <;> with_reducible rfl)
  try simp only [Act.put, List.getElem_toArray, List.getElem_cons_zero, List.getElem_cons_succ, List.setIfInBounds_toArray, List.set_cons_zero, List.set_cons_succ]
  refine wpAnyH_take (i := 12) (v := ?v12) rfl (by kernel_rfl) (by kernel_rfl) (by kernel_rfl) (fun _ _ _ h => h) (Or.inl ⟨by rfl, ?h12⟩) (by assumption) ?r12
  case h12 => (intro w hSw; (try dsimp only at hSw); go_simp <;> with_reducible rfl)
  try simp only [Act.put, List.getElem_toArray, List.getElem_cons_zero, List.getElem_cons_succ, List.setIfInBounds_toArray, List.set_cons_zero, List.set_cons_succ]
  refine wpAnyH_take (i := 13) (v := ?v13) rfl (by kernel_rfl) (by kernel_rfl) (by kernel_rfl) (fun _ _ _ h => h) (Or.inl ⟨by rfl, ?h13⟩) (by assumption) ?r13
  case h13 => (intro w hSw; (try dsimp only at hSw); go_simp <;> with_reducible rfl)
  try simp only [Act.put, List.getElem_toArray, List.getElem_cons_zero, List.getElem_cons_succ, List.setIfInBounds_toArray, List.set_cons_zero, List.set_cons_succ]
  refine wpAnyH_take (i := 14) (v := ?v14) rfl (by kernel_rfl) (by kernel_rfl) (by kernel_rfl) (fun _ _ _ h => h) (Or.inl ⟨by rfl, ?h14⟩) (by assumption) ?r14
  case h14 => (intro w hSw; (try dsimp only at hSw); go_simp <;> with_reducible rfl)
  try simp only [Act.put, List.getElem_toArray, List.getElem_cons_zero, List.getElem_cons_succ, List.setIfInBounds_toArray, List.set_cons_zero, List.set_cons_succ]
  refine wpAnyH_ready (rs := [15]) (by kernel_rfl) (by simp) ?_
  refine AllReadyH.cons rfl (fun K hK => ?s15) ?m15
  case s15 =>
    go_simp
    refine hK.out _ _ ?_ (fun hHeld => ?_)
    · first | (simp; exact ⟨t1, c4, c5⟩) | go_keep
    clear hK K
    try simp only [Act.put, List.getElem_toArray, List.getElem_cons_zero, List.getElem_cons_succ, List.setIfInBounds_toArray, List.set_cons_zero, List.set_cons_succ]
    refine wpAnyH_ready (rs := [16]) (by kernel_rfl) (by simp) ?_
    refine AllReadyH.cons rfl (fun K hK => ?s16) ?m16
    case s16 =>
      refine wp_append_lies _ _ _ 22 rfl w0.heap.size 3 i_int (.int .i64 0) 1 8 Tryz.underlying22 h_int z_int s_int b_int rfl (by decide) (.slice none 0 0) 0 [] rfl ((OwnL.nilAt X1.out.drew 3 1).1.alloc _) ⟨w1.heap.size, 0, none⟩ 1 1 [.int .i64 2] rfl rfl ?c1 (by decide) (by decide) (by decide) (by decide) (by have := X1.out.size; simp; omega) _ rfl ?_
      case c1 => exact cell_one w1.drew (.int .i64 2) 3
      intro g cap w2 hown hgrow hat hlt
      have OW2 := Lib.hid ((OwnL.nilAt X1.out.drew 3 1).grown (Off.alloc (Off.refl Nob w1.drew) (.cells #[.int .i64 2] 3)) hown hgrow)
      have X2 := Lib.hid OW2.out.2
      have kq := GC.out _ X2.out
      clear hown hgrow hat hlt X1
      refine hK.out _ _ ?_ (fun hHeld => ?_)
      · first | exact ⟨kq.2.1, kq.2.2.2.2.2.2.1, kq.2.2.2.2.2.2.2⟩ | go_keep
      clear hK K
      try simp only [Act.put, List.getElem_toArray, List.getElem_cons_zero, List.getElem_cons_succ, List.setIfInBounds_toArray, List.set_cons_zero, List.set_cons_succ]
      refine wpAnyH_take (i := 17) (v := ?v17) rfl (by kernel_rfl) (by kernel_rfl) (by kernel_rfl) (fun _ _ _ h => h) (Or.inl ⟨by rfl, ?h17⟩) (by assumption) ?r17
      case h17 => (intro w hSw; (try dsimp only at hSw); go_simp <;> with_reducible rfl)
      try simp only [Act.put, List.getElem_toArray, List.getElem_cons_zero, List.getElem_cons_succ, List.setIfInBounds_toArray, List.set_cons_zero, List.set_cons_succ]
      refine wpAnyH_done (by kernel_rfl) ?_ _
      clear hHeld kq t0 t1 c0 c1 c2 c3 c4 c5
      obtain ⟨t0, t1, c0, c1, c2, c3, c4, c5⟩ := GC.out _ X2.out
      go_wp2_with fail
      rw [rounds_succ]
      clear t0 t1 c0 c1 c2 c3 c4 c5
      obtain ⟨t0, t1, c0, c1, c2, c3, c4, c5⟩ := GC.out _ X2.out
      go_wp2_with fail
      refine (co_rof_2 _ _ OW2.out.rd).mono ?_
      rintro e w3 ⟨u, rfl, hr, o1⟩
      have X3 := Lib.hid (X2.out.also o1)
      obtain ⟨hr, o1⟩ := id (And.intro hr o1)
      have HR := Lib.hid (Rd.mono hr (G := fun k => w.heap.size ≤ k) (fun k hk => Nat.le_trans (HB0.out.2.also X2.out).size hk))
      clear hr
      clear o1 X2
      clear t0 t1 c0 c1 c2 c3 c4 c5
      obtain ⟨t0, t1, c0, c1, c2, c3, c4, c5⟩ := GC.out _ X3.out
      go_wp2_with fail
      go_ret2
      exact ⟨_, rfl, HR.out, HB0.out.2.also X3.out⟩
    exact AllReadyH.nil
  exact AllReadyH.nil
end Go.Proofs.YtkflicifngohcaaGreatDoor
