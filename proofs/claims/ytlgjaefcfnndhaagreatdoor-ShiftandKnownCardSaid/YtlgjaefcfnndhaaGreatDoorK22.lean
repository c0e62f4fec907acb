/-
 dragnetref02.get, with and Of at rows of one word.
-/
import Derived.Test.YtlgjaefcfnndhaaGreatDoorK21
set_option linter.unusedVariables false
set_option linter.unusedSimpArgs false
namespace Go.Proofs.YtlgjaefcfnndhaaGreatDoor
open Go.RowKit
set_option maxRecDepth 100000
theorem Tryz.infoU64 : (Tryz.prog.info? 71).map (fun i => (i.zero, i.size, i.bytes)) = some (some (.int .u64 0), 1, 8) := by kernel_rfl
theorem made_u1 : (madeCells (Value.int .u64 0).cells (1 * 1)).toList = [.int .u64 0] := by
 rw [Nat.mul_one]
 show (madeCells #[.int .u64 0] 1).toList = _
 rw [toList_madeCells_one]
 rfl
set_option maxHeartbeats 2000000 in
theorem co_get_0_0 (w : World) (v : Value) (hv : Rd w (fun _ => True) 1 v 1 [.int .u64 0]) : Calls Tryz.prog 67 #[v, .int .i64 0] w (RetV w (.bool false)) := by
 have hb : bits .and .u64 0 1 = 0 := by decide
 obtain ⟨b, o, c, rfl, hc⟩ := hv.cellsT (by decide)
 have c0 := hc _ (Off.refl _ _) 0 _ rfl
 simp only [Nat.add_zero] at c0
 clear hc hv
 go_enter Tryz.func67, Tryz.ntmps67
 go_wp2_with fail
 go_ret
 exact ⟨rfl, Off.refl _ _⟩
set_option maxHeartbeats 2000000 in
theorem co_with_0_0 (w : World) (v : Value) (hv : Rd w (fun _ => True) 1 v 1 [.int .u64 0]) : Calls Tryz.prog 103 #[v, .int .i64 0, .bool true] w (fun e w' => ∃ v, e = .returned v ∧ Rd w' (fun k => w.heap.size ≤ k) 1 v 1 [.int .u64 1] ∧ Off Nob w w') := by
 have hb : bits .xor .u64 0 1 = 1 := by decide
 obtain ⟨i_u64, h_u64, z_u64, s_u64, b_u64⟩ := info_parts Tryz.infoU64
 have HV := hID hv
 obtain ⟨b, o, c, rfl, hc⟩ := hv.cellsT (by decide)
 have HV1 := HV
 have HC := hID hc
 clear hc hv HV
 go_enter Tryz.func103, Tryz.ntmps103
 go_wp2_with (at_builtin; refine @wpList_append_lies _ _ _ _ _ _ _ rfl _ _ 23 rfl w.heap.size 71 i_u64 (.int .u64 0) 1 8 Tryz.underlying23 h_u64 z_u64 s_u64 b_u64 rfl (by decide) (.slice (some ⟨w.heap.size, 0, none⟩) 0 0) 0 [] rfl (World.ownsRow_made w #[] 0 (Nat.le_refl _) (by decide) rfl) ⟨b, o, none⟩ 1 c [.int .u64 0] rfl rfl ?c1 (by decide) (by decide) (by decide) (by decide) (Off.alloc (Off.refl Nob w) (.cells #[] 71)).size _ rfl ?_)
 case c1 => intro j u hj; rw [add_addr]; exact HC.out _ (Off.alloc (Off.refl _ _) _) j u hj
 intro g cap w1 hown hgrow hat hlt
 have OW1 : Hid (OwnL w w1 71 1 (.slice (some ⟨g, 0, none⟩) (0 + 1) cap) (0 + 1) ([] ++ [.int .u64 0])) := hID ⟨hown, Off.grown (Off.alloc (Off.refl _ _) _) hgrow (fun k hk => by simp [Value.ownBlock] at hk; right; omega)⟩
 clear hown hgrow hat hlt
 go_wp2_with fail
 refine (co_get_0_0 _ _ (HV1.out.keepT OW1.out.2)).mono ?_
 rintro e w2 ⟨rfl, o1⟩
 have OW2 := hID (OW1.out.off o1)
 clear o1 OW1
 have c0 := OW2.out.1.cellAt 0 (by decide)
 have f0 := OW2.out.1.frozenAt 0
 replace c0 : w2.cell? ⟨g, 0, none⟩ = some (.int .u64 0) := c0
 have OW3 : Hid (OwnL w (w2.setCell ⟨g, 0, none⟩ (.int .u64 1)) 71 1 (.slice (some ⟨g, 0, none⟩) 1 cap) 1 [.int .u64 1]) := hID ⟨(OW2.out.1.stored 0 (.int .u64 1)).1, OW2.out.2.put (.inr (OW2.out.1.lt g rfl).1) _⟩
 clear OW2
 go_wp2_with fail
 go_ret
 exact ⟨_, rfl, Rd.own OW3.out.1 (fun k hk => (OW3.out.1.lt k hk).1), OW3.out.2⟩
set_option maxHeartbeats 2000000 in
theorem co_get_1_2 (w : World) (v : Value) (hv : Rd w (fun _ => True) 1 v 1 [.int .u64 1]) : Calls Tryz.prog 67 #[v, .int .i64 2] w (RetV w (.bool false)) := by
 have hb : bits .and .u64 0 1 = 0 := by decide
 obtain ⟨b, o, c, rfl, hc⟩ := hv.cellsT (by decide)
 have c0 := hc _ (Off.refl _ _) 0 _ rfl
 simp only [Nat.add_zero] at c0
 clear hc hv
 go_enter Tryz.func67, Tryz.ntmps67
 go_wp2_with fail
 go_ret
 exact ⟨rfl, Off.refl _ _⟩
set_option maxHeartbeats 2000000 in
theorem co_with_1_2 (w : World) (v : Value) (hv : Rd w (fun _ => True) 1 v 1 [.int .u64 1]) : Calls Tryz.prog 103 #[v, .int .i64 2, .bool true] w (fun e w' => ∃ v, e = .returned v ∧ Rd w' (fun k => w.heap.size ≤ k) 1 v 1 [.int .u64 5] ∧ Off Nob w w') := by
 have hb : bits .xor .u64 1 4 = 5 := by decide
 obtain ⟨i_u64, h_u64, z_u64, s_u64, b_u64⟩ := info_parts Tryz.infoU64
 have HV := hID hv
 obtain ⟨b, o, c, rfl, hc⟩ := hv.cellsT (by decide)
 have HV1 := HV
 have HC := hID hc
 clear hc hv HV
 go_enter Tryz.func103, Tryz.ntmps103
 go_wp2_with (at_builtin; refine @wpList_append_lies _ _ _ _ _ _ _ rfl _ _ 23 rfl w.heap.size 71 i_u64 (.int .u64 0) 1 8 Tryz.underlying23 h_u64 z_u64 s_u64 b_u64 rfl (by decide) (.slice (some ⟨w.heap.size, 0, none⟩) 0 0) 0 [] rfl (World.ownsRow_made w #[] 0 (Nat.le_refl _) (by decide) rfl) ⟨b, o, none⟩ 1 c [.int .u64 1] rfl rfl ?c1 (by decide) (by decide) (by decide) (by decide) (Off.alloc (Off.refl Nob w) (.cells #[] 71)).size _ rfl ?_)
 case c1 => intro j u hj; rw [add_addr]; exact HC.out _ (Off.alloc (Off.refl _ _) _) j u hj
 intro g cap w1 hown hgrow hat hlt
 have OW1 : Hid (OwnL w w1 71 1 (.slice (some ⟨g, 0, none⟩) (0 + 1) cap) (0 + 1) ([] ++ [.int .u64 1])) := hID ⟨hown, Off.grown (Off.alloc (Off.refl _ _) _) hgrow (fun k hk => by simp [Value.ownBlock] at hk; right; omega)⟩
 clear hown hgrow hat hlt
 go_wp2_with fail
 refine (co_get_1_2 _ _ (HV1.out.keepT OW1.out.2)).mono ?_
 rintro e w2 ⟨rfl, o1⟩
 have OW2 := hID (OW1.out.off o1)
 clear o1 OW1
 have c0 := OW2.out.1.cellAt 0 (by decide)
 have f0 := OW2.out.1.frozenAt 0
 replace c0 : w2.cell? ⟨g, 0, none⟩ = some (.int .u64 1) := c0
 have OW3 : Hid (OwnL w (w2.setCell ⟨g, 0, none⟩ (.int .u64 5)) 71 1 (.slice (some ⟨g, 0, none⟩) 1 cap) 1 [.int .u64 5]) := hID ⟨(OW2.out.1.stored 0 (.int .u64 5)).1, OW2.out.2.put (.inr (OW2.out.1.lt g rfl).1) _⟩
 clear OW2
 go_wp2_with fail
 go_ret
 exact ⟨_, rfl, Rd.own OW3.out.1 (fun k hk => (OW3.out.1.lt k hk).1), OW3.out.2⟩
set_option maxHeartbeats 2000000 in
theorem co_get_0_1 (w : World) (v : Value) (hv : Rd w (fun _ => True) 1 v 1 [.int .u64 0]) : Calls Tryz.prog 67 #[v, .int .i64 1] w (RetV w (.bool false)) := by
 have hb : bits .and .u64 0 1 = 0 := by decide
 obtain ⟨b, o, c, rfl, hc⟩ := hv.cellsT (by decide)
 have c0 := hc _ (Off.refl _ _) 0 _ rfl
 simp only [Nat.add_zero] at c0
 clear hc hv
 go_enter Tryz.func67, Tryz.ntmps67
 go_wp2_with fail
 go_ret
 exact ⟨rfl, Off.refl _ _⟩
set_option maxHeartbeats 2000000 in
theorem co_with_0_1 (w : World) (v : Value) (hv : Rd w (fun _ => True) 1 v 1 [.int .u64 0]) : Calls Tryz.prog 103 #[v, .int .i64 1, .bool true] w (fun e w' => ∃ v, e = .returned v ∧ Rd w' (fun k => w.heap.size ≤ k) 1 v 1 [.int .u64 2] ∧ Off Nob w w') := by
 have hb : bits .xor .u64 0 2 = 2 := by decide
 obtain ⟨i_u64, h_u64, z_u64, s_u64, b_u64⟩ := info_parts Tryz.infoU64
 have HV := hID hv
 obtain ⟨b, o, c, rfl, hc⟩ := hv.cellsT (by decide)
 have HV1 := HV
 have HC := hID hc
 clear hc hv HV
 go_enter Tryz.func103, Tryz.ntmps103
 go_wp2_with (at_builtin; refine @wpList_append_lies _ _ _ _ _ _ _ rfl _ _ 23 rfl w.heap.size 71 i_u64 (.int .u64 0) 1 8 Tryz.underlying23 h_u64 z_u64 s_u64 b_u64 rfl (by decide) (.slice (some ⟨w.heap.size, 0, none⟩) 0 0) 0 [] rfl (World.ownsRow_made w #[] 0 (Nat.le_refl _) (by decide) rfl) ⟨b, o, none⟩ 1 c [.int .u64 0] rfl rfl ?c1 (by decide) (by decide) (by decide) (by decide) (Off.alloc (Off.refl Nob w) (.cells #[] 71)).size _ rfl ?_)
 case c1 => intro j u hj; rw [add_addr]; exact HC.out _ (Off.alloc (Off.refl _ _) _) j u hj
 intro g cap w1 hown hgrow hat hlt
 have OW1 : Hid (OwnL w w1 71 1 (.slice (some ⟨g, 0, none⟩) (0 + 1) cap) (0 + 1) ([] ++ [.int .u64 0])) := hID ⟨hown, Off.grown (Off.alloc (Off.refl _ _) _) hgrow (fun k hk => by simp [Value.ownBlock] at hk; right; omega)⟩
 clear hown hgrow hat hlt
 go_wp2_with fail
 refine (co_get_0_1 _ _ (HV1.out.keepT OW1.out.2)).mono ?_
 rintro e w2 ⟨rfl, o1⟩
 have OW2 := hID (OW1.out.off o1)
 clear o1 OW1
 have c0 := OW2.out.1.cellAt 0 (by decide)
 have f0 := OW2.out.1.frozenAt 0
 replace c0 : w2.cell? ⟨g, 0, none⟩ = some (.int .u64 0) := c0
 have OW3 : Hid (OwnL w (w2.setCell ⟨g, 0, none⟩ (.int .u64 2)) 71 1 (.slice (some ⟨g, 0, none⟩) 1 cap) 1 [.int .u64 2]) := hID ⟨(OW2.out.1.stored 0 (.int .u64 2)).1, OW2.out.2.put (.inr (OW2.out.1.lt g rfl).1) _⟩
 clear OW2
 go_wp2_with fail
 go_ret
 exact ⟨_, rfl, Rd.own OW3.out.1 (fun k hk => (OW3.out.1.lt k hk).1), OW3.out.2⟩
set_option maxHeartbeats 2000000 in
theorem co_get_0_2 (w : World) (v : Value) (hv : Rd w (fun _ => True) 1 v 1 [.int .u64 0]) : Calls Tryz.prog 67 #[v, .int .i64 2] w (RetV w (.bool false)) := by
 have hb : bits .and .u64 0 1 = 0 := by decide
 obtain ⟨b, o, c, rfl, hc⟩ := hv.cellsT (by decide)
 have c0 := hc _ (Off.refl _ _) 0 _ rfl
 simp only [Nat.add_zero] at c0
 clear hc hv
 go_enter Tryz.func67, Tryz.ntmps67
 go_wp2_with fail
 go_ret
 exact ⟨rfl, Off.refl _ _⟩
set_option maxHeartbeats 2000000 in
theorem co_with_0_2 (w : World) (v : Value) (hv : Rd w (fun _ => True) 1 v 1 [.int .u64 0]) : Calls Tryz.prog 103 #[v, .int .i64 2, .bool true] w (fun e w' => ∃ v, e = .returned v ∧ Rd w' (fun k => w.heap.size ≤ k) 1 v 1 [.int .u64 4] ∧ Off Nob w w') := by
 have hb : bits .xor .u64 0 4 = 4 := by decide
 obtain ⟨i_u64, h_u64, z_u64, s_u64, b_u64⟩ := info_parts Tryz.infoU64
 have HV := hID hv
 obtain ⟨b, o, c, rfl, hc⟩ := hv.cellsT (by decide)
 have HV1 := HV
 have HC := hID hc
 clear hc hv HV
 go_enter Tryz.func103, Tryz.ntmps103
 go_wp2_with (at_builtin; refine @wpList_append_lies _ _ _ _ _ _ _ rfl _ _ 23 rfl w.heap.size 71 i_u64 (.int .u64 0) 1 8 Tryz.underlying23 h_u64 z_u64 s_u64 b_u64 rfl (by decide) (.slice (some ⟨w.heap.size, 0, none⟩) 0 0) 0 [] rfl (World.ownsRow_made w #[] 0 (Nat.le_refl _) (by decide) rfl) ⟨b, o, none⟩ 1 c [.int .u64 0] rfl rfl ?c1 (by decide) (by decide) (by decide) (by decide) (Off.alloc (Off.refl Nob w) (.cells #[] 71)).size _ rfl ?_)
 case c1 => intro j u hj; rw [add_addr]; exact HC.out _ (Off.alloc (Off.refl _ _) _) j u hj
 intro g cap w1 hown hgrow hat hlt
 have OW1 : Hid (OwnL w w1 71 1 (.slice (some ⟨g, 0, none⟩) (0 + 1) cap) (0 + 1) ([] ++ [.int .u64 0])) := hID ⟨hown, Off.grown (Off.alloc (Off.refl _ _) _) hgrow (fun k hk => by simp [Value.ownBlock] at hk; right; omega)⟩
 clear hown hgrow hat hlt
 go_wp2_with fail
 refine (co_get_0_2 _ _ (HV1.out.keepT OW1.out.2)).mono ?_
 rintro e w2 ⟨rfl, o1⟩
 have OW2 := hID (OW1.out.off o1)
 clear o1 OW1
 have c0 := OW2.out.1.cellAt 0 (by decide)
 have f0 := OW2.out.1.frozenAt 0
 replace c0 : w2.cell? ⟨g, 0, none⟩ = some (.int .u64 0) := c0
 have OW3 : Hid (OwnL w (w2.setCell ⟨g, 0, none⟩ (.int .u64 4)) 71 1 (.slice (some ⟨g, 0, none⟩) 1 cap) 1 [.int .u64 4]) := hID ⟨(OW2.out.1.stored 0 (.int .u64 4)).1, OW2.out.2.put (.inr (OW2.out.1.lt g rfl).1) _⟩
 clear OW2
 go_wp2_with fail
 go_ret
 exact ⟨_, rfl, Rd.own OW3.out.1 (fun k hk => (OW3.out.1.lt k hk).1), OW3.out.2⟩
set_option maxHeartbeats 2000000 in
theorem co_get_2_2 (w : World) (v : Value) (hv : Rd w (fun _ => True) 1 v 1 [.int .u64 2]) : Calls Tryz.prog 67 #[v, .int .i64 2] w (RetV w (.bool false)) := by
 have hb : bits .and .u64 0 1 = 0 := by decide
 obtain ⟨b, o, c, rfl, hc⟩ := hv.cellsT (by decide)
 have c0 := hc _ (Off.refl _ _) 0 _ rfl
 simp only [Nat.add_zero] at c0
 clear hc hv
 go_enter Tryz.func67, Tryz.ntmps67
 go_wp2_with fail
 go_ret
 exact ⟨rfl, Off.refl _ _⟩
set_option maxHeartbeats 2000000 in
theorem co_with_2_2 (w : World) (v : Value) (hv : Rd w (fun _ => True) 1 v 1 [.int .u64 2]) : Calls Tryz.prog 103 #[v, .int .i64 2, .bool true] w (fun e w' => ∃ v, e = .returned v ∧ Rd w' (fun k => w.heap.size ≤ k) 1 v 1 [.int .u64 6] ∧ Off Nob w w') := by
 have hb : bits .xor .u64 2 4 = 6 := by decide
 obtain ⟨i_u64, h_u64, z_u64, s_u64, b_u64⟩ := info_parts Tryz.infoU64
 have HV := hID hv
 obtain ⟨b, o, c, rfl, hc⟩ := hv.cellsT (by decide)
 have HV1 := HV
 have HC := hID hc
 clear hc hv HV
 go_enter Tryz.func103, Tryz.ntmps103
 go_wp2_with (at_builtin; refine @wpList_append_lies _ _ _ _ _ _ _ rfl _ _ 23 rfl w.heap.size 71 i_u64 (.int .u64 0) 1 8 Tryz.underlying23 h_u64 z_u64 s_u64 b_u64 rfl (by decide) (.slice (some ⟨w.heap.size, 0, none⟩) 0 0) 0 [] rfl (World.ownsRow_made w #[] 0 (Nat.le_refl _) (by decide) rfl) ⟨b, o, none⟩ 1 c [.int .u64 2] rfl rfl ?c1 (by decide) (by decide) (by decide) (by decide) (Off.alloc (Off.refl Nob w) (.cells #[] 71)).size _ rfl ?_)
 case c1 => intro j u hj; rw [add_addr]; exact HC.out _ (Off.alloc (Off.refl _ _) _) j u hj
 intro g cap w1 hown hgrow hat hlt
 have OW1 : Hid (OwnL w w1 71 1 (.slice (some ⟨g, 0, none⟩) (0 + 1) cap) (0 + 1) ([] ++ [.int .u64 2])) := hID ⟨hown, Off.grown (Off.alloc (Off.refl _ _) _) hgrow (fun k hk => by simp [Value.ownBlock] at hk; right; omega)⟩
 clear hown hgrow hat hlt
 go_wp2_with fail
 refine (co_get_2_2 _ _ (HV1.out.keepT OW1.out.2)).mono ?_
 rintro e w2 ⟨rfl, o1⟩
 have OW2 := hID (OW1.out.off o1)
 clear o1 OW1
 have c0 := OW2.out.1.cellAt 0 (by decide)
 have f0 := OW2.out.1.frozenAt 0
 replace c0 : w2.cell? ⟨g, 0, none⟩ = some (.int .u64 2) := c0
 have OW3 : Hid (OwnL w (w2.setCell ⟨g, 0, none⟩ (.int .u64 6)) 71 1 (.slice (some ⟨g, 0, none⟩) 1 cap) 1 [.int .u64 6]) := hID ⟨(OW2.out.1.stored 0 (.int .u64 6)).1, OW2.out.2.put (.inr (OW2.out.1.lt g rfl).1) _⟩
 clear OW2
 go_wp2_with fail
 go_ret
 exact ⟨_, rfl, Rd.own OW3.out.1 (fun k hk => (OW3.out.1.lt k hk).1), OW3.out.2⟩
set_option maxHeartbeats 4000000 in
theorem co_rof_02 (w : World) (v : Value) (hv : Rd w (fun _ => True) 1 v 2 [.int .i64 0, .int .i64 2]) : Calls Tryz.prog 71 #[.int .i64 1, v] w (fun e w' => ∃ u, e = .returned (.tuple #[u, .int .i64 0]) ∧ Rd w' (fun k => w.heap.size ≤ k) 1 u 1 [.int .u64 5] ∧ Off Nob w w') := by
 obtain ⟨i_u64, h_u64, z_u64, s_u64, b_u64⟩ := info_parts Tryz.infoU64
 obtain ⟨b, o, c, rfl, hc⟩ := hv.cellsT (by decide)
 have GC : Hid (∀ W, Off Nob w W → W.cell? ⟨b, o, none⟩ = some (.int .i64 0) ∧ W.cell? ⟨b, o + 1, none⟩ = some (.int .i64 2)) := hID (fun W ho => ⟨hc W ho 0 _ rfl, hc W ho 1 _ rfl⟩)
 clear hc hv
 go_enter Tryz.func71, Tryz.ntmps71
 have X0 : Hid (Off Nob w w) := hID (Off.refl _ _)
 have X0' := X0
 clear X0'
 go_wp2_with (at_make; refine wpList_make_full _ rfl _ _ 23 rfl w.heap.size 71 i_u64 (.int .u64 0) 1 Tryz.underlying23 h_u64 z_u64 s_u64 .i64 .i64 _ _ 1 rfl rfl rfl rfl (by rw [b_u64]; decide) (by decide) (Nat.le_refl _) ?_; intro w1 hown hgrow)
 rw [made_u1] at hown
 have HR1 : Hid (Rd w1 (fun k => w.heap.size ≤ k) 1 (.slice (some ⟨w.heap.size, 0, none⟩) 1 1) 1 [.int .u64 0]) := hID (Rd.own hown (fun k hk => (hown.lt k hk).1))
 have X1 : Hid (Off Nob w w1) := hID (Off.grown (Off.refl _ _) hgrow (fun k hk => by cases hk))
 clear hown hgrow X0
 go_wp2_with fail
 refine wp_loop_rounds 3 ?_
 rw [rounds_succ]
 obtain ⟨c0, c1⟩ := GC.out _ X1.out
 go_wp2_with fail
 refine (co_with_0_0 _ _ HR1.out.any).mono ?_
 rintro e w2 ⟨v0, rfl, hr, o1⟩
 have X2 := hID (X1.out.also o1)
 obtain ⟨hr, o1⟩ := id (And.intro hr o1)
 obtain ⟨A0, k0, rfl, _⟩ := hr.form
 have HR2 := hID (Rd.mono hr (G := fun k => w.heap.size ≤ k) (fun k hk => Nat.le_trans X1.out.size hk))
 clear hr HR1
 clear o1 X1
 clear c0 c1
 obtain ⟨c0, c1⟩ := GC.out _ X2.out
 go_wp2_with fail
 rw [rounds_succ]
 clear c0 c1
 obtain ⟨c0, c1⟩ := GC.out _ X2.out
 go_wp2_with fail
 refine (co_with_1_2 _ _ HR2.out.any).mono ?_
 rintro e w3 ⟨v1, rfl, hr, o1⟩
 have X3 := hID (X2.out.also o1)
 obtain ⟨hr, o1⟩ := id (And.intro hr o1)
 obtain ⟨A1, k1, rfl, _⟩ := hr.form
 have HR3 := hID (Rd.mono hr (G := fun k => w.heap.size ≤ k) (fun k hk => Nat.le_trans X2.out.size hk))
 clear hr HR2
 clear o1 X2
 clear c0 c1
 obtain ⟨c0, c1⟩ := GC.out _ X3.out
 go_wp2_with fail
 rw [rounds_succ]
 clear c0 c1
 obtain ⟨c0, c1⟩ := GC.out _ X3.out
 go_wp2_with fail
 go_ret2
 exact ⟨_, rfl, HR3.out, X3.out⟩
set_option maxHeartbeats 4000000 in
theorem co_rof_1 (w : World) (v : Value) (hv : Rd w (fun _ => True) 1 v 1 [.int .i64 1]) : Calls Tryz.prog 71 #[.int .i64 1, v] w (fun e w' => ∃ u, e = .returned (.tuple #[u, .int .i64 0]) ∧ Rd w' (fun k => w.heap.size ≤ k) 1 u 1 [.int .u64 2] ∧ Off Nob w w') := by
 obtain ⟨i_u64, h_u64, z_u64, s_u64, b_u64⟩ := info_parts Tryz.infoU64
 obtain ⟨b, o, c, rfl, hc⟩ := hv.cellsT (by decide)
 have GC : Hid (∀ W, Off Nob w W → W.cell? ⟨b, o, none⟩ = some (.int .i64 1)) := hID (fun W ho => hc W ho 0 _ rfl)
 clear hc hv
 go_enter Tryz.func71, Tryz.ntmps71
 have X0 : Hid (Off Nob w w) := hID (Off.refl _ _)
 have X0' := X0
 clear X0'
 go_wp2_with (at_make; refine wpList_make_full _ rfl _ _ 23 rfl w.heap.size 71 i_u64 (.int .u64 0) 1 Tryz.underlying23 h_u64 z_u64 s_u64 .i64 .i64 _ _ 1 rfl rfl rfl rfl (by rw [b_u64]; decide) (by decide) (Nat.le_refl _) ?_; intro w1 hown hgrow)
 rw [made_u1] at hown
 have HR1 : Hid (Rd w1 (fun k => w.heap.size ≤ k) 1 (.slice (some ⟨w.heap.size, 0, none⟩) 1 1) 1 [.int .u64 0]) := hID (Rd.own hown (fun k hk => (hown.lt k hk).1))
 have X1 : Hid (Off Nob w w1) := hID (Off.grown (Off.refl _ _) hgrow (fun k hk => by cases hk))
 clear hown hgrow X0
 go_wp2_with fail
 refine wp_loop_rounds 2 ?_
 rw [rounds_succ]
 have c0 := GC.out _ X1.out
 go_wp2_with fail
 refine (co_with_0_1 _ _ HR1.out.any).mono ?_
 rintro e w2 ⟨v0, rfl, hr, o1⟩
 have X2 := hID (X1.out.also o1)
 obtain ⟨hr, o1⟩ := id (And.intro hr o1)
 obtain ⟨A0, k0, rfl, _⟩ := hr.form
 have HR2 := hID (Rd.mono hr (G := fun k => w.heap.size ≤ k) (fun k hk => Nat.le_trans X1.out.size hk))
 clear hr HR1
 clear o1 X1
 clear c0
 have c0 := GC.out _ X2.out
 go_wp2_with fail
 rw [rounds_succ]
 clear c0
 have c0 := GC.out _ X2.out
 go_wp2_with fail
 go_ret2
 exact ⟨_, rfl, HR2.out, X2.out⟩
set_option maxHeartbeats 4000000 in
theorem co_rof_2 (w : World) (v : Value) (hv : Rd w (fun _ => True) 1 v 1 [.int .i64 2]) : Calls Tryz.prog 71 #[.int .i64 1, v] w (fun e w' => ∃ u, e = .returned (.tuple #[u, .int .i64 0]) ∧ Rd w' (fun k => w.heap.size ≤ k) 1 u 1 [.int .u64 4] ∧ Off Nob w w') := by
 obtain ⟨i_u64, h_u64, z_u64, s_u64, b_u64⟩ := info_parts Tryz.infoU64
 obtain ⟨b, o, c, rfl, hc⟩ := hv.cellsT (by decide)
 have GC : Hid (∀ W, Off Nob w W → W.cell? ⟨b, o, none⟩ = some (.int .i64 2)) := hID (fun W ho => hc W ho 0 _ rfl)
 clear hc hv
 go_enter Tryz.func71, Tryz.ntmps71
 have X0 : Hid (Off Nob w w) := hID (Off.refl _ _)
 have X0' := X0
 clear X0'
 go_wp2_with (at_make; refine wpList_make_full _ rfl _ _ 23 rfl w.heap.size 71 i_u64 (.int .u64 0) 1 Tryz.underlying23 h_u64 z_u64 s_u64 .i64 .i64 _ _ 1 rfl rfl rfl rfl (by rw [b_u64]; decide) (by decide) (Nat.le_refl _) ?_; intro w1 hown hgrow)
 rw [made_u1] at hown
 have HR1 : Hid (Rd w1 (fun k => w.heap.size ≤ k) 1 (.slice (some ⟨w.heap.size, 0, none⟩) 1 1) 1 [.int .u64 0]) := hID (Rd.own hown (fun k hk => (hown.lt k hk).1))
 have X1 : Hid (Off Nob w w1) := hID (Off.grown (Off.refl _ _) hgrow (fun k hk => by cases hk))
 clear hown hgrow X0
 go_wp2_with fail
 refine wp_loop_rounds 2 ?_
 rw [rounds_succ]
 have c0 := GC.out _ X1.out
 go_wp2_with fail
 refine (co_with_0_2 _ _ HR1.out.any).mono ?_
 rintro e w2 ⟨v0, rfl, hr, o1⟩
 have X2 := hID (X1.out.also o1)
 obtain ⟨hr, o1⟩ := id (And.intro hr o1)
 obtain ⟨A0, k0, rfl, _⟩ := hr.form
 have HR2 := hID (Rd.mono hr (G := fun k => w.heap.size ≤ k) (fun k hk => Nat.le_trans X1.out.size hk))
 clear hr HR1
 clear o1 X1
 clear c0
 have c0 := GC.out _ X2.out
 go_wp2_with fail
 rw [rounds_succ]
 clear c0
 have c0 := GC.out _ X2.out
 go_wp2_with fail
 go_ret2
 exact ⟨_, rfl, HR2.out, X2.out⟩
set_option maxHeartbeats 4000000 in
theorem co_rof_12 (w : World) (v : Value) (hv : Rd w (fun _ => True) 1 v 2 [.int .i64 1, .int .i64 2]) : Calls Tryz.prog 71 #[.int .i64 1, v] w (fun e w' => ∃ u, e = .returned (.tuple #[u, .int .i64 0]) ∧ Rd w' (fun k => w.heap.size ≤ k) 1 u 1 [.int .u64 6] ∧ Off Nob w w') := by
 obtain ⟨i_u64, h_u64, z_u64, s_u64, b_u64⟩ := info_parts Tryz.infoU64
 obtain ⟨b, o, c, rfl, hc⟩ := hv.cellsT (by decide)
 have GC : Hid (∀ W, Off Nob w W → W.cell? ⟨b, o, none⟩ = some (.int .i64 1) ∧ W.cell? ⟨b, o + 1, none⟩ = some (.int .i64 2)) := hID (fun W ho => ⟨hc W ho 0 _ rfl, hc W ho 1 _ rfl⟩)
 clear hc hv
 go_enter Tryz.func71, Tryz.ntmps71
 have X0 : Hid (Off Nob w w) := hID (Off.refl _ _)
 have X0' := X0
 clear X0'
 go_wp2_with (at_make; refine wpList_make_full _ rfl _ _ 23 rfl w.heap.size 71 i_u64 (.int .u64 0) 1 Tryz.underlying23 h_u64 z_u64 s_u64 .i64 .i64 _ _ 1 rfl rfl rfl rfl (by rw [b_u64]; decide) (by decide) (Nat.le_refl _) ?_; intro w1 hown hgrow)
 rw [made_u1] at hown
 have HR1 : Hid (Rd w1 (fun k => w.heap.size ≤ k) 1 (.slice (some ⟨w.heap.size, 0, none⟩) 1 1) 1 [.int .u64 0]) := hID (Rd.own hown (fun k hk => (hown.lt k hk).1))
 have X1 : Hid (Off Nob w w1) := hID (Off.grown (Off.refl _ _) hgrow (fun k hk => by cases hk))
 clear hown hgrow X0
 go_wp2_with fail
 refine wp_loop_rounds 3 ?_
 rw [rounds_succ]
 obtain ⟨c0, c1⟩ := GC.out _ X1.out
 go_wp2_with fail
 refine (co_with_0_1 _ _ HR1.out.any).mono ?_
 rintro e w2 ⟨v0, rfl, hr, o1⟩
 have X2 := hID (X1.out.also o1)
 obtain ⟨hr, o1⟩ := id (And.intro hr o1)
 obtain ⟨A0, k0, rfl, _⟩ := hr.form
 have HR2 := hID (Rd.mono hr (G := fun k => w.heap.size ≤ k) (fun k hk => Nat.le_trans X1.out.size hk))
 clear hr HR1
 clear o1 X1
 clear c0 c1
 obtain ⟨c0, c1⟩ := GC.out _ X2.out
 go_wp2_with fail
 rw [rounds_succ]
 clear c0 c1
 obtain ⟨c0, c1⟩ := GC.out _ X2.out
 go_wp2_with fail
 refine (co_with_2_2 _ _ HR2.out.any).mono ?_
 rintro e w3 ⟨v1, rfl, hr, o1⟩
 have X3 := hID (X2.out.also o1)
 obtain ⟨hr, o1⟩ := id (And.intro hr o1)
 obtain ⟨A1, k1, rfl, _⟩ := hr.form
 have HR3 := hID (Rd.mono hr (G := fun k => w.heap.size ≤ k) (fun k hk => Nat.le_trans X2.out.size hk))
 clear hr HR2
 clear o1 X2
 clear c0 c1
 obtain ⟨c0, c1⟩ := GC.out _ X3.out
 go_wp2_with fail
 rw [rounds_succ]
 clear c0 c1
 obtain ⟨c0, c1⟩ := GC.out _ X3.out
 go_wp2_with fail
 go_ret2
 exact ⟨_, rfl, HR3.out, X3.out⟩
set_option maxHeartbeats 4000000 in
theorem co_rof_no (w : World) (v : Value) (hv : Rd w (fun _ => True) 1 v 0 []) : Calls Tryz.prog 71 #[.int .i64 1, v] w (fun e w' => ∃ u, e = .returned (.tuple #[u, .int .i64 0]) ∧ Rd w' (fun k => w.heap.size ≤ k) 1 u 1 [.int .u64 0] ∧ Off Nob w w') := by
 obtain ⟨i_u64, h_u64, z_u64, s_u64, b_u64⟩ := info_parts Tryz.infoU64
 obtain ⟨AA, cc, rfl, _⟩ := hv.form
 have hc := True.intro
 clear hc hv
 go_enter Tryz.func71, Tryz.ntmps71
 have X0 : Hid (Off Nob w w) := hID (Off.refl _ _)
 have X0' := X0
 clear X0'
 go_wp2_with (at_make; refine wpList_make_full _ rfl _ _ 23 rfl w.heap.size 71 i_u64 (.int .u64 0) 1 Tryz.underlying23 h_u64 z_u64 s_u64 .i64 .i64 _ _ 1 rfl rfl rfl rfl (by rw [b_u64]; decide) (by decide) (Nat.le_refl _) ?_; intro w1 hown hgrow)
 rw [made_u1] at hown
 have HR1 : Hid (Rd w1 (fun k => w.heap.size ≤ k) 1 (.slice (some ⟨w.heap.size, 0, none⟩) 1 1) 1 [.int .u64 0]) := hID (Rd.own hown (fun k hk => (hown.lt k hk).1))
 have X1 : Hid (Off Nob w w1) := hID (Off.grown (Off.refl _ _) hgrow (fun k hk => by cases hk))
 clear hown hgrow X0
 go_wp2_with fail
 refine wp_loop_rounds 1 ?_
 rw [rounds_succ]
 go_wp2_with fail
 go_ret2
 exact ⟨_, rfl, HR1.out, X1.out⟩
end Go.Proofs.YtlgjaefcfnndhaaGreatDoor

namespace Go.Proofs.YtlgjaefcfnndhaaGreatDoor
open Go.RowKit
set_option maxRecDepth 100000
theorem Tryz.infoLa : (Tryz.prog.info? 43).map (fun i => (i.zero, i.size, i.bytes)) = some (some (.agg #[.int .i64 0, .int .i64 0, .int .i64 0]), 3, 24) := by kernel_rfl
def ln_ab : List Value := [.int .i64 0, .int .i64 0, .int .i64 2, .int .i64 1, .int .i64 2, .int .i64 1]
theorem co_words (w : World) : Calls Tryz.prog 91 #[.int .i64 3] w fun e w' => e = .returned (.int .i64 1) ∧ w = w' := by
 go_enter Tryz.func91, Tryz.ntmps91
 go_wp2_with fail
 go_ret
 exact ⟨rfl, rfl⟩
set_option maxHeartbeats 4000000 in
theorem co_lcheck (w : World) (v : Value) (hv : Rd w (fun _ => True) 3 v 2 ln_ab) : Calls Tryz.prog 81 #[.agg #[.int .i64 1, v]] w (RetV w (.tuple #[.int .i64 0, .int .i64 0])) := by
 have HV0 := hID hv
 obtain ⟨b, o, c, rfl, hc⟩ := hv.cellsT (by decide)
 have HV := HV0
 have HC := hID hc
 clear hc hv HV0
 go_enter Tryz.func81, Tryz.ntmps81
 go_wp2_with fail
 have HB0 : Hid (Blk (w.alloc (.cells #[.int .i64 1, .slice (some ⟨b, o, none⟩) 2 c] 62)) w.heap.size 62 #[.int .i64 1, .slice (some ⟨b, o, none⟩) 2 c] ∧ Off Nob w (w.alloc (.cells #[.int .i64 1, .slice (some ⟨b, o, none⟩) 2 c] 62))) := hID ⟨Blk.new _ _ _, Off.alloc (Off.refl _ _) _⟩
 revert HB0
 generalize (w.alloc (.cells #[.int .i64 1, .slice (some ⟨b, o, none⟩) 2 c] 62)) = w0
 intro HB0
 have GC : Hid (∀ W, Off Nob w0 W → W.cell? ⟨w.heap.size, 0, none⟩ = some (.int .i64 1) ∧ W.cell? ⟨w.heap.size, 1, none⟩ = some (.slice (some ⟨b, o, none⟩) 2 c) ∧ W.cell? ⟨b, o, none⟩ = some (.int .i64 0) ∧ W.cell? ⟨b, o + 1, none⟩ = some (.int .i64 0) ∧ W.cell? ⟨b, o + 2, none⟩ = some (.int .i64 2) ∧ W.cell? ⟨b, o + 3, none⟩ = some (.int .i64 1) ∧ W.cell? ⟨b, o + 4, none⟩ = some (.int .i64 2) ∧ W.cell? ⟨b, o + 5, none⟩ = some (.int .i64 1)) := hID (fun W ho => by
  have h := HB0.out.1.to (ho.block _ HB0.out.1.lt (fun h => h))
  have k := HC.out W (HB0.out.2.also ho)
  exact ⟨h.cell 0, h.cell 1, k 0 _ rfl, k 1 _ rfl, k 2 _ rfl, k 3 _ rfl, k 4 _ rfl, k 5 _ rfl⟩)
 have X0 : Hid (Off Nob w0 w0) := hID (Off.refl _ _)
 obtain ⟨t0, t1, c0, c1, c2, c3, c4, c5⟩ := GC.out _ X0.out
 go_wp2_with fail
 refine wp_loop_rounds 3 ?_
 rw [rounds_succ]
 clear t0 t1 c0 c1 c2 c3 c4 c5
 obtain ⟨t0, t1, c0, c1, c2, c3, c4, c5⟩ := GC.out _ X0.out
 go_wp2_with fail
 have BL := hID (Blk.new w0 43 #[.int .i64 0, .int .i64 0, .int .i64 2])
 have X1 := hID (X0.out.alloc (.cells #[.int .i64 0, .int .i64 0, .int .i64 2] 43))
 clear X0
 clear t0 t1 c0 c1 c2 c3 c4 c5
 revert BL X1
 generalize w0.alloc (.cells #[.int .i64 0, .int .i64 0, .int .i64 2] 43) = w10
 intro BL X1
 have y0 := BL.out.cell 0
 have y1 := BL.out.cell 1
 have y2 := BL.out.cell 2
 simp only [List.getElem?_toArray, List.getElem?_cons_succ, List.getElem?_cons_zero] at y0 y1 y2
 go_quiet (fail)
 have X2 := hID (X1.out.drewN nq)
 clear X1 BL y0 y1 y2
 generalize w10.drewN nq = w11 at *
 obtain ⟨t0, t1, c0, c1, c2, c3, c4, c5⟩ := GC.out _ X2.out
 go_wp2_with fail
 rw [rounds_succ]
 clear t0 t1 c0 c1 c2 c3 c4 c5
 obtain ⟨t0, t1, c0, c1, c2, c3, c4, c5⟩ := GC.out _ X2.out
 go_wp2_with fail
 have BL := hID (Blk.new w11 43 #[.int .i64 1, .int .i64 2, .int .i64 1])
 have X3 := hID (X2.out.alloc (.cells #[.int .i64 1, .int .i64 2, .int .i64 1] 43))
 clear X2
 clear t0 t1 c0 c1 c2 c3 c4 c5
 revert BL X3
 generalize w11.alloc (.cells #[.int .i64 1, .int .i64 2, .int .i64 1] 43) = w21
 intro BL X3
 have y0 := BL.out.cell 0
 have y1 := BL.out.cell 1
 have y2 := BL.out.cell 2
 simp only [List.getElem?_toArray, List.getElem?_cons_succ, List.getElem?_cons_zero] at y0 y1 y2
 go_quiet (fail)
 have X4 := hID (X3.out.drewN nq)
 clear X3 BL y0 y1 y2
 generalize w21.drewN nq = w22 at *
 obtain ⟨t0, t1, c0, c1, c2, c3, c4, c5⟩ := GC.out _ X4.out
 go_wp2_with fail
 rw [rounds_succ]
 clear t0 t1 c0 c1 c2 c3 c4 c5
 obtain ⟨t0, t1, c0, c1, c2, c3, c4, c5⟩ := GC.out _ X4.out
 go_wp2_with fail
 go_region_held3 (fun W => W.cell? ⟨w.heap.size, 0, none⟩ = some (.int .i64 1))
  (first | with_reducible assumption | go_keep)
  (first
   | (go_at_call 91; refine (co_words _).mono ?_; rintro e w' ⟨rfl, rfl⟩))
 go_wp2_with fail
 go_ret2
 exact ⟨rfl, HB0.out.2.also X4.out.drew⟩
set_option maxHeartbeats 4000000 in
theorem co_lrules (w : World) (v : Value) (hv : Rd w (fun _ => True) 3 v 2 ln_ab) : Calls Tryz.prog 92 #[.agg #[.int .i64 1, v]] w (RetV w (.tuple #[.int .i64 2, .int .i64 0])) := by
 have HV0 := hID hv
 obtain ⟨b, o, c, rfl, hc⟩ := hv.cellsT (by decide)
 have HV := HV0
 have HC := hID hc
 clear hc hv HV0
 go_enter Tryz.func92, Tryz.ntmps92
 go_wp2_with fail
 have HB0 : Hid (Blk (w.alloc (.cells #[.int .i64 1, .slice (some ⟨b, o, none⟩) 2 c] 62)) w.heap.size 62 #[.int .i64 1, .slice (some ⟨b, o, none⟩) 2 c] ∧ Off Nob w (w.alloc (.cells #[.int .i64 1, .slice (some ⟨b, o, none⟩) 2 c] 62))) := hID ⟨Blk.new _ _ _, Off.alloc (Off.refl _ _) _⟩
 revert HB0
 generalize (w.alloc (.cells #[.int .i64 1, .slice (some ⟨b, o, none⟩) 2 c] 62)) = w0
 intro HB0
 have GC : Hid (∀ W, Off Nob w0 W → W.cell? ⟨w.heap.size, 0, none⟩ = some (.int .i64 1) ∧ W.cell? ⟨w.heap.size, 1, none⟩ = some (.slice (some ⟨b, o, none⟩) 2 c) ∧ W.cell? ⟨b, o, none⟩ = some (.int .i64 0) ∧ W.cell? ⟨b, o + 1, none⟩ = some (.int .i64 0) ∧ W.cell? ⟨b, o + 2, none⟩ = some (.int .i64 2) ∧ W.cell? ⟨b, o + 3, none⟩ = some (.int .i64 1) ∧ W.cell? ⟨b, o + 4, none⟩ = some (.int .i64 2) ∧ W.cell? ⟨b, o + 5, none⟩ = some (.int .i64 1)) := hID (fun W ho => by
  have h := HB0.out.1.to (ho.block _ HB0.out.1.lt (fun h => h))
  have k := HC.out W (HB0.out.2.also ho)
  exact ⟨h.cell 0, h.cell 1, k 0 _ rfl, k 1 _ rfl, k 2 _ rfl, k 3 _ rfl, k 4 _ rfl, k 5 _ rfl⟩)
 have X0 : Hid (Off Nob w0 w0) := hID (Off.refl _ _)
 obtain ⟨t0, t1, c0, c1, c2, c3, c4, c5⟩ := GC.out _ X0.out
 go_wp2_with fail
 refine (co_lcheck _ _ (HV.out.keepT HB0.out.2)).mono ?_
 rintro e w1 ⟨rfl, o1⟩
 have X1 := hID (X0.out.also o1)
 clear o1 X0
 clear t0 t1 c0 c1 c2 c3 c4 c5
 obtain ⟨t0, t1, c0, c1, c2, c3, c4, c5⟩ := GC.out _ X1.out
 go_wp2_with fail
 go_ret2
 exact ⟨rfl, HB0.out.2.also X1.out⟩
set_option maxHeartbeats 4000000 in
theorem co_lstarts (w : World) (v : Value) (hv : Rd w (fun _ => True) 3 v 2 ln_ab) : Calls Tryz.prog 58 #[.agg #[.int .i64 1, v]] w (fun e w' => ∃ u, e = .returned (.tuple #[u, .int .i64 0]) ∧ Rd w' (fun k => w.heap.size ≤ k) 1 u 1 [.int .u64 5] ∧ Off Nob w w') := by
 have HV0 := hID hv
 obtain ⟨b, o, c, rfl, hc⟩ := hv.cellsT (by decide)
 have HV := HV0
 have HC := hID hc
 clear hc hv HV0
 obtain ⟨i_int, h_int, z_int, s_int, b_int⟩ := info_parts Tryz.infoI'
 go_enter Tryz.func58, Tryz.ntmps58
 go_wp2_with fail
 have HB0 : Hid (Blk (w.alloc (.cells #[.int .i64 1, .slice (some ⟨b, o, none⟩) 2 c] 62)) w.heap.size 62 #[.int .i64 1, .slice (some ⟨b, o, none⟩) 2 c] ∧ Off Nob w (w.alloc (.cells #[.int .i64 1, .slice (some ⟨b, o, none⟩) 2 c] 62))) := hID ⟨Blk.new _ _ _, Off.alloc (Off.refl _ _) _⟩
 revert HB0
 generalize (w.alloc (.cells #[.int .i64 1, .slice (some ⟨b, o, none⟩) 2 c] 62)) = w0
 intro HB0
 have GC : Hid (∀ W, Off Nob w0 W → W.cell? ⟨w.heap.size, 0, none⟩ = some (.int .i64 1) ∧ W.cell? ⟨w.heap.size, 1, none⟩ = some (.slice (some ⟨b, o, none⟩) 2 c) ∧ W.cell? ⟨b, o, none⟩ = some (.int .i64 0) ∧ W.cell? ⟨b, o + 1, none⟩ = some (.int .i64 0) ∧ W.cell? ⟨b, o + 2, none⟩ = some (.int .i64 2) ∧ W.cell? ⟨b, o + 3, none⟩ = some (.int .i64 1) ∧ W.cell? ⟨b, o + 4, none⟩ = some (.int .i64 2) ∧ W.cell? ⟨b, o + 5, none⟩ = some (.int .i64 1)) := hID (fun W ho => by
  have h := HB0.out.1.to (ho.block _ HB0.out.1.lt (fun h => h))
  have k := HC.out W (HB0.out.2.also ho)
  exact ⟨h.cell 0, h.cell 1, k 0 _ rfl, k 1 _ rfl, k 2 _ rfl, k 3 _ rfl, k 4 _ rfl, k 5 _ rfl⟩)
 have X0 : Hid (Off Nob w0 w0) := hID (Off.refl _ _)
 obtain ⟨t0, t1, c0, c1, c2, c3, c4, c5⟩ := GC.out _ X0.out
 go_wp2_with fail
 refine (co_lcheck _ _ (HV.out.keepT HB0.out.2)).mono ?_
 rintro e w1 ⟨rfl, o1⟩
 have X1 := hID (X0.out.also o1)
 clear o1 X0
 clear t0 t1 c0 c1 c2 c3 c4 c5
 obtain ⟨t0, t1, c0, c1, c2, c3, c4, c5⟩ := GC.out _ X1.out
 go_wp2_with fail
 refine wp_loop_rounds 3 ?_
 rw [rounds_succ]
 clear t0 t1 c0 c1 c2 c3 c4 c5
 obtain ⟨t0, t1, c0, c1, c2, c3, c4, c5⟩ := GC.out _ X1.out
 go_wp2_with (at_builtin; refine @wpList_append_lies _ _ _ _ _ _ _ rfl _ _ 22 rfl w0.heap.size 3 i_int (.int .i64 0) 1 8 Tryz.underlying22 h_int z_int s_int b_int rfl (by decide) (.slice none 0 0) (0) ([]) rfl ((OwnL.nilAt X1.out 3 1).1.alloc _) ⟨w1.heap.size, 0, none⟩ 1 1 [.int .i64 0] rfl rfl ?c1 (by decide) (by decide) (by decide) (by decide) (by have := (OwnL.nilAt X1.out 3 1).2.size; simp; omega) _ rfl ?_)
 case c1 => exact cell_lit _ [.int .i64 0] _
 intro g2 cap2 w2 hown hgrow hat hlt
 have OW2 := hID ((OwnL.nilAt X1.out 3 1).grown (Off.alloc (Off.refl Nob w1) (.cells #[.int .i64 0] 3)) hown hgrow)
 have X2 := hID OW2.out.2
 clear hown hgrow hat hlt X1
 clear t0 t1 c0 c1 c2 c3 c4 c5
 obtain ⟨t0, t1, c0, c1, c2, c3, c4, c5⟩ := GC.out _ X2.out
 go_wp2_with fail
 rw [rounds_succ]
 clear t0 t1 c0 c1 c2 c3 c4 c5
 obtain ⟨t0, t1, c0, c1, c2, c3, c4, c5⟩ := GC.out _ X2.out
 go_wp2_with (at_builtin; refine @wpList_append_lies _ _ _ _ _ _ _ rfl _ _ 22 rfl w0.heap.size 3 i_int (.int .i64 0) 1 8 Tryz.underlying22 h_int z_int s_int b_int rfl (by decide) (.slice (some ⟨g2, 0, none⟩) (0 + 1) cap2) (0 + 1) ([] ++ [.int .i64 0]) rfl (OW2.out.1.alloc _) ⟨w2.heap.size, 0, none⟩ 1 1 [.int .i64 2] rfl rfl ?c1 (by decide) (by decide) (by decide) (by decide) (by have := OW2.out.2.size; simp; omega) _ rfl ?_)
 case c1 => exact cell_lit _ [.int .i64 2] _
 intro g3 cap3 w3 hown hgrow hat hlt
 have OW3 := hID (OW2.out.grown (Off.alloc (Off.refl Nob w2) (.cells #[.int .i64 2] 3)) hown hgrow)
 have X3 := hID OW3.out.2
 clear hown hgrow hat hlt X2 OW2
 clear t0 t1 c0 c1 c2 c3 c4 c5
 obtain ⟨t0, t1, c0, c1, c2, c3, c4, c5⟩ := GC.out _ X3.out
 go_wp2_with fail
 rw [rounds_succ]
 clear t0 t1 c0 c1 c2 c3 c4 c5
 obtain ⟨t0, t1, c0, c1, c2, c3, c4, c5⟩ := GC.out _ X3.out
 go_wp2_with fail
 refine (co_rof_02 _ _ OW3.out.rd).mono ?_
 rintro e w4 ⟨u, rfl, hr, o1⟩
 have X4 := hID (X3.out.also o1)
 obtain ⟨hr, o1⟩ := id (And.intro hr o1)
 have HR := hID (Rd.mono hr (G := fun k => w.heap.size ≤ k) (fun k hk => Nat.le_trans (HB0.out.2.also X3.out).size hk))
 clear hr
 clear o1 X3
 clear t0 t1 c0 c1 c2 c3 c4 c5
 obtain ⟨t0, t1, c0, c1, c2, c3, c4, c5⟩ := GC.out _ X4.out
 go_wp2_with fail
 go_ret2
 exact ⟨_, rfl, HR.out, HB0.out.2.also X4.out⟩
set_option maxHeartbeats 4000000 in
theorem co_lends0 (w : World) (v : Value) (hv : Rd w (fun _ => True) 3 v 2 ln_ab) : Calls Tryz.prog 59 #[.agg #[.int .i64 1, v], .int .i64 0] w (fun e w' => ∃ u, e = .returned (.tuple #[u, .int .i64 0]) ∧ Rd w' (fun k => w.heap.size ≤ k) 1 u 1 [.int .u64 2] ∧ Off Nob w w') := by
 have hw0 : IntKind.i64.wrap 0 = 0 := rfl
 have hw1 : IntKind.i64.wrap 1 = 1 := rfl
 have hw2 : IntKind.i64.wrap 2 = 2 := rfl
 have hw3 : IntKind.i64.wrap 3 = 3 := rfl
 have HV0 := hID hv
 obtain ⟨b, o, c, rfl, hc⟩ := hv.cellsT (by decide)
 have HV := HV0
 have HC := hID hc
 clear hc hv HV0
 obtain ⟨i_int, h_int, z_int, s_int, b_int⟩ := info_parts Tryz.infoI'
 go_enter Tryz.func59, Tryz.ntmps59
 go_wp2_with fail
 have HB0 : Hid (Blk (w.alloc (.cells #[.int .i64 1, .slice (some ⟨b, o, none⟩) 2 c] 62)) w.heap.size 62 #[.int .i64 1, .slice (some ⟨b, o, none⟩) 2 c] ∧ Off Nob w (w.alloc (.cells #[.int .i64 1, .slice (some ⟨b, o, none⟩) 2 c] 62))) := hID ⟨Blk.new _ _ _, Off.alloc (Off.refl _ _) _⟩
 revert HB0
 generalize (w.alloc (.cells #[.int .i64 1, .slice (some ⟨b, o, none⟩) 2 c] 62)) = w0
 intro HB0
 have GC : Hid (∀ W, Off Nob w0 W → W.cell? ⟨w.heap.size, 0, none⟩ = some (.int .i64 1) ∧ W.cell? ⟨w.heap.size, 1, none⟩ = some (.slice (some ⟨b, o, none⟩) 2 c) ∧ W.cell? ⟨b, o, none⟩ = some (.int .i64 0) ∧ W.cell? ⟨b, o + 1, none⟩ = some (.int .i64 0) ∧ W.cell? ⟨b, o + 2, none⟩ = some (.int .i64 2) ∧ W.cell? ⟨b, o + 3, none⟩ = some (.int .i64 1) ∧ W.cell? ⟨b, o + 4, none⟩ = some (.int .i64 2) ∧ W.cell? ⟨b, o + 5, none⟩ = some (.int .i64 1)) := hID (fun W ho => by
  have h := HB0.out.1.to (ho.block _ HB0.out.1.lt (fun h => h))
  have k := HC.out W (HB0.out.2.also ho)
  exact ⟨h.cell 0, h.cell 1, k 0 _ rfl, k 1 _ rfl, k 2 _ rfl, k 3 _ rfl, k 4 _ rfl, k 5 _ rfl⟩)
 have X0 : Hid (Off Nob w0 w0) := hID (Off.refl _ _)
 obtain ⟨t0, t1, c0, c1, c2, c3, c4, c5⟩ := GC.out _ X0.out
 go_wp2_with fail
 refine (co_lrules _ _ (HV.out.keepT HB0.out.2)).mono ?_
 rintro e w1 ⟨rfl, o1⟩
 have X1 := hID (X0.out.also o1)
 clear o1 X0
 clear t0 t1 c0 c1 c2 c3 c4 c5
 obtain ⟨t0, t1, c0, c1, c2, c3, c4, c5⟩ := GC.out _ X1.out
 go_wp2_with fail
 refine wp_loop_rounds 3 ?_
 rw [rounds_succ]
 clear t0 t1 c0 c1 c2 c3 c4 c5
 obtain ⟨t0, t1, c0, c1, c2, c3, c4, c5⟩ := GC.out _ X1.out
 go_wp2_with fail
 refine wp_region_held_drew (S := fun W => W.cell? ⟨w.heap.size, 1, none⟩ = some (.slice (some ⟨b, o, none⟩) 2 c) ∧ W.cell? ⟨b, o + 1, none⟩ = some (.int .i64 0) ∧ W.cell? ⟨b, o + 2, none⟩ = some (.int .i64 2)) (by kernel_rfl) ⟨t1, c1, c2⟩ (fun hHeld => ?_)
 refine wpAnyH_take (i := 0) (v := ?v0) rfl (by kernel_rfl) (by kernel_rfl) (by kernel_rfl) (fun _ _ _ h => h) (Or.inl ⟨by rfl, ?h0⟩) (by assumption) ?r0
 case h0 => (intro w hSw; (try dsimp only at hSw); go_simp <;> with_reducible rfl)
 try simp only [Act.put, qL1, qL2, qL3, qL4, qL5, qL6]
 refine wpAnyH_take (i := 1) (v := ?v1) rfl (by kernel_rfl) (by kernel_rfl) (by kernel_rfl) (fun _ _ _ h => h) (Or.inl ⟨by rfl, ?h1⟩) (by assumption) ?r1
 case h1 => (intro w hSw; (try dsimp only at hSw); go_simp <;> with_reducible rfl)
 try simp only [Act.put, qL1, qL2, qL3, qL4, qL5, qL6]
 refine wpAnyH_take (i := 2) (v := ?v2) rfl (by kernel_rfl) (by kernel_rfl) (by kernel_rfl) (fun _ _ _ h => h) (Or.inl ⟨by rfl, ?h2⟩) (by assumption) ?r2
 case h2 => (intro w hSw; (try dsimp only at hSw); go_simp <;> with_reducible rfl)
 try simp only [Act.put, qL1, qL2, qL3, qL4, qL5, qL6]
 refine wpAnyH_take (i := 3) (v := ?v3) rfl (by kernel_rfl) (by kernel_rfl) (by kernel_rfl) (fun _ _ _ h => h) (Or.inl ⟨by rfl, ?h3⟩) (by assumption) ?r3
 case h3 => (intro w hSw; (try dsimp only at hSw); go_simp <;> with_reducible rfl)
 try simp only [Act.put, qL1, qL2, qL3, qL4, qL5, qL6]
 refine wpAnyH_take (i := 4) (v := ?v4) rfl (by kernel_rfl) (by kernel_rfl) (by kernel_rfl) (fun _ _ _ h => h) (Or.inl ⟨by rfl, ?h4⟩) (by assumption) ?r4
 case h4 => (intro w hSw; (try dsimp only at hSw); go_simp <;> with_reducible rfl)
 try simp only [Act.put, qL1, qL2, qL3, qL4, qL5, qL6]
 refine wpAnyH_take (i := 5) (v := ?v5) rfl (by kernel_rfl) (by kernel_rfl) (by kernel_rfl) (fun _ _ _ h => h) (Or.inl ⟨by rfl, ?h5⟩) (by assumption) ?r5
 case h5 => (intro w hSw; (try dsimp only at hSw); go_simp <;> with_reducible rfl)
 try simp only [Act.put, qL1, qL2, qL3, qL4, qL5, qL6]
 refine wpAnyH_take (i := 6) (v := ?v6) rfl (by kernel_rfl) (by kernel_rfl) (by kernel_rfl) (fun _ _ _ h => h) (Or.inl ⟨by rfl, ?h6⟩) (by assumption) ?r6
 case h6 => (intro w hSw; (try dsimp only at hSw); go_simp <;> with_reducible rfl)
 try simp only [Act.put, qL1, qL2, qL3, qL4, qL5, qL6]
 refine wpAnyH_take (i := 7) (v := ?v7) rfl (by kernel_rfl) (by kernel_rfl) (by kernel_rfl) (fun _ _ _ h => h) (Or.inl ⟨by rfl, ?h7⟩) (by assumption) ?r7
 case h7 => (intro w hSw; (try dsimp only at hSw); go_simp <;> with_reducible rfl)
 try simp only [Act.put, qL1, qL2, qL3, qL4, qL5, qL6]
 refine wpAnyH_take (i := 8) (v := ?v8) rfl (by kernel_rfl) (by kernel_rfl) (by kernel_rfl) (fun _ _ _ h => h) (Or.inl ⟨by rfl, ?h8⟩) (by assumption) ?r8
 case h8 => (intro w hSw; (try dsimp only at hSw); go_simp <;> with_reducible rfl)
 try simp only [Act.put, qL1, qL2, qL3, qL4, qL5, qL6]
 refine wpAnyH_take (i := 9) (v := ?v9) rfl (by kernel_rfl) (by kernel_rfl) (by kernel_rfl) (fun _ _ _ h => h) (Or.inl ⟨by rfl, ?h9⟩) (by assumption) ?r9
 case h9 => (intro w hSw; (try dsimp only at hSw); go_simp <;> with_reducible rfl)
 try simp only [Act.put, qL1, qL2, qL3, qL4, qL5, qL6]
 refine wpAnyH_take (i := 10) (v := ?v10) rfl (by kernel_rfl) (by kernel_rfl) (by kernel_rfl) (fun _ _ _ h => h) (Or.inl ⟨by rfl, ?h10⟩) (by assumption) ?r10
 case h10 => (intro w hSw; (try dsimp only at hSw); go_simp <;> with_reducible rfl)
 try simp only [Act.put, qL1, qL2, qL3, qL4, qL5, qL6]
 refine wpAnyH_take (i := 11) (v := ?v11) rfl (by kernel_rfl) (by kernel_rfl) (by kernel_rfl) (fun _ _ _ h => h) (Or.inl ⟨by rfl, ?h11⟩) (by assumption) ?r11
 case h11 => (intro w hSw; (try dsimp only at hSw); go_simp <;> with_reducible rfl)
 try simp only [Act.put, qL1, qL2, qL3, qL4, qL5, qL6]
 refine wpAnyH_take (i := 12) (v := ?v12) rfl (by kernel_rfl) (by kernel_rfl) (by kernel_rfl) (fun _ _ _ h => h) (Or.inl ⟨by rfl, ?h12⟩) (by assumption) ?r12
 case h12 => (intro w hSw; (try dsimp only at hSw); go_simp <;> with_reducible rfl)
 try simp only [Act.put, qL1, qL2, qL3, qL4, qL5, qL6]
 refine wpAnyH_take (i := 13) (v := ?v13) rfl (by kernel_rfl) (by kernel_rfl) (by kernel_rfl) (fun _ _ _ h => h) (Or.inl ⟨by rfl, ?h13⟩) (by assumption) ?r13
 case h13 => (intro w hSw; (try dsimp only at hSw); go_simp <;> with_reducible rfl)
 try simp only [Act.put, qL1, qL2, qL3, qL4, qL5, qL6]
 refine wpAnyH_take (i := 14) (v := ?v14) rfl (by kernel_rfl) (by kernel_rfl) (by kernel_rfl) (fun _ _ _ h => h) (Or.inl ⟨by rfl, ?h14⟩) (by assumption) ?r14
 case h14 => (intro w hSw; (try dsimp only at hSw); go_simp <;> with_reducible rfl)
 try simp only [Act.put, qL1, qL2, qL3, qL4, qL5, qL6]
 refine wpAnyH_ready (rs := [15]) (by kernel_rfl) (by simp) ?_
 refine AllReadyH.cons rfl (fun K hK => ?s15) ?m15
 case s15 =>
  go_simp
  refine hK.out _ _ ?_ (fun hHeld => ?_)
  ·first | (simp; exact ⟨t1, c1, c2⟩) | go_keep
  clear hK K
  try simp only [Act.put, qL1, qL2, qL3, qL4, qL5, qL6]
  refine wpAnyH_ready (rs := [16]) (by kernel_rfl) (by simp) ?_
  refine AllReadyH.cons rfl (fun K hK => ?s16) ?m16
  case s16 =>
   refine wp_append_lies _ _ _ 22 rfl w0.heap.size 3 i_int (.int .i64 0) 1 8 Tryz.underlying22 h_int z_int s_int b_int rfl (by decide) (.slice none 0 0) 0 [] rfl ((OwnL.nilAt X1.out.drew 3 1).1.alloc _) ⟨w1.heap.size, 0, none⟩ 1 1 [.int .i64 1] rfl rfl ?c1 (by decide) (by decide) (by decide) (by decide) (by have := X1.out.size; simp; omega) _ rfl ?_
   case c1 => exact cell_one w1.drew (.int .i64 1) 3
   intro g cap w2 hown hgrow hat hlt
   have OW2 := hID ((OwnL.nilAt X1.out.drew 3 1).grown (Off.alloc (Off.refl Nob w1.drew) (.cells #[.int .i64 1] 3)) hown hgrow)
   have X2 := hID OW2.out.2
   have kq := GC.out _ X2.out
   clear hown hgrow hat hlt X1
   refine hK.out _ _ ?_ (fun hHeld => ?_)
   ·first | exact ⟨kq.2.1, kq.2.2.2.1, kq.2.2.2.2.1⟩ | go_keep
   clear hK K
   try simp only [Act.put, qL1, qL2, qL3, qL4, qL5, qL6]
   refine wpAnyH_take (i := 17) (v := ?v17) rfl (by kernel_rfl) (by kernel_rfl) (by kernel_rfl) (fun _ _ _ h => h) (Or.inl ⟨by rfl, ?h17⟩) (by assumption) ?r17
   case h17 => (intro w hSw; (try dsimp only at hSw); go_simp <;> with_reducible rfl)
   try simp only [Act.put, qL1, qL2, qL3, qL4, qL5, qL6]
   refine wpAnyH_done (by kernel_rfl) ?_ _
   clear hHeld kq t0 t1 c0 c1 c2 c3 c4 c5
   obtain ⟨t0, t1, c0, c1, c2, c3, c4, c5⟩ := GC.out _ X2.out
   go_wp2_with fail
   rw [rounds_succ]
   clear t0 t1 c0 c1 c2 c3 c4 c5
   obtain ⟨t0, t1, c0, c1, c2, c3, c4, c5⟩ := GC.out _ X2.out
   go_wp2_with fail
   rw [rounds_succ]
   clear t0 t1 c0 c1 c2 c3 c4 c5
   obtain ⟨t0, t1, c0, c1, c2, c3, c4, c5⟩ := GC.out _ X2.out
   go_wp2_with fail
   refine (co_rof_1 _ _ OW2.out.rd).mono ?_
   rintro e w3 ⟨u, rfl, hr, o1⟩
   have X3 := hID (X2.out.also o1)
   obtain ⟨hr, o1⟩ := id (And.intro hr o1)
   have HR := hID (Rd.mono hr (G := fun k => w.heap.size ≤ k) (fun k hk => Nat.le_trans (HB0.out.2.also X2.out).size hk))
   clear hr
   clear o1 X2
   clear t0 t1 c0 c1 c2 c3 c4 c5
   obtain ⟨t0, t1, c0, c1, c2, c3, c4, c5⟩ := GC.out _ X3.out
   go_wp2_with fail
   go_ret2
   exact ⟨_, rfl, HR.out, HB0.out.2.also X3.out⟩
  exact AllReadyH.nil
 exact AllReadyH.nil
set_option maxHeartbeats 4000000 in
theorem co_lends1 (w : World) (v : Value) (hv : Rd w (fun _ => True) 3 v 2 ln_ab) : Calls Tryz.prog 59 #[.agg #[.int .i64 1, v], .int .i64 1] w (fun e w' => ∃ u, e = .returned (.tuple #[u, .int .i64 0]) ∧ Rd w' (fun k => w.heap.size ≤ k) 1 u 1 [.int .u64 4] ∧ Off Nob w w') := by
 have hw0 : IntKind.i64.wrap 0 = 0 := rfl
 have hw1 : IntKind.i64.wrap 1 = 1 := rfl
 have hw2 : IntKind.i64.wrap 2 = 2 := rfl
 have hw3 : IntKind.i64.wrap 3 = 3 := rfl
 have HV0 := hID hv
 obtain ⟨b, o, c, rfl, hc⟩ := hv.cellsT (by decide)
 have HV := HV0
 have HC := hID hc
 clear hc hv HV0
 obtain ⟨i_int, h_int, z_int, s_int, b_int⟩ := info_parts Tryz.infoI'
 go_enter Tryz.func59, Tryz.ntmps59
 go_wp2_with fail
 have HB0 : Hid (Blk (w.alloc (.cells #[.int .i64 1, .slice (some ⟨b, o, none⟩) 2 c] 62)) w.heap.size 62 #[.int .i64 1, .slice (some ⟨b, o, none⟩) 2 c] ∧ Off Nob w (w.alloc (.cells #[.int .i64 1, .slice (some ⟨b, o, none⟩) 2 c] 62))) := hID ⟨Blk.new _ _ _, Off.alloc (Off.refl _ _) _⟩
 revert HB0
 generalize (w.alloc (.cells #[.int .i64 1, .slice (some ⟨b, o, none⟩) 2 c] 62)) = w0
 intro HB0
 have GC : Hid (∀ W, Off Nob w0 W → W.cell? ⟨w.heap.size, 0, none⟩ = some (.int .i64 1) ∧ W.cell? ⟨w.heap.size, 1, none⟩ = some (.slice (some ⟨b, o, none⟩) 2 c) ∧ W.cell? ⟨b, o, none⟩ = some (.int .i64 0) ∧ W.cell? ⟨b, o + 1, none⟩ = some (.int .i64 0) ∧ W.cell? ⟨b, o + 2, none⟩ = some (.int .i64 2) ∧ W.cell? ⟨b, o + 3, none⟩ = some (.int .i64 1) ∧ W.cell? ⟨b, o + 4, none⟩ = some (.int .i64 2) ∧ W.cell? ⟨b, o + 5, none⟩ = some (.int .i64 1)) := hID (fun W ho => by
  have h := HB0.out.1.to (ho.block _ HB0.out.1.lt (fun h => h))
  have k := HC.out W (HB0.out.2.also ho)
  exact ⟨h.cell 0, h.cell 1, k 0 _ rfl, k 1 _ rfl, k 2 _ rfl, k 3 _ rfl, k 4 _ rfl, k 5 _ rfl⟩)
 have X0 : Hid (Off Nob w0 w0) := hID (Off.refl _ _)
 obtain ⟨t0, t1, c0, c1, c2, c3, c4, c5⟩ := GC.out _ X0.out
 go_wp2_with fail
 refine (co_lrules _ _ (HV.out.keepT HB0.out.2)).mono ?_
 rintro e w1 ⟨rfl, o1⟩
 have X1 := hID (X0.out.also o1)
 clear o1 X0
 clear t0 t1 c0 c1 c2 c3 c4 c5
 obtain ⟨t0, t1, c0, c1, c2, c3, c4, c5⟩ := GC.out _ X1.out
 go_wp2_with fail
 refine wp_loop_rounds 3 ?_
 rw [rounds_succ]
 clear t0 t1 c0 c1 c2 c3 c4 c5
 obtain ⟨t0, t1, c0, c1, c2, c3, c4, c5⟩ := GC.out _ X1.out
 go_wp2_with fail
 rw [rounds_succ]
 clear t0 t1 c0 c1 c2 c3 c4 c5
 obtain ⟨t0, t1, c0, c1, c2, c3, c4, c5⟩ := GC.out _ X1.out
 go_wp2_with fail
 refine wp_region_held_drew (S := fun W => W.cell? ⟨w.heap.size, 1, none⟩ = some (.slice (some ⟨b, o, none⟩) 2 c) ∧ W.cell? ⟨b, o + 4, none⟩ = some (.int .i64 2) ∧ W.cell? ⟨b, o + 5, none⟩ = some (.int .i64 1)) (by kernel_rfl) ⟨t1, c4, c5⟩ (fun hHeld => ?_)
 refine wpAnyH_take (i := 0) (v := ?v0) rfl (by kernel_rfl) (by kernel_rfl) (by kernel_rfl) (fun _ _ _ h => h) (Or.inl ⟨by rfl, ?h0⟩) (by assumption) ?r0
 case h0 => (intro w hSw; (try dsimp only at hSw); go_simp <;> with_reducible rfl)
 try simp only [Act.put, qL1, qL2, qL3, qL4, qL5, qL6]
 refine wpAnyH_take (i := 1) (v := ?v1) rfl (by kernel_rfl) (by kernel_rfl) (by kernel_rfl) (fun _ _ _ h => h) (Or.inl ⟨by rfl, ?h1⟩) (by assumption) ?r1
 case h1 => (intro w hSw; (try dsimp only at hSw); go_simp <;> with_reducible rfl)
 try simp only [Act.put, qL1, qL2, qL3, qL4, qL5, qL6]
 refine wpAnyH_take (i := 2) (v := ?v2) rfl (by kernel_rfl) (by kernel_rfl) (by kernel_rfl) (fun _ _ _ h => h) (Or.inl ⟨by rfl, ?h2⟩) (by assumption) ?r2
 case h2 => (intro w hSw; (try dsimp only at hSw); go_simp <;> with_reducible rfl)
 try simp only [Act.put, qL1, qL2, qL3, qL4, qL5, qL6]
 refine wpAnyH_take (i := 3) (v := ?v3) rfl (by kernel_rfl) (by kernel_rfl) (by kernel_rfl) (fun _ _ _ h => h) (Or.inl ⟨by rfl, ?h3⟩) (by assumption) ?r3
 case h3 => (intro w hSw; (try dsimp only at hSw); go_simp <;> with_reducible rfl)
 try simp only [Act.put, qL1, qL2, qL3, qL4, qL5, qL6]
 refine wpAnyH_take (i := 4) (v := ?v4) rfl (by kernel_rfl) (by kernel_rfl) (by kernel_rfl) (fun _ _ _ h => h) (Or.inl ⟨by rfl, ?h4⟩) (by assumption) ?r4
 case h4 => (intro w hSw; (try dsimp only at hSw); go_simp <;> with_reducible rfl)
 try simp only [Act.put, qL1, qL2, qL3, qL4, qL5, qL6]
 refine wpAnyH_take (i := 5) (v := ?v5) rfl (by kernel_rfl) (by kernel_rfl) (by kernel_rfl) (fun _ _ _ h => h) (Or.inl ⟨by rfl, ?h5⟩) (by assumption) ?r5
 case h5 => (intro w hSw; (try dsimp only at hSw); go_simp <;> with_reducible rfl)
 try simp only [Act.put, qL1, qL2, qL3, qL4, qL5, qL6]
 refine wpAnyH_take (i := 6) (v := ?v6) rfl (by kernel_rfl) (by kernel_rfl) (by kernel_rfl) (fun _ _ _ h => h) (Or.inl ⟨by rfl, ?h6⟩) (by assumption) ?r6
 case h6 => (intro w hSw; (try dsimp only at hSw); go_simp <;> with_reducible rfl)
 try simp only [Act.put, qL1, qL2, qL3, qL4, qL5, qL6]
 refine wpAnyH_take (i := 7) (v := ?v7) rfl (by kernel_rfl) (by kernel_rfl) (by kernel_rfl) (fun _ _ _ h => h) (Or.inl ⟨by rfl, ?h7⟩) (by assumption) ?r7
 case h7 => (intro w hSw; (try dsimp only at hSw); go_simp <;> with_reducible rfl)
 try simp only [Act.put, qL1, qL2, qL3, qL4, qL5, qL6]
 refine wpAnyH_take (i := 8) (v := ?v8) rfl (by kernel_rfl) (by kernel_rfl) (by kernel_rfl) (fun _ _ _ h => h) (Or.inl ⟨by rfl, ?h8⟩) (by assumption) ?r8
 case h8 => (intro w hSw; (try dsimp only at hSw); go_simp <;> with_reducible rfl)
 try simp only [Act.put, qL1, qL2, qL3, qL4, qL5, qL6]
 refine wpAnyH_take (i := 9) (v := ?v9) rfl (by kernel_rfl) (by kernel_rfl) (by kernel_rfl) (fun _ _ _ h => h) (Or.inl ⟨by rfl, ?h9⟩) (by assumption) ?r9
 case h9 => (intro w hSw; (try dsimp only at hSw); go_simp <;> with_reducible rfl)
 try simp only [Act.put, qL1, qL2, qL3, qL4, qL5, qL6]
 refine wpAnyH_take (i := 10) (v := ?v10) rfl (by kernel_rfl) (by kernel_rfl) (by kernel_rfl) (fun _ _ _ h => h) (Or.inl ⟨by rfl, ?h10⟩) (by assumption) ?r10
 case h10 => (intro w hSw; (try dsimp only at hSw); go_simp <;> with_reducible rfl)
 try simp only [Act.put, qL1, qL2, qL3, qL4, qL5, qL6]
 refine wpAnyH_take (i := 11) (v := ?v11) rfl (by kernel_rfl) (by kernel_rfl) (by kernel_rfl) (fun _ _ _ h => h) (Or.inl ⟨by rfl, ?h11⟩) (by assumption) ?r11
 case h11 => (intro w hSw; (try dsimp only at hSw); go_simp <;> with_reducible rfl)
 try simp only [Act.put, qL1, qL2, qL3, qL4, qL5, qL6]
 refine wpAnyH_take (i := 12) (v := ?v12) rfl (by kernel_rfl) (by kernel_rfl) (by kernel_rfl) (fun _ _ _ h => h) (Or.inl ⟨by rfl, ?h12⟩) (by assumption) ?r12
 case h12 => (intro w hSw; (try dsimp only at hSw); go_simp <;> with_reducible rfl)
 try simp only [Act.put, qL1, qL2, qL3, qL4, qL5, qL6]
 refine wpAnyH_take (i := 13) (v := ?v13) rfl (by kernel_rfl) (by kernel_rfl) (by kernel_rfl) (fun _ _ _ h => h) (Or.inl ⟨by rfl, ?h13⟩) (by assumption) ?r13
 case h13 => (intro w hSw; (try dsimp only at hSw); go_simp <;> with_reducible rfl)
 try simp only [Act.put, qL1, qL2, qL3, qL4, qL5, qL6]
 refine wpAnyH_take (i := 14) (v := ?v14) rfl (by kernel_rfl) (by kernel_rfl) (by kernel_rfl) (fun _ _ _ h => h) (Or.inl ⟨by rfl, ?h14⟩) (by assumption) ?r14
 case h14 => (intro w hSw; (try dsimp only at hSw); go_simp <;> with_reducible rfl)
 try simp only [Act.put, qL1, qL2, qL3, qL4, qL5, qL6]
 refine wpAnyH_ready (rs := [15]) (by kernel_rfl) (by simp) ?_
 refine AllReadyH.cons rfl (fun K hK => ?s15) ?m15
 case s15 =>
  go_simp
  refine hK.out _ _ ?_ (fun hHeld => ?_)
  ·first | (simp; exact ⟨t1, c4, c5⟩) | go_keep
  clear hK K
  try simp only [Act.put, qL1, qL2, qL3, qL4, qL5, qL6]
  refine wpAnyH_ready (rs := [16]) (by kernel_rfl) (by simp) ?_
  refine AllReadyH.cons rfl (fun K hK => ?s16) ?m16
  case s16 =>
   refine wp_append_lies _ _ _ 22 rfl w0.heap.size 3 i_int (.int .i64 0) 1 8 Tryz.underlying22 h_int z_int s_int b_int rfl (by decide) (.slice none 0 0) 0 [] rfl ((OwnL.nilAt X1.out.drew 3 1).1.alloc _) ⟨w1.heap.size, 0, none⟩ 1 1 [.int .i64 2] rfl rfl ?c1 (by decide) (by decide) (by decide) (by decide) (by have := X1.out.size; simp; omega) _ rfl ?_
   case c1 => exact cell_one w1.drew (.int .i64 2) 3
   intro g cap w2 hown hgrow hat hlt
   have OW2 := hID ((OwnL.nilAt X1.out.drew 3 1).grown (Off.alloc (Off.refl Nob w1.drew) (.cells #[.int .i64 2] 3)) hown hgrow)
   have X2 := hID OW2.out.2
   have kq := GC.out _ X2.out
   clear hown hgrow hat hlt X1
   refine hK.out _ _ ?_ (fun hHeld => ?_)
   ·first | exact ⟨kq.2.1, kq.2.2.2.2.2.2.1, kq.2.2.2.2.2.2.2⟩ | go_keep
   clear hK K
   try simp only [Act.put, qL1, qL2, qL3, qL4, qL5, qL6]
   refine wpAnyH_take (i := 17) (v := ?v17) rfl (by kernel_rfl) (by kernel_rfl) (by kernel_rfl) (fun _ _ _ h => h) (Or.inl ⟨by rfl, ?h17⟩) (by assumption) ?r17
   case h17 => (intro w hSw; (try dsimp only at hSw); go_simp <;> with_reducible rfl)
   try simp only [Act.put, qL1, qL2, qL3, qL4, qL5, qL6]
   refine wpAnyH_done (by kernel_rfl) ?_ _
   clear hHeld kq t0 t1 c0 c1 c2 c3 c4 c5
   obtain ⟨t0, t1, c0, c1, c2, c3, c4, c5⟩ := GC.out _ X2.out
   go_wp2_with fail
   rw [rounds_succ]
   clear t0 t1 c0 c1 c2 c3 c4 c5
   obtain ⟨t0, t1, c0, c1, c2, c3, c4, c5⟩ := GC.out _ X2.out
   go_wp2_with fail
   refine (co_rof_2 _ _ OW2.out.rd).mono ?_
   rintro e w3 ⟨u, rfl, hr, o1⟩
   have X3 := hID (X2.out.also o1)
   obtain ⟨hr, o1⟩ := id (And.intro hr o1)
   have HR := hID (Rd.mono hr (G := fun k => w.heap.size ≤ k) (fun k hk => Nat.le_trans (HB0.out.2.also X2.out).size hk))
   clear hr
   clear o1 X2
   clear t0 t1 c0 c1 c2 c3 c4 c5
   obtain ⟨t0, t1, c0, c1, c2, c3, c4, c5⟩ := GC.out _ X3.out
   go_wp2_with fail
   go_ret2
   exact ⟨_, rfl, HR.out, HB0.out.2.also X3.out⟩
  exact AllReadyH.nil
 exact AllReadyH.nil
end Go.Proofs.YtlgjaefcfnndhaaGreatDoor

namespace Go.Proofs.YtlgjaefcfnndhaaGreatDoor
open Go.RowKit
set_option maxRecDepth 100000
end Go.Proofs.YtlgjaefcfnndhaaGreatDoor

namespace Go.Proofs.YtlgjaefcfnndhaaGreatDoor
open Go.RowKit
set_option maxRecDepth 100000
def Asc (xs : List Int) : Prop := ∀ j, j + 1 < xs.length → xs.getD j 0 < xs.getD (j + 1) 0
theorem tnamed (xs : List Int) (hx : ∀ x ∈ xs, 1 ≤ x ∧ x ≤ 1000) (hn : xs.length ≤ 1024) (w : World) (v : Value) (hv : Rd w (fun _ => True) 1 v xs.length (xs.map (Value.int .i64))) : Calls Tryz.prog 74 #[v] w fun e w' => (∃ i m, e = .returned (.tuple #[.int .i64 i, .int .i64 m]) ∧ (Asc xs ∧ m = 0 ∨ ¬ Asc xs ∧ m = 6)) ∧ w = w' := by
 have HV := hID hv
 have HC : Hid (∀ k, k < xs.length → ∃ a, v = a ∧ True) := hID (fun _ _ => ⟨v, rfl, trivial⟩)
 clear HC
 have hform : ∃ A c, v = .slice A xs.length c := by
  obtain ⟨A, c, rfl, _⟩ := hv.form
  exact ⟨A, c, rfl⟩
 obtain ⟨A, c, rfl⟩ := hform
 have HC : Hid (∀ k, k < xs.length → ∃ b o, A = some ⟨b, o, none⟩ ∧ ∀ j, j < xs.length → w.cell? ⟨b, o + j, none⟩ = some (.int .i64 (xs.getD j 0))) := hID (fun k hk => by
  obtain ⟨b, o, c2, he, hc⟩ := hv.cellsT (by omega)
  injection he with h1 h2 h3
  exact ⟨b, o, h1, fun j hj => hc w (Off.refl _ _) j _ (by simp [List.getD_eq_getElem?_getD, List.getElem?_eq_getElem hj])⟩)
 clear hv HV
 have HX : Hid (∀ k, k < xs.length → 1 ≤ xs.getD k 0 ∧ xs.getD k 0 ≤ 1000) := hID (fun k hk => by rw [List.getD_eq_getElem?_getD, List.getElem?_eq_getElem hk]; exact hx _ (List.getElem_mem hk))
 clear hx
 go_enter Tryz.func74, Tryz.ntmps74
 go_wp2_with fail
 go_loopw [8] (fun p wr => ∃ k : Nat, p = .int .i64 (k : Int) ∧ k ≤ xs.length ∧ (∀ j, j + 1 < k → xs.getD j 0 < xs.getD (j + 1) 0) ∧ wr = w) (fun p wr => xs.length - (intOf p).toNat)
 case atStart => exact ⟨0, rfl, Nat.zero_le _, fun j hj => by omega, rfl⟩
 case round =>
  obtain ⟨k, rfl, hk, hall, rfl⟩ := hrel
  have HA := hID hall
  clear hall
  by_cases hlt : k < xs.length
  ·have d1 : decide ((k : Int) < (xs.length : Int)) = true := decide_eq_true (by omega)
   obtain ⟨b, o, rfl, hc⟩ := HC.out k hlt
   have ck := hc k hlt
   obtain ⟨y, hy⟩ : ∃ y, xs.getD k 0 = y := ⟨_, rfl⟩
   have hyb := HX.out k hlt
   have HY := hID hy
   rw [hy] at ck hyb
   have d2 : decide (y < 1) = false := decide_eq_false (by omega)
   have d3 : decide (1000 < y) = false := decide_eq_false (by omega)
   by_cases hk0 : k = 0
   ·subst hk0
    clear hy hyb hc
    rw [Nat.add_zero] at ck
    go_wp2_with fail
    go_roundw
    case rel => exact ⟨1, rfl, by omega, fun j hj => by omega, trivial⟩
    case measure => simp [intOf]; omega
   ·have d4 : decide ((0 : Int) < (k : Int)) = true := decide_eq_true (by omega)
    have cp := hc (k - 1) (by omega)
    obtain ⟨z, hz⟩ : ∃ z, xs.getD (k - 1) 0 = z := ⟨_, rfl⟩
    have HZ := hID hz
    rw [hz] at cp
    have hkk : ((k - 1 : Nat) : Int) = (k : Int) - 1 := by omega
    have HKK := hID hkk
    by_cases hyz : y ≤ z
    ·have d5 : decide (y ≤ z) = true := decide_eq_true hyz
     clear hy hyb hc hz
     go_wp2_with fail
     go_ret2
     refine ⟨⟨_, _, rfl, .inr ⟨fun h => ?_, rfl⟩⟩, rfl⟩
     have := h (k - 1) (by omega)
     rw [HZ.out, show k - 1 + 1 = k by omega, HY.out] at this
     omega
    ·have d5 : decide (y ≤ z) = false := decide_eq_false hyz
     clear hy hyb hc hz
     go_wp2_with fail
     go_roundw
     case rel =>
      refine ⟨k + 1, by go_num, by omega, fun j hj => ?_, trivial⟩
      by_cases hj2 : j + 1 < k
      ·exact HA.out j hj2
      ·obtain rfl : j = k - 1 := by omega
       rw [HZ.out, show k - 1 + 1 = k by omega, HY.out]
       omega
     case measure => simp [intOf]; omega
  ·obtain rfl : k = xs.length := by omega
   have d1 : decide ((xs.length : Int) < (xs.length : Int)) = false := decide_eq_false (by omega)
   go_wp2_with fail
   go_ret2
   exact ⟨⟨_, _, rfl, .inl ⟨HA.out, rfl⟩⟩, rfl⟩
end Go.Proofs.YtlgjaefcfnndhaaGreatDoor

namespace Go.Proofs.YtlgjaefcfnndhaaGreatDoor
open Go.RowKit
set_option maxRecDepth 100000
theorem results_cell_row_tmp2 {P : Program} {fn : Func} {p u u2 : Tmp} {ty : TypeId} (h : fn.results = #[.cell p ty, .tmp u, .tmp u2]) (tmps : Array Value) (w : World) (g : Nat) (t : TypeId) (cs : Array Value) (fr : Nat × Nat) (d : TypeDesc)
  (hp : tmps.getD p undef = .pointer (some ⟨g, 0, none⟩)) (hg : w.heap[g]? = some (.cells cs t fr)) (hu : P.underlying ty = some d) (hd : (match d with | .struct _ | .array _ _ => true | _ => false) = true) (hi : (P.info? ty).map (·.size) = some cs.size) :
  (results fn tmps).run P w = .ok (.tuple #[.agg cs, tmps.getD u undef, tmps.getD u2 undef]) w := by
 have hp' : tmps[p]?.getD undef = .pointer (some ⟨g, 0, none⟩) := by simpa using hp
 simp [results, h, hp', asAddr, run_loadVar_row w g t ty cs fr d hg hu hd hi, Sem.run_bind, Result.andThen]
theorem own_ne {w : World} {base : Nat} {e t : TypeId} {size n g c b : Nat} {xs : List Value} {cs : Array Value} (h : w.ownsRow base e size (.slice (some ⟨g, 0, none⟩) n c) n xs) (hb : Blk w b t cs) (ne : t ≠ e) : g ≠ b := by
 rcases h.2 with ⟨hx, _⟩ | ⟨g', cap, cur, hv, _, hh, _⟩
 ·cases hx
 ·injection hv with hv1
  injection hv1 with hv1
  injection hv1 with hv1
  subst hv1
  rintro rfl
  unfold Blk at hb
  rw [hb] at hh
  injection hh with hh
  injection hh with _ hh
  exact ne hh
theorem Tryz.infoLp : (Tryz.prog.info? 62).map (·.size) = some 2 := by kernel_rfl
set_option maxHeartbeats 16000000 in
theorem co_pack (w : World) (v l0 l1 : Value) (A0 A1 : Option Addr) (k0 k1 : Nat) (hv : Rd w (fun _ => True) 1 v 2 [l0, l1]) (h0 : Rd w (fun _ => True) 1 l0 1 [.slice A0 2 k0]) (h1 : Rd w (fun _ => True) 1 l1 1 [.slice A1 1 k1]) :
  Calls Tryz.prog 57 #[v] w (fun e w' => ∃ u, e = .returned (.tuple #[.agg #[.int .i64 1, u], .int .i64 0, .int .i64 0]) ∧ Rd w' (fun _ => True) 3 u 2 ln_ab ∧ Off Nob w w') := by
 obtain ⟨i_lane, h_lane, z_lane, s_lane, b_lane⟩ := info_parts Tryz.infoLa
 obtain ⟨b, o, c, rfl, hc⟩ := hv.cellsT (by decide)
 obtain ⟨b0, o0, c0, rfl, hc0⟩ := h0.cellsT (by decide)
 obtain ⟨b1, o1, c1, rfl, hc1⟩ := h1.cellsT (by decide)
 have GL : Hid (∀ W, Off Nob w W → W.cell? ⟨b, o, none⟩ = some (.slice (some ⟨b0, o0, none⟩) 1 c0) ∧ W.cell? ⟨b, o + 1, none⟩ = some (.slice (some ⟨b1, o1, none⟩) 1 c1) ∧ W.cell? ⟨b0, o0, none⟩ = some (.slice A0 2 k0) ∧ W.cell? ⟨b1, o1, none⟩ = some (.slice A1 1 k1)) := hID (fun W ho => ⟨hc W ho 0 _ rfl, hc W ho 1 _ rfl, hc0 W ho 0 _ rfl, hc1 W ho 0 _ rfl⟩)
 clear hc hc0 hc1 hv h0 h1
 have FZ : Hid (True) := hID trivial
 go_enter Tryz.func57, Tryz.ntmps57
 go_wp2_with fail
 have X0 : Hid (Off Nob w (((w.alloc (.cells #[.int .i64 0, .slice none 0 0] 62)).alloc (.cells #[.int .i64 0, .slice none 0 0] 62)).alloc (.cells #[.int .i64 0, .slice none 0 0] 62))) := hID (Off.alloc (Off.alloc (Off.alloc (Off.refl _ _) _) _) _)
 have B0 : Hid (Blk (((w.alloc (.cells #[.int .i64 0, .slice none 0 0] 62)).alloc (.cells #[.int .i64 0, .slice none 0 0] 62)).alloc (.cells #[.int .i64 0, .slice none 0 0] 62)) (w.heap.size + 2) 62 #[.int .i64 0, .slice none 0 0]) := hID (by have := Blk.new ((w.alloc (.cells #[.int .i64 0, .slice none 0 0] 62)).alloc (.cells #[.int .i64 0, .slice none 0 0] 62)) 62 #[.int .i64 0, .slice none 0 0]; simpa using this)
 have BR0 : Hid (Blk (((w.alloc (.cells #[.int .i64 0, .slice none 0 0] 62)).alloc (.cells #[.int .i64 0, .slice none 0 0] 62)).alloc (.cells #[.int .i64 0, .slice none 0 0] 62)) w.heap.size 62 #[.int .i64 0, .slice none 0 0]) := hID (((Blk.new w 62 #[.int .i64 0, .slice none 0 0]).alloc _).alloc _)
 revert X0 B0 BR0
 generalize (((w.alloc (.cells #[.int .i64 0, .slice none 0 0] 62)).alloc (.cells #[.int .i64 0, .slice none 0 0] 62)).alloc (.cells #[.int .i64 0, .slice none 0 0] 62)) = w0
 intro X0 B0 BR0
 refine wp_loop_rounds 3 ?_
 rw [rounds_succ]
 obtain ⟨v0, v1, m0, m1⟩ := GL.out _ X0.out
 have p0 := B0.out.cell 0
 have p1 := B0.out.cell 1
 simp only [List.getElem?_toArray, List.getElem?_cons_succ, List.getElem?_cons_zero] at p0 p1
 go_wp2_with fail
 refine wp_loop_rounds 2 ?_
 rw [rounds_succ]
 go_wp2_with fail
 rw [rounds_succ]
 go_wp2_with fail
 refine wp_loop_rounds 2 ?_
 rw [rounds_succ]
 have f1 := FZ.out
 go_wp2_with (at_builtin; refine @wpList_append_lies _ _ _ _ _ _ _ rfl _ _ 39 rfl w.heap.size 43 i_lane (.agg #[.int .i64 0, .int .i64 0, .int .i64 0]) 3 24 Tryz.underlying39 h_lane z_lane s_lane b_lane rfl (by decide) (.slice none 0 0) (0) ([]) rfl ((OwnL.nilAt X0.out 43 3).1.alloc _) ⟨w0.heap.size, 0, none⟩ 1 1 [.int .i64 0, .int .i64 0, .int .i64 2] rfl rfl ?c1 (by decide) (by decide) (by decide) (by decide) (by have := X0.out.size; simp; omega) _ rfl ?_)
 case c1 => exact cell_lit _ [.int .i64 0, .int .i64 0, .int .i64 2] _
 intro g1 cap1 w5 hown hgrow hat hlt
 have OA := hID ((OwnL.nilAt X0.out 43 3).grown (Off.alloc (Off.refl Nob w0) (.cells #[.int .i64 0, .int .i64 0, .int .i64 2] 43)) hown hgrow)
 have BA : Hid (Blk w5 (w.heap.size + 2) 62 #[.int .i64 0, .slice none 0 0]) := hID (B0.out.to ((Off.grown (F := fun k => (.slice none 0 0 : Value).ownBlock = some k) (Off.alloc (Off.refl _ _) _) hgrow (fun k hk => .inl hk)).block _ B0.out.lt (fun h => by cases h)))
 have BR1 : Hid (Blk w5 w.heap.size 62 #[.int .i64 0, .slice none 0 0]) := hID (BR0.out.to ((Off.grown (F := fun k => (.slice none 0 0 : Value).ownBlock = some k) (Off.alloc (Off.refl _ _) _) hgrow (fun k hk => .inl hk)).block _ BR0.out.lt (fun h => by cases h)))
 have gne : g1 ≠ w.heap.size + 2 := own_ne OA.out.1 BA.out (by decide)
 have q0 := BA.out.cell 0
 have q1 := BA.out.cell 1
 simp only [List.getElem?_toArray, List.getElem?_cons_succ, List.getElem?_cons_zero] at q0 q1
 have fz0 := BA.out.frozen 0
 have fz1 := BA.out.frozen 1
 have XB : Hid (Off Nob w (w5.setCell ⟨w.heap.size + 2, 1, none⟩ (.slice (some ⟨g1, 0, none⟩) (0 + 1) cap1))) := hID (OA.out.2.put (.inr (Nat.le_add_right _ _)) _)
 have BB : Hid (Blk (w5.setCell ⟨w.heap.size + 2, 1, none⟩ (.slice (some ⟨g1, 0, none⟩) (0 + 1) cap1)) (w.heap.size + 2) 62 #[.int .i64 0, (.slice (some ⟨g1, 0, none⟩) (0 + 1) cap1)]) := hID (BA.out.put 1 _)
 have BC : Hid (Blk (w5.setCell ⟨w.heap.size + 2, 1, none⟩ (.slice (some ⟨g1, 0, none⟩) (0 + 1) cap1)) w.heap.size 62 #[.int .i64 0, .slice none 0 0]) := hID (BR1.out.far (p := ⟨w.heap.size + 2, 1, none⟩) (show w.heap.size ≠ w.heap.size + 2 by omega) _)
 have OB : Hid (OwnL w (w5.setCell ⟨w.heap.size + 2, 1, none⟩ (.slice (some ⟨g1, 0, none⟩) (0 + 1) cap1)) 43 3 (.slice (some ⟨g1, 0, none⟩) (0 + 1) cap1) (0 + 1) ([] ++ [.int .i64 0, .int .i64 0, .int .i64 2])) := hID ⟨own_to OA.out.1 (fun x hx => by
  have e : g1 = x := by simpa [Value.ownBlock] using hx
  subst e
  rw [Below.heap_setCell _ ⟨w.heap.size + 2, 1, none⟩ _ _ gne]), XB.out⟩
 clear hown hgrow hat hlt v0 v1 m0 m1 p0 p1 f1 X0 B0 BR0 OA BA gne
 skip
 go_wp2_with fail
 revert XB BB BC OB
 generalize w5.setCell ⟨w.heap.size + 2, 1, none⟩ (.slice (some ⟨g1, 0, none⟩) (0 + 1) cap1) = w10
 intro X1 B1 BC1 OW1
 clear BR1 q0 q1 fz0 fz1
 have BR1 := BC1
 clear BC1
 obtain ⟨v0, v1, m0, m1⟩ := GL.out _ X1.out
 have p0 := B1.out.cell 0
 have p1 := B1.out.cell 1
 simp only [List.getElem?_toArray, List.getElem?_cons_succ, List.getElem?_cons_zero] at p0 p1
 rw [rounds_succ]
 go_wp2_with fail
 rw [rounds_succ]
 clear v0 v1 m0 m1 p0 p1
 obtain ⟨v0, v1, m0, m1⟩ := GL.out _ X1.out
 have p0 := B1.out.cell 0
 have p1 := B1.out.cell 1
 simp only [List.getElem?_toArray, List.getElem?_cons_succ, List.getElem?_cons_zero] at p0 p1
 go_wp2_with fail
 refine wp_loop_rounds 2 ?_
 rw [rounds_succ]
 go_wp2_with fail
 rw [rounds_succ]
 go_wp2_with fail
 refine wp_loop_rounds 2 ?_
 rw [rounds_succ]
 have f1 := FZ.out
 go_wp2_with (at_builtin; refine @wpList_append_lies _ _ _ _ _ _ _ rfl _ _ 39 rfl w.heap.size 43 i_lane (.agg #[.int .i64 0, .int .i64 0, .int .i64 0]) 3 24 Tryz.underlying39 h_lane z_lane s_lane b_lane rfl (by decide) ((.slice (some ⟨g1, 0, none⟩) (0 + 1) cap1)) ((0 + 1)) (([] ++ [.int .i64 0, .int .i64 0, .int .i64 2])) rfl (OW1.out.1.alloc _) ⟨w10.heap.size, 0, none⟩ 1 1 [.int .i64 1, .int .i64 2, .int .i64 1] rfl rfl ?c1 (by decide) (by decide) (by decide) (by decide) (by have := X1.out.size; simp; omega) _ rfl ?_)
 case c1 => exact cell_lit _ [.int .i64 1, .int .i64 2, .int .i64 1] _
 intro g2 cap2 w15 hown hgrow hat hlt
 have OA := hID (OW1.out.grown (Off.alloc (Off.refl Nob w10) (.cells #[.int .i64 1, .int .i64 2, .int .i64 1] 43)) hown hgrow)
 have BA : Hid (Blk w15 (w.heap.size + 2) 62 #[.int .i64 0, (.slice (some ⟨g1, 0, none⟩) (0 + 1) cap1)]) := hID (B1.out.to ((Off.grown (F := fun k => ((.slice (some ⟨g1, 0, none⟩) (0 + 1) cap1) : Value).ownBlock = some k) (Off.alloc (Off.refl _ _) _) hgrow (fun k hk => .inl hk)).block _ B1.out.lt (fun h => own_ne OW1.out.1 B1.out (by decide) (by injection h))))
 have BR2 : Hid (Blk w15 w.heap.size 62 #[.int .i64 0, .slice none 0 0]) := hID (BR1.out.to ((Off.grown (F := fun k => ((.slice (some ⟨g1, 0, none⟩) (0 + 1) cap1) : Value).ownBlock = some k) (Off.alloc (Off.refl _ _) _) hgrow (fun k hk => .inl hk)).block _ BR1.out.lt (fun h => own_ne OW1.out.1 BR1.out (by decide) (by injection h))))
 have gne : g2 ≠ w.heap.size + 2 := own_ne OA.out.1 BA.out (by decide)
 have q0 := BA.out.cell 0
 have q1 := BA.out.cell 1
 simp only [List.getElem?_toArray, List.getElem?_cons_succ, List.getElem?_cons_zero] at q0 q1
 have fz0 := BA.out.frozen 0
 have fz1 := BA.out.frozen 1
 have XB : Hid (Off Nob w (w15.setCell ⟨w.heap.size + 2, 1, none⟩ (.slice (some ⟨g2, 0, none⟩) ((0 + 1) + 1) cap2))) := hID (OA.out.2.put (.inr (Nat.le_add_right _ _)) _)
 have BB : Hid (Blk (w15.setCell ⟨w.heap.size + 2, 1, none⟩ (.slice (some ⟨g2, 0, none⟩) ((0 + 1) + 1) cap2)) (w.heap.size + 2) 62 #[.int .i64 0, (.slice (some ⟨g2, 0, none⟩) ((0 + 1) + 1) cap2)]) := hID (BA.out.put 1 _)
 have BC : Hid (Blk (w15.setCell ⟨w.heap.size + 2, 1, none⟩ (.slice (some ⟨g2, 0, none⟩) ((0 + 1) + 1) cap2)) w.heap.size 62 #[.int .i64 0, .slice none 0 0]) := hID (BR2.out.far (p := ⟨w.heap.size + 2, 1, none⟩) (show w.heap.size ≠ w.heap.size + 2 by omega) _)
 have OB : Hid (OwnL w (w15.setCell ⟨w.heap.size + 2, 1, none⟩ (.slice (some ⟨g2, 0, none⟩) ((0 + 1) + 1) cap2)) 43 3 (.slice (some ⟨g2, 0, none⟩) ((0 + 1) + 1) cap2) ((0 + 1) + 1) (([] ++ [.int .i64 0, .int .i64 0, .int .i64 2]) ++ [.int .i64 1, .int .i64 2, .int .i64 1])) := hID ⟨own_to OA.out.1 (fun x hx => by
  have e : g2 = x := by simpa [Value.ownBlock] using hx
  subst e
  rw [Below.heap_setCell _ ⟨w.heap.size + 2, 1, none⟩ _ _ gne]), XB.out⟩
 clear hown hgrow hat hlt v0 v1 m0 m1 p0 p1 f1 X1 B1 BR1 OA BA gne
 clear OW1
 go_wp2_with fail
 revert XB BB BC OB
 generalize w15.setCell ⟨w.heap.size + 2, 1, none⟩ (.slice (some ⟨g2, 0, none⟩) ((0 + 1) + 1) cap2) = w20
 intro X2 B2 BC2 OW2
 clear BR2 q0 q1 fz0 fz1
 have BR2 := BC2
 clear BC2
 obtain ⟨v0, v1, m0, m1⟩ := GL.out _ X2.out
 have p0 := B2.out.cell 0
 have p1 := B2.out.cell 1
 simp only [List.getElem?_toArray, List.getElem?_cons_succ, List.getElem?_cons_zero] at p0 p1
 rw [rounds_succ]
 go_wp2_with fail
 rw [rounds_succ]
 clear v0 v1 m0 m1 p0 p1
 obtain ⟨v0, v1, m0, m1⟩ := GL.out _ X2.out
 have p0 := B2.out.cell 0
 have p1 := B2.out.cell 1
 simp only [List.getElem?_toArray, List.getElem?_cons_succ, List.getElem?_cons_zero] at p0 p1
 have fz0 := B2.out.frozen 0
 have fz1 := B2.out.frozen 1
 have r0 := BR2.out.cell 0
 have r1 := BR2.out.cell 1
 simp only [List.getElem?_toArray, List.getElem?_cons_succ, List.getElem?_cons_zero] at r0 r1
 have rz0 := BR2.out.frozen 0
 have rz1 := BR2.out.frozen 1
 go_wp2_with fail
 refine (co_words _).mono ?_
 rintro e w' ⟨rfl, rfl⟩
 go_wp2_with fail
 have W9 := (((w20.setCell ⟨w.heap.size + 2, 0, none⟩ (.int .i64 1)).setCell ⟨w.heap.size, 0, none⟩ (.int .i64 1)).setCell ⟨w.heap.size, 1, none⟩ (.slice (some ⟨g2, 0, none⟩) (0 + 1 + 1) cap2))
 have e1 : g2 ≠ w.heap.size + 2 := own_ne OW2.out.1 B2.out (by decide)
 have e2 : g2 ≠ w.heap.size := own_ne OW2.out.1 BR2.out (by decide)
 have RR : Blk (((w20.setCell ⟨w.heap.size + 2, 0, none⟩ (.int .i64 1)).setCell ⟨w.heap.size, 0, none⟩ (.int .i64 1)).setCell ⟨w.heap.size, 1, none⟩ (.slice (some ⟨g2, 0, none⟩) (0 + 1 + 1) cap2)) w.heap.size 62 #[.int .i64 1, (.slice (some ⟨g2, 0, none⟩) (0 + 1 + 1) cap2)] := ((BR2.out.far (p := ⟨w.heap.size + 2, 0, none⟩) (show w.heap.size ≠ w.heap.size + 2 by omega) _).put 0 _).put 1 _
 have RO : Off Nob w (((w20.setCell ⟨w.heap.size + 2, 0, none⟩ (.int .i64 1)).setCell ⟨w.heap.size, 0, none⟩ (.int .i64 1)).setCell ⟨w.heap.size, 1, none⟩ (.slice (some ⟨g2, 0, none⟩) (0 + 1 + 1) cap2)) := ((X2.out.put (p := ⟨w.heap.size + 2, 0, none⟩) (.inr (Nat.le_add_right _ _)) _).put (p := ⟨w.heap.size, 0, none⟩) (.inr (Nat.le_refl _)) _).put (p := ⟨w.heap.size, 1, none⟩) (.inr (Nat.le_refl _)) _
 have RW := own_to (w' := (((w20.setCell ⟨w.heap.size + 2, 0, none⟩ (.int .i64 1)).setCell ⟨w.heap.size, 0, none⟩ (.int .i64 1)).setCell ⟨w.heap.size, 1, none⟩ (.slice (some ⟨g2, 0, none⟩) (0 + 1 + 1) cap2))) OW2.out.1 (fun x hx => by
  have e : g2 = x := by simpa [Value.ownBlock] using hx
  subst e
  rw [Below.heap_setCell _ ⟨w.heap.size, 1, none⟩ _ _ e2, Below.heap_setCell _ ⟨w.heap.size, 0, none⟩ _ _ e2, Below.heap_setCell _ ⟨w.heap.size + 2, 0, none⟩ _ _ e1])
 exact bodyPost_ret (results_cell_row_tmp2 rfl _ _ _ _ _ (0, 0) _ rfl RR Tryz.underlying62 rfl Tryz.infoLp) rfl ⟨_, rfl, Rd.own RW (fun _ _ => trivial), RO⟩
end Go.Proofs.YtlgjaefcfnndhaaGreatDoor
