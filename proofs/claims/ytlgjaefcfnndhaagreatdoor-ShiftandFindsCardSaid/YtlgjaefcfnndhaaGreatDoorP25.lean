/-
 tables.finals.
-/
import Derived.Test.YtlgjaefcfnndhaaGreatDoorP16
import Derived.Test.YtlgjaefcfnndhaaGreatDoorP13
import Derived.Test.YtlgjaefcfnndhaaGreatDoorP9
import Derived.Laws.CopyOwn
set_option linter.unusedVariables false
set_option linter.unusedSimpArgs false
set_option maxHeartbeats 16000000
set_option maxRecDepth 100000
namespace Go.Proofs.YtlgjaefcfnndhaaGreatDoor
open Go.RowKit
theorem qel {F : Nat → Prop} {w w1 : World} {g : Nat} (o : Off F w w1) (h : w.heap.size ≤ g) (cs : Array Value) : Off F w (w1.setRow g cs) :=
 ⟨o.os, o.tape, o.output, by have := o.size; simpa [World.setRow] using this, fun k hk hn => (setRow_other w1 g k cs (by omega)).trans (o.block k hk hn)⟩
theorem qik (n : Nat) : (madeCells (Value.int .u64 0).cells (n * 1)).toList = List.replicate n (.int .u64 0) := by
 rw [Nat.mul_one]
 show (madeCells #[.int .u64 0] n).toList = _
 rw [toList_madeCells_one]
theorem qem {F : List Nat} {k n j : Nat} {u : Value} (h : (qab ((F.drop k).take n))[j]? = some u) : (qab F)[k + j]? = some u := by
 simp only [qab, List.getElem?_map, List.getElem?_take, List.getElem?_drop] at h ⊢
 split at h
 ·exact h
 ·simp at h
theorem qen (L : List Nat) : ∀ v ∈ qab L, v.oneCell' = true := by
 intro u hu
 obtain ⟨a, _, rfl⟩ := List.mem_map.1 hu
 rfl
theorem qgw {w : World} {base n g : Nat} {e : TypeId} {xs : List Value} (h : w.ownsRow base e 1 (.slice (some ⟨g, 0, none⟩) n n) n xs) : w.heap[g]? = some (.cells xs.toArray e (0, 0)) ∧ base ≤ g ∧ xs.length = n := by
 rcases h.2 with ⟨h0, _⟩ | ⟨g', cap, cur, he, hb, hblk, h1, h2, h3, h4⟩
 ·cases h0
 ·injection he with e1 e2 e3
  injection e1 with e1
  injection e1 with e1
  subst e1
  subst e3
  have hl : cur.toList.length = n * 1 := by simpa using h3
  rw [← hl, List.take_length] at h4
  subst h4
  exact ⟨hblk, hb, by simpa using h3⟩
theorem qd5 {w : World} {base n g : Nat} {e : TypeId} {xs ys : List Value} (h : w.ownsRow base e 1 (.slice (some ⟨g, 0, none⟩) n n) n xs) {w' : World} (hg : w'.heap[g]? = some (.cells ys.toArray e (0, 0))) (hl : ys.length = n) : w'.ownsRow base e 1 (.slice (some ⟨g, 0, none⟩) n n) n ys := by
 rcases h.2 with ⟨h0, _⟩ | ⟨g', cap, cur, he, hb, hblk, h1, h2, h3, h4⟩
 ·cases h0
 ·injection he with e1 e2 e3
  injection e1 with e1
  injection e1 with e1
  subst e1
  subst e3
  exact ⟨by simp [hl], .inr ⟨g, n, ys.toArray, rfl, hb, hg, h1, h2, by simp [hl], by rw [← hl]; simp⟩⟩
theorem Tryz.infoT3 : (Tryz.prog.info? 71).map (fun i => (i.zero, i.size, i.bytes)) = some (some (.int .u64 0), 1, 8) := by kernel_rfl
theorem qzu (a1 a2 a3 : Value) (W : Nat) (h1 : 1 ≤ W) (h4 : W ≤ 4) (F : List Nat) (r : Nat) (hr : r * W + W ≤ F.length) (hF : F.length ≤ 1024) (w : World) (v : Value) (hv : Rd w (fun _ => True) 1 v F.length (qab F)) (hcp : CapOk v) :
  Calls Tryz.prog 104 #[.agg #[a1, .int .i64 W, a2, a3, v], .int .i64 r] w fun e w' => ∃ u, e = .returned u ∧ w'.ownsRow w.heap.size 71 1 u W (qab ((F.drop (r * W)).take W)) ∧ Off Nob w w' := by
 obtain ⟨b, o, c, rfl, hc⟩ := hv.cellsT (by omega)
 have HC := hID hc
 have hcap : F.length ≤ c := hcp _ _ _ rfl
 clear hcp
 have HV := hID hv
 clear hc hv
 have hW : W = 1 ∨ W = 2 ∨ W = 3 ∨ W = 4 := by omega
 rcases hW with rfl | rfl | rfl | rfl
 all_goals clear h1 h4
 ·have hlen : r < F.length := by omega
  have hr0 : r ≤ 1024 := by omega
  have hne : c ≠ r := by omega
  have hne2 : r < c := by omega
  obtain ⟨i0, hi, hz0, hz1, hz2⟩ := info_parts Tryz.infoT3
  have d1 : decide (F.length < r) = false := dcF
  obtain ⟨X, hX⟩ : ∃ X, qab ((F.drop (r * 1)).take 1) = X := ⟨_, rfl⟩
  have HX : Hid (X.length = 1 ∧ ∀ W', Off Nob w W' → ∀ j u, X[j]? = some u → W'.cell? ⟨b, o + r + j, none⟩ = some u) := hID ⟨by rw [← hX]; simp [qab]; omega, fun W' ho j u hj => by
   rw [← hX] at hj
   have := HC.out W' ho (r * 1 + j) u (qem hj)
   rw [← Nat.add_assoc] at this
   simpa using this⟩
  have HX1 : Hid (∀ v ∈ X, v.oneCell' = true) := hID (by rw [← hX]; exact qen _)
  rw [hX]
  clear hX
  go_enter Tryz.func104, Tryz.ntmps104
  go_wp2_with (first
   | (at_make; refine wpList_make_full _ rfl _ _ 23 rfl w.heap.size 71 i0 (.int .u64 0) 1 Tryz.underlying23 hi hz0 hz1 .i64 .i64 _ _ 1 rfl rfl rfl rfl (by rw [hz2]; decide) (by decide) (by simp) ?_; intro w1 oW gW; have BX : Hid (Blk w1 w.heap.size 25 #[a1, .int .i64 1, a2, a3, .slice (some ⟨b, o, none⟩) F.length c] ∧ Off Nob w w1) := hID ⟨(Blk.new w 25 #[a1, .int .i64 1, a2, a3, .slice (some ⟨b, o, none⟩) F.length c]).to (gW.block _ (by simp) (by simp)), Off.grown (oAl oRf _) gW (fun k hk => by cases hk)⟩; have HO := hID oW; have HB : Hid (w1.heap[w.heap.size + 1]? = some (.cells ([.int .u64 0] : List Value).toArray 71 (0, 0))) := hID (by have := (qgw oW).1; rw [show (madeCells (Value.int .u64 0).cells (1 * 1)).toList = [.int .u64 0] from by rw [qik]; rfl] at this; simpa using this); have b1 : w1.cell? ⟨w.heap.size, 1, none⟩ = some (.int .i64 1) := BX.out.1.cell 1; have b4 : w1.cell? ⟨w.heap.size, 4, none⟩ = some (.slice (some ⟨b, o, none⟩) F.length c) := BX.out.1.cell 4; clear oW gW))
  rw [run_copy_row (P := Tryz.prog) w1 23 23 3 71 (w.heap.size + 1) 0 1 1 ⟨b, o + r, none⟩ (F.length - r) (c - r) ([.int .u64 0] : List Value).toArray 71 X Tryz.underlying23 (by kernel_rfl) HB.out (by rw [HX.out.1]; exact (Nat.min_eq_right (by omega)).symm) (fun j u hj => by rw [qam]; exact HX.out.2 w1 BX.out.2 j u hj) (by rw [HX.out.1]; decide) HX1.out]
  have HR : Hid ((List.take 0 ([.int .u64 0] : List Value).toArray.toList ++ X ++ List.drop (0 + X.length) ([.int .u64 0] : List Value).toArray.toList) = X) := hID (by rw [HX.out.1]; simp)
  rw [HR.out]
  obtain ⟨w2, hw2⟩ : ∃ w2, w1.setRow (w.heap.size + 1) X.toArray = w2 := ⟨_, rfl⟩
  have HN : Hid (w2.ownsRow w.heap.size 71 1 (.slice (some ⟨w.heap.size + 1, 0, none⟩) 1 1) 1 X ∧ Off Nob w w2) := hID ⟨qd5 (by have := HO.out; simpa using this) (by rw [← hw2]; exact setRow_heap w1 (w.heap.size + 1) _ _ _ _ HB.out) HX.out.1, by rw [← hw2]; exact qel BX.out.2 (by omega) _⟩
  rw [hw2]
  clear hw2 b1 b4
  go_wp2_with fail
  go_ret
  exact ⟨_, rfl, HN.out⟩
 ·have hlen : r * 2 < F.length := by omega
  have hr0 : r ≤ 1024 := by omega
  have hne : c ≠ r * 2 := by omega
  have hne2 : r * 2 < c := by omega
  obtain ⟨i0, hi, hz0, hz1, hz2⟩ := info_parts Tryz.infoT3
  have d1 : decide (F.length < r * 2) = false := dcF
  obtain ⟨X, hX⟩ : ∃ X, qab ((F.drop (r * 2)).take 2) = X := ⟨_, rfl⟩
  have HX : Hid (X.length = 2 ∧ ∀ W', Off Nob w W' → ∀ j u, X[j]? = some u → W'.cell? ⟨b, o + r * 2 + j, none⟩ = some u) := hID ⟨by rw [← hX]; simp [qab]; omega, fun W' ho j u hj => by
   rw [← hX] at hj
   have := HC.out W' ho (r * 2 + j) u (qem hj)
   rw [← Nat.add_assoc] at this
   simpa using this⟩
  have HX1 : Hid (∀ v ∈ X, v.oneCell' = true) := hID (by rw [← hX]; exact qen _)
  rw [hX]
  clear hX
  go_enter Tryz.func104, Tryz.ntmps104
  go_wp2_with (first
   | (at_make; refine wpList_make_full _ rfl _ _ 23 rfl w.heap.size 71 i0 (.int .u64 0) 1 Tryz.underlying23 hi hz0 hz1 .i64 .i64 _ _ 2 rfl rfl rfl rfl (by rw [hz2]; decide) (by decide) (by simp) ?_; intro w1 oW gW; have BX : Hid (Blk w1 w.heap.size 25 #[a1, .int .i64 2, a2, a3, .slice (some ⟨b, o, none⟩) F.length c] ∧ Off Nob w w1) := hID ⟨(Blk.new w 25 #[a1, .int .i64 2, a2, a3, .slice (some ⟨b, o, none⟩) F.length c]).to (gW.block _ (by simp) (by simp)), Off.grown (oAl oRf _) gW (fun k hk => by cases hk)⟩; have HO := hID oW; have HB : Hid (w1.heap[w.heap.size + 1]? = some (.cells ([.int .u64 0, .int .u64 0] : List Value).toArray 71 (0, 0))) := hID (by have := (qgw oW).1; rw [show (madeCells (Value.int .u64 0).cells (2 * 1)).toList = [.int .u64 0, .int .u64 0] from by rw [qik]; rfl] at this; simpa using this); have b1 : w1.cell? ⟨w.heap.size, 1, none⟩ = some (.int .i64 2) := BX.out.1.cell 1; have b4 : w1.cell? ⟨w.heap.size, 4, none⟩ = some (.slice (some ⟨b, o, none⟩) F.length c) := BX.out.1.cell 4; clear oW gW))
  rw [run_copy_row (P := Tryz.prog) w1 23 23 3 71 (w.heap.size + 1) 0 2 2 ⟨b, o + r * 2, none⟩ (F.length - r * 2) (c - r * 2) ([.int .u64 0, .int .u64 0] : List Value).toArray 71 X Tryz.underlying23 (by kernel_rfl) HB.out (by rw [HX.out.1]; exact (Nat.min_eq_right (by omega)).symm) (fun j u hj => by rw [qam]; exact HX.out.2 w1 BX.out.2 j u hj) (by rw [HX.out.1]; decide) HX1.out]
  have HR : Hid ((List.take 0 ([.int .u64 0, .int .u64 0] : List Value).toArray.toList ++ X ++ List.drop (0 + X.length) ([.int .u64 0, .int .u64 0] : List Value).toArray.toList) = X) := hID (by rw [HX.out.1]; simp)
  rw [HR.out]
  obtain ⟨w2, hw2⟩ : ∃ w2, w1.setRow (w.heap.size + 1) X.toArray = w2 := ⟨_, rfl⟩
  have HN : Hid (w2.ownsRow w.heap.size 71 1 (.slice (some ⟨w.heap.size + 1, 0, none⟩) 2 2) 2 X ∧ Off Nob w w2) := hID ⟨qd5 (by have := HO.out; simpa using this) (by rw [← hw2]; exact setRow_heap w1 (w.heap.size + 1) _ _ _ _ HB.out) HX.out.1, by rw [← hw2]; exact qel BX.out.2 (by omega) _⟩
  rw [hw2]
  clear hw2 b1 b4
  go_wp2_with fail
  go_ret
  exact ⟨_, rfl, HN.out⟩
 ·have hlen : r * 3 < F.length := by omega
  have hr0 : r ≤ 1024 := by omega
  have hne : c ≠ r * 3 := by omega
  have hne2 : r * 3 < c := by omega
  obtain ⟨i0, hi, hz0, hz1, hz2⟩ := info_parts Tryz.infoT3
  have d1 : decide (F.length < r * 3) = false := dcF
  obtain ⟨X, hX⟩ : ∃ X, qab ((F.drop (r * 3)).take 3) = X := ⟨_, rfl⟩
  have HX : Hid (X.length = 3 ∧ ∀ W', Off Nob w W' → ∀ j u, X[j]? = some u → W'.cell? ⟨b, o + r * 3 + j, none⟩ = some u) := hID ⟨by rw [← hX]; simp [qab]; omega, fun W' ho j u hj => by
   rw [← hX] at hj
   have := HC.out W' ho (r * 3 + j) u (qem hj)
   rw [← Nat.add_assoc] at this
   simpa using this⟩
  have HX1 : Hid (∀ v ∈ X, v.oneCell' = true) := hID (by rw [← hX]; exact qen _)
  rw [hX]
  clear hX
  go_enter Tryz.func104, Tryz.ntmps104
  go_wp2_with (first
   | (at_make; refine wpList_make_full _ rfl _ _ 23 rfl w.heap.size 71 i0 (.int .u64 0) 1 Tryz.underlying23 hi hz0 hz1 .i64 .i64 _ _ 3 rfl rfl rfl rfl (by rw [hz2]; decide) (by decide) (by simp) ?_; intro w1 oW gW; have BX : Hid (Blk w1 w.heap.size 25 #[a1, .int .i64 3, a2, a3, .slice (some ⟨b, o, none⟩) F.length c] ∧ Off Nob w w1) := hID ⟨(Blk.new w 25 #[a1, .int .i64 3, a2, a3, .slice (some ⟨b, o, none⟩) F.length c]).to (gW.block _ (by simp) (by simp)), Off.grown (oAl oRf _) gW (fun k hk => by cases hk)⟩; have HO := hID oW; have HB : Hid (w1.heap[w.heap.size + 1]? = some (.cells ([.int .u64 0, .int .u64 0, .int .u64 0] : List Value).toArray 71 (0, 0))) := hID (by have := (qgw oW).1; rw [show (madeCells (Value.int .u64 0).cells (3 * 1)).toList = [.int .u64 0, .int .u64 0, .int .u64 0] from by rw [qik]; rfl] at this; simpa using this); have b1 : w1.cell? ⟨w.heap.size, 1, none⟩ = some (.int .i64 3) := BX.out.1.cell 1; have b4 : w1.cell? ⟨w.heap.size, 4, none⟩ = some (.slice (some ⟨b, o, none⟩) F.length c) := BX.out.1.cell 4; clear oW gW))
  rw [run_copy_row (P := Tryz.prog) w1 23 23 3 71 (w.heap.size + 1) 0 3 3 ⟨b, o + r * 3, none⟩ (F.length - r * 3) (c - r * 3) ([.int .u64 0, .int .u64 0, .int .u64 0] : List Value).toArray 71 X Tryz.underlying23 (by kernel_rfl) HB.out (by rw [HX.out.1]; exact (Nat.min_eq_right (by omega)).symm) (fun j u hj => by rw [qam]; exact HX.out.2 w1 BX.out.2 j u hj) (by rw [HX.out.1]; decide) HX1.out]
  have HR : Hid ((List.take 0 ([.int .u64 0, .int .u64 0, .int .u64 0] : List Value).toArray.toList ++ X ++ List.drop (0 + X.length) ([.int .u64 0, .int .u64 0, .int .u64 0] : List Value).toArray.toList) = X) := hID (by rw [HX.out.1]; simp)
  rw [HR.out]
  obtain ⟨w2, hw2⟩ : ∃ w2, w1.setRow (w.heap.size + 1) X.toArray = w2 := ⟨_, rfl⟩
  have HN : Hid (w2.ownsRow w.heap.size 71 1 (.slice (some ⟨w.heap.size + 1, 0, none⟩) 3 3) 3 X ∧ Off Nob w w2) := hID ⟨qd5 (by have := HO.out; simpa using this) (by rw [← hw2]; exact setRow_heap w1 (w.heap.size + 1) _ _ _ _ HB.out) HX.out.1, by rw [← hw2]; exact qel BX.out.2 (by omega) _⟩
  rw [hw2]
  clear hw2 b1 b4
  go_wp2_with fail
  go_ret
  exact ⟨_, rfl, HN.out⟩
 ·have hlen : r * 4 < F.length := by omega
  have hr0 : r ≤ 1024 := by omega
  have hne : c ≠ r * 4 := by omega
  have hne2 : r * 4 < c := by omega
  obtain ⟨i0, hi, hz0, hz1, hz2⟩ := info_parts Tryz.infoT3
  have d1 : decide (F.length < r * 4) = false := dcF
  obtain ⟨X, hX⟩ : ∃ X, qab ((F.drop (r * 4)).take 4) = X := ⟨_, rfl⟩
  have HX : Hid (X.length = 4 ∧ ∀ W', Off Nob w W' → ∀ j u, X[j]? = some u → W'.cell? ⟨b, o + r * 4 + j, none⟩ = some u) := hID ⟨by rw [← hX]; simp [qab]; omega, fun W' ho j u hj => by
   rw [← hX] at hj
   have := HC.out W' ho (r * 4 + j) u (qem hj)
   rw [← Nat.add_assoc] at this
   simpa using this⟩
  have HX1 : Hid (∀ v ∈ X, v.oneCell' = true) := hID (by rw [← hX]; exact qen _)
  rw [hX]
  clear hX
  go_enter Tryz.func104, Tryz.ntmps104
  go_wp2_with (first
   | (at_make; refine wpList_make_full _ rfl _ _ 23 rfl w.heap.size 71 i0 (.int .u64 0) 1 Tryz.underlying23 hi hz0 hz1 .i64 .i64 _ _ 4 rfl rfl rfl rfl (by rw [hz2]; decide) (by decide) (by simp) ?_; intro w1 oW gW; have BX : Hid (Blk w1 w.heap.size 25 #[a1, .int .i64 4, a2, a3, .slice (some ⟨b, o, none⟩) F.length c] ∧ Off Nob w w1) := hID ⟨(Blk.new w 25 #[a1, .int .i64 4, a2, a3, .slice (some ⟨b, o, none⟩) F.length c]).to (gW.block _ (by simp) (by simp)), Off.grown (oAl oRf _) gW (fun k hk => by cases hk)⟩; have HO := hID oW; have HB : Hid (w1.heap[w.heap.size + 1]? = some (.cells ([.int .u64 0, .int .u64 0, .int .u64 0, .int .u64 0] : List Value).toArray 71 (0, 0))) := hID (by have := (qgw oW).1; rw [show (madeCells (Value.int .u64 0).cells (4 * 1)).toList = [.int .u64 0, .int .u64 0, .int .u64 0, .int .u64 0] from by rw [qik]; rfl] at this; simpa using this); have b1 : w1.cell? ⟨w.heap.size, 1, none⟩ = some (.int .i64 4) := BX.out.1.cell 1; have b4 : w1.cell? ⟨w.heap.size, 4, none⟩ = some (.slice (some ⟨b, o, none⟩) F.length c) := BX.out.1.cell 4; clear oW gW))
  rw [run_copy_row (P := Tryz.prog) w1 23 23 3 71 (w.heap.size + 1) 0 4 4 ⟨b, o + r * 4, none⟩ (F.length - r * 4) (c - r * 4) ([.int .u64 0, .int .u64 0, .int .u64 0, .int .u64 0] : List Value).toArray 71 X Tryz.underlying23 (by kernel_rfl) HB.out (by rw [HX.out.1]; exact (Nat.min_eq_right (by omega)).symm) (fun j u hj => by rw [qam]; exact HX.out.2 w1 BX.out.2 j u hj) (by rw [HX.out.1]; decide) HX1.out]
  have HR : Hid ((List.take 0 ([.int .u64 0, .int .u64 0, .int .u64 0, .int .u64 0] : List Value).toArray.toList ++ X ++ List.drop (0 + X.length) ([.int .u64 0, .int .u64 0, .int .u64 0, .int .u64 0] : List Value).toArray.toList) = X) := hID (by rw [HX.out.1]; simp)
  rw [HR.out]
  obtain ⟨w2, hw2⟩ : ∃ w2, w1.setRow (w.heap.size + 1) X.toArray = w2 := ⟨_, rfl⟩
  have HN : Hid (w2.ownsRow w.heap.size 71 1 (.slice (some ⟨w.heap.size + 1, 0, none⟩) 4 4) 4 X ∧ Off Nob w w2) := hID ⟨qd5 (by have := HO.out; simpa using this) (by rw [← hw2]; exact setRow_heap w1 (w.heap.size + 1) _ _ _ _ HB.out) HX.out.1, by rw [← hw2]; exact qel BX.out.2 (by omega) _⟩
  rw [hw2]
  clear hw2 b1 b4
  go_wp2_with fail
  go_ret
  exact ⟨_, rfl, HN.out⟩
end Go.Proofs.YtlgjaefcfnndhaaGreatDoor
