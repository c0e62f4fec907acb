/-
 dragnetlaw18.Example.
-/
import Derived.Test.YtlgjaefcfnndhaaGreatDoorL19
import Derived.Test.YtlgjaefcfnndhaaGreatDoorL12
import Derived.Lib.SlBytesConst
import Derived.Test.YtlgjaefcfnndhaaGreatDoorL43
import Derived.Test.YtlgjaefcfnndhaaGreatDoorL45
import Derived.Test.YtlgjaefcfnndhaaGreatDoorL46
import Derived.Test.YtlgjaefcfnndhaaGreatDoorL20
set_option linter.unusedVariables false
set_option linter.unusedSimpArgs false
set_option maxHeartbeats 16000000
set_option maxRecDepth 100000
namespace Go.Proofs.YtlgjaefcfnndhaaGreatDoor
section
open Go.RowKit
theorem qe7 (w : World) (xs : List Value) (t : TypeId) (size n : Nat) (hl : xs.length = n * size) (hn : n ≤ maxLen) : Rd (w.alloc (.cells xs.toArray t)) (fun _ => True) size (.slice (some ⟨w.heap.size, 0, none⟩) n n) n xs :=
 ⟨_, _, rfl, hn, hl, fun _ => ⟨w.heap.size, 0, rfl, trivial, by simp, fun j u hu => by rw [← qaj]; exact qai w xs t j u hu⟩⟩
theorem qr9 (w : World) : Calls Tryz.prog 39 #[] w fun e w' => ∃ v va vb, e = .returned v ∧ Rd w' (fun _ => True) 2 v 2 [.int .i64 5, va, .int .i64 9, vb] ∧ Rd w' (fun _ => True) 8 va 1 el_a ∧ Rd w' (fun _ => True) 8 vb 1 el_b ∧ Off Nob w w' := by
 go_enter Tryz.func39, Tryz.ntmps39
 go_wp2_with fail
 have hcv := Lib.run_convert_bytes_const (P := Tryz.prog) (w.alloc (.cells #[.int .i64 1, .string ⟨#[97, 98]⟩, .int .u64 0, .int .u64 0, .int .u64 0, .int .u64 0, .int .i64 0, .int .i64 0] 126)) 45 5 #[.int .u8 97, .int .u8 98] 2 2 Tryz.underlying45 Tryz.underlying5
 rw [World.size_alloc] at hcv
 rw [hcv]
 clear hcv
 go_wp2_with fail
 have X2 : Hid (Off Nob w ((w.alloc (.cells #[.int .i64 1, .string ⟨#[97, 98]⟩, .int .u64 0, .int .u64 0, .int .u64 0, .int .u64 0, .int .i64 0, .int .i64 0] 126)).alloc (.cells #[.int .u8 97, .int .u8 98] 5 (2, 3)))) := hID ((Off.alloc oRf _).alloc _)
 have RA : Hid (Rd ((w.alloc (.cells #[.int .i64 1, .string ⟨#[97, 98]⟩, .int .u64 0, .int .u64 0, .int .u64 0, .int .u64 0, .int .i64 0, .int .i64 0] 126)).alloc (.cells #[.int .u8 97, .int .u8 98] 5 (2, 3))) (fun _ => True) 8 (.slice (some ⟨w.heap.size, 0, none⟩) 1 1) 1 el_a) := hID ⟨_, _, rfl, by decide, rfl, fun _ => ⟨w.heap.size, 0, rfl, trivial, by simp; omega, fun j u hu => by rw [Nat.zero_add, cell_of_row _ w.heap.size j #[.int .i64 1, .string ⟨#[97, 98]⟩, .int .u64 0, .int .u64 0, .int .u64 0, .int .u64 0, .int .i64 0, .int .i64 0] 126 (0, 0) ((Blk.new w 126 #[.int .i64 1, .string ⟨#[97, 98]⟩, .int .u64 0, .int .u64 0, .int .u64 0, .int .u64 0, .int .i64 0, .int .i64 0]).alloc _)]; simpa [el_a] using hu⟩⟩
 have RC : Hid (Rd ((w.alloc (.cells #[.int .i64 1, .string ⟨#[97, 98]⟩, .int .u64 0, .int .u64 0, .int .u64 0, .int .u64 0, .int .i64 0, .int .i64 0] 126)).alloc (.cells #[.int .u8 97, .int .u8 98] 5 (2, 3))) (fun _ => True) 1 (.slice (some ⟨w.heap.size + 1, 0, none⟩) 2 2) 2 [.int .u8 97, .int .u8 98]) := hID ⟨_, _, rfl, by decide, rfl, fun _ => ⟨w.heap.size + 1, 0, rfl, trivial, by simp, fun j u hu => by
  have h : ((w.alloc (.cells #[.int .i64 1, .string ⟨#[97, 98]⟩, .int .u64 0, .int .u64 0, .int .u64 0, .int .u64 0, .int .i64 0, .int .i64 0] 126)).alloc (.cells #[.int .u8 97, .int .u8 98] 5 (2, 3))).heap[w.heap.size + 1]? = some (.cells #[.int .u8 97, .int .u8 98] 5 (2, 3)) := by
   have := heap_alloc_new (w.alloc (.cells #[.int .i64 1, .string ⟨#[97, 98]⟩, .int .u64 0, .int .u64 0, .int .u64 0, .int .u64 0, .int .i64 0, .int .i64 0] 126)) (.cells #[.int .u8 97, .int .u8 98] 5 (2, 3))
   rwa [World.size_alloc] at this
  rw [Nat.zero_add, cell_of_row _ (w.heap.size + 1) j #[.int .u8 97, .int .u8 98] 5 (2, 3) h]
  simpa using hu⟩⟩
 revert X2 RA RC
 generalize ((w.alloc (.cells #[.int .i64 1, .string ⟨#[97, 98]⟩, .int .u64 0, .int .u64 0, .int .u64 0, .int .u64 0, .int .i64 0, .int .i64 0] 126)).alloc (.cells #[.int .u8 97, .int .u8 98] 5 (2, 3))) = w2
 intro X2 RA RC
 refine (qvn _ _ RC.out).mono ?_
 rintro e w3 ⟨rfl, o3⟩
 have X3 := hID (X2.out.also o3)
 have RA3 := hID (RA.out.keepT o3)
 clear o3 RC RA X2
 go_wp2_with fail
 have R1 := qe7 w3 el_b 126 8 1 rfl (by decide)
 have o1 : Off Nob w3 (w3.alloc (.cells el_b.toArray 126)) := Off.alloc oRf _
 have R2 := qe7 (w3.alloc (.cells el_b.toArray 126)) [.int .i64 5, .slice (some ⟨w.heap.size, 0, none⟩) 1 1, .int .i64 9, .slice (some ⟨w3.heap.size, 0, none⟩) 1 1] 124 2 2 rfl (by decide)
 rw [World.size_alloc] at R2
 have o2 : Off Nob (w3.alloc (.cells el_b.toArray 126)) ((w3.alloc (.cells el_b.toArray 126)).alloc (.cells [.int .i64 5, .slice (some ⟨w.heap.size, 0, none⟩) 1 1, .int .i64 9, .slice (some ⟨w3.heap.size, 0, none⟩) 1 1].toArray 124)) := Off.alloc oRf _
 go_ret
 exact ⟨_, _, _, rfl, R2, (RA3.out.keepT (o1.also o2)), R1.keepT o2, X3.out.also (o1.also o2)⟩
end
section
open Go.RowKit Go.Conc Go.Pip Go.Ride
def xTab : List Nat := (List.range 256).map fun j => if j = 97 then 5 else if j = 98 then 6 else 0
theorem qnx : xTab.length = 256 := by simp [xTab]
theorem qzg : qab xTab = tabV 256 := by
 unfold qab xTab tabV
 rw [List.map_map]
 apply List.map_congr_left
 intro j hj
 have : j < 256 := List.mem_range.1 hj
 simp only [Function.comp, if_pos this, rowB]
 by_cases h1 : j = 97
 ·simp [h1]
 ·by_cases h2 : j = 98
  ·simp [h2]
  ·simp [h1, h2]
theorem qx0 : ∀ x ∈ xTab, x < 18446744073709551616 := by
 intro x hx
 unfold xTab at hx
 obtain ⟨j, _, rfl⟩ := List.mem_map.1 hx
 split
 ·decide
 ·split <;> decide
theorem x_set : qaf [5, 9] 1 xTab [5] [2, 4] = 0 := by kernel_rfl
theorem x_sh0 : shErr [5, 9] 1 xTab [5] [2, 4] [0] 0 = 0 := by kernel_rfl
theorem x_sh1 : shErr [5, 9] 1 xTab [5] [2, 4] [5] 1 = 0 := by kernel_rfl
theorem x_sh2 : shErr [5, 9] 1 xTab [5] [2, 4] [5] 2 = 0 := by kernel_rfl
theorem x_sh3 : shErr [5, 9] 1 xTab [5] [2, 4] [6] 3 = 0 := by kernel_rfl
theorem x_rd0 : rdTo 1 xTab [5] [0] 97 1 = [5] := by kernel_rfl
theorem x_rd1 : rdTo 1 xTab [5] [5] 97 1 = [5] := by kernel_rfl
theorem x_rd2 : rdTo 1 xTab [5] [5] 98 1 = [6] := by kernel_rfl
theorem qub : hitsN [2, 4] [5] 1 2 = [1] := by kernel_rfl
theorem qzh : hitsN [2, 4] [6] 1 2 = [0, 1] := by kernel_rfl
theorem x_run : qb8 [5, 9] 1 xTab [5] [2, 4] [97, 97, 98] = [(1, 1), (2, 1), (3, 0), (3, 1)] := by kernel_rfl
theorem qzi : ruErr [5, 9] 1 xTab [5] [2, 4] 3 = 0 := by kernel_rfl
theorem qzj : qat [5, 9] 1 xTab [5] [2, 4] = [0] := by kernel_rfl
theorem qx1 : qdg (planL [5, 9] 1 xTab [5] [2, 4]) (onesN [6]) = [(0, 0, 2), (1, 2, 1)] := by kernel_rfl
end
end Go.Proofs.YtlgjaefcfnndhaaGreatDoor
