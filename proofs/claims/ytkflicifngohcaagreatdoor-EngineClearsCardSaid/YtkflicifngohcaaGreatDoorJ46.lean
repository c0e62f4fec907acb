/-
  dragnetlaw18.Example.
-/
import Derived.Test.YtkflicifngohcaaGreatDoorJ15
import Derived.Test.YtkflicifngohcaaGreatDoorJ10
import Derived.Lib.SlBytesConst
namespace Go.Proofs.YtkflicifngohcaaGreatDoor
open Go.RowKit
set_option linter.unusedVariables false
set_option linter.unusedSimpArgs false
set_option maxRecDepth 100000
theorem rd_alloc (w : World) (xs : List Value) (t : TypeId) (size n : Nat) (hl : xs.length = n * size) (hn : n ≤ maxLen) : Rd (w.alloc (.cells xs.toArray t)) (fun _ => True) size (.slice (some ⟨w.heap.size, 0, none⟩) n n) n xs :=
  ⟨_, _, rfl, hn, hl, fun _ => ⟨w.heap.size, 0, rfl, trivial, by simp, fun j u hu => by rw [← add_addr]; exact cell_lit w xs t j u hu⟩⟩
set_option maxHeartbeats 1000000 in
theorem co_example (w : World) : Calls Tryz.prog 38 #[] w fun e w' => ∃ v va vb, e = .returned v ∧ Rd w' (fun _ => True) 2 v 2 [.int .i64 5, va, .int .i64 9, vb] ∧ Rd w' (fun _ => True) 8 va 1 el_a ∧ Rd w' (fun _ => True) 8 vb 1 el_b ∧ Off Nob w w' := by
  go_enter Tryz.func38, Tryz.ntmps38
  go_wp2_with fail
  have hcv := Lib.run_convert_bytes_const (P := Tryz.prog) (w.alloc (.cells #[.int .i64 1, .string ⟨#[97, 98]⟩, .int .u64 0, .int .u64 0, .int .u64 0, .int .u64 0, .int .i64 0, .int .i64 0] 148)) 26 5 #[.int .u8 97, .int .u8 98] 2 2 Tryz.underlying26 Tryz.underlying5
  rw [World.size_alloc] at hcv
  rw [hcv]
  clear hcv
  go_wp2_with fail
  have X2 : Hid (Off Nob w ((w.alloc (.cells #[.int .i64 1, .string ⟨#[97, 98]⟩, .int .u64 0, .int .u64 0, .int .u64 0, .int .u64 0, .int .i64 0, .int .i64 0] 148)).alloc (.cells #[.int .u8 97, .int .u8 98] 5 (2, 3)))) := Lib.hid ((Off.alloc (Off.refl _ _) _).alloc _)
  have RA : Hid (Rd ((w.alloc (.cells #[.int .i64 1, .string ⟨#[97, 98]⟩, .int .u64 0, .int .u64 0, .int .u64 0, .int .u64 0, .int .i64 0, .int .i64 0] 148)).alloc (.cells #[.int .u8 97, .int .u8 98] 5 (2, 3))) (fun _ => True) 8 (.slice (some ⟨w.heap.size, 0, none⟩) 1 1) 1 el_a) := Lib.hid ⟨_, _, rfl, by decide, rfl, fun _ => ⟨w.heap.size, 0, rfl, trivial, by simp; omega, fun j u hu => by rw [Nat.zero_add, cell_of_row _ w.heap.size j #[.int .i64 1, .string ⟨#[97, 98]⟩, .int .u64 0, .int .u64 0, .int .u64 0, .int .u64 0, .int .i64 0, .int .i64 0] 148 (0, 0) ((Blk.new w 148 #[.int .i64 1, .string ⟨#[97, 98]⟩, .int .u64 0, .int .u64 0, .int .u64 0, .int .u64 0, .int .i64 0, .int .i64 0]).alloc _)]; simpa [el_a] using hu⟩⟩
  have RC : Hid (Rd ((w.alloc (.cells #[.int .i64 1, .string ⟨#[97, 98]⟩, .int .u64 0, .int .u64 0, .int .u64 0, .int .u64 0, .int .i64 0, .int .i64 0] 148)).alloc (.cells #[.int .u8 97, .int .u8 98] 5 (2, 3))) (fun _ => True) 1 (.slice (some ⟨w.heap.size + 1, 0, none⟩) 2 2) 2 [.int .u8 97, .int .u8 98]) := Lib.hid ⟨_, _, rfl, by decide, rfl, fun _ => ⟨w.heap.size + 1, 0, rfl, trivial, by simp, fun j u hu => by
    have h : ((w.alloc (.cells #[.int .i64 1, .string ⟨#[97, 98]⟩, .int .u64 0, .int .u64 0, .int .u64 0, .int .u64 0, .int .i64 0, .int .i64 0] 148)).alloc (.cells #[.int .u8 97, .int .u8 98] 5 (2, 3))).heap[w.heap.size + 1]? = some (.cells #[.int .u8 97, .int .u8 98] 5 (2, 3)) := by
      have := heap_alloc_new (w.alloc (.cells #[.int .i64 1, .string ⟨#[97, 98]⟩, .int .u64 0, .int .u64 0, .int .u64 0, .int .u64 0, .int .i64 0, .int .i64 0] 148)) (.cells #[.int .u8 97, .int .u8 98] 5 (2, 3))
      rwa [World.size_alloc] at this
    rw [Nat.zero_add, cell_of_row _ (w.heap.size + 1) j #[.int .u8 97, .int .u8 98] 5 (2, 3) h]
    simpa using hu⟩⟩
  revert X2 RA RC
  generalize ((w.alloc (.cells #[.int .i64 1, .string ⟨#[97, 98]⟩, .int .u64 0, .int .u64 0, .int .u64 0, .int .u64 0, .int .i64 0, .int .i64 0] 148)).alloc (.cells #[.int .u8 97, .int .u8 98] 5 (2, 3))) = w2
  intro X2 RA RC
  refine (co_of_ab _ _ RC.out).mono ?_
  rintro e w3 ⟨rfl, o3⟩
  have X3 := Lib.hid (X2.out.also o3)
  have RA3 := Lib.hid (RA.out.keepT o3)
  clear o3 RC RA X2
  go_wp2_with fail
  have R1 := rd_alloc w3 el_b 148 8 1 rfl (by decide)
  have o1 : Off Nob w3 (w3.alloc (.cells el_b.toArray 148)) := Off.alloc (Off.refl _ _) _
  have R2 := rd_alloc (w3.alloc (.cells el_b.toArray 148)) [.int .i64 5, .slice (some ⟨w.heap.size, 0, none⟩) 1 1, .int .i64 9, .slice (some ⟨w3.heap.size, 0, none⟩) 1 1] 143 2 2 rfl (by decide)
  rw [World.size_alloc] at R2
  have o2 : Off Nob (w3.alloc (.cells el_b.toArray 148)) ((w3.alloc (.cells el_b.toArray 148)).alloc (.cells [.int .i64 5, .slice (some ⟨w.heap.size, 0, none⟩) 1 1, .int .i64 9, .slice (some ⟨w3.heap.size, 0, none⟩) 1 1].toArray 143)) := Off.alloc (Off.refl _ _) _
  go_ret
  exact ⟨_, _, _, rfl, R2, (RA3.out.keepT (o1.also o2)), R1.keepT o2, X3.out.also (o1.also o2)⟩
end Go.Proofs.YtkflicifngohcaaGreatDoor
