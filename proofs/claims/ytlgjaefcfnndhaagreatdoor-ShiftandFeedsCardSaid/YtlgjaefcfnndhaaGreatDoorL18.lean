/-
 dragnetref03.Print at the set of a and b; dragnetref01.Digits and Quote.
-/
import Derived.Test.YtlgjaefcfnndhaaGreatDoorL17
import Derived.Lib.SlBytesRow
set_option linter.unusedVariables false
set_option linter.unusedSimpArgs false
set_option maxHeartbeats 16000000
set_option maxRecDepth 100000
namespace Go.Proofs.YtlgjaefcfnndhaaGreatDoor
section
open Go.RowKit
theorem qpg (w : World) (b o c n : Nat) (xs : List Int) (hn : xs.length = n) (hc : ∀ i, i < n → w.cell? ⟨b, o + i, none⟩ = some (.int .u8 (xs.getD i 0))) :
  (convert 45 9 (.slice (some ⟨b, o, none⟩) n c)).run Tryz.prog w = .ok (.string (strOfNums xs)) w :=
 run_convert_bytes_arg (P := Tryz.prog) w 45 5 Tryz.underlying45 Tryz.underlying5 b o n c xs hn hc 9 Tryz.underlying9
theorem qmx (w : World) (x : Int) : (convert 45 9 (.slice (some ⟨w.heap.size, 0, none⟩) 1 1)).run Tryz.prog (w.alloc (.cells #[.int .u8 x] 5)) = .ok (.string (strOfNums [x])) (w.alloc (.cells #[.int .u8 x] 5)) :=
 qpg _ _ 0 1 1 [x] rfl (fun i hi => by
  have : i = 0 := by omega
  subst this
  exact (Blk.new w 5 #[.int .u8 x]).cell 0)
attribute [local go_sem] qmx
theorem ql7 (w : World) : Calls Tryz.prog 142 #[.int .u8 97] w (RetV w (.bool false)) := by
 go_enter Tryz.func142, Tryz.ntmps142
 go_wp2_with fail
 go_ret
 exact ⟨rfl, Off.refl _ _⟩
theorem qqv (w : World) : Calls Tryz.prog 140 #[.int .u8 97] w (RetV w (.string ⟨#[97]⟩)) := by
 have hs : strOfNums [97] = ⟨#[97]⟩ := by decide
 go_enter Tryz.func140, Tryz.ntmps140
 go_wp2_with fail
 refine (ql7 _).mono ?_
 rintro e w1 ⟨rfl, o1⟩
 have O1 := hID o1
 clear o1
 go_wp2_with fail
 go_ret
 exact ⟨rfl, O1.out.also (Off.alloc oRf _)⟩
theorem ql8 (w : World) : Calls Tryz.prog 142 #[.int .u8 98] w (RetV w (.bool false)) := by
 go_enter Tryz.func142, Tryz.ntmps142
 go_wp2_with fail
 go_ret
 exact ⟨rfl, Off.refl _ _⟩
theorem qqw (w : World) : Calls Tryz.prog 140 #[.int .u8 98] w (RetV w (.string ⟨#[98]⟩)) := by
 have hs : strOfNums [98] = ⟨#[98]⟩ := by decide
 go_enter Tryz.func140, Tryz.ntmps140
 go_wp2_with fail
 refine (ql8 _).mono ?_
 rintro e w1 ⟨rfl, o1⟩
 have O1 := hID o1
 clear o1
 go_wp2_with fail
 go_ret
 exact ⟨rfl, O1.out.also (Off.alloc oRf _)⟩
theorem qoi (w : World) : Calls Tryz.prog 129 #[.int .i64 5] w (RetV w (.string ⟨#[53]⟩)) := by
 have hs : strOfNums [53] = ⟨#[53]⟩ := by decide
 go_enter Tryz.func129, Tryz.ntmps129
 go_wp2_with fail
 go_ret
 exact ⟨rfl, Off.alloc oRf _⟩
theorem qoj (w : World) : Calls Tryz.prog 129 #[.int .i64 9] w (RetV w (.string ⟨#[57]⟩)) := by
 have hs : strOfNums [57] = ⟨#[57]⟩ := by decide
 go_enter Tryz.func129, Tryz.ntmps129
 go_wp2_with fail
 go_ret
 exact ⟨rfl, Off.alloc oRf _⟩
end
section
open Go.RowKit
theorem qok (w : World) : Calls Tryz.prog 134 #[.agg #[.int .u64 0, .int .u64 25769803776, .int .u64 0, .int .u64 0]] w (RetV w (.string ⟨#[97, 98]⟩)) := by
 have s1 : (⟨#[]⟩ : ByteArray) ++ ⟨#[97]⟩ = ⟨#[97]⟩ := by decide
 have s2 : (⟨#[97]⟩ : ByteArray) ++ ⟨#[98]⟩ = ⟨#[97, 98]⟩ := by decide
 have hw0 : IntKind.u8.wrap 1 = 1 := rfl
 go_enter Tryz.func134, Tryz.ntmps134
 go_wp2_with fail
 refine (qqu _).mono ?_
 rintro e w1 ⟨v, rfl, hr, o1⟩
 obtain ⟨b, o, c, rfl, hc⟩ := hr.cellsT (by decide)
 have HC := hID hc
 have O1 := hID ((Off.alloc oRf _).also o1)
 clear hr hc o1
 go_wp2_with fail
 refine wp_loop_rounds 2 ?_
 rw [rounds_succ]
 have c0 := HC.out _ oRf 0 _ rfl
 have c1 := HC.out _ oRf 1 _ rfl
 simp only [Nat.add_zero] at c0
 go_wp2_with fail
 refine (qqv _).mono ?_
 rintro e w2 ⟨rfl, o2⟩
 have O2 := hID (O1.out.also o2)
 have X2 := hID o2
 clear o2 O1 c0 c1
 have c0 := HC.out _ X2.out 0 _ rfl
 have c1 := HC.out _ X2.out 1 _ rfl
 simp only [Nat.add_zero] at c0
 go_wp2_with fail
 go_quiet (fail)
 have O3 := hID (O2.out.drewN nq)
 have X3 := hID (X2.out.drewN nq)
 clear O2 X2 c0 c1
 generalize w2.drewN nq = w3 at *
 have c0 := HC.out _ X3.out 0 _ rfl
 have c1 := HC.out _ X3.out 1 _ rfl
 simp only [Nat.add_zero] at c0
 go_wp2_with fail
 go_quiet (fail)
 have O4 := hID (O3.out.drewN nq)
 have X4 := hID (X3.out.drewN nq)
 clear O3 X3 c0 c1
 generalize w3.drewN nq = w4 at *
 have c0 := HC.out _ X4.out 0 _ rfl
 have c1 := HC.out _ X4.out 1 _ rfl
 simp only [Nat.add_zero] at c0
 go_wp2_with fail
 refine (qqw _).mono ?_
 rintro e w5 ⟨rfl, o5⟩
 have O5 := hID (O4.out.also o5)
 clear o5 O4 c0 c1
 go_wp2_with fail
 rw [rounds_succ]
 go_wp2_with fail
 go_ret
 exact ⟨rfl, O5.out⟩
theorem qol (w : World) : Calls Tryz.prog 131 #[.agg #[.int .u64 0, .int .u64 25769803776, .int .u64 0, .int .u64 0]] w (RetV w (.string ⟨#[91, 97, 98, 93]⟩)) := by
 have s1 : (⟨#[91]⟩ : ByteArray) ++ ⟨#[97, 98]⟩ = ⟨#[91, 97, 98]⟩ := by decide
 have s2 : (⟨#[91, 97, 98]⟩ : ByteArray) ++ ⟨#[93]⟩ = ⟨#[91, 97, 98, 93]⟩ := by decide
 go_enter Tryz.func131, Tryz.ntmps131
 go_wp2_with fail
 refine (qoh _).mono ?_
 rintro e w1 ⟨rfl, o1⟩
 have hb := (Blk.new w 73 #[.int .u64 0, .int .u64 25769803776, .int .u64 0, .int .u64 0])
 have B1 := hID (hb.to (o1.block _ hb.lt (fun h => h)))
 have O1 := hID ((Off.alloc oRf _).also o1)
 clear o1 hb
 have t0 := B1.out.cell 0
 have t1 := B1.out.cell 1
 have t2 := B1.out.cell 2
 have t3 := B1.out.cell 3
 simp only [qG] at t0 t1 t2 t3
 go_wp2_with fail
 refine (qok _).mono ?_
 rintro e w2 ⟨rfl, o2⟩
 have O2 := hID (O1.out.also o2)
 clear o2
 go_wp2_with fail
 go_ret
 exact ⟨rfl, O2.out⟩
theorem qmy (b : Nat) (h : b = 97 ∨ b = 98) (w : World) : Calls Tryz.prog 136 #[.int .u8 (b : Int)] w (RetV w (.bool true)) := by
 rcases h with rfl | rfl
 all_goals
  go_enter Tryz.func136, Tryz.ntmps136
  go_wp2_with fail
  go_ret
  exact ⟨rfl, Off.refl _ _⟩
attribute [local go_sem] qmx
theorem ql9 (w : World) : Calls Tryz.prog 132 #[.int .u8 97] w (RetV w (.string ⟨#[97]⟩)) := by
 have hs : strOfNums [97] = ⟨#[97]⟩ := by decide
 go_enter Tryz.func132, Tryz.ntmps132
 go_wp2_with fail
 refine Calls.mono (R := RetV w (.bool true)) (qmy 97 (by decide) _) ?_
 rintro e w1 ⟨rfl, o1⟩
 have O1 := hID o1
 clear o1
 go_wp2_with fail
 go_ret
 exact ⟨rfl, O1.out.also (Off.alloc oRf _)⟩
theorem qma (w : World) : Calls Tryz.prog 132 #[.int .u8 98] w (RetV w (.string ⟨#[98]⟩)) := by
 have hs : strOfNums [98] = ⟨#[98]⟩ := by decide
 go_enter Tryz.func132, Tryz.ntmps132
 go_wp2_with fail
 refine Calls.mono (R := RetV w (.bool true)) (qmy 98 (by decide) _) ?_
 rintro e w1 ⟨rfl, o1⟩
 have O1 := hID o1
 clear o1
 go_wp2_with fail
 go_ret
 exact ⟨rfl, O1.out.also (Off.alloc oRf _)⟩
end
end Go.Proofs.YtlgjaefcfnndhaaGreatDoor
