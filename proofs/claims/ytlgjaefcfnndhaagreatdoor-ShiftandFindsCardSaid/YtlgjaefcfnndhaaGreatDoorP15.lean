/-
 dragnetref01.Quote of ab.
-/
import Derived.Test.YtlgjaefcfnndhaaGreatDoorP14
import Derived.Lib.AppendStr
set_option linter.unusedVariables false
set_option linter.unusedSimpArgs false
set_option maxHeartbeats 16000000
set_option maxRecDepth 100000
namespace Go.Proofs.YtlgjaefcfnndhaaGreatDoor
section
open Go.RowKit
theorem qlz {w : World} {base size n : Nat} {e : TypeId} {v : Value} {xs : List Value} (h : w.ownsRow base e size v n xs) (hn : n ≠ 0) : ∃ g c, v = .slice (some ⟨g, 0, none⟩) n c := by
 rcases h.2 with ⟨_, h0⟩ | ⟨g, cap, cur, hv, _⟩
 ·exact absurd h0 hn
 ·exact ⟨g, cap, hv⟩
theorem OwnL.made (w : World) (e : TypeId) (size n : Nat) (xs : List Value) (hl : xs.length = n * size) (hn : n ≤ maxLen) : OwnL w (w.alloc (.cells xs.toArray e)) e size (.slice (some ⟨w.heap.size, 0, none⟩) n n) n xs :=
 ⟨⟨hl, .inr ⟨w.heap.size, n, xs.toArray, rfl, Nat.le_refl _, heap_alloc_new w _, Nat.le_refl _, hn, by simpa using hl, by rw [← hl]; simp⟩⟩, oAl oRf _⟩
theorem qps (w : World) : Calls Tryz.prog 130 #[.string ⟨#[97, 98]⟩] w (RetV w (.string ⟨#[34, 97, 98, 34]⟩)) := by
 obtain ⟨i0, hi, hz0, hz1, hz2⟩ := info_parts Tryz.infoY
 have hs : strOfNums [34, 97, 98, 34] = ⟨#[34, 97, 98, 34]⟩ := by decide
 go_enter Tryz.func130, Tryz.ntmps130
 go_wp2_with fail
 have O0 : Hid (OwnL w (w.alloc (.cells #[.int .u8 34] 5)) 5 1 (.slice (some ⟨w.heap.size, 0, none⟩) 1 1) 1 [.int .u8 34]) := hID (OwnL.made w _ 1 1 [.int .u8 34] rfl (by decide))
 revert O0
 generalize w.alloc (.cells #[.int .u8 34] 5) = w0
 intro O0
 refine wp_loop_rounds 3 ?_
 rw [rounds_succ]
 go_wp2_with fail
 refine (qm1 _).mono ?_
 rintro e w1 ⟨rfl, o1⟩
 have O1 := hID (O0.out.off o1)
 clear o1 O0
 go_wp2_with (at_builtin; refine @Go.Lib.wpList_append_own_string _ _ _ _ _ _ _ rfl _ _ 45 9 rfl w.heap.size 5 i0 Tryz.underlying45 Tryz.underlying9 hi hz0 hz1 hz2 (.slice (some ⟨w.heap.size, 0, none⟩) 1 1) 1 [.int .u8 34] rfl O1.out.1 ⟨#[97]⟩ rfl (by decide) (by decide) O1.out.2.size ?_)
 intro v2 w2 oW gW _
 have O2 := hID (O1.out.grown oRf oW gW)
 obtain ⟨g2, c2, rfl⟩ := qlz oW (by decide)
 clear oW gW O1
 go_wp2_with fail
 rw [rounds_succ]
 go_wp2_with fail
 refine (qm2 _).mono ?_
 rintro e w3 ⟨rfl, o3⟩
 have O3 := hID (O2.out.off o3)
 clear o3 O2
 go_wp2_with (at_builtin; refine @Go.Lib.wpList_append_own_string _ _ _ _ _ _ _ rfl _ _ 45 9 rfl w.heap.size 5 i0 Tryz.underlying45 Tryz.underlying9 hi hz0 hz1 hz2 (.slice (some ⟨g2, 0, none⟩) (1 + 1) c2) (1 + 1) ([.int .u8 34] ++ Go.Lib.strCells ⟨#[97]⟩) rfl O3.out.1 ⟨#[98]⟩ rfl (by decide) (by decide) O3.out.2.size ?_)
 intro v4 w4 oW gW _
 have O4 := hID (O3.out.grown oRf oW gW)
 obtain ⟨g4, c4, rfl⟩ := qlz oW (by decide)
 clear oW gW O3
 go_wp2_with fail
 rw [rounds_succ]
 go_wp2_with (at_builtin; refine @wpList_append_lies _ _ _ _ _ _ _ rfl _ _ 45 rfl w.heap.size 5 i0 (.int .u8 0) 1 1 Tryz.underlying45 hi hz0 hz1 hz2 rfl (by decide) (.slice (some ⟨g4, 0, none⟩) (1 + 1 + 1) c4) (1 + 1 + 1) (([.int .u8 34] ++ Go.Lib.strCells ⟨#[97]⟩) ++ Go.Lib.strCells ⟨#[98]⟩) rfl (O4.out.1.alloc _) ⟨w4.heap.size, 0, none⟩ 1 1 [.int .u8 34] rfl rfl (qc7 _ _ _) (by intro u hu; simp at hu; subst hu; rfl) (by decide) (by decide) (by decide) (by have := O4.out.2.size; simp; omega) _ rfl ?_)
 intro g5 c5 w5 oW gW _ _
 have O5 := hID (O4.out.grown (oAl oRf _) oW gW)
 clear oW gW O4
 have hconv : (convert 45 9 (.slice (some ⟨g5, 0, none⟩) (1 + 1 + 1 + 1) c5)).run Tryz.prog w5 = .ok (.string (strOfNums [34, 97, 98, 34])) w5 := qqs w5 g5 0 c5 4 [34, 97, 98, 34] rfl (fun i hi => by
  rw [Nat.zero_add, O5.out.1.cellAt i (by omega)]
  show ([Value.int .u8 34, .int .u8 97, .int .u8 98, .int .u8 34] : List Value)[i]? = _
  have : i = 0 ∨ i = 1 ∨ i = 2 ∨ i = 3 := by omega
  rcases this with rfl | rfl | rfl | rfl <;> rfl)
 rw [hs] at hconv
 go_wp2_with fail
 go_ret
 exact ⟨rfl, O5.out.2⟩
end
section
open Go.RowKit
theorem Tryz.infoTk : (Tryz.prog.info? 186).map (fun i => (i.zero, i.size, i.bytes)) = some (some (.agg #[.int .i64 0, .int .i64 0, .int .i64 0, .int .i64 0, .string ⟨#[]⟩, .int .u64 0, .int .u64 0, .int .u64 0, .int .u64 0]), 9, 80) := by kernel_rfl
theorem qby (w : World) (xs : List Value) (t : TypeId) : ∀ j u, xs[j]? = some u → (w.alloc (.cells xs.toArray t)).cell? ((⟨w.heap.size, 0, none⟩ : Addr).add j) = some u := by
 intro j u hj
 rw [qam, Nat.zero_add, (Blk.new w t xs.toArray).cell]
 simpa using hj
theorem OwnL.made2 {w0 w : World} (o : Off Nob w0 w) (e : TypeId) (size n : Nat) (xs : List Value) (hl : xs.length = n * size) (hn : n ≤ maxLen) : OwnL w0 (w.alloc (.cells xs.toArray e)) e size (.slice (some ⟨w.heap.size, 0, none⟩) n n) n xs :=
 ⟨⟨hl, .inr ⟨w.heap.size, n, xs.toArray, rfl, o.size, heap_alloc_new w _, Nat.le_refl _, hn, by simpa using hl, by rw [← hl]; simp⟩⟩, o.alloc _⟩
def el_a : List Value := [.int .i64 1, .string ⟨#[97, 98]⟩, .int .u64 0, .int .u64 0, .int .u64 0, .int .u64 0, .int .i64 0, .int .i64 0]
def tk_a : List Value := [.int .i64 1, .int .i64 0, .int .i64 0, .int .i64 0, .string ⟨#[]⟩, .int .u64 0, .int .u64 0, .int .u64 0, .int .u64 0, .int .i64 3, .int .i64 0, .int .i64 0, .int .i64 5, .string ⟨#[]⟩, .int .u64 0, .int .u64 0, .int .u64 0, .int .u64 0, .int .i64 4, .int .i64 0, .int .i64 0, .int .i64 0, .string ⟨#[97, 98]⟩, .int .u64 0, .int .u64 0, .int .u64 0, .int .u64 0]
def el_b : List Value := [.int .i64 3, .string ⟨#[]⟩, .int .u64 0, .int .u64 25769803776, .int .u64 0, .int .u64 0, .int .i64 0, .int .i64 0]
def tk_b : List Value := [.int .i64 1, .int .i64 0, .int .i64 0, .int .i64 0, .string ⟨#[]⟩, .int .u64 0, .int .u64 0, .int .u64 0, .int .u64 0, .int .i64 3, .int .i64 0, .int .i64 0, .int .i64 9, .string ⟨#[]⟩, .int .u64 0, .int .u64 0, .int .u64 0, .int .u64 0, .int .i64 6, .int .i64 0, .int .i64 0, .int .i64 0, .string ⟨#[]⟩, .int .u64 0, .int .u64 25769803776, .int .u64 0, .int .u64 0]
theorem qfu (w : World) (v : Value) (hv : Rd w (fun _ => True) 8 v 1 el_a) : Calls Tryz.prog 126 #[.agg #[.int .i64 5, v]] w (RetL w 9 3 tk_a) := by
 obtain ⟨i0, hi, hz0, hz1, hz2⟩ := info_parts Tryz.infoTk
 obtain ⟨b, o, c, rfl, hc⟩ := hv.cellsT (by decide)
 have HC := hID hc
 clear hc hv
 go_enter Tryz.func126, Tryz.ntmps126
 go_wp2_with fail
 have B0 : Hid (Blk (((w.alloc (.cells #[.int .i64 5, .slice (some ⟨b, o, none⟩) 1 c] 124)).alloc (.cells #[.int .i64 1, .int .i64 0, .int .i64 0, .int .i64 0, .string ⟨#[]⟩, .int .u64 0, .int .u64 0, .int .u64 0, .int .u64 0, .int .i64 3, .int .i64 0, .int .i64 0, .int .i64 5, .string ⟨#[]⟩, .int .u64 0, .int .u64 0, .int .u64 0, .int .u64 0] 186))) w.heap.size 124 #[.int .i64 5, .slice (some ⟨b, o, none⟩) 1 c]) := hID ((Blk.new w 124 #[.int .i64 5, .slice (some ⟨b, o, none⟩) 1 c]).alloc _)
 have O0 : Hid (OwnL w (((w.alloc (.cells #[.int .i64 5, .slice (some ⟨b, o, none⟩) 1 c] 124)).alloc (.cells #[.int .i64 1, .int .i64 0, .int .i64 0, .int .i64 0, .string ⟨#[]⟩, .int .u64 0, .int .u64 0, .int .u64 0, .int .u64 0, .int .i64 3, .int .i64 0, .int .i64 0, .int .i64 5, .string ⟨#[]⟩, .int .u64 0, .int .u64 0, .int .u64 0, .int .u64 0] 186))) 186 9 (.slice (some ⟨w.heap.size + 1, 0, none⟩) 2 2) 2 [.int .i64 1, .int .i64 0, .int .i64 0, .int .i64 0, .string ⟨#[]⟩, .int .u64 0, .int .u64 0, .int .u64 0, .int .u64 0, .int .i64 3, .int .i64 0, .int .i64 0, .int .i64 5, .string ⟨#[]⟩, .int .u64 0, .int .u64 0, .int .u64 0, .int .u64 0]) := hID (by
  have := OwnL.made2 (oAl (Off.refl Nob w) (.cells #[.int .i64 5, .slice (some ⟨b, o, none⟩) 1 c] 124)) 186 9 2 [.int .i64 1, .int .i64 0, .int .i64 0, .int .i64 0, .string ⟨#[]⟩, .int .u64 0, .int .u64 0, .int .u64 0, .int .u64 0, .int .i64 3, .int .i64 0, .int .i64 0, .int .i64 5, .string ⟨#[]⟩, .int .u64 0, .int .u64 0, .int .u64 0, .int .u64 0] rfl (by decide)
  simpa using this)
 revert B0 O0
 generalize (((w.alloc (.cells #[.int .i64 5, .slice (some ⟨b, o, none⟩) 1 c] 124)).alloc (.cells #[.int .i64 1, .int .i64 0, .int .i64 0, .int .i64 0, .string ⟨#[]⟩, .int .u64 0, .int .u64 0, .int .u64 0, .int .u64 0, .int .i64 3, .int .i64 0, .int .i64 0, .int .i64 5, .string ⟨#[]⟩, .int .u64 0, .int .u64 0, .int .u64 0, .int .u64 0] 186))) = w1
 intro B0 O0
 refine wp_loop_rounds 2 ?_
 rw [rounds_succ]
 have t0 := B0.out.cell 0
 have t1 := B0.out.cell 1
 simp only [qG] at t0 t1
 have c0 := HC.out _ O0.out.2 0 _ rfl
 simp only [Nat.add_zero] at c0
 have c1 := HC.out _ O0.out.2 1 _ rfl
 have c2 := HC.out _ O0.out.2 2 _ rfl
 have c3 := HC.out _ O0.out.2 3 _ rfl
 have c4 := HC.out _ O0.out.2 4 _ rfl
 have c5 := HC.out _ O0.out.2 5 _ rfl
 have c6 := HC.out _ O0.out.2 6 _ rfl
 have c7 := HC.out _ O0.out.2 7 _ rfl
 go_wp2_with (at_builtin; refine @wpList_append_lies _ _ _ _ _ _ _ rfl _ _ 182 rfl w.heap.size 186 i0 (.agg #[.int .i64 0, .int .i64 0, .int .i64 0, .int .i64 0, .string ⟨#[]⟩, .int .u64 0, .int .u64 0, .int .u64 0, .int .u64 0]) 9 80 Tryz.underlying182 hi hz0 hz1 hz2 rfl (by decide) (.slice (some ⟨w.heap.size + 1, 0, none⟩) 2 2) 2 [.int .i64 1, .int .i64 0, .int .i64 0, .int .i64 0, .string ⟨#[]⟩, .int .u64 0, .int .u64 0, .int .u64 0, .int .u64 0, .int .i64 3, .int .i64 0, .int .i64 0, .int .i64 5, .string ⟨#[]⟩, .int .u64 0, .int .u64 0, .int .u64 0, .int .u64 0] rfl ((O0.out.off (oAl (Off.refl Nob w1) (.cells #[.int .i64 1, .string ⟨#[97, 98]⟩, .int .u64 0, .int .u64 0, .int .u64 0, .int .u64 0, .int .i64 0, .int .i64 0] 126))).1.alloc _) ⟨w1.heap.size + 1, 0, none⟩ 1 1 [.int .i64 4, .int .i64 0, .int .i64 0, .int .i64 0, .string ⟨#[97, 98]⟩, .int .u64 0, .int .u64 0, .int .u64 0, .int .u64 0] rfl rfl ?c1 (by decide) (by decide) (by decide) (by decide) (by have := O0.out.2.size; simp; omega) _ rfl ?_)
 case c1 =>
  intro j u hj
  have := qby (w1.alloc (.cells #[.int .i64 1, .string ⟨#[97, 98]⟩, .int .u64 0, .int .u64 0, .int .u64 0, .int .u64 0, .int .i64 0, .int .i64 0] 126)) [.int .i64 4, .int .i64 0, .int .i64 0, .int .i64 0, .string ⟨#[97, 98]⟩, .int .u64 0, .int .u64 0, .int .u64 0, .int .u64 0] 186 j u hj
  simpa using this
 intro g cap w4 oW gW hat hlt
 have O4 := hID ((O0.out.off (oAl (Off.refl Nob w1) (.cells #[.int .i64 1, .string ⟨#[97, 98]⟩, .int .u64 0, .int .u64 0, .int .u64 0, .int .u64 0, .int .i64 0, .int .i64 0] 126))).grown (oAl oRf (.cells #[.int .i64 4, .int .i64 0, .int .i64 0, .int .i64 0, .string ⟨#[97, 98]⟩, .int .u64 0, .int .u64 0, .int .u64 0, .int .u64 0] 186)) oW gW)
 have oo : Off (fun k => k = w.heap.size + 1) w1 w4 := Off.grown (oAl (oAl oRf _) _) gW (fun k hk => .inl (by injection hk with hk; exact hk.symm))
 have B4 := hID (B0.out.to (oo.block _ B0.out.lt (fun h => by omega)))
 clear oo oW gW hat hlt O0 B0 t0 t1 c0 c1 c2 c3 c4 c5 c6 c7
 have t0 := B4.out.cell 0
 have t1 := B4.out.cell 1
 simp only [qG] at t0 t1
 go_wp2_with fail
 rw [rounds_succ]
 go_wp2_with fail
 go_ret
 exact ⟨_, rfl, O4.out.rd, O4.out.2⟩
theorem qfv (w : World) (v : Value) (hv : Rd w (fun _ => True) 8 v 1 el_b) : Calls Tryz.prog 126 #[.agg #[.int .i64 9, v]] w (RetL w 9 3 tk_b) := by
 obtain ⟨i0, hi, hz0, hz1, hz2⟩ := info_parts Tryz.infoTk
 obtain ⟨b, o, c, rfl, hc⟩ := hv.cellsT (by decide)
 have HC := hID hc
 clear hc hv
 go_enter Tryz.func126, Tryz.ntmps126
 go_wp2_with fail
 have B0 : Hid (Blk (((w.alloc (.cells #[.int .i64 9, .slice (some ⟨b, o, none⟩) 1 c] 124)).alloc (.cells #[.int .i64 1, .int .i64 0, .int .i64 0, .int .i64 0, .string ⟨#[]⟩, .int .u64 0, .int .u64 0, .int .u64 0, .int .u64 0, .int .i64 3, .int .i64 0, .int .i64 0, .int .i64 9, .string ⟨#[]⟩, .int .u64 0, .int .u64 0, .int .u64 0, .int .u64 0] 186))) w.heap.size 124 #[.int .i64 9, .slice (some ⟨b, o, none⟩) 1 c]) := hID ((Blk.new w 124 #[.int .i64 9, .slice (some ⟨b, o, none⟩) 1 c]).alloc _)
 have O0 : Hid (OwnL w (((w.alloc (.cells #[.int .i64 9, .slice (some ⟨b, o, none⟩) 1 c] 124)).alloc (.cells #[.int .i64 1, .int .i64 0, .int .i64 0, .int .i64 0, .string ⟨#[]⟩, .int .u64 0, .int .u64 0, .int .u64 0, .int .u64 0, .int .i64 3, .int .i64 0, .int .i64 0, .int .i64 9, .string ⟨#[]⟩, .int .u64 0, .int .u64 0, .int .u64 0, .int .u64 0] 186))) 186 9 (.slice (some ⟨w.heap.size + 1, 0, none⟩) 2 2) 2 [.int .i64 1, .int .i64 0, .int .i64 0, .int .i64 0, .string ⟨#[]⟩, .int .u64 0, .int .u64 0, .int .u64 0, .int .u64 0, .int .i64 3, .int .i64 0, .int .i64 0, .int .i64 9, .string ⟨#[]⟩, .int .u64 0, .int .u64 0, .int .u64 0, .int .u64 0]) := hID (by
  have := OwnL.made2 (oAl (Off.refl Nob w) (.cells #[.int .i64 9, .slice (some ⟨b, o, none⟩) 1 c] 124)) 186 9 2 [.int .i64 1, .int .i64 0, .int .i64 0, .int .i64 0, .string ⟨#[]⟩, .int .u64 0, .int .u64 0, .int .u64 0, .int .u64 0, .int .i64 3, .int .i64 0, .int .i64 0, .int .i64 9, .string ⟨#[]⟩, .int .u64 0, .int .u64 0, .int .u64 0, .int .u64 0] rfl (by decide)
  simpa using this)
 revert B0 O0
 generalize (((w.alloc (.cells #[.int .i64 9, .slice (some ⟨b, o, none⟩) 1 c] 124)).alloc (.cells #[.int .i64 1, .int .i64 0, .int .i64 0, .int .i64 0, .string ⟨#[]⟩, .int .u64 0, .int .u64 0, .int .u64 0, .int .u64 0, .int .i64 3, .int .i64 0, .int .i64 0, .int .i64 9, .string ⟨#[]⟩, .int .u64 0, .int .u64 0, .int .u64 0, .int .u64 0] 186))) = w1
 intro B0 O0
 refine wp_loop_rounds 2 ?_
 rw [rounds_succ]
 have t0 := B0.out.cell 0
 have t1 := B0.out.cell 1
 simp only [qG] at t0 t1
 have c0 := HC.out _ O0.out.2 0 _ rfl
 simp only [Nat.add_zero] at c0
 have c1 := HC.out _ O0.out.2 1 _ rfl
 have c2 := HC.out _ O0.out.2 2 _ rfl
 have c3 := HC.out _ O0.out.2 3 _ rfl
 have c4 := HC.out _ O0.out.2 4 _ rfl
 have c5 := HC.out _ O0.out.2 5 _ rfl
 have c6 := HC.out _ O0.out.2 6 _ rfl
 have c7 := HC.out _ O0.out.2 7 _ rfl
 go_wp2_with (at_builtin; refine @wpList_append_lies _ _ _ _ _ _ _ rfl _ _ 182 rfl w.heap.size 186 i0 (.agg #[.int .i64 0, .int .i64 0, .int .i64 0, .int .i64 0, .string ⟨#[]⟩, .int .u64 0, .int .u64 0, .int .u64 0, .int .u64 0]) 9 80 Tryz.underlying182 hi hz0 hz1 hz2 rfl (by decide) (.slice (some ⟨w.heap.size + 1, 0, none⟩) 2 2) 2 [.int .i64 1, .int .i64 0, .int .i64 0, .int .i64 0, .string ⟨#[]⟩, .int .u64 0, .int .u64 0, .int .u64 0, .int .u64 0, .int .i64 3, .int .i64 0, .int .i64 0, .int .i64 9, .string ⟨#[]⟩, .int .u64 0, .int .u64 0, .int .u64 0, .int .u64 0] rfl ((O0.out.off (oAl (Off.refl Nob w1) (.cells #[.int .i64 3, .string ⟨#[]⟩, .int .u64 0, .int .u64 25769803776, .int .u64 0, .int .u64 0, .int .i64 0, .int .i64 0] 126))).1.alloc _) ⟨w1.heap.size + 1, 0, none⟩ 1 1 [.int .i64 6, .int .i64 0, .int .i64 0, .int .i64 0, .string ⟨#[]⟩, .int .u64 0, .int .u64 25769803776, .int .u64 0, .int .u64 0] rfl rfl ?c1 (by decide) (by decide) (by decide) (by decide) (by have := O0.out.2.size; simp; omega) _ rfl ?_)
 case c1 =>
  intro j u hj
  have := qby (w1.alloc (.cells #[.int .i64 3, .string ⟨#[]⟩, .int .u64 0, .int .u64 25769803776, .int .u64 0, .int .u64 0, .int .i64 0, .int .i64 0] 126)) [.int .i64 6, .int .i64 0, .int .i64 0, .int .i64 0, .string ⟨#[]⟩, .int .u64 0, .int .u64 25769803776, .int .u64 0, .int .u64 0] 186 j u hj
  simpa using this
 intro g cap w4 oW gW hat hlt
 have O4 := hID ((O0.out.off (oAl (Off.refl Nob w1) (.cells #[.int .i64 3, .string ⟨#[]⟩, .int .u64 0, .int .u64 25769803776, .int .u64 0, .int .u64 0, .int .i64 0, .int .i64 0] 126))).grown (oAl oRf (.cells #[.int .i64 6, .int .i64 0, .int .i64 0, .int .i64 0, .string ⟨#[]⟩, .int .u64 0, .int .u64 25769803776, .int .u64 0, .int .u64 0] 186)) oW gW)
 have oo : Off (fun k => k = w.heap.size + 1) w1 w4 := Off.grown (oAl (oAl oRf _) _) gW (fun k hk => .inl (by injection hk with hk; exact hk.symm))
 have B4 := hID (B0.out.to (oo.block _ B0.out.lt (fun h => by omega)))
 clear oo oW gW hat hlt O0 B0 t0 t1 c0 c1 c2 c3 c4 c5 c6 c7
 have t0 := B4.out.cell 0
 have t1 := B4.out.cell 1
 simp only [qG] at t0 t1
 go_wp2_with fail
 rw [rounds_succ]
 go_wp2_with fail
 go_ret
 exact ⟨_, rfl, O4.out.rd, O4.out.2⟩
end
section
open Go.RowKit
theorem qac {P : Program} {fn : Func} {p u : Tmp} {ty : TypeId} (h : fn.results = #[.cell p ty, .tmp u]) (tmps : Array Value) (w : World) (g : Nat) (t : TypeId) (cs : Array Value) (fr : Nat × Nat) (d : TypeDesc)
  (hp : tmps.getD p undef = .pointer (some ⟨g, 0, none⟩)) (hg : w.heap[g]? = some (.cells cs t fr)) (hu : P.underlying ty = some d) (hd : (match d with | .struct _ | .array _ _ => true | _ => false) = true) (hi : (P.info? ty).map (·.size) = some cs.size) :
  (results fn tmps).run P w = .ok (.tuple #[.agg cs, tmps.getD u undef]) w := by
 rw [results_cell_tmp h, hp]
 simp only [asAddr, Sem.run_pure, Result.andThen_ok]
 rw [run_loadVar_row w g t ty cs fr d hg hu hd hi]
 simp
def adF (a : Int) (k : Nat) : Int := bits .or .u64 a (IntKind.u64.wrap (2 ^ (k % 64)))
def allW (k q : Nat) : Int := if 64 * (q + 1) ≤ k then 18446744073709551615 else if k ≤ 64 * q then 0 else 2 ^ (k - 64 * q) - 1
theorem q1d : ∀ m : Fin 64, bits .or .u64 (2 ^ m.val - 1) (IntKind.u64.wrap (2 ^ m.val)) = 2 ^ (m.val + 1) - 1 := by decide +kernel
theorem qfl (k q : Nat) (h : k / 64 = q) : allW (k + 1) q = adF (allW k q) k := by
 have e : allW k q = 2 ^ (k % 64) - 1 := by
  unfold allW
  rw [if_neg (by omega)]
  by_cases g : k ≤ 64 * q
  ·rw [if_pos g, show k % 64 = 0 by omega]; rfl
  ·rw [if_neg g, show k - 64 * q = k % 64 by omega]
 have hm := q1d ⟨k % 64, Nat.mod_lt _ (by decide)⟩
 dsimp only at hm
 unfold adF
 rw [e, hm]
 unfold allW
 by_cases g : 64 * (q + 1) ≤ k + 1
 ·rw [if_pos g, show k % 64 = 63 by omega]; rfl
 ·rw [if_neg g, if_neg (by omega), show k + 1 - 64 * q = k % 64 + 1 by omega]
theorem qb3 (k q : Nat) (h : k / 64 ≠ q) : allW (k + 1) q = allW k q := by
 unfold allW
 by_cases g : 64 * (q + 1) ≤ k
 ·rw [if_pos g, if_pos (by omega)]
 ·rw [if_neg g, if_neg (by omega), if_pos (by omega), if_pos (by omega)]
theorem qzh (a0 a1 a2 a3 : Int) (k : Nat) (hk : 0 ≤ k) (hk2 : k < 64) (w : World) :
  Calls Tryz.prog 65 #[.agg #[.int .u64 a0, .int .u64 a1, .int .u64 a2, .int .u64 a3], .int .u8 (k : Int)] w (RetV w (.agg #[.int .u64 (adF a0 k), .int .u64 a1, .int .u64 a2, .int .u64 a3])) := by
 have e : (k : Int) / 64 = 0 := by omega
 go_enter Tryz.func65, Tryz.ntmps65
 go_wp2_with fail
 exact bodyPost_ret (results_cell_row rfl _ _ _ _ _ (0, 0) _ rfl (qbn _ _ _ _) Tryz.underlying73 rfl Tryz.infoCl) rfl ⟨rfl, oAl (oAl oRf _) _⟩
theorem qzi (a0 a1 a2 a3 : Int) (k : Nat) (hk : 64 ≤ k) (hk2 : k < 128) (w : World) :
  Calls Tryz.prog 65 #[.agg #[.int .u64 a0, .int .u64 a1, .int .u64 a2, .int .u64 a3], .int .u8 (k : Int)] w (RetV w (.agg #[.int .u64 a0, .int .u64 (adF a1 k), .int .u64 a2, .int .u64 a3])) := by
 have e : (k : Int) / 64 = 1 := by omega
 go_enter Tryz.func65, Tryz.ntmps65
 go_wp2_with fail
 exact bodyPost_ret (results_cell_row rfl _ _ _ _ _ (0, 0) _ rfl (qbn _ _ _ _) Tryz.underlying73 rfl Tryz.infoCl) rfl ⟨rfl, oAl (oAl oRf _) _⟩
theorem qzj (a0 a1 a2 a3 : Int) (k : Nat) (hk : 128 ≤ k) (hk2 : k < 192) (w : World) :
  Calls Tryz.prog 65 #[.agg #[.int .u64 a0, .int .u64 a1, .int .u64 a2, .int .u64 a3], .int .u8 (k : Int)] w (RetV w (.agg #[.int .u64 a0, .int .u64 a1, .int .u64 (adF a2 k), .int .u64 a3])) := by
 have e : (k : Int) / 64 = 2 := by omega
 go_enter Tryz.func65, Tryz.ntmps65
 go_wp2_with fail
 exact bodyPost_ret (results_cell_row rfl _ _ _ _ _ (0, 0) _ rfl (qbn _ _ _ _) Tryz.underlying73 rfl Tryz.infoCl) rfl ⟨rfl, oAl (oAl oRf _) _⟩
theorem qzk (a0 a1 a2 a3 : Int) (k : Nat) (hk : 192 ≤ k) (hk2 : k < 256) (w : World) :
  Calls Tryz.prog 65 #[.agg #[.int .u64 a0, .int .u64 a1, .int .u64 a2, .int .u64 a3], .int .u8 (k : Int)] w (RetV w (.agg #[.int .u64 a0, .int .u64 a1, .int .u64 a2, .int .u64 (adF a3 k)])) := by
 have e : (k : Int) / 64 = 3 := by omega
 go_enter Tryz.func65, Tryz.ntmps65
 go_wp2_with fail
 exact bodyPost_ret (results_cell_row rfl _ _ _ _ _ (0, 0) _ rfl (qbn _ _ _ _) Tryz.underlying73 rfl Tryz.infoCl) rfl ⟨rfl, oAl (oAl oRf _) _⟩
def allC (k : Nat) : List Value := [.int .u64 (allW k 0), .int .u64 (allW k 1), .int .u64 (allW k 2), .int .u64 (allW k 3)]
theorem qsa (k : Nat) (hk : k < 256) (w : World) :
  Calls Tryz.prog 65 #[.agg #[.int .u64 (allW k 0), .int .u64 (allW k 1), .int .u64 (allW k 2), .int .u64 (allW k 3)], .int .u8 (k : Int)] w (RetV w (.agg #[.int .u64 (allW (k + 1) 0), .int .u64 (allW (k + 1) 1), .int .u64 (allW (k + 1) 2), .int .u64 (allW (k + 1) 3)])) := by
 have : k / 64 = 0 ∨ k / 64 = 1 ∨ k / 64 = 2 ∨ k / 64 = 3 := by omega
 rcases this with h | h | h | h
 ·rw [qfl k 0 h, qb3 k 1 (by omega), qb3 k 2 (by omega), qb3 k 3 (by omega)]; exact qzh _ _ _ _ k (by omega) (by omega) w
 ·rw [qb3 k 0 (by omega), qfl k 1 h, qb3 k 2 (by omega), qb3 k 3 (by omega)]; exact qzi _ _ _ _ k (by omega) (by omega) w
 ·rw [qb3 k 0 (by omega), qb3 k 1 (by omega), qfl k 2 h, qb3 k 3 (by omega)]; exact qzj _ _ _ _ k (by omega) (by omega) w
 ·rw [qb3 k 0 (by omega), qb3 k 1 (by omega), qb3 k 2 (by omega), qfl k 3 h]; exact qzk _ _ _ _ k (by omega) (by omega) w
theorem qnv (w : World) : Calls Tryz.prog 122 #[.int .i64 0, .int .i64 255] w (RetV w (.tuple #[.agg #[.int .u64 18446744073709551615, .int .u64 18446744073709551615, .int .u64 18446744073709551615, .int .u64 18446744073709551615], .int .i64 0])) := by
 go_enter Tryz.func122, Tryz.ntmps122
 go_wp2_with fail
 have O0 : Hid (Off Nob w ((w.alloc (.cells #[.int .u64 0, .int .u64 0, .int .u64 0, .int .u64 0] 73)).alloc (.cells #[.int .u64 0, .int .u64 0, .int .u64 0, .int .u64 0] 73))) := hID (oAl (oAl oRf _) _)
 have B0 : Hid (Blk ((w.alloc (.cells #[.int .u64 0, .int .u64 0, .int .u64 0, .int .u64 0] 73)).alloc (.cells #[.int .u64 0, .int .u64 0, .int .u64 0, .int .u64 0] 73)) (w.heap.size + 1) 73 (allC 0).toArray) := hID (qbn _ _ _ _)
 have R0 : Hid (Blk ((w.alloc (.cells #[.int .u64 0, .int .u64 0, .int .u64 0, .int .u64 0] 73)).alloc (.cells #[.int .u64 0, .int .u64 0, .int .u64 0, .int .u64 0] 73)) w.heap.size 73 #[.int .u64 0, .int .u64 0, .int .u64 0, .int .u64 0]) := hID ((Blk.new _ _ _).alloc _)
 revert O0 B0 R0
 generalize ((w.alloc (.cells #[.int .u64 0, .int .u64 0, .int .u64 0, .int .u64 0] 73)).alloc (.cells #[.int .u64 0, .int .u64 0, .int .u64 0, .int .u64 0] 73)) = w0
 intro O0 B0 R0
 go_loopw [7] (fun i wr => ∃ k : Nat, k ≤ 256 ∧ i = .int .i64 (k : Int) ∧ Off Nob w wr ∧ Blk wr (w.heap.size + 1) 73 (allC k).toArray ∧ Blk wr w.heap.size 73 #[.int .u64 0, .int .u64 0, .int .u64 0, .int .u64 0]) (fun i _ => 256 - (intOf i).toNat)
 case atStart => exact ⟨0, Nat.zero_le _, rfl, O0.out, B0.out, R0.out⟩
 case round =>
  obtain ⟨k, hk, rfl, ho, hb, hr⟩ := hrel
  have HO := hID ho
  have HB := hID hb
  have HR := hID hr
  have t0 := hb.cell 0
  have t1 := hb.cell 1
  have t2 := hb.cell 2
  have t3 := hb.cell 3
  unfold allC at t0 t1 t2 t3
  simp only [qG] at t0 t1 t2 t3
  clear ho hb hr O0 B0 R0
  by_cases hlt : k < 256
  ·have hAD : Hid (∀ w, Calls Tryz.prog 65 #[.agg #[.int .u64 (allW k 0), .int .u64 (allW k 1), .int .u64 (allW k 2), .int .u64 (allW k 3)], .int .u8 (k : Int)] w (RetV w (.agg #[.int .u64 (allW (k + 1) 0), .int .u64 (allW (k + 1) 1), .int .u64 (allW (k + 1) 2), .int .u64 (allW (k + 1) 3)]))) := hID (fun w => qsa k hlt w)
   have hAC : Hid (allC (k + 1) = [.int .u64 (allW (k + 1) 0), .int .u64 (allW (k + 1) 1), .int .u64 (allW (k + 1) 2), .int .u64 (allW (k + 1) 3)]) := hID rfl
   have hd : decide ((k : Int) ≤ 255) = true := dcT
   have hd2 : decide ((255 : Int) < (k : Int)) = false := dcF
   go_wp2_with fail
   refine (hAD.out _).mono ?_
   rintro e w1 ⟨rfl, o1⟩
   have O1 := hID (HO.out.also o1)
   have B1 := hID (HB.out.to (o1.block _ HB.out.lt (fun h => h)))
   have R1 := hID (HR.out.to (o1.block _ HR.out.lt (fun h => h)))
   clear o1 HO HB HR t0 t1 t2 t3
   have t0 := B1.out.cell 0
   have t1 := B1.out.cell 1
   have t2 := B1.out.cell 2
   have t3 := B1.out.cell 3
   unfold allC at t0 t1 t2 t3
   simp only [qG] at t0 t1 t2 t3
   have f0 := B1.out.frozen 0
   have f1 := B1.out.frozen 1
   have f2 := B1.out.frozen 2
   have f3 := B1.out.frozen 3
   have B2 : Hid (Blk (w1.setCells (w.heap.size + 1) 0 (allC (k + 1))) (w.heap.size + 1) 73 (allC (k + 1)).toArray) := hID (by unfold allC at B1 ⊢; exact qbz B1.out _ _ _ _)
   have O2 := hID (qax O1.out (g := w.heap.size + 1) (Nat.le_succ _) 0 (allC (k + 1)))
   have R2 := hID (qdx R1.out (g := w.heap.size + 1) (by omega) 0 (allC (k + 1)))
   rw [hAC.out] at O2 R2
   have B3 : Hid (Blk (w1.setCells (w.heap.size + 1) 0 [.int .u64 (allW (k + 1) 0), .int .u64 (allW (k + 1) 1), .int .u64 (allW (k + 1) 2), .int .u64 (allW (k + 1) 3)]) (w.heap.size + 1) 73 (allC (k + 1)).toArray) := B2
   clear O1 B1 R1 B2 hAD hAC
   go_wp2_with fail
   go_roundw
   case rel => exact ⟨k + 1, by omega, by go_num, O2.out, B3.out, R2.out⟩
   case measure => simp [intOf]; omega
  ·obtain rfl : k = 256 := by omega
   have e0 : allW 256 0 = 18446744073709551615 := rfl
   have e1 : allW 256 1 = 18446744073709551615 := rfl
   have e2 : allW 256 2 = 18446744073709551615 := rfl
   have e3 : allW 256 3 = 18446744073709551615 := rfl
   rw [e0] at t0
   rw [e1] at t1
   rw [e2] at t2
   rw [e3] at t3
   have s0 := HR.out.cell 0
   have s1 := HR.out.cell 1
   have s2 := HR.out.cell 2
   have s3 := HR.out.cell 3
   simp only [qG] at s0 s1 s2 s3
   have f0 := HR.out.frozen 0
   have f1 := HR.out.frozen 1
   have f2 := HR.out.frozen 2
   have f3 := HR.out.frozen 3
   have RR : Hid (Blk (wr.setCells w.heap.size 0 [.int .u64 18446744073709551615, .int .u64 18446744073709551615, .int .u64 18446744073709551615, .int .u64 18446744073709551615]) w.heap.size 73 #[.int .u64 18446744073709551615, .int .u64 18446744073709551615, .int .u64 18446744073709551615, .int .u64 18446744073709551615] ∧ Off Nob w (wr.setCells w.heap.size 0 [.int .u64 18446744073709551615, .int .u64 18446744073709551615, .int .u64 18446744073709551615, .int .u64 18446744073709551615])) := hID ⟨qbz HR.out _ _ _ _, qax HO.out (Nat.le_refl _) _ _⟩
   clear e0 e1 e2 e3
   go_wp2_with fail
   exact bodyPost_ret (qac rfl _ _ _ _ _ (0, 0) _ rfl RR.out.1 Tryz.underlying73 rfl Tryz.infoCl) rfl ⟨rfl, RR.out.2⟩
theorem qut (w : World) : Calls Tryz.prog 116 #[] w (RetV w (.agg #[.int .u64 18446744073709551615, .int .u64 18446744073709551615, .int .u64 18446744073709551615, .int .u64 18446744073709551615])) := by
 go_enter Tryz.func116, Tryz.ntmps116
 go_wp2_with fail
 have hb := Blk.new w 73 #[.int .u64 0, .int .u64 0, .int .u64 0, .int .u64 0]
 refine (qnv _).mono ?_
 rintro e w1 ⟨rfl, o1⟩
 have B1 := hID (hb.to (o1.block _ hb.lt (fun h => h)))
 have O1 := hID ((oAl (Off.refl Nob w) (.cells #[.int .u64 0, .int .u64 0, .int .u64 0, .int .u64 0] 73)).also o1)
 clear hb o1
 have BB := hID (B1.out.alloc (.cells #[.int .u64 18446744073709551615, .int .u64 18446744073709551615, .int .u64 18446744073709551615, .int .u64 18446744073709551615] 73))
 have t0 := BB.out.cell 0
 have t1 := BB.out.cell 1
 have t2 := BB.out.cell 2
 have t3 := BB.out.cell 3
 simp only [qG] at t0 t1 t2 t3
 have f0 := BB.out.frozen 0
 have f1 := BB.out.frozen 1
 have f2 := BB.out.frozen 2
 have f3 := BB.out.frozen 3
 have RR := hID (And.intro (qbz BB.out (.int .u64 18446744073709551615) (.int .u64 18446744073709551615) (.int .u64 18446744073709551615) (.int .u64 18446744073709551615)) (qax (O1.out.alloc (.cells #[.int .u64 18446744073709551615, .int .u64 18446744073709551615, .int .u64 18446744073709551615, .int .u64 18446744073709551615] 73)) (Nat.le_refl _) 0 [.int .u64 18446744073709551615, .int .u64 18446744073709551615, .int .u64 18446744073709551615, .int .u64 18446744073709551615]))
 go_wp2_with fail
 exact bodyPost_ret (results_cell_row rfl _ _ _ _ _ (0, 0) _ rfl RR.out.1 Tryz.underlying73 rfl Tryz.infoCl) rfl ⟨rfl, RR.out.2⟩
end
section
open Go.RowKit
theorem qga (w : World) : Calls Tryz.prog 127 #[.agg #[.int .i64 1, .int .i64 0, .int .i64 0, .int .i64 0, .string ⟨#[]⟩, .int .u64 0, .int .u64 0, .int .u64 0, .int .u64 0]] w (RetV w (.int .i64 0)) := by
 have hq : ∀ w : World, (binOp .neq 73 (.agg #[.int .u64 0, .int .u64 0, .int .u64 0, .int .u64 0]) (.agg #[.int .u64 0, .int .u64 0, .int .u64 0, .int .u64 0])).run Tryz.prog w = .ok (.bool false) w := fun _ => by kernel_rfl
 go_enter Tryz.func127, Tryz.ntmps127
 go_wp2_with fail
 go_ret
 exact ⟨rfl, oAl oRf _⟩
theorem qg7 (w : World) : Calls Tryz.prog 128 #[.agg #[.int .i64 1, .int .i64 0, .int .i64 0, .int .i64 0, .string ⟨#[]⟩, .int .u64 0, .int .u64 0, .int .u64 0, .int .u64 0]] w (RetV w (.string ⟨#[114, 117, 108, 101]⟩)) := by
 go_enter Tryz.func128, Tryz.ntmps128
 go_wp2_with fail
 go_ret
 exact ⟨rfl, oAl oRf _⟩
theorem qlb (w : World) : Calls Tryz.prog 127 #[.agg #[.int .i64 3, .int .i64 0, .int .i64 0, .int .i64 5, .string ⟨#[]⟩, .int .u64 0, .int .u64 0, .int .u64 0, .int .u64 0]] w (RetV w (.int .i64 0)) := by
 have hq : ∀ w : World, (binOp .neq 73 (.agg #[.int .u64 0, .int .u64 0, .int .u64 0, .int .u64 0]) (.agg #[.int .u64 0, .int .u64 0, .int .u64 0, .int .u64 0])).run Tryz.prog w = .ok (.bool false) w := fun _ => by kernel_rfl
 go_enter Tryz.func127, Tryz.ntmps127
 go_wp2_with fail
 go_ret
 exact ⟨rfl, oAl oRf _⟩
theorem qm3 (w : World) : Calls Tryz.prog 128 #[.agg #[.int .i64 3, .int .i64 0, .int .i64 0, .int .i64 5, .string ⟨#[]⟩, .int .u64 0, .int .u64 0, .int .u64 0, .int .u64 0]] w (RetV w (.string ⟨#[53]⟩)) := by
 go_enter Tryz.func128, Tryz.ntmps128
 go_wp2_with fail
 refine (qpo _).mono ?_
 rintro e w1 ⟨rfl, o1⟩
 have O1 := hID ((oAl (Off.refl Nob w) (.cells #[.int .i64 3, .int .i64 0, .int .i64 0, .int .i64 5, .string ⟨#[]⟩, .int .u64 0, .int .u64 0, .int .u64 0, .int .u64 0] 186)).also o1)
 clear o1
 go_wp2_with fail
 go_ret
 exact ⟨rfl, O1.out⟩
theorem qm4 (w : World) : Calls Tryz.prog 127 #[.agg #[.int .i64 4, .int .i64 0, .int .i64 0, .int .i64 0, .string ⟨#[97, 98]⟩, .int .u64 0, .int .u64 0, .int .u64 0, .int .u64 0]] w (RetV w (.int .i64 0)) := by
 have hq : ∀ w : World, (binOp .neq 73 (.agg #[.int .u64 0, .int .u64 0, .int .u64 0, .int .u64 0]) (.agg #[.int .u64 0, .int .u64 0, .int .u64 0, .int .u64 0])).run Tryz.prog w = .ok (.bool false) w := fun _ => by kernel_rfl
 go_enter Tryz.func127, Tryz.ntmps127
 go_wp2_with fail
 go_ret
 exact ⟨rfl, oAl oRf _⟩
theorem qnw (w : World) : Calls Tryz.prog 128 #[.agg #[.int .i64 4, .int .i64 0, .int .i64 0, .int .i64 0, .string ⟨#[97, 98]⟩, .int .u64 0, .int .u64 0, .int .u64 0, .int .u64 0]] w (RetV w (.string ⟨#[34, 97, 98, 34]⟩)) := by
 go_enter Tryz.func128, Tryz.ntmps128
 go_wp2_with fail
 refine (qps _).mono ?_
 rintro e w1 ⟨rfl, o1⟩
 have O1 := hID ((oAl (Off.refl Nob w) (.cells #[.int .i64 4, .int .i64 0, .int .i64 0, .int .i64 0, .string ⟨#[97, 98]⟩, .int .u64 0, .int .u64 0, .int .u64 0, .int .u64 0] 186)).also o1)
 clear o1
 go_wp2_with fail
 go_ret
 exact ⟨rfl, O1.out⟩
theorem qlc (w : World) : Calls Tryz.prog 127 #[.agg #[.int .i64 3, .int .i64 0, .int .i64 0, .int .i64 9, .string ⟨#[]⟩, .int .u64 0, .int .u64 0, .int .u64 0, .int .u64 0]] w (RetV w (.int .i64 0)) := by
 have hq : ∀ w : World, (binOp .neq 73 (.agg #[.int .u64 0, .int .u64 0, .int .u64 0, .int .u64 0]) (.agg #[.int .u64 0, .int .u64 0, .int .u64 0, .int .u64 0])).run Tryz.prog w = .ok (.bool false) w := fun _ => by kernel_rfl
 go_enter Tryz.func127, Tryz.ntmps127
 go_wp2_with fail
 go_ret
 exact ⟨rfl, oAl oRf _⟩
theorem qm5 (w : World) : Calls Tryz.prog 128 #[.agg #[.int .i64 3, .int .i64 0, .int .i64 0, .int .i64 9, .string ⟨#[]⟩, .int .u64 0, .int .u64 0, .int .u64 0, .int .u64 0]] w (RetV w (.string ⟨#[57]⟩)) := by
 go_enter Tryz.func128, Tryz.ntmps128
 go_wp2_with fail
 refine (qpp _).mono ?_
 rintro e w1 ⟨rfl, o1⟩
 have O1 := hID ((oAl (Off.refl Nob w) (.cells #[.int .i64 3, .int .i64 0, .int .i64 0, .int .i64 9, .string ⟨#[]⟩, .int .u64 0, .int .u64 0, .int .u64 0, .int .u64 0] 186)).also o1)
 clear o1
 go_wp2_with fail
 go_ret
 exact ⟨rfl, O1.out⟩
theorem qm6 (w : World) : Calls Tryz.prog 127 #[.agg #[.int .i64 6, .int .i64 0, .int .i64 0, .int .i64 0, .string ⟨#[]⟩, .int .u64 0, .int .u64 25769803776, .int .u64 0, .int .u64 0]] w (RetV w (.int .i64 0)) := by
 have hq : ∀ w : World, (binOp .neq 73 (.agg #[.int .u64 0, .int .u64 0, .int .u64 0, .int .u64 0]) (.agg #[.int .u64 0, .int .u64 0, .int .u64 0, .int .u64 0])).run Tryz.prog w = .ok (.bool false) w := fun _ => by kernel_rfl
 go_enter Tryz.func127, Tryz.ntmps127
 go_wp2_with fail
 go_ret
 exact ⟨rfl, oAl oRf _⟩
theorem qnx (w : World) : Calls Tryz.prog 128 #[.agg #[.int .i64 6, .int .i64 0, .int .i64 0, .int .i64 0, .string ⟨#[]⟩, .int .u64 0, .int .u64 25769803776, .int .u64 0, .int .u64 0]] w (RetV w (.string ⟨#[91, 97, 98, 93]⟩)) := by
 go_enter Tryz.func128, Tryz.ntmps128
 go_wp2_with fail
 have hq : ∀ w : World, (binOp .eql 73 (.agg #[.int .u64 0, .int .u64 25769803776, .int .u64 0, .int .u64 0]) (.agg #[.int .u64 18446744073709551615, .int .u64 18446744073709551615, .int .u64 18446744073709551615, .int .u64 18446744073709551615])).run Tryz.prog w = .ok (.bool false) w := fun _ => by kernel_rfl
 have HB0 : Hid (Blk (w.alloc (.cells #[.int .i64 6, .int .i64 0, .int .i64 0, .int .i64 0, .string ⟨#[]⟩, .int .u64 0, .int .u64 25769803776, .int .u64 0, .int .u64 0] 186)) w.heap.size 186 #[.int .i64 6, .int .i64 0, .int .i64 0, .int .i64 0, .string ⟨#[]⟩, .int .u64 0, .int .u64 25769803776, .int .u64 0, .int .u64 0] ∧ Off Nob w (w.alloc (.cells #[.int .i64 6, .int .i64 0, .int .i64 0, .int .i64 0, .string ⟨#[]⟩, .int .u64 0, .int .u64 25769803776, .int .u64 0, .int .u64 0] 186))) := hID ⟨Blk.new _ _ _, oAl oRf _⟩
 revert HB0
 generalize w.alloc (.cells #[.int .i64 6, .int .i64 0, .int .i64 0, .int .i64 0, .string ⟨#[]⟩, .int .u64 0, .int .u64 25769803776, .int .u64 0, .int .u64 0] 186) = w0
 intro HB0
 have GC : Hid (∀ W, Off Nob w0 W → W.cell? ⟨w.heap.size, 5, none⟩ = some (.int .u64 0) ∧ W.cell? ⟨w.heap.size, 6, none⟩ = some (.int .u64 25769803776) ∧ W.cell? ⟨w.heap.size, 7, none⟩ = some (.int .u64 0) ∧ W.cell? ⟨w.heap.size, 8, none⟩ = some (.int .u64 0)) := hID (fun W ho => by
  have h := HB0.out.1.to (ho.block _ HB0.out.1.lt (fun h => h))
  exact ⟨h.cell 5, h.cell 6, h.cell 7, h.cell 8⟩)
 obtain ⟨c5, c6, c7, c8⟩ := GC.out _ oRf
 have OX : Hid (Off Nob w0 w0) := hID oRf
 go_region_held3 (fun W => W.cell? ⟨w.heap.size, 5, none⟩ = some (.int .u64 0) ∧ W.cell? ⟨w.heap.size, 6, none⟩ = some (.int .u64 25769803776) ∧ W.cell? ⟨w.heap.size, 7, none⟩ = some (.int .u64 0) ∧ W.cell? ⟨w.heap.size, 8, none⟩ = some (.int .u64 0))
  (first | with_reducible assumption | go_keep)
  (first
   | (go_at_call 116; refine (qut _).mono ?_; rintro e w' ⟨rfl, o1⟩; have OY : Hid (Off Nob w0 w') := hID (Off.also (show Off Nob w0 _ by first | with_reducible exact OX.out | with_reducible exact Off.drew OX.out | with_reducible exact Off.drewN OX.out _) o1); have kq := GC.out _ OY.out; clear o1 OX; have OX := hID OY.out; clear OY))
 clear c5 c6 c7 c8
 obtain ⟨c5, c6, c7, c8⟩ := GC.out _ OX.out
 go_wp2_with fail
 refine (qpr _).mono ?_
 rintro e w2 ⟨rfl, o2⟩
 have O2 := hID ((HB0.out.2.also OX.out).also o2)
 clear o2
 go_wp2_with fail
 go_ret
 exact ⟨rfl, O2.out⟩
theorem qld (w : World) (v : Value) (hv : Rd w (fun _ => True) 9 v 3 tk_a) : Calls Tryz.prog 125 #[v] w (RetV w (.tuple #[.string ⟨#[114, 117, 108, 101, 32, 53, 32, 34, 97, 98, 34]⟩, .int .i64 0, .int .i64 0])) := by
 have s__114_117_108_101 : (⟨#[]⟩ : ByteArray) ++ ⟨#[114, 117, 108, 101]⟩ = ⟨#[114, 117, 108, 101]⟩ := by decide
 have s_114_117_108_101_32 : (⟨#[114, 117, 108, 101]⟩ : ByteArray) ++ ⟨#[32]⟩ = ⟨#[114, 117, 108, 101, 32]⟩ := by decide
 have s_114_117_108_101_32_53 : (⟨#[114, 117, 108, 101, 32]⟩ : ByteArray) ++ ⟨#[53]⟩ = ⟨#[114, 117, 108, 101, 32, 53]⟩ := by decide
 have s_114_117_108_101_32_53_32 : (⟨#[114, 117, 108, 101, 32, 53]⟩ : ByteArray) ++ ⟨#[32]⟩ = ⟨#[114, 117, 108, 101, 32, 53, 32]⟩ := by decide
 have s_114_117_108_101_32_53_32_34_97_98_34 : (⟨#[114, 117, 108, 101, 32, 53, 32]⟩ : ByteArray) ++ ⟨#[34, 97, 98, 34]⟩ = ⟨#[114, 117, 108, 101, 32, 53, 32, 34, 97, 98, 34]⟩ := by decide
 obtain ⟨b, o, c, rfl, hc⟩ := hv.cellsT (by decide)
 have HC := hID hc
 clear hc hv
 go_enter Tryz.func125, Tryz.ntmps125
 go_wp2_with fail
 refine wp_loop_rounds 4 ?_
 rw [rounds_succ]
 have X0 : Hid (Off Nob w w) := hID oRf
 have c0 := HC.out _ X0.out 0 _ rfl
 have c1 := HC.out _ X0.out 1 _ rfl
 have c2 := HC.out _ X0.out 2 _ rfl
 have c3 := HC.out _ X0.out 3 _ rfl
 have c4 := HC.out _ X0.out 4 _ rfl
 have c5 := HC.out _ X0.out 5 _ rfl
 have c6 := HC.out _ X0.out 6 _ rfl
 have c7 := HC.out _ X0.out 7 _ rfl
 have c8 := HC.out _ X0.out 8 _ rfl
 simp only [Nat.add_zero] at c0
 go_wp2_with fail
 refine (qga _).mono ?_
 rintro e w1 ⟨rfl, o1⟩
 have X1 := hID (X0.out.also o1)
 clear o1 X0 c0 c1 c2 c3 c4 c5 c6 c7 c8
 go_wp2_with fail
 rw [rounds_succ]
 have c0 := HC.out _ X1.out 9 _ rfl
 have c1 := HC.out _ X1.out 10 _ rfl
 have c2 := HC.out _ X1.out 11 _ rfl
 have c3 := HC.out _ X1.out 12 _ rfl
 have c4 := HC.out _ X1.out 13 _ rfl
 have c5 := HC.out _ X1.out 14 _ rfl
 have c6 := HC.out _ X1.out 15 _ rfl
 have c7 := HC.out _ X1.out 16 _ rfl
 have c8 := HC.out _ X1.out 17 _ rfl
 go_wp2_with fail
 refine (qlb _).mono ?_
 rintro e w2 ⟨rfl, o1⟩
 have X2 := hID (X1.out.also o1)
 clear o1 X1 c0 c1 c2 c3 c4 c5 c6 c7 c8
 go_wp2_with fail
 rw [rounds_succ]
 have c0 := HC.out _ X2.out 18 _ rfl
 have c1 := HC.out _ X2.out 19 _ rfl
 have c2 := HC.out _ X2.out 20 _ rfl
 have c3 := HC.out _ X2.out 21 _ rfl
 have c4 := HC.out _ X2.out 22 _ rfl
 have c5 := HC.out _ X2.out 23 _ rfl
 have c6 := HC.out _ X2.out 24 _ rfl
 have c7 := HC.out _ X2.out 25 _ rfl
 have c8 := HC.out _ X2.out 26 _ rfl
 go_wp2_with fail
 refine (qm4 _).mono ?_
 rintro e w3 ⟨rfl, o1⟩
 have X3 := hID (X2.out.also o1)
 clear o1 X2 c0 c1 c2 c3 c4 c5 c6 c7 c8
 go_wp2_with fail
 rw [rounds_succ]
 go_wp2_with fail
 refine wp_loop_rounds 4 ?_
 rw [rounds_succ]
 have c0 := HC.out _ X3.out 0 _ rfl
 have c1 := HC.out _ X3.out 1 _ rfl
 have c2 := HC.out _ X3.out 2 _ rfl
 have c3 := HC.out _ X3.out 3 _ rfl
 have c4 := HC.out _ X3.out 4 _ rfl
 have c5 := HC.out _ X3.out 5 _ rfl
 have c6 := HC.out _ X3.out 6 _ rfl
 have c7 := HC.out _ X3.out 7 _ rfl
 have c8 := HC.out _ X3.out 8 _ rfl
 simp only [Nat.add_zero] at c0
 go_wp2_with fail
 refine (qg7 _).mono ?_
 rintro e w4 ⟨rfl, o1⟩
 have X4 := hID (X3.out.also o1)
 clear o1 X3 c0 c1 c2 c3 c4 c5 c6 c7 c8
 go_wp2_with fail
 rw [rounds_succ]
 have c0 := HC.out _ X4.out 9 _ rfl
 have c1 := HC.out _ X4.out 10 _ rfl
 have c2 := HC.out _ X4.out 11 _ rfl
 have c3 := HC.out _ X4.out 12 _ rfl
 have c4 := HC.out _ X4.out 13 _ rfl
 have c5 := HC.out _ X4.out 14 _ rfl
 have c6 := HC.out _ X4.out 15 _ rfl
 have c7 := HC.out _ X4.out 16 _ rfl
 have c8 := HC.out _ X4.out 17 _ rfl
 go_wp2_with fail
 refine (qm3 _).mono ?_
 rintro e w5 ⟨rfl, o1⟩
 have X5 := hID (X4.out.also o1)
 clear o1 X4 c0 c1 c2 c3 c4 c5 c6 c7 c8
 go_wp2_with fail
 rw [rounds_succ]
 have c0 := HC.out _ X5.out 18 _ rfl
 have c1 := HC.out _ X5.out 19 _ rfl
 have c2 := HC.out _ X5.out 20 _ rfl
 have c3 := HC.out _ X5.out 21 _ rfl
 have c4 := HC.out _ X5.out 22 _ rfl
 have c5 := HC.out _ X5.out 23 _ rfl
 have c6 := HC.out _ X5.out 24 _ rfl
 have c7 := HC.out _ X5.out 25 _ rfl
 have c8 := HC.out _ X5.out 26 _ rfl
 go_wp2_with fail
 refine (qnw _).mono ?_
 rintro e w6 ⟨rfl, o1⟩
 have X6 := hID (X5.out.also o1)
 clear o1 X5 c0 c1 c2 c3 c4 c5 c6 c7 c8
 go_wp2_with fail
 rw [rounds_succ]
 go_wp2_with fail
 go_ret3
 exact ⟨rfl, X6.out⟩
theorem qle (w : World) (v : Value) (hv : Rd w (fun _ => True) 9 v 3 tk_b) : Calls Tryz.prog 125 #[v] w (RetV w (.tuple #[.string ⟨#[114, 117, 108, 101, 32, 57, 32, 91, 97, 98, 93]⟩, .int .i64 0, .int .i64 0])) := by
 have s__114_117_108_101 : (⟨#[]⟩ : ByteArray) ++ ⟨#[114, 117, 108, 101]⟩ = ⟨#[114, 117, 108, 101]⟩ := by decide
 have s_114_117_108_101_32 : (⟨#[114, 117, 108, 101]⟩ : ByteArray) ++ ⟨#[32]⟩ = ⟨#[114, 117, 108, 101, 32]⟩ := by decide
 have s_114_117_108_101_32_57 : (⟨#[114, 117, 108, 101, 32]⟩ : ByteArray) ++ ⟨#[57]⟩ = ⟨#[114, 117, 108, 101, 32, 57]⟩ := by decide
 have s_114_117_108_101_32_57_32 : (⟨#[114, 117, 108, 101, 32, 57]⟩ : ByteArray) ++ ⟨#[32]⟩ = ⟨#[114, 117, 108, 101, 32, 57, 32]⟩ := by decide
 have s_114_117_108_101_32_57_32_91_97_98_93 : (⟨#[114, 117, 108, 101, 32, 57, 32]⟩ : ByteArray) ++ ⟨#[91, 97, 98, 93]⟩ = ⟨#[114, 117, 108, 101, 32, 57, 32, 91, 97, 98, 93]⟩ := by decide
 obtain ⟨b, o, c, rfl, hc⟩ := hv.cellsT (by decide)
 have HC := hID hc
 clear hc hv
 go_enter Tryz.func125, Tryz.ntmps125
 go_wp2_with fail
 refine wp_loop_rounds 4 ?_
 rw [rounds_succ]
 have X0 : Hid (Off Nob w w) := hID oRf
 have c0 := HC.out _ X0.out 0 _ rfl
 have c1 := HC.out _ X0.out 1 _ rfl
 have c2 := HC.out _ X0.out 2 _ rfl
 have c3 := HC.out _ X0.out 3 _ rfl
 have c4 := HC.out _ X0.out 4 _ rfl
 have c5 := HC.out _ X0.out 5 _ rfl
 have c6 := HC.out _ X0.out 6 _ rfl
 have c7 := HC.out _ X0.out 7 _ rfl
 have c8 := HC.out _ X0.out 8 _ rfl
 simp only [Nat.add_zero] at c0
 go_wp2_with fail
 refine (qga _).mono ?_
 rintro e w1 ⟨rfl, o1⟩
 have X1 := hID (X0.out.also o1)
 clear o1 X0 c0 c1 c2 c3 c4 c5 c6 c7 c8
 go_wp2_with fail
 rw [rounds_succ]
 have c0 := HC.out _ X1.out 9 _ rfl
 have c1 := HC.out _ X1.out 10 _ rfl
 have c2 := HC.out _ X1.out 11 _ rfl
 have c3 := HC.out _ X1.out 12 _ rfl
 have c4 := HC.out _ X1.out 13 _ rfl
 have c5 := HC.out _ X1.out 14 _ rfl
 have c6 := HC.out _ X1.out 15 _ rfl
 have c7 := HC.out _ X1.out 16 _ rfl
 have c8 := HC.out _ X1.out 17 _ rfl
 go_wp2_with fail
 refine (qlc _).mono ?_
 rintro e w2 ⟨rfl, o1⟩
 have X2 := hID (X1.out.also o1)
 clear o1 X1 c0 c1 c2 c3 c4 c5 c6 c7 c8
 go_wp2_with fail
 rw [rounds_succ]
 have c0 := HC.out _ X2.out 18 _ rfl
 have c1 := HC.out _ X2.out 19 _ rfl
 have c2 := HC.out _ X2.out 20 _ rfl
 have c3 := HC.out _ X2.out 21 _ rfl
 have c4 := HC.out _ X2.out 22 _ rfl
 have c5 := HC.out _ X2.out 23 _ rfl
 have c6 := HC.out _ X2.out 24 _ rfl
 have c7 := HC.out _ X2.out 25 _ rfl
 have c8 := HC.out _ X2.out 26 _ rfl
 go_wp2_with fail
 refine (qm6 _).mono ?_
 rintro e w3 ⟨rfl, o1⟩
 have X3 := hID (X2.out.also o1)
 clear o1 X2 c0 c1 c2 c3 c4 c5 c6 c7 c8
 go_wp2_with fail
 rw [rounds_succ]
 go_wp2_with fail
 refine wp_loop_rounds 4 ?_
 rw [rounds_succ]
 have c0 := HC.out _ X3.out 0 _ rfl
 have c1 := HC.out _ X3.out 1 _ rfl
 have c2 := HC.out _ X3.out 2 _ rfl
 have c3 := HC.out _ X3.out 3 _ rfl
 have c4 := HC.out _ X3.out 4 _ rfl
 have c5 := HC.out _ X3.out 5 _ rfl
 have c6 := HC.out _ X3.out 6 _ rfl
 have c7 := HC.out _ X3.out 7 _ rfl
 have c8 := HC.out _ X3.out 8 _ rfl
 simp only [Nat.add_zero] at c0
 go_wp2_with fail
 refine (qg7 _).mono ?_
 rintro e w4 ⟨rfl, o1⟩
 have X4 := hID (X3.out.also o1)
 clear o1 X3 c0 c1 c2 c3 c4 c5 c6 c7 c8
 go_wp2_with fail
 rw [rounds_succ]
 have c0 := HC.out _ X4.out 9 _ rfl
 have c1 := HC.out _ X4.out 10 _ rfl
 have c2 := HC.out _ X4.out 11 _ rfl
 have c3 := HC.out _ X4.out 12 _ rfl
 have c4 := HC.out _ X4.out 13 _ rfl
 have c5 := HC.out _ X4.out 14 _ rfl
 have c6 := HC.out _ X4.out 15 _ rfl
 have c7 := HC.out _ X4.out 16 _ rfl
 have c8 := HC.out _ X4.out 17 _ rfl
 go_wp2_with fail
 refine (qm5 _).mono ?_
 rintro e w5 ⟨rfl, o1⟩
 have X5 := hID (X4.out.also o1)
 clear o1 X4 c0 c1 c2 c3 c4 c5 c6 c7 c8
 go_wp2_with fail
 rw [rounds_succ]
 have c0 := HC.out _ X5.out 18 _ rfl
 have c1 := HC.out _ X5.out 19 _ rfl
 have c2 := HC.out _ X5.out 20 _ rfl
 have c3 := HC.out _ X5.out 21 _ rfl
 have c4 := HC.out _ X5.out 22 _ rfl
 have c5 := HC.out _ X5.out 23 _ rfl
 have c6 := HC.out _ X5.out 24 _ rfl
 have c7 := HC.out _ X5.out 25 _ rfl
 have c8 := HC.out _ X5.out 26 _ rfl
 go_wp2_with fail
 refine (qnx _).mono ?_
 rintro e w6 ⟨rfl, o1⟩
 have X6 := hID (X5.out.also o1)
 clear o1 X5 c0 c1 c2 c3 c4 c5 c6 c7 c8
 go_wp2_with fail
 rw [rounds_succ]
 go_wp2_with fail
 go_ret3
 exact ⟨rfl, X6.out⟩
end
section
open Go.RowKit
theorem qhr (n : Nat) (h : n ≤ 999999999) (w : World) : Calls Tryz.prog 123 #[.int .i64 (n : Int)] w (RetV w (.bool true)) := by
 have h0 : decide ((n : Int) ≤ 999999999) = true := dcT
 go_enter Tryz.func123, Tryz.ntmps123
 go_wp2_with fail
 go_ret
 exact ⟨rfl, Off.refl _ _⟩
theorem qek (w : World) : Calls Tryz.prog 123 #[.int .i64 0] w (RetV w (.bool true)) := qhr 0 (by decide) w
theorem qsb (w : World) : Calls Tryz.prog 123 #[.int .i64 5] w (RetV w (.bool true)) := qhr 5 (by decide) w
theorem qsc (w : World) : Calls Tryz.prog 123 #[.int .i64 9] w (RetV w (.bool true)) := qhr 9 (by decide) w
theorem qsd (w : World) : Calls Tryz.prog 124 #[.agg #[.int .i64 1, .string ⟨#[97, 98]⟩, .int .u64 0, .int .u64 0, .int .u64 0, .int .u64 0, .int .i64 0, .int .i64 0]] w (RetV w (.int .i64 0)) := by
 have hq : ∀ w : World, (binOp .neq 73 (.agg #[.int .u64 0, .int .u64 0, .int .u64 0, .int .u64 0]) (.agg #[.int .u64 0, .int .u64 0, .int .u64 0, .int .u64 0])).run Tryz.prog w = .ok (.bool false) w := fun _ => by kernel_rfl
 go_enter Tryz.func124, Tryz.ntmps124
 go_wp2_with fail
 have HB0 : Hid (Blk (w.alloc (.cells #[.int .i64 1, .string ⟨#[97, 98]⟩, .int .u64 0, .int .u64 0, .int .u64 0, .int .u64 0, .int .i64 0, .int .i64 0] 126)) w.heap.size 126 #[.int .i64 1, .string ⟨#[97, 98]⟩, .int .u64 0, .int .u64 0, .int .u64 0, .int .u64 0, .int .i64 0, .int .i64 0] ∧ Off Nob w (w.alloc (.cells #[.int .i64 1, .string ⟨#[97, 98]⟩, .int .u64 0, .int .u64 0, .int .u64 0, .int .u64 0, .int .i64 0, .int .i64 0] 126))) := hID ⟨Blk.new _ _ _, oAl oRf _⟩
 revert HB0
 generalize w.alloc (.cells #[.int .i64 1, .string ⟨#[97, 98]⟩, .int .u64 0, .int .u64 0, .int .u64 0, .int .u64 0, .int .i64 0, .int .i64 0] 126) = w0
 intro HB0
 have GC : Hid (∀ W, Off Nob w0 W → W.cell? ⟨w.heap.size, 0, none⟩ = some (.int .i64 1) ∧ W.cell? ⟨w.heap.size, 1, none⟩ = some (.string ⟨#[97, 98]⟩) ∧ W.cell? ⟨w.heap.size, 2, none⟩ = some (.int .u64 0) ∧ W.cell? ⟨w.heap.size, 3, none⟩ = some (.int .u64 0) ∧ W.cell? ⟨w.heap.size, 4, none⟩ = some (.int .u64 0) ∧ W.cell? ⟨w.heap.size, 5, none⟩ = some (.int .u64 0) ∧ W.cell? ⟨w.heap.size, 6, none⟩ = some (.int .i64 0) ∧ W.cell? ⟨w.heap.size, 7, none⟩ = some (.int .i64 0)) := hID (fun W ho => by
  have h := HB0.out.1.to (ho.block _ HB0.out.1.lt (fun h => h))
  exact ⟨h.cell 0, h.cell 1, h.cell 2, h.cell 3, h.cell 4, h.cell 5, h.cell 6, h.cell 7⟩)
 have X0 : Hid (Off Nob w0 w0) := hID oRf
 obtain ⟨c0, c1, c2, c3, c4, c5, c6, c7⟩ := GC.out _ X0.out
 go_wp2_with fail
 refine (qek _).mono ?_
 rintro e w1 ⟨rfl, o1⟩
 have X1 := hID (X0.out.also o1)
 clear o1 X0
 clear c0 c1 c2 c3 c4 c5 c6 c7
 obtain ⟨c0, c1, c2, c3, c4, c5, c6, c7⟩ := GC.out _ X1.out
 go_wp2_with fail
 refine (qek _).mono ?_
 rintro e w2 ⟨rfl, o1⟩
 have X2 := hID (X1.out.also o1)
 clear o1 X1
 clear c0 c1 c2 c3 c4 c5 c6 c7
 obtain ⟨c0, c1, c2, c3, c4, c5, c6, c7⟩ := GC.out _ X2.out
 go_wp2_with fail
 go_ret
 exact ⟨rfl, HB0.out.2.also X2.out⟩
theorem qse (w : World) : Calls Tryz.prog 124 #[.agg #[.int .i64 3, .string ⟨#[]⟩, .int .u64 0, .int .u64 25769803776, .int .u64 0, .int .u64 0, .int .i64 0, .int .i64 0]] w (RetV w (.int .i64 0)) := by
 have hq : ∀ w : World, (binOp .neq 73 (.agg #[.int .u64 0, .int .u64 0, .int .u64 0, .int .u64 0]) (.agg #[.int .u64 0, .int .u64 0, .int .u64 0, .int .u64 0])).run Tryz.prog w = .ok (.bool false) w := fun _ => by kernel_rfl
 go_enter Tryz.func124, Tryz.ntmps124
 go_wp2_with fail
 have HB0 : Hid (Blk (w.alloc (.cells #[.int .i64 3, .string ⟨#[]⟩, .int .u64 0, .int .u64 25769803776, .int .u64 0, .int .u64 0, .int .i64 0, .int .i64 0] 126)) w.heap.size 126 #[.int .i64 3, .string ⟨#[]⟩, .int .u64 0, .int .u64 25769803776, .int .u64 0, .int .u64 0, .int .i64 0, .int .i64 0] ∧ Off Nob w (w.alloc (.cells #[.int .i64 3, .string ⟨#[]⟩, .int .u64 0, .int .u64 25769803776, .int .u64 0, .int .u64 0, .int .i64 0, .int .i64 0] 126))) := hID ⟨Blk.new _ _ _, oAl oRf _⟩
 revert HB0
 generalize w.alloc (.cells #[.int .i64 3, .string ⟨#[]⟩, .int .u64 0, .int .u64 25769803776, .int .u64 0, .int .u64 0, .int .i64 0, .int .i64 0] 126) = w0
 intro HB0
 have GC : Hid (∀ W, Off Nob w0 W → W.cell? ⟨w.heap.size, 0, none⟩ = some (.int .i64 3) ∧ W.cell? ⟨w.heap.size, 1, none⟩ = some (.string ⟨#[]⟩) ∧ W.cell? ⟨w.heap.size, 2, none⟩ = some (.int .u64 0) ∧ W.cell? ⟨w.heap.size, 3, none⟩ = some (.int .u64 25769803776) ∧ W.cell? ⟨w.heap.size, 4, none⟩ = some (.int .u64 0) ∧ W.cell? ⟨w.heap.size, 5, none⟩ = some (.int .u64 0) ∧ W.cell? ⟨w.heap.size, 6, none⟩ = some (.int .i64 0) ∧ W.cell? ⟨w.heap.size, 7, none⟩ = some (.int .i64 0)) := hID (fun W ho => by
  have h := HB0.out.1.to (ho.block _ HB0.out.1.lt (fun h => h))
  exact ⟨h.cell 0, h.cell 1, h.cell 2, h.cell 3, h.cell 4, h.cell 5, h.cell 6, h.cell 7⟩)
 have X0 : Hid (Off Nob w0 w0) := hID oRf
 obtain ⟨c0, c1, c2, c3, c4, c5, c6, c7⟩ := GC.out _ X0.out
 go_wp2_with fail
 refine (qek _).mono ?_
 rintro e w1 ⟨rfl, o1⟩
 have X1 := hID (X0.out.also o1)
 clear o1 X0
 clear c0 c1 c2 c3 c4 c5 c6 c7
 obtain ⟨c0, c1, c2, c3, c4, c5, c6, c7⟩ := GC.out _ X1.out
 go_wp2_with fail
 refine (qek _).mono ?_
 rintro e w2 ⟨rfl, o1⟩
 have X2 := hID (X1.out.also o1)
 clear o1 X1
 clear c0 c1 c2 c3 c4 c5 c6 c7
 obtain ⟨c0, c1, c2, c3, c4, c5, c6, c7⟩ := GC.out _ X2.out
 go_wp2_with fail
 go_ret
 exact ⟨rfl, HB0.out.2.also X2.out⟩
theorem qny (w : World) (v : Value) (hv : Rd w (fun _ => True) 8 v 1 el_a) : Calls Tryz.prog 117 #[.agg #[.int .i64 5, v]] w (RetV w (.tuple #[.int .i64 0, .int .i64 0])) := by
 have HV0 := hID hv
 obtain ⟨b, o, c, rfl, hc⟩ := hv.cellsT (by decide)
 have HV := HV0
 have HC := hID hc
 clear hc hv HV0
 go_enter Tryz.func117, Tryz.ntmps117
 go_wp2_with fail
 have HB0 : Hid (Blk (w.alloc (.cells #[.int .i64 5, .slice (some ⟨b, o, none⟩) 1 c] 124)) w.heap.size 124 #[.int .i64 5, .slice (some ⟨b, o, none⟩) 1 c] ∧ Off Nob w (w.alloc (.cells #[.int .i64 5, .slice (some ⟨b, o, none⟩) 1 c] 124))) := hID ⟨Blk.new _ _ _, oAl oRf _⟩
 revert HB0
 generalize w.alloc (.cells #[.int .i64 5, .slice (some ⟨b, o, none⟩) 1 c] 124) = w0
 intro HB0
 have GC : Hid (∀ W, Off Nob w0 W → W.cell? ⟨w.heap.size, 0, none⟩ = some (.int .i64 5) ∧ W.cell? ⟨w.heap.size, 1, none⟩ = some (.slice (some ⟨b, o, none⟩) 1 c) ∧ W.cell? ⟨b, o, none⟩ = some (.int .i64 1) ∧ W.cell? ⟨b, o + 1, none⟩ = some (.string ⟨#[97, 98]⟩) ∧ W.cell? ⟨b, o + 2, none⟩ = some (.int .u64 0) ∧ W.cell? ⟨b, o + 3, none⟩ = some (.int .u64 0) ∧ W.cell? ⟨b, o + 4, none⟩ = some (.int .u64 0) ∧ W.cell? ⟨b, o + 5, none⟩ = some (.int .u64 0) ∧ W.cell? ⟨b, o + 6, none⟩ = some (.int .i64 0) ∧ W.cell? ⟨b, o + 7, none⟩ = some (.int .i64 0)) := hID (fun W ho => by
  have h := HB0.out.1.to (ho.block _ HB0.out.1.lt (fun h => h))
  have k := HC.out W (HB0.out.2.also ho)
  exact ⟨h.cell 0, h.cell 1, k 0 _ rfl, k 1 _ rfl, k 2 _ rfl, k 3 _ rfl, k 4 _ rfl, k 5 _ rfl, k 6 _ rfl, k 7 _ rfl⟩)
 have X0 : Hid (Off Nob w0 w0) := hID oRf
 obtain ⟨t0, t1, c0, c1, c2, c3, c4, c5, c6, c7⟩ := GC.out _ X0.out
 go_wp2_with fail
 refine (qsb _).mono ?_
 rintro e w1 ⟨rfl, o1⟩
 have X1 := hID (X0.out.also o1)
 clear o1 X0
 clear t0 t1 c0 c1 c2 c3 c4 c5 c6 c7
 obtain ⟨t0, t1, c0, c1, c2, c3, c4, c5, c6, c7⟩ := GC.out _ X1.out
 go_wp2_with fail
 refine wp_loop_rounds 2 ?_
 rw [rounds_succ]
 go_wp2_with fail
 refine (qsd _).mono ?_
 rintro e w2 ⟨rfl, o1⟩
 have X2 := hID (X1.out.also o1)
 clear o1 X1
 clear t0 t1 c0 c1 c2 c3 c4 c5 c6 c7
 obtain ⟨t0, t1, c0, c1, c2, c3, c4, c5, c6, c7⟩ := GC.out _ X2.out
 go_wp2_with fail
 rw [rounds_succ]
 go_wp2_with fail
 refine (qfu _ _ (HV.out.keepT (HB0.out.2.also X2.out))).mono ?_
 rintro e w3 ⟨v1, rfl, hr, o1⟩
 have X3 := hID (X2.out.also o1)
 have HT := hID hr
 obtain ⟨AA, cc, rfl, _⟩ := hr.form
 clear hr
 clear o1 X2
 clear t0 t1 c0 c1 c2 c3 c4 c5 c6 c7
 obtain ⟨t0, t1, c0, c1, c2, c3, c4, c5, c6, c7⟩ := GC.out _ X3.out
 go_wp2_with fail
 refine (qld _ _ HT.out).mono ?_
 rintro e w4 ⟨rfl, o1⟩
 have X4 := hID (X3.out.also o1)
 clear HT
 clear o1 X3
 clear t0 t1 c0 c1 c2 c3 c4 c5 c6 c7
 obtain ⟨t0, t1, c0, c1, c2, c3, c4, c5, c6, c7⟩ := GC.out _ X4.out
 go_wp2_with fail
 go_ret2
 exact ⟨rfl, HB0.out.2.also X4.out⟩
theorem qnz (w : World) (v : Value) (hv : Rd w (fun _ => True) 8 v 1 el_b) : Calls Tryz.prog 117 #[.agg #[.int .i64 9, v]] w (RetV w (.tuple #[.int .i64 0, .int .i64 0])) := by
 have HV0 := hID hv
 obtain ⟨b, o, c, rfl, hc⟩ := hv.cellsT (by decide)
 have HV := HV0
 have HC := hID hc
 clear hc hv HV0
 go_enter Tryz.func117, Tryz.ntmps117
 go_wp2_with fail
 have HB0 : Hid (Blk (w.alloc (.cells #[.int .i64 9, .slice (some ⟨b, o, none⟩) 1 c] 124)) w.heap.size 124 #[.int .i64 9, .slice (some ⟨b, o, none⟩) 1 c] ∧ Off Nob w (w.alloc (.cells #[.int .i64 9, .slice (some ⟨b, o, none⟩) 1 c] 124))) := hID ⟨Blk.new _ _ _, oAl oRf _⟩
 revert HB0
 generalize w.alloc (.cells #[.int .i64 9, .slice (some ⟨b, o, none⟩) 1 c] 124) = w0
 intro HB0
 have GC : Hid (∀ W, Off Nob w0 W → W.cell? ⟨w.heap.size, 0, none⟩ = some (.int .i64 9) ∧ W.cell? ⟨w.heap.size, 1, none⟩ = some (.slice (some ⟨b, o, none⟩) 1 c) ∧ W.cell? ⟨b, o, none⟩ = some (.int .i64 3) ∧ W.cell? ⟨b, o + 1, none⟩ = some (.string ⟨#[]⟩) ∧ W.cell? ⟨b, o + 2, none⟩ = some (.int .u64 0) ∧ W.cell? ⟨b, o + 3, none⟩ = some (.int .u64 25769803776) ∧ W.cell? ⟨b, o + 4, none⟩ = some (.int .u64 0) ∧ W.cell? ⟨b, o + 5, none⟩ = some (.int .u64 0) ∧ W.cell? ⟨b, o + 6, none⟩ = some (.int .i64 0) ∧ W.cell? ⟨b, o + 7, none⟩ = some (.int .i64 0)) := hID (fun W ho => by
  have h := HB0.out.1.to (ho.block _ HB0.out.1.lt (fun h => h))
  have k := HC.out W (HB0.out.2.also ho)
  exact ⟨h.cell 0, h.cell 1, k 0 _ rfl, k 1 _ rfl, k 2 _ rfl, k 3 _ rfl, k 4 _ rfl, k 5 _ rfl, k 6 _ rfl, k 7 _ rfl⟩)
 have X0 : Hid (Off Nob w0 w0) := hID oRf
 obtain ⟨t0, t1, c0, c1, c2, c3, c4, c5, c6, c7⟩ := GC.out _ X0.out
 go_wp2_with fail
 refine (qsc _).mono ?_
 rintro e w1 ⟨rfl, o1⟩
 have X1 := hID (X0.out.also o1)
 clear o1 X0
 clear t0 t1 c0 c1 c2 c3 c4 c5 c6 c7
 obtain ⟨t0, t1, c0, c1, c2, c3, c4, c5, c6, c7⟩ := GC.out _ X1.out
 go_wp2_with fail
 refine wp_loop_rounds 2 ?_
 rw [rounds_succ]
 go_wp2_with fail
 refine (qse _).mono ?_
 rintro e w2 ⟨rfl, o1⟩
 have X2 := hID (X1.out.also o1)
 clear o1 X1
 clear t0 t1 c0 c1 c2 c3 c4 c5 c6 c7
 obtain ⟨t0, t1, c0, c1, c2, c3, c4, c5, c6, c7⟩ := GC.out _ X2.out
 go_wp2_with fail
 rw [rounds_succ]
 go_wp2_with fail
 refine (qfv _ _ (HV.out.keepT (HB0.out.2.also X2.out))).mono ?_
 rintro e w3 ⟨v1, rfl, hr, o1⟩
 have X3 := hID (X2.out.also o1)
 have HT := hID hr
 obtain ⟨AA, cc, rfl, _⟩ := hr.form
 clear hr
 clear o1 X2
 clear t0 t1 c0 c1 c2 c3 c4 c5 c6 c7
 obtain ⟨t0, t1, c0, c1, c2, c3, c4, c5, c6, c7⟩ := GC.out _ X3.out
 go_wp2_with fail
 refine (qle _ _ HT.out).mono ?_
 rintro e w4 ⟨rfl, o1⟩
 have X4 := hID (X3.out.also o1)
 clear HT
 clear o1 X3
 clear t0 t1 c0 c1 c2 c3 c4 c5 c6 c7
 obtain ⟨t0, t1, c0, c1, c2, c3, c4, c5, c6, c7⟩ := GC.out _ X4.out
 go_wp2_with fail
 go_ret2
 exact ⟨rfl, HB0.out.2.also X4.out⟩
end
section
open Go.RowKit
theorem qpt (w : World) (v va vb : Value) (hv : Rd w (fun _ => True) 2 v 2 [.int .i64 5, va, .int .i64 9, vb]) (ha : Rd w (fun _ => True) 8 va 1 el_a) (hb : Rd w (fun _ => True) 8 vb 1 el_b) : Calls Tryz.prog 118 #[v] w (RetV w (.string ⟨#[114, 117, 108, 101, 32, 53, 32, 34, 97, 98, 34, 10, 114, 117, 108, 101, 32, 57, 32, 91, 97, 98, 93, 10]⟩)) := by
 have s_0_11_5740 : (⟨#[]⟩ : ByteArray) ++ ⟨#[114, 117, 108, 101, 32, 53, 32, 34, 97, 98, 34]⟩ = ⟨#[114, 117, 108, 101, 32, 53, 32, 34, 97, 98, 34]⟩ := by decide
 have s_11_1_890 : (⟨#[114, 117, 108, 101, 32, 53, 32, 34, 97, 98, 34]⟩ : ByteArray) ++ ⟨#[10]⟩ = ⟨#[114, 117, 108, 101, 32, 53, 32, 34, 97, 98, 34, 10]⟩ := by decide
 have s_12_11_7410 : (⟨#[114, 117, 108, 101, 32, 53, 32, 34, 97, 98, 34, 10]⟩ : ByteArray) ++ ⟨#[114, 117, 108, 101, 32, 57, 32, 91, 97, 98, 93]⟩ = ⟨#[114, 117, 108, 101, 32, 53, 32, 34, 97, 98, 34, 10, 114, 117, 108, 101, 32, 57, 32, 91, 97, 98, 93]⟩ := by decide
 have s_23_1_1840 : (⟨#[114, 117, 108, 101, 32, 53, 32, 34, 97, 98, 34, 10, 114, 117, 108, 101, 32, 57, 32, 91, 97, 98, 93]⟩ : ByteArray) ++ ⟨#[10]⟩ = ⟨#[114, 117, 108, 101, 32, 53, 32, 34, 97, 98, 34, 10, 114, 117, 108, 101, 32, 57, 32, 91, 97, 98, 93, 10]⟩ := by decide
 obtain ⟨b, o, c, rfl, hc⟩ := hv.cellsT (by decide)
 have HC := hID hc
 have Ha := hID ha
 have Hb := hID hb
 clear hc hv ha hb
 go_enter Tryz.func118, Tryz.ntmps118
 have GC : Hid (∀ W, Off Nob w W → W.cell? ⟨b, o, none⟩ = some (.int .i64 5) ∧ W.cell? ⟨b, o + 1, none⟩ = some (va) ∧ W.cell? ⟨b, o + 2, none⟩ = some (.int .i64 9) ∧ W.cell? ⟨b, o + 3, none⟩ = some (vb)) := hID (fun W ho => ⟨HC.out W ho 0 _ rfl, HC.out W ho 1 _ rfl, HC.out W ho 2 _ rfl, HC.out W ho 3 _ rfl⟩)
 have X0 : Hid (Off Nob w w) := hID oRf
 obtain ⟨c0, c1, c2, c3⟩ := GC.out _ X0.out
 go_wp2_with fail
 refine wp_loop_rounds 3 ?_
 rw [rounds_succ]
 go_wp2_with fail
 refine (qfu _ _ (Ha.out.keepT X0.out)).mono ?_
 rintro e w1 ⟨v1, rfl, hr, o1⟩
 have X1 := hID (X0.out.also o1)
 have HT := hID hr
 obtain ⟨AA, cc, rfl, _⟩ := hr.form
 clear hr
 clear o1 X0
 clear c0 c1 c2 c3
 obtain ⟨c0, c1, c2, c3⟩ := GC.out _ X1.out
 go_wp2_with fail
 refine (qld _ _ HT.out).mono ?_
 rintro e w2 ⟨rfl, o1⟩
 have X2 := hID (X1.out.also o1)
 clear HT
 clear o1 X1
 clear c0 c1 c2 c3
 obtain ⟨c0, c1, c2, c3⟩ := GC.out _ X2.out
 go_wp2_with fail
 rw [rounds_succ]
 go_wp2_with fail
 refine (qfv _ _ (Hb.out.keepT X2.out)).mono ?_
 rintro e w3 ⟨v1, rfl, hr, o1⟩
 have X3 := hID (X2.out.also o1)
 have HT := hID hr
 obtain ⟨AA, cc, rfl, _⟩ := hr.form
 clear hr
 clear o1 X2
 clear c0 c1 c2 c3
 obtain ⟨c0, c1, c2, c3⟩ := GC.out _ X3.out
 go_wp2_with fail
 refine (qle _ _ HT.out).mono ?_
 rintro e w4 ⟨rfl, o1⟩
 have X4 := hID (X3.out.also o1)
 clear HT
 clear o1 X3
 clear c0 c1 c2 c3
 obtain ⟨c0, c1, c2, c3⟩ := GC.out _ X4.out
 go_wp2_with fail
 rw [rounds_succ]
 go_wp2_with fail
 go_ret
 exact ⟨rfl, X4.out⟩
theorem qsf (w : World) (v va vb : Value) (hv : Rd w (fun _ => True) 2 v 2 [.int .i64 5, va, .int .i64 9, vb]) (ha : Rd w (fun _ => True) 8 va 1 el_a) (hb : Rd w (fun _ => True) 8 vb 1 el_b) : Calls Tryz.prog 97 #[v] w (RetV w (.tuple #[.int .i64 0, .int .i64 0, .int .i64 0])) := by
 have HV := hID hv
 obtain ⟨b, o, c, rfl, hc⟩ := hv.cellsT (by decide)
 have HC := hID hc
 have Ha := hID ha
 have Hb := hID hb
 clear hc hv ha hb
 go_enter Tryz.func97, Tryz.ntmps97
 have GC : Hid (∀ W, Off Nob w W → W.cell? ⟨b, o, none⟩ = some (.int .i64 5) ∧ W.cell? ⟨b, o + 1, none⟩ = some (va) ∧ W.cell? ⟨b, o + 2, none⟩ = some (.int .i64 9) ∧ W.cell? ⟨b, o + 3, none⟩ = some (vb)) := hID (fun W ho => ⟨HC.out W ho 0 _ rfl, HC.out W ho 1 _ rfl, HC.out W ho 2 _ rfl, HC.out W ho 3 _ rfl⟩)
 have X0 : Hid (Off Nob w w) := hID oRf
 obtain ⟨c0, c1, c2, c3⟩ := GC.out _ X0.out
 go_wp2_with fail
 refine wp_loop_rounds 3 ?_
 rw [rounds_succ]
 go_wp2_with fail
 refine (qny _ _ (Ha.out.keepT X0.out)).mono ?_
 rintro e w1 ⟨rfl, o1⟩
 have X1 := hID (X0.out.also o1)
 clear o1 X0
 clear c0 c1 c2 c3
 obtain ⟨c0, c1, c2, c3⟩ := GC.out _ X1.out
 go_wp2_with fail
 rw [rounds_succ]
 go_wp2_with fail
 refine (qnz _ _ (Hb.out.keepT X1.out)).mono ?_
 rintro e w2 ⟨rfl, o1⟩
 have X2 := hID (X1.out.also o1)
 clear o1 X1
 clear c0 c1 c2 c3
 obtain ⟨c0, c1, c2, c3⟩ := GC.out _ X2.out
 go_wp2_with fail
 rw [rounds_succ]
 go_wp2_with fail
 refine (qpt _ _ _ _ (HV.out.keepT X2.out) (Ha.out.keepT X2.out) (Hb.out.keepT X2.out)).mono ?_
 rintro e w3 ⟨rfl, o1⟩
 have X3 := hID (X2.out.also o1)
 clear o1 X2
 clear c0 c1 c2 c3
 obtain ⟨c0, c1, c2, c3⟩ := GC.out _ X3.out
 go_wp2_with fail
 go_ret3
 exact ⟨rfl, X3.out⟩
theorem qsg (w : World) (v va : Value) (hv : Rd w (fun _ => True) 2 v 1 [.int .i64 5, va]) (ha : Rd w (fun _ => True) 8 va 1 el_a) : Calls Tryz.prog 118 #[v] w (RetV w (.string ⟨#[114, 117, 108, 101, 32, 53, 32, 34, 97, 98, 34, 10]⟩)) := by
 have s_0_11_5740 : (⟨#[]⟩ : ByteArray) ++ ⟨#[114, 117, 108, 101, 32, 53, 32, 34, 97, 98, 34]⟩ = ⟨#[114, 117, 108, 101, 32, 53, 32, 34, 97, 98, 34]⟩ := by decide
 have s_11_1_890 : (⟨#[114, 117, 108, 101, 32, 53, 32, 34, 97, 98, 34]⟩ : ByteArray) ++ ⟨#[10]⟩ = ⟨#[114, 117, 108, 101, 32, 53, 32, 34, 97, 98, 34, 10]⟩ := by decide
 obtain ⟨b, o, c, rfl, hc⟩ := hv.cellsT (by decide)
 have HC := hID hc
 have Ha := hID ha
 clear hc hv ha
 go_enter Tryz.func118, Tryz.ntmps118
 have GC : Hid (∀ W, Off Nob w W → W.cell? ⟨b, o, none⟩ = some (.int .i64 5) ∧ W.cell? ⟨b, o + 1, none⟩ = some (va)) := hID (fun W ho => ⟨HC.out W ho 0 _ rfl, HC.out W ho 1 _ rfl⟩)
 have X0 : Hid (Off Nob w w) := hID oRf
 obtain ⟨c0, c1⟩ := GC.out _ X0.out
 go_wp2_with fail
 refine wp_loop_rounds 2 ?_
 rw [rounds_succ]
 go_wp2_with fail
 refine (qfu _ _ (Ha.out.keepT X0.out)).mono ?_
 rintro e w1 ⟨v1, rfl, hr, o1⟩
 have X1 := hID (X0.out.also o1)
 have HT := hID hr
 obtain ⟨AA, cc, rfl, _⟩ := hr.form
 clear hr
 clear o1 X0
 clear c0 c1
 obtain ⟨c0, c1⟩ := GC.out _ X1.out
 go_wp2_with fail
 refine (qld _ _ HT.out).mono ?_
 rintro e w2 ⟨rfl, o1⟩
 have X2 := hID (X1.out.also o1)
 clear HT
 clear o1 X1
 clear c0 c1
 obtain ⟨c0, c1⟩ := GC.out _ X2.out
 go_wp2_with fail
 rw [rounds_succ]
 go_wp2_with fail
 go_ret
 exact ⟨rfl, X2.out⟩
theorem quu (w : World) (v va : Value) (hv : Rd w (fun _ => True) 2 v 1 [.int .i64 5, va]) (ha : Rd w (fun _ => True) 8 va 1 el_a) : Calls Tryz.prog 97 #[v] w (RetV w (.tuple #[.int .i64 0, .int .i64 0, .int .i64 0])) := by
 have HV := hID hv
 obtain ⟨b, o, c, rfl, hc⟩ := hv.cellsT (by decide)
 have HC := hID hc
 have Ha := hID ha
 clear hc hv ha
 go_enter Tryz.func97, Tryz.ntmps97
 have GC : Hid (∀ W, Off Nob w W → W.cell? ⟨b, o, none⟩ = some (.int .i64 5) ∧ W.cell? ⟨b, o + 1, none⟩ = some (va)) := hID (fun W ho => ⟨HC.out W ho 0 _ rfl, HC.out W ho 1 _ rfl⟩)
 have X0 : Hid (Off Nob w w) := hID oRf
 obtain ⟨c0, c1⟩ := GC.out _ X0.out
 go_wp2_with fail
 refine wp_loop_rounds 2 ?_
 rw [rounds_succ]
 go_wp2_with fail
 refine (qny _ _ (Ha.out.keepT X0.out)).mono ?_
 rintro e w1 ⟨rfl, o1⟩
 have X1 := hID (X0.out.also o1)
 clear o1 X0
 clear c0 c1
 obtain ⟨c0, c1⟩ := GC.out _ X1.out
 go_wp2_with fail
 rw [rounds_succ]
 go_wp2_with fail
 refine (qsg _ _ _ (HV.out.keepT X1.out) (Ha.out.keepT X1.out)).mono ?_
 rintro e w2 ⟨rfl, o1⟩
 have X2 := hID (X1.out.also o1)
 clear o1 X1
 clear c0 c1
 obtain ⟨c0, c1⟩ := GC.out _ X2.out
 go_wp2_with fail
 go_ret3
 exact ⟨rfl, X2.out⟩
theorem qsh (w : World) (v vb : Value) (hv : Rd w (fun _ => True) 2 v 1 [.int .i64 9, vb]) (hb : Rd w (fun _ => True) 8 vb 1 el_b) : Calls Tryz.prog 118 #[v] w (RetV w (.string ⟨#[114, 117, 108, 101, 32, 57, 32, 91, 97, 98, 93, 10]⟩)) := by
 have s_0_11_6580 : (⟨#[]⟩ : ByteArray) ++ ⟨#[114, 117, 108, 101, 32, 57, 32, 91, 97, 98, 93]⟩ = ⟨#[114, 117, 108, 101, 32, 57, 32, 91, 97, 98, 93]⟩ := by decide
 have s_11_1_1010 : (⟨#[114, 117, 108, 101, 32, 57, 32, 91, 97, 98, 93]⟩ : ByteArray) ++ ⟨#[10]⟩ = ⟨#[114, 117, 108, 101, 32, 57, 32, 91, 97, 98, 93, 10]⟩ := by decide
 obtain ⟨b, o, c, rfl, hc⟩ := hv.cellsT (by decide)
 have HC := hID hc
 have Hb := hID hb
 clear hc hv hb
 go_enter Tryz.func118, Tryz.ntmps118
 have GC : Hid (∀ W, Off Nob w W → W.cell? ⟨b, o, none⟩ = some (.int .i64 9) ∧ W.cell? ⟨b, o + 1, none⟩ = some (vb)) := hID (fun W ho => ⟨HC.out W ho 0 _ rfl, HC.out W ho 1 _ rfl⟩)
 have X0 : Hid (Off Nob w w) := hID oRf
 obtain ⟨c0, c1⟩ := GC.out _ X0.out
 go_wp2_with fail
 refine wp_loop_rounds 2 ?_
 rw [rounds_succ]
 go_wp2_with fail
 refine (qfv _ _ (Hb.out.keepT X0.out)).mono ?_
 rintro e w1 ⟨v1, rfl, hr, o1⟩
 have X1 := hID (X0.out.also o1)
 have HT := hID hr
 obtain ⟨AA, cc, rfl, _⟩ := hr.form
 clear hr
 clear o1 X0
 clear c0 c1
 obtain ⟨c0, c1⟩ := GC.out _ X1.out
 go_wp2_with fail
 refine (qle _ _ HT.out).mono ?_
 rintro e w2 ⟨rfl, o1⟩
 have X2 := hID (X1.out.also o1)
 clear HT
 clear o1 X1
 clear c0 c1
 obtain ⟨c0, c1⟩ := GC.out _ X2.out
 go_wp2_with fail
 rw [rounds_succ]
 go_wp2_with fail
 go_ret
 exact ⟨rfl, X2.out⟩
theorem quv (w : World) (v vb : Value) (hv : Rd w (fun _ => True) 2 v 1 [.int .i64 9, vb]) (hb : Rd w (fun _ => True) 8 vb 1 el_b) : Calls Tryz.prog 97 #[v] w (RetV w (.tuple #[.int .i64 0, .int .i64 0, .int .i64 0])) := by
 have HV := hID hv
 obtain ⟨b, o, c, rfl, hc⟩ := hv.cellsT (by decide)
 have HC := hID hc
 have Hb := hID hb
 clear hc hv hb
 go_enter Tryz.func97, Tryz.ntmps97
 have GC : Hid (∀ W, Off Nob w W → W.cell? ⟨b, o, none⟩ = some (.int .i64 9) ∧ W.cell? ⟨b, o + 1, none⟩ = some (vb)) := hID (fun W ho => ⟨HC.out W ho 0 _ rfl, HC.out W ho 1 _ rfl⟩)
 have X0 : Hid (Off Nob w w) := hID oRf
 obtain ⟨c0, c1⟩ := GC.out _ X0.out
 go_wp2_with fail
 refine wp_loop_rounds 2 ?_
 rw [rounds_succ]
 go_wp2_with fail
 refine (qnz _ _ (Hb.out.keepT X0.out)).mono ?_
 rintro e w1 ⟨rfl, o1⟩
 have X1 := hID (X0.out.also o1)
 clear o1 X0
 clear c0 c1
 obtain ⟨c0, c1⟩ := GC.out _ X1.out
 go_wp2_with fail
 rw [rounds_succ]
 go_wp2_with fail
 refine (qsh _ _ _ (HV.out.keepT X1.out) (Hb.out.keepT X1.out)).mono ?_
 rintro e w2 ⟨rfl, o1⟩
 have X2 := hID (X1.out.also o1)
 clear o1 X1
 clear c0 c1
 obtain ⟨c0, c1⟩ := GC.out _ X2.out
 go_wp2_with fail
 go_ret3
 exact ⟨rfl, X2.out⟩
end
section
open Go.RowKit
theorem qdg (w : World) (A : Option Addr) (c : Nat) : Calls Tryz.prog 100 #[.slice A 0 c] w (RetL w 1 1 [.int .i64 0]) := by
 go_enter Tryz.func100, Tryz.ntmps100
 go_wp2_with fail
 go_ret
 exact ⟨_, rfl, Rd.newT w 3 [.int .i64 0] 1 1 rfl (by decide), oAl oRf _⟩
theorem qn0 (w : World) (v : Value) (hv : Rd w (fun _ => True) 8 v 1 el_a) : Calls Tryz.prog 119 #[.agg #[.int .i64 5, v], .int .i64 0] w (RetV w (.int .i64 0)) := by
 have hq : ∀ w : World, (binOp .eql 73 (.agg #[.int .u64 0, .int .u64 25769803776, .int .u64 0, .int .u64 0]) (.agg #[.int .u64 0, .int .u64 0, .int .u64 0, .int .u64 0])).run Tryz.prog w = .ok (.bool false) w := fun _ => by kernel_rfl
 obtain ⟨b, o, c, rfl, hc⟩ := hv.cellsT (by decide)
 have HC := hID hc
 have c0 := hc (w.alloc (.cells #[.int .i64 5, .slice (some ⟨b, o, none⟩) 1 c] 124)) (oAl oRf _) 0 _ rfl
 have c1 := hc (w.alloc (.cells #[.int .i64 5, .slice (some ⟨b, o, none⟩) 1 c] 124)) (oAl oRf _) 1 _ rfl
 have c2 := hc (w.alloc (.cells #[.int .i64 5, .slice (some ⟨b, o, none⟩) 1 c] 124)) (oAl oRf _) 2 _ rfl
 have c3 := hc (w.alloc (.cells #[.int .i64 5, .slice (some ⟨b, o, none⟩) 1 c] 124)) (oAl oRf _) 3 _ rfl
 have c4 := hc (w.alloc (.cells #[.int .i64 5, .slice (some ⟨b, o, none⟩) 1 c] 124)) (oAl oRf _) 4 _ rfl
 have c5 := hc (w.alloc (.cells #[.int .i64 5, .slice (some ⟨b, o, none⟩) 1 c] 124)) (oAl oRf _) 5 _ rfl
 have c6 := hc (w.alloc (.cells #[.int .i64 5, .slice (some ⟨b, o, none⟩) 1 c] 124)) (oAl oRf _) 6 _ rfl
 have c7 := hc (w.alloc (.cells #[.int .i64 5, .slice (some ⟨b, o, none⟩) 1 c] 124)) (oAl oRf _) 7 _ rfl
 simp only [Nat.add_zero] at c0
 clear hc hv
 go_enter Tryz.func119, Tryz.ntmps119
 go_wp2_with fail
 go_ret
 exact ⟨rfl, oAl (oAl oRf _) _⟩
theorem qhs (w : World) (v : Value) (hv : Rd w (fun _ => True) 8 v 1 el_a) : Calls Tryz.prog 100 #[v] w (RetL w 1 1 [.int .i64 2]) := by
 obtain ⟨i0, hi, hz0, hz1, hz2⟩ := info_parts Tryz.infoI'
 obtain ⟨b, o, c, rfl, hc⟩ := hv.cellsT (by decide)
 have GC : Hid (∀ W, Off Nob w W → W.cell? ⟨b, o, none⟩ = some (.int .i64 1) ∧ W.cell? ⟨b, o + 1, none⟩ = some (.string ⟨#[97, 98]⟩) ∧ W.cell? ⟨b, o + 2, none⟩ = some (.int .u64 0) ∧ W.cell? ⟨b, o + 3, none⟩ = some (.int .u64 0) ∧ W.cell? ⟨b, o + 4, none⟩ = some (.int .u64 0) ∧ W.cell? ⟨b, o + 5, none⟩ = some (.int .u64 0) ∧ W.cell? ⟨b, o + 6, none⟩ = some (.int .i64 0) ∧ W.cell? ⟨b, o + 7, none⟩ = some (.int .i64 0)) := hID (fun W ho => ⟨hc W ho 0 _ rfl, hc W ho 1 _ rfl, hc W ho 2 _ rfl, hc W ho 3 _ rfl, hc W ho 4 _ rfl, hc W ho 5 _ rfl, hc W ho 6 _ rfl, hc W ho 7 _ rfl⟩)
 have X0 : Hid (Off Nob w w) := hID oRf
 clear hc hv
 obtain ⟨c0, c1, c2, c3, c4, c5, c6, c7⟩ := GC.out _ X0.out
 go_enter Tryz.func100, Tryz.ntmps100
 by_cases hc1 : c = 1
 ·subst hc1
  go_wp2_with fail
  refine (qdg _ _ _).mono ?_
  rintro e w1 ⟨v1, rfl, hr, o1⟩
  have X1 := hID (X0.out.also o1)
  obtain ⟨b1, p1, c1', rfl, hd⟩ := hr.cellsT (by decide)
  have HD := hID hd
  clear hr o1 X0 hd c0 c1 c2 c3 c4 c5 c6 c7
  obtain ⟨c0, c1, c2, c3, c4, c5, c6, c7⟩ := GC.out _ X1.out
  go_wp2_with fail
  go_quiet (fail)
  have X2 : Hid (Off Nob w (w1.drewN nq)) := hID (X1.out.drewN nq)
  have Y2 : Hid (Off Nob w1 (w1.drewN nq)) := hID (Off.drewN oRf nq)
  clear X1 c0 c1 c2 c3 c4 c5 c6 c7
  generalize w1.drewN nq = w2 at *
  go_wp2_with fail
  refine wp_loop_rounds 2 ?_
  rw [rounds_succ]
  go_wp2_with fail
  refine wp_loop_rounds 2 ?_
  rw [rounds_succ]
  have d0 := HD.out _ Y2.out 0 _ rfl
  simp only [Nat.add_zero] at d0
  go_wp2_with (at_builtin; refine @wpList_append_lies _ _ _ _ _ _ _ rfl _ _ 22 rfl w.heap.size 3 i0 (.int .i64 0) 1 8 Tryz.underlying22 hi hz0 hz1 hz2 rfl (by decide) (.slice none 0 0) 0 [] rfl (World.ownsRow_nil _ _ _ _) ⟨w2.heap.size, 0, none⟩ 1 1 [.int .i64 2] rfl rfl (qc7 _ _ _) (by decide) (by decide) (by decide) (by decide) (by have := X2.out.size; simp; omega) _ rfl ?_)
  intro g cap w3 oW gW hat hlt3
  have X3 := hID ((OwnL.nilAt X2.out 3 1).grown (oAl (Off.refl Nob w2) (.cells #[.int .i64 2] 3)) oW gW)
  clear oW gW hat hlt3 X2 Y2 d0
  go_wp2_with fail
  rw [rounds_succ]
  go_wp2_with fail
  rw [rounds_succ]
  go_wp2_with fail
  go_ret
  exact ⟨_, rfl, X3.out.rd, X3.out.2⟩
 ·go_wp2_with fail
  refine (qdg _ _ _).mono ?_
  rintro e w1 ⟨v1, rfl, hr, o1⟩
  have X1 := hID (X0.out.also o1)
  obtain ⟨b1, p1, c1', rfl, hd⟩ := hr.cellsT (by decide)
  have HD := hID hd
  clear hr o1 X0 hd c0 c1 c2 c3 c4 c5 c6 c7
  obtain ⟨c0, c1, c2, c3, c4, c5, c6, c7⟩ := GC.out _ X1.out
  go_wp2_with fail
  go_quiet (fail)
  have X2 : Hid (Off Nob w (w1.drewN nq)) := hID (X1.out.drewN nq)
  have Y2 : Hid (Off Nob w1 (w1.drewN nq)) := hID (Off.drewN oRf nq)
  clear X1 c0 c1 c2 c3 c4 c5 c6 c7
  generalize w1.drewN nq = w2 at *
  go_wp2_with fail
  refine wp_loop_rounds 2 ?_
  rw [rounds_succ]
  go_wp2_with fail
  refine wp_loop_rounds 2 ?_
  rw [rounds_succ]
  have d0 := HD.out _ Y2.out 0 _ rfl
  simp only [Nat.add_zero] at d0
  go_wp2_with (at_builtin; refine @wpList_append_lies _ _ _ _ _ _ _ rfl _ _ 22 rfl w.heap.size 3 i0 (.int .i64 0) 1 8 Tryz.underlying22 hi hz0 hz1 hz2 rfl (by decide) (.slice none 0 0) 0 [] rfl (World.ownsRow_nil _ _ _ _) ⟨w2.heap.size, 0, none⟩ 1 1 [.int .i64 2] rfl rfl (qc7 _ _ _) (by decide) (by decide) (by decide) (by decide) (by have := X2.out.size; simp; omega) _ rfl ?_)
  intro g cap w3 oW gW hat hlt3
  have X3 := hID ((OwnL.nilAt X2.out 3 1).grown (oAl (Off.refl Nob w2) (.cells #[.int .i64 2] 3)) oW gW)
  clear oW gW hat hlt3 X2 Y2 d0
  go_wp2_with fail
  rw [rounds_succ]
  go_wp2_with fail
  rw [rounds_succ]
  go_wp2_with fail
  go_ret
  exact ⟨_, rfl, X3.out.rd, X3.out.2⟩
theorem qn1 (w : World) (v : Value) (hv : Rd w (fun _ => True) 8 v 1 el_b) : Calls Tryz.prog 119 #[.agg #[.int .i64 9, v], .int .i64 0] w (RetV w (.int .i64 0)) := by
 have hq : ∀ w : World, (binOp .eql 73 (.agg #[.int .u64 0, .int .u64 25769803776, .int .u64 0, .int .u64 0]) (.agg #[.int .u64 0, .int .u64 0, .int .u64 0, .int .u64 0])).run Tryz.prog w = .ok (.bool false) w := fun _ => by kernel_rfl
 obtain ⟨b, o, c, rfl, hc⟩ := hv.cellsT (by decide)
 have HC := hID hc
 have c0 := hc (w.alloc (.cells #[.int .i64 9, .slice (some ⟨b, o, none⟩) 1 c] 124)) (oAl oRf _) 0 _ rfl
 have c1 := hc (w.alloc (.cells #[.int .i64 9, .slice (some ⟨b, o, none⟩) 1 c] 124)) (oAl oRf _) 1 _ rfl
 have c2 := hc (w.alloc (.cells #[.int .i64 9, .slice (some ⟨b, o, none⟩) 1 c] 124)) (oAl oRf _) 2 _ rfl
 have c3 := hc (w.alloc (.cells #[.int .i64 9, .slice (some ⟨b, o, none⟩) 1 c] 124)) (oAl oRf _) 3 _ rfl
 have c4 := hc (w.alloc (.cells #[.int .i64 9, .slice (some ⟨b, o, none⟩) 1 c] 124)) (oAl oRf _) 4 _ rfl
 have c5 := hc (w.alloc (.cells #[.int .i64 9, .slice (some ⟨b, o, none⟩) 1 c] 124)) (oAl oRf _) 5 _ rfl
 have c6 := hc (w.alloc (.cells #[.int .i64 9, .slice (some ⟨b, o, none⟩) 1 c] 124)) (oAl oRf _) 6 _ rfl
 have c7 := hc (w.alloc (.cells #[.int .i64 9, .slice (some ⟨b, o, none⟩) 1 c] 124)) (oAl oRf _) 7 _ rfl
 simp only [Nat.add_zero] at c0
 clear hc hv
 go_enter Tryz.func119, Tryz.ntmps119
 go_wp2_with fail
 go_ret
 exact ⟨rfl, oAl (oAl oRf _) _⟩
theorem qht (w : World) (v : Value) (hv : Rd w (fun _ => True) 8 v 1 el_b) : Calls Tryz.prog 100 #[v] w (RetL w 1 1 [.int .i64 1]) := by
 obtain ⟨i0, hi, hz0, hz1, hz2⟩ := info_parts Tryz.infoI'
 obtain ⟨b, o, c, rfl, hc⟩ := hv.cellsT (by decide)
 have GC : Hid (∀ W, Off Nob w W → W.cell? ⟨b, o, none⟩ = some (.int .i64 3) ∧ W.cell? ⟨b, o + 1, none⟩ = some (.string ⟨#[]⟩) ∧ W.cell? ⟨b, o + 2, none⟩ = some (.int .u64 0) ∧ W.cell? ⟨b, o + 3, none⟩ = some (.int .u64 25769803776) ∧ W.cell? ⟨b, o + 4, none⟩ = some (.int .u64 0) ∧ W.cell? ⟨b, o + 5, none⟩ = some (.int .u64 0) ∧ W.cell? ⟨b, o + 6, none⟩ = some (.int .i64 0) ∧ W.cell? ⟨b, o + 7, none⟩ = some (.int .i64 0)) := hID (fun W ho => ⟨hc W ho 0 _ rfl, hc W ho 1 _ rfl, hc W ho 2 _ rfl, hc W ho 3 _ rfl, hc W ho 4 _ rfl, hc W ho 5 _ rfl, hc W ho 6 _ rfl, hc W ho 7 _ rfl⟩)
 have X0 : Hid (Off Nob w w) := hID oRf
 clear hc hv
 obtain ⟨c0, c1, c2, c3, c4, c5, c6, c7⟩ := GC.out _ X0.out
 go_enter Tryz.func100, Tryz.ntmps100
 by_cases hc1 : c = 1
 ·subst hc1
  go_wp2_with fail
  refine (qdg _ _ _).mono ?_
  rintro e w1 ⟨v1, rfl, hr, o1⟩
  have X1 := hID (X0.out.also o1)
  obtain ⟨b1, p1, c1', rfl, hd⟩ := hr.cellsT (by decide)
  have HD := hID hd
  clear hr o1 X0 hd c0 c1 c2 c3 c4 c5 c6 c7
  obtain ⟨c0, c1, c2, c3, c4, c5, c6, c7⟩ := GC.out _ X1.out
  go_wp2_with fail
  skip
  have X2 := X1
  have Y2 : Hid (Off Nob w1 w1) := hID oRf
  have Z : Hid (∃ W, W = w1) := hID ⟨_, rfl⟩
  clear X1 c0 c1 c2 c3 c4 c5 c6 c7
  refine wp_loop_rounds 2 ?_
  rw [rounds_succ]
  go_wp2_with fail
  refine wp_loop_rounds 2 ?_
  rw [rounds_succ]
  have d0 := HD.out _ Y2.out 0 _ rfl
  simp only [Nat.add_zero] at d0
  go_wp2_with (at_builtin; refine @wpList_append_lies _ _ _ _ _ _ _ rfl _ _ 22 rfl w.heap.size 3 i0 (.int .i64 0) 1 8 Tryz.underlying22 hi hz0 hz1 hz2 rfl (by decide) (.slice none 0 0) 0 [] rfl (World.ownsRow_nil _ _ _ _) ⟨w1.heap.size, 0, none⟩ 1 1 [.int .i64 1] rfl rfl (qc7 _ _ _) (by decide) (by decide) (by decide) (by decide) (by have := X2.out.size; simp; omega) _ rfl ?_)
  intro g cap w3 oW gW hat hlt3
  have X3 := hID ((OwnL.nilAt X2.out 3 1).grown (oAl (Off.refl Nob w1) (.cells #[.int .i64 1] 3)) oW gW)
  clear oW gW hat hlt3 X2 Y2 d0
  go_wp2_with fail
  rw [rounds_succ]
  go_wp2_with fail
  rw [rounds_succ]
  go_wp2_with fail
  go_ret
  exact ⟨_, rfl, X3.out.rd, X3.out.2⟩
 ·go_wp2_with fail
  refine (qdg _ _ _).mono ?_
  rintro e w1 ⟨v1, rfl, hr, o1⟩
  have X1 := hID (X0.out.also o1)
  obtain ⟨b1, p1, c1', rfl, hd⟩ := hr.cellsT (by decide)
  have HD := hID hd
  clear hr o1 X0 hd c0 c1 c2 c3 c4 c5 c6 c7
  obtain ⟨c0, c1, c2, c3, c4, c5, c6, c7⟩ := GC.out _ X1.out
  go_wp2_with fail
  skip
  have X2 := X1
  have Y2 : Hid (Off Nob w1 w1) := hID oRf
  have Z : Hid (∃ W, W = w1) := hID ⟨_, rfl⟩
  clear X1 c0 c1 c2 c3 c4 c5 c6 c7
  refine wp_loop_rounds 2 ?_
  rw [rounds_succ]
  go_wp2_with fail
  refine wp_loop_rounds 2 ?_
  rw [rounds_succ]
  have d0 := HD.out _ Y2.out 0 _ rfl
  simp only [Nat.add_zero] at d0
  go_wp2_with (at_builtin; refine @wpList_append_lies _ _ _ _ _ _ _ rfl _ _ 22 rfl w.heap.size 3 i0 (.int .i64 0) 1 8 Tryz.underlying22 hi hz0 hz1 hz2 rfl (by decide) (.slice none 0 0) 0 [] rfl (World.ownsRow_nil _ _ _ _) ⟨w1.heap.size, 0, none⟩ 1 1 [.int .i64 1] rfl rfl (qc7 _ _ _) (by decide) (by decide) (by decide) (by decide) (by have := X2.out.size; simp; omega) _ rfl ?_)
  intro g cap w3 oW gW hat hlt3
  have X3 := hID ((OwnL.nilAt X2.out 3 1).grown (oAl (Off.refl Nob w1) (.cells #[.int .i64 1] 3)) oW gW)
  clear oW gW hat hlt3 X2 Y2 d0
  go_wp2_with fail
  rw [rounds_succ]
  go_wp2_with fail
  rw [rounds_succ]
  go_wp2_with fail
  go_ret
  exact ⟨_, rfl, X3.out.rd, X3.out.2⟩
theorem qij (n : Nat) (hn : n ≤ 1000) (w : World) (v : Value) (hv : Rd w (fun _ => True) 1 v 1 [.int .i64 (n : Int)]) : Calls Tryz.prog 99 #[v] w (RetV w (.int .i64 (n : Int))) := by
 obtain ⟨b, o, c, rfl, hc⟩ := hv.cellsT (by decide)
 have c0 := hc w oRf 0 _ rfl
 simp only [Nat.add_zero] at c0
 clear hc hv
 go_enter Tryz.func99, Tryz.ntmps99
 go_wp2_with fail
 refine wp_loop_rounds 2 ?_
 rw [rounds_succ]
 go_wp2_with fail
 rw [rounds_succ]
 go_wp2_with fail
 go_ret
 exact ⟨rfl, Off.refl _ _⟩
end
section
open Go.RowKit
theorem Tryz.infoSp : (Tryz.prog.info? 165).map (·.size) = some 2 := by kernel_rfl
def spotV (n : Nat) : Value := .agg #[.int .i64 ((n / 64 : Nat) : Int), .int .u64 ((2 ^ (n % 64) : Nat) : Int)]
theorem pow64 (n : Nat) : (2 ^ (n % 64) : Nat) < 18446744073709551616 := (Nat.pow_lt_pow_iff_right (a := 2) (n := n % 64) (m := 64) (by decide)).2 (Nat.mod_lt _ (by decide))
theorem tat (n : Nat) (hn : n < 4096) (w : World) : Calls Tryz.prog 105 #[.int .i64 n] w fun e w' => e = .returned (spotV n) ∧ Off Nob w w' := by
 have hp := pow64 n
 go_enter Tryz.func105, Tryz.ntmps105
 have hpc : ((2 : Int) ^ (n % 64)) = ((2 ^ (n % 64) : Nat) : Int) := by push_cast; rfl
 have hw : IntKind.u64.wrap (2 ^ (n % 64)) = ((2 ^ (n % 64) : Nat) : Int) := by rw [IntKind.wrap_u64, hpc]; exact Int.emod_eq_of_lt (Int.natCast_nonneg _) (Int.ofNat_lt.2 hp)
 have hd : ((n : Int) / 64) = ((n / 64 : Nat) : Int) := by omega
 have HD := hID (And.intro hpc hd)
 clear hpc hd hp
 go_wp2_with fail
 exact bodyPost_ret (results_cell_row rfl _ _ w.heap.size 165 _ (0, 0) _ rfl (Blk.new w 165 _) Tryz.underlying165 rfl Tryz.infoSp) rfl ⟨by unfold spotV; rw [← HD.out.2, ← HD.out.1], oAl oRf _⟩
theorem smin (xs : List Int) (hx : ∀ x ∈ xs, -9223372036854775808 ≤ x ∧ x ≤ 9223372036854775807) (h1 : 1 ≤ xs.length) (hn : xs.length ≤ 1024) (w : World) (v : Value) (hv : Rd w (fun _ => True) 1 v xs.length (xs.map (Value.int .i64))) : Calls Tryz.prog 72 #[v] w fun e w' => (∃ m, e = .returned (.int .i64 m) ∧ m ∈ xs ∧ ∀ x ∈ xs, m ≤ x) ∧ w = w' := by
 obtain ⟨b, o, c, rfl, hc⟩ := hv.cellsT (by omega)
 have HC : Hid (∀ k, k < xs.length → w.cell? ⟨b, o + k, none⟩ = some (.int .i64 (xs.getD k 0))) := hID (fun k hk => hc w oRf k _ (by simp [gDe, gEe hk]))
 clear hc hv
 have c0 := HC.out 0 (by omega)
 have d0 : decide ((xs.length : Int) < 1) = false := dcF
 obtain ⟨x0, h0⟩ : ∃ x0, xs.getD 0 0 = x0 := ⟨_, rfl⟩
 have H0 := hID h0
 rw [h0, Nat.add_zero] at c0
 clear h0
 go_enter Tryz.func72, Tryz.ntmps72
 go_wp2_with fail
 clear c0
 go_loopw [3, 4] (fun p q wr => ∃ (k : Nat) (m : Int), q = .int .i64 (k : Int) ∧ p = .int .i64 m ∧ 1 ≤ k ∧ k ≤ xs.length ∧ m ∈ xs.take k ∧ (∀ x ∈ xs.take k, m ≤ x) ∧ wr = w) (fun p q wr => xs.length - (intOf q).toNat)
 case atStart => exact ⟨1, x0, rfl, rfl, Nat.le_refl _, h1, by cases xs with | nil => simp at h1 | cons y ys => have := H0.out; simp at this; simp [this], by cases xs with | nil => simp at h1 | cons y ys => have := H0.out; simp at this; simp [this], rfl⟩
 case round =>
  obtain ⟨k, m, rfl, rfl, hk1, hk, hm, hall, rfl⟩ := hrel
  by_cases hlt : k < xs.length
  ·have d1 : decide ((k : Int) < (xs.length : Int)) = true := dcT
   have ck := HC.out k hlt
   obtain ⟨y, hy⟩ : ∃ y, xs.getD k 0 = y := ⟨_, rfl⟩
   have HY : Hid (xs.take (k + 1) = xs.take k ++ [y]) := hID (by rw [← hy, gDe, gEe hlt]; simp)
   have HM := hID hm
   have HA := hID hall
   have HX := hID hx
   rw [hy] at ck
   clear hy hm hall hx
   go_wp2_with fail
   go_roundw
   case rel =>
    refine ⟨k + 1, min m y, by go_num, rfl, by omega, by omega, ?_, ?_, trivial⟩
    ·rw [HY.out]
     rcases (by omega : min m y = m ∨ min m y = y) with h | h
     ·rw [h]; exact List.mem_append_left _ HM.out
     ·rw [h]; simp
    ·intro x hx
     rw [HY.out] at hx
     rcases List.mem_append.1 hx with h | h
     ·have := HA.out x h; omega
     ·simp at h; omega
   case measure => simp [intOf]; omega
  ·obtain rfl : k = xs.length := by omega
   have d1 : decide ((xs.length : Int) < (xs.length : Int)) = false := dcF
   rw [List.take_length] at hm hall
   have HM := hID hm
   have HA := hID hall
   clear hm hall hx
   go_wp2_with fail
   go_ret
   exact ⟨⟨m, rfl, HM.out, HA.out⟩, rfl⟩
theorem smax (xs : List Int) (hx : ∀ x ∈ xs, -9223372036854775808 ≤ x ∧ x ≤ 9223372036854775807) (h1 : 1 ≤ xs.length) (hn : xs.length ≤ 1024) (w : World) (v : Value) (hv : Rd w (fun _ => True) 1 v xs.length (xs.map (Value.int .i64))) : Calls Tryz.prog 73 #[v] w fun e w' => (∃ m, e = .returned (.int .i64 m) ∧ m ∈ xs ∧ ∀ x ∈ xs, x ≤ m) ∧ w = w' := by
 obtain ⟨b, o, c, rfl, hc⟩ := hv.cellsT (by omega)
 have HC : Hid (∀ k, k < xs.length → w.cell? ⟨b, o + k, none⟩ = some (.int .i64 (xs.getD k 0))) := hID (fun k hk => hc w oRf k _ (by simp [gDe, gEe hk]))
 clear hc hv
 have c0 := HC.out 0 (by omega)
 have d0 : decide ((xs.length : Int) < 1) = false := dcF
 obtain ⟨x0, h0⟩ : ∃ x0, xs.getD 0 0 = x0 := ⟨_, rfl⟩
 have H0 := hID h0
 rw [h0, Nat.add_zero] at c0
 clear h0
 go_enter Tryz.func73, Tryz.ntmps73
 go_wp2_with fail
 clear c0
 go_loopw [3, 4] (fun p q wr => ∃ (k : Nat) (m : Int), q = .int .i64 (k : Int) ∧ p = .int .i64 m ∧ 1 ≤ k ∧ k ≤ xs.length ∧ m ∈ xs.take k ∧ (∀ x ∈ xs.take k, x ≤ m) ∧ wr = w) (fun p q wr => xs.length - (intOf q).toNat)
 case atStart => exact ⟨1, x0, rfl, rfl, Nat.le_refl _, h1, by cases xs with | nil => simp at h1 | cons y ys => have := H0.out; simp at this; simp [this], by cases xs with | nil => simp at h1 | cons y ys => have := H0.out; simp at this; simp [this], rfl⟩
 case round =>
  obtain ⟨k, m, rfl, rfl, hk1, hk, hm, hall, rfl⟩ := hrel
  by_cases hlt : k < xs.length
  ·have d1 : decide ((k : Int) < (xs.length : Int)) = true := dcT
   have ck := HC.out k hlt
   obtain ⟨y, hy⟩ : ∃ y, xs.getD k 0 = y := ⟨_, rfl⟩
   have HY : Hid (xs.take (k + 1) = xs.take k ++ [y]) := hID (by rw [← hy, gDe, gEe hlt]; simp)
   have HM := hID hm
   have HA := hID hall
   have HX := hID hx
   rw [hy] at ck
   clear hy hm hall hx
   go_wp2_with fail
   go_roundw
   case rel =>
    refine ⟨k + 1, max m y, by go_num, rfl, by omega, by omega, ?_, ?_, trivial⟩
    ·rw [HY.out]
     rcases (by omega : max m y = m ∨ max m y = y) with h | h
     ·rw [h]; exact List.mem_append_left _ HM.out
     ·rw [h]; simp
    ·intro x hx
     rw [HY.out] at hx
     rcases List.mem_append.1 hx with h | h
     ·have := HA.out x h; omega
     ·simp at h; omega
   case measure => simp [intOf]; omega
  ·obtain rfl : k = xs.length := by omega
   have d1 : decide ((xs.length : Int) < (xs.length : Int)) = false := dcF
   rw [List.take_length] at hm hall
   have HM := hID hm
   have HA := hID hall
   clear hm hall hx
   go_wp2_with fail
   go_ret
   exact ⟨⟨m, rfl, HM.out, HA.out⟩, rfl⟩
end
end Go.Proofs.YtlgjaefcfnndhaaGreatDoor
