/-
 dragnetref01.Quote of ab.
-/
import Derived.Test.YtkflicifngohcaaGreatDoorM10
import Derived.Lib.AppendStr
import Derived.Test.YtkflicifngohcaaGreatDoorM1
import Derived.Test.YtkflicifngohcaaGreatDoorM8
import Derived.Test.YtkflicifngohcaaGreatDoorM4
import Derived.Test.YtkflicifngohcaaGreatDoorM7
set_option linter.unusedVariables false
set_option linter.unusedSimpArgs false
namespace Go.Proofs.YtkflicifngohcaaGreatDoor
open Go.RowKit
set_option maxRecDepth 100000
theorem own_form1 {w : World} {base size n : Nat} {e : TypeId} {v : Value} {xs : List Value} (h : w.ownsRow base e size v n xs) (hn : n ≠ 0) : ∃ g c, v = .slice (some ⟨g, 0, none⟩) n c := by
 rcases h.2 with ⟨_, h0⟩ | ⟨g, cap, cur, hv, _⟩
 ·exact absurd h0 hn
 ·exact ⟨g, cap, hv⟩
theorem OwnL.made (w : World) (e : TypeId) (size n : Nat) (xs : List Value) (hl : xs.length = n * size) (hn : n ≤ maxLen) : OwnL w (w.alloc (.cells xs.toArray e)) e size (.slice (some ⟨w.heap.size, 0, none⟩) n n) n xs :=
 ⟨⟨hl, .inr ⟨w.heap.size, n, xs.toArray, rfl, Nat.le_refl _, heap_alloc_new w _, Nat.le_refl _, hn, by simpa using hl, by rw [← hl]; simp⟩⟩, Off.alloc (Off.refl _ _) _⟩
set_option maxHeartbeats 2000000 in
theorem co_quote_ab (w : World) : Calls Tryz.prog 180 #[.string ⟨#[97, 98]⟩] w (RetV w (.string ⟨#[34, 97, 98, 34]⟩)) := by
 obtain ⟨i0, hi, hz0, hz1, hz2⟩ := info_parts Tryz.infoY
 have hs : strOfNums [34, 97, 98, 34] = ⟨#[34, 97, 98, 34]⟩ := by decide
 go_enter Tryz.func180, Tryz.ntmps180
 go_wp2_with fail
 have O0 : Hid (OwnL w (w.alloc (.cells #[.int .u8 34] 5)) 5 1 (.slice (some ⟨w.heap.size, 0, none⟩) 1 1) 1 [.int .u8 34]) := hID (OwnL.made w _ 1 1 [.int .u8 34] rfl (by decide))
 revert O0
 generalize w.alloc (.cells #[.int .u8 34] 5) = w0
 intro O0
 refine wp_loop_rounds 3 ?_
 rw [rounds_succ]
 go_wp2_with fail
 refine (co_escaped_97 _).mono ?_
 rintro e w1 ⟨rfl, o1⟩
 have O1 := hID (O0.out.off o1)
 clear o1 O0
 go_wp2_with (at_builtin; refine @Go.Lib.wpList_append_own_string _ _ _ _ _ _ _ rfl _ _ 26 9 rfl w.heap.size 5 i0 Tryz.underlying26 Tryz.underlying9 hi hz0 hz1 hz2 (.slice (some ⟨w.heap.size, 0, none⟩) 1 1) 1 [.int .u8 34] rfl O1.out.1 ⟨#[97]⟩ rfl (by decide) (by decide) O1.out.2.size ?_)
 intro v2 w2 hown hgrow _
 have O2 := hID (O1.out.grown (Off.refl _ _) hown hgrow)
 obtain ⟨g2, c2, rfl⟩ := own_form1 hown (by decide)
 clear hown hgrow O1
 go_wp2_with fail
 rw [rounds_succ]
 go_wp2_with fail
 refine (co_escaped_98 _).mono ?_
 rintro e w3 ⟨rfl, o3⟩
 have O3 := hID (O2.out.off o3)
 clear o3 O2
 go_wp2_with (at_builtin; refine @Go.Lib.wpList_append_own_string _ _ _ _ _ _ _ rfl _ _ 26 9 rfl w.heap.size 5 i0 Tryz.underlying26 Tryz.underlying9 hi hz0 hz1 hz2 (.slice (some ⟨g2, 0, none⟩) (1 + 1) c2) (1 + 1) ([.int .u8 34] ++ Go.Lib.strCells ⟨#[97]⟩) rfl O3.out.1 ⟨#[98]⟩ rfl (by decide) (by decide) O3.out.2.size ?_)
 intro v4 w4 hown hgrow _
 have O4 := hID (O3.out.grown (Off.refl _ _) hown hgrow)
 obtain ⟨g4, c4, rfl⟩ := own_form1 hown (by decide)
 clear hown hgrow O3
 go_wp2_with fail
 rw [rounds_succ]
 go_wp2_with (at_builtin; refine @wpList_append_lies _ _ _ _ _ _ _ rfl _ _ 26 rfl w.heap.size 5 i0 (.int .u8 0) 1 1 Tryz.underlying26 hi hz0 hz1 hz2 rfl (by decide) (.slice (some ⟨g4, 0, none⟩) (1 + 1 + 1) c4) (1 + 1 + 1) (([.int .u8 34] ++ Go.Lib.strCells ⟨#[97]⟩) ++ Go.Lib.strCells ⟨#[98]⟩) rfl (O4.out.1.alloc _) ⟨w4.heap.size, 0, none⟩ 1 1 [.int .u8 34] rfl rfl (cell_one _ _ _) (by intro u hu; simp at hu; subst hu; rfl) (by decide) (by decide) (by decide) (by have := O4.out.2.size; simp; omega) _ rfl ?_)
 intro g5 c5 w5 hown hgrow _ _
 have O5 := hID (O4.out.grown (Off.alloc (Off.refl _ _) _) hown hgrow)
 clear hown hgrow O4
 have hconv : (convert 26 9 (.slice (some ⟨g5, 0, none⟩) (1 + 1 + 1 + 1) c5)).run Tryz.prog w5 = .ok (.string (strOfNums [34, 97, 98, 34])) w5 := co_conv w5 g5 0 c5 4 [34, 97, 98, 34] rfl (fun i hi => by
  rw [Nat.zero_add, O5.out.1.cellAt i (by omega)]
  show ([Value.int .u8 34, .int .u8 97, .int .u8 98, .int .u8 34] : List Value)[i]? = _
  have : i = 0 ∨ i = 1 ∨ i = 2 ∨ i = 3 := by omega
  rcases this with rfl | rfl | rfl | rfl <;> rfl)
 rw [hs] at hconv
 go_wp2_with fail
 go_ret
 exact ⟨rfl, O5.out.2⟩
end Go.Proofs.YtkflicifngohcaaGreatDoor

namespace Go.Proofs.YtkflicifngohcaaGreatDoor
open Go.RowKit
set_option maxRecDepth 100000
theorem Tryz.infoTk : (Tryz.prog.info? 252).map (fun i => (i.zero, i.size, i.bytes)) = some (some (.agg #[.int .i64 0, .int .i64 0, .int .i64 0, .int .i64 0, .string ⟨#[]⟩, .int .u64 0, .int .u64 0, .int .u64 0, .int .u64 0]), 9, 80) := by kernel_rfl
theorem cell_lit (w : World) (xs : List Value) (t : TypeId) : ∀ j u, xs[j]? = some u → (w.alloc (.cells xs.toArray t)).cell? ((⟨w.heap.size, 0, none⟩ : Addr).add j) = some u := by
 intro j u hj
 rw [add_addr, Nat.zero_add, (Blk.new w t xs.toArray).cell]
 simpa using hj
theorem OwnL.made2 {w0 w : World} (o : Off Nob w0 w) (e : TypeId) (size n : Nat) (xs : List Value) (hl : xs.length = n * size) (hn : n ≤ maxLen) : OwnL w0 (w.alloc (.cells xs.toArray e)) e size (.slice (some ⟨w.heap.size, 0, none⟩) n n) n xs :=
 ⟨⟨hl, .inr ⟨w.heap.size, n, xs.toArray, rfl, o.size, heap_alloc_new w _, Nat.le_refl _, hn, by simpa using hl, by rw [← hl]; simp⟩⟩, o.alloc _⟩
def el_a : List Value := [.int .i64 1, .string ⟨#[97, 98]⟩, .int .u64 0, .int .u64 0, .int .u64 0, .int .u64 0, .int .i64 0, .int .i64 0]
def tk_a : List Value := [.int .i64 1, .int .i64 0, .int .i64 0, .int .i64 0, .string ⟨#[]⟩, .int .u64 0, .int .u64 0, .int .u64 0, .int .u64 0, .int .i64 3, .int .i64 0, .int .i64 0, .int .i64 5, .string ⟨#[]⟩, .int .u64 0, .int .u64 0, .int .u64 0, .int .u64 0, .int .i64 4, .int .i64 0, .int .i64 0, .int .i64 0, .string ⟨#[97, 98]⟩, .int .u64 0, .int .u64 0, .int .u64 0, .int .u64 0]
def el_b : List Value := [.int .i64 3, .string ⟨#[]⟩, .int .u64 0, .int .u64 25769803776, .int .u64 0, .int .u64 0, .int .i64 0, .int .i64 0]
def tk_b : List Value := [.int .i64 1, .int .i64 0, .int .i64 0, .int .i64 0, .string ⟨#[]⟩, .int .u64 0, .int .u64 0, .int .u64 0, .int .u64 0, .int .i64 3, .int .i64 0, .int .i64 0, .int .i64 9, .string ⟨#[]⟩, .int .u64 0, .int .u64 0, .int .u64 0, .int .u64 0, .int .i64 6, .int .i64 0, .int .i64 0, .int .i64 0, .string ⟨#[]⟩, .int .u64 0, .int .u64 25769803776, .int .u64 0, .int .u64 0]
set_option maxHeartbeats 2000000 in
theorem co_tokens_a (w : World) (v : Value) (hv : Rd w (fun _ => True) 8 v 1 el_a) : Calls Tryz.prog 160 #[.agg #[.int .i64 5, v]] w (RetL w 9 3 tk_a) := by
 obtain ⟨i0, hi, hz0, hz1, hz2⟩ := info_parts Tryz.infoTk
 obtain ⟨b, o, c, rfl, hc⟩ := hv.cellsT (by decide)
 have HC := hID hc
 clear hc hv
 go_enter Tryz.func160, Tryz.ntmps160
 go_wp2_with fail
 have B0 : Hid (Blk (((w.alloc (.cells #[.int .i64 5, .slice (some ⟨b, o, none⟩) 1 c] 143)).alloc (.cells #[.int .i64 1, .int .i64 0, .int .i64 0, .int .i64 0, .string ⟨#[]⟩, .int .u64 0, .int .u64 0, .int .u64 0, .int .u64 0, .int .i64 3, .int .i64 0, .int .i64 0, .int .i64 5, .string ⟨#[]⟩, .int .u64 0, .int .u64 0, .int .u64 0, .int .u64 0] 252))) w.heap.size 143 #[.int .i64 5, .slice (some ⟨b, o, none⟩) 1 c]) := hID ((Blk.new w 143 #[.int .i64 5, .slice (some ⟨b, o, none⟩) 1 c]).alloc _)
 have O0 : Hid (OwnL w (((w.alloc (.cells #[.int .i64 5, .slice (some ⟨b, o, none⟩) 1 c] 143)).alloc (.cells #[.int .i64 1, .int .i64 0, .int .i64 0, .int .i64 0, .string ⟨#[]⟩, .int .u64 0, .int .u64 0, .int .u64 0, .int .u64 0, .int .i64 3, .int .i64 0, .int .i64 0, .int .i64 5, .string ⟨#[]⟩, .int .u64 0, .int .u64 0, .int .u64 0, .int .u64 0] 252))) 252 9 (.slice (some ⟨w.heap.size + 1, 0, none⟩) 2 2) 2 [.int .i64 1, .int .i64 0, .int .i64 0, .int .i64 0, .string ⟨#[]⟩, .int .u64 0, .int .u64 0, .int .u64 0, .int .u64 0, .int .i64 3, .int .i64 0, .int .i64 0, .int .i64 5, .string ⟨#[]⟩, .int .u64 0, .int .u64 0, .int .u64 0, .int .u64 0]) := hID (by
  have := OwnL.made2 (Off.alloc (Off.refl Nob w) (.cells #[.int .i64 5, .slice (some ⟨b, o, none⟩) 1 c] 143)) 252 9 2 [.int .i64 1, .int .i64 0, .int .i64 0, .int .i64 0, .string ⟨#[]⟩, .int .u64 0, .int .u64 0, .int .u64 0, .int .u64 0, .int .i64 3, .int .i64 0, .int .i64 0, .int .i64 5, .string ⟨#[]⟩, .int .u64 0, .int .u64 0, .int .u64 0, .int .u64 0] rfl (by decide)
  simpa using this)
 revert B0 O0
 generalize (((w.alloc (.cells #[.int .i64 5, .slice (some ⟨b, o, none⟩) 1 c] 143)).alloc (.cells #[.int .i64 1, .int .i64 0, .int .i64 0, .int .i64 0, .string ⟨#[]⟩, .int .u64 0, .int .u64 0, .int .u64 0, .int .u64 0, .int .i64 3, .int .i64 0, .int .i64 0, .int .i64 5, .string ⟨#[]⟩, .int .u64 0, .int .u64 0, .int .u64 0, .int .u64 0] 252))) = w1
 intro B0 O0
 refine wp_loop_rounds 2 ?_
 rw [rounds_succ]
 have t0 := B0.out.cell 0
 have t1 := B0.out.cell 1
 simp only [List.getElem?_toArray, List.getElem?_cons_succ, List.getElem?_cons_zero] at t0 t1
 have c0 := HC.out _ O0.out.2 0 _ rfl
 simp only [Nat.add_zero] at c0
 have c1 := HC.out _ O0.out.2 1 _ rfl
 have c2 := HC.out _ O0.out.2 2 _ rfl
 have c3 := HC.out _ O0.out.2 3 _ rfl
 have c4 := HC.out _ O0.out.2 4 _ rfl
 have c5 := HC.out _ O0.out.2 5 _ rfl
 have c6 := HC.out _ O0.out.2 6 _ rfl
 have c7 := HC.out _ O0.out.2 7 _ rfl
 go_wp2_with (at_builtin; refine @wpList_append_lies _ _ _ _ _ _ _ rfl _ _ 240 rfl w.heap.size 252 i0 (.agg #[.int .i64 0, .int .i64 0, .int .i64 0, .int .i64 0, .string ⟨#[]⟩, .int .u64 0, .int .u64 0, .int .u64 0, .int .u64 0]) 9 80 Tryz.underlying240 hi hz0 hz1 hz2 rfl (by decide) (.slice (some ⟨w.heap.size + 1, 0, none⟩) 2 2) 2 [.int .i64 1, .int .i64 0, .int .i64 0, .int .i64 0, .string ⟨#[]⟩, .int .u64 0, .int .u64 0, .int .u64 0, .int .u64 0, .int .i64 3, .int .i64 0, .int .i64 0, .int .i64 5, .string ⟨#[]⟩, .int .u64 0, .int .u64 0, .int .u64 0, .int .u64 0] rfl ((O0.out.off (Off.alloc (Off.refl Nob w1) (.cells #[.int .i64 1, .string ⟨#[97, 98]⟩, .int .u64 0, .int .u64 0, .int .u64 0, .int .u64 0, .int .i64 0, .int .i64 0] 148))).1.alloc _) ⟨w1.heap.size + 1, 0, none⟩ 1 1 [.int .i64 4, .int .i64 0, .int .i64 0, .int .i64 0, .string ⟨#[97, 98]⟩, .int .u64 0, .int .u64 0, .int .u64 0, .int .u64 0] rfl rfl ?c1 (by decide) (by decide) (by decide) (by decide) (by have := O0.out.2.size; simp; omega) _ rfl ?_)
 case c1 =>
  intro j u hj
  have := cell_lit (w1.alloc (.cells #[.int .i64 1, .string ⟨#[97, 98]⟩, .int .u64 0, .int .u64 0, .int .u64 0, .int .u64 0, .int .i64 0, .int .i64 0] 148)) [.int .i64 4, .int .i64 0, .int .i64 0, .int .i64 0, .string ⟨#[97, 98]⟩, .int .u64 0, .int .u64 0, .int .u64 0, .int .u64 0] 252 j u hj
  simpa using this
 intro g cap w4 hown hgrow hat hlt
 have O4 := hID ((O0.out.off (Off.alloc (Off.refl Nob w1) (.cells #[.int .i64 1, .string ⟨#[97, 98]⟩, .int .u64 0, .int .u64 0, .int .u64 0, .int .u64 0, .int .i64 0, .int .i64 0] 148))).grown (Off.alloc (Off.refl _ _) (.cells #[.int .i64 4, .int .i64 0, .int .i64 0, .int .i64 0, .string ⟨#[97, 98]⟩, .int .u64 0, .int .u64 0, .int .u64 0, .int .u64 0] 252)) hown hgrow)
 have oo : Off (fun k => k = w.heap.size + 1) w1 w4 := Off.grown (Off.alloc (Off.alloc (Off.refl _ _) _) _) hgrow (fun k hk => .inl (by injection hk with hk; exact hk.symm))
 have B4 := hID (B0.out.to (oo.block _ B0.out.lt (fun h => by omega)))
 clear oo hown hgrow hat hlt O0 B0 t0 t1 c0 c1 c2 c3 c4 c5 c6 c7
 have t0 := B4.out.cell 0
 have t1 := B4.out.cell 1
 simp only [List.getElem?_toArray, List.getElem?_cons_succ, List.getElem?_cons_zero] at t0 t1
 go_wp2_with fail
 rw [rounds_succ]
 go_wp2_with fail
 go_ret
 exact ⟨_, rfl, O4.out.rd, O4.out.2⟩
set_option maxHeartbeats 2000000 in
theorem co_tokens_b (w : World) (v : Value) (hv : Rd w (fun _ => True) 8 v 1 el_b) : Calls Tryz.prog 160 #[.agg #[.int .i64 9, v]] w (RetL w 9 3 tk_b) := by
 obtain ⟨i0, hi, hz0, hz1, hz2⟩ := info_parts Tryz.infoTk
 obtain ⟨b, o, c, rfl, hc⟩ := hv.cellsT (by decide)
 have HC := hID hc
 clear hc hv
 go_enter Tryz.func160, Tryz.ntmps160
 go_wp2_with fail
 have B0 : Hid (Blk (((w.alloc (.cells #[.int .i64 9, .slice (some ⟨b, o, none⟩) 1 c] 143)).alloc (.cells #[.int .i64 1, .int .i64 0, .int .i64 0, .int .i64 0, .string ⟨#[]⟩, .int .u64 0, .int .u64 0, .int .u64 0, .int .u64 0, .int .i64 3, .int .i64 0, .int .i64 0, .int .i64 9, .string ⟨#[]⟩, .int .u64 0, .int .u64 0, .int .u64 0, .int .u64 0] 252))) w.heap.size 143 #[.int .i64 9, .slice (some ⟨b, o, none⟩) 1 c]) := hID ((Blk.new w 143 #[.int .i64 9, .slice (some ⟨b, o, none⟩) 1 c]).alloc _)
 have O0 : Hid (OwnL w (((w.alloc (.cells #[.int .i64 9, .slice (some ⟨b, o, none⟩) 1 c] 143)).alloc (.cells #[.int .i64 1, .int .i64 0, .int .i64 0, .int .i64 0, .string ⟨#[]⟩, .int .u64 0, .int .u64 0, .int .u64 0, .int .u64 0, .int .i64 3, .int .i64 0, .int .i64 0, .int .i64 9, .string ⟨#[]⟩, .int .u64 0, .int .u64 0, .int .u64 0, .int .u64 0] 252))) 252 9 (.slice (some ⟨w.heap.size + 1, 0, none⟩) 2 2) 2 [.int .i64 1, .int .i64 0, .int .i64 0, .int .i64 0, .string ⟨#[]⟩, .int .u64 0, .int .u64 0, .int .u64 0, .int .u64 0, .int .i64 3, .int .i64 0, .int .i64 0, .int .i64 9, .string ⟨#[]⟩, .int .u64 0, .int .u64 0, .int .u64 0, .int .u64 0]) := hID (by
  have := OwnL.made2 (Off.alloc (Off.refl Nob w) (.cells #[.int .i64 9, .slice (some ⟨b, o, none⟩) 1 c] 143)) 252 9 2 [.int .i64 1, .int .i64 0, .int .i64 0, .int .i64 0, .string ⟨#[]⟩, .int .u64 0, .int .u64 0, .int .u64 0, .int .u64 0, .int .i64 3, .int .i64 0, .int .i64 0, .int .i64 9, .string ⟨#[]⟩, .int .u64 0, .int .u64 0, .int .u64 0, .int .u64 0] rfl (by decide)
  simpa using this)
 revert B0 O0
 generalize (((w.alloc (.cells #[.int .i64 9, .slice (some ⟨b, o, none⟩) 1 c] 143)).alloc (.cells #[.int .i64 1, .int .i64 0, .int .i64 0, .int .i64 0, .string ⟨#[]⟩, .int .u64 0, .int .u64 0, .int .u64 0, .int .u64 0, .int .i64 3, .int .i64 0, .int .i64 0, .int .i64 9, .string ⟨#[]⟩, .int .u64 0, .int .u64 0, .int .u64 0, .int .u64 0] 252))) = w1
 intro B0 O0
 refine wp_loop_rounds 2 ?_
 rw [rounds_succ]
 have t0 := B0.out.cell 0
 have t1 := B0.out.cell 1
 simp only [List.getElem?_toArray, List.getElem?_cons_succ, List.getElem?_cons_zero] at t0 t1
 have c0 := HC.out _ O0.out.2 0 _ rfl
 simp only [Nat.add_zero] at c0
 have c1 := HC.out _ O0.out.2 1 _ rfl
 have c2 := HC.out _ O0.out.2 2 _ rfl
 have c3 := HC.out _ O0.out.2 3 _ rfl
 have c4 := HC.out _ O0.out.2 4 _ rfl
 have c5 := HC.out _ O0.out.2 5 _ rfl
 have c6 := HC.out _ O0.out.2 6 _ rfl
 have c7 := HC.out _ O0.out.2 7 _ rfl
 go_wp2_with (at_builtin; refine @wpList_append_lies _ _ _ _ _ _ _ rfl _ _ 240 rfl w.heap.size 252 i0 (.agg #[.int .i64 0, .int .i64 0, .int .i64 0, .int .i64 0, .string ⟨#[]⟩, .int .u64 0, .int .u64 0, .int .u64 0, .int .u64 0]) 9 80 Tryz.underlying240 hi hz0 hz1 hz2 rfl (by decide) (.slice (some ⟨w.heap.size + 1, 0, none⟩) 2 2) 2 [.int .i64 1, .int .i64 0, .int .i64 0, .int .i64 0, .string ⟨#[]⟩, .int .u64 0, .int .u64 0, .int .u64 0, .int .u64 0, .int .i64 3, .int .i64 0, .int .i64 0, .int .i64 9, .string ⟨#[]⟩, .int .u64 0, .int .u64 0, .int .u64 0, .int .u64 0] rfl ((O0.out.off (Off.alloc (Off.refl Nob w1) (.cells #[.int .i64 3, .string ⟨#[]⟩, .int .u64 0, .int .u64 25769803776, .int .u64 0, .int .u64 0, .int .i64 0, .int .i64 0] 148))).1.alloc _) ⟨w1.heap.size + 1, 0, none⟩ 1 1 [.int .i64 6, .int .i64 0, .int .i64 0, .int .i64 0, .string ⟨#[]⟩, .int .u64 0, .int .u64 25769803776, .int .u64 0, .int .u64 0] rfl rfl ?c1 (by decide) (by decide) (by decide) (by decide) (by have := O0.out.2.size; simp; omega) _ rfl ?_)
 case c1 =>
  intro j u hj
  have := cell_lit (w1.alloc (.cells #[.int .i64 3, .string ⟨#[]⟩, .int .u64 0, .int .u64 25769803776, .int .u64 0, .int .u64 0, .int .i64 0, .int .i64 0] 148)) [.int .i64 6, .int .i64 0, .int .i64 0, .int .i64 0, .string ⟨#[]⟩, .int .u64 0, .int .u64 25769803776, .int .u64 0, .int .u64 0] 252 j u hj
  simpa using this
 intro g cap w4 hown hgrow hat hlt
 have O4 := hID ((O0.out.off (Off.alloc (Off.refl Nob w1) (.cells #[.int .i64 3, .string ⟨#[]⟩, .int .u64 0, .int .u64 25769803776, .int .u64 0, .int .u64 0, .int .i64 0, .int .i64 0] 148))).grown (Off.alloc (Off.refl _ _) (.cells #[.int .i64 6, .int .i64 0, .int .i64 0, .int .i64 0, .string ⟨#[]⟩, .int .u64 0, .int .u64 25769803776, .int .u64 0, .int .u64 0] 252)) hown hgrow)
 have oo : Off (fun k => k = w.heap.size + 1) w1 w4 := Off.grown (Off.alloc (Off.alloc (Off.refl _ _) _) _) hgrow (fun k hk => .inl (by injection hk with hk; exact hk.symm))
 have B4 := hID (B0.out.to (oo.block _ B0.out.lt (fun h => by omega)))
 clear oo hown hgrow hat hlt O0 B0 t0 t1 c0 c1 c2 c3 c4 c5 c6 c7
 have t0 := B4.out.cell 0
 have t1 := B4.out.cell 1
 simp only [List.getElem?_toArray, List.getElem?_cons_succ, List.getElem?_cons_zero] at t0 t1
 go_wp2_with fail
 rw [rounds_succ]
 go_wp2_with fail
 go_ret
 exact ⟨_, rfl, O4.out.rd, O4.out.2⟩
end Go.Proofs.YtkflicifngohcaaGreatDoor

namespace Go.Proofs.YtkflicifngohcaaGreatDoor
open Go.RowKit
set_option maxRecDepth 100000
theorem results_cell_row_tmp {P : Program} {fn : Func} {p u : Tmp} {ty : TypeId} (h : fn.results = #[.cell p ty, .tmp u]) (tmps : Array Value) (w : World) (g : Nat) (t : TypeId) (cs : Array Value) (fr : Nat × Nat) (d : TypeDesc)
  (hp : tmps.getD p undef = .pointer (some ⟨g, 0, none⟩)) (hg : w.heap[g]? = some (.cells cs t fr)) (hu : P.underlying ty = some d) (hd : (match d with | .struct _ | .array _ _ => true | _ => false) = true) (hi : (P.info? ty).map (·.size) = some cs.size) :
  (results fn tmps).run P w = .ok (.tuple #[.agg cs, tmps.getD u undef]) w := by
 rw [results_cell_tmp h, hp]
 simp only [asAddr, Sem.run_pure, Result.andThen_ok]
 rw [run_loadVar_row w g t ty cs fr d hg hu hd hi]
 simp
def adF (a : Int) (k : Nat) : Int := bits .or .u64 a (IntKind.u64.wrap (2 ^ (k % 64)))
def allW (k q : Nat) : Int := if 64 * (q + 1) ≤ k then 18446744073709551615 else if k ≤ 64 * q then 0 else 2 ^ (k - 64 * q) - 1
theorem or_pow : ∀ m : Fin 64, bits .or .u64 (2 ^ m.val - 1) (IntKind.u64.wrap (2 ^ m.val)) = 2 ^ (m.val + 1) - 1 := by decide +kernel
theorem allW_step (k q : Nat) (h : k / 64 = q) : allW (k + 1) q = adF (allW k q) k := by
 have e : allW k q = 2 ^ (k % 64) - 1 := by
  unfold allW
  rw [if_neg (by omega)]
  by_cases g : k ≤ 64 * q
  ·rw [if_pos g, show k % 64 = 0 by omega]; rfl
  ·rw [if_neg g, show k - 64 * q = k % 64 by omega]
 have hm := or_pow ⟨k % 64, Nat.mod_lt _ (by decide)⟩
 dsimp only at hm
 unfold adF
 rw [e, hm]
 unfold allW
 by_cases g : 64 * (q + 1) ≤ k + 1
 ·rw [if_pos g, show k % 64 = 63 by omega]; rfl
 ·rw [if_neg g, if_neg (by omega), show k + 1 - 64 * q = k % 64 + 1 by omega]
theorem allW_far (k q : Nat) (h : k / 64 ≠ q) : allW (k + 1) q = allW k q := by
 unfold allW
 by_cases g : 64 * (q + 1) ≤ k
 ·rw [if_pos g, if_pos (by omega)]
 ·rw [if_neg g, if_neg (by omega), if_pos (by omega), if_pos (by omega)]
theorem co_add0 (a0 a1 a2 a3 : Int) (k : Nat) (hk : 0 ≤ k) (hk2 : k < 64) (w : World) :
  Calls Tryz.prog 129 #[.agg #[.int .u64 a0, .int .u64 a1, .int .u64 a2, .int .u64 a3], .int .u8 (k : Int)] w (RetV w (.agg #[.int .u64 (adF a0 k), .int .u64 a1, .int .u64 a2, .int .u64 a3])) := by
 have e : (k : Int) / 64 = 0 := by omega
 go_enter Tryz.func129, Tryz.ntmps129
 go_wp2_with fail
 exact bodyPost_ret (results_cell_row rfl _ _ _ _ _ (0, 0) _ rfl (blk_second _ _ _ _) Tryz.underlying146 rfl Tryz.infoCl) rfl ⟨rfl, Off.alloc (Off.alloc (Off.refl _ _) _) _⟩
theorem co_add1 (a0 a1 a2 a3 : Int) (k : Nat) (hk : 64 ≤ k) (hk2 : k < 128) (w : World) :
  Calls Tryz.prog 129 #[.agg #[.int .u64 a0, .int .u64 a1, .int .u64 a2, .int .u64 a3], .int .u8 (k : Int)] w (RetV w (.agg #[.int .u64 a0, .int .u64 (adF a1 k), .int .u64 a2, .int .u64 a3])) := by
 have e : (k : Int) / 64 = 1 := by omega
 go_enter Tryz.func129, Tryz.ntmps129
 go_wp2_with fail
 exact bodyPost_ret (results_cell_row rfl _ _ _ _ _ (0, 0) _ rfl (blk_second _ _ _ _) Tryz.underlying146 rfl Tryz.infoCl) rfl ⟨rfl, Off.alloc (Off.alloc (Off.refl _ _) _) _⟩
theorem co_add2 (a0 a1 a2 a3 : Int) (k : Nat) (hk : 128 ≤ k) (hk2 : k < 192) (w : World) :
  Calls Tryz.prog 129 #[.agg #[.int .u64 a0, .int .u64 a1, .int .u64 a2, .int .u64 a3], .int .u8 (k : Int)] w (RetV w (.agg #[.int .u64 a0, .int .u64 a1, .int .u64 (adF a2 k), .int .u64 a3])) := by
 have e : (k : Int) / 64 = 2 := by omega
 go_enter Tryz.func129, Tryz.ntmps129
 go_wp2_with fail
 exact bodyPost_ret (results_cell_row rfl _ _ _ _ _ (0, 0) _ rfl (blk_second _ _ _ _) Tryz.underlying146 rfl Tryz.infoCl) rfl ⟨rfl, Off.alloc (Off.alloc (Off.refl _ _) _) _⟩
theorem co_add3 (a0 a1 a2 a3 : Int) (k : Nat) (hk : 192 ≤ k) (hk2 : k < 256) (w : World) :
  Calls Tryz.prog 129 #[.agg #[.int .u64 a0, .int .u64 a1, .int .u64 a2, .int .u64 a3], .int .u8 (k : Int)] w (RetV w (.agg #[.int .u64 a0, .int .u64 a1, .int .u64 a2, .int .u64 (adF a3 k)])) := by
 have e : (k : Int) / 64 = 3 := by omega
 go_enter Tryz.func129, Tryz.ntmps129
 go_wp2_with fail
 exact bodyPost_ret (results_cell_row rfl _ _ _ _ _ (0, 0) _ rfl (blk_second _ _ _ _) Tryz.underlying146 rfl Tryz.infoCl) rfl ⟨rfl, Off.alloc (Off.alloc (Off.refl _ _) _) _⟩
def allC (k : Nat) : List Value := [.int .u64 (allW k 0), .int .u64 (allW k 1), .int .u64 (allW k 2), .int .u64 (allW k 3)]
theorem co_add_all (k : Nat) (hk : k < 256) (w : World) :
  Calls Tryz.prog 129 #[.agg #[.int .u64 (allW k 0), .int .u64 (allW k 1), .int .u64 (allW k 2), .int .u64 (allW k 3)], .int .u8 (k : Int)] w (RetV w (.agg #[.int .u64 (allW (k + 1) 0), .int .u64 (allW (k + 1) 1), .int .u64 (allW (k + 1) 2), .int .u64 (allW (k + 1) 3)])) := by
 have : k / 64 = 0 ∨ k / 64 = 1 ∨ k / 64 = 2 ∨ k / 64 = 3 := by omega
 rcases this with h | h | h | h
 ·rw [allW_step k 0 h, allW_far k 1 (by omega), allW_far k 2 (by omega), allW_far k 3 (by omega)]; exact co_add0 _ _ _ _ k (by omega) (by omega) w
 ·rw [allW_far k 0 (by omega), allW_step k 1 h, allW_far k 2 (by omega), allW_far k 3 (by omega)]; exact co_add1 _ _ _ _ k (by omega) (by omega) w
 ·rw [allW_far k 0 (by omega), allW_far k 1 (by omega), allW_step k 2 h, allW_far k 3 (by omega)]; exact co_add2 _ _ _ _ k (by omega) (by omega) w
 ·rw [allW_far k 0 (by omega), allW_far k 1 (by omega), allW_far k 2 (by omega), allW_step k 3 h]; exact co_add3 _ _ _ _ k (by omega) (by omega) w
set_option maxHeartbeats 2000000 in
theorem co_range_all (w : World) : Calls Tryz.prog 174 #[.int .i64 0, .int .i64 255] w (RetV w (.tuple #[.agg #[.int .u64 18446744073709551615, .int .u64 18446744073709551615, .int .u64 18446744073709551615, .int .u64 18446744073709551615], .int .i64 0])) := by
 go_enter Tryz.func174, Tryz.ntmps174
 go_wp2_with fail
 have O0 : Hid (Off Nob w ((w.alloc (.cells #[.int .u64 0, .int .u64 0, .int .u64 0, .int .u64 0] 146)).alloc (.cells #[.int .u64 0, .int .u64 0, .int .u64 0, .int .u64 0] 146))) := hID (Off.alloc (Off.alloc (Off.refl _ _) _) _)
 have B0 : Hid (Blk ((w.alloc (.cells #[.int .u64 0, .int .u64 0, .int .u64 0, .int .u64 0] 146)).alloc (.cells #[.int .u64 0, .int .u64 0, .int .u64 0, .int .u64 0] 146)) (w.heap.size + 1) 146 (allC 0).toArray) := hID (blk_second _ _ _ _)
 have R0 : Hid (Blk ((w.alloc (.cells #[.int .u64 0, .int .u64 0, .int .u64 0, .int .u64 0] 146)).alloc (.cells #[.int .u64 0, .int .u64 0, .int .u64 0, .int .u64 0] 146)) w.heap.size 146 #[.int .u64 0, .int .u64 0, .int .u64 0, .int .u64 0]) := hID ((Blk.new _ _ _).alloc _)
 revert O0 B0 R0
 generalize ((w.alloc (.cells #[.int .u64 0, .int .u64 0, .int .u64 0, .int .u64 0] 146)).alloc (.cells #[.int .u64 0, .int .u64 0, .int .u64 0, .int .u64 0] 146)) = w0
 intro O0 B0 R0
 go_loopw [7] (fun i wr => ∃ k : Nat, k ≤ 256 ∧ i = .int .i64 (k : Int) ∧ Off Nob w wr ∧ Blk wr (w.heap.size + 1) 146 (allC k).toArray ∧ Blk wr w.heap.size 146 #[.int .u64 0, .int .u64 0, .int .u64 0, .int .u64 0]) (fun i _ => 256 - (intOf i).toNat)
 case atStart => exact ⟨0, Nat.zero_le _, rfl, O0.out, B0.out, R0.out⟩
 case round =>
  obtain ⟨k, hk, rfl, ho, hb, hr⟩ := hrel
  have HO := hID ho
  have HB := hID hb
  have HR := hID hr
  have t0 := hb.cell 0
  have t1 := hb.cell 1
  have t2 := hb.cell 2
  have t3 := hb.cell 3
  unfold allC at t0 t1 t2 t3
  simp only [List.getElem?_toArray, List.getElem?_cons_succ, List.getElem?_cons_zero] at t0 t1 t2 t3
  clear ho hb hr O0 B0 R0
  by_cases hlt : k < 256
  ·have hAD : Hid (∀ w, Calls Tryz.prog 129 #[.agg #[.int .u64 (allW k 0), .int .u64 (allW k 1), .int .u64 (allW k 2), .int .u64 (allW k 3)], .int .u8 (k : Int)] w (RetV w (.agg #[.int .u64 (allW (k + 1) 0), .int .u64 (allW (k + 1) 1), .int .u64 (allW (k + 1) 2), .int .u64 (allW (k + 1) 3)]))) := hID (fun w => co_add_all k hlt w)
   have hAC : Hid (allC (k + 1) = [.int .u64 (allW (k + 1) 0), .int .u64 (allW (k + 1) 1), .int .u64 (allW (k + 1) 2), .int .u64 (allW (k + 1) 3)]) := hID rfl
   have hd : decide ((k : Int) ≤ 255) = true := decide_eq_true (by omega)
   have hd2 : decide ((255 : Int) < (k : Int)) = false := decide_eq_false (by omega)
   go_wp2_with fail
   refine (hAD.out _).mono ?_
   rintro e w1 ⟨rfl, o1⟩
   have O1 := hID (HO.out.also o1)
   have B1 := hID (HB.out.to (o1.block _ HB.out.lt (fun h => h)))
   have R1 := hID (HR.out.to (o1.block _ HR.out.lt (fun h => h)))
   clear o1 HO HB HR t0 t1 t2 t3
   have t0 := B1.out.cell 0
   have t1 := B1.out.cell 1
   have t2 := B1.out.cell 2
   have t3 := B1.out.cell 3
   unfold allC at t0 t1 t2 t3
   simp only [List.getElem?_toArray, List.getElem?_cons_succ, List.getElem?_cons_zero] at t0 t1 t2 t3
   have f0 := B1.out.frozen 0
   have f1 := B1.out.frozen 1
   have f2 := B1.out.frozen 2
   have f3 := B1.out.frozen 3
   have B2 : Hid (Blk (w1.setCells (w.heap.size + 1) 0 (allC (k + 1))) (w.heap.size + 1) 146 (allC (k + 1)).toArray) := hID (by unfold allC at B1 ⊢; exact blk_cells4 B1.out _ _ _ _)
   have O2 := hID (off_cells O1.out (g := w.heap.size + 1) (Nat.le_succ _) 0 (allC (k + 1)))
   have R2 := hID (blk_far4 R1.out (g := w.heap.size + 1) (by omega) 0 (allC (k + 1)))
   rw [hAC.out] at O2 R2
   have B3 : Hid (Blk (w1.setCells (w.heap.size + 1) 0 [.int .u64 (allW (k + 1) 0), .int .u64 (allW (k + 1) 1), .int .u64 (allW (k + 1) 2), .int .u64 (allW (k + 1) 3)]) (w.heap.size + 1) 146 (allC (k + 1)).toArray) := B2
   clear O1 B1 R1 B2 hAD hAC
   go_wp2_with fail
   go_roundw
   case rel => exact ⟨k + 1, by omega, by go_num, O2.out, B3.out, R2.out⟩
   case measure => simp [intOf]; omega
  ·obtain rfl : k = 256 := by omega
   have e0 : allW 256 0 = 18446744073709551615 := rfl
   have e1 : allW 256 1 = 18446744073709551615 := rfl
   have e2 : allW 256 2 = 18446744073709551615 := rfl
   have e3 : allW 256 3 = 18446744073709551615 := rfl
   rw [e0] at t0
   rw [e1] at t1
   rw [e2] at t2
   rw [e3] at t3
   have s0 := HR.out.cell 0
   have s1 := HR.out.cell 1
   have s2 := HR.out.cell 2
   have s3 := HR.out.cell 3
   simp only [List.getElem?_toArray, List.getElem?_cons_succ, List.getElem?_cons_zero] at s0 s1 s2 s3
   have f0 := HR.out.frozen 0
   have f1 := HR.out.frozen 1
   have f2 := HR.out.frozen 2
   have f3 := HR.out.frozen 3
   have RR : Hid (Blk (wr.setCells w.heap.size 0 [.int .u64 18446744073709551615, .int .u64 18446744073709551615, .int .u64 18446744073709551615, .int .u64 18446744073709551615]) w.heap.size 146 #[.int .u64 18446744073709551615, .int .u64 18446744073709551615, .int .u64 18446744073709551615, .int .u64 18446744073709551615] ∧ Off Nob w (wr.setCells w.heap.size 0 [.int .u64 18446744073709551615, .int .u64 18446744073709551615, .int .u64 18446744073709551615, .int .u64 18446744073709551615])) := hID ⟨blk_cells4 HR.out _ _ _ _, off_cells HO.out (Nat.le_refl _) _ _⟩
   clear e0 e1 e2 e3
   go_wp2_with fail
   exact bodyPost_ret (results_cell_row_tmp rfl _ _ _ _ _ (0, 0) _ rfl RR.out.1 Tryz.underlying146 rfl Tryz.infoCl) rfl ⟨rfl, RR.out.2⟩
theorem co_all (w : World) : Calls Tryz.prog 165 #[] w (RetV w (.agg #[.int .u64 18446744073709551615, .int .u64 18446744073709551615, .int .u64 18446744073709551615, .int .u64 18446744073709551615])) := by
 go_enter Tryz.func165, Tryz.ntmps165
 go_wp2_with fail
 have hb := Blk.new w 146 #[.int .u64 0, .int .u64 0, .int .u64 0, .int .u64 0]
 refine (co_range_all _).mono ?_
 rintro e w1 ⟨rfl, o1⟩
 have B1 := hID (hb.to (o1.block _ hb.lt (fun h => h)))
 have O1 := hID ((Off.alloc (Off.refl Nob w) (.cells #[.int .u64 0, .int .u64 0, .int .u64 0, .int .u64 0] 146)).also o1)
 clear hb o1
 have BB := hID (B1.out.alloc (.cells #[.int .u64 18446744073709551615, .int .u64 18446744073709551615, .int .u64 18446744073709551615, .int .u64 18446744073709551615] 146))
 have t0 := BB.out.cell 0
 have t1 := BB.out.cell 1
 have t2 := BB.out.cell 2
 have t3 := BB.out.cell 3
 simp only [List.getElem?_toArray, List.getElem?_cons_succ, List.getElem?_cons_zero] at t0 t1 t2 t3
 have f0 := BB.out.frozen 0
 have f1 := BB.out.frozen 1
 have f2 := BB.out.frozen 2
 have f3 := BB.out.frozen 3
 have RR := hID (And.intro (blk_cells4 BB.out (.int .u64 18446744073709551615) (.int .u64 18446744073709551615) (.int .u64 18446744073709551615) (.int .u64 18446744073709551615)) (off_cells (O1.out.alloc (.cells #[.int .u64 18446744073709551615, .int .u64 18446744073709551615, .int .u64 18446744073709551615, .int .u64 18446744073709551615] 146)) (Nat.le_refl _) 0 [.int .u64 18446744073709551615, .int .u64 18446744073709551615, .int .u64 18446744073709551615, .int .u64 18446744073709551615]))
 go_wp2_with fail
 exact bodyPost_ret (results_cell_row rfl _ _ _ _ _ (0, 0) _ rfl RR.out.1 Tryz.underlying146 rfl Tryz.infoCl) rfl ⟨rfl, RR.out.2⟩
end Go.Proofs.YtkflicifngohcaaGreatDoor

namespace Go.Proofs.YtkflicifngohcaaGreatDoor
open Go.RowKit
set_option maxRecDepth 100000
def apB (a n b m : Int) : Bool := decide (a + n ≤ b) || decide (b + m ≤ a)
set_option maxHeartbeats 1000000 in
theorem napart (a n b m : Int) (ha : 0 ≤ a ∧ a ≤ 1000000) (hn : 0 ≤ n ∧ n ≤ 1000000) (hb : 0 ≤ b ∧ b ≤ 1000000) (hm : 0 ≤ m ∧ m ≤ 1000000) (w : World) :
  Calls Tryz.prog 89 #[.agg #[.int .i64 a, .int .i64 n], .agg #[.int .i64 b, .int .i64 m]] w fun e w' => e = .returned (.bool (apB a n b m)) ∧ Off Nob w w' := by
 obtain ⟨ha1, ha2⟩ := ha
 obtain ⟨hn1, hn2⟩ := hn
 obtain ⟨hb1, hb2⟩ := hb
 obtain ⟨hm1, hm2⟩ := hm
 by_cases h1 : a + n ≤ b
 ·have d1 : decide (a + n ≤ b) = true := decide_eq_true h1
  have HA : Hid (apB a n b m = true) := hID (by simp [apB, h1])
  rw [HA.out]
  go_enter Tryz.func89, Tryz.ntmps89
  go_wp2_with fail
  go_ret
  exact ⟨rfl, (Off.alloc (Off.refl _ _) _).alloc _⟩
 ·have d1 : decide (a + n ≤ b) = false := decide_eq_false h1
  by_cases h2 : b + m ≤ a
  ·have d2 : decide (b + m ≤ a) = true := decide_eq_true h2
   have HA : Hid (apB a n b m = true) := hID (by simp [apB, h1, h2])
   rw [HA.out]
   go_enter Tryz.func89, Tryz.ntmps89
   go_wp2_with fail
   go_ret
   exact ⟨rfl, (Off.alloc (Off.refl _ _) _).alloc _⟩
  ·have d2 : decide (b + m ≤ a) = false := decide_eq_false h2
   have HA : Hid (apB a n b m = false) := hID (by simp [apB, h1, h2])
   rw [HA.out]
   go_enter Tryz.func89, Tryz.ntmps89
   go_wp2_with fail
   go_ret
   exact ⟨rfl, (Off.alloc (Off.refl _ _) _).alloc _⟩
end Go.Proofs.YtkflicifngohcaaGreatDoor

namespace Go.Proofs.YtkflicifngohcaaGreatDoor
open Go.RowKit
set_option maxRecDepth 100000
def partC (P : List (Int × Int)) : List Value := P.flatMap (fun p => [.int .i64 p.1, .int .i64 p.2])
def pAt (P : List (Int × Int)) (k : Nat) : Int × Int := P.getD k (0, 0)
def apTo (P : List (Int × Int)) (k j : Nat) : Bool := (List.range j).all fun i => apB (pAt P k).1 (pAt P k).2 (pAt P i).1 (pAt P i).2
def apAll (P : List (Int × Int)) : Bool := (List.range P.length).all fun k => apTo P k k
theorem partC_at (P : List (Int × Int)) (k : Nat) (h : k < P.length) : (partC P)[2 * k]? = some (.int .i64 (pAt P k).1) ∧ (partC P)[2 * k + 1]? = some (.int .i64 (pAt P k).2) := by
 induction P generalizing k with
 | nil => simp at h
 | cons p P ih =>
  cases k with
  | zero => simp [partC, pAt]
  | succ k =>
   have := ih k (by simpa using h)
   simpa [partC, pAt, Nat.mul_add] using this
set_option maxHeartbeats 2000000 in
theorem npairs (P : List (Int × Int)) (hP : ∀ k, k < P.length → 0 ≤ (pAt P k).1 ∧ (pAt P k).1 ≤ 1000000 ∧ 0 ≤ (pAt P k).2 ∧ (pAt P k).2 ≤ 1000000) (h1 : 1 ≤ P.length) (hn : P.length ≤ 64) (w : World) (v : Value) (hv : Rd w (fun _ => True) 2 v P.length (partC P)) (hcp : CapOk v) :
  Calls Tryz.prog 88 #[v, .func (.func 89) #[] #[]] w (RetV w (.bool (apAll P))) := by
 obtain ⟨b, o, c, rfl, hc⟩ := hv.cellsT (by omega)
 have hcap : P.length ≤ c := hcp _ _ _ rfl
 have HC : Hid (∀ W, Off Nob w W → ∀ k, k < P.length → W.cell? ⟨b, o + k * 2, none⟩ = some (.int .i64 (pAt P k).1) ∧ W.cell? ⟨b, o + k * 2 + 1, none⟩ = some (.int .i64 (pAt P k).2)) := hID (fun W ho k hk => by
  obtain ⟨e1, e2⟩ := partC_at P k hk
  have a1 := hc W ho _ _ e1
  have a2 := hc W ho _ _ e2
  rw [Nat.mul_comm 2 k] at a1 a2
  exact ⟨a1, by rw [← Nat.add_assoc] at a2; exact a2⟩)
 have HP := hID hP
 clear hc hv hcp hP
 go_enter Tryz.func88, Tryz.ntmps88
 go_wp2_with fail
 go_loopw [11] (fun p wr => ∃ k : Nat, p = .int .i64 (k : Int) ∧ k ≤ P.length ∧ (∀ i, i < k → apTo P i i = true) ∧ Off Nob w wr) (fun p wr => P.length - (intOf p).toNat)
 case atStart => exact ⟨0, rfl, Nat.zero_le _, fun i hi => by omega, Off.refl _ _⟩
 case round =>
  obtain ⟨k, rfl, hk, hall, ho⟩ := hrel
  have HA := hID hall
  have HO := hID ho
  clear hall ho
  by_cases hlt : k < P.length
  ·have d1 : decide ((k : Int) < (P.length : Int)) = true := decide_eq_true (by omega)
   obtain ⟨c0, c1⟩ := HC.out _ HO.out k hlt
   obtain ⟨x, y, hxy⟩ : ∃ x y, pAt P k = (x, y) := ⟨_, _, rfl⟩
   rw [hxy] at c0 c1
   have HXY := hID hxy
   clear hxy
   have hkc : (k : Int) ≤ (c : Int) := by omega
   have hkc2 : k ≤ c := by omega
   go_wp2_with fail
   have HB : Hid (Blk (wr.alloc (.cells #[.int .i64 x, .int .i64 y] 155)) wr.heap.size 155 #[.int .i64 x, .int .i64 y] ∧ Off Nob w (wr.alloc (.cells #[.int .i64 x, .int .i64 y] 155))) := hID ⟨Blk.new _ _ _, HO.out.alloc _⟩
   revert HB
   generalize hgg : wr.heap.size = g
   generalize wr.alloc (.cells #[.int .i64 x, .int .i64 y] 155) = W1
   intro HB
   clear c0 c1 hgg
   go_loopw [20] (fun q wq => ∃ j : Nat, q = .int .i64 (j : Int) ∧ j ≤ k ∧ apTo P k j = true ∧ Off Nob W1 wq) (fun q wq => k - (intOf q).toNat)
   case atStart => exact ⟨0, rfl, Nat.zero_le _, rfl, Off.refl _ _⟩
   case round =>
    obtain ⟨j, rfl, hj, hap, ho2⟩ := hrel
    have HAP := hID hap
    have HO2 := hID ho2
    clear hap ho2
    by_cases hlt2 : j < k
    ·have d2 : decide ((j : Int) < (k : Int)) = true := decide_eq_true (by omega)
     obtain ⟨c0, c1⟩ := HC.out _ (HB.out.2.also HO2.out) j (by omega)
     obtain ⟨x2, y2, hxy2⟩ : ∃ x2 y2, pAt P j = (x2, y2) := ⟨_, _, rfl⟩
     rw [hxy2] at c0 c1
     obtain ⟨p1, p2, p3, p4⟩ := HP.out k hlt
     obtain ⟨q1, q2, q3, q4⟩ := HP.out j (by omega)
     rw [HXY.out] at p1 p2 p3 p4
     rw [hxy2] at q1 q2 q3 q4
     have HN : Hid (∀ w, Calls Tryz.prog 89 #[.agg #[.int .i64 x, .int .i64 y], .agg #[.int .i64 x2, .int .i64 y2]] w fun e w' => e = .returned (.bool (apB x y x2 y2)) ∧ Off Nob w w') := hID (fun w => napart x y x2 y2 ⟨p1, p2⟩ ⟨p3, p4⟩ ⟨q1, q2⟩ ⟨q3, q4⟩ w)
     have HS : Hid (apTo P k (j + 1) = (apTo P k j && apB x y x2 y2)) := hID (by simp [apTo, List.range_succ, HXY.out, hxy2])
     have hb := HB.out.1.to (HO2.out.block _ HB.out.1.lt (fun h => h))
     have b0 := (hb.alloc (.cells #[.int .i64 x2, .int .i64 y2] 155)).cell 0
     have b1 := (hb.alloc (.cells #[.int .i64 x2, .int .i64 y2] 155)).cell 1
     simp only [List.getElem?_toArray, List.getElem?_cons_succ, List.getElem?_cons_zero] at b0 b1
     obtain ⟨z, hz⟩ : ∃ z, apB x y x2 y2 = z := ⟨_, rfl⟩
     rw [hz] at HN HS
     clear hb hxy2 p1 p2 p3 p4 q1 q2 q3 q4 hz
     cases z
     ·go_wp2_with fail
      refine (HN.out _).mono ?_
      rintro e w' ⟨rfl, o3⟩
      have HO3 := hID (HO2.out.also ((Off.alloc (Off.refl Nob wr) (.cells #[.int .i64 x2, .int .i64 y2] 155)).also o3))
      clear o3
      go_wp2_with fail
      go_ret
      have hf : apAll P = false := by
       have e1 : apTo P k (j + 1) = false := by rw [HS.out]; simp
       have e2 : apTo P k k = false := by
        simp only [apTo, List.all_eq_false, List.mem_range] at e1 ⊢
        obtain ⟨i, hi, h⟩ := e1
        exact ⟨i, by omega, h⟩
       simp only [apAll, List.all_eq_false, List.mem_range]
       exact ⟨k, hlt, by simp [e2]⟩
      exact ⟨by rw [hf]; rfl, HB.out.2.also HO3.out⟩
     ·go_wp2_with fail
      refine (HN.out _).mono ?_
      rintro e w' ⟨rfl, o3⟩
      have HO3 := hID (HO2.out.also ((Off.alloc (Off.refl Nob wr) (.cells #[.int .i64 x2, .int .i64 y2] 155)).also o3))
      clear o3
      go_wp2_with fail
      go_roundw
      case rel => exact ⟨j + 1, by go_num, by omega, by rw [HS.out, HAP.out]; rfl, HO3.out⟩
      case measure => simp [intOf]; omega
    ·obtain rfl : j = k := by omega
     have d2 : decide ((j : Int) < (j : Int)) = false := decide_eq_false (by omega)
     go_wp2_with fail
     go_roundw
     case rel =>
      refine ⟨j + 1, by go_num, by omega, fun i hi => ?_, HB.out.2.also HO2.out⟩
      by_cases hi2 : i < j
      ·exact HA.out i hi2
      ·obtain rfl : i = j := by omega
       exact HAP.out
     case measure => simp [intOf]; omega
  ·obtain rfl : k = P.length := by omega
   have d1 : decide ((P.length : Int) < (P.length : Int)) = false := decide_eq_false (by omega)
   go_wp2_with fail
   go_ret
   refine ⟨?_, HO.out⟩
   have : apAll P = true := by simpa [apAll, List.all_eq_true] using HA.out
   rw [this]
   rfl
end Go.Proofs.YtkflicifngohcaaGreatDoor

namespace Go.Proofs.YtkflicifngohcaaGreatDoor
open Go.RowKit
set_option maxRecDepth 100000
theorem nnothing (w : World) : Calls Tryz.prog 54 #[] w fun e w' => e = .returned (.int .i64 0) ∧ w = w' := by
 go_enter Tryz.func54, Tryz.ntmps54
 go_wp2_with fail
 go_ret
 exact ⟨rfl, rfl⟩
theorem off_same {w : World} {g i : Nat} {t : TypeId} {cs : Array Value} {u : Value} (h : Blk w g t cs) (hu : cs[i]? = some u) : Off Nob w (w.setCell ⟨g, i, none⟩ u) := by
 have o : Off (fun k => k = g) w (w.setCell ⟨g, i, none⟩ u) := Off.put (F := fun k => k = g) (p := ⟨g, i, none⟩) (Off.refl _ _) (.inl rfl) u
 refine ⟨o.os, o.tape, o.output, o.size, fun k hk _ => ?_⟩
 by_cases e : k = g
 ·subst e
  have h2 := h.put i u
  have e3 : cs.setIfInBounds i u = cs := by
   apply Array.ext_getElem?
   intro j
   rw [Array.getElem?_setIfInBounds]
   split
   ·next hj => subst hj; split <;> simp_all
   ·rfl
  rw [e3] at h2
  exact h2.trans h.symm
 ·exact o.block k hk e
set_option maxHeartbeats 1000000 in
theorem nkeep (g : Nat) (cs : Array Value) (w : World) (h : Blk w g 112 cs) (h9 : cs[9]? = some (.int .i64 0)) : Calls Tryz.prog 49 #[.pointer (some ⟨g, 0, none⟩), .int .i64 0] w fun e w' => e = .returned (.tuple #[]) ∧ Off Nob w w' := by
 have c9 : w.cell? ⟨g, 9, none⟩ = some (.int .i64 0) := (h.cell 9).trans h9
 have f9 := h.frozen 9
 have HO := hID (off_same h h9)
 clear h h9
 go_enter Tryz.func49, Tryz.ntmps49
 go_wp2_with fail
 go_end0
 exact ⟨rfl, HO.out⟩
end Go.Proofs.YtkflicifngohcaaGreatDoor

namespace Go.Proofs.YtkflicifngohcaaGreatDoor
open Go.RowKit
set_option maxRecDepth 100000
structure Lay where
 a : Int
 b : Int
 t : Int
 s : Int
 f : Int
 st : Int
 n : Int
 h : Int
def Lay.val (l : Lay) : Value := .agg #[.int .i64 l.a, .int .i64 l.b, .int .i64 l.t, .int .i64 l.s, .int .i64 l.f, .int .i64 l.st, .int .i64 l.n, .int .i64 l.h]
def Lay.cells (l : Lay) : Array Value := #[.int .i64 l.a, .int .i64 l.b, .int .i64 l.t, .int .i64 l.s, .int .i64 l.f, .int .i64 l.st, .int .i64 l.n, .int .i64 l.h]
def Lay.parts (l : Lay) : List (Int × Int) := [(l.t, 256 * l.a), (l.s, l.a), (l.f, l.b * l.a), (l.st, l.a), (l.n, l.a), (l.h, l.b)]
structure Lay.Ok (l : Lay) (n : Nat) : Prop where
 a1 : 1 ≤ l.a
 a4 : l.a ≤ 4
 b1 : 1 ≤ l.b
 b16 : l.b ≤ 16
 pos : ∀ k, k < 6 → 0 ≤ (pAt l.parts k).1 ∧ 0 ≤ (pAt l.parts k).2 ∧ (pAt l.parts k).1 + (pAt l.parts k).2 ≤ n
 apart : apAll l.parts = true
def macC (p : Nat) (l : Lay) : Array Value := #[.pointer (some ⟨p, 0, none⟩), .int .i64 l.a, .int .i64 l.b, .int .i64 l.t, .int .i64 l.s, .int .i64 l.f, .int .i64 l.st, .int .i64 l.n, .int .i64 l.h, .int .i64 0]
def MacNew (w : World) (p : Nat) (l : Lay) (e : Ending) (w' : World) : Prop := ∃ g, e = .returned (.tuple #[.pointer (some ⟨g, 0, none⟩), .int .i64 0]) ∧ w.heap.size ≤ g ∧ Blk w' g 112 (macC p l) ∧ Off Nob w w'
theorem rd_blk {W : World} {g n size : Nat} {t : TypeId} {cs : Array Value} (h : Blk W g t cs) (hl : cs.toList.length = n * size) (hn : n ≤ maxLen) : Rd W (fun _ => True) size (.slice (some ⟨g, 0, none⟩) n n) n cs.toList :=
 ⟨_, _, rfl, hn, hl, fun _ => ⟨g, 0, rfl, trivial, h.lt, fun j u hu => by
  rw [Nat.zero_add, h.cell]
  simpa using hu⟩⟩
set_option maxHeartbeats 4000000 in
theorem nbegin_all (l : Lay) (w : World) (F : Nat → Prop) (p : Nat) (C : List (BitVec 64)) (E : List Ev) (h : Ar w F p C E) (hl : l.Ok C.length) (steps : Int) (h0 : 0 ≤ steps) (h1 : E.length + steps ≤ 8388608) (fn : FuncId) (caps : Array Value) (hf : (fn = 41 ∧ ∃ sa la : Addr, caps = #[.pointer (some sa), .pointer (some la)]) ∨ (fn = 45 ∧ ∃ ma : Addr, caps = #[.pointer (some ma)]) ∨ (fn = 54 ∧ caps = #[]))
  (hask : ∀ W, Off Nob w W → Calls Tryz.prog fn caps W (RetV W (.int .i64 0))) :
  Calls Tryz.prog 40 #[.pointer (some ⟨p, 0, none⟩), l.val, .int .i64 steps, .func (.func fn) #[] caps] w (MacNew w p l) := by
 have hC := h.n2
 have HA : Hid (∀ W, Off Nob w W → Ar W F p C E) := hID (fun W o => h.keep o (fun _ _ hn => hn))
 have HK := hID hask
 have HP := hID hl.pos
 have HAP := hID hl.apart
 have HR : Hid (∀ W, Calls Tryz.prog 74 #[.int .i64 l.a, .int .i64 l.b] W fun e w' => e = .returned (.bool true) ∧ W = w') := hID (fun W => nright_yes l.a l.b hl.a1 hl.a4 hl.b1 hl.b16 W)
 have ha1 := hl.a1
 have ha4 := hl.a4
 have hb1 := hl.b1
 have hb16 := hl.b16
 have hba0 : 0 ≤ l.b * l.a := Int.mul_nonneg (by omega) (by omega)
 have hba1 : l.b * l.a ≤ 64 := by
  have : l.a = 1 ∨ l.a = 2 ∨ l.a = 3 ∨ l.a = 4 := by omega
  rcases this with e | e | e | e <;> rw [e] <;> omega
 clear hask hl h
 obtain ⟨a, b, t, s, f, st, n, hh⟩ := l
 simp only at ha1 ha4 hb1 hb16 hba0 hba1
 obtain ⟨q, hq⟩ : ∃ q, b * a = q := ⟨_, rfl⟩
 have HQ := hID hq
 go_enter Tryz.func40, Tryz.ntmps40
 unfold Lay.val
 go_wp2_with fail
 have X0 : Hid (Off Nob w (w.alloc (.cells #[.int .i64 a, .int .i64 b, .int .i64 t, .int .i64 s, .int .i64 f, .int .i64 st, .int .i64 n, .int .i64 hh] 33)) ∧ Blk (w.alloc (.cells #[.int .i64 a, .int .i64 b, .int .i64 t, .int .i64 s, .int .i64 f, .int .i64 st, .int .i64 n, .int .i64 hh] 33)) w.heap.size 33 #[.int .i64 a, .int .i64 b, .int .i64 t, .int .i64 s, .int .i64 f, .int .i64 st, .int .i64 n, .int .i64 hh]) := hID ⟨(Off.refl _ _).alloc _, Blk.new _ _ _⟩
 revert X0
 generalize (w.alloc (.cells #[.int .i64 a, .int .i64 b, .int .i64 t, .int .i64 s, .int .i64 f, .int .i64 st, .int .i64 n, .int .i64 hh] 33)) = w0
 intro X0
 refine (HR.out _).mono ?_
 rintro e w1 ⟨rfl, rfl⟩
 have GC : Hid (∀ W, Off Nob w0 W → W.cell? ⟨w.heap.size, 0, none⟩ = some (.int .i64 a) ∧ W.cell? ⟨w.heap.size, 1, none⟩ = some (.int .i64 b) ∧ W.cell? ⟨w.heap.size, 2, none⟩ = some (.int .i64 t) ∧ W.cell? ⟨w.heap.size, 3, none⟩ = some (.int .i64 s) ∧ W.cell? ⟨w.heap.size, 4, none⟩ = some (.int .i64 f) ∧ W.cell? ⟨w.heap.size, 5, none⟩ = some (.int .i64 st) ∧ W.cell? ⟨w.heap.size, 6, none⟩ = some (.int .i64 n) ∧ W.cell? ⟨w.heap.size, 7, none⟩ = some (.int .i64 hh)) := hID (fun W o => by
  have h := X0.out.2.to (o.block _ X0.out.2.lt id)
  exact ⟨h.cell 0, h.cell 1, h.cell 2, h.cell 3, h.cell 4, h.cell 5, h.cell 6, h.cell 7⟩)
 obtain ⟨c0, c1, c2, c3, c4, c5, c6, c7⟩ := GC.out _ (Off.refl _ _)
 go_wp2_with fail
 clear c0 c1 c2 c3 c4 c5 c6 c7
 obtain ⟨L, hL⟩ : ∃ L, w0.heap.size = L := ⟨_, rfl⟩
 have X1 : Hid (Off Nob w0 (w0.alloc (.cells #[.int .i64 t, .int .i64 (256 * a), .int .i64 s, .int .i64 a, .int .i64 f, .int .i64 q, .int .i64 st, .int .i64 a, .int .i64 n, .int .i64 a, .int .i64 hh, .int .i64 b] 155)) ∧ Blk (w0.alloc (.cells #[.int .i64 t, .int .i64 (256 * a), .int .i64 s, .int .i64 a, .int .i64 f, .int .i64 q, .int .i64 st, .int .i64 a, .int .i64 n, .int .i64 a, .int .i64 hh, .int .i64 b] 155)) L 155 #[.int .i64 t, .int .i64 (256 * a), .int .i64 s, .int .i64 a, .int .i64 f, .int .i64 q, .int .i64 st, .int .i64 a, .int .i64 n, .int .i64 a, .int .i64 hh, .int .i64 b]) := hID ⟨(Off.refl _ _).alloc _, by rw [← hL]; exact Blk.new _ _ _⟩
 rw [hL]
 revert X1
 generalize w0.alloc (.cells #[.int .i64 t, .int .i64 (256 * a), .int .i64 s, .int .i64 a, .int .i64 f, .int .i64 q, .int .i64 st, .int .i64 a, .int .i64 n, .int .i64 a, .int .i64 hh, .int .i64 b] 155) = w1
 intro X1
 clear hL
 obtain ⟨P, hPe⟩ : ∃ P, Lay.parts ⟨a, b, t, s, f, st, n, hh⟩ = P := ⟨_, rfl⟩
 have HPC : Hid (partC P = (#[.int .i64 t, .int .i64 (256 * a), .int .i64 s, .int .i64 a, .int .i64 f, .int .i64 q, .int .i64 st, .int .i64 a, .int .i64 n, .int .i64 a, .int .i64 hh, .int .i64 b] : Array Value).toList ∧ P.length = 6) := hID (by rw [← hPe, ← HQ.out]; exact ⟨rfl, rfl⟩)
 rw [hPe] at HP HAP
 clear hPe
 have HC : Hid (∀ W, Off Nob w1 W → ∀ k, k < 6 → W.cell? ⟨L, k * 2, none⟩ = some (.int .i64 (pAt P k).1) ∧ W.cell? ⟨L, k * 2 + 1, none⟩ = some (.int .i64 (pAt P k).2)) := hID (fun W o k hk => by
  obtain ⟨e1, e2⟩ := partC_at P k (by rw [HPC.out.2]; exact hk)
  rw [HPC.out.1, Nat.mul_comm 2 k] at e1 e2
  have hb := X1.out.2.to (o.block _ X1.out.2.lt id)
  exact ⟨(hb.cell _).trans (by simpa using e1), (hb.cell _).trans (by simpa using e2)⟩)
 go_loopw [59] (fun p wr => ∃ k : Nat, p = .int .i64 (k : Int) ∧ k ≤ 6 ∧ Off Nob w1 wr) (fun p wr => 6 - (intOf p).toNat)
 case atStart => exact ⟨0, rfl, by decide, Off.refl _ _⟩
 case round =>
  obtain ⟨k, rfl, hk, ho⟩ := hrel
  have HO := hID ho
  clear ho
  by_cases hlt : k < 6
  ·have d1 : decide ((k : Int) < 6) = true := decide_eq_true (by omega)
   obtain ⟨c0, c1⟩ := HC.out _ HO.out k hlt
   obtain ⟨z1, z2, z3⟩ := HP.out k hlt
   obtain ⟨x, y, hxy⟩ : ∃ x y, pAt P k = (x, y) := ⟨_, _, rfl⟩
   rw [hxy] at c0 c1 z1 z2 z3
   clear hxy
   have HO2 := hID (HO.out.alloc (.cells #[.int .i64 x, .int .i64 y] 155))
   have HX := hID (Blk.new wr 155 #[.int .i64 x, .int .i64 y])
   have x0 := HX.out.cell 0
   have x1 := HX.out.cell 1
   have HH := hID (has_ok (HA.out _ ((X0.out.1.also X1.out.1).also HO2.out)) x y z1 z2 z3)
   clear z1 z2 z3
   go_wp2_with fail
   refine HH.out.mono ?_
   rintro e w2 ⟨rfl, rfl⟩
   go_wp2_with fail
   go_roundw
   case rel => exact ⟨k + 1, rfl, by omega, HO2.out⟩
   case measure => simp [intOf]; omega
  ·obtain rfl : k = 6 := by omega
   go_wp2_with fail
   have HPR := hID (npairs P (fun k hk => by
    have := HP.out k (by have := HPC.out.2; omega)
    omega) (by rw [HPC.out.2]; decide) (by rw [HPC.out.2]; decide) wr (.slice (some ⟨L, 0, none⟩) 6 6) (by
    rw [HPC.out.2, HPC.out.1]
    exact rd_blk (X1.out.2.to (HO.out.block _ X1.out.2.lt id)) rfl (by decide)) (fun A n c he => by cases he; exact Nat.le_refl _))
   rw [HAP.out] at HPR
   refine HPR.out.mono ?_
   rintro e w2 ⟨rfl, o2⟩
   have Y1 := hID (HO.out.also o2)
   clear o2 HPR HO
   rcases hf with ⟨rfl, sa, la, rfl⟩ | ⟨rfl, ma, rfl⟩ | ⟨rfl, rfl⟩
   all_goals
    go_wp2_with fail
    refine (HK.out _ ((X0.out.1.also X1.out.1).also Y1.out)).mono ?_
    rintro e w3 ⟨rfl, o2⟩
    have Y2 := hID (Y1.out.also o2)
    clear o2 Y1
    have HRM := hID (room_ok (HA.out _ ((X0.out.1.also X1.out.1).also Y2.out)) steps h0 h1)
    obtain ⟨c0, c1, c2, c3, c4, c5, c6, c7⟩ := GC.out _ (X1.out.1.also Y2.out)
    go_wp2_with fail
    refine HRM.out.mono ?_
    rintro e w4 ⟨rfl, rfl⟩
    go_wp2_with fail
    go_ret2
    exact ⟨_, rfl, Nat.le_trans X0.out.1.size (Nat.le_trans X1.out.1.size Y2.out.size), Blk.new _ _ _, ((X0.out.1.also X1.out.1).also Y2.out).alloc _⟩
theorem nbegin_setup (l : Lay) (w : World) (F : Nat → Prop) (p : Nat) (C : List (BitVec 64)) (E : List Ev) (h : Ar w F p C E) (hl : l.Ok C.length) (steps : Int) (h0 : 0 ≤ steps) (h1 : E.length + steps ≤ 8388608) (sa la : Addr)
  (hask : ∀ W, Off Nob w W → Calls Tryz.prog 41 #[.pointer (some sa), .pointer (some la)] W (RetV W (.int .i64 0))) :
  Calls Tryz.prog 40 #[.pointer (some ⟨p, 0, none⟩), l.val, .int .i64 steps, .func (.func 41) #[] #[.pointer (some sa), .pointer (some la)]] w (MacNew w p l) := nbegin_all l w F p C E h hl steps h0 h1 41 #[.pointer (some sa), .pointer (some la)] (.inl ⟨rfl, sa, la, rfl⟩) hask
theorem nbegin_byte (l : Lay) (w : World) (F : Nat → Prop) (p : Nat) (C : List (BitVec 64)) (E : List Ev) (h : Ar w F p C E) (hl : l.Ok C.length) (steps : Int) (h0 : 0 ≤ steps) (h1 : E.length + steps ≤ 8388608) (ma : Addr)
  (hask : ∀ W, Off Nob w W → Calls Tryz.prog 45 #[.pointer (some ma)] W (RetV W (.int .i64 0))) :
  Calls Tryz.prog 40 #[.pointer (some ⟨p, 0, none⟩), l.val, .int .i64 steps, .func (.func 45) #[] #[.pointer (some ma)]] w (MacNew w p l) := nbegin_all l w F p C E h hl steps h0 h1 45 #[.pointer (some ma)] (.inr (.inl ⟨rfl, ma, rfl⟩)) hask
theorem nbegin_none (l : Lay) (w : World) (F : Nat → Prop) (p : Nat) (C : List (BitVec 64)) (E : List Ev) (h : Ar w F p C E) (hl : l.Ok C.length) (steps : Int) (h0 : 0 ≤ steps) (h1 : E.length + steps ≤ 8388608) 
  (hask : ∀ W, Off Nob w W → Calls Tryz.prog 54 #[] W (RetV W (.int .i64 0))) :
  Calls Tryz.prog 40 #[.pointer (some ⟨p, 0, none⟩), l.val, .int .i64 steps, .func (.func 54) #[] #[]] w (MacNew w p l) := nbegin_all l w F p C E h hl steps h0 h1 54 #[] (.inr (.inr ⟨rfl, rfl⟩)) hask
end Go.Proofs.YtkflicifngohcaaGreatDoor

namespace Go.Proofs.YtkflicifngohcaaGreatDoor
open Go.RowKit
set_option maxRecDepth 100000
theorem Tryz.infoSp : (Tryz.prog.info? 233).map (·.size) = some 2 := by kernel_rfl
def spotV (n : Nat) : Value := .agg #[.int .i64 ((n / 64 : Nat) : Int), .int .u64 ((2 ^ (n % 64) : Nat) : Int)]
theorem pow64 (n : Nat) : (2 ^ (n % 64) : Nat) < 18446744073709551616 := (Nat.pow_lt_pow_iff_right (a := 2) (n := n % 64) (m := 64) (by decide)).2 (Nat.mod_lt _ (by decide))
theorem tat (n : Nat) (hn : n < 4096) (w : World) : Calls Tryz.prog 155 #[.int .i64 n] w fun e w' => e = .returned (spotV n) ∧ Off Nob w w' := by
 have hp := pow64 n
 go_enter Tryz.func155, Tryz.ntmps155
 have hpc : ((2 : Int) ^ (n % 64)) = ((2 ^ (n % 64) : Nat) : Int) := by push_cast; rfl
 have hw : IntKind.u64.wrap (2 ^ (n % 64)) = ((2 ^ (n % 64) : Nat) : Int) := by rw [IntKind.wrap_u64, hpc]; exact Int.emod_eq_of_lt (Int.natCast_nonneg _) (Int.ofNat_lt.2 hp)
 have hd : ((n : Int) / 64) = ((n / 64 : Nat) : Int) := by omega
 have HD := hID (And.intro hpc hd)
 clear hpc hd hp
 go_wp2_with fail
 exact bodyPost_ret (results_cell_row rfl _ _ w.heap.size 233 _ (0, 0) _ rfl (Blk.new w 233 _) Tryz.underlying233 rfl Tryz.infoSp) rfl ⟨by unfold spotV; rw [← HD.out.2, ← HD.out.1], Off.alloc (Off.refl _ _) _⟩
theorem smin (xs : List Int) (hx : ∀ x ∈ xs, -9223372036854775808 ≤ x ∧ x ≤ 9223372036854775807) (h1 : 1 ≤ xs.length) (hn : xs.length ≤ 1024) (w : World) (v : Value) (hv : Rd w (fun _ => True) 1 v xs.length (xs.map (Value.int .i64))) : Calls Tryz.prog 130 #[v] w fun e w' => (∃ m, e = .returned (.int .i64 m) ∧ m ∈ xs ∧ ∀ x ∈ xs, m ≤ x) ∧ w = w' := by
 obtain ⟨b, o, c, rfl, hc⟩ := hv.cellsT (by omega)
 have HC : Hid (∀ k, k < xs.length → w.cell? ⟨b, o + k, none⟩ = some (.int .i64 (xs.getD k 0))) := hID (fun k hk => hc w (Off.refl _ _) k _ (by simp [List.getD_eq_getElem?_getD, List.getElem?_eq_getElem hk]))
 clear hc hv
 have c0 := HC.out 0 (by omega)
 have d0 : decide ((xs.length : Int) < 1) = false := decide_eq_false (by omega)
 obtain ⟨x0, h0⟩ : ∃ x0, xs.getD 0 0 = x0 := ⟨_, rfl⟩
 have H0 := hID h0
 rw [h0, Nat.add_zero] at c0
 clear h0
 go_enter Tryz.func130, Tryz.ntmps130
 go_wp2_with fail
 clear c0
 go_loopw [3, 4] (fun p q wr => ∃ (k : Nat) (m : Int), q = .int .i64 (k : Int) ∧ p = .int .i64 m ∧ 1 ≤ k ∧ k ≤ xs.length ∧ m ∈ xs.take k ∧ (∀ x ∈ xs.take k, m ≤ x) ∧ wr = w) (fun p q wr => xs.length - (intOf q).toNat)
 case atStart => exact ⟨1, x0, rfl, rfl, Nat.le_refl _, h1, by cases xs with | nil => simp at h1 | cons y ys => have := H0.out; simp at this; simp [this], by cases xs with | nil => simp at h1 | cons y ys => have := H0.out; simp at this; simp [this], rfl⟩
 case round =>
  obtain ⟨k, m, rfl, rfl, hk1, hk, hm, hall, rfl⟩ := hrel
  by_cases hlt : k < xs.length
  ·have d1 : decide ((k : Int) < (xs.length : Int)) = true := decide_eq_true (by omega)
   have ck := HC.out k hlt
   obtain ⟨y, hy⟩ : ∃ y, xs.getD k 0 = y := ⟨_, rfl⟩
   have HY : Hid (xs.take (k + 1) = xs.take k ++ [y]) := hID (by rw [← hy, List.getD_eq_getElem?_getD, List.getElem?_eq_getElem hlt]; simp)
   have HM := hID hm
   have HA := hID hall
   have HX := hID hx
   rw [hy] at ck
   clear hy hm hall hx
   go_wp2_with fail
   go_roundw
   case rel =>
    refine ⟨k + 1, min m y, by go_num, rfl, by omega, by omega, ?_, ?_, trivial⟩
    ·rw [HY.out]
     rcases (by omega : min m y = m ∨ min m y = y) with h | h
     ·rw [h]; exact List.mem_append_left _ HM.out
     ·rw [h]; simp
    ·intro x hx
     rw [HY.out] at hx
     rcases List.mem_append.1 hx with h | h
     ·have := HA.out x h; omega
     ·simp at h; omega
   case measure => simp [intOf]; omega
  ·obtain rfl : k = xs.length := by omega
   have d1 : decide ((xs.length : Int) < (xs.length : Int)) = false := decide_eq_false (by omega)
   rw [List.take_length] at hm hall
   have HM := hID hm
   have HA := hID hall
   clear hm hall hx
   go_wp2_with fail
   go_ret
   exact ⟨⟨m, rfl, HM.out, HA.out⟩, rfl⟩
theorem smax (xs : List Int) (hx : ∀ x ∈ xs, -9223372036854775808 ≤ x ∧ x ≤ 9223372036854775807) (h1 : 1 ≤ xs.length) (hn : xs.length ≤ 1024) (w : World) (v : Value) (hv : Rd w (fun _ => True) 1 v xs.length (xs.map (Value.int .i64))) : Calls Tryz.prog 131 #[v] w fun e w' => (∃ m, e = .returned (.int .i64 m) ∧ m ∈ xs ∧ ∀ x ∈ xs, x ≤ m) ∧ w = w' := by
 obtain ⟨b, o, c, rfl, hc⟩ := hv.cellsT (by omega)
 have HC : Hid (∀ k, k < xs.length → w.cell? ⟨b, o + k, none⟩ = some (.int .i64 (xs.getD k 0))) := hID (fun k hk => hc w (Off.refl _ _) k _ (by simp [List.getD_eq_getElem?_getD, List.getElem?_eq_getElem hk]))
 clear hc hv
 have c0 := HC.out 0 (by omega)
 have d0 : decide ((xs.length : Int) < 1) = false := decide_eq_false (by omega)
 obtain ⟨x0, h0⟩ : ∃ x0, xs.getD 0 0 = x0 := ⟨_, rfl⟩
 have H0 := hID h0
 rw [h0, Nat.add_zero] at c0
 clear h0
 go_enter Tryz.func131, Tryz.ntmps131
 go_wp2_with fail
 clear c0
 go_loopw [3, 4] (fun p q wr => ∃ (k : Nat) (m : Int), q = .int .i64 (k : Int) ∧ p = .int .i64 m ∧ 1 ≤ k ∧ k ≤ xs.length ∧ m ∈ xs.take k ∧ (∀ x ∈ xs.take k, x ≤ m) ∧ wr = w) (fun p q wr => xs.length - (intOf q).toNat)
 case atStart => exact ⟨1, x0, rfl, rfl, Nat.le_refl _, h1, by cases xs with | nil => simp at h1 | cons y ys => have := H0.out; simp at this; simp [this], by cases xs with | nil => simp at h1 | cons y ys => have := H0.out; simp at this; simp [this], rfl⟩
 case round =>
  obtain ⟨k, m, rfl, rfl, hk1, hk, hm, hall, rfl⟩ := hrel
  by_cases hlt : k < xs.length
  ·have d1 : decide ((k : Int) < (xs.length : Int)) = true := decide_eq_true (by omega)
   have ck := HC.out k hlt
   obtain ⟨y, hy⟩ : ∃ y, xs.getD k 0 = y := ⟨_, rfl⟩
   have HY : Hid (xs.take (k + 1) = xs.take k ++ [y]) := hID (by rw [← hy, List.getD_eq_getElem?_getD, List.getElem?_eq_getElem hlt]; simp)
   have HM := hID hm
   have HA := hID hall
   have HX := hID hx
   rw [hy] at ck
   clear hy hm hall hx
   go_wp2_with fail
   go_roundw
   case rel =>
    refine ⟨k + 1, max m y, by go_num, rfl, by omega, by omega, ?_, ?_, trivial⟩
    ·rw [HY.out]
     rcases (by omega : max m y = m ∨ max m y = y) with h | h
     ·rw [h]; exact List.mem_append_left _ HM.out
     ·rw [h]; simp
    ·intro x hx
     rw [HY.out] at hx
     rcases List.mem_append.1 hx with h | h
     ·have := HA.out x h; omega
     ·simp at h; omega
   case measure => simp [intOf]; omega
  ·obtain rfl : k = xs.length := by omega
   have d1 : decide ((xs.length : Int) < (xs.length : Int)) = false := decide_eq_false (by omega)
   rw [List.take_length] at hm hall
   have HM := hID hm
   have HA := hID hall
   clear hm hall hx
   go_wp2_with fail
   go_ret
   exact ⟨⟨m, rfl, HM.out, HA.out⟩, rfl⟩
end Go.Proofs.YtkflicifngohcaaGreatDoor

namespace Go.Proofs.YtkflicifngohcaaGreatDoor
open Go.RowKit
set_option maxRecDepth 100000
def Asc (xs : List Int) : Prop := ∀ j, j + 1 < xs.length → xs.getD j 0 < xs.getD (j + 1) 0
theorem tnamed (xs : List Int) (hx : ∀ x ∈ xs, 1 ≤ x ∧ x ≤ 1000) (hn : xs.length ≤ 1024) (w : World) (v : Value) (hv : Rd w (fun _ => True) 1 v xs.length (xs.map (Value.int .i64))) : Calls Tryz.prog 132 #[v] w fun e w' => (∃ i m, e = .returned (.tuple #[.int .i64 i, .int .i64 m]) ∧ (Asc xs ∧ m = 0 ∨ ¬ Asc xs ∧ m = 6)) ∧ w = w' := by
 have HV := hID hv
 have HC : Hid (∀ k, k < xs.length → ∃ a, v = a ∧ True) := hID (fun _ _ => ⟨v, rfl, trivial⟩)
 clear HC
 have hform : ∃ A c, v = .slice A xs.length c := by
  obtain ⟨A, c, rfl, _⟩ := hv.form
  exact ⟨A, c, rfl⟩
 obtain ⟨A, c, rfl⟩ := hform
 have HC : Hid (∀ k, k < xs.length → ∃ b o, A = some ⟨b, o, none⟩ ∧ ∀ j, j < xs.length → w.cell? ⟨b, o + j, none⟩ = some (.int .i64 (xs.getD j 0))) := hID (fun k hk => by
  obtain ⟨b, o, c2, he, hc⟩ := hv.cellsT (by omega)
  injection he with h1 h2 h3
  exact ⟨b, o, h1, fun j hj => hc w (Off.refl _ _) j _ (by simp [List.getD_eq_getElem?_getD, List.getElem?_eq_getElem hj])⟩)
 clear hv HV
 have HX : Hid (∀ k, k < xs.length → 1 ≤ xs.getD k 0 ∧ xs.getD k 0 ≤ 1000) := hID (fun k hk => by rw [List.getD_eq_getElem?_getD, List.getElem?_eq_getElem hk]; exact hx _ (List.getElem_mem hk))
 clear hx
 go_enter Tryz.func132, Tryz.ntmps132
 go_wp2_with fail
 go_loopw [8] (fun p wr => ∃ k : Nat, p = .int .i64 (k : Int) ∧ k ≤ xs.length ∧ (∀ j, j + 1 < k → xs.getD j 0 < xs.getD (j + 1) 0) ∧ wr = w) (fun p wr => xs.length - (intOf p).toNat)
 case atStart => exact ⟨0, rfl, Nat.zero_le _, fun j hj => by omega, rfl⟩
 case round =>
  obtain ⟨k, rfl, hk, hall, rfl⟩ := hrel
  have HA := hID hall
  clear hall
  by_cases hlt : k < xs.length
  ·have d1 : decide ((k : Int) < (xs.length : Int)) = true := decide_eq_true (by omega)
   obtain ⟨b, o, rfl, hc⟩ := HC.out k hlt
   have ck := hc k hlt
   obtain ⟨y, hy⟩ : ∃ y, xs.getD k 0 = y := ⟨_, rfl⟩
   have hyb := HX.out k hlt
   have HY := hID hy
   rw [hy] at ck hyb
   have d2 : decide (y < 1) = false := decide_eq_false (by omega)
   have d3 : decide (1000 < y) = false := decide_eq_false (by omega)
   by_cases hk0 : k = 0
   ·subst hk0
    clear hy hyb hc
    rw [Nat.add_zero] at ck
    go_wp2_with fail
    go_roundw
    case rel => exact ⟨1, rfl, by omega, fun j hj => by omega, trivial⟩
    case measure => simp [intOf]; omega
   ·have d4 : decide ((0 : Int) < (k : Int)) = true := decide_eq_true (by omega)
    have cp := hc (k - 1) (by omega)
    obtain ⟨z, hz⟩ : ∃ z, xs.getD (k - 1) 0 = z := ⟨_, rfl⟩
    have HZ := hID hz
    rw [hz] at cp
    have hkk : ((k - 1 : Nat) : Int) = (k : Int) - 1 := by omega
    have HKK := hID hkk
    by_cases hyz : y ≤ z
    ·have d5 : decide (y ≤ z) = true := decide_eq_true hyz
     clear hy hyb hc hz
     go_wp2_with fail
     go_ret2
     refine ⟨⟨_, _, rfl, .inr ⟨fun h => ?_, rfl⟩⟩, rfl⟩
     have := h (k - 1) (by omega)
     rw [HZ.out, show k - 1 + 1 = k by omega, HY.out] at this
     omega
    ·have d5 : decide (y ≤ z) = false := decide_eq_false hyz
     clear hy hyb hc hz
     go_wp2_with fail
     go_roundw
     case rel =>
      refine ⟨k + 1, by go_num, by omega, fun j hj => ?_, trivial⟩
      by_cases hj2 : j + 1 < k
      ·exact HA.out j hj2
      ·obtain rfl : j = k - 1 := by omega
       rw [HZ.out, show k - 1 + 1 = k by omega, HY.out]
       omega
     case measure => simp [intOf]; omega
  ·obtain rfl : k = xs.length := by omega
   have d1 : decide ((xs.length : Int) < (xs.length : Int)) = false := decide_eq_false (by omega)
   go_wp2_with fail
   go_ret2
   exact ⟨⟨_, _, rfl, .inl ⟨HA.out, rfl⟩⟩, rfl⟩
end Go.Proofs.YtkflicifngohcaaGreatDoor

namespace Go.Proofs.YtkflicifngohcaaGreatDoor
open Go.RowKit
set_option maxRecDepth 100000
theorem co_tcheck_rule (w : World) : Calls Tryz.prog 171 #[.agg #[.int .i64 1, .int .i64 0, .int .i64 0, .int .i64 0, .string ⟨#[]⟩, .int .u64 0, .int .u64 0, .int .u64 0, .int .u64 0]] w (RetV w (.int .i64 0)) := by
 have hq : ∀ w : World, (binOp .neq 146 (.agg #[.int .u64 0, .int .u64 0, .int .u64 0, .int .u64 0]) (.agg #[.int .u64 0, .int .u64 0, .int .u64 0, .int .u64 0])).run Tryz.prog w = .ok (.bool false) w := fun _ => by kernel_rfl
 go_enter Tryz.func171, Tryz.ntmps171
 go_wp2_with fail
 go_ret
 exact ⟨rfl, Off.alloc (Off.refl _ _) _⟩
theorem co_ttext_rule (w : World) : Calls Tryz.prog 172 #[.agg #[.int .i64 1, .int .i64 0, .int .i64 0, .int .i64 0, .string ⟨#[]⟩, .int .u64 0, .int .u64 0, .int .u64 0, .int .u64 0]] w (RetV w (.string ⟨#[114, 117, 108, 101]⟩)) := by
 go_enter Tryz.func172, Tryz.ntmps172
 go_wp2_with fail
 go_ret
 exact ⟨rfl, Off.alloc (Off.refl _ _) _⟩
theorem co_tcheck_five (w : World) : Calls Tryz.prog 171 #[.agg #[.int .i64 3, .int .i64 0, .int .i64 0, .int .i64 5, .string ⟨#[]⟩, .int .u64 0, .int .u64 0, .int .u64 0, .int .u64 0]] w (RetV w (.int .i64 0)) := by
 have hq : ∀ w : World, (binOp .neq 146 (.agg #[.int .u64 0, .int .u64 0, .int .u64 0, .int .u64 0]) (.agg #[.int .u64 0, .int .u64 0, .int .u64 0, .int .u64 0])).run Tryz.prog w = .ok (.bool false) w := fun _ => by kernel_rfl
 go_enter Tryz.func171, Tryz.ntmps171
 go_wp2_with fail
 go_ret
 exact ⟨rfl, Off.alloc (Off.refl _ _) _⟩
theorem co_ttext_five (w : World) : Calls Tryz.prog 172 #[.agg #[.int .i64 3, .int .i64 0, .int .i64 0, .int .i64 5, .string ⟨#[]⟩, .int .u64 0, .int .u64 0, .int .u64 0, .int .u64 0]] w (RetV w (.string ⟨#[53]⟩)) := by
 go_enter Tryz.func172, Tryz.ntmps172
 go_wp2_with fail
 refine (co_digits_5 _).mono ?_
 rintro e w1 ⟨rfl, o1⟩
 have O1 := hID ((Off.alloc (Off.refl Nob w) (.cells #[.int .i64 3, .int .i64 0, .int .i64 0, .int .i64 5, .string ⟨#[]⟩, .int .u64 0, .int .u64 0, .int .u64 0, .int .u64 0] 252)).also o1)
 clear o1
 go_wp2_with fail
 go_ret
 exact ⟨rfl, O1.out⟩
theorem co_tcheck_lit (w : World) : Calls Tryz.prog 171 #[.agg #[.int .i64 4, .int .i64 0, .int .i64 0, .int .i64 0, .string ⟨#[97, 98]⟩, .int .u64 0, .int .u64 0, .int .u64 0, .int .u64 0]] w (RetV w (.int .i64 0)) := by
 have hq : ∀ w : World, (binOp .neq 146 (.agg #[.int .u64 0, .int .u64 0, .int .u64 0, .int .u64 0]) (.agg #[.int .u64 0, .int .u64 0, .int .u64 0, .int .u64 0])).run Tryz.prog w = .ok (.bool false) w := fun _ => by kernel_rfl
 go_enter Tryz.func171, Tryz.ntmps171
 go_wp2_with fail
 go_ret
 exact ⟨rfl, Off.alloc (Off.refl _ _) _⟩
theorem co_ttext_lit (w : World) : Calls Tryz.prog 172 #[.agg #[.int .i64 4, .int .i64 0, .int .i64 0, .int .i64 0, .string ⟨#[97, 98]⟩, .int .u64 0, .int .u64 0, .int .u64 0, .int .u64 0]] w (RetV w (.string ⟨#[34, 97, 98, 34]⟩)) := by
 go_enter Tryz.func172, Tryz.ntmps172
 go_wp2_with fail
 refine (co_quote_ab _).mono ?_
 rintro e w1 ⟨rfl, o1⟩
 have O1 := hID ((Off.alloc (Off.refl Nob w) (.cells #[.int .i64 4, .int .i64 0, .int .i64 0, .int .i64 0, .string ⟨#[97, 98]⟩, .int .u64 0, .int .u64 0, .int .u64 0, .int .u64 0] 252)).also o1)
 clear o1
 go_wp2_with fail
 go_ret
 exact ⟨rfl, O1.out⟩
theorem co_tcheck_nine (w : World) : Calls Tryz.prog 171 #[.agg #[.int .i64 3, .int .i64 0, .int .i64 0, .int .i64 9, .string ⟨#[]⟩, .int .u64 0, .int .u64 0, .int .u64 0, .int .u64 0]] w (RetV w (.int .i64 0)) := by
 have hq : ∀ w : World, (binOp .neq 146 (.agg #[.int .u64 0, .int .u64 0, .int .u64 0, .int .u64 0]) (.agg #[.int .u64 0, .int .u64 0, .int .u64 0, .int .u64 0])).run Tryz.prog w = .ok (.bool false) w := fun _ => by kernel_rfl
 go_enter Tryz.func171, Tryz.ntmps171
 go_wp2_with fail
 go_ret
 exact ⟨rfl, Off.alloc (Off.refl _ _) _⟩
theorem co_ttext_nine (w : World) : Calls Tryz.prog 172 #[.agg #[.int .i64 3, .int .i64 0, .int .i64 0, .int .i64 9, .string ⟨#[]⟩, .int .u64 0, .int .u64 0, .int .u64 0, .int .u64 0]] w (RetV w (.string ⟨#[57]⟩)) := by
 go_enter Tryz.func172, Tryz.ntmps172
 go_wp2_with fail
 refine (co_digits_9 _).mono ?_
 rintro e w1 ⟨rfl, o1⟩
 have O1 := hID ((Off.alloc (Off.refl Nob w) (.cells #[.int .i64 3, .int .i64 0, .int .i64 0, .int .i64 9, .string ⟨#[]⟩, .int .u64 0, .int .u64 0, .int .u64 0, .int .u64 0] 252)).also o1)
 clear o1
 go_wp2_with fail
 go_ret
 exact ⟨rfl, O1.out⟩
theorem co_tcheck_cls (w : World) : Calls Tryz.prog 171 #[.agg #[.int .i64 6, .int .i64 0, .int .i64 0, .int .i64 0, .string ⟨#[]⟩, .int .u64 0, .int .u64 25769803776, .int .u64 0, .int .u64 0]] w (RetV w (.int .i64 0)) := by
 have hq : ∀ w : World, (binOp .neq 146 (.agg #[.int .u64 0, .int .u64 0, .int .u64 0, .int .u64 0]) (.agg #[.int .u64 0, .int .u64 0, .int .u64 0, .int .u64 0])).run Tryz.prog w = .ok (.bool false) w := fun _ => by kernel_rfl
 go_enter Tryz.func171, Tryz.ntmps171
 go_wp2_with fail
 go_ret
 exact ⟨rfl, Off.alloc (Off.refl _ _) _⟩
theorem co_ttext_cls (w : World) : Calls Tryz.prog 172 #[.agg #[.int .i64 6, .int .i64 0, .int .i64 0, .int .i64 0, .string ⟨#[]⟩, .int .u64 0, .int .u64 25769803776, .int .u64 0, .int .u64 0]] w (RetV w (.string ⟨#[91, 97, 98, 93]⟩)) := by
 go_enter Tryz.func172, Tryz.ntmps172
 go_wp2_with fail
 have hq : ∀ w : World, (binOp .eql 146 (.agg #[.int .u64 0, .int .u64 25769803776, .int .u64 0, .int .u64 0]) (.agg #[.int .u64 18446744073709551615, .int .u64 18446744073709551615, .int .u64 18446744073709551615, .int .u64 18446744073709551615])).run Tryz.prog w = .ok (.bool false) w := fun _ => by kernel_rfl
 have HB0 : Hid (Blk (w.alloc (.cells #[.int .i64 6, .int .i64 0, .int .i64 0, .int .i64 0, .string ⟨#[]⟩, .int .u64 0, .int .u64 25769803776, .int .u64 0, .int .u64 0] 252)) w.heap.size 252 #[.int .i64 6, .int .i64 0, .int .i64 0, .int .i64 0, .string ⟨#[]⟩, .int .u64 0, .int .u64 25769803776, .int .u64 0, .int .u64 0] ∧ Off Nob w (w.alloc (.cells #[.int .i64 6, .int .i64 0, .int .i64 0, .int .i64 0, .string ⟨#[]⟩, .int .u64 0, .int .u64 25769803776, .int .u64 0, .int .u64 0] 252))) := hID ⟨Blk.new _ _ _, Off.alloc (Off.refl _ _) _⟩
 revert HB0
 generalize w.alloc (.cells #[.int .i64 6, .int .i64 0, .int .i64 0, .int .i64 0, .string ⟨#[]⟩, .int .u64 0, .int .u64 25769803776, .int .u64 0, .int .u64 0] 252) = w0
 intro HB0
 have GC : Hid (∀ W, Off Nob w0 W → W.cell? ⟨w.heap.size, 5, none⟩ = some (.int .u64 0) ∧ W.cell? ⟨w.heap.size, 6, none⟩ = some (.int .u64 25769803776) ∧ W.cell? ⟨w.heap.size, 7, none⟩ = some (.int .u64 0) ∧ W.cell? ⟨w.heap.size, 8, none⟩ = some (.int .u64 0)) := hID (fun W ho => by
  have h := HB0.out.1.to (ho.block _ HB0.out.1.lt (fun h => h))
  exact ⟨h.cell 5, h.cell 6, h.cell 7, h.cell 8⟩)
 obtain ⟨c5, c6, c7, c8⟩ := GC.out _ (Off.refl _ _)
 have OX : Hid (Off Nob w0 w0) := hID (Off.refl _ _)
 go_region_held3 (fun W => W.cell? ⟨w.heap.size, 5, none⟩ = some (.int .u64 0) ∧ W.cell? ⟨w.heap.size, 6, none⟩ = some (.int .u64 25769803776) ∧ W.cell? ⟨w.heap.size, 7, none⟩ = some (.int .u64 0) ∧ W.cell? ⟨w.heap.size, 8, none⟩ = some (.int .u64 0))
  (first | with_reducible assumption | go_keep)
  (first
   | (go_at_call 165; refine (co_all _).mono ?_; rintro e w' ⟨rfl, o1⟩; have OY : Hid (Off Nob w0 w') := hID (Off.also (show Off Nob w0 _ by first | with_reducible exact OX.out | with_reducible exact Off.drew OX.out | with_reducible exact Off.drewN OX.out _) o1); have kq := GC.out _ OY.out; clear o1 OX; have OX := hID OY.out; clear OY))
 clear c5 c6 c7 c8
 obtain ⟨c5, c6, c7, c8⟩ := GC.out _ OX.out
 go_wp2_with fail
 refine (co_print_ab _).mono ?_
 rintro e w2 ⟨rfl, o2⟩
 have O2 := hID ((HB0.out.2.also OX.out).also o2)
 clear o2
 go_wp2_with fail
 go_ret
 exact ⟨rfl, O2.out⟩
set_option maxHeartbeats 4000000 in
theorem co_pr_a (w : World) (v : Value) (hv : Rd w (fun _ => True) 9 v 3 tk_a) : Calls Tryz.prog 159 #[v] w (RetV w (.tuple #[.string ⟨#[114, 117, 108, 101, 32, 53, 32, 34, 97, 98, 34]⟩, .int .i64 0, .int .i64 0])) := by
 have s__114_117_108_101 : (⟨#[]⟩ : ByteArray) ++ ⟨#[114, 117, 108, 101]⟩ = ⟨#[114, 117, 108, 101]⟩ := by decide
 have s_114_117_108_101_32 : (⟨#[114, 117, 108, 101]⟩ : ByteArray) ++ ⟨#[32]⟩ = ⟨#[114, 117, 108, 101, 32]⟩ := by decide
 have s_114_117_108_101_32_53 : (⟨#[114, 117, 108, 101, 32]⟩ : ByteArray) ++ ⟨#[53]⟩ = ⟨#[114, 117, 108, 101, 32, 53]⟩ := by decide
 have s_114_117_108_101_32_53_32 : (⟨#[114, 117, 108, 101, 32, 53]⟩ : ByteArray) ++ ⟨#[32]⟩ = ⟨#[114, 117, 108, 101, 32, 53, 32]⟩ := by decide
 have s_114_117_108_101_32_53_32_34_97_98_34 : (⟨#[114, 117, 108, 101, 32, 53, 32]⟩ : ByteArray) ++ ⟨#[34, 97, 98, 34]⟩ = ⟨#[114, 117, 108, 101, 32, 53, 32, 34, 97, 98, 34]⟩ := by decide
 obtain ⟨b, o, c, rfl, hc⟩ := hv.cellsT (by decide)
 have HC := hID hc
 clear hc hv
 go_enter Tryz.func159, Tryz.ntmps159
 go_wp2_with fail
 refine wp_loop_rounds 4 ?_
 rw [rounds_succ]
 have X0 : Hid (Off Nob w w) := hID (Off.refl _ _)
 have c0 := HC.out _ X0.out 0 _ rfl
 have c1 := HC.out _ X0.out 1 _ rfl
 have c2 := HC.out _ X0.out 2 _ rfl
 have c3 := HC.out _ X0.out 3 _ rfl
 have c4 := HC.out _ X0.out 4 _ rfl
 have c5 := HC.out _ X0.out 5 _ rfl
 have c6 := HC.out _ X0.out 6 _ rfl
 have c7 := HC.out _ X0.out 7 _ rfl
 have c8 := HC.out _ X0.out 8 _ rfl
 simp only [Nat.add_zero] at c0
 go_wp2_with fail
 refine (co_tcheck_rule _).mono ?_
 rintro e w1 ⟨rfl, o1⟩
 have X1 := hID (X0.out.also o1)
 clear o1 X0 c0 c1 c2 c3 c4 c5 c6 c7 c8
 go_wp2_with fail
 rw [rounds_succ]
 have c0 := HC.out _ X1.out 9 _ rfl
 have c1 := HC.out _ X1.out 10 _ rfl
 have c2 := HC.out _ X1.out 11 _ rfl
 have c3 := HC.out _ X1.out 12 _ rfl
 have c4 := HC.out _ X1.out 13 _ rfl
 have c5 := HC.out _ X1.out 14 _ rfl
 have c6 := HC.out _ X1.out 15 _ rfl
 have c7 := HC.out _ X1.out 16 _ rfl
 have c8 := HC.out _ X1.out 17 _ rfl
 go_wp2_with fail
 refine (co_tcheck_five _).mono ?_
 rintro e w2 ⟨rfl, o1⟩
 have X2 := hID (X1.out.also o1)
 clear o1 X1 c0 c1 c2 c3 c4 c5 c6 c7 c8
 go_wp2_with fail
 rw [rounds_succ]
 have c0 := HC.out _ X2.out 18 _ rfl
 have c1 := HC.out _ X2.out 19 _ rfl
 have c2 := HC.out _ X2.out 20 _ rfl
 have c3 := HC.out _ X2.out 21 _ rfl
 have c4 := HC.out _ X2.out 22 _ rfl
 have c5 := HC.out _ X2.out 23 _ rfl
 have c6 := HC.out _ X2.out 24 _ rfl
 have c7 := HC.out _ X2.out 25 _ rfl
 have c8 := HC.out _ X2.out 26 _ rfl
 go_wp2_with fail
 refine (co_tcheck_lit _).mono ?_
 rintro e w3 ⟨rfl, o1⟩
 have X3 := hID (X2.out.also o1)
 clear o1 X2 c0 c1 c2 c3 c4 c5 c6 c7 c8
 go_wp2_with fail
 rw [rounds_succ]
 go_wp2_with fail
 refine wp_loop_rounds 4 ?_
 rw [rounds_succ]
 have c0 := HC.out _ X3.out 0 _ rfl
 have c1 := HC.out _ X3.out 1 _ rfl
 have c2 := HC.out _ X3.out 2 _ rfl
 have c3 := HC.out _ X3.out 3 _ rfl
 have c4 := HC.out _ X3.out 4 _ rfl
 have c5 := HC.out _ X3.out 5 _ rfl
 have c6 := HC.out _ X3.out 6 _ rfl
 have c7 := HC.out _ X3.out 7 _ rfl
 have c8 := HC.out _ X3.out 8 _ rfl
 simp only [Nat.add_zero] at c0
 go_wp2_with fail
 refine (co_ttext_rule _).mono ?_
 rintro e w4 ⟨rfl, o1⟩
 have X4 := hID (X3.out.also o1)
 clear o1 X3 c0 c1 c2 c3 c4 c5 c6 c7 c8
 go_wp2_with fail
 rw [rounds_succ]
 have c0 := HC.out _ X4.out 9 _ rfl
 have c1 := HC.out _ X4.out 10 _ rfl
 have c2 := HC.out _ X4.out 11 _ rfl
 have c3 := HC.out _ X4.out 12 _ rfl
 have c4 := HC.out _ X4.out 13 _ rfl
 have c5 := HC.out _ X4.out 14 _ rfl
 have c6 := HC.out _ X4.out 15 _ rfl
 have c7 := HC.out _ X4.out 16 _ rfl
 have c8 := HC.out _ X4.out 17 _ rfl
 go_wp2_with fail
 refine (co_ttext_five _).mono ?_
 rintro e w5 ⟨rfl, o1⟩
 have X5 := hID (X4.out.also o1)
 clear o1 X4 c0 c1 c2 c3 c4 c5 c6 c7 c8
 go_wp2_with fail
 rw [rounds_succ]
 have c0 := HC.out _ X5.out 18 _ rfl
 have c1 := HC.out _ X5.out 19 _ rfl
 have c2 := HC.out _ X5.out 20 _ rfl
 have c3 := HC.out _ X5.out 21 _ rfl
 have c4 := HC.out _ X5.out 22 _ rfl
 have c5 := HC.out _ X5.out 23 _ rfl
 have c6 := HC.out _ X5.out 24 _ rfl
 have c7 := HC.out _ X5.out 25 _ rfl
 have c8 := HC.out _ X5.out 26 _ rfl
 go_wp2_with fail
 refine (co_ttext_lit _).mono ?_
 rintro e w6 ⟨rfl, o1⟩
 have X6 := hID (X5.out.also o1)
 clear o1 X5 c0 c1 c2 c3 c4 c5 c6 c7 c8
 go_wp2_with fail
 rw [rounds_succ]
 go_wp2_with fail
 go_ret3
 exact ⟨rfl, X6.out⟩
set_option maxHeartbeats 4000000 in
theorem co_pr_b (w : World) (v : Value) (hv : Rd w (fun _ => True) 9 v 3 tk_b) : Calls Tryz.prog 159 #[v] w (RetV w (.tuple #[.string ⟨#[114, 117, 108, 101, 32, 57, 32, 91, 97, 98, 93]⟩, .int .i64 0, .int .i64 0])) := by
 have s__114_117_108_101 : (⟨#[]⟩ : ByteArray) ++ ⟨#[114, 117, 108, 101]⟩ = ⟨#[114, 117, 108, 101]⟩ := by decide
 have s_114_117_108_101_32 : (⟨#[114, 117, 108, 101]⟩ : ByteArray) ++ ⟨#[32]⟩ = ⟨#[114, 117, 108, 101, 32]⟩ := by decide
 have s_114_117_108_101_32_57 : (⟨#[114, 117, 108, 101, 32]⟩ : ByteArray) ++ ⟨#[57]⟩ = ⟨#[114, 117, 108, 101, 32, 57]⟩ := by decide
 have s_114_117_108_101_32_57_32 : (⟨#[114, 117, 108, 101, 32, 57]⟩ : ByteArray) ++ ⟨#[32]⟩ = ⟨#[114, 117, 108, 101, 32, 57, 32]⟩ := by decide
 have s_114_117_108_101_32_57_32_91_97_98_93 : (⟨#[114, 117, 108, 101, 32, 57, 32]⟩ : ByteArray) ++ ⟨#[91, 97, 98, 93]⟩ = ⟨#[114, 117, 108, 101, 32, 57, 32, 91, 97, 98, 93]⟩ := by decide
 obtain ⟨b, o, c, rfl, hc⟩ := hv.cellsT (by decide)
 have HC := hID hc
 clear hc hv
 go_enter Tryz.func159, Tryz.ntmps159
 go_wp2_with fail
 refine wp_loop_rounds 4 ?_
 rw [rounds_succ]
 have X0 : Hid (Off Nob w w) := hID (Off.refl _ _)
 have c0 := HC.out _ X0.out 0 _ rfl
 have c1 := HC.out _ X0.out 1 _ rfl
 have c2 := HC.out _ X0.out 2 _ rfl
 have c3 := HC.out _ X0.out 3 _ rfl
 have c4 := HC.out _ X0.out 4 _ rfl
 have c5 := HC.out _ X0.out 5 _ rfl
 have c6 := HC.out _ X0.out 6 _ rfl
 have c7 := HC.out _ X0.out 7 _ rfl
 have c8 := HC.out _ X0.out 8 _ rfl
 simp only [Nat.add_zero] at c0
 go_wp2_with fail
 refine (co_tcheck_rule _).mono ?_
 rintro e w1 ⟨rfl, o1⟩
 have X1 := hID (X0.out.also o1)
 clear o1 X0 c0 c1 c2 c3 c4 c5 c6 c7 c8
 go_wp2_with fail
 rw [rounds_succ]
 have c0 := HC.out _ X1.out 9 _ rfl
 have c1 := HC.out _ X1.out 10 _ rfl
 have c2 := HC.out _ X1.out 11 _ rfl
 have c3 := HC.out _ X1.out 12 _ rfl
 have c4 := HC.out _ X1.out 13 _ rfl
 have c5 := HC.out _ X1.out 14 _ rfl
 have c6 := HC.out _ X1.out 15 _ rfl
 have c7 := HC.out _ X1.out 16 _ rfl
 have c8 := HC.out _ X1.out 17 _ rfl
 go_wp2_with fail
 refine (co_tcheck_nine _).mono ?_
 rintro e w2 ⟨rfl, o1⟩
 have X2 := hID (X1.out.also o1)
 clear o1 X1 c0 c1 c2 c3 c4 c5 c6 c7 c8
 go_wp2_with fail
 rw [rounds_succ]
 have c0 := HC.out _ X2.out 18 _ rfl
 have c1 := HC.out _ X2.out 19 _ rfl
 have c2 := HC.out _ X2.out 20 _ rfl
 have c3 := HC.out _ X2.out 21 _ rfl
 have c4 := HC.out _ X2.out 22 _ rfl
 have c5 := HC.out _ X2.out 23 _ rfl
 have c6 := HC.out _ X2.out 24 _ rfl
 have c7 := HC.out _ X2.out 25 _ rfl
 have c8 := HC.out _ X2.out 26 _ rfl
 go_wp2_with fail
 refine (co_tcheck_cls _).mono ?_
 rintro e w3 ⟨rfl, o1⟩
 have X3 := hID (X2.out.also o1)
 clear o1 X2 c0 c1 c2 c3 c4 c5 c6 c7 c8
 go_wp2_with fail
 rw [rounds_succ]
 go_wp2_with fail
 refine wp_loop_rounds 4 ?_
 rw [rounds_succ]
 have c0 := HC.out _ X3.out 0 _ rfl
 have c1 := HC.out _ X3.out 1 _ rfl
 have c2 := HC.out _ X3.out 2 _ rfl
 have c3 := HC.out _ X3.out 3 _ rfl
 have c4 := HC.out _ X3.out 4 _ rfl
 have c5 := HC.out _ X3.out 5 _ rfl
 have c6 := HC.out _ X3.out 6 _ rfl
 have c7 := HC.out _ X3.out 7 _ rfl
 have c8 := HC.out _ X3.out 8 _ rfl
 simp only [Nat.add_zero] at c0
 go_wp2_with fail
 refine (co_ttext_rule _).mono ?_
 rintro e w4 ⟨rfl, o1⟩
 have X4 := hID (X3.out.also o1)
 clear o1 X3 c0 c1 c2 c3 c4 c5 c6 c7 c8
 go_wp2_with fail
 rw [rounds_succ]
 have c0 := HC.out _ X4.out 9 _ rfl
 have c1 := HC.out _ X4.out 10 _ rfl
 have c2 := HC.out _ X4.out 11 _ rfl
 have c3 := HC.out _ X4.out 12 _ rfl
 have c4 := HC.out _ X4.out 13 _ rfl
 have c5 := HC.out _ X4.out 14 _ rfl
 have c6 := HC.out _ X4.out 15 _ rfl
 have c7 := HC.out _ X4.out 16 _ rfl
 have c8 := HC.out _ X4.out 17 _ rfl
 go_wp2_with fail
 refine (co_ttext_nine _).mono ?_
 rintro e w5 ⟨rfl, o1⟩
 have X5 := hID (X4.out.also o1)
 clear o1 X4 c0 c1 c2 c3 c4 c5 c6 c7 c8
 go_wp2_with fail
 rw [rounds_succ]
 have c0 := HC.out _ X5.out 18 _ rfl
 have c1 := HC.out _ X5.out 19 _ rfl
 have c2 := HC.out _ X5.out 20 _ rfl
 have c3 := HC.out _ X5.out 21 _ rfl
 have c4 := HC.out _ X5.out 22 _ rfl
 have c5 := HC.out _ X5.out 23 _ rfl
 have c6 := HC.out _ X5.out 24 _ rfl
 have c7 := HC.out _ X5.out 25 _ rfl
 have c8 := HC.out _ X5.out 26 _ rfl
 go_wp2_with fail
 refine (co_ttext_cls _).mono ?_
 rintro e w6 ⟨rfl, o1⟩
 have X6 := hID (X5.out.also o1)
 clear o1 X5 c0 c1 c2 c3 c4 c5 c6 c7 c8
 go_wp2_with fail
 rw [rounds_succ]
 go_wp2_with fail
 go_ret3
 exact ⟨rfl, X6.out⟩
end Go.Proofs.YtkflicifngohcaaGreatDoor

namespace Go.Proofs.YtkflicifngohcaaGreatDoor
open Go.RowKit
set_option maxRecDepth 100000
def setL : List (BitVec 64) → Nat → List (BitVec 64) → List (BitVec 64)
 | C, _, [] => C
 | C, x, v :: L => setL (C.set x v) (x + 1) L
theorem setL_snoc (C : List (BitVec 64)) (x : Nat) (L : List (BitVec 64)) (v : BitVec 64) : setL C x (L ++ [v]) = (setL C x L).set (x + L.length) v := by
 induction L generalizing C x with
 | nil => simp [setL]
 | cons u L ih => simp only [List.cons_append, setL, ih, List.length_cons]; rw [show x + 1 + L.length = x + (L.length + 1) by omega]
theorem setL_length (C : List (BitVec 64)) (x : Nat) (L : List (BitVec 64)) : (setL C x L).length = C.length := by
 induction L generalizing C x with
 | nil => rfl
 | cons u L ih => rw [setL, ih, List.length_set]
def putE (x n : Nat) : List Ev := (List.range n).map fun i => (2, x + i)
theorem putE_snoc (x n : Nat) : putE x (n + 1) = putE x n ++ [(2, x + n)] := by simp [putE, List.range_succ]
set_option maxHeartbeats 2000000 in
theorem nput (g p x : Nat) (cs : Array Value) (L C : List (BitVec 64)) (E : List Ev) (F : Nat → Prop) (w : World) (v : Value) (h : Ar w F p C E) (hB : Blk w g 112 cs) (h0 : cs[0]? = some (.pointer (some ⟨p, 0, none⟩))) (h9 : cs[9]? = some (.int .i64 0)) (hgF : ¬ F g)
  (hv : Rd w (fun k => ¬ F k) 1 v L.length (L.map fun u => .int .u64 (n64 u))) (hx : x + L.length ≤ C.length) (he : E.length + L.length < 8388608) :
  Calls Tryz.prog 44 #[.pointer (some ⟨g, 0, none⟩), .int .i64 x, v] w fun e w' => e = .returned (.tuple #[]) ∧ ArTo w F p (setL C x L) (E ++ putE x L.length) w' := by
 have hC := h.n2
 have hform : ∃ A c, v = .slice A L.length c := by
  obtain ⟨A, c, rfl, _⟩ := hv.form
  exact ⟨A, c, rfl⟩
 obtain ⟨A, c, rfl⟩ := hform
 have HV := hID hv
 have HB := hID hB
 have HC : Hid (∀ W, Off F w W → ∀ k, k < L.length → ∃ b o, A = some ⟨b, o, none⟩ ∧ W.cell? ⟨b, o + k, none⟩ = some (.int .u64 (n64 (L.getD k 0)))) := hID (fun W ho k hk => by
  obtain ⟨A2, c2, he2, _, _, hr⟩ := hv.keep ho (fun k hk => hk)
  cases he2
  obtain ⟨b, o, rfl, _, _, hcell⟩ := hr (by omega)
  exact ⟨b, o, rfl, hcell k _ (by simp [List.getD_eq_getElem?_getD, List.getElem?_eq_getElem hk])⟩)
 have H0 : Hid (ArTo w F p (setL C x (L.take 0)) (E ++ putE x 0) w) := hID ⟨by simpa [setL, putE] using h.mono (fun k hk => .inl hk) (Grow.lt h.lt (Nat.le_refl _)), Off.refl _ _⟩
 clear hv hB h
 go_enter Tryz.func44, Tryz.ntmps44
 go_wp2_with fail
 go_loopw [10] (fun q wr => ∃ k : Nat, q = .int .i64 (k : Int) ∧ k ≤ L.length ∧ ArTo w F p (setL C x (L.take k)) (E ++ putE x k) wr) (fun q wr => L.length - (intOf q).toNat)
 case atStart => exact ⟨0, rfl, Nat.zero_le _, H0.out⟩
 case round =>
  obtain ⟨k, rfl, hk, ha⟩ := hrel
  have HA := hID ha
  clear ha H0
  by_cases hlt : k < L.length
  ·have d1 : decide ((k : Int) < (L.length : Int)) = true := decide_eq_true (by omega)
   obtain ⟨b, o, rfl, ck⟩ := HC.out _ HA.out.2 k hlt
   have hb := HB.out.to (HA.out.2.block g HB.out.lt hgF)
   have b0 := (hb.cell 0).trans h0
   have HS := hID (store_ok HA.out.1 ((x : Int) + (k : Int)) (L.getD k 0) (by omega) (by rw [setL_length]; omega) (by simp [putE]; omega))
   obtain ⟨u, hu⟩ : ∃ u, L.getD k 0 = u := ⟨_, rfl⟩
   have HT : Hid (L.take (k + 1) = L.take k ++ [u]) := hID (by rw [← hu, List.getD_eq_getElem?_getD, List.getElem?_eq_getElem hlt]; simp)
   rw [hu] at ck HS
   clear hb hu
   go_wp2_with fail
   refine HS.out.mono ?_
   rintro e w1 ⟨rfl, hs⟩
   have HA1 : Hid (ArTo w F p (setL C x (L.take (k + 1))) (E ++ putE x (k + 1)) w1) := hID (by
    have := HA.out.trans hs
    rw [HT.out, setL_snoc, putE_snoc, ← List.append_assoc]
    rw [List.length_take, Nat.min_eq_left hk]
    exact this)
   clear hs b0 ck HS HA
   have hb1 := HB.out.to (HA1.out.2.block g HB.out.lt hgF)
   have HK := hID (nkeep g cs w1 hb1 h9)
   clear hb1
   go_wp2_with fail
   refine HK.out.mono ?_
   rintro e w2 ⟨rfl, o2⟩
   have HA2 := hID (HA1.out.trans (ArTo.off HA1.out.1 o2))
   clear o2
   go_wp2_with fail
   go_roundw
   case rel => exact ⟨k + 1, by go_num, by omega, HA2.out⟩
   case measure => simp [intOf]; omega
  ·obtain rfl : k = L.length := by omega
   have d1 : decide ((L.length : Int) < (L.length : Int)) = false := decide_eq_false (by omega)
   go_wp2_with fail
   go_end0
   exact ⟨rfl, by have := HA.out; rwa [List.take_length] at this⟩
end Go.Proofs.YtkflicifngohcaaGreatDoor

namespace Go.Proofs.YtkflicifngohcaaGreatDoor
open Go.RowKit
set_option maxRecDepth 100000
set_option maxHeartbeats 1000000 in
theorem nget (g p x : Nat) (cs : Array Value) (C : List (BitVec 64)) (E : List Ev) (F : Nat → Prop) (w : World) (h : Ar w F p C E) (hB : Blk w g 112 cs) (h0 : cs[0]? = some (.pointer (some ⟨p, 0, none⟩))) (h9 : cs[9]? = some (.int .i64 0)) (hgF : ¬ F g) (hx : x < C.length) (he : E.length < 8388608) :
  Calls Tryz.prog 50 #[.pointer (some ⟨g, 0, none⟩), .int .i64 x] w fun e w' => e = .returned (.int .u64 (n64 (C.getD x 0))) ∧ ArTo w F p C (E ++ [(1, x)]) w' := by
 have HB := hID hB
 have HL := hID (load_ok h (x : Int) (by omega) (by omega) he)
 have b0 := (hB.cell 0).trans h0
 clear hB h
 go_enter Tryz.func50, Tryz.ntmps50
 go_wp2_with fail
 refine HL.out.mono ?_
 rintro e w1 ⟨rfl, hs⟩
 have HA1 := hID hs
 clear hs b0 HL
 have HK := hID (nkeep g cs w1 (HB.out.to (HA1.out.2.block g HB.out.lt hgF)) h9)
 go_wp2_with fail
 refine HK.out.mono ?_
 rintro e w2 ⟨rfl, o2⟩
 have HA2 := hID (HA1.out.trans (ArTo.off HA1.out.1 o2))
 clear o2
 go_wp2_with fail
 go_ret
 exact ⟨rfl, HA2.out⟩
end Go.Proofs.YtkflicifngohcaaGreatDoor

namespace Go.Proofs.YtkflicifngohcaaGreatDoor
open Go.RowKit
set_option maxRecDepth 100000
theorem Tryz.infoEn : (Tryz.prog.info? 33).map (·.size) = some 8 := by kernel_rfl
def layV (a b f : Int) : Value := .agg #[.int .i64 (a), .int .i64 (b), .int .i64 (f), .int .i64 (f + 256 * a), .int .i64 (f + 256 * a + a), .int .i64 (f + 256 * a + a + b * a), .int .i64 (f + 256 * a + a + b * a + a), .int .i64 (f + 256 * a + a + b * a + a + a)]
set_option maxHeartbeats 1000000 in
theorem rrow (a b f : Int) (h0 : 1 ≤ a) (h1 : a ≤ 4) (h2 : 1 ≤ b) (h3 : b ≤ 20) (h4 : 0 ≤ f) (h5 : f ≤ 3) (w : World) : Calls Tryz.prog 13 #[.int .i64 a, .int .i64 b, .int .i64 f] w fun e w' => e = .returned (.tuple #[layV a b f, .int .i64 (f + 256 * a + a + b * a + a + a + b)]) ∧ Off Nob w w' := by
 have : a = 1 ∨ a = 2 ∨ a = 3 ∨ a = 4 := by omega
 rcases this with rfl | rfl | rfl | rfl
 all_goals
  clear h0 h1
  go_enter Tryz.func13, Tryz.ntmps13
  go_wp2_with fail
  go_region
  go_wp2_with fail
  exact bodyPost_ret (results_cell_row_tmp rfl _ _ w.heap.size 33 _ (0, 0) _ rfl ((Blk.new w 33 _).alloc _) Tryz.underlying33 rfl Tryz.infoEn) rfl ⟨by simp [layV]; try omega, ((Off.alloc (Off.refl _ _) _).alloc _).drew⟩
end Go.Proofs.YtkflicifngohcaaGreatDoor
