/-
  dragnetlaw23.awake returns true.
-/
import Derived.Test.YtlbahocncbmjnaaPrefTop
import Derived.Test.YtlbahocncbmjnaaInts
import Derived.Test.YtlbahocncbmjnaaTwin
import Derived.Test.YtlbahocncbmjnaaMake
namespace Go.Proofs.Ytlbahocncbmjnaa
open Go.RowKit
set_option linter.unusedVariables false
set_option maxRecDepth 100000
def aC0 : List (BitVec 64) := [0#64, 0#64, 0#64, 1#64, 0#64, 0#64, 0#64, 0#64, 0#64, 1#64, 0#64, 0#64, 0#64, 0#64, 0#64, 0#64]
def aC1 : List (BitVec 64) := [0#64, 0#64, 0#64, 1#64, 0#64, 0#64, 0#64, 0#64, 0#64, 1#64, 0#64, 0#64, 0#64, 0#64, 1#64, 1#64]
def aC2 : List (BitVec 64) := [0#64, 0#64, 0#64, 1#64, 0#64, 0#64, 0#64, 0#64, 0#64, 1#64, 0#64, 0#64, 0#64, 1#64, 0#64, 2#64]
def aC4 : List (BitVec 64) := [0#64, 0#64, 0#64, 18446744073709551615#64, 0#64, 0#64, 0#64, 0#64, 0#64, 0#64, 0#64, 0#64, 0#64, 0#64, 1#64, 1#64]
def aE0 : List Ev := [(2, 0), (2, 1), (2, 2), (2, 3), (2, 4), (2, 5), (2, 6), (2, 7), (2, 8), (2, 9), (2, 10), (2, 11), (2, 12), (2, 13), (2, 14), (2, 15)]
def aE1 : List Ev := [(2, 0), (2, 1), (2, 2), (2, 3), (2, 4), (2, 5), (2, 6), (2, 7), (2, 8), (2, 9), (2, 10), (2, 11), (2, 12), (2, 13), (2, 14), (2, 15), (1, 0), (2, 12), (1, 3), (2, 13), (1, 6), (2, 14), (1, 9), (2, 15)]
def aE2 : List Ev := [(2, 0), (2, 1), (2, 2), (2, 3), (2, 4), (2, 5), (2, 6), (2, 7), (2, 8), (2, 9), (2, 10), (2, 11), (2, 12), (2, 13), (2, 14), (2, 15), (1, 0), (2, 12), (1, 3), (2, 13), (1, 6), (2, 14), (1, 9), (2, 15), (1, 0), (1, 12), (2, 12), (1, 3), (1, 13), (2, 13), (1, 6), (1, 14), (2, 14), (1, 9), (1, 15), (2, 15)]
def aE3 : List Ev := [(2, 0), (2, 1), (2, 2), (2, 3), (2, 4), (2, 5), (2, 6), (2, 7), (2, 8), (2, 9), (2, 10), (2, 11), (2, 12), (2, 13), (2, 14), (2, 15), (1, 0), (2, 12), (1, 3), (2, 13), (1, 6), (2, 14), (1, 9), (2, 15), (1, 0), (1, 12), (2, 12), (1, 3), (1, 13), (2, 13), (1, 6), (1, 14), (2, 14), (1, 9), (1, 15), (2, 15), (1, 0), (2, 12), (1, 3), (2, 13), (1, 6), (2, 14), (1, 9), (2, 15)]
def aE4 : List Ev := [(2, 0), (2, 1), (2, 2), (2, 3), (2, 4), (2, 5), (2, 6), (2, 7), (2, 8), (2, 9), (2, 10), (2, 11), (2, 12), (2, 13), (2, 14), (2, 15), (1, 0), (2, 12), (1, 3), (2, 13), (1, 6), (2, 14), (1, 9), (2, 15), (1, 0), (1, 12), (2, 12), (1, 3), (1, 13), (2, 13), (1, 6), (1, 14), (2, 14), (1, 9), (1, 15), (2, 15), (1, 0), (2, 12), (1, 3), (2, 13), (1, 6), (2, 14), (1, 9), (2, 15), (1, 0), (1, 12), (2, 0), (1, 3), (1, 13), (2, 3), (1, 6), (1, 14), (2, 6), (1, 9), (1, 15), (2, 9)]
theorem a_r1 : prR aC0 aE0 0 4 12 2 rkF = ((2#64, 0), (aC1, aE1)) := rfl
theorem a_d1 : prR aC1 aE1 0 4 12 3 diF = ((0#64, 0), (aC2, aE2)) := rfl
theorem a_r2 : prR aC2 aE2 0 4 11 2 rkF = ((0#64, 2), (aC2, aE2)) := rfl
theorem a_r3 : prR aC2 aE2 0 4 12 2 rkF = ((2#64, 0), (aC1, aE3)) := rfl
theorem a_s1 : prR aC1 aE3 0 4 12 3 (spF 1#64) = ((1#64, 0), (aC4, aE4)) := rfl
/-- The cells of an arena as a new slice, beside other blocks. -/
theorem cells_one {w0 w : World} {bs : Bks} {p : Nat} {C : List (BitVec 64)} {E : List Ev} (h : One w0 w bs p C E) (N : Nat) (hN : C.length = N) (hn : 0 < N) :
    Calls Try.prog 14 #[.pointer (some ⟨p, 0, none⟩)] w fun e w' => ∃ b c cur, e = .returned (.slice (some ⟨b, 0, none⟩) N c) ∧ N ≤ c ∧ One w0 w' ((b, 32, cur) :: bs) p C E ∧ ∀ j, j < N → cur[j]? = some (.int .u64 (n64 (cl C j))) := by
  subst hN
  obtain ⟨F, h1, h2, h3, h4⟩ := h
  refine (cells_ok h1).mono fun e w' ⟨v, he, hv, ho⟩ => ?_
  rcases hv.2 with ⟨rfl, h0⟩ | ⟨g, cap, cur, rfl, hb, hg, hcap, _⟩
  · omega
  · refine ⟨g, cap, cur, he, hcap, ⟨F, h1.keep ho (fun _ _ hn => hn), h2.also ho, h3, fun x hx => ?_⟩, fun j hj => ?_⟩
    · rcases List.mem_cons.1 hx with rfl | hx
      · exact ⟨hg, fun hf => by have h5 := h1.lt _ hf; have h6 : w.heap.size ≤ g := hb; exact absurd h5 (by show ¬ g < _; omega)⟩
      · exact ⟨(h4 x hx).1.to (ho.block _ (h4 x hx).1.lt (fun h => h)), (h4 x hx).2⟩
    · have hc := hv.cells (g := g) rfl j _ (getElem_u64s C j hj)
      rw [add_addr, Nat.zero_add] at hc
      have hB : Blk w' g 32 cur := hg
      rw [hB.cell] at hc
      exact hc
theorem Rd.ofBlk {w : World} {b : Nat} {t : TypeId} {cur : Array Value} {C : List (BitVec 64)} {N : Nat} (h : Blk w b t cur) (hN : C.length = N) (hm : N ≤ maxLen) (hc : ∀ j, j < N → cur[j]? = some (.int .u64 (n64 (cl C j)))) (k c : Nat) (hk : k ≤ N) : Rd w (fun x => x = b) 1 (.slice (some ⟨b, k, none⟩) (N - k) c) (N - k) (u64s (C.drop k)) := by
  refine ⟨_, _, rfl, by omega, by rw [length_u64s, List.length_drop]; omega, fun _ => ⟨b, k, rfl, rfl, h.lt, fun j u hu => ?_⟩⟩
  have hj : j < (C.drop k).length := by
    have := (List.getElem?_eq_some_iff.1 hu).1
    rwa [length_u64s] at this
  rw [getElem_u64s _ _ hj] at hu
  rw [h.cell, hc (k + j) (by rw [List.length_drop] at hj; omega)]
  rw [← hu]
  congr 3
  simp [cl, List.getD]
theorem blk_rd {w : World} {g : Nat} {t : TypeId} {C : List (BitVec 64)} (h : Blk w g t (u64s C).toArray) (hm : C.length ≤ maxLen) (c : Nat) : Rd w (fun k => k = g) 1 (.slice (some ⟨g, 0, none⟩) C.length c) C.length (u64s C) :=
  ⟨_, _, rfl, hm, by rw [length_u64s, Nat.mul_one], fun _ => ⟨g, 0, rfl, rfl, h.lt, fun j u hu => by rw [Nat.zero_add, h.cell]; simpa using hu⟩⟩
theorem a_puts {w : World} {g : Nat} (h : Blk w g 32 (u64s (List.replicate 16 0)).toArray) : Blk ((w.setCell ⟨g, 3, none⟩ (.int .u64 1)).setCell ⟨g, 9, none⟩ (.int .u64 1)) g 32 (u64s aC0).toArray := (h.put 3 (.int .u64 1)).put 9 (.int .u64 1)
theorem Rd.litB (w : World) (t : TypeId) (C : List Bool) (h : C.length ≤ maxLen) : Rd (w.alloc (.cells (boolsV C).toArray t)) (fun k => k = w.heap.size) 1 (.slice (some ⟨w.heap.size, 0, none⟩) C.length C.length) C.length (boolsV C) :=
  ⟨_, _, rfl, h, by simp [boolsV], fun _ => ⟨_, 0, rfl, rfl, by simp, fun j u hu => by rw [Nat.zero_add, World.cell?_alloc_new]; simpa using hu⟩⟩
def PrAt (w0 : World) (bs : Bks) (p : Nat) (v c : Int) (C : List (BitVec 64)) (E : List Ev) (e : Ending) (w' : World) : Prop := e = .returned (.tuple #[.int .u64 v, .int .i64 c]) ∧ One w0 w' bs p C E
theorem ranks_at {w0 w : World} {bs : Bks} {p : Nat} {C C2 : List (BitVec 64)} {E E2 : List Ev} (h : One w0 w bs p C E) (base n out : Int) (v : BitVec 64) (c : Int) (hr : prR C E base n out 2 (rkF) = ((v, c), (C2, E2))) :
    Calls Try.prog 13 #[.pointer (some ⟨p, 0, none⟩), .int .i64 base, .int .i64 n, .int .i64 out] w fun e w' => e = .returned (.tuple #[.int .u64 (n64 v), .int .i64 c]) ∧ One w0 w' bs p C2 E2 :=
  h.call fun w F ha => by
    have := ranks_any ha base n out
    rw [hr] at this
    exact this
theorem split_at {w0 w : World} {bs : Bks} {p : Nat} {C C2 : List (BitVec 64)} {E E2 : List Ev} (h : One w0 w bs p C E) (base n out : Int) (k : BitVec 64) (v : BitVec 64) (c : Int) (hr : prR C E base n out 3 (spF k) = ((v, c), (C2, E2))) :
    Calls Try.prog 15 #[.pointer (some ⟨p, 0, none⟩), .int .i64 base, .int .i64 n, .int .i64 out, .int .u64 (n64 k)] w fun e w' => e = .returned (.tuple #[.int .u64 (n64 v), .int .i64 c]) ∧ One w0 w' bs p C2 E2 :=
  h.call fun w F ha => by
    have := split_any ha base n out k
    rw [hr] at this
    exact this
theorem dist_at {w0 w : World} {bs : Bks} {p : Nat} {C C2 : List (BitVec 64)} {E E2 : List Ev} (h : One w0 w bs p C E) (base n out : Int) (v : BitVec 64) (c : Int) (hr : prR C E base n out 3 (diF) = ((v, c), (C2, E2))) :
    Calls Try.prog 16 #[.pointer (some ⟨p, 0, none⟩), .int .i64 base, .int .i64 n, .int .i64 out] w fun e w' => e = .returned (.int .i64 c) ∧ One w0 w' bs p C2 E2 :=
  h.call fun w F ha => by
    have := dist_any ha base n out
    rw [hr] at this
    exact this
set_option maxHeartbeats 8000000 in
theorem awake_ok (w : World) : Calls Try.prog 8 #[] w (BoolNew true w) := by
  obtain ⟨i0, hi, hz0, hz1, hz2⟩ := info_parts Try.infoU
  go_enter Try.func8, Try.ntmps8
  go_wp2_with (at_make; refine wpList_make_full _ rfl _ _ 36 rfl w.heap.size 32 i0 (.int .u64 0) 1 Try.underlying36 hi hz0 hz1 .i64 .i64 _ _ 16 rfl rfl rfl rfl (by rw [hz2]; omega) (by unfold maxLen; omega) (Nat.le_refl _) ?_)
  intro w0 hown0 hgrow0
  have hB := made_blk hown0
  have c3 : w0.cell? ⟨w.heap.size, 3, none⟩ = some (.int .u64 0) := hB.cell 3
  have c9 : w0.cell? ⟨w.heap.size, 9, none⟩ = some (.int .u64 0) := hB.cell 9
  have f3 := hB.frozen 3
  have f9 := hB.frozen 9
  have HB1 := Lib.hid (a_puts hB)
  have O0 : Hid (Off Nob w ((w0.setCell ⟨w.heap.size, 3, none⟩ (.int .u64 1)).setCell ⟨w.heap.size, 9, none⟩ (.int .u64 1))) := Off.put (Off.put (Off.grown (Off.refl _ _) hgrow0 (fun k hk => by cases hk)) (.inr (Nat.le_refl _)) _) (.inr (Nat.le_refl _)) _
  clear hown0 hgrow0 hB
  go_wp2_with fail
  refine (arena_any (C := aC0) (blk_rd HB1.out (by decide) 16) (by decide)).mono ?_
  rintro e w1 h1
  obtain ⟨p, r, rfl, k1⟩ := h1.one (w0 := w) (bs := []) O0.out (fun x hx => by cases hx)
  have O1 : Hid (One w w1 [] p aC0 aE0) := k1
  clear h1 k1 c3 c9 f3 f9 HB1 O0 hi hz0 hz1 hz2
  go_wp2_with fail
  refine Calls.mono (R := fun e w' => e = .returned (.tuple #[.int .u64 2, .int .i64 0]) ∧ One w w' [] p aC1 aE1) (ranks_at O1.out 0 4 12 2#64 0 a_r1) ?_
  rintro e w2 ⟨rfl, hw2⟩
  have O2 := Lib.hid hw2
  clear hw2 O1
  go_wp2_with fail
  refine (cells_one O2.out 16 rfl (by decide)).mono ?_
  rintro e w3 ⟨b1, q1, cur1, rfl, hq1, hw3, hcur1⟩
  have O3 := Lib.hid hw3
  have Hcur1 := Lib.hid hcur1
  clear hw3 hcur1 O2
  go_wp2_with fail
  refine Calls.mono (R := fun e w' => e = .returned (.int .i64 0) ∧ One w w' [(b1, 32, cur1)] p aC2 aE2) (dist_at O3.out 0 4 12 0#64 0 a_d1) ?_
  rintro e w4 ⟨rfl, hw4⟩
  have O4 := Lib.hid hw4
  clear hw4 O3
  go_wp2_with fail
  refine (cells_one O4.out 16 rfl (by decide)).mono ?_
  rintro e w5 ⟨b2, q2, cur2, rfl, hq2, hw5, hcur2⟩
  have O5 := Lib.hid hw5
  have Hcur2 := Lib.hid hcur2
  clear hw5 hcur2 O4
  go_wp2_with fail
  refine Calls.mono (R := fun e w' => e = .returned (.tuple #[.int .u64 0, .int .i64 2]) ∧ One w w' [(b2, 32, cur2), (b1, 32, cur1)] p aC2 aE2) (ranks_at O5.out 0 4 11 0#64 2 a_r2) ?_
  rintro e w6 ⟨rfl, hw6⟩
  have O6 := Lib.hid hw6
  clear hw6 O5
  go_wp2_with fail
  refine Calls.mono (R := fun e w' => e = .returned (.tuple #[.int .u64 2, .int .i64 0]) ∧ One w w' [(b2, 32, cur2), (b1, 32, cur1)] p aC1 aE3) (ranks_at O6.out 0 4 12 2#64 0 a_r3) ?_
  rintro e w7 ⟨rfl, hw7⟩
  have O7 := Lib.hid hw7
  clear hw7 O6
  go_wp2_with fail
  refine Calls.mono (R := fun e w' => e = .returned (.tuple #[.int .u64 1, .int .i64 0]) ∧ One w w' [(b2, 32, cur2), (b1, 32, cur1)] p aC4 aE4) (split_at O7.out 0 4 12 1#64 1#64 0 a_s1) ?_
  rintro e w8 ⟨rfl, hw8⟩
  have O8 := Lib.hid hw8
  clear hw8 O7
  go_wp2_with fail
  refine (pof_any (l := [false, true, false, true]) (Rd.litB w8 4 [false, true, false, true] (by decide)) (by decide)).mono ?_
  rintro e w9 ⟨x, y, rfl, hT⟩
  have RX : Hid (Rd w9 _ 1 x 4 (intsV [0, 0, 1, 1])) := Lib.hid hT.rd1
  have RY : Hid (Rd w9 _ 1 y 4 (intsV [0, 1, 0, 2])) := Lib.hid hT.rd2
  have O9 := Lib.hid (O8.out.off ((Off.alloc (Off.refl _ _) _).also hT.off))
  clear hT O8
  obtain ⟨xa, xc, hxf, _⟩ := RX.out.form
  obtain ⟨ya, yc, hyf, _⟩ := RY.out.form
  subst hxf hyf
  have hq1 : 12 ≤ q1 := by omega
  have hq2 : 12 ≤ q2 := by omega
  go_wp2_with fail
  refine Calls.mono (R := BoolNew true (w9.alloc (.cells #[.int .u64 0, .int .u64 0, .int .u64 1, .int .u64 1] 32))) (by
    have := sameCells_any (Rd.ofBlk (C := aC1) ((O9.out.blk (List.mem_cons_of_mem _ (List.mem_cons_self ..))).alloc (.cells #[.int .u64 0, .int .u64 0, .int .u64 1, .int .u64 1] 32)) rfl (by decide) Hcur1.out 12 (q1 - 12) (by decide)) (Rd.lit w9 32 [0#64, 0#64, 1#64, 1#64] (by decide))
    rwa [show sameB (aC1.drop 12) [0#64, 0#64, 1#64, 1#64] = true from rfl] at this) ?_
  rintro e w10 ⟨rfl, ow10⟩
  have O10 := Lib.hid (O9.out.off ((Off.alloc (Off.refl _ _) _).also ow10))
  have R1X := Lib.hid (RX.out.keep ((Off.alloc (Off.refl Nob _) _).also ow10) (fun _ _ h => h))
  have R1Y := Lib.hid (RY.out.keep ((Off.alloc (Off.refl Nob _) _).also ow10) (fun _ _ h => h))
  clear ow10 O9 RX RY
  go_wp2_with fail
  refine Calls.mono (R := BoolNew true (w10.alloc (.cells #[.int .u64 0, .int .u64 1, .int .u64 0, .int .u64 2] 32))) (by
    have := sameCells_any (Rd.ofBlk (C := aC2) ((O10.out.blk (List.mem_cons_self ..)).alloc (.cells #[.int .u64 0, .int .u64 1, .int .u64 0, .int .u64 2] 32)) rfl (by decide) Hcur2.out 12 (q2 - 12) (by decide)) (Rd.lit w10 32 [0#64, 1#64, 0#64, 2#64] (by decide))
    rwa [show sameB (aC2.drop 12) [0#64, 1#64, 0#64, 2#64] = true from rfl] at this) ?_
  rintro e w11 ⟨rfl, ow11⟩
  have O11 := Lib.hid (O10.out.off ((Off.alloc (Off.refl _ _) _).also ow11))
  have R2X := Lib.hid (R1X.out.keep ((Off.alloc (Off.refl Nob _) _).also ow11) (fun _ _ h => h))
  have R2Y := Lib.hid (R1Y.out.keep ((Off.alloc (Off.refl Nob _) _).also ow11) (fun _ _ h => h))
  clear ow11 O10 R1X R1Y
  go_wp2_with fail
  refine (ints_same (A := [0, 0, 1, 1]) ((R2X.out.keep (Off.alloc (Off.refl Nob w11) (.cells #[.int .i64 0, .int .i64 0, .int .i64 1, .int .i64 1] 3))) (fun _ _ h => h)) (Rd.litI w11 3 [0, 0, 1, 1] (by decide))).mono ?_
  rintro e w12 ⟨rfl, ow12⟩
  have O12 := Lib.hid (O11.out.off ((Off.alloc (Off.refl _ _) _).also ow12))
  have R2Yn := Lib.hid (R2Y.out.keep ((Off.alloc (Off.refl Nob _) _).also ow12) (fun _ _ h => h))
  clear ow12 O11 R2Y R2X
  go_wp2_with fail
  refine (ints_same (A := [0, 1, 0, 2]) ((R2Yn.out.keep (Off.alloc (Off.refl Nob w12) (.cells #[.int .i64 0, .int .i64 1, .int .i64 0, .int .i64 2] 3))) (fun _ _ h => h)) (Rd.litI w12 3 [0, 1, 0, 2] (by decide))).mono ?_
  rintro e w13 ⟨rfl, ow13⟩
  have O13 := Lib.hid (O12.out.off ((Off.alloc (Off.refl _ _) _).also ow13))
  clear ow13
  go_wp2
  go_ret
  exact ⟨rfl, O13.out.old⟩

end Go.Proofs.Ytlbahocncbmjnaa
