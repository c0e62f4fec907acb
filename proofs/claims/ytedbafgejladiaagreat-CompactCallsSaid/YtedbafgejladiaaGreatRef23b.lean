import Derived.Test.YtedbafgejladiaaGreatPrefix
import Derived.Test.YtedbafgejladiaaGreatRef10
import Derived.Test.YtedbafgejladiaaGreatPair
/-
  prefix.Ranks, Split, Distances.
-/
namespace Go.Proofs.YtedbafgejladiaaGreat
open Go.RowKit
attribute [local go_sem] bits_and_u64 bits_or_u64 bits_xor_u64 bits_andNot_u64 wrap_u64 bv_add bv_neg bv_sub bv_mul
set_option linter.unusedVariables false
set_option maxRecDepth 100000
/-- What the functions return, and leave. -/
def prR (C : List (BitVec 64)) (E : List Ev) (base n out : Int) (s : Nat) (f : Nat → Nat → St → Nat → St) : (BitVec 64 × Int) × (List (BitVec 64) × List Ev) :=
  if pkE C.length E.length base n out s = 0 then (((repS (f base.toNat out.toNat) (C, E, 0#64) n.toNat).2.2, 0), ((repS (f base.toNat out.toNat) (C, E, 0#64) n.toNat).1, (repS (f base.toNat out.toNat) (C, E, 0#64) n.toNat).2.1)) else ((0#64, pkE C.length E.length base n out s), (C, E))
def VePost (w : World) (F : Nat → Prop) (p : Nat) (r : (BitVec 64 × Int) × (List (BitVec 64) × List Ev)) (e : Ending) (w' : World) : Prop :=
  e = .returned (.tuple #[.int .u64 (n64 r.1.1), .int .i64 r.1.2]) ∧ ArTo w F p r.2.1 r.2.2 w'
theorem repS_len (f : St → Nat → St) (k : Nat) (hf : ∀ s i, (f s i).1.length = s.1.length ∧ (f s i).2.1.length = s.2.1.length + k) (s : St) (i : Nat) : (repS f s i).1.length = s.1.length ∧ (repS f s i).2.1.length = s.2.1.length + k * i := by
  induction i with
  | zero => exact ⟨rfl, rfl⟩
  | succ i ih =>
    rw [repS_succ]
    obtain ⟨h1, h2⟩ := hf (repS f s i) i
    exact ⟨h1.trans ih.1, by rw [h2, ih.2, Nat.mul_succ]; omega⟩
theorem rkF_len (base out : Nat) (s : St) (i : Nat) : (rkF base out s i).1.length = s.1.length ∧ (rkF base out s i).2.1.length = s.2.1.length + 2 := by unfold rkF; simp
theorem spF_len (k : BitVec 64) (base out : Nat) (s : St) (i : Nat) : (spF k base out s i).1.length = s.1.length ∧ (spF k base out s i).2.1.length = s.2.1.length + 3 := by unfold spF; simp
theorem diF_len (base out : Nat) (s : St) (i : Nat) : (diF base out s i).1.length = s.1.length ∧ (diF base out s i).2.1.length = s.2.1.length + 3 := by unfold diF; simp
section
variable {w : World} {F : Nat → Prop} {p : Nat} {C : List (BitVec 64)} {E : List Ev}
theorem ranks_does (ob base n out : Nat) (hx : base + 3 * n ≤ C.length) (hy : out + n ≤ C.length) (hn : n ≤ 288) (he : E.length + 2 * n ≤ 8388608) :
    DoesE p [(ob, 3, #[.int .i64 (out : Int)])] base n out 77 #[.pointer (some ⟨ob, 0, none⟩)] (rkF base out) (C, E, 0#64) := by
  refine ⟨fun _ _ => by kernel_rfl, fun w0 F w rb i hi h => ?_⟩
  obtain ⟨l1, l2⟩ := repS_len (rkF base out) 2 (rkF_len base out) (C, E, 0#64) i
  have l1' : (repS (rkF base out) (C, E, 0#64) i).1.length = C.length := l1
  have l2' : (repS (rkF base out) (C, E, 0#64) i).2.1.length = E.length + 2 * i := l2
  have := ranks1_ok (i := i) h (by omega) (by rw [l1']; omega) (by rw [l1']; omega) (by rw [l2']; omega)
  rw [repS_succ]
  exact this
set_option maxHeartbeats 1000000 in
theorem ranks_any (h : Ar w F p C E) (base n out : Int) :
    Calls Tryz.prog 33 #[.pointer (some ⟨p, 0, none⟩), .int .i64 base, .int .i64 n, .int .i64 out] w (VePost w F p (prR C E base n out 2 rkF)) := by
  have H := Lib.hid h
  by_cases hz : pkE C.length E.length base n out ((2 : Nat) : Int) = 0
  · obtain ⟨g1, g2, g3, g4, g5, g6, _, g8⟩ := pkE_zero hz
    obtain ⟨base, rfl⟩ := Int.eq_ofNat_of_zero_le g3
    obtain ⟨out, rfl⟩ := Int.eq_ofNat_of_zero_le g5
    obtain ⟨n, rfl⟩ := Int.eq_ofNat_of_zero_le (show 0 ≤ n by omega)
    have HR := Lib.hid (show prR C E (base : Int) (n : Int) (out : Int) 2 rkF = (((repS (rkF base out) (C, E, 0#64) n).2.2, 0), ((repS (rkF base out) (C, E, 0#64) n).1, (repS (rkF base out) (C, E, 0#64) n).2.1)) from by unfold prR; rw [if_pos hz]; rfl)
    have HK : Wk w F (w.alloc (.cells #[.int .i64 (out : Int)] 3)) [(w.heap.size, 3, #[.int .i64 (out : Int)])] p C E := by simpa using (Wk.start h).push 3 #[.int .i64 (out : Int)]
    have HO := Lib.hid (each_ok HK 2 (by decide) 77 #[.pointer (some ⟨w.heap.size, 0, none⟩)] (rkF base out) (ranks_does w.heap.size base n out (by omega) (by omega) (by omega) (by omega)) hz)
    clear h hz g1 g2 g3 g4 g5 g6 g8 HK
    go_enter Tryz.func33, Tryz.ntmps33
    go_wp2_with fail
    refine HO.out.mono ?_
    rintro e w1 ⟨rfl, h1⟩
    have H1 := Lib.hid h1
    clear h1
    go_wp2
    go_ret2
    rw [HR.out]
    exact ⟨rfl, H1.out.done⟩
  · have HR := Lib.hid (show prR C E base n out 2 rkF = ((0#64, pkE C.length E.length base n out ((2 : Nat) : Int)), (C, E)) from by unfold prR; rw [if_neg hz])
    have HO := Lib.hid (each_err (h.box (.cells #[.int .i64 out] 3)) base n out 2 (by decide) (.func (.func 77) #[] #[.pointer (some ⟨w.heap.size, 0, none⟩)]) hz)
    clear h hz
    go_enter Tryz.func33, Tryz.ntmps33
    go_wp2_with fail
    refine HO.out.mono ?_
    rintro e w1 ⟨rfl, rfl⟩
    go_wp2
    go_ret2
    rw [HR.out]
    exact ⟨rfl, ArTo.box H.out (ArTo.refl (H.out.box _))⟩
theorem split_does (k : BitVec 64) (bb kb base n out : Nat) (hx : base + 3 * n ≤ C.length) (hy : out + n ≤ C.length) (hn : n ≤ 288) (he : E.length + 3 * n ≤ 8388608) :
    DoesE p [(kb, 44, #[.int .u64 (n64 k)]), (bb, 3, #[.int .i64 (base : Int)])] base n out 80 #[.pointer (some ⟨kb, 0, none⟩), .pointer (some ⟨bb, 0, none⟩)] (spF k base out) (C, E, 0#64) := by
  refine ⟨fun _ _ => by kernel_rfl, fun w0 F w rb i hi h => ?_⟩
  obtain ⟨l1, l2⟩ := repS_len (spF k base out) 3 (spF_len k base out) (C, E, 0#64) i
  have l1' : (repS (spF k base out) (C, E, 0#64) i).1.length = C.length := l1
  have l2' : (repS (spF k base out) (C, E, 0#64) i).2.1.length = E.length + 3 * i := l2
  have := split1_ok (i := i) h (by omega) (by rw [l1']; omega) (by rw [l1']; omega) (by rw [l2']; omega)
  rw [repS_succ]
  exact this
set_option maxHeartbeats 1000000 in
theorem split_any (h : Ar w F p C E) (base n out : Int) (k : BitVec 64) :
    Calls Tryz.prog 35 #[.pointer (some ⟨p, 0, none⟩), .int .i64 base, .int .i64 n, .int .i64 out, .int .u64 (n64 k)] w (VePost w F p (prR C E base n out 3 (spF k))) := by
  have H := Lib.hid h
  by_cases hz : pkE C.length E.length base n out ((3 : Nat) : Int) = 0
  · obtain ⟨g1, g2, g3, g4, g5, g6, _, g8⟩ := pkE_zero hz
    obtain ⟨base, rfl⟩ := Int.eq_ofNat_of_zero_le g3
    obtain ⟨out, rfl⟩ := Int.eq_ofNat_of_zero_le g5
    obtain ⟨n, rfl⟩ := Int.eq_ofNat_of_zero_le (show 0 ≤ n by omega)
    have HR := Lib.hid (show prR C E (base : Int) (n : Int) (out : Int) 3 (spF k) = (((repS (spF k base out) (C, E, 0#64) n).2.2, 0), ((repS (spF k base out) (C, E, 0#64) n).1, (repS (spF k base out) (C, E, 0#64) n).2.1)) from by unfold prR; rw [if_pos hz]; rfl)
    have HK : Wk w F ((w.alloc (.cells #[.int .i64 (base : Int)] 3)).alloc (.cells #[.int .u64 (n64 k)] 44)) [((w.heap.size + 1), 44, #[.int .u64 (n64 k)]), (w.heap.size, 3, #[.int .i64 (base : Int)])] p C E := by simpa using ((Wk.start h).push 3 #[.int .i64 (base : Int)]).push 44 #[.int .u64 (n64 k)]
    have HO := Lib.hid (each_ok HK 3 (by decide) 80 #[.pointer (some ⟨(w.heap.size + 1), 0, none⟩), .pointer (some ⟨w.heap.size, 0, none⟩)] (spF k base out) (split_does k w.heap.size (w.heap.size + 1) base n out (by omega) (by omega) (by omega) (by omega)) hz)
    clear h hz g1 g2 g3 g4 g5 g6 g8 HK
    go_enter Tryz.func35, Tryz.ntmps35
    go_wp2_with fail
    refine HO.out.mono ?_
    rintro e w1 ⟨rfl, h1⟩
    have H1 := Lib.hid h1
    clear h1
    go_wp2
    go_ret2
    rw [HR.out]
    exact ⟨rfl, H1.out.done⟩
  · have HR := Lib.hid (show prR C E base n out 3 (spF k) = ((0#64, pkE C.length E.length base n out ((3 : Nat) : Int)), (C, E)) from by unfold prR; rw [if_neg hz])
    have HO := Lib.hid (each_err ((h.box (.cells #[.int .i64 base] 3)).box (.cells #[.int .u64 (n64 k)] 44)) base n out 3 (by decide) (.func (.func 80) #[] #[.pointer (some ⟨(w.heap.size + 1), 0, none⟩), .pointer (some ⟨w.heap.size, 0, none⟩)]) hz)
    clear h hz
    go_enter Tryz.func35, Tryz.ntmps35
    go_wp2_with fail
    refine HO.out.mono ?_
    rintro e w1 ⟨rfl, rfl⟩
    go_wp2
    go_ret2
    rw [HR.out]
    exact ⟨rfl, ArTo.box H.out (ArTo.box (H.out.box _) (ArTo.refl ((H.out.box _).box _)))⟩
theorem dist_does (ob base n out : Nat) (hx : base + 3 * n ≤ C.length) (hy : out + n ≤ C.length) (hn : n ≤ 288) (he : E.length + 3 * n ≤ 8388608) :
    DoesE p [(ob, 3, #[.int .i64 (out : Int)])] base n out 90 #[.pointer (some ⟨ob, 0, none⟩)] (diF base out) (C, E, 0#64) := by
  refine ⟨fun _ _ => by kernel_rfl, fun w0 F w rb i hi h => ?_⟩
  obtain ⟨l1, l2⟩ := repS_len (diF base out) 3 (diF_len base out) (C, E, 0#64) i
  have l1' : (repS (diF base out) (C, E, 0#64) i).1.length = C.length := l1
  have l2' : (repS (diF base out) (C, E, 0#64) i).2.1.length = E.length + 3 * i := l2
  have := dist1_ok (i := i) h (by omega) (by rw [l1']; omega) (by rw [l1']; omega) (by rw [l2']; omega)
  rw [repS_succ]
  exact this
set_option maxHeartbeats 1000000 in
theorem dist_any (h : Ar w F p C E) (base n out : Int) :
    Calls Tryz.prog 43 #[.pointer (some ⟨p, 0, none⟩), .int .i64 base, .int .i64 n, .int .i64 out] w (ErPost w F p (prR C E base n out 3 diF).1.2 (prR C E base n out 3 diF).2) := by
  have H := Lib.hid h
  by_cases hz : pkE C.length E.length base n out ((3 : Nat) : Int) = 0
  · obtain ⟨g1, g2, g3, g4, g5, g6, _, g8⟩ := pkE_zero hz
    obtain ⟨base, rfl⟩ := Int.eq_ofNat_of_zero_le g3
    obtain ⟨out, rfl⟩ := Int.eq_ofNat_of_zero_le g5
    obtain ⟨n, rfl⟩ := Int.eq_ofNat_of_zero_le (show 0 ≤ n by omega)
    have HR := Lib.hid (show prR C E (base : Int) (n : Int) (out : Int) 3 diF = (((repS (diF base out) (C, E, 0#64) n).2.2, 0), ((repS (diF base out) (C, E, 0#64) n).1, (repS (diF base out) (C, E, 0#64) n).2.1)) from by unfold prR; rw [if_pos hz]; rfl)
    have HK : Wk w F (w.alloc (.cells #[.int .i64 (out : Int)] 3)) [(w.heap.size, 3, #[.int .i64 (out : Int)])] p C E := by simpa using (Wk.start h).push 3 #[.int .i64 (out : Int)]
    have HO := Lib.hid (each_ok HK 3 (by decide) 90 #[.pointer (some ⟨w.heap.size, 0, none⟩)] (diF base out) (dist_does w.heap.size base n out (by omega) (by omega) (by omega) (by omega)) hz)
    clear h hz g1 g2 g3 g4 g5 g6 g8 HK
    go_enter Tryz.func43, Tryz.ntmps43
    go_wp2_with fail
    refine HO.out.mono ?_
    rintro e w1 ⟨rfl, h1⟩
    have H1 := Lib.hid h1
    clear h1
    go_wp2
    go_ret
    rw [HR.out]
    exact ⟨rfl, H1.out.done⟩
  · have HR := Lib.hid (show prR C E base n out 3 diF = ((0#64, pkE C.length E.length base n out ((3 : Nat) : Int)), (C, E)) from by unfold prR; rw [if_neg hz])
    have HO := Lib.hid (each_err (h.box (.cells #[.int .i64 out] 3)) base n out 3 (by decide) (.func (.func 90) #[] #[.pointer (some ⟨w.heap.size, 0, none⟩)]) hz)
    clear h hz
    go_enter Tryz.func43, Tryz.ntmps43
    go_wp2_with fail
    refine HO.out.mono ?_
    rintro e w1 ⟨rfl, rfl⟩
    go_wp2
    go_ret
    rw [HR.out]
    exact ⟨rfl, ArTo.box H.out (ArTo.refl (H.out.box _))⟩
end

end Go.Proofs.YtedbafgejladiaaGreat

/-
  dragnetref23.asked and Ranks over the specification's arena.
-/
namespace Go.Proofs.YtedbafgejladiaaGreat
open Go.RowKit
attribute [local go_sem] bits_and_u64 bits_or_u64 bits_xor_u64 bits_andNot_u64 wrap_u64 bv_add bv_neg bv_sub bv_mul
set_option linter.unusedVariables false
set_option maxRecDepth 100000
attribute [local go_sem] bv_one
theorem n64_mod2 (m : BitVec 64) : n64 m % 2 = n64 (m &&& 1#64) := by unfold n64; rw [and_one]; omega
theorem ofM_one (v : BitVec 64) : ofM v &&& 1#64 = v &&& 1#64 := by
  apply BitVec.eq_of_toNat_eq
  rw [and_one, and_one]
  unfold ofM
  by_cases h : v.toNat % 2 = 1
  · rw [decide_eq_true h, h]; rfl
  · have : v.toNat % 2 = 0 := by omega
    rw [decide_eq_false h, this]; rfl
theorem odd_of {v : BitVec 64} (h : v.toNat % 2 = 1) : ofM v = msk true ∧ v &&& 1#64 = 1#64 ∧ (n64 (v &&& 1#64) == 1) = true := by
  have h1 : v &&& 1#64 = 1#64 := by apply BitVec.eq_of_toNat_eq; rw [and_one, h]; rfl
  refine ⟨by unfold ofM; rw [decide_eq_true h], h1, by rw [h1]; rfl⟩
theorem even_of {v : BitVec 64} (h : ¬ v.toNat % 2 = 1) : ofM v = msk false ∧ v &&& 1#64 = 0#64 ∧ (n64 (v &&& 1#64) == 1) = false := by
  have h1 : v &&& 1#64 = 0#64 := by apply BitVec.eq_of_toNat_eq; rw [and_one, show v.toNat % 2 = 0 by omega]; rfl
  refine ⟨by unfold ofM; rw [decide_eq_false h], h1, by rw [h1]; rfl⟩
theorem msk_true_and (x : BitVec 64) : msk true &&& x = x := by rw [msk_true, BitVec.allOnes_and]
theorem msk_false_and (x : BitVec 64) : msk false &&& x = 0#64 := by rw [msk_false, BitVec.zero_and]
section
variable {w : World} {F : Nat → Prop} {r : Nat} {C : List (BitVec 64)} {E : List Ev}
set_option maxHeartbeats 2000000 in
theorem pasked_any (h : Rf w F r C E) (base n out : Int) (s : Nat) (hs : s ≤ 3) :
    Calls Tryz.prog 97 #[.pointer (some ⟨r, 0, none⟩), .int .i64 base, .int .i64 n, .int .i64 out, .int .i64 (s : Int)] w fun e w' => e = .returned (.int .i64 (pkE C.length E.length base n out s)) ∧ w = w' := by
  have h2 := h.n2
  have H := Lib.hid h
  clear h
  by_cases n1 : n < 1
  · have HF := Lib.hid (show pkE C.length E.length base n out s = 7 by unfold pkE; rw [if_pos (.inl n1)])
    go_enter Tryz.func97, Tryz.ntmps97
    go_wp2_with fail
    go_ret
    exact ⟨by rw [HF.out]; rfl, rfl⟩
  by_cases n2 : 288 < n
  · have HF := Lib.hid (show pkE C.length E.length base n out s = 7 by unfold pkE; rw [if_pos (.inr n2)])
    go_enter Tryz.func97, Tryz.ntmps97
    go_wp2_with fail
    go_ret
    exact ⟨by rw [HF.out]; rfl, rfl⟩
  have hn : ¬ (n < 1 ∨ 288 < n) := by omega
  by_cases hb : hasE C.length base (3 * n) = 0
  · have HB := Lib.hid hb
    by_cases ho : hasE C.length out n = 0
    · have HO := Lib.hid ho
      have g1 : 0 ≤ base ∧ base + 3 * n ≤ C.length := by unfold hasE at hb; split at hb; cases hb; omega
      have g2 : 0 ≤ out ∧ out + n ≤ C.length := by unfold hasE at ho; split at ho; cases ho; omega
      obtain ⟨g1, g3⟩ := g1
      obtain ⟨g2, g4⟩ := g2
      by_cases hv : out < base + 3 * n ∧ base < out + n
      · have HF := Lib.hid (show pkE C.length E.length base n out s = 2 by unfold pkE; rw [if_neg hn, if_pos hb, if_pos ho, if_pos hv])
        obtain ⟨v1, v2⟩ := hv
        clear hb ho hn
        go_enter Tryz.func97, Tryz.ntmps97
        go_wp2_with fail
        refine Calls.mono (R := fun e w' => e = .returned (.int .i64 0) ∧ w = w') (by have := rhas_any H.out base (3 * n); rwa [HB.out] at this) ?_
        rintro e w' ⟨rfl, rfl⟩
        go_wp2_with fail
        refine Calls.mono (R := fun e w' => e = .returned (.int .i64 0) ∧ w = w') (by have := rhas_any H.out out n; rwa [HO.out] at this) ?_
        rintro e w' ⟨rfl, rfl⟩
        go_wp2_with fail
        go_ret
        exact ⟨by rw [HF.out]; rfl, rfl⟩
      · have HF := Lib.hid (show pkE C.length E.length base n out s = roomE E.length ((s : Int) * n) by unfold pkE; rw [if_neg hn, if_pos hb, if_pos ho, if_neg hv])
        have hxy : ¬ out < base + 3 * n ∨ (out < base + 3 * n ∧ ¬ base < out + n) := by omega
        have m1 : 0 ≤ (s : Int) * n := Int.mul_nonneg (by omega) (by omega)
        have m2 : (s : Int) * n ≤ 3 * n := Int.mul_le_mul_of_nonneg_right (by omega) (by omega)
        clear hb ho hn hv
        rcases hxy with hxy | ⟨hxy, hyx⟩
        all_goals
          go_enter Tryz.func97, Tryz.ntmps97
          go_wp2_with fail
          refine Calls.mono (R := fun e w' => e = .returned (.int .i64 0) ∧ w = w') (by have := rhas_any H.out base (3 * n); rwa [HB.out] at this) ?_
          rintro e w' ⟨rfl, rfl⟩
          go_wp2_with fail
          refine Calls.mono (R := fun e w' => e = .returned (.int .i64 0) ∧ w = w') (by have := rhas_any H.out out n; rwa [HO.out] at this) ?_
          rintro e w' ⟨rfl, rfl⟩
          go_wp2_with fail
          refine (rroom_any H.out ((s : Int) * n)).mono ?_
          rintro e w' ⟨rfl, rfl⟩
          go_wp2_with fail
          go_ret
          exact ⟨by rw [HF.out]; rfl, rfl⟩
    · have HF := Lib.hid (show pkE C.length E.length base n out s = hasE C.length out n by unfold pkE; rw [if_neg hn, if_pos hb, if_neg ho])
      have hq : (hasE C.length out n == 0) = false := by rw [beq_eq_false_iff_ne]; exact ho
      clear hb ho hn
      go_enter Tryz.func97, Tryz.ntmps97
      go_wp2_with fail
      refine Calls.mono (R := fun e w' => e = .returned (.int .i64 0) ∧ w = w') (by have := rhas_any H.out base (3 * n); rwa [HB.out] at this) ?_
      rintro e w' ⟨rfl, rfl⟩
      go_wp2_with fail
      refine (rhas_any H.out out n).mono ?_
      rintro e w' ⟨rfl, rfl⟩
      go_wp2_with fail
      go_ret
      exact ⟨by rw [HF.out]; rfl, rfl⟩
  · have HF := Lib.hid (show pkE C.length E.length base n out s = hasE C.length base (3 * n) by unfold pkE; rw [if_neg hn, if_neg hb])
    have hq : (hasE C.length base (3 * n) == 0) = false := by rw [beq_eq_false_iff_ne]; exact hb
    clear hb hn
    go_enter Tryz.func97, Tryz.ntmps97
    go_wp2_with fail
    refine (rhas_any H.out base (3 * n)).mono ?_
    rintro e w' ⟨rfl, rfl⟩
    go_wp2_with fail
    go_ret
    exact ⟨by rw [HF.out]; rfl, rfl⟩
def RVePost (w : World) (F : Nat → Prop) (p : Nat) (r : (BitVec 64 × Int) × (List (BitVec 64) × List Ev)) (e : Ending) (w' : World) : Prop :=
  e = .returned (.tuple #[.int .u64 (n64 r.1.1), .int .i64 r.1.2]) ∧ RfTo w F p r.2.1 r.2.2 w'
attribute [local go_sem] n64_mod2
set_option maxHeartbeats 4000000 in
theorem rranks_any (h : Rf w F r C E) (base n out : Int) :
    Calls Tryz.prog 47 #[.pointer (some ⟨r, 0, none⟩), .int .i64 base, .int .i64 n, .int .i64 out] w (RVePost w F r (prR C E base n out 2 rkF)) := by
  have H := Lib.hid h
  have hn2 := h.n2
  by_cases hz : pkE C.length E.length base n out ((2 : Nat) : Int) = 0
  · obtain ⟨g1, g2, g3, g4, g5, g6, _, g8⟩ := pkE_zero hz
    obtain ⟨base, rfl⟩ := Int.eq_ofNat_of_zero_le g3
    obtain ⟨out, rfl⟩ := Int.eq_ofNat_of_zero_le g5
    obtain ⟨n, rfl⟩ := Int.eq_ofNat_of_zero_le (show 0 ≤ n by omega)
    have HR := Lib.hid (show prR C E (base : Int) (n : Int) (out : Int) 2 rkF = (((repS (rkF base out) (C, E, 0#64) n).2.2, 0), ((repS (rkF base out) (C, E, 0#64) n).1, (repS (rkF base out) (C, E, 0#64) n).2.1)) from by unfold prR; rw [if_pos hz]; rfl)
    have HK := Lib.hid (pasked_any h base n out 2 (by decide))
    have HZ := Lib.hid hz
    have G4 := Lib.hid (show base + 3 * n ≤ C.length by omega)
    have G6 := Lib.hid (show out + n ≤ C.length by omega)
    have G8 := Lib.hid (show E.length + 2 * n ≤ 8388608 by omega)
    have n1 : 1 ≤ n := by omega
    have n2 : n ≤ 288 := by omega
    have x1 : base ≤ 65536 := by omega
    have x2 : out ≤ 65536 := by omega
    have HL := Lib.hid (fun i => repS_len (rkF base out) 2 (rkF_len base out) (C, E, 0#64) i)
    clear h hz g1 g2 g3 g4 g5 g6 g8
    go_enter Tryz.func47, Tryz.ntmps47
    go_wp2_with fail
    refine Calls.mono (R := fun e w' => e = .returned (.int .i64 0) ∧ w = w') (by have := HK.out; rwa [HZ.out] at this) ?_
    rintro e w' ⟨rfl, rfl⟩
    go_wp2_with fail
    go_loopw [11, 12] (fun m i wr => ∃ j : Nat, j ≤ n ∧ i = .int .i64 j ∧ m = .int .u64 (n64 (repS (rkF base out) (C, E, 0#64) j).2.2) ∧ RfTo w F r (repS (rkF base out) (C, E, 0#64) j).1 (repS (rkF base out) (C, E, 0#64) j).2.1 wr) (fun _ i _ => n - (intOf i).toNat)
    case atStart => exact ⟨0, Nat.zero_le _, rfl, rfl, RfTo.refl H.out⟩
    case round =>
      obtain ⟨j, hj, rfl, rfl, hrel⟩ := hrel
      have HRL := Lib.hid hrel
      clear hrel
      by_cases hlt : j < n
      · obtain ⟨l1, l2⟩ := HL.out j
        have L1 : Hid ((repS (rkF base out) (C, E, 0#64) j).1.length = C.length) := Lib.hid l1
        have L2 : Hid ((repS (rkF base out) (C, E, 0#64) j).2.1.length = E.length + 2 * j) := Lib.hid l2
        have HRS := Lib.hid (repS_succ (rkF base out) (C, E, 0#64) j)
        clear l1 l2
        revert HRL L1 L2 HRS
        generalize (repS (rkF base out) (C, E, 0#64) j) = q
        obtain ⟨D, E1, many⟩ := q
        intro HRL L1 L2 HRS
        have L1' : D.length = C.length := L1.out
        have L2' : E1.length = E.length + 2 * j := L2.out
        have LD := Lib.hid L1'
        have LE := Lib.hid L2'
        have hA : base + 3 * j < D.length := by have := G4.out; omega
        have hB : out + j < D.length := by have := G6.out; omega
        have HA := Lib.hid hA
        have HB := Lib.hid hB
        clear L1' L2' L1 L2 hA hB
        have hnn := n64_nonneg (cl D (base + 3 * j))
        go_wp2_with fail
        refine (rload_ok HRL.out.1 ((base : Int) + 3 * (j : Int)) (by omega) (by have := HA.out; show _ < (D.length : Int); omega) (by have := LE.out; have := G8.out; show E1.length < _; omega)).mono ?_
        rintro e u1 ⟨rfl, h1⟩
        rw [show ((base : Int) + 3 * (j : Int)).toNat = base + 3 * j by omega] at h1
        rw [show ((base : Int) + 3 * (j : Int)).toNat = base + 3 * j by omega]
        have H1 := Lib.hid (HRL.out.trans h1)
        clear h1
        go_wp2_with fail
        refine (rstore_ok H1.out.1 ((out : Int) + (j : Int)) (many) (by omega) (by have := HB.out; show _ < (D.length : Int); omega) (by have := LE.out; have := G8.out; simp; omega)).mono ?_
        rintro e u3 ⟨rfl, h3⟩
        rw [show ((out : Int) + (j : Int)).toNat = out + j by omega] at h3
        have H3 := Lib.hid (H1.out.trans h3)
        clear h3 H1
        go_wp2_with fail
        go_roundw
        case rel =>
          have h9 := H3.out
          simp only [List.append_assoc, List.cons_append, List.nil_append] at h9
          refine ⟨j + 1, by omega, by go_num, ?_, ?_⟩
          · rw [HRS.out]; unfold rkF; rw [ofM_one]
          · rw [HRS.out]; unfold rkF; exact h9
        case measure => simp [intOf]; omega
      · obtain rfl : n = j := by omega
        go_wp2_with fail
        go_ret2
        rw [HR.out]
        exact ⟨rfl, HRL.out⟩
  · have HR := Lib.hid (show prR C E base n out 2 rkF = ((0#64, pkE C.length E.length base n out ((2 : Nat) : Int)), (C, E)) from by unfold prR; rw [if_neg hz])
    have HK := Lib.hid (pasked_any h base n out 2 (by decide))
    have hq : (pkE C.length E.length base n out ((2 : Nat) : Int) != 0) = true := by rw [bne_iff_ne]; exact hz
    have hq2 : (pkE C.length E.length base n out ((2 : Nat) : Int) == 0) = false := by rw [beq_eq_false_iff_ne]; exact hz
    revert HR HK hq hq2
    generalize pkE C.length E.length base n out ((2 : Nat) : Int) = c
    intro HR HK hq hq2
    clear h hz
    go_enter Tryz.func47, Tryz.ntmps47
    go_wp2_with fail
    refine HK.out.mono ?_
    rintro e w' ⟨rfl, rfl⟩
    go_wp2_with fail
    go_ret2
    rw [HR.out]
    exact ⟨rfl, RfTo.refl H.out⟩
end

end Go.Proofs.YtedbafgejladiaaGreat

/-
  dragnetref23.Split and Distances over the specification's arena.
-/
namespace Go.Proofs.YtedbafgejladiaaGreat
open Go.RowKit
attribute [local go_sem] bits_and_u64 bits_or_u64 bits_xor_u64 bits_andNot_u64 wrap_u64 bv_add bv_neg bv_sub bv_mul
set_option linter.unusedVariables false
set_option maxRecDepth 100000
attribute [local go_sem] bv_one
section
variable {w : World} {F : Nat → Prop} {r : Nat} {C : List (BitVec 64)} {E : List Ev}
attribute [local go_sem] n64_mod2
set_option maxHeartbeats 4000000 in
theorem rsplit_any (h : Rf w F r C E) (base n out : Int) (k : BitVec 64) :
    Calls Tryz.prog 48 #[.pointer (some ⟨r, 0, none⟩), .int .i64 base, .int .i64 n, .int .i64 out, .int .u64 (n64 k)] w (RVePost w F r (prR C E base n out 3 (spF k))) := by
  have H := Lib.hid h
  have hn2 := h.n2
  by_cases hz : pkE C.length E.length base n out ((3 : Nat) : Int) = 0
  · obtain ⟨g1, g2, g3, g4, g5, g6, _, g8⟩ := pkE_zero hz
    obtain ⟨base, rfl⟩ := Int.eq_ofNat_of_zero_le g3
    obtain ⟨out, rfl⟩ := Int.eq_ofNat_of_zero_le g5
    obtain ⟨n, rfl⟩ := Int.eq_ofNat_of_zero_le (show 0 ≤ n by omega)
    have HR := Lib.hid (show prR C E (base : Int) (n : Int) (out : Int) 3 (spF k) = (((repS (spF k base out) (C, E, 0#64) n).2.2, 0), ((repS (spF k base out) (C, E, 0#64) n).1, (repS (spF k base out) (C, E, 0#64) n).2.1)) from by unfold prR; rw [if_pos hz]; rfl)
    have HK := Lib.hid (pasked_any h base n out 3 (by decide))
    have HZ := Lib.hid hz
    have G4 := Lib.hid (show base + 3 * n ≤ C.length by omega)
    have G6 := Lib.hid (show out + n ≤ C.length by omega)
    have G8 := Lib.hid (show E.length + 3 * n ≤ 8388608 by omega)
    have n1 : 1 ≤ n := by omega
    have n2 : n ≤ 288 := by omega
    have x1 : base ≤ 65536 := by omega
    have x2 : out ≤ 65536 := by omega
    have HL := Lib.hid (fun i => repS_len (spF k base out) 3 (spF_len k base out) (C, E, 0#64) i)
    clear h hz g1 g2 g3 g4 g5 g6 g8
    go_enter Tryz.func48, Tryz.ntmps48
    go_wp2_with fail
    refine Calls.mono (R := fun e w' => e = .returned (.int .i64 0) ∧ w = w') (by have := HK.out; rwa [HZ.out] at this) ?_
    rintro e w' ⟨rfl, rfl⟩
    go_wp2_with fail
    go_loopw [13, 14] (fun m i wr => ∃ j : Nat, j ≤ n ∧ i = .int .i64 j ∧ m = .int .u64 (n64 (repS (spF k base out) (C, E, 0#64) j).2.2) ∧ RfTo w F r (repS (spF k base out) (C, E, 0#64) j).1 (repS (spF k base out) (C, E, 0#64) j).2.1 wr) (fun _ i _ => n - (intOf i).toNat)
    case atStart => exact ⟨0, Nat.zero_le _, rfl, rfl, RfTo.refl H.out⟩
    case round =>
      obtain ⟨j, hj, rfl, rfl, hrel⟩ := hrel
      have HRL := Lib.hid hrel
      clear hrel
      by_cases hlt : j < n
      · obtain ⟨l1, l2⟩ := HL.out j
        have L1 : Hid ((repS (spF k base out) (C, E, 0#64) j).1.length = C.length) := Lib.hid l1
        have L2 : Hid ((repS (spF k base out) (C, E, 0#64) j).2.1.length = E.length + 3 * j) := Lib.hid l2
        have HRS := Lib.hid (repS_succ (spF k base out) (C, E, 0#64) j)
        clear l1 l2
        revert HRL L1 L2 HRS
        generalize (repS (spF k base out) (C, E, 0#64) j) = q
        obtain ⟨D, E1, many⟩ := q
        intro HRL L1 L2 HRS
        have L1' : D.length = C.length := L1.out
        have L2' : E1.length = E.length + 3 * j := L2.out
        have LD := Lib.hid L1'
        have LE := Lib.hid L2'
        have hA : base + 3 * j < D.length := by have := G4.out; omega
        have hB : out + j < D.length := by have := G6.out; omega
        have HA := Lib.hid hA
        have HB := Lib.hid hB
        clear L1' L2' L1 L2 hA hB
        have hnn := n64_nonneg (cl D (base + 3 * j))
        go_wp2_with fail
        refine (rload_ok HRL.out.1 ((base : Int) + 3 * (j : Int)) (by omega) (by have := HA.out; show _ < (D.length : Int); omega) (by have := LE.out; have := G8.out; show E1.length < _; omega)).mono ?_
        rintro e u1 ⟨rfl, h1⟩
        rw [show ((base : Int) + 3 * (j : Int)).toNat = base + 3 * j by omega] at h1
        rw [show ((base : Int) + 3 * (j : Int)).toNat = base + 3 * j by omega]
        have H1 := Lib.hid (HRL.out.trans h1)
        clear h1
        go_wp2_with fail
        refine (rload_ok H1.out.1 ((out : Int) + (j : Int)) (by omega) (by have := HB.out; show _ < (D.length : Int); omega) (by have := LE.out; have := G8.out; simp; omega)).mono ?_
        rintro e u2 ⟨rfl, h2⟩
        rw [show ((out : Int) + (j : Int)).toNat = out + j by omega] at h2
        rw [show ((out : Int) + (j : Int)).toNat = out + j by omega]
        have H2 := Lib.hid (H1.out.trans h2)
        clear h2 H1
        by_cases ho : (cl D (base + 3 * j)).toNat % 2 = 1
        · by_cases hr : n64 (cl D (out + j)) < n64 k
          · obtain ⟨o1, o2, hq⟩ := odd_of ho
            have HSP : Hid (spK k base out D j = msk true) := Lib.hid (by unfold spK ltM; rw [o1, msk_true_and]; rw [show decide ((cl D (out + j)).toNat < k.toNat) = true from by simp; unfold n64 at hr; omega])
            have HCN : Hid (many + (cl D (base + 3 * j) &&& 1#64) - 1#64 = many + ((ofM (cl D (base + 3 * j)) &&& ~~~ spK k base out D j) &&& 1#64)) := Lib.hid (by rw [HSP.out, o1, o2]; show many + 1#64 - 1#64 = many + ((msk true &&& ~~~ msk true) &&& 1#64); rw [show (msk true &&& ~~~ msk true) &&& 1#64 = 0#64 from rfl, BitVec.add_zero, BitVec.add_sub_cancel])
            have HO2 := Lib.hid o2
            clear o1 o2
            go_wp2_with fail
            refine Calls.mono (R := fun e w' => e = .returned (.int .u64 (n64 (spK k base out D j))) ∧ u2 = w') (by have := rof_any 1#64 u2; rw [show ofM 1#64 = spK k base out D j from HSP.out.symm] at this; exact this) ?_
            rintro e w' ⟨rfl, rfl⟩
            go_wp2_with fail
            refine (rstore_ok H2.out.1 ((base : Int) + 3 * (j : Int)) (spK k base out D j) (by omega) (by have := HA.out; show _ < (D.length : Int); omega) (by have := LE.out; have := G8.out; simp; omega)).mono ?_
            rintro e u3 ⟨rfl, h3⟩
            rw [show ((base : Int) + 3 * (j : Int)).toNat = base + 3 * j by omega] at h3
            have H3 := Lib.hid (H2.out.trans h3)
            clear h3 H2
            go_wp2_with fail
            go_roundw
            case rel =>
              have h9 := H3.out
              simp only [List.append_assoc, List.cons_append, List.nil_append] at h9
              refine ⟨j + 1, by omega, by go_num, ?_, ?_⟩
              · rw [HRS.out]; unfold spF; rw [← HCN.out]; first | done | rfl | (rw [HO2.out]; rfl) | (congr 2; simp)
              · rw [HRS.out]; unfold spF; exact h9
            case measure => simp [intOf]; omega
          · obtain ⟨o1, o2, hq⟩ := odd_of ho
            have HSP : Hid (spK k base out D j = msk false) := Lib.hid (by unfold spK ltM; rw [o1, msk_true_and]; rw [show decide ((cl D (out + j)).toNat < k.toNat) = false from by simp; unfold n64 at hr; omega])
            have HCN : Hid (many + (cl D (base + 3 * j) &&& 1#64) - 0#64 = many + ((ofM (cl D (base + 3 * j)) &&& ~~~ spK k base out D j) &&& 1#64)) := Lib.hid (by rw [HSP.out, o1, o2]; show many + 1#64 - 0#64 = many + ((msk true &&& ~~~ msk false) &&& 1#64); rw [show (msk true &&& ~~~ msk false) &&& 1#64 = 1#64 from rfl, BitVec.sub_zero])
            have HO2 := Lib.hid o2
            clear o1 o2
            go_wp2_with fail
            refine Calls.mono (R := fun e w' => e = .returned (.int .u64 (n64 (spK k base out D j))) ∧ u2 = w') (by have := rof_any 0#64 u2; rw [show ofM 0#64 = spK k base out D j from HSP.out.symm] at this; exact this) ?_
            rintro e w' ⟨rfl, rfl⟩
            go_wp2_with fail
            refine (rstore_ok H2.out.1 ((base : Int) + 3 * (j : Int)) (spK k base out D j) (by omega) (by have := HA.out; show _ < (D.length : Int); omega) (by have := LE.out; have := G8.out; simp; omega)).mono ?_
            rintro e u3 ⟨rfl, h3⟩
            rw [show ((base : Int) + 3 * (j : Int)).toNat = base + 3 * j by omega] at h3
            have H3 := Lib.hid (H2.out.trans h3)
            clear h3 H2
            go_wp2_with fail
            go_roundw
            case rel =>
              have h9 := H3.out
              simp only [List.append_assoc, List.cons_append, List.nil_append] at h9
              refine ⟨j + 1, by omega, by go_num, ?_, ?_⟩
              · rw [HRS.out]; unfold spF; rw [← HCN.out]; first | done | rfl | (rw [HO2.out]; rfl) | (congr 2; simp)
              · rw [HRS.out]; unfold spF; exact h9
            case measure => simp [intOf]; omega
        · obtain ⟨o1, o2, hq⟩ := even_of ho
          have HSP : Hid (spK k base out D j = msk false) := Lib.hid (by unfold spK; rw [o1, msk_false_and]; rfl)
          have HCN : Hid (many + (cl D (base + 3 * j) &&& 1#64) - 0#64 = many + ((ofM (cl D (base + 3 * j)) &&& ~~~ spK k base out D j) &&& 1#64)) := Lib.hid (by rw [HSP.out, o1, o2]; show many + 0#64 - 0#64 = many + ((msk false &&& ~~~ msk false) &&& 1#64); rw [show (msk false &&& ~~~ msk false) &&& 1#64 = 0#64 from rfl, BitVec.sub_zero])
          have HO2 := Lib.hid o2
          clear o1 o2
          go_wp2_with fail
          refine Calls.mono (R := fun e w' => e = .returned (.int .u64 (n64 (spK k base out D j))) ∧ u2 = w') (by have := rof_any 0#64 u2; rw [show ofM 0#64 = spK k base out D j from HSP.out.symm] at this; exact this) ?_
          rintro e w' ⟨rfl, rfl⟩
          go_wp2_with fail
          refine (rstore_ok H2.out.1 ((base : Int) + 3 * (j : Int)) (spK k base out D j) (by omega) (by have := HA.out; show _ < (D.length : Int); omega) (by have := LE.out; have := G8.out; simp; omega)).mono ?_
          rintro e u3 ⟨rfl, h3⟩
          rw [show ((base : Int) + 3 * (j : Int)).toNat = base + 3 * j by omega] at h3
          have H3 := Lib.hid (H2.out.trans h3)
          clear h3 H2
          go_wp2_with fail
          go_roundw
          case rel =>
            have h9 := H3.out
            simp only [List.append_assoc, List.cons_append, List.nil_append] at h9
            refine ⟨j + 1, by omega, by go_num, ?_, ?_⟩
            · rw [HRS.out]; unfold spF; rw [← HCN.out]; first | done | rfl | (rw [HO2.out]; rfl) | (congr 2; simp)
            · rw [HRS.out]; unfold spF; exact h9
          case measure => simp [intOf]; omega
      · obtain rfl : n = j := by omega
        go_wp2_with fail
        go_ret2
        rw [HR.out]
        exact ⟨rfl, HRL.out⟩
  · have HR := Lib.hid (show prR C E base n out 3 (spF k) = ((0#64, pkE C.length E.length base n out ((3 : Nat) : Int)), (C, E)) from by unfold prR; rw [if_neg hz])
    have HK := Lib.hid (pasked_any h base n out 3 (by decide))
    have hq : (pkE C.length E.length base n out ((3 : Nat) : Int) != 0) = true := by rw [bne_iff_ne]; exact hz
    have hq2 : (pkE C.length E.length base n out ((3 : Nat) : Int) == 0) = false := by rw [beq_eq_false_iff_ne]; exact hz
    revert HR HK hq hq2
    generalize pkE C.length E.length base n out ((3 : Nat) : Int) = c
    intro HR HK hq hq2
    clear h hz
    go_enter Tryz.func48, Tryz.ntmps48
    go_wp2_with fail
    refine HK.out.mono ?_
    rintro e w' ⟨rfl, rfl⟩
    go_wp2_with fail
    go_ret2
    rw [HR.out]
    exact ⟨rfl, RfTo.refl H.out⟩
set_option maxHeartbeats 4000000 in
theorem rdist_any (h : Rf w F r C E) (base n out : Int) :
    Calls Tryz.prog 53 #[.pointer (some ⟨r, 0, none⟩), .int .i64 base, .int .i64 n, .int .i64 out] w (RErPost w F r (prR C E base n out 3 diF).1.2 (prR C E base n out 3 diF).2) := by
  have H := Lib.hid h
  have hn2 := h.n2
  by_cases hz : pkE C.length E.length base n out ((3 : Nat) : Int) = 0
  · obtain ⟨g1, g2, g3, g4, g5, g6, _, g8⟩ := pkE_zero hz
    obtain ⟨base, rfl⟩ := Int.eq_ofNat_of_zero_le g3
    obtain ⟨out, rfl⟩ := Int.eq_ofNat_of_zero_le g5
    obtain ⟨n, rfl⟩ := Int.eq_ofNat_of_zero_le (show 0 ≤ n by omega)
    have HR := Lib.hid (show prR C E (base : Int) (n : Int) (out : Int) 3 diF = (((repS (diF base out) (C, E, 0#64) n).2.2, 0), ((repS (diF base out) (C, E, 0#64) n).1, (repS (diF base out) (C, E, 0#64) n).2.1)) from by unfold prR; rw [if_pos hz]; rfl)
    have HK := Lib.hid (pasked_any h base n out 3 (by decide))
    have HZ := Lib.hid hz
    have G4 := Lib.hid (show base + 3 * n ≤ C.length by omega)
    have G6 := Lib.hid (show out + n ≤ C.length by omega)
    have G8 := Lib.hid (show E.length + 3 * n ≤ 8388608 by omega)
    have n1 : 1 ≤ n := by omega
    have n2 : n ≤ 288 := by omega
    have x1 : base ≤ 65536 := by omega
    have x2 : out ≤ 65536 := by omega
    have HL := Lib.hid (fun i => repS_len (diF base out) 3 (diF_len base out) (C, E, 0#64) i)
    clear h hz g1 g2 g3 g4 g5 g6 g8
    go_enter Tryz.func53, Tryz.ntmps53
    go_wp2_with fail
    refine Calls.mono (R := fun e w' => e = .returned (.int .i64 0) ∧ w = w') (by have := HK.out; rwa [HZ.out] at this) ?_
    rintro e w' ⟨rfl, rfl⟩
    go_wp2_with fail
    go_loopw [10] (fun i wr => ∃ j : Nat, j ≤ n ∧ i = .int .i64 j ∧ RfTo w F r (repS (diF base out) (C, E, 0#64) j).1 (repS (diF base out) (C, E, 0#64) j).2.1 wr) (fun i _ => n - (intOf i).toNat)
    case atStart => exact ⟨0, Nat.zero_le _, rfl, RfTo.refl H.out⟩
    case round =>
      obtain ⟨j, hj, rfl, hrel⟩ := hrel
      have HRL := Lib.hid hrel
      clear hrel
      by_cases hlt : j < n
      · obtain ⟨l1, l2⟩ := HL.out j
        have L1 : Hid ((repS (diF base out) (C, E, 0#64) j).1.length = C.length) := Lib.hid l1
        have L2 : Hid ((repS (diF base out) (C, E, 0#64) j).2.1.length = E.length + 3 * j) := Lib.hid l2
        have HRS := Lib.hid (repS_succ (diF base out) (C, E, 0#64) j)
        clear l1 l2
        revert HRL L1 L2 HRS
        generalize (repS (diF base out) (C, E, 0#64) j) = q
        obtain ⟨D, E1, many⟩ := q
        intro HRL L1 L2 HRS
        have L1' : D.length = C.length := L1.out
        have L2' : E1.length = E.length + 3 * j := L2.out
        have LD := Lib.hid L1'
        have LE := Lib.hid L2'
        have hA : base + 3 * j < D.length := by have := G4.out; omega
        have hB : out + j < D.length := by have := G6.out; omega
        have HA := Lib.hid hA
        have HB := Lib.hid hB
        clear L1' L2' L1 L2 hA hB
        have hnn := n64_nonneg (cl D (base + 3 * j))
        go_wp2_with fail
        refine (rload_ok HRL.out.1 ((base : Int) + 3 * (j : Int)) (by omega) (by have := HA.out; show _ < (D.length : Int); omega) (by have := LE.out; have := G8.out; show E1.length < _; omega)).mono ?_
        rintro e u1 ⟨rfl, h1⟩
        rw [show ((base : Int) + 3 * (j : Int)).toNat = base + 3 * j by omega] at h1
        rw [show ((base : Int) + 3 * (j : Int)).toNat = base + 3 * j by omega]
        have H1 := Lib.hid (HRL.out.trans h1)
        clear h1
        go_wp2_with fail
        refine (rload_ok H1.out.1 ((out : Int) + (j : Int)) (by omega) (by have := HB.out; show _ < (D.length : Int); omega) (by have := LE.out; have := G8.out; simp; omega)).mono ?_
        rintro e u2 ⟨rfl, h2⟩
        rw [show ((out : Int) + (j : Int)).toNat = out + j by omega] at h2
        rw [show ((out : Int) + (j : Int)).toNat = out + j by omega]
        have H2 := Lib.hid (H1.out.trans h2)
        clear h2 H1
        by_cases ho : (cl D (base + 3 * j)).toNat % 2 = 1
        · obtain ⟨o1, o2, hq⟩ := odd_of ho
          have HV : Hid (ofM (cl D (base + 3 * j)) &&& (BitVec.ofNat 64 j - cl D (out + j)) = BitVec.ofNat 64 j - cl D (out + j)) := Lib.hid (by rw [o1, msk_true_and])
          have hbn := bv_nat j
          clear o1 o2
          go_wp2_with fail
          refine (rstore_ok H2.out.1 ((out : Int) + (j : Int)) (BitVec.ofNat 64 j - cl D (out + j)) (by omega) (by have := HB.out; show _ < (D.length : Int); omega) (by have := LE.out; have := G8.out; simp; omega)).mono ?_
          rintro e u3 ⟨rfl, h3⟩
          rw [show ((out : Int) + (j : Int)).toNat = out + j by omega] at h3
          have H3 := Lib.hid (H2.out.trans h3)
          clear h3 H2
          clear hbn
          go_wp2_with fail
          go_roundw
          case rel =>
            have h9 := H3.out
            simp only [List.append_assoc, List.cons_append, List.nil_append] at h9
            refine ⟨j + 1, by omega, by go_num, ?_⟩
            rw [HRS.out]; unfold diF; rw [HV.out]; exact h9
          case measure => simp [intOf]; omega
        · obtain ⟨o1, o2, hq⟩ := even_of ho
          have HV : Hid (ofM (cl D (base + 3 * j)) &&& (BitVec.ofNat 64 j - cl D (out + j)) = 0#64) := Lib.hid (by rw [o1, msk_false_and])
          have hbn := bv_nat j
          clear o1 o2
          go_wp2_with fail
          refine (rstore_ok H2.out.1 ((out : Int) + (j : Int)) (0#64) (by omega) (by have := HB.out; show _ < (D.length : Int); omega) (by have := LE.out; have := G8.out; simp; omega)).mono ?_
          rintro e u3 ⟨rfl, h3⟩
          rw [show ((out : Int) + (j : Int)).toNat = out + j by omega] at h3
          have H3 := Lib.hid (H2.out.trans h3)
          clear h3 H2
          clear hbn
          go_wp2_with fail
          go_roundw
          case rel =>
            have h9 := H3.out
            simp only [List.append_assoc, List.cons_append, List.nil_append] at h9
            refine ⟨j + 1, by omega, by go_num, ?_⟩
            rw [HRS.out]; unfold diF; rw [HV.out]; exact h9
          case measure => simp [intOf]; omega
      · obtain rfl : n = j := by omega
        go_wp2_with fail
        go_ret
        rw [HR.out]
        exact ⟨rfl, HRL.out⟩
  · have HR := Lib.hid (show prR C E base n out 3 diF = ((0#64, pkE C.length E.length base n out ((3 : Nat) : Int)), (C, E)) from by unfold prR; rw [if_neg hz])
    have HK := Lib.hid (pasked_any h base n out 3 (by decide))
    have hq : (pkE C.length E.length base n out ((3 : Nat) : Int) != 0) = true := by rw [bne_iff_ne]; exact hz
    have hq2 : (pkE C.length E.length base n out ((3 : Nat) : Int) == 0) = false := by rw [beq_eq_false_iff_ne]; exact hz
    revert HR HK hq hq2
    generalize pkE C.length E.length base n out ((3 : Nat) : Int) = c
    intro HR HK hq hq2
    clear h hz
    go_enter Tryz.func53, Tryz.ntmps53
    go_wp2_with fail
    refine HK.out.mono ?_
    rintro e w' ⟨rfl, rfl⟩
    go_wp2_with fail
    refine wp_loop_rounds 1 ?_
    rw [rounds_succ]
    by_cases hn0 : 0 < n
    all_goals
      go_wp2_with fail
      go_ret
      rw [HR.out]
      exact ⟨rfl, RfTo.refl H.out⟩
end

end Go.Proofs.YtedbafgejladiaaGreat

