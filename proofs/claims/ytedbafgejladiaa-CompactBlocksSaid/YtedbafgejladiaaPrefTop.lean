import Derived.Test.YtedbafgejladiaaPrefix
/-
  prefix.Ranks, Split, Distances.
-/
namespace Go.Proofs.Ytedbafgejladiaa
open Go.RowKit
attribute [local go_sem] bits_and_u64 bits_or_u64 bits_xor_u64 bits_andNot_u64 wrap_u64 bv_add bv_neg bv_sub bv_mul
set_option linter.unusedVariables false
set_option maxRecDepth 100000
/-- What the functions return, and leave. -/
def prR (C : List (BitVec 64)) (E : List Ev) (base n out : Int) (s : Nat) (f : Nat → Nat → St → Nat → St) : (BitVec 64 × Int) × (List (BitVec 64) × List Ev) :=
  if pkE C.length E.length base n out s = 0 then (((repS (f base.toNat out.toNat) (C, E, 0#64) n.toNat).2.2, 0), ((repS (f base.toNat out.toNat) (C, E, 0#64) n.toNat).1, (repS (f base.toNat out.toNat) (C, E, 0#64) n.toNat).2.1)) else ((0#64, pkE C.length E.length base n out s), (C, E))
def VePost (w : World) (F : Nat → Prop) (p : Nat) (r : (BitVec 64 × Int) × (List (BitVec 64) × List Ev)) (e : Ending) (w' : World) : Prop :=
  e = .returned (.tuple #[.int .u64 (n64 r.1.1), .int .i64 r.1.2]) ∧ ArTo w F p r.2.1 r.2.2 w'
theorem repS_len (f : St → Nat → St) (k : Nat) (hf : ∀ s i, (f s i).1.length = s.1.length ∧ (f s i).2.1.length = s.2.1.length + k) (s : St) (i : Nat) : (repS f s i).1.length = s.1.length ∧ (repS f s i).2.1.length = s.2.1.length + k * i := by
  induction i with
  | zero => exact ⟨rfl, rfl⟩
  | succ i ih =>
    rw [repS_succ]
    obtain ⟨h1, h2⟩ := hf (repS f s i) i
    exact ⟨h1.trans ih.1, by rw [h2, ih.2, Nat.mul_succ]; omega⟩
theorem rkF_len (base out : Nat) (s : St) (i : Nat) : (rkF base out s i).1.length = s.1.length ∧ (rkF base out s i).2.1.length = s.2.1.length + 2 := by unfold rkF; simp
theorem spF_len (k : BitVec 64) (base out : Nat) (s : St) (i : Nat) : (spF k base out s i).1.length = s.1.length ∧ (spF k base out s i).2.1.length = s.2.1.length + 3 := by unfold spF; simp
theorem diF_len (base out : Nat) (s : St) (i : Nat) : (diF base out s i).1.length = s.1.length ∧ (diF base out s i).2.1.length = s.2.1.length + 3 := by unfold diF; simp
section
variable {w : World} {F : Nat → Prop} {p : Nat} {C : List (BitVec 64)} {E : List Ev}
theorem ranks_does (ob base n out : Nat) (hx : base + 3 * n ≤ C.length) (hy : out + n ≤ C.length) (hn : n ≤ 288) (he : E.length + 2 * n ≤ 8388608) :
    DoesE p [(ob, 3, #[.int .i64 (out : Int)])] base n out 65 #[.pointer (some ⟨ob, 0, none⟩)] (rkF base out) (C, E, 0#64) := by
  refine ⟨fun _ _ => by kernel_rfl, fun w0 F w rb i hi h => ?_⟩
  obtain ⟨l1, l2⟩ := repS_len (rkF base out) 2 (rkF_len base out) (C, E, 0#64) i
  have l1' : (repS (rkF base out) (C, E, 0#64) i).1.length = C.length := l1
  have l2' : (repS (rkF base out) (C, E, 0#64) i).2.1.length = E.length + 2 * i := l2
  have := ranks1_ok (i := i) h (by omega) (by rw [l1']; omega) (by rw [l1']; omega) (by rw [l2']; omega)
  rw [repS_succ]
  exact this
set_option maxHeartbeats 1000000 in
theorem ranks_any (h : Ar w F p C E) (base n out : Int) :
    Calls Try.prog 33 #[.pointer (some ⟨p, 0, none⟩), .int .i64 base, .int .i64 n, .int .i64 out] w (VePost w F p (prR C E base n out 2 rkF)) := by
  have H := Lib.hid h
  by_cases hz : pkE C.length E.length base n out ((2 : Nat) : Int) = 0
  · obtain ⟨g1, g2, g3, g4, g5, g6, _, g8⟩ := pkE_zero hz
    obtain ⟨base, rfl⟩ := Int.eq_ofNat_of_zero_le g3
    obtain ⟨out, rfl⟩ := Int.eq_ofNat_of_zero_le g5
    obtain ⟨n, rfl⟩ := Int.eq_ofNat_of_zero_le (show 0 ≤ n by omega)
    have HR := Lib.hid (show prR C E (base : Int) (n : Int) (out : Int) 2 rkF = (((repS (rkF base out) (C, E, 0#64) n).2.2, 0), ((repS (rkF base out) (C, E, 0#64) n).1, (repS (rkF base out) (C, E, 0#64) n).2.1)) from by unfold prR; rw [if_pos hz]; rfl)
    have HK : Wk w F (w.alloc (.cells #[.int .i64 (out : Int)] 3)) [(w.heap.size, 3, #[.int .i64 (out : Int)])] p C E := by simpa using (Wk.start h).push 3 #[.int .i64 (out : Int)]
    have HO := Lib.hid (each_ok HK 2 (by decide) 65 #[.pointer (some ⟨w.heap.size, 0, none⟩)] (rkF base out) (ranks_does w.heap.size base n out (by omega) (by omega) (by omega) (by omega)) hz)
    clear h hz g1 g2 g3 g4 g5 g6 g8 HK
    go_enter Try.func33, Try.ntmps33
    go_wp2_with fail
    refine HO.out.mono ?_
    rintro e w1 ⟨rfl, h1⟩
    have H1 := Lib.hid h1
    clear h1
    go_wp2
    go_ret2
    rw [HR.out]
    exact ⟨rfl, H1.out.done⟩
  · have HR := Lib.hid (show prR C E base n out 2 rkF = ((0#64, pkE C.length E.length base n out ((2 : Nat) : Int)), (C, E)) from by unfold prR; rw [if_neg hz])
    have HO := Lib.hid (each_err (h.box (.cells #[.int .i64 out] 3)) base n out 2 (by decide) (.func (.func 65) #[] #[.pointer (some ⟨w.heap.size, 0, none⟩)]) hz)
    clear h hz
    go_enter Try.func33, Try.ntmps33
    go_wp2_with fail
    refine HO.out.mono ?_
    rintro e w1 ⟨rfl, rfl⟩
    go_wp2
    go_ret2
    rw [HR.out]
    exact ⟨rfl, ArTo.box H.out (ArTo.refl (H.out.box _))⟩
theorem split_does (k : BitVec 64) (bb kb base n out : Nat) (hx : base + 3 * n ≤ C.length) (hy : out + n ≤ C.length) (hn : n ≤ 288) (he : E.length + 3 * n ≤ 8388608) :
    DoesE p [(kb, 33, #[.int .u64 (n64 k)]), (bb, 3, #[.int .i64 (base : Int)])] base n out 68 #[.pointer (some ⟨kb, 0, none⟩), .pointer (some ⟨bb, 0, none⟩)] (spF k base out) (C, E, 0#64) := by
  refine ⟨fun _ _ => by kernel_rfl, fun w0 F w rb i hi h => ?_⟩
  obtain ⟨l1, l2⟩ := repS_len (spF k base out) 3 (spF_len k base out) (C, E, 0#64) i
  have l1' : (repS (spF k base out) (C, E, 0#64) i).1.length = C.length := l1
  have l2' : (repS (spF k base out) (C, E, 0#64) i).2.1.length = E.length + 3 * i := l2
  have := split1_ok (i := i) h (by omega) (by rw [l1']; omega) (by rw [l1']; omega) (by rw [l2']; omega)
  rw [repS_succ]
  exact this
set_option maxHeartbeats 1000000 in
theorem split_any (h : Ar w F p C E) (base n out : Int) (k : BitVec 64) :
    Calls Try.prog 35 #[.pointer (some ⟨p, 0, none⟩), .int .i64 base, .int .i64 n, .int .i64 out, .int .u64 (n64 k)] w (VePost w F p (prR C E base n out 3 (spF k))) := by
  have H := Lib.hid h
  by_cases hz : pkE C.length E.length base n out ((3 : Nat) : Int) = 0
  · obtain ⟨g1, g2, g3, g4, g5, g6, _, g8⟩ := pkE_zero hz
    obtain ⟨base, rfl⟩ := Int.eq_ofNat_of_zero_le g3
    obtain ⟨out, rfl⟩ := Int.eq_ofNat_of_zero_le g5
    obtain ⟨n, rfl⟩ := Int.eq_ofNat_of_zero_le (show 0 ≤ n by omega)
    have HR := Lib.hid (show prR C E (base : Int) (n : Int) (out : Int) 3 (spF k) = (((repS (spF k base out) (C, E, 0#64) n).2.2, 0), ((repS (spF k base out) (C, E, 0#64) n).1, (repS (spF k base out) (C, E, 0#64) n).2.1)) from by unfold prR; rw [if_pos hz]; rfl)
    have HK : Wk w F ((w.alloc (.cells #[.int .i64 (base : Int)] 3)).alloc (.cells #[.int .u64 (n64 k)] 33)) [((w.heap.size + 1), 33, #[.int .u64 (n64 k)]), (w.heap.size, 3, #[.int .i64 (base : Int)])] p C E := by simpa using ((Wk.start h).push 3 #[.int .i64 (base : Int)]).push 33 #[.int .u64 (n64 k)]
    have HO := Lib.hid (each_ok HK 3 (by decide) 68 #[.pointer (some ⟨(w.heap.size + 1), 0, none⟩), .pointer (some ⟨w.heap.size, 0, none⟩)] (spF k base out) (split_does k w.heap.size (w.heap.size + 1) base n out (by omega) (by omega) (by omega) (by omega)) hz)
    clear h hz g1 g2 g3 g4 g5 g6 g8 HK
    go_enter Try.func35, Try.ntmps35
    go_wp2_with fail
    refine HO.out.mono ?_
    rintro e w1 ⟨rfl, h1⟩
    have H1 := Lib.hid h1
    clear h1
    go_wp2
    go_ret2
    rw [HR.out]
    exact ⟨rfl, H1.out.done⟩
  · have HR := Lib.hid (show prR C E base n out 3 (spF k) = ((0#64, pkE C.length E.length base n out ((3 : Nat) : Int)), (C, E)) from by unfold prR; rw [if_neg hz])
    have HO := Lib.hid (each_err ((h.box (.cells #[.int .i64 base] 3)).box (.cells #[.int .u64 (n64 k)] 33)) base n out 3 (by decide) (.func (.func 68) #[] #[.pointer (some ⟨(w.heap.size + 1), 0, none⟩), .pointer (some ⟨w.heap.size, 0, none⟩)]) hz)
    clear h hz
    go_enter Try.func35, Try.ntmps35
    go_wp2_with fail
    refine HO.out.mono ?_
    rintro e w1 ⟨rfl, rfl⟩
    go_wp2
    go_ret2
    rw [HR.out]
    exact ⟨rfl, ArTo.box H.out (ArTo.box (H.out.box _) (ArTo.refl ((H.out.box _).box _)))⟩
theorem dist_does (ob base n out : Nat) (hx : base + 3 * n ≤ C.length) (hy : out + n ≤ C.length) (hn : n ≤ 288) (he : E.length + 3 * n ≤ 8388608) :
    DoesE p [(ob, 3, #[.int .i64 (out : Int)])] base n out 78 #[.pointer (some ⟨ob, 0, none⟩)] (diF base out) (C, E, 0#64) := by
  refine ⟨fun _ _ => by kernel_rfl, fun w0 F w rb i hi h => ?_⟩
  obtain ⟨l1, l2⟩ := repS_len (diF base out) 3 (diF_len base out) (C, E, 0#64) i
  have l1' : (repS (diF base out) (C, E, 0#64) i).1.length = C.length := l1
  have l2' : (repS (diF base out) (C, E, 0#64) i).2.1.length = E.length + 3 * i := l2
  have := dist1_ok (i := i) h (by omega) (by rw [l1']; omega) (by rw [l1']; omega) (by rw [l2']; omega)
  rw [repS_succ]
  exact this
set_option maxHeartbeats 1000000 in
theorem dist_any (h : Ar w F p C E) (base n out : Int) :
    Calls Try.prog 43 #[.pointer (some ⟨p, 0, none⟩), .int .i64 base, .int .i64 n, .int .i64 out] w (ErPost w F p (prR C E base n out 3 diF).1.2 (prR C E base n out 3 diF).2) := by
  have H := Lib.hid h
  by_cases hz : pkE C.length E.length base n out ((3 : Nat) : Int) = 0
  · obtain ⟨g1, g2, g3, g4, g5, g6, _, g8⟩ := pkE_zero hz
    obtain ⟨base, rfl⟩ := Int.eq_ofNat_of_zero_le g3
    obtain ⟨out, rfl⟩ := Int.eq_ofNat_of_zero_le g5
    obtain ⟨n, rfl⟩ := Int.eq_ofNat_of_zero_le (show 0 ≤ n by omega)
    have HR := Lib.hid (show prR C E (base : Int) (n : Int) (out : Int) 3 diF = (((repS (diF base out) (C, E, 0#64) n).2.2, 0), ((repS (diF base out) (C, E, 0#64) n).1, (repS (diF base out) (C, E, 0#64) n).2.1)) from by unfold prR; rw [if_pos hz]; rfl)
    have HK : Wk w F (w.alloc (.cells #[.int .i64 (out : Int)] 3)) [(w.heap.size, 3, #[.int .i64 (out : Int)])] p C E := by simpa using (Wk.start h).push 3 #[.int .i64 (out : Int)]
    have HO := Lib.hid (each_ok HK 3 (by decide) 78 #[.pointer (some ⟨w.heap.size, 0, none⟩)] (diF base out) (dist_does w.heap.size base n out (by omega) (by omega) (by omega) (by omega)) hz)
    clear h hz g1 g2 g3 g4 g5 g6 g8 HK
    go_enter Try.func43, Try.ntmps43
    go_wp2_with fail
    refine HO.out.mono ?_
    rintro e w1 ⟨rfl, h1⟩
    have H1 := Lib.hid h1
    clear h1
    go_wp2
    go_ret
    rw [HR.out]
    exact ⟨rfl, H1.out.done⟩
  · have HR := Lib.hid (show prR C E base n out 3 diF = ((0#64, pkE C.length E.length base n out ((3 : Nat) : Int)), (C, E)) from by unfold prR; rw [if_neg hz])
    have HO := Lib.hid (each_err (h.box (.cells #[.int .i64 out] 3)) base n out 3 (by decide) (.func (.func 78) #[] #[.pointer (some ⟨w.heap.size, 0, none⟩)]) hz)
    clear h hz
    go_enter Try.func43, Try.ntmps43
    go_wp2_with fail
    refine HO.out.mono ?_
    rintro e w1 ⟨rfl, rfl⟩
    go_wp2
    go_ret
    rw [HR.out]
    exact ⟨rfl, ArTo.box H.out (ArTo.refl (H.out.box _))⟩
end

end Go.Proofs.Ytedbafgejladiaa

