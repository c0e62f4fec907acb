/-
  lookup.Put and Add over an arena.
-/
import Derived.Test.YtgdklokoeeokbaaLookDo
namespace Go.Proofs.Ytgdklokoeeokbaa
open Go.RowKit Go.Shelf
attribute [local go_sem] Oper.semAt_some
attribute [local go_sem] bits_and_u64 bits_or_u64 bits_xor_u64 bits_andNot_u64 wrap_u64 bv_add bv_neg bv_sub bv_mul
set_option linter.unusedVariables false
set_option linter.unusedSimpArgs false
set_option maxRecDepth 100000
/-- The error of Put and of Add. -/
def chE (nC nE : Nat) (base n : Int) (m : BitVec 64) : Int := if 1 ≤ n ∧ n ≤ 4096 then (if isM m = true then lkE nC nE base n 2 else 2) else 7
/-- What they leave. -/
def chR (val : BitVec 64 → BitVec 64) (C : List (BitVec 64)) (E : List Ev) (base n : Int) (idx m : BitVec 64) : List (BitVec 64) × List Ev :=
  if chE C.length E.length base n m = 0 then chS val idx m base.toNat C E n.toNat else (C, E)
section
variable {w0 w : World} {F : Nat → Prop} {p : Nat} {C : List (BitVec 64)} {E : List Ev} {bs : Bks}
theorem Wk.box3 (h : Wk w0 F w bs p C E) (t1 t2 t3 : TypeId) (c1 c2 c3 : Array Value) : Wk w0 F (((w.alloc (.cells c1 t1)).alloc (.cells c2 t2)).alloc (.cells c3 t3)) bs p C E := (((h.push t1 c1).push t2 c2).push t3 c3).drop.drop.drop
theorem do_bad7 (h : Wk w0 F w bs p C E) (base n : Int) (idx m : BitVec 64) (fv : Value) (hb : ¬ (1 ≤ n ∧ n ≤ 4096)) (hf : fv.cells = #[fv]) :
    Calls Try.prog 34 #[.agg #[.int .u64 (n64 idx), .int .u64 (n64 m), fv], .pointer (some ⟨p, 0, none⟩), .int .i64 base, .int .i64 n] w fun e w' => e = .returned (.int .i64 7) ∧ Wk w0 F w' bs p C E := by
  have H := Lib.hid h
  clear h
  by_cases c1 : n < 1
  · clear hb
    go_enter Try.func34, Try.ntmps34
    have d1 : decide (n < 1) = true := by simp; omega
    go_wp2_with fail
    exact bodyPost_ret (v := .int .i64 7) (by simp [results, Try.f34, go_sem]) rfl ⟨rfl, H.out.box3 _ _ _ _ _ _⟩
  · have c2 : 4096 < n := by omega
    clear hb
    go_enter Try.func34, Try.ntmps34
    have d1 : decide (n < 1) = false := by simp; omega
    have d2 : decide (4096 < n) = true := by simp; omega
    go_wp2_with fail
    exact bodyPost_ret (v := .int .i64 7) (by simp [results, Try.f34, go_sem]) rfl ⟨rfl, H.out.box3 _ _ _ _ _ _⟩
theorem do_bad2 (h : Wk w0 F w bs p C E) (base n : Int) (idx m : BitVec 64) (fv : Value) (hb : 1 ≤ n ∧ n ≤ 4096) (hm : isM m = false) (hf : fv.cells = #[fv]) :
    Calls Try.prog 34 #[.agg #[.int .u64 (n64 idx), .int .u64 (n64 m), fv], .pointer (some ⟨p, 0, none⟩), .int .i64 base, .int .i64 n] w fun e w' => e = .returned (.int .i64 2) ∧ Wk w0 F w' bs p C E := by
  have H := Lib.hid h
  have d1 : decide (n < 1) = false := by simp; omega
  have d2 : decide (4096 < n) = false := by simp; omega
  clear h hb
  go_enter Try.func34, Try.ntmps34
  go_wp2_with fail
  refine Calls.mono (R := fun e w' => e = .returned (.bool false) ∧ _ = w') (by have := is_any m; rw [hm] at this; exact this _) ?_
  rintro e w' ⟨rfl, rfl⟩
  go_wp2_with fail
  exact bodyPost_ret (v := .int .i64 2) (by simp [results, Try.f34, go_sem]) rfl ⟨rfl, H.out.box3 _ _ _ _ _ _⟩
theorem do_err (h : Wk w0 F w bs p C E) (base n : Int) (idx m : BitVec 64) (fv : Value) (hb : 1 ≤ n ∧ n ≤ 4096) (hm : isM m = true) (hf : fv.cells = #[fv]) (hz : lkE C.length E.length base n ((2 : Nat) : Int) ≠ 0) :
    Calls Try.prog 34 #[.agg #[.int .u64 (n64 idx), .int .u64 (n64 m), fv], .pointer (some ⟨p, 0, none⟩), .int .i64 base, .int .i64 n] w fun e w' => e = .returned (.int .i64 (lkE C.length E.length base n ((2 : Nat) : Int))) ∧ Wk w0 F w' bs p C E := by
  have H := Lib.hid h
  have d1 : decide (n < 1) = false := by simp; omega
  have d2 : decide (4096 < n) = false := by simp; omega
  obtain ⟨Fx, hFx⟩ := (h.box3 66 27 3 #[.int .u64 (n64 idx), .int .u64 (n64 m), fv] #[.pointer (some ⟨p, 0, none⟩)] #[.int .i64 base]).ar
  have HC := Lib.hid (lcheck_any hFx base n 2 (by decide))
  have hq : (lkE C.length E.length base n ((2 : Nat) : Int) != 0) = true := by rw [bne_iff_ne]; exact hz
  obtain ⟨e, he⟩ : ∃ e, lkE C.length E.length base n ((2 : Nat) : Int) = e := ⟨_, rfl⟩
  rw [he] at HC hq ⊢
  clear h hb hz he hFx
  go_enter Try.func34, Try.ntmps34
  go_wp2_with fail
  refine Calls.mono (R := fun e w' => e = .returned (.bool true) ∧ _ = w') (by have := is_any m; rw [hm] at this; exact this _) ?_
  rintro e' w' ⟨rfl, rfl⟩
  go_wp2_with fail
  refine Calls.mono (R := fun e' w' => e' = .returned (.int .i64 e) ∧ _ = w') HC.out ?_
  rintro e' w' ⟨rfl, rfl⟩
  go_wp2_with fail
  exact bodyPost_ret (v := .int .i64 e) (by simp [results, Try.f34, go_sem]) rfl ⟨rfl, H.out.box3 _ _ _ _ _ _⟩
theorem do_any {vb g : Nat} {v : BitVec 64} (h : Wk w0 F w [(vb, 23, #[.int .u64 (n64 v)])] p C E) (base n : Int) (idx m : BitVec 64) (val : BitVec 64 → BitVec 64)
    (hent : ∀ (xs : Array Value) (W : World), (callFunc g xs).run Try.prog W = .ok (.enter g xs) W)
    (hval : ∀ (x : BitVec 64) (W : World), W.cell? ⟨vb, 0, none⟩ = some (.int .u64 (n64 v)) → Calls Try.prog g #[.int .u64 (n64 x), .pointer (some ⟨vb, 0, none⟩)] W fun e w' => e = .returned (.int .u64 (n64 (val x))) ∧ W = w') :
    Calls Try.prog 34 #[.agg #[.int .u64 (n64 idx), .int .u64 (n64 m), .func (.func g) #[] #[.pointer (some ⟨vb, 0, none⟩)]], .pointer (some ⟨p, 0, none⟩), .int .i64 base, .int .i64 n] w fun e w' => e = .returned (.int .i64 (chE C.length E.length base n m)) ∧ ArTo w0 F p (chR val C E base n idx m).1 (chR val C E base n idx m).2 w' := by
  by_cases hb : 1 ≤ n ∧ n ≤ 4096
  · cases hm : isM m with
    | false =>
      have he : chE C.length E.length base n m = 2 := by unfold chE; rw [if_pos hb, if_neg (by rw [hm]; decide)]
      have hr : chR val C E base n idx m = (C, E) := by unfold chR; rw [if_neg (by rw [he]; decide)]
      rw [he, hr]
      exact (do_bad2 h base n idx m _ hb hm rfl).mono fun e w' ⟨a, b⟩ => ⟨a, b.done⟩
    | true =>
      have he : chE C.length E.length base n m = lkE C.length E.length base n 2 := by unfold chE; rw [if_pos hb, if_pos hm]
      by_cases hz : lkE C.length E.length base n ((2 : Nat) : Int) = 0
      · have hr : chR val C E base n idx m = chS val idx m base.toNat C E n.toNat := by unfold chR; rw [if_pos (he.trans hz)]
        rw [he, hr, show lkE C.length E.length base n 2 = 0 from hz]
        obtain ⟨g1, g2, g3, _⟩ := lkE_zero hz
        obtain ⟨base, rfl⟩ := Int.eq_ofNat_of_zero_le g3
        obtain ⟨n, rfl⟩ := Int.eq_ofNat_of_zero_le (show 0 ≤ n by omega)
        exact (do_ok h base n idx m val hent hval hm hz).mono fun e w' ⟨a, b⟩ => ⟨a, b.done⟩
      · have hr : chR val C E base n idx m = (C, E) := by unfold chR; rw [if_neg (by rw [he]; exact hz)]
        rw [he, hr]
        exact (do_err h base n idx m _ hb hm rfl hz).mono fun e w' ⟨a, b⟩ => ⟨a, b.done⟩
  · have he : chE C.length E.length base n m = 7 := by unfold chE; rw [if_neg hb]
    have hr : chR val C E base n idx m = (C, E) := by unfold chR; rw [if_neg (by rw [he]; decide)]
    rw [he, hr]
    exact (do_bad7 h base n idx m _ hb rfl).mono fun e w' ⟨a, b⟩ => ⟨a, b.done⟩
theorem put1_ok {vb : Nat} {v : BitVec 64} (x : BitVec 64) (W : World) (hc : W.cell? ⟨vb, 0, none⟩ = some (.int .u64 (n64 v))) :
    Calls Try.prog 33 #[.int .u64 (n64 x), .pointer (some ⟨vb, 0, none⟩)] W fun e w' => e = .returned (.int .u64 (n64 v)) ∧ W = w' := by
  go_enter Try.func33, Try.ntmps33
  go_wp2
  go_ret
  exact ⟨rfl, rfl⟩
theorem add1_ok {vb : Nat} {v : BitVec 64} (x : BitVec 64) (W : World) (hc : W.cell? ⟨vb, 0, none⟩ = some (.int .u64 (n64 v))) :
    Calls Try.prog 37 #[.int .u64 (n64 x), .pointer (some ⟨vb, 0, none⟩)] W fun e w' => e = .returned (.int .u64 (n64 (x + v))) ∧ W = w' := by
  go_enter Try.func37, Try.ntmps37
  go_wp2
  go_ret
  exact ⟨rfl, rfl⟩
theorem put_any (h : Ar w F p C E) (base n : Int) (idx m v : BitVec 64) :
    Calls Try.prog 15 #[.pointer (some ⟨p, 0, none⟩), .int .i64 base, .int .i64 n, .int .u64 (n64 idx), .int .u64 (n64 m), .int .u64 (n64 v)] w fun e w' => e = .returned (.int .i64 (chE C.length E.length base n m)) ∧ ArTo w F p (chR (fun _ => v) C E base n idx m).1 (chR (fun _ => v) C E base n idx m).2 w' := by
  have HD := Lib.hid (do_any ((Wk.start h).push 23 #[.int .u64 (n64 v)]) base n idx m (fun _ => v) (g := 33) (fun _ _ => by kernel_rfl) (fun x W hc => put1_ok x W hc))
  obtain ⟨e0, he⟩ : ∃ e, chE C.length E.length base n m = e := ⟨_, rfl⟩
  obtain ⟨r0, hr⟩ : ∃ r, chR (fun _ => v) C E base n idx m = r := ⟨_, rfl⟩
  rw [he, hr] at HD ⊢
  clear h he hr
  go_enter Try.func15, Try.ntmps15
  go_wp2_with fail
  refine HD.out.mono ?_
  rintro e w1 ⟨rfl, h1⟩
  have H1 := Lib.hid h1
  clear h1
  go_wp2
  go_ret
  exact ⟨rfl, H1.out⟩
theorem ladd_any (h : Ar w F p C E) (base n : Int) (idx m v : BitVec 64) :
    Calls Try.prog 17 #[.pointer (some ⟨p, 0, none⟩), .int .i64 base, .int .i64 n, .int .u64 (n64 idx), .int .u64 (n64 m), .int .u64 (n64 v)] w fun e w' => e = .returned (.int .i64 (chE C.length E.length base n m)) ∧ ArTo w F p (chR (fun x => x + v) C E base n idx m).1 (chR (fun x => x + v) C E base n idx m).2 w' := by
  have HD := Lib.hid (do_any ((Wk.start h).push 23 #[.int .u64 (n64 v)]) base n idx m (fun x => x + v) (g := 37) (fun _ _ => by kernel_rfl) (fun x W hc => add1_ok x W hc))
  obtain ⟨e0, he⟩ : ∃ e, chE C.length E.length base n m = e := ⟨_, rfl⟩
  obtain ⟨r0, hr⟩ : ∃ r, chR (fun x => x + v) C E base n idx m = r := ⟨_, rfl⟩
  rw [he, hr] at HD ⊢
  clear h he hr
  go_enter Try.func17, Try.ntmps17
  go_wp2_with fail
  refine HD.out.mono ?_
  rintro e w1 ⟨rfl, h1⟩
  have H1 := Lib.hid h1
  clear h1
  go_wp2
  go_ret
  exact ⟨rfl, H1.out⟩
end
end Go.Proofs.Ytgdklokoeeokbaa
