/-
  The walk of dragnetlaw09.LookupTable.
-/
import Derived.Test.YtgdklokoeeokbaaAwake09
import Derived.Test.YtgdklokoeeokbaaOpen
import Derived.Test.YtgdklokoeeokbaaRef07
import Derived.BigQuiet
import Derived.Deep.QuietTactic
namespace Go.Proofs.Ytgdklokoeeokbaa
open Go.RowKit Go.ChangeShapes Go.WideShapes Go.ChangeAt
attribute [local go_sem] bits_and_u64 bits_or_u64 bits_xor_u64 bits_andNot_u64 wrap_u64 bv_add bv_neg bv_sub bv_mul
set_option linter.unusedVariables false
set_option maxRecDepth 100000
theorem cells_one {w0 w : World} {bs : Bks} {p : Nat} {C : List (BitVec 64)} {E : List Ev} (h : One w0 w bs p C E) (N : Nat) (hN : C.length = N) (hn : 0 < N) :
    Calls Try.prog 16 #[.pointer (some ⟨p, 0, none⟩)] w fun e w' => ∃ b c cur, e = .returned (.slice (some ⟨b, 0, none⟩) N c) ∧ N ≤ c ∧ One w0 w' ((b, 23, cur) :: bs) p C E ∧ ∀ j, j < N → cur[j]? = some (.int .u64 (n64 (cl C j))) := by
  subst hN
  obtain ⟨F, h1, h2, h3, h4⟩ := h
  refine (cells_ok h1).mono fun e w' ⟨v, he, hv, ho⟩ => ?_
  rcases hv.2 with ⟨rfl, h0⟩ | ⟨g, cap, cur, rfl, hb, hg, hcap, _⟩
  · omega
  · refine ⟨g, cap, cur, he, hcap, ⟨F, h1.keep ho (fun _ _ hn => hn), h2.also ho, h3, fun x hx => ?_⟩, fun j hj => ?_⟩
    · rcases List.mem_cons.1 hx with rfl | hx
      · exact ⟨hg, fun hf => by have h5 := h1.lt _ hf; have h6 : w.heap.size ≤ g := hb; exact absurd h5 (by show ¬ g < _; omega)⟩
      · exact ⟨(h4 x hx).1.to (ho.block _ (h4 x hx).1.lt (fun h => h)), (h4 x hx).2⟩
    · have hc := hv.cells (g := g) rfl j _ (getElem_u64s C j hj)
      rw [add_addr, Nat.zero_add] at hc
      have hB : Blk w' g 23 cur := hg
      rw [hB.cell] at hc
      exact hc
theorem lkE_ok (n E base N s : Nat) (hs : s ≤ 2) (h1 : 1 ≤ N) (h2 : base + N ≤ n) (h3 : N ≤ 200) (hE : E ≤ 100000) : lkE n E base N s = 0 := by
  have m1 : 0 ≤ (s : Int) * (N : Int) := Int.mul_nonneg (by omega) (by omega)
  have m2 : (s : Int) * (N : Int) ≤ 2 * N := Int.mul_le_mul_of_nonneg_right (by omega) (by omega)
  unfold lkE
  rw [if_neg (by omega), if_pos (by unfold hasE; rw [if_neg (by omega)])]
  unfold roomE
  rw [if_neg (by omega), if_neg (by omega)]
theorem ofM_isM (b : Bool) : isM (msk b) = true := by cases b <;> decide
theorem chE_ok (n E base N : Nat) (b : Bool) (h1 : 1 ≤ N) (h2 : base + N ≤ n) (h3 : N ≤ 200) (hE : E ≤ 100000) : chE n E base N (msk b) = 0 := by
  unfold chE
  rw [if_pos (by omega), if_pos (ofM_isM b)]
  exact lkE_ok n E base N 2 (by decide) h1 h2 h3 hE
theorem eqM_ofNat (i j : Nat) (hi : i < 18446744073709551616) (hj : j < 18446744073709551616) : eqM (BitVec.ofNat 64 i) (BitVec.ofNat 64 j) = msk (decide (i = j)) := by
  unfold eqM
  congr 1
  rw [Bool.eq_iff_iff]
  simp only [decide_eq_true_eq]
  constructor
  · intro h
    have := congrArg BitVec.toNat h
    rw [BitVec.toNat_ofNat, BitVec.toNat_ofNat, Nat.mod_eq_of_lt hi, Nat.mod_eq_of_lt hj] at this
    exact this
  · intro h; rw [h]
/-- A change with a mask of a bit, at each place. -/
theorem chS_at (val : BitVec 64 → BitVec 64) (b : Bool) (j base N n : Nat) (C : List (BitVec 64)) (E : List Ev) (hl : C.length = n) (hj : j < 18446744073709551616) (h2 : base + N ≤ n) (h3 : N ≤ 200) (i : Nat) (hi : i < n) :
    cl (chS val (BitVec.ofNat 64 j) (msk b) base C E N).1 i = if b = true ∧ base ≤ i ∧ i < base + N ∧ i - base = j then val (cl C i) else cl C i := by
  by_cases h : base ≤ i ∧ i < base + N
  · obtain ⟨d, rfl⟩ : ∃ d, i = base + d := ⟨i - base, by omega⟩
    rw [chS_in _ _ _ _ _ _ _ _ (by omega) (by omega), eqM_ofNat _ _ (by omega) hj, msk_and, sel_msk]
    by_cases hb : b = true
    · by_cases hd : d = j
      · rw [hb, decide_eq_true hd, if_pos (by rfl), if_pos ⟨rfl, by omega, by omega, by omega⟩]
      · rw [hb, decide_eq_false hd, if_neg (by decide), if_neg (fun h => hd (by omega))]
    · rw [Bool.not_eq_true] at hb
      rw [hb, Bool.false_and, if_neg (by decide), if_neg (fun h => by cases h.1)]
  · rw [chS_out _ _ _ _ _ _ _ _ (by omega), if_neg (fun hh => h ⟨hh.2.1, hh.2.2.1⟩)]
def geV (C : List (BitVec 64)) (base N j : Nat) : BitVec 64 := if j < N then cl C (base + j) else 0#64
theorem ge_ok (C : List (BitVec 64)) (E : List Ev) (n base N j : Nat) (hl : C.length = n) (hj : j < 18446744073709551616) (h1 : 1 ≤ N) (h2 : base + N ≤ n) (h3 : N ≤ 200) (hE : E.length ≤ 100000) : geR C E base N (BitVec.ofNat 64 j) = ((geV C base N j, 0), (C, ldE base E N)) := by
  unfold geR
  rw [if_pos (by rw [hl]; exact lkE_ok n E.length base N 1 (by decide) h1 h2 h3 hE), BitVec.toNat_ofNat, Nat.mod_eq_of_lt hj]
  rfl
theorem table_facts (b : Bool) (X : List (BitVec 64)) (n base N j : Nat) (V : BitVec 64) (hl : X.length = n) (hn : n ≤ 200) (hj : j < 18446744073709551616) (h1 : 1 ≤ N) (h2 : base + N ≤ n) :
    ∃ C1 E1 E2 C3 E3 E4 lv, C1.length = n ∧ chE X.length (stores n).length base N (msk b) = 0 ∧ chR (fun _ => V) X (stores n) base N (BitVec.ofNat 64 j) (msk b) = (C1, E1) ∧ (∀ i, i < n → cl C1 i = if b = true ∧ base ≤ i ∧ i < base + N ∧ i - base = j then V else cl X i) ∧
      geR C1 E1 base N (BitVec.ofNat 64 j) = ((geV C1 base N j, 0), (C1, E2)) ∧ chE C1.length E2.length base N (msk b) = 0 ∧ chR (fun x => x + -V) C1 E2 base N (BitVec.ofNat 64 j) (msk b) = (C3, E3) ∧ geR C3 E3 base N (BitVec.ofNat 64 j) = ((lv, 0), (C3, E4)) ∧ (b = true → j < N → lv = 0#64) := by
  have hs : (stores n).length = n := length_stores n
  have a1 := chS_len (fun _ => V) (BitVec.ofNat 64 j) (msk b) base X (stores n) N
  have a2 : (ldE base (chS (fun _ => V) (BitVec.ofNat 64 j) (msk b) base X (stores n) N).2 N).length ≤ 90000 := by rw [length_ldE, a1.2, hs]; omega
  have a3 := chS_len (fun x => x + -V) (BitVec.ofNat 64 j) (msk b) base (chS (fun _ => V) (BitVec.ofNat 64 j) (msk b) base X (stores n) N).1 (ldE base (chS (fun _ => V) (BitVec.ofNat 64 j) (msk b) base X (stores n) N).2 N) N
  have e1 : chE X.length (stores n).length base N (msk b) = 0 := by rw [hl, hs]; exact chE_ok n n base N b h1 h2 (by omega) (by omega)
  have e2 : chE (chS (fun _ => V) (BitVec.ofNat 64 j) (msk b) base X (stores n) N).1.length (ldE base (chS (fun _ => V) (BitVec.ofNat 64 j) (msk b) base X (stores n) N).2 N).length base N (msk b) = 0 := by rw [a1.1, hl]; exact chE_ok _ _ base N b h1 h2 (by omega) (by omega)
  refine ⟨(chS (fun _ => V) (BitVec.ofNat 64 j) (msk b) base X (stores n) N).1, (chS (fun _ => V) (BitVec.ofNat 64 j) (msk b) base X (stores n) N).2, ldE base (chS (fun _ => V) (BitVec.ofNat 64 j) (msk b) base X (stores n) N).2 N, _, _, _, _, a1.1.trans hl, e1, by unfold chR; rw [if_pos e1]; rfl, fun i hi => ?_, ge_ok _ _ n base N j (a1.1.trans hl) hj h1 h2 (by omega) (by rw [a1.2, hs]; omega), e2, (by unfold chR; rw [if_pos e2]; exact Prod.ext rfl rfl : _ = ((chS (fun x => x + -V) (BitVec.ofNat 64 j) (msk b) base (chS (fun _ => V) (BitVec.ofNat 64 j) (msk b) base X (stores n) N).1 (ldE base (chS (fun _ => V) (BitVec.ofNat 64 j) (msk b) base X (stores n) N).2 N) N).1, (chS (fun x => x + -V) (BitVec.ofNat 64 j) (msk b) base (chS (fun _ => V) (BitVec.ofNat 64 j) (msk b) base X (stores n) N).1 (ldE base (chS (fun _ => V) (BitVec.ofNat 64 j) (msk b) base X (stores n) N).2 N) N).2)), ge_ok _ _ n base N j (by rw [a3.1, a1.1, hl]) hj h1 h2 (by omega) (by rw [a3.2]; omega), fun hb hjN => ?_⟩
  · exact chS_at (fun _ => V) b j base N n X (stores n) hl hj h2 (by omega) i hi
  · unfold geV
    rw [if_pos hjN, chS_at (fun x => x + -V) b j base N n _ _ (a1.1.trans hl) hj h2 (by omega) (base + j) (by omega), if_pos ⟨hb, by omega, by omega, by omega⟩,
      chS_at (fun _ => V) b j base N n X (stores n) hl hj h2 (by omega) (base + j) (by omega), if_pos ⟨hb, by omega, by omega, by omega⟩]
    show V + -V = 0#64
    rw [← BitVec.sub_eq_add_neg, BitVec.sub_self]
theorem table_true (A : Option Addr) (n c : Nat) (base N many : Int) (j m v : Int) (w : World) (h0 : 0 ≤ base) (h1 : 1 ≤ N) (h2 : base ≤ n) (h3 : N ≤ n - base) (hn : n ≤ 200) :
    Calls Try.prog 13 #[.slice A n c, .agg #[.int .i64 base, .int .i64 N, .int .i64 many, .int .u64 j, .int .u64 m, .int .u64 v]] w (BoolNew true w) := by
  have d1 : decide (0 ≤ base) = true := decide_eq_true h0
  have d2 : decide (1 ≤ N) = true := decide_eq_true h1
  have d3 : decide (base ≤ (n : Int)) = true := decide_eq_true h2
  have d4 : decide (N ≤ (n : Int) - base) = true := decide_eq_true h3
  go_enter Try.func13, Try.ntmps13
  go_wp2
  go_ret
  exact ⟨rfl, Off.alloc (Off.refl _ _) _⟩
theorem table_false (A : Option Addr) (n c : Nat) (base N many : Int) (j m v : Int) (w : World) (hb : ¬ (0 ≤ base ∧ 1 ≤ N ∧ base ≤ n ∧ N ≤ n - base)) (hn : n ≤ 200) :
    Calls Try.prog 13 #[.slice A n c, .agg #[.int .i64 base, .int .i64 N, .int .i64 many, .int .u64 j, .int .u64 m, .int .u64 v]] w (BoolNew false w) := by
  by_cases h0 : 0 ≤ base
  · by_cases h1 : 1 ≤ N
    · by_cases h2 : base ≤ n
      · have h3 : ¬ N ≤ n - base := fun h => hb ⟨h0, h1, h2, h⟩
        have d1 : decide (0 ≤ base) = true := decide_eq_true h0
        have d2 : decide (1 ≤ N) = true := decide_eq_true h1
        have d3 : decide (base ≤ (n : Int)) = true := decide_eq_true h2
        have d4 : decide (N ≤ (n : Int) - base) = false := decide_eq_false h3
        clear hb
        go_enter Try.func13, Try.ntmps13
        go_wp2
        go_ret
        exact ⟨rfl, Off.alloc (Off.refl _ _) _⟩
      · have d1 : decide (0 ≤ base) = true := decide_eq_true h0
        have d2 : decide (1 ≤ N) = true := decide_eq_true h1
        have d3 : decide (base ≤ (n : Int)) = false := decide_eq_false h2
        clear hb
        go_enter Try.func13, Try.ntmps13
        go_wp2
        go_ret
        exact ⟨rfl, Off.alloc (Off.refl _ _) _⟩
    · have d1 : decide (0 ≤ base) = true := decide_eq_true h0
      have d2 : decide (1 ≤ N) = false := decide_eq_false h1
      clear hb
      go_enter Try.func13, Try.ntmps13
      go_wp2
      go_ret
      exact ⟨rfl, Off.alloc (Off.refl _ _) _⟩
  · have d1 : decide (0 ≤ base) = false := decide_eq_false h0
    clear hb
    go_enter Try.func13, Try.ntmps13
    go_wp2
    go_ret
    exact ⟨rfl, Off.alloc (Off.refl _ _) _⟩
theorem tb_cells {w0 w : World} {bs : Bks} {p s : Nat} {C : List (BitVec 64)} {E : List Ev} {a b c d e f : Value} (h : One w0 w bs p C E) (hm : (s, 25, #[a, b, c, d, e, f]) ∈ bs) :
    w.cell? ⟨s, 0, none⟩ = some a ∧ w.cell? ⟨s, 1, none⟩ = some b ∧ w.cell? ⟨s, 2, none⟩ = some c ∧ w.cell? ⟨s, 3, none⟩ = some d ∧ w.cell? ⟨s, 4, none⟩ = some e ∧ w.cell? ⟨s, 5, none⟩ = some f := by
  have h1 := h.blk hm
  exact ⟨h1.cell 0, h1.cell 1, h1.cell 2, h1.cell 3, h1.cell 4, h1.cell 5⟩
theorem add_at {w0 w : World} {bs : Bks} {p : Nat} {C C' : List (BitVec 64)} {E E' : List Ev} (h : One w0 w bs p C E) (base n : Int) (idx m v : BitVec 64) (c : Int) (he : chE C.length E.length base n m = c) (hr : chR (fun x => x + v) C E base n idx m = (C', E')) :
    Calls Try.prog 17 #[.pointer (some ⟨p, 0, none⟩), .int .i64 base, .int .i64 n, .int .u64 (n64 idx), .int .u64 (n64 m), .int .u64 (n64 v)] w fun e w' => e = .returned (.int .i64 c) ∧ One w0 w' bs p C' E' :=
  h.call fun w F ha => by have := ladd_any ha base n idx m v; rw [hr, he] at this; exact this
theorem n64_bvN (N : Nat) (h : N < 18446744073709551616) : n64 (bv (N : Int)) = (N : Int) := by rw [show bv (N : Int) = BitVec.ofNat 64 N from BitVec.ofInt_natCast ..]; exact n64_nat N h
set_option maxHeartbeats 4000000 in
theorem table_T {w : World} {n : Nat} {A : Option Addr} {c : Nat} {X : List (BitVec 64)} (h : Rd w (Old w) 1 (.slice A n c) n (u64s X)) (hn : n ≤ 200) (base N j : Nat) (many : Int) (M V : BitVec 64) (hM : ofM M = msk true) (hj : j < 18446744073709551616) (h1 : 1 ≤ N) (h2 : base + N ≤ n) :
    Calls Try.prog 4 #[.slice A n c, .agg #[.int .i64 (base : Int), .int .i64 (N : Int), .int .i64 many, .int .u64 (j : Int), .int .u64 (n64 M), .int .u64 (n64 V)]] w (BoolNew true w) := by
  have hl : X.length = n := by obtain ⟨_, _, _, _, hl, _⟩ := h; rw [length_u64s] at hl; omega
  have H0 := Lib.hid h
  obtain ⟨A', c', hA', _, hc⟩ := h.form
  obtain ⟨b, o, hA, hb, hx⟩ := hc (by omega)
  injection hA' with hA1 hA2 hA3
  subst hA1 hA3
  subst hA
  have HC : Hid (∀ j, j < n → w.cell? ⟨b, o + j, none⟩ = some (.int .u64 (n64 (cl X j)))) := Lib.hid (fun j hj => hx j _ (getElem_u64s X j (by omega)))
  obtain ⟨C1, E1, E2, C3, E3, E4, lv, f0, f1, f2, f3, f5, f6, f7, f8, f9⟩ := table_facts true X n base N j V hl hn hj h1 h2
  have F0 := Lib.hid f0
  have F1 := Lib.hid f1
  have F2 := Lib.hid f2
  have F3 := Lib.hid f3
  have F5 := Lib.hid f5
  have F6 := Lib.hid f6
  have F7 := Lib.hid f7
  have F8 := Lib.hid f8
  have F9 := Lib.hid f9
  have HJ := Lib.hid (n64_nat j hj)
  have HM := Lib.hid hM
  have HM2 : Hid (n64 (msk true) = 18446744073709551615) := Lib.hid (by decide)
  have hd0 : decide (200 < (n : Int)) = false := by simp; omega
  have HPX : Hid (pad X = X) := Lib.hid (by unfold pad; rw [if_neg (by intro h; rw [h] at hl; simp at hl; omega)])
  have HL := Lib.hid hl
  have HT := Lib.hid (table_true (some ⟨b, o, none⟩) n c base N many j (n64 M) (n64 V) (w.alloc (.cells #[.int .i64 (base : Int), .int .i64 (N : Int), .int .i64 many, .int .u64 (j : Int), .int .u64 (n64 M), .int .u64 (n64 V)] 25)) (by omega) (by omega) (by omega) (by omega) hn)
  have hNN : n64 (bv (N : Int)) = (N : Int) := n64_bvN N (by omega)
  clear h hc hx f0 f1 f2 f3 f5 f6 f7 f8 f9 hM hl
  go_enter Try.func4, Try.ntmps4
  go_wp2_with fail
  refine HT.out.mono ?_
  rintro e w1 ⟨rfl, o1⟩
  have O1 := Lib.hid o1
  have HX1 := Lib.hid (H0.out.keep ((Off.alloc (Off.refl Nob w) _).also o1) (fun _ _ h => h))
  clear o1 HT
  go_wp2_with fail
  refine (arena_any HX1.out (by rw [HL.out]; omega)).mono ?_
  rintro e w2 h2'
  obtain ⟨p, r, rfl, u2⟩ := h2'.one (w0 := w) (bs := [(w.heap.size, 25, #[.int .i64 (base : Int), .int .i64 (N : Int), .int .i64 many, .int .u64 (j : Int), .int .u64 (n64 M), .int .u64 (n64 V)])]) ((Off.alloc (Off.refl _ _) _).also O1.out) (fun x hx => by
    rw [List.mem_singleton] at hx
    subst hx
    exact (Blk.new _ _ _).to (O1.out.block _ (by simp) (fun h => h)))
  rw [HPX.out, HL.out] at u2
  obtain ⟨k0, k1, k2, k3, k4, k5⟩ := tb_cells u2 (List.mem_cons_self ..)
  have U2 := Lib.hid u2
  clear h2' u2 HX1 O1
  go_wp2_with fail
  refine Calls.mono (R := fun e w' => e = .returned (.int .u64 18446744073709551615) ∧ w2 = w') (by have := rof_any M w2; rwa [HM.out, HM2.out] at this) ?_
  rintro e w' ⟨rfl, rfl⟩
  go_wp2_with fail
  refine Calls.mono (R := fun e w' => e = .returned (.int .i64 0) ∧ One w w' _ p C1 E1) (by have := put_at U2.out base N (BitVec.ofNat 64 j) (msk true) V _ F1.out F2.out; rw [HJ.out, HM2.out] at this; exact this) ?_
  rintro e w3 ⟨rfl, u3⟩
  have U3 := Lib.hid u3
  clear u3 U2 k0 k1 k2 k3 k4 k5
  go_wp2_with fail
  refine (cells_one U3.out n F0.out (by omega)).mono ?_
  rintro e w4 ⟨b2, q2, cur, rfl, hq2, u4, hcur⟩
  have U4 := Lib.hid u4
  have Hcur := Lib.hid hcur
  clear u4 hcur U3
  go_wp2_with fail
  go_loopw [10] (fun i wr => ∃ k : Nat, k ≤ n ∧ i = .int .i64 k ∧ Off Nob w4 wr) (fun i _ => n - (intOf i).toNat)
  case atStart => exact ⟨0, Nat.zero_le _, rfl, Off.refl _ _⟩
  case round =>
    obtain ⟨k, hk, rfl, hoff⟩ := hrel
    have HO := Lib.hid hoff
    have HW1 := U4.out.off hoff
    obtain ⟨k0, k1, k2, k3, k4, k5⟩ := tb_cells HW1 (List.mem_cons_of_mem _ (List.mem_cons_self ..))
    by_cases hlt : k < n
    · have hB := U4.out.blk (List.mem_cons_self ..)
      have hwant := F3.out k hlt
      have hc0 : wr.cell? ⟨b, o + k, none⟩ = some (.int .u64 (n64 (cl X k))) := ((U4.out.old.also hoff).cell_old hb _).trans (HC.out k hlt)
      by_cases q1 : base ≤ k
      · have t1 : decide ((base : Int) ≤ (k : Int)) = true := decide_eq_true (by omega)
        have t1' : decide (base ≤ k) = true := decide_eq_true q1
        by_cases q2 : k < base + N
        · have t2 : decide ((k : Int) < (base : Int) + (N : Int)) = true := decide_eq_true (by omega)
          have t2' : decide (k < base + N) = true := decide_eq_true q2
          obtain ⟨d, hd⟩ : ∃ d, k = base + d := ⟨k - base, by omega⟩
          have hkb : n64 (bv ((k : Int) - (base : Int))) = (d : Int) := by rw [show (k : Int) - (base : Int) = (d : Int) by omega]; exact n64_bvN d (by omega)
          have hkb2 : n64 (bv (k : Int) - bv (base : Int)) = (d : Int) := by rw [← bv_sub]; exact hkb
          by_cases q3 : d = j
          · have t3 : ((d : Int) == (j : Int)) = true := by rw [beq_iff_eq]; omega
            have t3' : (d == j) = true := by rw [beq_iff_eq]; exact q3
            have t3'' : (d : Int) = (j : Int) := by omega
            have hcl : wr.cell? ⟨b2, k, none⟩ = some (.int .u64 (n64 V)) := by rw [hoff.cell_old hB.lt, hB.cell, Hcur.out _ hlt, hwant, if_pos ⟨trivial, by omega, by omega, by omega⟩]
            clear hd t3 t3' t3''
            subst q3
            clear hoff hB hwant HW1
            go_wp2_with fail
            go_roundw
            case rel => exact ⟨k + 1, by omega, by go_num, HO.out⟩
            case measure => simp [intOf]; omega
          · have t3 : ((d : Int) == (j : Int)) = false := by rw [beq_eq_false_iff_ne]; omega
            have t3' : (d == j) = false := by rw [beq_eq_false_iff_ne]; exact q3
            have hcl : wr.cell? ⟨b2, k, none⟩ = some (.int .u64 (n64 (cl X k))) := by rw [hoff.cell_old hB.lt, hB.cell, Hcur.out _ hlt, hwant, if_neg (by omega)]
            have q4 : ¬ (d : Int) = (j : Int) := by omega
            have q5 : decide (d = j) = false := decide_eq_false q3
            clear hd
            clear hoff hB hwant HW1
            go_wp2_with fail
            go_roundw
            case rel => exact ⟨k + 1, by omega, by go_num, HO.out⟩
            case measure => simp [intOf]; omega
        · have t2 : decide ((k : Int) < (base : Int) + (N : Int)) = false := decide_eq_false (by omega)
          have t2' : decide (k < base + N) = false := decide_eq_false q2
          have hcl : wr.cell? ⟨b2, k, none⟩ = some (.int .u64 (n64 (cl X k))) := by rw [hoff.cell_old hB.lt, hB.cell, Hcur.out _ hlt, hwant, if_neg (by omega)]
          clear hoff hB hwant HW1
          go_wp2_with fail
          go_roundw
          case rel => exact ⟨k + 1, by omega, by go_num, HO.out⟩
          case measure => simp [intOf]; omega
      · have t1 : decide ((base : Int) ≤ (k : Int)) = false := decide_eq_false (by omega)
        have t1' : decide (base ≤ k) = false := decide_eq_false q1
        have hcl : wr.cell? ⟨b2, k, none⟩ = some (.int .u64 (n64 (cl X k))) := by rw [hoff.cell_old hB.lt, hB.cell, Hcur.out _ hlt, hwant, if_neg (by omega)]
        clear hoff hB hwant HW1
        go_wp2_with fail
        go_roundw
        case rel => exact ⟨k + 1, by omega, by go_num, HO.out⟩
        case measure => simp [intOf]; omega
    · obtain rfl : n = k := by omega
      have U5' := Lib.hid HW1
      have hB := HW1.blk (List.mem_cons_self ..)
      have HBC : Hid (∀ i, i < n → wr.cell? ⟨b2, i, none⟩ = some (.int .u64 (n64 (cl C1 i)))) := Lib.hid (fun i hi => by rw [hB.cell, Hcur.out _ hi])
      clear hoff HW1 hB
      go_wp2_with fail
      refine Calls.mono (R := fun e w' => e = .returned (.tuple #[.int .u64 (n64 (geV C1 base N j)), .int .i64 0]) ∧ One w w' _ p C1 E2) (by have := get_at U5'.out base N (BitVec.ofNat 64 j) _ _ F5.out; rw [HJ.out] at this; exact this) ?_
      rintro e w5 ⟨rfl, u5⟩
      obtain ⟨k0, k1, k2, k3, k4, k5⟩ := tb_cells u5 (List.mem_cons_of_mem _ (List.mem_cons_self ..))
      have U5 := Lib.hid u5
      have hB := u5.blk (List.mem_cons_self ..)
      by_cases hjN : j < N
      · have t1 : decide ((N : Int) ≤ (j : Int)) = false := decide_eq_false (by omega)
        have t1' : decide (N ≤ j) = false := decide_eq_false (by omega)
        have t2 : decide ((j : Int) < (N : Int)) = true := decide_eq_true (by omega)
        have t2' : decide (j < N) = true := decide_eq_true hjN
        have hcl : w5.cell? ⟨b2, base + j, none⟩ = some (.int .u64 (n64 (geV C1 base N j))) := by rw [hB.cell, Hcur.out _ (by omega)]; unfold geV; rw [if_pos hjN]
        clear u5 hB U5'
        go_wp2_with fail
        refine Calls.mono (R := fun e w' => e = .returned (.int .i64 0) ∧ One w w' _ p C3 E3) (by have := add_at U5.out base N (BitVec.ofNat 64 j) (msk true) (-V) _ F6.out F7.out; rw [HJ.out, HM2.out] at this; exact this) ?_
        rintro e w6 ⟨rfl, u6⟩
        obtain ⟨k0, k1, k2, k3, k4, k5⟩ := tb_cells u6 (List.mem_cons_of_mem _ (List.mem_cons_self ..))
        have U6 := Lib.hid u6
        clear u6 U5
        go_wp2_with fail
        refine Calls.mono (R := fun e w' => e = .returned (.tuple #[.int .u64 (n64 lv), .int .i64 0]) ∧ One w w' _ p C3 E4) (by have := get_at U6.out base N (BitVec.ofNat 64 j) _ _ F8.out; rw [HJ.out] at this; exact this) ?_
        rintro e w7 ⟨rfl, u7⟩
        obtain ⟨k0, k1, k2, k3, k4, k5⟩ := tb_cells u7 (List.mem_cons_of_mem _ (List.mem_cons_self ..))
        have U7 := Lib.hid u7
        clear u7 U6
        have hlv := F9.out trivial hjN
        subst hlv
        have hz0 : n64 0#64 = 0 := by decide
        go_wp2_with fail
        refine (awake_ok _).mono ?_
        rintro e w9 ⟨rfl, o9⟩
        have O9 := Lib.hid (U7.out.old.also o9)
        clear o9
        go_wp2
        go_ret
        exact ⟨ret_bool (by simp), O9.out⟩
      · have t1 : decide ((N : Int) ≤ (j : Int)) = true := decide_eq_true (by omega)
        have t1' : decide (N ≤ j) = true := decide_eq_true (by omega)
        have t2 : decide ((j : Int) < (N : Int)) = false := decide_eq_false (by omega)
        have t2' : decide (j < N) = false := decide_eq_false hjN
        have hgv : n64 (geV C1 base N j) = 0 := by unfold geV; rw [if_neg hjN]; decide
        clear u5 hB U5'
        go_wp2_with fail
        refine Calls.mono (R := fun e w' => e = .returned (.int .i64 0) ∧ One w w' _ p C3 E3) (by have := add_at U5.out base N (BitVec.ofNat 64 j) (msk true) (-V) _ F6.out F7.out; rw [HJ.out, HM2.out] at this; exact this) ?_
        rintro e w6 ⟨rfl, u6⟩
        obtain ⟨k0, k1, k2, k3, k4, k5⟩ := tb_cells u6 (List.mem_cons_of_mem _ (List.mem_cons_self ..))
        have U6 := Lib.hid u6
        clear u6 U5
        go_wp2_with fail
        refine Calls.mono (R := fun e w' => e = .returned (.tuple #[.int .u64 (n64 lv), .int .i64 0]) ∧ One w w' _ p C3 E4) (by have := get_at U6.out base N (BitVec.ofNat 64 j) _ _ F8.out; rw [HJ.out] at this; exact this) ?_
        rintro e w7 ⟨rfl, u7⟩
        obtain ⟨k0, k1, k2, k3, k4, k5⟩ := tb_cells u7 (List.mem_cons_of_mem _ (List.mem_cons_self ..))
        have U7 := Lib.hid u7
        clear u7 U6
        go_wp2_with fail
        refine (awake_ok _).mono ?_
        rintro e w9 ⟨rfl, o9⟩
        have O9 := Lib.hid (U7.out.old.also o9)
        clear o9
        go_wp2
        go_ret
        exact ⟨ret_bool (by simp), O9.out⟩
set_option maxHeartbeats 4000000 in
theorem table_F {w : World} {n : Nat} {A : Option Addr} {c : Nat} {X : List (BitVec 64)} (h : Rd w (Old w) 1 (.slice A n c) n (u64s X)) (hn : n ≤ 200) (base N j : Nat) (many : Int) (M V : BitVec 64) (hM : ofM M = msk false) (hj : j < 18446744073709551616) (h1 : 1 ≤ N) (h2 : base + N ≤ n) :
    Calls Try.prog 4 #[.slice A n c, .agg #[.int .i64 (base : Int), .int .i64 (N : Int), .int .i64 many, .int .u64 (j : Int), .int .u64 (n64 M), .int .u64 (n64 V)]] w (BoolNew true w) := by
  have hl : X.length = n := by obtain ⟨_, _, _, _, hl, _⟩ := h; rw [length_u64s] at hl; omega
  have H0 := Lib.hid h
  obtain ⟨A', c', hA', _, hc⟩ := h.form
  obtain ⟨b, o, hA, hb, hx⟩ := hc (by omega)
  injection hA' with hA1 hA2 hA3
  subst hA1 hA3
  subst hA
  have HC : Hid (∀ j, j < n → w.cell? ⟨b, o + j, none⟩ = some (.int .u64 (n64 (cl X j)))) := Lib.hid (fun j hj => hx j _ (getElem_u64s X j (by omega)))
  obtain ⟨C1, E1, E2, C3, E3, E4, lv, f0, f1, f2, f3, f5, f6, f7, f8, f9⟩ := table_facts false X n base N j V hl hn hj h1 h2
  have F0 := Lib.hid f0
  have F1 := Lib.hid f1
  have F2 := Lib.hid f2
  have F3 := Lib.hid f3
  have F5 := Lib.hid f5
  have F6 := Lib.hid f6
  have F7 := Lib.hid f7
  have F8 := Lib.hid f8
  have F9 := Lib.hid f9
  have HJ := Lib.hid (n64_nat j hj)
  have HM := Lib.hid hM
  have HM2 : Hid (n64 (msk false) = 0) := Lib.hid (by decide)
  have hd0 : decide (200 < (n : Int)) = false := by simp; omega
  have HPX : Hid (pad X = X) := Lib.hid (by unfold pad; rw [if_neg (by intro h; rw [h] at hl; simp at hl; omega)])
  have HL := Lib.hid hl
  have HT := Lib.hid (table_true (some ⟨b, o, none⟩) n c base N many j (n64 M) (n64 V) (w.alloc (.cells #[.int .i64 (base : Int), .int .i64 (N : Int), .int .i64 many, .int .u64 (j : Int), .int .u64 (n64 M), .int .u64 (n64 V)] 25)) (by omega) (by omega) (by omega) (by omega) hn)
  have hNN : n64 (bv (N : Int)) = (N : Int) := n64_bvN N (by omega)
  clear h hc hx f0 f1 f2 f3 f5 f6 f7 f8 f9 hM hl
  go_enter Try.func4, Try.ntmps4
  go_wp2_with fail
  refine HT.out.mono ?_
  rintro e w1 ⟨rfl, o1⟩
  have O1 := Lib.hid o1
  have HX1 := Lib.hid (H0.out.keep ((Off.alloc (Off.refl Nob w) _).also o1) (fun _ _ h => h))
  clear o1 HT
  go_wp2_with fail
  refine (arena_any HX1.out (by rw [HL.out]; omega)).mono ?_
  rintro e w2 h2'
  obtain ⟨p, r, rfl, u2⟩ := h2'.one (w0 := w) (bs := [(w.heap.size, 25, #[.int .i64 (base : Int), .int .i64 (N : Int), .int .i64 many, .int .u64 (j : Int), .int .u64 (n64 M), .int .u64 (n64 V)])]) ((Off.alloc (Off.refl _ _) _).also O1.out) (fun x hx => by
    rw [List.mem_singleton] at hx
    subst hx
    exact (Blk.new _ _ _).to (O1.out.block _ (by simp) (fun h => h)))
  rw [HPX.out, HL.out] at u2
  obtain ⟨k0, k1, k2, k3, k4, k5⟩ := tb_cells u2 (List.mem_cons_self ..)
  have U2 := Lib.hid u2
  clear h2' u2 HX1 O1
  go_wp2_with fail
  refine Calls.mono (R := fun e w' => e = .returned (.int .u64 0) ∧ w2 = w') (by have := rof_any M w2; rwa [HM.out, HM2.out] at this) ?_
  rintro e w' ⟨rfl, rfl⟩
  go_wp2_with fail
  refine Calls.mono (R := fun e w' => e = .returned (.int .i64 0) ∧ One w w' _ p C1 E1) (by have := put_at U2.out base N (BitVec.ofNat 64 j) (msk false) V _ F1.out F2.out; rw [HJ.out, HM2.out] at this; exact this) ?_
  rintro e w3 ⟨rfl, u3⟩
  have U3 := Lib.hid u3
  clear u3 U2 k0 k1 k2 k3 k4 k5
  go_wp2_with fail
  refine (cells_one U3.out n F0.out (by omega)).mono ?_
  rintro e w4 ⟨b2, q2, cur, rfl, hq2, u4, hcur⟩
  have U4 := Lib.hid u4
  have Hcur := Lib.hid hcur
  clear u4 hcur U3
  go_wp2_with fail
  go_loopw [10] (fun i wr => ∃ k : Nat, k ≤ n ∧ i = .int .i64 k ∧ Off Nob w4 wr) (fun i _ => n - (intOf i).toNat)
  case atStart => exact ⟨0, Nat.zero_le _, rfl, Off.refl _ _⟩
  case round =>
    obtain ⟨k, hk, rfl, hoff⟩ := hrel
    have HO := Lib.hid hoff
    have HW1 := U4.out.off hoff
    obtain ⟨k0, k1, k2, k3, k4, k5⟩ := tb_cells HW1 (List.mem_cons_of_mem _ (List.mem_cons_self ..))
    by_cases hlt : k < n
    · have hB := U4.out.blk (List.mem_cons_self ..)
      have hwant := F3.out k hlt
      have hc0 : wr.cell? ⟨b, o + k, none⟩ = some (.int .u64 (n64 (cl X k))) := ((U4.out.old.also hoff).cell_old hb _).trans (HC.out k hlt)
      have hcl : wr.cell? ⟨b2, k, none⟩ = some (.int .u64 (n64 (cl X k))) := by rw [hoff.cell_old hB.lt, hB.cell, Hcur.out _ hlt, hwant, if_neg (fun h => by cases h.1)]
      clear hoff hB hwant HW1
      go_wp2_with fail
      go_roundw
      case rel => exact ⟨k + 1, by omega, by go_num, HO.out⟩
      case measure => simp [intOf]; omega
    · obtain rfl : n = k := by omega
      have U5' := Lib.hid HW1
      have hB := HW1.blk (List.mem_cons_self ..)
      have HBC : Hid (∀ i, i < n → wr.cell? ⟨b2, i, none⟩ = some (.int .u64 (n64 (cl C1 i)))) := Lib.hid (fun i hi => by rw [hB.cell, Hcur.out _ hi])
      clear hoff HW1 hB
      go_wp2_with fail
      refine Calls.mono (R := fun e w' => e = .returned (.tuple #[.int .u64 (n64 (geV C1 base N j)), .int .i64 0]) ∧ One w w' _ p C1 E2) (by have := get_at U5'.out base N (BitVec.ofNat 64 j) _ _ F5.out; rw [HJ.out] at this; exact this) ?_
      rintro e w5 ⟨rfl, u5⟩
      obtain ⟨k0, k1, k2, k3, k4, k5⟩ := tb_cells u5 (List.mem_cons_of_mem _ (List.mem_cons_self ..))
      have U5 := Lib.hid u5
      have hB := u5.blk (List.mem_cons_self ..)
      by_cases hjN : j < N
      · have t1 : decide ((N : Int) ≤ (j : Int)) = false := decide_eq_false (by omega)
        have t1' : decide (N ≤ j) = false := decide_eq_false (by omega)
        have t2 : decide ((j : Int) < (N : Int)) = true := decide_eq_true (by omega)
        have t2' : decide (j < N) = true := decide_eq_true hjN
        have hcl : w5.cell? ⟨b2, base + j, none⟩ = some (.int .u64 (n64 (geV C1 base N j))) := by rw [hB.cell, Hcur.out _ (by omega)]; unfold geV; rw [if_pos hjN]
        clear u5 hB U5'
        go_wp2_with fail
        refine Calls.mono (R := fun e w' => e = .returned (.int .i64 0) ∧ One w w' _ p C3 E3) (by have := add_at U5.out base N (BitVec.ofNat 64 j) (msk false) (-V) _ F6.out F7.out; rw [HJ.out, HM2.out] at this; exact this) ?_
        rintro e w6 ⟨rfl, u6⟩
        obtain ⟨k0, k1, k2, k3, k4, k5⟩ := tb_cells u6 (List.mem_cons_of_mem _ (List.mem_cons_self ..))
        have U6 := Lib.hid u6
        clear u6 U5
        go_wp2_with fail
        refine Calls.mono (R := fun e w' => e = .returned (.tuple #[.int .u64 (n64 lv), .int .i64 0]) ∧ One w w' _ p C3 E4) (by have := get_at U6.out base N (BitVec.ofNat 64 j) _ _ F8.out; rw [HJ.out] at this; exact this) ?_
        rintro e w7 ⟨rfl, u7⟩
        obtain ⟨k0, k1, k2, k3, k4, k5⟩ := tb_cells u7 (List.mem_cons_of_mem _ (List.mem_cons_self ..))
        have U7 := Lib.hid u7
        clear u7 U6

        go_wp2_with fail
        refine (awake_ok _).mono ?_
        rintro e w9 ⟨rfl, o9⟩
        have O9 := Lib.hid (U7.out.old.also o9)
        clear o9
        go_wp2
        go_ret
        exact ⟨ret_bool (by simp), O9.out⟩
      · have t1 : decide ((N : Int) ≤ (j : Int)) = true := decide_eq_true (by omega)
        have t1' : decide (N ≤ j) = true := decide_eq_true (by omega)
        have t2 : decide ((j : Int) < (N : Int)) = false := decide_eq_false (by omega)
        have t2' : decide (j < N) = false := decide_eq_false hjN
        have hgv : n64 (geV C1 base N j) = 0 := by unfold geV; rw [if_neg hjN]; decide
        clear u5 hB U5'
        go_wp2_with fail
        refine Calls.mono (R := fun e w' => e = .returned (.int .i64 0) ∧ One w w' _ p C3 E3) (by have := add_at U5.out base N (BitVec.ofNat 64 j) (msk false) (-V) _ F6.out F7.out; rw [HJ.out, HM2.out] at this; exact this) ?_
        rintro e w6 ⟨rfl, u6⟩
        obtain ⟨k0, k1, k2, k3, k4, k5⟩ := tb_cells u6 (List.mem_cons_of_mem _ (List.mem_cons_self ..))
        have U6 := Lib.hid u6
        clear u6 U5
        go_wp2_with fail
        refine Calls.mono (R := fun e w' => e = .returned (.tuple #[.int .u64 (n64 lv), .int .i64 0]) ∧ One w w' _ p C3 E4) (by have := get_at U6.out base N (BitVec.ofNat 64 j) _ _ F8.out; rw [HJ.out] at this; exact this) ?_
        rintro e w7 ⟨rfl, u7⟩
        obtain ⟨k0, k1, k2, k3, k4, k5⟩ := tb_cells u7 (List.mem_cons_of_mem _ (List.mem_cons_self ..))
        have U7 := Lib.hid u7
        clear u7 U6
        go_wp2_with fail
        refine (awake_ok _).mono ?_
        rintro e w9 ⟨rfl, o9⟩
        have O9 := Lib.hid (U7.out.old.also o9)
        clear o9
        go_wp2
        go_ret
        exact ⟨ret_bool (by simp), O9.out⟩
theorem table_long {w : World} (A : Option Addr) (n c : Nat) (hn : 200 < n) (b0 : n ≤ maxLen) (base N many j m v : Int) :
    Calls Try.prog 4 #[.slice A n c, .agg #[.int .i64 base, .int .i64 N, .int .i64 many, .int .u64 j, .int .u64 m, .int .u64 v]] w (BoolNew true w) := by
  unfold maxLen at b0
  have hd0 : decide (200 < (n : Int)) = true := by simp; omega
  go_enter Try.func4, Try.ntmps4
  go_wp2_with fail
  refine (awake_ok _).mono ?_
  rintro e w4 ⟨rfl, h4⟩
  have H4 := Lib.hid h4
  clear h4
  go_wp2
  go_ret
  exact ⟨rfl, (Off.alloc (Off.refl _ _) _).also H4.out⟩
theorem table_no {w : World} (A : Option Addr) (n c : Nat) (hn : n ≤ 200) (base N many j m v : Int) (hb : ¬ (0 ≤ base ∧ 1 ≤ N ∧ base ≤ n ∧ N ≤ n - base)) :
    Calls Try.prog 4 #[.slice A n c, .agg #[.int .i64 base, .int .i64 N, .int .i64 many, .int .u64 j, .int .u64 m, .int .u64 v]] w (BoolNew true w) := by
  have hd0 : decide (200 < (n : Int)) = false := by simp; omega
  have HT := Lib.hid (table_false A n c base N many j m v (w.alloc (.cells #[.int .i64 base, .int .i64 N, .int .i64 many, .int .u64 j, .int .u64 m, .int .u64 v] 25)) hb hn)
  clear hb
  go_enter Try.func4, Try.ntmps4
  go_wp2_with fail
  refine HT.out.mono ?_
  rintro e w1 ⟨rfl, o1⟩
  have O1 := Lib.hid o1
  clear o1 HT
  go_wp2_with fail
  refine (awake_ok _).mono ?_
  rintro e w4 ⟨rfl, h4⟩
  have H4 := Lib.hid h4
  clear h4
  go_wp2
  go_ret
  exact ⟨rfl, ((Off.alloc (Off.refl _ _) _).also O1.out).also H4.out⟩
theorem lookupTable_walk {w : World} {v0 : Value} {n : Nat} {X : List (BitVec 64)} (h0 : Rd w (Old w) 1 v0 n (u64s X))
    (l : List Value) (hl : l.length = 6) (hk : ∀ f j κ, kindAt Try.prog f 25 j = some κ → ∃ u, l[j]? = some u ∧ okV κ u) :
    Calls Try.prog 4 #[v0, .agg l.toArray] w (BoolNew true w) := by
  obtain ⟨u0, e0, o0⟩ := hk 4 0 (some .i64) (by kernel_rfl)
  obtain ⟨u1, e1, o1⟩ := hk 4 1 (some .i64) (by kernel_rfl)
  obtain ⟨u2, e2, o2⟩ := hk 4 2 (some .i64) (by kernel_rfl)
  obtain ⟨u3, e3, o3⟩ := hk 4 3 (some .u64) (by kernel_rfl)
  obtain ⟨u4, e4, o4⟩ := hk 4 4 (some .u64) (by kernel_rfl)
  obtain ⟨u5, e5, o5⟩ := hk 4 5 (some .u64) (by kernel_rfl)
  obtain ⟨base, rfl, _⟩ := okV_i64 o0
  obtain ⟨N, rfl, _⟩ := okV_i64 o1
  obtain ⟨many, rfl, _⟩ := okV_i64 o2
  obtain ⟨idx, rfl⟩ := okV_u64 o3
  obtain ⟨M, rfl⟩ := okV_u64 o4
  obtain ⟨V, rfl⟩ := okV_u64 o5
  match l, hl with
  | [a, b, c, d, e, f], _ =>
    simp at e0 e1 e2 e3 e4 e5
    subst e0 e1 e2 e3 e4 e5
    obtain ⟨A0, c0, rfl, m0, _⟩ := h0.form
    by_cases g0 : 200 < n
    · exact table_long _ _ _ g0 m0 _ _ _ _ _ _
    by_cases g1 : 0 ≤ base ∧ 1 ≤ N ∧ base ≤ n ∧ N ≤ n - base
    · obtain ⟨a1, a2, a3, a4⟩ := g1
      obtain ⟨base, rfl⟩ := Int.eq_ofNat_of_zero_le a1
      obtain ⟨N, rfl⟩ := Int.eq_ofNat_of_zero_le (show 0 ≤ N by omega)
      cases hm : decide (M.toNat % 2 = 1) with
      | true => exact table_T h0 (by omega) base N idx.toNat many M V (by unfold ofM; rw [hm]) idx.isLt (by omega) (by omega)
      | false => exact table_F h0 (by omega) base N idx.toNat many M V (by unfold ofM; rw [hm]) idx.isLt (by omega) (by omega)
    · exact table_no _ _ _ (by omega) _ _ _ _ _ _ g1
end Go.Proofs.Ytgdklokoeeokbaa
