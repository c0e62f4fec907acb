/-
  The walk of dragnetlaw09.LookupRows.
-/
import Derived.Test.YtgdklokoeeokbaaLookupTableWalk
namespace Go.Proofs.Ytgdklokoeeokbaa
open Go.RowKit Go.ChangeShapes Go.WideShapes Go.ChangeAt
attribute [local go_sem] bits_and_u64 bits_or_u64 bits_xor_u64 bits_andNot_u64 wrap_u64 bv_add bv_neg bv_sub bv_mul
set_option linter.unusedVariables false
set_option maxRecDepth 100000
theorem fst0_first (V : Nat → BitVec 64) (v : BitVec 64) (n k i : Nat) (hk : k ≤ n) (hi : i < k) : (V i = v → fst0 V v n k ≤ i) ∧ (fst0 V v n k = i → V i = v) := by
  induction k with
  | zero => omega
  | succ k ih =>
    have hl := fst0_le V v n k (by omega)
    have hd : fst0 V v n (k + 1) = if fst0 V v n k = n ∧ v = V k then k else fst0 V v n k := rfl
    rw [hd]
    by_cases hik : i = k
    · subst hik
      by_cases hc : fst0 V v n i = n ∧ v = V i
      · rw [if_pos hc]; exact ⟨fun _ => Nat.le_refl _, fun _ => hc.2.symm⟩
      · rw [if_neg hc]
        constructor
        · intro h
          rcases hl with h1 | h1
          · exact absurd ⟨h1, h.symm⟩ hc
          · omega
        · intro h; rcases hl with h1 | h1 <;> omega
    · have hs := ih (by omega) (by omega)
      by_cases hc : fst0 V v n k = n ∧ v = V k
      · rw [if_pos hc]
        constructor
        · intro h; have := hs.1 h; omega
        · intro h; omega
      · rw [if_neg hc]; exact hs
theorem rwF_eq (V : Nat → BitVec 64) (idx : BitVec 64) (n k j : Nat) (hn : 0 < n) (hj : j < n) (hk : k ≤ 4096) : rwF V idx n k j = if idx.toNat * n + j < k then V (idx.toNat * n + j) else 0#64 := by
  induction k with
  | zero => rfl
  | succ k ih =>
    have hd : rwF V idx n (k + 1) j = if k % n = j then rwF V idx n k j ||| (V k &&& eqM (BitVec.ofNat 64 (k / n)) idx) else rwF V idx n k j := rfl
    have hdm := Nat.div_add_mod k n
    rw [hd, ih (by omega)]
    have hq : k / n ≤ k := Nat.div_le_self _ _
    by_cases hm : k % n = j
    · rw [if_pos hm]
      by_cases he : BitVec.ofNat 64 (k / n) = idx
      · have h2 : idx.toNat = k / n := by rw [← he, BitVec.toNat_ofNat, Nat.mod_eq_of_lt (by omega)]
        have h3 : idx.toNat * n + j = k := by rw [h2, ← hm, Nat.mul_comm]; exact hdm
        unfold eqM
        rw [decide_eq_true he, msk_true, BitVec.and_allOnes, if_neg (by omega), if_pos (by omega), h3]
        simp
      · have h2 : idx.toNat ≠ k / n := fun e => he (by apply BitVec.eq_of_toNat_eq; rw [BitVec.toNat_ofNat, Nat.mod_eq_of_lt (by omega), e])
        unfold eqM
        rw [decide_eq_false he, msk_false, BitVec.and_zero, BitVec.or_zero]
        by_cases h3 : idx.toNat * n + j < k
        · rw [if_pos h3, if_pos (by omega)]
        · rw [if_neg h3, if_neg (fun h => ?_)]
          have h4 : idx.toNat * n + j = k := by omega
          have h5 : (idx.toNat * n + j) / n = k / n := by rw [h4]
          rw [Nat.mul_comm, Nat.mul_add_div hn, Nat.div_eq_of_lt hj] at h5
          omega
    · rw [if_neg hm]
      by_cases h3 : idx.toNat * n + j < k
      · rw [if_pos h3, if_pos (by omega)]
      · rw [if_neg h3, if_neg (fun h => ?_)]
        have h4 : idx.toNat * n + j = k := by omega
        have h5 : (idx.toNat * n + j) % n = k % n := by rw [h4]
        rw [Nat.mul_comm, Nat.mul_add_mod, Nat.mod_eq_of_lt hj] at h5
        exact hm h5.symm
theorem grE_zero {nC nE : Nat} {base many n : Int} (h : grE nC nE base many n = 0) : 1 ≤ n ∧ n ≤ 64 ∧ 1 ≤ many ∧ many ≤ 4096 ∧ lkE nC nE base (many * n) 1 = 0 := by
  unfold grE at h
  split at h
  · rename_i hc; exact ⟨hc.1, hc.2.1, hc.2.2.1, hc.2.2.2, h⟩
  · cases h
section
variable {w0 w : World} {bs : Bks} {p : Nat} {C C' : List (BitVec 64)} {E E' : List Ev}
theorem row_err_at (h : One w0 w bs p C E) (base many n : Int) (idx : BitVec 64) (c : Int) (hc : grE C.length E.length base many n = c) (hz : c ≠ 0) :
    Calls Try.prog 10 #[.pointer (some ⟨p, 0, none⟩), .int .i64 base, .int .i64 many, .int .i64 n, .int .u64 (n64 idx)] w fun e w' => e = .returned (.tuple #[.slice none 0 0, .int .i64 c]) ∧ One w0 w' bs p C E :=
  h.call fun w F ha => (getRow_any ha base many n idx).mono fun e w' hh => by
    rcases hh with ⟨_, h2, h3⟩ | ⟨h1, _⟩
    · rw [hc] at h2; exact ⟨h2, h3⟩
    · exact absurd (hc ▸ h1) hz
/-- One place of a table that is there. -/
theorem get_nat (h : One w0 w bs p C E) (base n j : Nat) (idx : BitVec 64) (hj : idx.toNat = j) (h1 : 1 ≤ n) (h2 : base + n ≤ C.length) (hC : C.length ≤ 200) (hE : E.length ≤ 100000) (v : BitVec 64) (hv : v = if j < n then cl C (base + j) else 0#64) :
    Calls Try.prog 11 #[.pointer (some ⟨p, 0, none⟩), .int .i64 (base : Int), .int .i64 (n : Int), .int .u64 (n64 idx)] w fun e w' => e = .returned (.tuple #[.int .u64 (n64 v), .int .i64 0]) ∧ One w0 w' bs p C (ldE base E n) :=
  get_at h base n idx v 0 (by unfold geR; rw [if_pos (show lkE C.length E.length (base : Int) (n : Int) 1 = 0 from lkE_ok C.length E.length base n 1 (by decide) h1 h2 (by omega) hE), hj, hv]; rfl)
end
set_option maxHeartbeats 4000000 in
theorem rows_small {w : World} {n : Nat} {A : Option Addr} {c : Nat} {X : List (BitVec 64)} (h : Rd w (Old w) 1 (.slice A n c) n (u64s X)) (hn : n ≤ 200) (base N many : Int) (idx M V : BitVec 64) :
    Calls Try.prog 3 #[.slice A n c, .agg #[.int .i64 base, .int .i64 N, .int .i64 many, .int .u64 (n64 idx), .int .u64 (n64 M), .int .u64 (n64 V)]] w (BoolNew true w) := by
  have hl : X.length = n := by obtain ⟨_, _, _, _, hl, _⟩ := h; rw [length_u64s] at hl; omega
  have H0 := Lib.hid h
  have hd0 : decide (200 < (n : Int)) = false := by simp; omega
  obtain ⟨C, hCX⟩ : ∃ C, pad X = C := ⟨_, rfl⟩
  have HC2 : Hid (C.length ≤ 200) := Lib.hid (by rw [← hCX]; rw [pad_length, hl]; omega)
  have HL := Lib.hid hl
  have HCX := Lib.hid hCX
  have hc200 := HC2.out
  have HX1 := Lib.hid (H0.out.keep (Off.alloc (Off.refl Nob w) (.cells #[.int .i64 base, .int .i64 N, .int .i64 many, .int .u64 (n64 idx), .int .u64 (n64 M), .int .u64 (n64 V)] 25)) (fun _ _ h => h))
  clear h hl hCX
  go_enter Try.func3, Try.ntmps3
  go_wp2_with fail
  refine (arena_any HX1.out (by rw [HL.out]; omega)).mono ?_
  rintro e w2 h2'
  obtain ⟨p, r, rfl, u2⟩ := h2'.one (w0 := w) (bs := [(w.heap.size, 25, #[.int .i64 base, .int .i64 N, .int .i64 many, .int .u64 (n64 idx), .int .u64 (n64 M), .int .u64 (n64 V)])]) (Off.alloc (Off.refl _ _) _) (fun x hx => by
    rw [List.mem_singleton] at hx
    subst hx
    exact Blk.new _ _ _)
  rw [HCX.out, HL.out] at u2
  obtain ⟨k0, k1, k2, k3, k4, k5⟩ := tb_cells u2 (List.mem_cons_self ..)
  have U2 := Lib.hid u2
  have hls : (stores n).length = n := length_stores n
  have HLS := Lib.hid hls
  clear h2' u2 HX1 hls
  by_cases hz : grE C.length (stores n).length base many N = 0
  · obtain ⟨a1, a2, a3, a4, a5⟩ := grE_zero hz
    obtain ⟨g1, g2, g3, g4, _⟩ := lkE_zero a5
    obtain ⟨bn, rfl⟩ := Int.eq_ofNat_of_zero_le g3
    obtain ⟨Nn, rfl⟩ := Int.eq_ofNat_of_zero_le (show 0 ≤ N by omega)
    obtain ⟨mn, rfl⟩ := Int.eq_ofNat_of_zero_le (show 0 ≤ many by omega)
    obtain ⟨P, hP⟩ : ∃ P, mn * Nn = P := ⟨_, rfl⟩
    have hPi : (mn : Int) * (Nn : Int) = (P : Int) := by rw [← hP]; exact (Int.natCast_mul mn Nn).symm
    have HRW := row_at U2.out (bn : Int) (mn : Int) (Nn : Int) idx hz
    simp only [Int.toNat_natCast] at HRW
    rw [hP] at HRW
    have HRW := Lib.hid HRW
    have p1 : 1 ≤ (mn : Int) * (Nn : Int) := g1
    have p2 : (mn : Int) * (Nn : Int) ≤ 4096 := g2
    have HP := Lib.hid hP
    have HPI := Lib.hid hPi
    have b1 : bn + P ≤ C.length := by rw [hPi] at g4; omega
    have b2 : 1 ≤ P := by rw [hPi] at g1; omega
    clear a5 g1 g2 g4 hP hPi hz
    go_wp2_with fail
    refine HRW.out.mono ?_
    rintro e w3 ⟨g, rfl, u3⟩
    have hB := u3.blk (List.mem_cons_self ..)
    obtain ⟨k0, k1, k2, k3, k4, k5⟩ := tb_cells u3 (List.mem_cons_of_mem _ (List.mem_cons_self ..))
    have U3 := Lib.hid u3
    clear u3 HRW
    go_wp2_with fail
    go_loopw [9] (fun i wr => ∃ k : Nat, k ≤ Nn ∧ i = .int .i64 k ∧ ∃ E7 : List Ev, E7.length ≤ 1000 + 200 * k ∧ One w wr ((g, 23, rwC (fun i => cl C (bn + i)) idx Nn P) :: [(w.heap.size, 25, #[.int .i64 (bn : Int), .int .i64 (Nn : Int), .int .i64 (mn : Int), .int .u64 (n64 idx), .int .u64 (n64 M), .int .u64 (n64 V)])]) p C E7) (fun i _ => Nn - (intOf i).toNat)
    case atStart => exact ⟨0, Nat.zero_le _, rfl, _, by rw [length_ldE, HLS.out]; omega, U3.out⟩
    case round =>
      obtain ⟨k, hk, rfl, E7, he7, u7⟩ := hrel
      have U7 := Lib.hid u7
      obtain ⟨k0, k1, k2, k3, k4, k5⟩ := tb_cells u7 (List.mem_cons_of_mem _ (List.mem_cons_self ..))
      clear u7
      by_cases hlt : k < Nn
      · have q1 : decide ((k : Int) < (Nn : Int)) = true := decide_eq_true (by omega)
        have hrw := rwF_eq (fun i => cl C (bn + i)) idx Nn P k (by omega) hlt (by omega)
        have hmm : n64 (bv (mn : Int)) = (mn : Int) := n64_bvN mn (by omega)
        have hidx : n64 idx = (idx.toNat : Int) := rfl
        by_cases him : idx.toNat < mn
        · have q2 : decide (n64 (bv (mn : Int)) ≤ n64 idx) = false := decide_eq_false (by rw [hmm, hidx]; omega)
          have hlow : idx.toNat * Nn + k < P := by
            rw [← HP.out]
            calc idx.toNat * Nn + k < idx.toNat * Nn + Nn := by omega
              _ = (idx.toNat + 1) * Nn := by rw [Nat.add_mul, Nat.one_mul]
              _ ≤ mn * Nn := Nat.mul_le_mul_right _ him
          rw [if_pos hlow] at hrw
          have hat : (idx * bv (Nn : Int) + bv (k : Int)).toNat = idx.toNat * Nn + k := by
            rw [show bv (Nn : Int) = BitVec.ofNat 64 Nn from BitVec.ofInt_natCast .., show bv (k : Int) = BitVec.ofNat 64 k from BitVec.ofInt_natCast .., BitVec.toNat_add, BitVec.toNat_mul, BitVec.toNat_ofNat, BitVec.toNat_ofNat, Nat.mod_eq_of_lt (show Nn < 2 ^ 64 by omega), Nat.mod_eq_of_lt (show k < 2 ^ 64 by omega), Nat.mod_eq_of_lt (show idx.toNat * Nn < 2 ^ 64 by omega), Nat.mod_eq_of_lt (by omega)]
          have HG := Lib.hid (get_nat U7.out bn P (idx.toNat * Nn + k) (idx * bv (Nn : Int) + bv (k : Int)) hat b2 b1 HC2.out (by omega) (cl C (bn + (idx.toNat * Nn + k))) (by rw [if_pos hlow]))
          rw [← HPI.out] at HG
          clear hat hmm hidx
          go_wp2_with fail
          refine HG.out.mono ?_
          rintro e w8 ⟨rfl, u8⟩
          have hcl : w8.cell? ⟨g, k, none⟩ = some (.int .u64 (n64 (cl C (bn + (idx.toNat * Nn + k))))) := by rw [(u8.blk (List.mem_cons_self ..)).cell, rwC_at _ _ _ _ _ hlt, hrw]
          have U8 := Lib.hid u8
          generalize cl C (bn + (idx.toNat * Nn + k)) = vv at hcl ⊢
          clear u8 HG hlow hrw q2 him
          go_wp2_with fail
          go_roundw
          case rel => exact ⟨k + 1, by omega, by go_num, _, by rw [length_ldE]; omega, U8.out⟩
          case measure => simp [intOf]; omega
        · have q2 : decide (n64 (bv (mn : Int)) ≤ n64 idx) = true := decide_eq_true (by rw [hmm, hidx]; omega)
          have hhi : ¬ idx.toNat * Nn + k < P := by
            rw [← HP.out]
            have := Nat.mul_le_mul_right Nn (show mn ≤ idx.toNat by omega)
            omega
          rw [if_neg hhi] at hrw
          have HG := Lib.hid (get_nat U7.out bn P 18446744073709551615 18446744073709551615#64 (by decide) b2 b1 HC2.out (by omega) 0#64 (by rw [if_neg (by omega)]))
          rw [← HPI.out] at HG
          clear hmm hidx
          go_wp2_with fail
          refine Calls.mono (R := fun e w' => e = .returned (.tuple #[.int .u64 0, .int .i64 0]) ∧ One w w' _ p C (ldE bn E7 P)) HG.out ?_
          rintro e w8 ⟨rfl, u8⟩
          have hcl : w8.cell? ⟨g, k, none⟩ = some (.int .u64 0) := by rw [(u8.blk (List.mem_cons_self ..)).cell, rwC_at _ _ _ _ _ hlt, hrw]; rfl
          have U8 := Lib.hid u8
          clear u8 HG hhi hrw q2 him
          go_wp2_with fail
          go_roundw
          case rel => exact ⟨k + 1, by omega, by go_num, _, by rw [length_ldE]; omega, U8.out⟩
          case measure => simp [intOf]; omega
      · have q1 : decide ((k : Int) < (Nn : Int)) = false := decide_eq_false (by omega)
        have hlt' : ¬ k < Nn := hlt
        obtain ⟨base, hba⟩ : ∃ b : Int, (bn : Int) = b := ⟨_, rfl⟩
        obtain ⟨many, hma⟩ : ∃ b : Int, (mn : Int) = b := ⟨_, rfl⟩
        obtain ⟨N, hNa⟩ : ∃ b : Int, (Nn : Int) = b := ⟨_, rfl⟩
        obtain ⟨bs5, hbs⟩ : ∃ b : Bks, (((g, 23, rwC (fun i => cl C (bn + i)) idx Nn P) :: [(w.heap.size, 25, #[.int .i64 (bn : Int), .int .i64 (Nn : Int), .int .i64 (mn : Int), .int .u64 (n64 idx), .int .u64 (n64 M), .int .u64 (n64 V)])]) : Bks) = b := ⟨_, rfl⟩
        obtain ⟨E5, hE5⟩ : ∃ E, E7 = E := ⟨_, rfl⟩
        have HM5 : Hid ((w.heap.size, 25, #[.int .i64 base, .int .i64 N, .int .i64 many, .int .u64 (n64 idx), .int .u64 (n64 M), .int .u64 (n64 V)]) ∈ bs5) := Lib.hid (by rw [← hbs]; exact (by rw [← hba, ← hma, ← hNa]; exact List.mem_cons_of_mem _ (List.mem_cons_self ..)))
        have HE5 : Hid (E5.length ≤ 40000) := Lib.hid (by rw [← hE5]; omega)
        have U5 : Hid (One w _ bs5 p C E5) := Lib.hid (by rw [← hbs, ← hE5]; exact (show One w wr _ p C E7 from U7.out))
        clear hbs hE5
        rw [hNa] at q1 k1
        rw [hba] at k0
        rw [hma] at k2
        clear U7 U3 hB hlt' hlt
        rw [hba, hNa, hma]
        clear hba hNa hma
        by_cases hf : lkE C.length E5.length base N 1 = 0
        · obtain ⟨g1, g2, g3, g4, g5⟩ := lkE_zero hf
          obtain ⟨bn, rfl⟩ := Int.eq_ofNat_of_zero_le g3
          obtain ⟨Nn, rfl⟩ := Int.eq_ofNat_of_zero_le (show 0 ≤ N by omega)
          obtain ⟨fk, hfk⟩ : ∃ fk, fst0 (fun i => cl C (bn + i)) V Nn Nn = fk := ⟨_, rfl⟩
          have hfl : fk ≤ Nn := by rw [← hfk]; rcases fst0_le (fun i => cl C (bn + i)) V Nn Nn (Nat.le_refl _) with h | h <;> omega
          have hff : Hid (∀ i, i < Nn → (cl C (bn + i) = V → fk ≤ i) ∧ (fk = i → cl C (bn + i) = V)) := Lib.hid (fun i hi => by rw [← hfk]; exact fst0_first (fun i => cl C (bn + i)) V Nn Nn i (Nat.le_refl _) hi)
          have hR : fiR C E5 (bn : Int) (Nn : Int) V = ((BitVec.ofNat 64 fk, 0), (C, ldE bn E5 Nn)) := by unfold fiR; rw [if_pos hf, ← hfk]; rfl
          have HFK : Hid (n64 (BitVec.ofNat 64 fk) = (fk : Int)) := Lib.hid (n64_nat fk (by omega))
          have HR := Lib.hid hR
          have hNN : n64 (bv (Nn : Int)) = (Nn : Int) := n64_bvN Nn (by omega)
          clear hf hfk hR g5
          have q7 : ¬ (k : Int) < (Nn : Int) := of_decide_eq_false q1
          have q8 : ¬ k < Nn := by omega
          have q9 : decide (k < Nn) = false := decide_eq_false q8
          go_wp2_with fail
          refine Calls.mono (R := fun e w' => e = .returned (.tuple #[.int .u64 (fk : Int), .int .i64 0]) ∧ One w w' bs5 p C (ldE bn E5 Nn)) (by have := find_at U5.out bn Nn V _ _ HR.out; rw [HFK.out] at this; exact this) ?_
          rintro e w6 ⟨rfl, u6⟩
          obtain ⟨k0, k1, k2, k3, k4, k5⟩ := tb_cells u6 HM5.out
          have U6 := Lib.hid u6
          have t1 : decide ((Nn : Int) < (fk : Int)) = false := decide_eq_false (by omega)
          have t1' : decide (Nn < fk) = false := decide_eq_false (by omega)
          clear u6
          go_wp2_with fail
          go_loopw [15] (fun i wr => ∃ k : Nat, k ≤ Nn ∧ k ≤ fk + 1 ∧ i = .int .i64 k ∧ ∃ E7 : List Ev, E7.length ≤ 50000 + 200 * k ∧ One w wr bs5 p C E7) (fun i _ => Nn - (intOf i).toNat)
          case atStart => exact ⟨0, Nat.zero_le _, Nat.zero_le _, rfl, _, by rw [length_ldE]; have := HE5.out; omega, U6.out⟩
          case round =>
            obtain ⟨k, hk, hkf, rfl, E7, he7, u7⟩ := hrel
            have U7 := Lib.hid u7
            clear k0 k1 k2 k3 k4 k5
            obtain ⟨k0, k1, k2, k3, k4, k5⟩ := tb_cells u7 HM5.out
            clear u7
            have fin : ∀ w8, One w w8 bs5 p C E7 → Off Nob w w8 := fun w8 h => h.old
            by_cases hlt : k < Nn
            · have q1 : decide ((k : Int) < (Nn : Int)) = true := decide_eq_true (by omega)
              by_cases hle : k ≤ fk
              · have q2 : decide ((k : Int) ≤ (fk : Int)) = true := decide_eq_true (by omega)
                have HG := Lib.hid (get_nat U7.out bn Nn k (bv (k : Int)) (by rw [show bv (k : Int) = BitVec.ofNat 64 k from BitVec.ofInt_natCast .., BitVec.toNat_ofNat, Nat.mod_eq_of_lt (by omega)]) (by omega) (by omega) HC2.out (by omega) (cl C (bn + k)) (by rw [if_pos hlt]))
                have hkv : n64 (bv (k : Int)) = (k : Int) := n64_bvN k (by omega)
                rw [hkv] at HG
                go_wp2_with fail
                refine HG.out.mono ?_
                rintro e w8 ⟨rfl, u8⟩
                have U8 := Lib.hid u8
                obtain ⟨k0, k1, k2, k3, k4, k5⟩ := tb_cells u8 HM5.out
                clear u8
                obtain ⟨a1, a2⟩ := hff.out k hlt
                by_cases hkk : k = fk
                · have s1 := a2 hkk.symm
                  rw [s1]
                  subst hkk
                  clear a1 a2 s1 HG
                  go_wp2_with fail
                  go_roundw
                  case rel => exact ⟨k + 1, by omega, by omega, by go_num, _, by rw [length_ldE]; omega, U8.out⟩
                  case measure => simp [intOf]; omega
                · have s1 : (n64 (cl C (bn + k)) == n64 V) = false := by rw [beq_eq_false_iff_ne]; intro h; exact hkk (by have := a1 (n64_inj h); omega)
                  have s2 : ((k : Int) == (fk : Int)) = false := by rw [beq_eq_false_iff_ne]; omega
                  have s3 : decide (k = fk) = false := decide_eq_false hkk
                  clear a1 a2 HG
                  go_wp2_with fail
                  go_roundw
                  case rel => exact ⟨k + 1, by omega, by omega, by go_num, _, by rw [length_ldE]; omega, U8.out⟩
                  case measure => simp [intOf]; omega
              · have q2 : decide ((k : Int) ≤ (fk : Int)) = false := decide_eq_false (by omega)
                have q2' : decide (k ≤ fk) = false := decide_eq_false hle
                go_wp2_with fail
                refine (awake_ok _).mono ?_
                rintro e w9 ⟨rfl, o9⟩
                have O9 := Lib.hid (U7.out.old.also o9)
                clear o9
                go_wp2
                go_ret
                exact ⟨rfl, O9.out⟩
            · have q1 : decide ((k : Int) < (Nn : Int)) = false := decide_eq_false (by omega)
              go_wp2_with fail
              refine (awake_ok _).mono ?_
              rintro e w9 ⟨rfl, o9⟩
              have O9 := Lib.hid (U7.out.old.also o9)
              clear o9
              go_wp2
              go_ret
              exact ⟨rfl, O9.out⟩
        · obtain ⟨ec, hec⟩ : ∃ ec, lkE C.length E5.length base N 1 = ec := ⟨_, rfl⟩
          have hR : fiR C E5 base N V = ((0#64, ec), (C, E5)) := by unfold fiR; rw [if_neg hf]; rw [show lkE C.length E5.length base N 1 = ec from hec]
          have HR := Lib.hid hR
          have t1 : (ec != 0) = true := by rw [bne_iff_ne, ← hec]; exact hf
          clear hf hec hR
          go_wp2_with fail
          refine Calls.mono (R := fun e w' => e = .returned (.tuple #[.int .u64 0, .int .i64 ec]) ∧ One w w' bs5 p C E5) (by have := find_at U5.out base N V _ _ HR.out; exact this) ?_
          rintro e w6 ⟨rfl, u6⟩
          have U6 := Lib.hid u6
          clear u6
          go_wp2_with fail
          refine (awake_ok _).mono ?_
          rintro e w9 ⟨rfl, o9⟩
          have O9 := Lib.hid (U6.out.old.also o9)
          clear o9
          go_wp2
          go_ret
          exact ⟨ret_bool (by simp), O9.out⟩
  · obtain ⟨ec, hec⟩ : ∃ ec, grE C.length (stores n).length base many N = ec := ⟨_, rfl⟩
    have HEC := Lib.hid hec
    have hne : ec ≠ 0 := by rw [← hec]; exact hz
    have t0 : (ec == 0) = false := by rw [beq_eq_false_iff_ne]; exact hne
    clear hz hec
    go_wp2_with fail
    refine (row_err_at U2.out base many N idx ec HEC.out hne).mono ?_
    rintro e w5 ⟨rfl, u5⟩
    obtain ⟨k0, k1, k2, k3, k4, k5⟩ := tb_cells u5 (List.mem_cons_self ..)
    obtain ⟨bs5, hbs⟩ : ∃ b : Bks, ([(w.heap.size, 25, #[.int .i64 base, .int .i64 N, .int .i64 many, .int .u64 (n64 idx), .int .u64 (n64 M), .int .u64 (n64 V)])] : Bks) = b := ⟨_, rfl⟩
    obtain ⟨E5, hE5⟩ : ∃ E, stores n = E := ⟨_, rfl⟩
    have HM5 : Hid ((w.heap.size, 25, #[.int .i64 base, .int .i64 N, .int .i64 many, .int .u64 (n64 idx), .int .u64 (n64 M), .int .u64 (n64 V)]) ∈ bs5) := Lib.hid (by rw [← hbs]; exact List.mem_cons_self ..)
    have HE5 : Hid (E5.length ≤ 40000) := Lib.hid (by rw [← hE5]; rw [HLS.out]; omega)
    have U5 : Hid (One w _ bs5 p C E5) := Lib.hid (by rw [← hbs, ← hE5]; exact u5)
    clear hbs hE5
    clear u5 U2
    by_cases hf : lkE C.length E5.length base N 1 = 0
    · obtain ⟨g1, g2, g3, g4, g5⟩ := lkE_zero hf
      obtain ⟨bn, rfl⟩ := Int.eq_ofNat_of_zero_le g3
      obtain ⟨Nn, rfl⟩ := Int.eq_ofNat_of_zero_le (show 0 ≤ N by omega)
      obtain ⟨fk, hfk⟩ : ∃ fk, fst0 (fun i => cl C (bn + i)) V Nn Nn = fk := ⟨_, rfl⟩
      have hfl : fk ≤ Nn := by rw [← hfk]; rcases fst0_le (fun i => cl C (bn + i)) V Nn Nn (Nat.le_refl _) with h | h <;> omega
      have hff : Hid (∀ i, i < Nn → (cl C (bn + i) = V → fk ≤ i) ∧ (fk = i → cl C (bn + i) = V)) := Lib.hid (fun i hi => by rw [← hfk]; exact fst0_first (fun i => cl C (bn + i)) V Nn Nn i (Nat.le_refl _) hi)
      have hR : fiR C E5 (bn : Int) (Nn : Int) V = ((BitVec.ofNat 64 fk, 0), (C, ldE bn E5 Nn)) := by unfold fiR; rw [if_pos hf, ← hfk]; rfl
      have HFK : Hid (n64 (BitVec.ofNat 64 fk) = (fk : Int)) := Lib.hid (n64_nat fk (by omega))
      have HR := Lib.hid hR
      have hNN : n64 (bv (Nn : Int)) = (Nn : Int) := n64_bvN Nn (by omega)
      clear hf hfk hR g5
      go_wp2_with fail
      refine Calls.mono (R := fun e w' => e = .returned (.tuple #[.int .u64 (fk : Int), .int .i64 0]) ∧ One w w' bs5 p C (ldE bn E5 Nn)) (by have := find_at U5.out bn Nn V _ _ HR.out; rw [HFK.out] at this; exact this) ?_
      rintro e w6 ⟨rfl, u6⟩
      obtain ⟨k0, k1, k2, k3, k4, k5⟩ := tb_cells u6 HM5.out
      have U6 := Lib.hid u6
      have t1 : decide ((Nn : Int) < (fk : Int)) = false := decide_eq_false (by omega)
      have t1' : decide (Nn < fk) = false := decide_eq_false (by omega)
      clear u6
      go_wp2_with fail
      go_loopw [15] (fun i wr => ∃ k : Nat, k ≤ Nn ∧ k ≤ fk + 1 ∧ i = .int .i64 k ∧ ∃ E7 : List Ev, E7.length ≤ 50000 + 200 * k ∧ One w wr bs5 p C E7) (fun i _ => Nn - (intOf i).toNat)
      case atStart => exact ⟨0, Nat.zero_le _, Nat.zero_le _, rfl, _, by rw [length_ldE]; have := HE5.out; omega, U6.out⟩
      case round =>
        obtain ⟨k, hk, hkf, rfl, E7, he7, u7⟩ := hrel
        have U7 := Lib.hid u7
        clear k0 k1 k2 k3 k4 k5
        obtain ⟨k0, k1, k2, k3, k4, k5⟩ := tb_cells u7 HM5.out
        clear u7
        have fin : ∀ w8, One w w8 bs5 p C E7 → Off Nob w w8 := fun w8 h => h.old
        by_cases hlt : k < Nn
        · have q1 : decide ((k : Int) < (Nn : Int)) = true := decide_eq_true (by omega)
          by_cases hle : k ≤ fk
          · have q2 : decide ((k : Int) ≤ (fk : Int)) = true := decide_eq_true (by omega)
            have HG := Lib.hid (get_nat U7.out bn Nn k (bv (k : Int)) (by rw [show bv (k : Int) = BitVec.ofNat 64 k from BitVec.ofInt_natCast .., BitVec.toNat_ofNat, Nat.mod_eq_of_lt (by omega)]) (by omega) (by omega) HC2.out (by omega) (cl C (bn + k)) (by rw [if_pos hlt]))
            have hkv : n64 (bv (k : Int)) = (k : Int) := n64_bvN k (by omega)
            rw [hkv] at HG
            go_wp2_with fail
            refine HG.out.mono ?_
            rintro e w8 ⟨rfl, u8⟩
            have U8 := Lib.hid u8
            obtain ⟨k0, k1, k2, k3, k4, k5⟩ := tb_cells u8 HM5.out
            clear u8
            obtain ⟨a1, a2⟩ := hff.out k hlt
            by_cases hkk : k = fk
            · have s1 := a2 hkk.symm
              rw [s1]
              subst hkk
              clear a1 a2 s1 HG
              go_wp2_with fail
              go_roundw
              case rel => exact ⟨k + 1, by omega, by omega, by go_num, _, by rw [length_ldE]; omega, U8.out⟩
              case measure => simp [intOf]; omega
            · have s1 : (n64 (cl C (bn + k)) == n64 V) = false := by rw [beq_eq_false_iff_ne]; intro h; exact hkk (by have := a1 (n64_inj h); omega)
              have s2 : ((k : Int) == (fk : Int)) = false := by rw [beq_eq_false_iff_ne]; omega
              have s3 : decide (k = fk) = false := decide_eq_false hkk
              clear a1 a2 HG
              go_wp2_with fail
              go_roundw
              case rel => exact ⟨k + 1, by omega, by omega, by go_num, _, by rw [length_ldE]; omega, U8.out⟩
              case measure => simp [intOf]; omega
          · have q2 : decide ((k : Int) ≤ (fk : Int)) = false := decide_eq_false (by omega)
            have q2' : decide (k ≤ fk) = false := decide_eq_false hle
            go_wp2_with fail
            refine (awake_ok _).mono ?_
            rintro e w9 ⟨rfl, o9⟩
            have O9 := Lib.hid (U7.out.old.also o9)
            clear o9
            go_wp2
            go_ret
            exact ⟨rfl, O9.out⟩
        · have q1 : decide ((k : Int) < (Nn : Int)) = false := decide_eq_false (by omega)
          go_wp2_with fail
          refine (awake_ok _).mono ?_
          rintro e w9 ⟨rfl, o9⟩
          have O9 := Lib.hid (U7.out.old.also o9)
          clear o9
          go_wp2
          go_ret
          exact ⟨rfl, O9.out⟩
    · obtain ⟨ec, hec⟩ : ∃ ec, lkE C.length E5.length base N 1 = ec := ⟨_, rfl⟩
      have hR : fiR C E5 base N V = ((0#64, ec), (C, E5)) := by unfold fiR; rw [if_neg hf]; rw [show lkE C.length E5.length base N 1 = ec from hec]
      have HR := Lib.hid hR
      have t1 : (ec != 0) = true := by rw [bne_iff_ne, ← hec]; exact hf
      clear hf hec hR
      go_wp2_with fail
      refine Calls.mono (R := fun e w' => e = .returned (.tuple #[.int .u64 0, .int .i64 ec]) ∧ One w w' bs5 p C E5) (by have := find_at U5.out base N V _ _ HR.out; exact this) ?_
      rintro e w6 ⟨rfl, u6⟩
      have U6 := Lib.hid u6
      clear u6
      go_wp2_with fail
      refine (awake_ok _).mono ?_
      rintro e w9 ⟨rfl, o9⟩
      have O9 := Lib.hid (U6.out.old.also o9)
      clear o9
      go_wp2
      go_ret
      exact ⟨ret_bool (by simp), O9.out⟩
theorem rows_long {w : World} (A : Option Addr) (n c : Nat) (hn : 200 < n) (b0 : n ≤ maxLen) (base N many : Int) (idx M V : BitVec 64) :
    Calls Try.prog 3 #[.slice A n c, .agg #[.int .i64 base, .int .i64 N, .int .i64 many, .int .u64 (n64 idx), .int .u64 (n64 M), .int .u64 (n64 V)]] w (BoolNew true w) := by
  unfold maxLen at b0
  have hd0 : decide (200 < (n : Int)) = true := by simp; omega
  go_enter Try.func3, Try.ntmps3
  go_wp2_with fail
  refine (awake_ok _).mono ?_
  rintro e w4 ⟨rfl, h4⟩
  have H4 := Lib.hid h4
  clear h4
  go_wp2
  go_ret
  exact ⟨rfl, (Off.alloc (Off.refl _ _) _).also H4.out⟩
theorem lookupRows_walk {w : World} {v0 : Value} {n : Nat} {X : List (BitVec 64)} (h0 : Rd w (Old w) 1 v0 n (u64s X))
    (l : List Value) (hl : l.length = 6) (hk : ∀ f j κ, kindAt Try.prog f 25 j = some κ → ∃ u, l[j]? = some u ∧ okV κ u) :
    Calls Try.prog 3 #[v0, .agg l.toArray] w (BoolNew true w) := by
  obtain ⟨u0, e0, o0⟩ := hk 4 0 (some .i64) (by kernel_rfl)
  obtain ⟨u1, e1, o1⟩ := hk 4 1 (some .i64) (by kernel_rfl)
  obtain ⟨u2, e2, o2⟩ := hk 4 2 (some .i64) (by kernel_rfl)
  obtain ⟨u3, e3, o3⟩ := hk 4 3 (some .u64) (by kernel_rfl)
  obtain ⟨u4, e4, o4⟩ := hk 4 4 (some .u64) (by kernel_rfl)
  obtain ⟨u5, e5, o5⟩ := hk 4 5 (some .u64) (by kernel_rfl)
  obtain ⟨base, rfl, _⟩ := okV_i64 o0
  obtain ⟨N, rfl, _⟩ := okV_i64 o1
  obtain ⟨many, rfl, _⟩ := okV_i64 o2
  obtain ⟨idx, rfl⟩ := okV_u64 o3
  obtain ⟨M, rfl⟩ := okV_u64 o4
  obtain ⟨V, rfl⟩ := okV_u64 o5
  match l, hl with
  | [a, b, c, d, e, f], _ =>
    simp at e0 e1 e2 e3 e4 e5
    subst e0 e1 e2 e3 e4 e5
    obtain ⟨A0, c0, rfl, m0, _⟩ := h0.form
    by_cases g0 : 200 < n
    · exact rows_long _ _ _ g0 m0 _ _ _ _ _ _
    · exact rows_small h0 (by omega) base N many idx M V
end Go.Proofs.Ytgdklokoeeokbaa
