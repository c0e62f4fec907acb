/-
  slots.Fill.
-/
import Derived.Test.YtonkhgmfeakbcaaSlOps
namespace Go.Proofs.Ytonkhgmfeakbcaa
open Go.RowKit
attribute [local go_sem] bits_and_u64 bits_or_u64 bits_xor_u64 bits_andNot_u64 wrap_u64
set_option linter.unusedVariables false
set_option linter.unusedSimpArgs false
set_option maxRecDepth 100000
theorem fiE_zero {nC nE : Nat} {base hits p byte : Int} {im : Bool} (h : fiE nC nE base hits p byte im = 0) : 1 ≤ p ∧ p ≤ 16 ∧ 0 ≤ byte ∧ byte ≤ 15 ∧ 0 ≤ base ∧ base ≤ 65536 ∧ im = true ∧ 0 ≤ hits ∧ hits + p ≤ nC ∧ 0 ≤ 3 * p * byte ∧ 3 * p * byte ≤ 720 ∧ base + 3 * p * byte + 3 * p ≤ nC ∧ ¬ (hits < base + 3 * p * byte + 3 * p ∧ base + 3 * p * byte < hits + p) ∧ nE + 4 * p ≤ 8388608 := by
  unfold fiE at h
  split at h
  · cases h
  · rename_i h1
    have m0 : 0 ≤ 3 * p * byte := Int.mul_nonneg (by omega) (by omega)
    have m1 : 3 * p * byte ≤ 48 * 15 := Int.mul_le_mul (by omega) (by omega) (by omega) (by omega)
    split at h
    · cases h
    · rename_i h2
      rcases hasE_cases nC hits p with ⟨a, b⟩ | ⟨a, b⟩
      · rw [if_pos a] at h
        rcases hasE_cases nC (base + 3 * p * byte) (3 * p) with ⟨c, d⟩ | ⟨c, d⟩
        · rw [if_pos c] at h
          split at h
          · cases h
          · rename_i h3
            have := (roomE_zero h).2
            refine ⟨by omega, by omega, by omega, by omega, by omega, by omega, by simpa using h2, by omega, by omega, m0, by omega, by omega, h3, by omega⟩
        · rw [if_neg (by rw [c]; decide), c] at h; cases h
      · rw [if_neg (by rw [a]; decide), a] at h; cases h
theorem fiV_eq (b : Bool) (e : BitVec 64) (r : Nat) (v : BitVec 64) : fiV b e r v = (msk b &&& ofM v, msk b &&& ofM v &&& e, msk b &&& ofM v &&& bv (r : Int)) := by
  unfold ofM fiV
  rw [msk_and]
  obtain ⟨c, hc⟩ : ∃ c, (b && decide (v.toNat % 2 = 1)) = c := ⟨_, rfl⟩
  rw [hc]
  have e1 : bv (r : Int) = BitVec.ofNat 64 r := by unfold bv; rw [BitVec.ofInt_natCast]
  cases c
  · rw [msk_false]; simp
  · rw [if_pos rfl, msk_true, BitVec.allOnes_and, BitVec.allOnes_and, e1]
section
variable {w : World} {F : Nat → Prop} {p : Nat} {C : List (BitVec 64)} {E : List Ev}
set_option maxHeartbeats 4000000 in
theorem fill_ok (h : Ar w F p C E) (base hits k byte : Nat) (b : Bool) (e : BitVec 64) (hz : fiE C.length E.length base hits k byte true = 0) :
    Calls Try.prog 20 #[.pointer (some ⟨p, 0, none⟩), .int .i64 (base : Int), .int .i64 (hits : Int), .int .i64 (k : Int), .int .i64 (byte : Int), .int .u64 (n64 (msk b)), .int .u64 (n64 e)] w fun e' w' => e' = .returned (.int .i64 0) ∧ ArTo w F p (fiS hits (base + 3 * k * byte) b e (C, E) k).1 (fiS hits (base + 3 * k * byte) b e (C, E) k).2 w' := by
  obtain ⟨g1, g2, g3, g4, g5, g6, -, g7, g8, g9, g10, g11, g12, g13⟩ := fiE_zero hz
  have hn2 := h.n2
  have HM := Lib.hid (isM_msk b)
  have HIS : Hid (∀ w, Calls Try.prog 40 #[.int .u64 (n64 (msk b))] w fun e w' => e = .returned (.bool true) ∧ w = w') := Lib.hid (fun w => by have := is_any (msk b) w; rwa [isM_msk] at this)
  have HH1 : Hid (Calls Try.prog 41 #[.pointer (some ⟨p, 0, none⟩), .int .i64 (hits : Int), .int .i64 (k : Int)] w fun e w' => e = .returned (.int .i64 0) ∧ w = w') := Lib.hid (by have := has_any h (hits : Int) (k : Int); rwa [show hasE C.length (hits : Int) (k : Int) = 0 by unfold hasE; rw [if_neg (by omega)]] at this)
  have HH2 : Hid (Calls Try.prog 41 #[.pointer (some ⟨p, 0, none⟩), .int .i64 ((base : Int) + 3 * (k : Int) * (byte : Int)), .int .i64 (3 * (k : Int))] w fun e w' => e = .returned (.int .i64 0) ∧ w = w') := Lib.hid (by have := has_any h ((base : Int) + 3 * (k : Int) * (byte : Int)) (3 * (k : Int)); rwa [show hasE C.length ((base : Int) + 3 * (k : Int) * (byte : Int)) (3 * (k : Int)) = 0 by unfold hasE; rw [if_neg (by omega)]] at this)
  have HRM : Hid (Calls Try.prog 42 #[.pointer (some ⟨p, 0, none⟩), .int .i64 (4 * (k : Int))] w fun e w' => e = .returned (.int .i64 0) ∧ w = w') := Lib.hid (by have := room_any h (4 * (k : Int)); rwa [show roomE E.length (4 * (k : Int)) = 0 by unfold roomE; rw [if_neg (by omega), if_neg (by omega)]] at this)
  obtain ⟨f, hf⟩ : ∃ f : Nat, base + 3 * k * byte = f := ⟨_, rfl⟩
  have hfi : (base : Int) + 3 * (k : Int) * (byte : Int) = (f : Int) := by rw [← hf]; push_cast; rfl
  rw [hf]
  have HFI := Lib.hid hfi
  have t1 : decide ((hits : Int) < (base : Int) + 3 * (k : Int) * (byte : Int) + 3 * (k : Int)) = false ∨ (decide ((hits : Int) < (base : Int) + 3 * (k : Int) * (byte : Int) + 3 * (k : Int)) = true ∧ decide ((base : Int) + 3 * (k : Int) * (byte : Int) < (hits : Int) + (k : Int)) = false) := by
    by_cases q : (hits : Int) < (base : Int) + 3 * (k : Int) * (byte : Int) + 3 * (k : Int)
    · exact .inr ⟨decide_eq_true q, decide_eq_false (fun q2 => g12 ⟨q, q2⟩)⟩
    · exact .inl (decide_eq_false q)
  have HW := Lib.hid (Wk.start h)
  have HO1 := Lib.hid (fun w => outside_in (k : Int) 1 16 (by omega) (by omega) w)
  have HO2 := Lib.hid (fun w => outside_in (byte : Int) 0 15 (by omega) (by omega) w)
  have HO3 := Lib.hid (fun w => outside_in (base : Int) 0 65536 (by omega) (by omega) w)
  have G11 : (f : Int) + 3 * (k : Int) ≤ C.length := by omega
  clear h hz hf hfi g12
  rcases t1 with t1 | ⟨t1, t2⟩
  all_goals
    go_enter Try.func20, Try.ntmps20
    go_wp2_with fail
    refine (HO1.out _).mono ?_
    rintro e w' ⟨rfl, rfl⟩
    go_wp2_with fail
    refine (HO2.out _).mono ?_
    rintro e w' ⟨rfl, rfl⟩
    go_wp2_with fail
    refine (HO3.out _).mono ?_
    rintro e w' ⟨rfl, rfl⟩
    go_wp2_with fail
    refine (HIS.out _).mono ?_
    rintro e w' ⟨rfl, rfl⟩
    go_wp2_with fail
    refine HH1.out.mono ?_
    rintro e w' ⟨rfl, rfl⟩
    go_wp2_with fail
    refine HH2.out.mono ?_
    rintro e w' ⟨rfl, rfl⟩
    go_wp2_with fail
    refine HRM.out.mono ?_
    rintro e w' ⟨rfl, rfl⟩
    go_wp2_with fail
    simp only [HFI.out]
    clear t1 g9 g10 g11 HH1 HH2 HRM HIS HO1 HO2 HO3
    go_loopw [78] (fun i wr => ∃ j : Nat, j ≤ k ∧ i = .int .i64 (j : Int) ∧ Wk w F wr [] p (fiS hits f b e (C, E) j).1 (fiS hits f b e (C, E) j).2) (fun i _ => k - (intOf i).toNat)
    case atStart => exact ⟨0, Nat.zero_le _, rfl, HW.out⟩
    case round =>
      obtain ⟨j, hj, rfl, hrel⟩ := hrel
      have HR := Lib.hid hrel
      clear hrel
      by_cases hlt : j < k
      · obtain ⟨l1, l2⟩ := fiS_len hits f b e (C, E) j
        have HN : Hid (fiS hits f b e (C, E) (j + 1) = stS ((fiS hits f b e (C, E) j).1, (fiS hits f b e (C, E) j).2 ++ [(1, hits + j)]) (f + 3 * j) (fiV b e j (cl (fiS hits f b e (C, E) j).1 (hits + j)))) := Lib.hid rfl
        obtain ⟨⟨C1, E1⟩, hCE⟩ : ∃ s, fiS hits f b e (C, E) j = s := ⟨_, rfl⟩
        rw [hCE] at HR HN l1 l2
        dsimp only at HR HN l1 l2
        obtain ⟨v, hv⟩ : ∃ v, cl C1 (hits + j) = v := ⟨_, rfl⟩
        have HV := Lib.hid hv
        rw [hv] at HN
        have HFV := Lib.hid (fiV_eq b e j v)
        obtain ⟨o, ho⟩ : ∃ o, ofM v = o := ⟨_, rfl⟩
        have HOF : Hid (∀ w, Calls Try.prog 36 #[.int .u64 (n64 v)] w fun e w' => e = .returned (.int .u64 (n64 o)) ∧ w = w') := Lib.hid (fun w => by have := of_any v w; rwa [ho] at this)
        rw [ho] at HFV
        clear hCE hv ho HW
        go_wp2_with fail
        refine (HR.out.call (fun w F ha => by have := load_ok ha ((hits : Int) + (j : Int)) (by omega) (by rw [l1]; omega) (by omega); rw [show ((hits : Int) + (j : Int)).toNat = hits + j by omega, HV.out] at this; exact this)).mono ?_
        rintro e w1 ⟨rfl, h1⟩
        have H1 := Lib.hid h1
        clear h1 HR
        go_wp2_with fail
        refine (HOF.out _).mono ?_
        rintro e w' ⟨rfl, rfl⟩
        go_wp2_with fail
        refine (H1.out.call (C2 := (fiS hits f b e (C, E) (j + 1)).1) (E2 := (fiS hits f b e (C, E) (j + 1)).2) (fun w F ha => by
          have := slStore_ok ha (f + 3 * j) (fiV b e j v) (by rw [l1]; omega) (by rw [List.length_append, l2]; simp; omega)
          rw [← HN.out] at this
          rw [HFV.out] at this
          unfold slV at this
          push_cast at this
          exact this)).mono ?_
        rintro e w2 ⟨rfl, h2⟩
        have H2 := Lib.hid h2
        clear h2 H1
        go_wp2_with fail
        go_roundw
        case rel => exact ⟨j + 1, hlt, by go_num, H2.out⟩
        case measure => simp [intOf]; omega
      · obtain rfl : j = k := by omega
        go_wp2_with fail
        go_ret
        exact ⟨rfl, HR.out.done⟩
end
end Go.Proofs.Ytonkhgmfeakbcaa
