/-
  dragnetref22.Fill.
-/
import Derived.Test.YtonkhgmfeakbcaaRef22
namespace Go.Proofs.Ytonkhgmfeakbcaa
open Go.RowKit
set_option linter.unusedVariables false
set_option linter.unusedSimpArgs false
set_option maxRecDepth 100000
section
variable {w : World} {F : Nat → Prop} {r : Nat} {C : List (BitVec 64)} {E : List Ev}
theorem ris_msk (b : Bool) (w : World) : Calls Try.prog 65 #[.int .u64 (n64 (msk b))] w fun e w' => e = .returned (.bool true) ∧ w = w' := by
  cases b
  · show Calls Try.prog 65 #[.int .u64 0] w _
    go_enter Try.func65, Try.ntmps65
    go_wp2_with fail
    go_ret
    exact ⟨rfl, rfl⟩
  · show Calls Try.prog 65 #[.int .u64 18446744073709551615] w _
    go_enter Try.func65, Try.ntmps65
    go_wp2_with fail
    go_ret
    exact ⟨rfl, rfl⟩
set_option maxHeartbeats 8000000 in
theorem rfill_ok (h : Rf w F r C E) (base hits k byte : Nat) (b : Bool) (e : BitVec 64) (hz : fiE C.length E.length base hits k byte true = 0) :
    Calls Try.prog 52 #[.pointer (some ⟨r, 0, none⟩), .int .i64 (base : Int), .int .i64 (hits : Int), .int .i64 (k : Int), .int .i64 (byte : Int), .int .u64 (n64 (msk b)), .int .u64 (n64 e)] w fun e' w' => e' = .returned (.int .i64 0) ∧ RfTo w F r (fiS hits (base + 3 * k * byte) b e (C, E) k).1 (fiS hits (base + 3 * k * byte) b e (C, E) k).2 w' := by
  obtain ⟨g1, g2, g3, g4, g5, g6, -, g7, g8, g9, g10, g11, g12, g13⟩ := fiE_zero hz
  have hn2 := h.n2
  have HIS : Hid (∀ w, Calls Try.prog 65 #[.int .u64 (n64 (msk b))] w fun e w' => e = .returned (.bool true) ∧ w = w') := Lib.hid (fun w => ris_msk b w)
  have HH1 : Hid (Calls Try.prog 66 #[.pointer (some ⟨r, 0, none⟩), .int .i64 (hits : Int), .int .i64 (k : Int)] w fun e w' => e = .returned (.int .i64 0) ∧ w = w') := Lib.hid (by have := rhas_any h (hits : Int) (k : Int); rwa [show hasE C.length (hits : Int) (k : Int) = 0 by unfold hasE; rw [if_neg (by omega)]] at this)
  have HH2 : Hid (Calls Try.prog 66 #[.pointer (some ⟨r, 0, none⟩), .int .i64 ((base : Int) + 3 * (k : Int) * (byte : Int)), .int .i64 (3 * (k : Int))] w fun e w' => e = .returned (.int .i64 0) ∧ w = w') := Lib.hid (by have := rhas_any h ((base : Int) + 3 * (k : Int) * (byte : Int)) (3 * (k : Int)); rwa [show hasE C.length ((base : Int) + 3 * (k : Int) * (byte : Int)) (3 * (k : Int)) = 0 by unfold hasE; rw [if_neg (by omega)]] at this)
  have HRM : Hid (Calls Try.prog 67 #[.pointer (some ⟨r, 0, none⟩), .int .i64 (4 * (k : Int))] w fun e w' => e = .returned (.int .i64 0) ∧ w = w') := Lib.hid (by have := rroom_any h (4 * (k : Int)); rwa [show roomE E.length (4 * (k : Int)) = 0 by unfold roomE; rw [if_neg (by omega), if_neg (by omega)]] at this)
  obtain ⟨f, hf⟩ : ∃ f : Nat, base + 3 * k * byte = f := ⟨_, rfl⟩
  have hfi : (base : Int) + 3 * (k : Int) * (byte : Int) = (f : Int) := by rw [← hf]; push_cast; rfl
  rw [hf]
  have HFI := Lib.hid hfi
  have t1 : decide ((hits : Int) < (base : Int) + 3 * (k : Int) * (byte : Int) + 3 * (k : Int)) = false ∨ (decide ((hits : Int) < (base : Int) + 3 * (k : Int) * (byte : Int) + 3 * (k : Int)) = true ∧ decide ((base : Int) + 3 * (k : Int) * (byte : Int) < (hits : Int) + (k : Int)) = false) := by
    by_cases q : (hits : Int) < (base : Int) + 3 * (k : Int) * (byte : Int) + 3 * (k : Int)
    · exact .inr ⟨decide_eq_true q, decide_eq_false (fun q2 => g12 ⟨q, q2⟩)⟩
    · exact .inl (decide_eq_false q)
  have HW := Lib.hid (WkR.start h)
  have q1 : decide ((k : Int) < 1) = false := decide_eq_false (by omega)
  have q2 : decide (16 < (k : Int)) = false := decide_eq_false (by omega)
  have q3 : decide ((byte : Int) < 0) = false := decide_eq_false (by omega)
  have q4 : decide (16 ≤ (byte : Int)) = false := decide_eq_false (by omega)
  have q5 : decide ((base : Int) < 0) = false := decide_eq_false (by omega)
  have q6 : decide (65536 < (base : Int)) = false := decide_eq_false (by omega)
  have G11 : (f : Int) + 3 * (k : Int) ≤ C.length := by omega
  obtain ⟨mv, hmv⟩ : ∃ mv, n64 (msk b) = mv := ⟨_, rfl⟩
  have hm0 : (mv != 0) = b := by rw [← hmv]; cases b <;> rfl
  obtain ⟨ev, hev⟩ : ∃ ev, n64 e = ev := ⟨_, rfl⟩
  have HMV := Lib.hid hmv
  have HEV := Lib.hid hev
  rw [hmv] at HIS ⊢
  rw [hev]
  clear h hz hf hfi g12 hmv hev
  rcases t1 with t1 | ⟨t1, t2⟩
  all_goals
    go_enter Try.func52, Try.ntmps52
    go_wp2_with fail
    refine (HIS.out _).mono ?_
    rintro e w' ⟨rfl, rfl⟩
    go_wp2_with fail
    refine HH1.out.mono ?_
    rintro e w' ⟨rfl, rfl⟩
    go_wp2_with fail
    refine HH2.out.mono ?_
    rintro e w' ⟨rfl, rfl⟩
    go_wp2_with fail
    refine HRM.out.mono ?_
    rintro e w' ⟨rfl, rfl⟩
    go_wp2_with fail
    simp only [HFI.out]
    clear t1 g9 g10 g11 HH1 HH2 HRM HIS q1 q2 q3 q4 q5 q6
    go_loopw [18] (fun i wr => ∃ j : Nat, j ≤ k ∧ i = .int .i64 (j : Int) ∧ WkR w F wr [] r (fiS hits f b e (C, E) j).1 (fiS hits f b e (C, E) j).2) (fun i _ => k - (intOf i).toNat)
    case atStart => exact ⟨0, Nat.zero_le _, rfl, HW.out⟩
    case round =>
      obtain ⟨j, hj, rfl, hrel⟩ := hrel
      have HR := Lib.hid hrel
      clear hrel HW
      by_cases hlt : j < k
      rotate_left
      · obtain rfl : j = k := by omega
        go_wp2_with fail
        go_ret
        exact ⟨rfl, HR.out.done⟩
      obtain ⟨l1, l2⟩ := fiS_len hits f b e (C, E) j
      have HN : Hid (fiS hits f b e (C, E) (j + 1) = stS ((fiS hits f b e (C, E) j).1, (fiS hits f b e (C, E) j).2 ++ [(1, hits + j)]) (f + 3 * j) (fiV b e j (cl (fiS hits f b e (C, E) j).1 (hits + j)))) := Lib.hid rfl
      obtain ⟨⟨C1, E1⟩, hCE⟩ : ∃ s, fiS hits f b e (C, E) j = s := ⟨_, rfl⟩
      rw [hCE] at HR HN l1 l2
      dsimp only at HR HN l1 l2
      obtain ⟨v, hv⟩ : ∃ v, cl C1 (hits + j) = v := ⟨_, rfl⟩
      have HV := Lib.hid hv
      rw [hv] at HN
      have hv2 : (n64 v % 2 == 1) = decide (v.toNat % 2 = 1) := by
        unfold n64; rw [Bool.eq_iff_iff]; simp; omega
      have hv0 := n64_nonneg v
      obtain ⟨d, hd⟩ : ∃ d, decide (v.toNat % 2 = 1) = d := ⟨_, rfl⟩
      have HFV : Hid (fiV b e j v = if b && d then (msk true, e, BitVec.ofNat 64 j) else (0#64, 0#64, 0#64)) := Lib.hid (by rw [← hd]; rfl)
      rw [hd] at hv2
      obtain ⟨vv, hvv⟩ : ∃ vv, n64 v = vv := ⟨_, rfl⟩
      rw [hvv] at hv2 hv0
      have HVV := Lib.hid hvv
      have HB : Hid (b = false ∨ (b = true ∧ d = false) ∨ (b = true ∧ d = true)) := Lib.hid (by cases b <;> cases d <;> simp)
      clear hCE hv hd hvv
      go_wp2_with fail
      refine (HR.out.call (fun w F ha => by have := rload_ok ha ((hits : Int) + (j : Int)) (by omega) (by rw [l1]; omega) (by omega); rw [show ((hits : Int) + (j : Int)).toNat = hits + j by omega, HV.out, HVV.out] at this; exact this)).mono ?_
      rintro e w0 ⟨rfl, h1⟩
      obtain ⟨⟨y0, y1, y2⟩, hy⟩ : ∃ y, fiV b e j v = y := ⟨_, rfl⟩
      rw [hy] at HN
      have HFV2 := HFV.out
      rw [hy] at HFV2
      have hbd := HB.out
      have HJ : Hid (n64 (BitVec.ofNat 64 j) = (j : Int)) := Lib.hid (by unfold n64; rw [BitVec.toNat_ofNat, Nat.mod_eq_of_lt (by omega)])
      have H1 := Lib.hid h1
      clear h1 HR HB HFV hy
      rcases hbd with hb1 | ⟨hb1, hd1⟩ | ⟨hb1, hd1⟩
      · rw [hb1] at hm0
        rw [hb1] at HFV2
        have HY : Hid (n64 y0 = 0 ∧ n64 y1 = 0 ∧ n64 y2 = 0) := Lib.hid (by rw [show (false && d) = false from rfl, if_neg (by decide)] at HFV2; injection HFV2 with a1 a2; injection a2 with a2 a3; rw [a1, a2, a3]; exact ⟨rfl, rfl, rfl⟩)
        have H0 := Lib.hid (H1.out.push 75 #[.int .u64 0, .int .u64 0, .int .u64 0])
        clear HFV2 hb1 H1
        go_wp2_with fail
        refine (H0.out.call (fun w F ha => by have := rstore_ok ha ((f : Int) + 3 * (j : Int)) y0 (by omega) (by rw [l1]; omega) (by simp [l2]; omega); rw [show ((f : Int) + 3 * (j : Int)).toNat = f + 3 * j by omega, HY.out.1] at this; exact this)).mono ?_
        rintro e w1 ⟨rfl, h1⟩
        have c1 := (h1.blk (List.mem_cons_self ..)).cell 1
        simp only [List.getElem?_toArray, List.getElem?_cons_succ, List.getElem?_cons_zero] at c1
        have H1 := Lib.hid h1
        clear h1 H0
        go_wp2_with fail
        refine (H1.out.call (fun w F ha => by have := rstore_ok ha ((f : Int) + 3 * (j : Int) + 1) y1 (by omega) (by simp [l1]; omega) (by simp [l2]; omega); rw [show ((f : Int) + 3 * (j : Int) + 1).toNat = f + 3 * j + 1 by omega, HY.out.2.1] at this; exact this)).mono ?_
        rintro e w2 ⟨rfl, h2⟩
        have c2 := (h2.blk (List.mem_cons_self ..)).cell 2
        simp only [List.getElem?_toArray, List.getElem?_cons_succ, List.getElem?_cons_zero] at c2
        have H2 := Lib.hid h2
        clear h2 H1
        go_wp2_with fail
        refine (H2.out.call (fun w F ha => by have := rstore_ok ha ((f : Int) + 3 * (j : Int) + 2) y2 (by omega) (by simp [l1]; omega) (by simp [l2]; omega); rw [show ((f : Int) + 3 * (j : Int) + 2).toNat = f + 3 * j + 2 by omega, HY.out.2.2] at this; exact this)).mono ?_
        rintro e w3 ⟨rfl, h3⟩
        have H3 := Lib.hid h3
        clear h3 H2
        go_wp2_with fail
        go_roundw
        case rel => exact ⟨j + 1, hlt, by go_num, by rw [HN.out]; exact H3.out.drop⟩
        case measure => simp [intOf]; omega
      · rw [hb1] at hm0
        rw [hd1] at hv2
        rw [hb1, hd1] at HFV2
        have HY : Hid (n64 y0 = 0 ∧ n64 y1 = 0 ∧ n64 y2 = 0) := Lib.hid (by rw [show (true && false) = false from rfl, if_neg (by decide)] at HFV2; injection HFV2 with a1 a2; injection a2 with a2 a3; rw [a1, a2, a3]; exact ⟨rfl, rfl, rfl⟩)
        have H0 := Lib.hid (H1.out.push 75 #[.int .u64 0, .int .u64 0, .int .u64 0])
        clear HFV2 hb1 H1
        go_wp2_with fail
        refine (H0.out.call (fun w F ha => by have := rstore_ok ha ((f : Int) + 3 * (j : Int)) y0 (by omega) (by rw [l1]; omega) (by simp [l2]; omega); rw [show ((f : Int) + 3 * (j : Int)).toNat = f + 3 * j by omega, HY.out.1] at this; exact this)).mono ?_
        rintro e w1 ⟨rfl, h1⟩
        have c1 := (h1.blk (List.mem_cons_self ..)).cell 1
        simp only [List.getElem?_toArray, List.getElem?_cons_succ, List.getElem?_cons_zero] at c1
        have H1 := Lib.hid h1
        clear h1 H0
        go_wp2_with fail
        refine (H1.out.call (fun w F ha => by have := rstore_ok ha ((f : Int) + 3 * (j : Int) + 1) y1 (by omega) (by simp [l1]; omega) (by simp [l2]; omega); rw [show ((f : Int) + 3 * (j : Int) + 1).toNat = f + 3 * j + 1 by omega, HY.out.2.1] at this; exact this)).mono ?_
        rintro e w2 ⟨rfl, h2⟩
        have c2 := (h2.blk (List.mem_cons_self ..)).cell 2
        simp only [List.getElem?_toArray, List.getElem?_cons_succ, List.getElem?_cons_zero] at c2
        have H2 := Lib.hid h2
        clear h2 H1
        go_wp2_with fail
        refine (H2.out.call (fun w F ha => by have := rstore_ok ha ((f : Int) + 3 * (j : Int) + 2) y2 (by omega) (by simp [l1]; omega) (by simp [l2]; omega); rw [show ((f : Int) + 3 * (j : Int) + 2).toNat = f + 3 * j + 2 by omega, HY.out.2.2] at this; exact this)).mono ?_
        rintro e w3 ⟨rfl, h3⟩
        have H3 := Lib.hid h3
        clear h3 H2
        go_wp2_with fail
        go_roundw
        case rel => exact ⟨j + 1, hlt, by go_num, by rw [HN.out]; exact H3.out.drop⟩
        case measure => simp [intOf]; omega
      · rw [hb1] at hm0
        rw [hd1] at hv2
        rw [hb1, hd1] at HFV2
        have HY : Hid (n64 y0 = mv ∧ n64 y1 = ev ∧ n64 y2 = (j : Int)) := Lib.hid (by rw [show (true && true) = true from rfl, if_pos rfl] at HFV2; injection HFV2 with a1 a2; injection a2 with a2 a3; rw [a1, a2, a3, ← hb1]; exact ⟨HMV.out, HEV.out, HJ.out⟩)
        have H0 := Lib.hid (H1.out.push 75 #[.int .u64 mv, .int .u64 ev, .int .u64 (j : Int)])
        clear HFV2 hb1 H1
        go_wp2_with fail
        refine (H0.out.call (fun w F ha => by have := rstore_ok ha ((f : Int) + 3 * (j : Int)) y0 (by omega) (by rw [l1]; omega) (by simp [l2]; omega); rw [show ((f : Int) + 3 * (j : Int)).toNat = f + 3 * j by omega, HY.out.1] at this; exact this)).mono ?_
        rintro e w1 ⟨rfl, h1⟩
        have c1 := (h1.blk (List.mem_cons_self ..)).cell 1
        simp only [List.getElem?_toArray, List.getElem?_cons_succ, List.getElem?_cons_zero] at c1
        have H1 := Lib.hid h1
        clear h1 H0
        go_wp2_with fail
        refine (H1.out.call (fun w F ha => by have := rstore_ok ha ((f : Int) + 3 * (j : Int) + 1) y1 (by omega) (by simp [l1]; omega) (by simp [l2]; omega); rw [show ((f : Int) + 3 * (j : Int) + 1).toNat = f + 3 * j + 1 by omega, HY.out.2.1] at this; exact this)).mono ?_
        rintro e w2 ⟨rfl, h2⟩
        have c2 := (h2.blk (List.mem_cons_self ..)).cell 2
        simp only [List.getElem?_toArray, List.getElem?_cons_succ, List.getElem?_cons_zero] at c2
        have H2 := Lib.hid h2
        clear h2 H1
        go_wp2_with fail
        refine (H2.out.call (fun w F ha => by have := rstore_ok ha ((f : Int) + 3 * (j : Int) + 2) y2 (by omega) (by simp [l1]; omega) (by simp [l2]; omega); rw [show ((f : Int) + 3 * (j : Int) + 2).toNat = f + 3 * j + 2 by omega, HY.out.2.2] at this; exact this)).mono ?_
        rintro e w3 ⟨rfl, h3⟩
        have H3 := Lib.hid h3
        clear h3 H2
        go_wp2_with fail
        go_roundw
        case rel => exact ⟨j + 1, hlt, by go_num, by rw [HN.out]; exact H3.out.drop⟩
        case measure => simp [intOf]; omega
end
end Go.Proofs.Ytonkhgmfeakbcaa
