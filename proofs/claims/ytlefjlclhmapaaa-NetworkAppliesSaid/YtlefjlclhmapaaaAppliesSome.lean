/-
  dragnetlaw24.NetworkApplies where Apply returns slots.
-/
import Derived.Test.YtlefjlclhmapaaaAppliesOps
import Derived.Test.YtlefjlclhmapaaaAwake24
import Derived.Test.YtlefjlclhmapaaaNetRouteErr
import Derived.BigQuiet
import Derived.Deep.QuietTactic
namespace Go.Proofs.Ytlefjlclhmapaaa
open Go.RowKit
set_option linter.unusedVariables false
set_option linter.unusedSimpArgs false
set_option maxRecDepth 100000
theorem ix3_0 (a b c : Int) (w : World) : (Instr.index 52 (.agg #[.int .u64 a, .int .u64 b, .int .u64 c]) (.int .i64 0)).run Try.prog w = .ok (.int .u64 a) w := by kernel_rfl
theorem ix3_1 (a b c : Int) (w : World) : (Instr.index 52 (.agg #[.int .u64 a, .int .u64 b, .int .u64 c]) (.int .i64 1)).run Try.prog w = .ok (.int .u64 b) w := by kernel_rfl
theorem ix3_2 (a b c : Int) (w : World) : (Instr.index 52 (.agg #[.int .u64 a, .int .u64 b, .int .u64 c]) (.int .i64 2)).run Try.prog w = .ok (.int .u64 c) w := by kernel_rfl
attribute [local go_sem] ix3_0 ix3_1 ix3_2
set_option maxHeartbeats 16000000 in
theorem applies_some (w : World) (b o n c b2 o2 c2 : Nat) (A : List Sl) (D : List Nat) (hA : A.length = n) (hD : D.length = n) (hn1 : 1 ≤ n) (hn : n ≤ 288) (hb : b < w.heap.size) (hb2 : b2 < w.heap.size)
    (hcA : ∀ j u, (slC A)[j]? = some u → w.cell? ⟨b, o + j, none⟩ = some u) (hcD : ∀ j u, (inC D)[j]? = some u → w.cell? ⟨b2, o2 + j, none⟩ = some u) (hd : ∀ i, i < n → D.getD i 0 ≤ i) :
    Calls Try.prog 5 #[.slice (some ⟨b, o, none⟩) n c, .slice (some ⟨b2, o2, none⟩) n c2] w (BoolNew true w) := by
  have HNA := Lib.hid (napply_ok n b o c b2 o2 c2 A D hA hD hn1 hn w hb hb2 hcA hcD hd)
  have HRA : Hid (∀ W, Off Nob w W → Calls Try.prog 20 #[.slice (some ⟨b, o, none⟩) n c, .slice (some ⟨b2, o2, none⟩) n c2] W fun e w' => ∃ g cap, e = .returned (.tuple #[.slice (some ⟨g, 0, none⟩) n cap, .int .i64 0]) ∧ n ≤ cap ∧ w'.ownsRow W.heap.size 41 3 (.slice (some ⟨g, 0, none⟩) n cap) n (slC (apL A D (moves n)).1) ∧ Off Nob W w') := Lib.hid (fun W ho => rapply_ok n b o c b2 o2 c2 A D hA hD hn1 hn W (Nat.lt_of_lt_of_le hb ho.size) (Nat.lt_of_lt_of_le hb2 ho.size) (fun j u hj => (ho.cell_old hb _).trans (hcA j u hj)) (fun j u hj => (ho.cell_old hb2 _).trans (hcD j u hj)) hd)
  have HAl := Lib.hid hA
  have HDl := Lib.hid hD
  have HDb : Hid (∀ i, D.getD i 0 ≤ 288) := Lib.hid (fun i => by
    by_cases h : i < n
    · have := hd i h; omega
    · simp [List.getD, List.getElem?_eq_none (show D.length ≤ i by omega)])
  have HCELL : Hid (∀ k, k < n → ∀ W, Off Nob w W → (W.cell? ⟨b, o + k * 3, none⟩ = some (.int .u64 (n64 (sl A k).1)) ∧ W.cell? ⟨b, o + k * 3 + 1, none⟩ = some (.int .u64 (n64 (sl A k).2.1)) ∧ W.cell? ⟨b, o + k * 3 + 2, none⟩ = some (.int .u64 (n64 (sl A k).2.2))) ∧ W.cell? ⟨b2, o2 + k, none⟩ = some (.int .i64 ((D.getD k 0 : Nat) : Int))) := Lib.hid (fun k hk W ho => by
    obtain ⟨a0, a1, a2⟩ := slC_at A k (by omega)
    have e0 := (ho.cell_old hb _).trans (hcA _ _ a0)
    have e1 := (ho.cell_old hb _).trans (hcA _ _ a1)
    have e2 := (ho.cell_old hb _).trans (hcA _ _ a2)
    simp only [← Nat.add_assoc] at e1 e2
    exact ⟨⟨e0, e1, e2⟩, (ho.cell_old hb2 _).trans (hcD _ _ (inC_at D k (by omega)))⟩)
  clear hcA hcD hA hD hd
  have hd0 : decide ((300 : Int) < (n : Int)) = false := decide_eq_false (by omega)
  go_enter Try.func5, Try.ntmps5
  go_wp2_with fail
  refine HNA.out.mono ?_
  rintro e w1 ⟨g1, c1, rfl, hc1, r1, o1⟩
  have R1 := Lib.hid r1
  have O1 := Lib.hid o1
  clear r1 o1 HNA
  go_wp2_with fail
  refine (HRA.out _ O1.out).mono ?_
  rintro e w2 ⟨g2, c3, rfl, hc3, r2, o2'⟩
  have SS := Lib.hid (sameSl_eq (Rd.own (own_to R1.out (fun g hg => o2'.block g (R1.out.lt g hg).2 (fun h => h))) (F := fun _ => True) (fun _ _ => trivial)) (Rd.own r2 (F := fun _ => True) (fun _ _ => trivial)))
  have O2 := Lib.hid o2'
  clear r2 o2' HRA
  go_wp2_with fail
  refine SS.out.mono ?_
  rintro e w3 ⟨rfl, o3⟩
  have hg1 := (R1.out.lt g1 rfl)
  have V3 : Hid (Off Nob w w3 ∧ w3.ownsRow w.heap.size 41 3 (.slice (some ⟨g1, 0, none⟩) n c1) n (slC (apL A D (moves n)).1)) := Lib.hid ⟨(O1.out.also O2.out).also o3, own_to R1.out (fun g hg => (o3.block g (Nat.lt_of_lt_of_le (R1.out.lt g hg).2 O2.out.size) (fun h => h)).trans (O2.out.block g (R1.out.lt g hg).2 (fun h => h)))⟩
  clear SS o3 O1 O2 R1 hc3 hg1
  by_cases h60 : 60 < n
  · have hd1 : decide ((60 : Int) < (n : Int)) = true := decide_eq_true (by omega)
    go_wp2_with fail
    refine (awake_ok _).mono ?_
    rintro e w4 ⟨rfl, o4⟩
    go_wp2
    go_ret
    exact ⟨rfl, V3.out.1.also o4⟩
  have hd1 : decide ((60 : Int) < (n : Int)) = false := decide_eq_false (by omega)
  go_wp2_with fail
  refine Calls.mono (R := fun e w' => ∃ p, e = .returned (.tuple #[.pointer (some ⟨p, 0, none⟩), .int .i64 0]) ∧ ∃ F, Ar w' F p (List.replicate (4 * n) 0) [] ∧ Off Nob w3 w' ∧ ∀ k, F k → w3.heap.size ≤ k) (by have := new_ok (4 * n) w3 (by omega) (by omega); rwa [show ((4 * n : Nat) : Int) = 4 * (n : Int) by omega] at this) ?_
  rintro e w4 ⟨p, rfl, F, ha, ho, hF⟩
  have Q4 := Lib.hid (And.intro ha (And.intro ho hF))
  clear ha ho hF
  go_wp2_with fail
  refine Calls.mono (R := fun e w' => ∃ p, e = .returned (.tuple #[.pointer (some ⟨p, 0, none⟩), .int .i64 0]) ∧ ∃ F, Rf w' F p (List.replicate (4 * n) 0) [] ∧ Off Nob w4 w' ∧ ∀ k, F k → w4.heap.size ≤ k) (by have := rnew_ok (4 * n) w4 (by omega) (by omega); rwa [show ((4 * n : Nat) : Int) = 4 * (n : Int) by omega] at this) ?_
  rintro e w5 ⟨r, rfl, R, hr, ho, hR⟩
  obtain ⟨RR, hRR⟩ : ∃ x, apL A D (moves n) = x := ⟨_, rfl⟩
  have HRR := Lib.hid hRR
  rw [hRR] at V3
  have T0 : Hid (ApP w w5 (.slice (some ⟨g1, 0, none⟩) n c1) n RR.1 p r (List.replicate (4 * n) 0) [] (List.replicate (4 * n) 0) []) := Lib.hid (by
    obtain ⟨q1, q2, q3⟩ := Q4.out
    obtain ⟨u1, u2⟩ := V3.out
    have z1 := u2.lt g1 rfl
    have z3 := u1.size
    have z4 := q2.size
    have z5 := ho.size
    refine ⟨fun k => k = g1, ⟨F, R, q1.keep ho (fun _ _ hn => hn), hr, (u1.also q2).also ho, fun k hk => ?_, fun k hk => ?_, fun k hk hn => ?_, fun k hk => ?_⟩, ?_⟩
    · have := q3 k hk; omega
    · have := hR k hk; omega
    · have := hR k hn; have := q1.lt k hk; omega
    · subst hk
      exact ⟨by omega, fun h => by have := q3 _ h; omega, fun h => by have := hR _ h; omega⟩
    · exact Rd.own (own_to u2 (fun g hg => (ho.block g (Nat.lt_of_lt_of_le (u2.lt g hg).2 z4) (fun h => h)).trans (q2.block g (u2.lt g hg).2 (fun h => h)))) (F := fun k => k = g1) (fun g hg => by
        have e : g1 = g := by simpa [Value.ownBlock] using hg
        exact e.symm))
  clear Q4 V3 hr ho hR hRR hc1
  generalize Value.slice (some ⟨g1, 0, none⟩) n c1 = sv at *
  go_wp2_with fail
  go_loopw [13] (fun i wr => ∃ k : Nat, k ≤ n ∧ i = .int .i64 (k : Int) ∧ ∃ C E, ApP w wr sv n RR.1 p r C E C E ∧ PkD A D n k C ∧ E.length = 4 * k) (fun i _ => n - (intOf i).toNat)
  case atStart => exact ⟨0, Nat.zero_le _, rfl, _, _, T0.out, ⟨by simp, fun i hi => absurd hi (by omega)⟩, rfl⟩
  case round =>
    obtain ⟨k, hk, rfl, C, E, hrel, hC, hE⟩ := hrel
    clear T0
    by_cases hlt : k < n
    · have T0 := Lib.hid hrel
      clear hrel
      have KC : Hid (∀ W, Off Nob w W → W.cell? ⟨b, o + k * 3, none⟩ = some (.int .u64 (n64 (sl A k).1)) ∧ W.cell? ⟨b, o + k * 3 + 1, none⟩ = some (.int .u64 (n64 (sl A k).2.1)) ∧ W.cell? ⟨b, o + k * 3 + 2, none⟩ = some (.int .u64 (n64 (sl A k).2.2))) := Lib.hid (fun W h => (HCELL.out k hlt W h).1)
      have KD : Hid (∀ W, Off Nob w W → W.cell? ⟨b2, o2 + k, none⟩ = some (.int .i64 ((D.getD k 0 : Nat) : Int))) := Lib.hid (fun W h => (HCELL.out k hlt W h).2)
      have CC := Lib.hid (PkD.step (s := (C, E)) hC hlt)
      obtain ⟨x0, hx0⟩ : ∃ x, (sl A k).1 = x := ⟨_, rfl⟩
      obtain ⟨x1, hx1⟩ : ∃ x, (sl A k).2.1 = x := ⟨_, rfl⟩
      obtain ⟨x2, hx2⟩ : ∃ x, (sl A k).2.2 = x := ⟨_, rfl⟩
      have hd288 := HDb.out k
      obtain ⟨dk, hdk⟩ : ∃ d, D.getD k 0 = d := ⟨_, rfl⟩
      rw [hx0, hx1, hx2] at KC
      rw [hdk] at KD CC hd288
      have HX := Lib.hid (And.intro hx0 (And.intro hx1 hx2))
      have HCl := Lib.hid hC.1
      clear hx0 hx1 hx2 hdk
      go_wp2_with fail
      go_loopw [14] (fun i wq => (∃ cc : Nat, ((cc = 0 ∧ i = .int .i64 0) ∨ (cc = 1 ∧ i = .int .i64 1) ∨ (cc = 2 ∧ i = .int .i64 2) ∨ (cc = 3 ∧ i = .int .i64 3)) ∧ ApP w wq sv n RR.1 p r (slS A k (C, E) cc).1 (slS A k (C, E) cc).2 (slS A k (C, E) cc).1 (slS A k (C, E) cc).2)) (fun i _ => 3 - (intOf i).toNat)
      case atStart => exact ⟨0, .inl ⟨rfl, rfl⟩, T0.out⟩
      case round =>
        obtain ⟨cc, hcc, hrel2⟩ := hrel
        clear T0
        rcases hcc with ⟨rfl, rfl⟩ | ⟨rfl, rfl⟩ | ⟨rfl, rfl⟩ | ⟨rfl, rfl⟩
        · obtain ⟨hl1, hl2⟩ := slS_len A k (C, E) 0 (by decide)
          rw [hC.1] at hl1
          rw [hE] at hl2
          have HST := Lib.hid (show ((slS A k (C, E) 0).1.set (3 * k) x0, (slS A k (C, E) 0).2 ++ [(2, 3 * k)]) = slS A k (C, E) 1 by rw [← HX.out.1]; rfl)
          have T0 := Lib.hid hrel2
          clear hrel2
          obtain ⟨a0, a1, a2⟩ := KC.out _ T0.out.old
          go_wp2_with fail
          go_quiet (fail)
          replace T0 := Lib.hid (T0.out.off (Off.drewN (Off.refl _ _) nq))
          clear a0 a1 a2
          go_wp2_with fail
          refine Calls.mono (T0.out.first (fun w F h => store_ok h (3 * (k : Int)) x0 (by omega) (by rw [hl1]; omega) (by rw [hl2]; omega))) ?_
          rintro e v1 ⟨rfl, h1⟩
          have T1 := Lib.hid h1
          clear h1 T0
          go_wp2_with fail
          refine Calls.mono (T1.out.second (fun w F h => rstore_ok h (3 * (k : Int)) x0 (by omega) (by rw [hl1]; omega) (by rw [hl2]; omega))) ?_
          rintro e v2 ⟨rfl, h2⟩
          have T2 := Lib.hid h2
          clear h2 T1
          rw [show (3 * (k : Int)).toNat = 3 * k by omega] at T2
          go_wp2_with fail
          go_roundw
          case rel => exact ⟨1, .inr (.inl ⟨rfl, by first | rfl | go_num⟩), by rw [← HST.out]; exact T2.out⟩
          case measure => simp [intOf]
        · obtain ⟨hl1, hl2⟩ := slS_len A k (C, E) 1 (by decide)
          rw [hC.1] at hl1
          rw [hE] at hl2
          have HST := Lib.hid (show ((slS A k (C, E) 1).1.set (3 * k + 1) x1, (slS A k (C, E) 1).2 ++ [(2, 3 * k + 1)]) = slS A k (C, E) 2 by rw [← HX.out.2.1]; rfl)
          have T0 := Lib.hid hrel2
          clear hrel2
          obtain ⟨a0, a1, a2⟩ := KC.out _ T0.out.old
          go_wp2_with fail
          go_quiet (fail)
          replace T0 := Lib.hid (T0.out.off (Off.drewN (Off.refl _ _) nq))
          clear a0 a1 a2
          go_wp2_with fail
          refine Calls.mono (T0.out.first (fun w F h => store_ok h (3 * (k : Int) + 1) x1 (by omega) (by rw [hl1]; omega) (by rw [hl2]; omega))) ?_
          rintro e v1 ⟨rfl, h1⟩
          have T1 := Lib.hid h1
          clear h1 T0
          go_wp2_with fail
          refine Calls.mono (T1.out.second (fun w F h => rstore_ok h (3 * (k : Int) + 1) x1 (by omega) (by rw [hl1]; omega) (by rw [hl2]; omega))) ?_
          rintro e v2 ⟨rfl, h2⟩
          have T2 := Lib.hid h2
          clear h2 T1
          rw [show (3 * (k : Int) + 1).toNat = 3 * k + 1 by omega] at T2
          go_wp2_with fail
          go_roundw
          case rel => exact ⟨2, .inr (.inr (.inl ⟨rfl, by first | rfl | go_num⟩)), by rw [← HST.out]; exact T2.out⟩
          case measure => simp [intOf]
        · obtain ⟨hl1, hl2⟩ := slS_len A k (C, E) 2 (by decide)
          rw [hC.1] at hl1
          rw [hE] at hl2
          have HST := Lib.hid (show ((slS A k (C, E) 2).1.set (3 * k + 2) x2, (slS A k (C, E) 2).2 ++ [(2, 3 * k + 2)]) = slS A k (C, E) 3 by rw [← HX.out.2.2]; rfl)
          have T0 := Lib.hid hrel2
          clear hrel2
          obtain ⟨a0, a1, a2⟩ := KC.out _ T0.out.old
          go_wp2_with fail
          go_quiet (fail)
          replace T0 := Lib.hid (T0.out.off (Off.drewN (Off.refl _ _) nq))
          clear a0 a1 a2
          go_wp2_with fail
          refine Calls.mono (T0.out.first (fun w F h => store_ok h (3 * (k : Int) + 2) x2 (by omega) (by rw [hl1]; omega) (by rw [hl2]; omega))) ?_
          rintro e v1 ⟨rfl, h1⟩
          have T1 := Lib.hid h1
          clear h1 T0
          go_wp2_with fail
          refine Calls.mono (T1.out.second (fun w F h => rstore_ok h (3 * (k : Int) + 2) x2 (by omega) (by rw [hl1]; omega) (by rw [hl2]; omega))) ?_
          rintro e v2 ⟨rfl, h2⟩
          have T2 := Lib.hid h2
          clear h2 T1
          rw [show (3 * (k : Int) + 2).toNat = 3 * k + 2 by omega] at T2
          go_wp2_with fail
          go_roundw
          case rel => exact ⟨3, .inr (.inr (.inr ⟨rfl, by first | rfl | go_num⟩)), by rw [← HST.out]; exact T2.out⟩
          case measure => simp [intOf]
        · have MARK1 := True.intro
          have T3 := Lib.hid hrel2
          clear hrel2
          obtain ⟨hl1, hl2⟩ := slS_len A k (C, E) 3 (by decide)
          rw [hC.1] at hl1
          rw [hE] at hl2
          have a3 := KD.out _ T3.out.old
          go_wp2_with fail
          have MARK2 := True.intro
          have hv : n64 (BitVec.ofNat 64 dk) = (dk : Int) := by unfold n64; rw [BitVec.toNat_ofNat, Nat.mod_eq_of_lt (by omega)]
          refine Calls.mono (T3.out.first (C2 := (slS A k (C, E) 3).1.set (3 * n + k) (BitVec.ofNat 64 dk)) (E2 := (slS A k (C, E) 3).2 ++ [(2, 3 * n + k)]) (e0 := .returned (.int .i64 0)) (fun w F h => by
            have := store_ok h (3 * (n : Int) + (k : Int)) (BitVec.ofNat 64 dk) (by omega) (by rw [hl1]; omega) (by rw [hl2]; omega)
            rwa [hv, show (3 * (n : Int) + (k : Int)).toNat = 3 * n + k by omega] at this)) ?_
          rintro e v1 ⟨rfl, h1⟩
          have T4 := Lib.hid h1
          clear h1 T3 a3
          have a3 := KD.out _ T4.out.old
          go_wp2_with fail
          refine Calls.mono (T4.out.second (C2 := (slS A k (C, E) 3).1.set (3 * n + k) (BitVec.ofNat 64 dk)) (E2 := (slS A k (C, E) 3).2 ++ [(2, 3 * n + k)]) (e0 := .returned (.int .i64 0)) (fun w F h => by
            have := rstore_ok h (3 * (n : Int) + (k : Int)) (BitVec.ofNat 64 dk) (by omega) (by rw [hl1]; omega) (by rw [hl2]; omega)
            rwa [hv, show (3 * (n : Int) + (k : Int)).toNat = 3 * n + k by omega] at this)) ?_
          rintro e v2 ⟨rfl, h2⟩
          have T5 := Lib.hid h2
          clear h2 T4 a3
          go_wp2_with fail
          go_roundw
          case rel => exact ⟨k + 1, hlt, by go_num, _, _, T5.out, CC.out, by rw [List.length_append, hl2]; simp; omega⟩
          case measure => simp [intOf]; omega
    · obtain rfl : k = n := by omega
      have T0 := Lib.hid hrel
      obtain ⟨hCl, hCC⟩ := hC
      obtain ⟨l1, l2, l3⟩ := moves_le hn1 hn
      have hz : rtE C.length E.length ((0 : Nat) : Int) (k : Int) ((3 * k : Nat) : Int) = 0 := by
        have e1 : hasE (4 * k) ((0 : Nat) : Int) (3 * (k : Int)) = 0 := by unfold hasE; rw [if_neg (by omega)]
        have e2 : hasE (4 * k) ((3 * k : Nat) : Int) (k : Int) = 0 := by unfold hasE; rw [if_neg (by omega)]
        have e3 : roomE (4 * k) ((16 * (moves k).length : Nat) : Int) = 0 := by unfold roomE; rw [if_neg (by omega), if_neg (by omega)]
        unfold rtE
        rw [Int.toNat_natCast, hCl, hE, if_neg (by omega), e1, if_pos rfl, e2, if_pos rfl, if_neg (by omega), e3]
      have RC : Hid (rdL 0 (rtL 0 (3 * k) (C, E) (moves k)).1 k = RR.1) := Lib.hid (by
        rw [← HRR.out]
        exact rdL_of (relC_route (c := (C, E)) ⟨by show 4 * k ≤ C.length; omega, HAl.out, HDl.out, fun i => HDb.out i, fun i hi => hCC i hi⟩))
      have RL : Hid ((rtL 0 (3 * k) (C, E) (moves k)).1.length = 4 * k ∧ (rtL 0 (3 * k) (C, E) (moves k)).2.length = 4 * k + 16 * (moves k).length) := Lib.hid (by
        obtain ⟨a, b⟩ := rtL_len 0 (3 * k) (C, E) (moves k)
        exact ⟨a.trans hCl, by rw [b]; show E.length + _ = _; rw [hE]⟩)
      have HR : Hid (∀ w F, Ar w F p C E → Calls Try.prog 25 #[.pointer (some ⟨p, 0, none⟩), .int .i64 0, .int .i64 (k : Int), .int .i64 (3 * (k : Int))] w fun e w' => e = .returned (.int .i64 0) ∧ ArTo w F p (rtL 0 (3 * k) (C, E) (moves k)).1 (rtL 0 (3 * k) (C, E) (moves k)).2 w') := Lib.hid (fun w F h => by
        have := nroute_ok h 0 k (3 * k) hz
        rwa [show ((3 * k : Nat) : Int) = 3 * (k : Int) by omega, show ((0 : Nat) : Int) = 0 from rfl] at this)
      have HR2 : Hid (∀ w F, Rf w F r C E → Calls Try.prog 26 #[.pointer (some ⟨r, 0, none⟩), .int .i64 0, .int .i64 (k : Int), .int .i64 (3 * (k : Int))] w fun e w' => e = .returned (.int .i64 0) ∧ RfTo w F r (rtL 0 (3 * k) (C, E) (moves k)).1 (rtL 0 (3 * k) (C, E) (moves k)).2 w') := Lib.hid (fun w F h => by
        have := rroute_ok h 0 k (3 * k) hz
        rwa [show ((3 * k : Nat) : Int) = 3 * (k : Int) by omega, show ((0 : Nat) : Int) = 0 from rfl] at this)
      clear hz hCC hrel
      revert RC RL HR HR2
      generalize (rtL 0 (3 * k) (C, E) (moves k)).1 = C2
      generalize (rtL 0 (3 * k) (C, E) (moves k)).2 = E2
      intro RC RL HR HR2
      have hE2 : E2.length ≤ 8000000 := by rw [RL.out.2]; omega
      have HRD : Hid (∀ W E, ApP w W sv k RR.1 p r C2 E C2 E2 → Calls Try.prog 27 #[.pointer (some ⟨r, 0, none⟩), .int .i64 0, .int .i64 (k : Int)] W fun e w' => ∃ u E3, e = .returned (.tuple #[u, .int .i64 0]) ∧ ApP w w' sv k RR.1 p r C2 E C2 E3 ∧ ∃ G, Rd w' G 3 u k (slC RR.1)) := Lib.hid (fun W E h => h.read 0 k (ckS_ok ⟨by omega, by omega, by omega, by rw [RL.out.1]; omega, by omega⟩) RC.out rfl)
      clear l1 l2 l3
      go_wp2_with fail
      have MARK3 := True.intro
      refine (T0.out.first HR.out).mono ?_
      rintro e v2 ⟨rfl, h2⟩
      have T2 := Lib.hid h2
      clear h2 T0 HR
      go_wp2_with fail
      refine (T2.out.second HR2.out).mono ?_
      rintro e v3 ⟨rfl, h3⟩
      have T3 := Lib.hid h3
      clear h3 T2 HR2
      go_wp2_with fail
      refine (HRD.out _ _ T3.out).mono ?_
      rintro e v4 ⟨u, E3, rfl, h4, G4, hu⟩
      have T4 := Lib.hid h4
      have U4 := Lib.hid hu
      clear h4 hu T3 HRD
      go_wp2_with fail
      have MARK4 := True.intro
      obtain ⟨F4, ha4⟩ := T4.out.ar
      refine (cells_ok ha4).mono ?_
      rintro e v5 ⟨vc, rfl, hv5, o5⟩
      have T5 := Lib.hid (T4.out.off o5)
      have U5 := Lib.hid (U4.out.keep o5 (fun _ _ h => h))
      have V5 := Lib.hid hv5
      clear hv5 o5 T4 U4 ha4
      go_wp2_with fail
      obtain ⟨F5, ha5⟩ := T5.out.rf
      refine (rcells_ok ha5).mono ?_
      rintro e v6 ⟨vr, rfl, hv6, o6⟩
      have T6 := Lib.hid (T5.out.off o6)
      have U6 := Lib.hid (U5.out.keep o6 (fun _ _ h => h))
      have SC := Lib.hid (sameCells_any (Rd.own (own_to V5.out (fun g hg => o6.block g (V5.out.lt g hg).2 (fun h => h))) (F := fun _ => True) (fun _ _ => trivial)) (Rd.own hv6 (F := fun _ => True) (fun _ _ => trivial)))
      clear hv6 o6 T5 U5 V5 ha5
      go_wp2_with fail
      refine Calls.mono (R := BoolNew true v6) (by have := SC.out; unfold sameB at this; rwa [decide_eq_true rfl] at this) ?_
      rintro e v7 ⟨rfl, o7⟩
      have T7 := Lib.hid (T6.out.off o7)
      obtain ⟨G7, hs7⟩ := T7.out.rd
      have SL7 := Lib.hid (sameSl_eq (U6.out.keep o7 (fun _ _ h => h)) hs7)
      clear o7 T6 U6 SC hs7
      go_wp2_with fail
      refine SL7.out.mono ?_
      rintro e v8 ⟨rfl, o8⟩
      have O8 := Lib.hid (T7.out.old.also o8)
      clear o8 T7 SL7
      go_wp2_with fail
      refine (awake_ok _).mono ?_
      rintro e v9 ⟨rfl, o9⟩
      have O9 := Lib.hid (O8.out.also o9)
      clear o9
      go_wp2
      go_ret
      exact ⟨rfl, O9.out⟩
end Go.Proofs.Ytlefjlclhmapaaa
