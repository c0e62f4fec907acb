import Derived.Test.YtedbafgejladiaaGreatComp
import Derived.Test.YtedbafgejladiaaGreatRef24RtE
import Derived.Test.YtedbafgejladiaaGreatRef23b
import Derived.Test.YtedbafgejladiaaGreatRef10Ops
import Derived.Test.YtedbafgejladiaaGreatPG
import Derived.BigQuiet
/-
  dragnetref25: right, Steps, parts, asked, Compact.
-/
namespace Go.Proofs.YtedbafgejladiaaGreat
open Go.RowKit
attribute [local go_sem] bits_and_u64 bits_or_u64 bits_xor_u64 bits_andNot_u64 wrap_u64 bv_add bv_neg bv_sub bv_mul
set_option linter.unusedVariables false
set_option linter.unusedSimpArgs false
set_option maxRecDepth 100000
theorem rright_ok (k n : Int) (h : ¬ (k < 1 ∨ 32 < k ∨ n < 1 ∨ 256 < n)) (w : World) : Calls Tryz.prog 22 #[.int .i64 k, .int .i64 n] w fun e w' => e = .returned (.bool true) ∧ w = w' := by
  have t1 : decide (1 ≤ k) = true := decide_eq_true (by omega)
  have t2 : decide (k ≤ 32) = true := decide_eq_true (by omega)
  have t3 : decide (1 ≤ n) = true := decide_eq_true (by omega)
  have t4 : decide (n ≤ 256) = true := decide_eq_true (by omega)
  clear h
  go_enter Tryz.func22, Tryz.ntmps22
  go_wp2_with fail
  go_ret
  exact ⟨rfl, rfl⟩
theorem rright_bad (k n : Int) (h : k < 1 ∨ 32 < k ∨ n < 1 ∨ 256 < n) (w : World) : Calls Tryz.prog 22 #[.int .i64 k, .int .i64 n] w fun e w' => e = .returned (.bool false) ∧ w = w' := by
  have t : decide (1 ≤ k) = false ∨ (decide (1 ≤ k) = true ∧ decide (k ≤ 32) = false) ∨ (decide (1 ≤ k) = true ∧ decide (k ≤ 32) = true ∧ decide (1 ≤ n) = false) ∨ (decide (1 ≤ k) = true ∧ decide (k ≤ 32) = true ∧ decide (1 ≤ n) = true ∧ decide (n ≤ 256) = false) := by
    simp only [decide_eq_true_eq, decide_eq_false_iff_not]; omega
  clear h
  rcases t with t1 | ⟨t1, t2⟩ | ⟨t1, t2, t3⟩ | ⟨t1, t2, t3, t4⟩
  all_goals
    go_enter Tryz.func22, Tryz.ntmps22
    go_wp2_with fail
    go_ret
    exact ⟨rfl, rfl⟩
theorem rcsteps_bad (k n : Int) (h : k < 1 ∨ 32 < k ∨ n < 1 ∨ 256 < n) (w : World) : Calls Tryz.prog 11 #[.int .i64 k, .int .i64 n] w fun e w' => e = .returned (.tuple #[.int .i64 0, .int .i64 7]) ∧ Off Nob w w' := by
  have H := Lib.hid (rright_bad k n h w)
  clear h
  go_enter Tryz.func11, Tryz.ntmps11
  go_wp2_with fail
  refine H.out.mono ?_
  rintro e w' ⟨rfl, rfl⟩
  go_wp2_with fail
  go_ret2
  exact ⟨rfl, Off.refl _ _⟩
theorem rcsteps_ok (k n : Nat) (h1 : 1 ≤ k) (h2 : k ≤ 32) (h3 : 1 ≤ n) (h4 : n ≤ 256) (w : World) : Calls Tryz.prog 11 #[.int .i64 k, .int .i64 n] w fun e w' => e = .returned (.tuple #[.int .i64 (cpN (k + n) : Nat), .int .i64 0]) ∧ Off Nob w w' := by
  have H := Lib.hid (rright_ok (k : Int) (n : Int) (by omega) w)
  have hm := (moves_le (n := k + n) (by omega) (by omega)).2.2
  obtain ⟨M, hM⟩ : ∃ M, 16 * (moves (k + n)).length = M := ⟨_, rfl⟩
  have HS : Hid (Calls Tryz.prog 30 #[.int .i64 ((k : Int) + (n : Int))] w fun e w' => e = .returned (.tuple #[.int .i64 (M : Int), .int .i64 0]) ∧ Off Nob w w') := Lib.hid (by
    have := rsteps_ok (k + n) (by omega) (by omega) w
    rw [hM] at this
    rwa [show ((k + n : Nat) : Int) = (k : Int) + (n : Int) by push_cast; rfl] at this)
  have HC : Hid ((cpN (k + n) : Int) = 8 * ((k : Int) + (n : Int)) + 4 + (M : Int)) := Lib.hid (by unfold cpN; rw [hM]; push_cast; rfl)
  have hM2 : M ≤ 100000 := by omega
  clear hM hm
  go_enter Tryz.func11, Tryz.ntmps11
  go_wp2_with fail
  refine H.out.mono ?_
  rintro e w' ⟨rfl, rfl⟩
  go_wp2_with fail
  refine HS.out.mono ?_
  rintro e w1 ⟨rfl, o1⟩
  have O1 := Lib.hid o1
  clear o1
  go_wp2_with fail
  go_ret2
  exact ⟨by rw [HC.out]; rfl, O1.out⟩
theorem rparts_ok (s r d f : Int) (k n : Nat) (h2 : k ≤ 32) (h4 : n ≤ 256) (w : World) : Calls Tryz.prog 94 #[.agg #[.int .i64 s, .int .i64 r, .int .i64 d, .int .i64 f], .int .i64 k, .int .i64 n] w fun e w' => ∃ g, e = .returned (.slice (some ⟨g, 0, none⟩) 4 4) ∧ Blk w' g 139 #[.int .i64 s, .int .i64 (3 * ((k : Int) + (n : Int))), .int .i64 r, .int .i64 ((k : Int) + (n : Int)), .int .i64 d, .int .i64 1, .int .i64 f, .int .i64 1] ∧ Off Nob w w' := by
  go_enter Tryz.func94, Tryz.ntmps94
  go_wp2_with fail
  go_ret
  exact ⟨_, rfl, by have := Blk.new (w.alloc (.cells #[.int .i64 s, .int .i64 r, .int .i64 d, .int .i64 f] 35)) 139 #[.int .i64 s, .int .i64 (3 * ((k : Int) + (n : Int))), .int .i64 r, .int .i64 ((k : Int) + (n : Int)), .int .i64 d, .int .i64 1, .int .i64 f, .int .i64 1]; simpa using this, Off.alloc (Off.alloc (Off.refl _ _) _) _⟩
section
variable {w : World} {F : Nat → Prop} {p : Nat} {C : List (BitVec 64)} {E : List Ev}
theorem rcpck_bad (q : Value) (s r d f k n : Int) (hb : k < 1 ∨ 32 < k ∨ n < 1 ∨ 256 < n) (w : World) :
    Calls Tryz.prog 46 #[q, .agg #[.int .i64 s, .int .i64 r, .int .i64 d, .int .i64 f], .int .i64 k, .int .i64 n] w fun e w' => e = .returned (.int .i64 7) ∧ Off Nob w w' := by
  have HS := Lib.hid (fun w => rcsteps_bad k n hb w)
  clear hb
  go_enter Tryz.func46, Tryz.ntmps46
  go_wp2_with fail
  refine (HS.out _).mono ?_
  rintro e w1 ⟨rfl, o1⟩
  have O1 := Lib.hid ((Off.alloc (Off.refl Nob w) _).also o1)
  clear o1
  go_wp2_with fail
  go_ret
  exact ⟨rfl, O1.out⟩
set_option maxHeartbeats 4000000 in
theorem rcpck_ok (h : Rf w F p C E) (s r d f : Int) (k n : Nat) (h1 : 1 ≤ k) (h2 : k ≤ 32) (h3 : 1 ≤ n) (h4 : n ≤ 256) :
    Calls Tryz.prog 46 #[.pointer (some ⟨p, 0, none⟩), .agg #[.int .i64 s, .int .i64 r, .int .i64 d, .int .i64 f], .int .i64 (k : Int), .int .i64 (n : Int)] w fun e w' => e = .returned (.int .i64 (cpE C.length E.length s r d f k n)) ∧ Off Nob w w' := by
  have HA := Lib.hid h
  have hn2 := Lib.hid h.n2
  have HS := Lib.hid (fun w => rcsteps_ok k n h1 h2 h3 h4 w)
  obtain ⟨M, hM⟩ : ∃ M, cpN (k + n) = M := ⟨_, rfl⟩
  have HM : Hid (cpN ((k : Int) + (n : Int)).toNat = M) := Lib.hid (by rw [show ((k : Int) + (n : Int)).toNat = k + n by omega, hM])
  rw [hM] at HS
  have HB : Hid (¬ ((k : Int) < 1 ∨ 32 < (k : Int) ∨ (n : Int) < 1 ∨ 256 < (n : Int))) := Lib.hid (by omega)
  obtain ⟨L, hL⟩ : ∃ L, cpL s r d f (k : Int) (n : Int) = L := ⟨_, rfl⟩
  have HL := Lib.hid hL
  have HLL : Hid (L.length = 4) := Lib.hid (by rw [← hL]; rfl)
  have HC : Hid (ptC L = (#[.int .i64 s, .int .i64 (3 * ((k : Int) + (n : Int))), .int .i64 r, .int .i64 ((k : Int) + (n : Int)), .int .i64 d, .int .i64 1, .int .i64 f, .int .i64 1] : Array Value).toList) := Lib.hid (by rw [← hL]; rfl)
  have HH : Hid (∀ W, Off Nob w W → ∀ x y, Calls Tryz.prog 95 #[.pointer (some ⟨p, 0, none⟩), .int .i64 x, .int .i64 y] W fun e w' => e = .returned (.int .i64 (hasE C.length x y)) ∧ W = w') := Lib.hid (fun W o x y => rhas_any (h.keep o (fun _ _ h => h)) x y)
  clear h hM hL
  have hlay : ∀ i, (w.alloc (.cells #[.int .i64 s, .int .i64 r, .int .i64 d, .int .i64 f] 35)).cell? ⟨w.heap.size, i, none⟩ = (#[.int .i64 s, .int .i64 r, .int .i64 d, .int .i64 f] : Array Value)[i]? := fun i => (Blk.new w 35 #[.int .i64 s, .int .i64 r, .int .i64 d, .int .i64 f]).cell i
  have HLY := Lib.hid (Blk.new w 35 #[.int .i64 s, .int .i64 r, .int .i64 d, .int .i64 f])
  clear hlay
  go_enter Tryz.func46, Tryz.ntmps46
  go_wp2_with fail
  refine (HS.out _).mono ?_
  rintro e w1 ⟨rfl, o1⟩
  have hb1 := HLY.out.to (o1.block _ HLY.out.lt (fun h => h))
  have y0 := hb1.cell 0
  have y1 := hb1.cell 1
  have y2 := hb1.cell 2
  have y3 := hb1.cell 3
  simp only [List.getElem?_toArray, List.getElem?_cons_succ, List.getElem?_cons_zero] at y0 y1 y2 y3
  have O1 := Lib.hid ((Off.alloc (Off.refl Nob w) _).also o1)
  clear o1 hb1
  go_wp2_with fail
  refine (rparts_ok s r d f k n h2 h4 _).mono ?_
  rintro e W ⟨g, rfl, hbk, o2⟩
  have HBK := Lib.hid hbk
  have HOW := Lib.hid (O1.out.also o2)
  have HGL := Lib.hid hbk.lt
  clear hbk o2 O1 y0 y1 y2 y3 HLY
  have HCC : Hid (∀ j u, (ptC L)[j]? = some u → W.cell? ⟨g, j, none⟩ = some u) := Lib.hid (fun j u hu => by rw [HBK.out.cell, ← Array.getElem?_toList, ← HC.out]; exact hu)
  clear HBK HC
  go_wp2_with fail
  go_loopw [12] (fun i wr => ∃ j : Nat, j ≤ 4 ∧ i = .int .i64 (j : Int) ∧ (∀ i, i < j → hasE C.length (pt L i).1 (pt L i).2 = 0) ∧ Off Nob W wr) (fun i _ => 4 - (intOf i).toNat)
  case atStart => exact ⟨0, Nat.zero_le _, rfl, fun i hi => absurd hi (by omega), Off.refl _ _⟩
  case round =>
    obtain ⟨j, hj, rfl, hall, hoff⟩ := hrel
    have HO := Lib.hid hoff
    have HAL := Lib.hid hall
    by_cases hlt : j < 4
    · obtain ⟨e1, e2⟩ := ptC_at L j (by rw [HLL.out]; exact hlt)
      have d1 := (hoff.cell_old HGL.out _).trans (HCC.out _ _ e1)
      have d2 := (hoff.cell_old HGL.out _).trans (HCC.out _ _ e2)
      have HF := Lib.hid (hasL_first C.length L j (by rw [HLL.out]; exact hlt) hall)
      obtain ⟨q, hq⟩ : ∃ q, pt L j = q := ⟨_, rfl⟩
      rw [hq] at d1 d2 HF
      have HQ := Lib.hid hq
      obtain ⟨a, b⟩ := q
      dsimp only at d1 d2 HF
      clear hoff hall e1 e2 hq
      rcases hasE_cases2 C.length a b with ⟨hz, _⟩ | ⟨hz, _⟩
      · have HHj := Lib.hid (fun W o => HH.out W o a b)
        rw [hz] at HHj
        have HZ := Lib.hid hz
        clear hz
        go_wp2_with fail
        go_region_held3 (fun w' => w'.cell? ⟨g, j * 2, none⟩ = some (.int .i64 a) ∧ w'.cell? ⟨g, j * 2 + 1, none⟩ = some (.int .i64 b))
          (first | with_reducible assumption | go_keep)
          (first
            | (go_at_call 95; refine (HHj.out _ (HOW.out.also (by first | with_reducible exact HO.out | with_reducible exact Off.drew HO.out | with_reducible exact Off.drewN HO.out _))).mono ?_; rintro e w' ⟨rfl, rfl⟩))
        go_wp2_with fail
        go_roundw
        case rel => exact ⟨j + 1, hlt, by go_num, fun i hi => by
          rcases Nat.lt_or_ge i j with h9 | h9
          · exact HAL.out i h9
          · have e9 : i = j := by omega
            rw [e9, HQ.out]
            exact HZ.out, (by first | with_reducible exact HO.out | with_reducible exact Off.drew HO.out | with_reducible exact Off.drewN HO.out _)⟩
        case measure => simp [intOf]; omega
      · have HHj := Lib.hid (fun W o => HH.out W o a b)
        have HR : Hid (cpE C.length E.length s r d f (k : Int) (n : Int) = 7) := Lib.hid (by
          have h1 := HF.out (by rw [hz]; decide)
          rw [hz] at h1
          unfold cpE
          rw [if_neg HB.out, HL.out, h1, if_neg (by decide)])
        rw [hz] at HHj
        clear hz HF
        go_wp2_with fail
        go_region_held3 (fun w' => w'.cell? ⟨g, j * 2, none⟩ = some (.int .i64 a) ∧ w'.cell? ⟨g, j * 2 + 1, none⟩ = some (.int .i64 b))
          (first | with_reducible assumption | go_keep)
          (first
            | (go_at_call 95; refine (HHj.out _ (HOW.out.also (by first | with_reducible exact HO.out | with_reducible exact Off.drew HO.out | with_reducible exact Off.drewN HO.out _))).mono ?_; rintro e w' ⟨rfl, rfl⟩))
        go_wp2_with fail
        go_ret
        exact ⟨by rw [HR.out]; rfl, HOW.out.also (by first | with_reducible exact HO.out | with_reducible exact Off.drew HO.out | with_reducible exact Off.drewN HO.out _)⟩
    · obtain rfl : j = 4 := by omega
      have HN : Hid (hasL C.length L = 0) := Lib.hid (hasL_none _ _ (fun i hi => HAL.out i (by rw [HLL.out] at hi; exact hi)))
      have HOK : Hid (∀ i, i < L.length → PtOk (pt L i)) := Lib.hid (fun i hi => by
        have h9 := HAL.out i (by rw [HLL.out] at hi; exact hi)
        have hn9 := hn2.out
        rcases hasE_cases2 C.length (pt L i).1 (pt L i).2 with ⟨_, h10⟩ | ⟨h10, _⟩
        · exact ⟨h10.1, h10.2.1, by omega⟩
        · rw [h10] at h9; cases h9)
      clear hoff hall hlt hj
      go_wp2_with fail
      try rw [show ((4 : Nat) : Int) = (4 : Int) from rfl]
      go_loopw [13] (fun i wx => ∃ j : Nat, j ≤ 4 ∧ i = .int .i64 (j : Int) ∧ (∀ i, i < j → anyM (pt L i) L i = false) ∧ Off Nob W wx) (fun i _ => 4 - (intOf i).toNat)
      case atStart => exact ⟨0, Nat.zero_le _, rfl, fun i hi => absurd hi (by omega), HO.out⟩
      case round =>
        obtain ⟨i, hi, rfl, hall, hoff⟩ := hrel
        have HO2 := Lib.hid hoff
        have HAM := Lib.hid hall
        clear hoff hall HO HAL
        by_cases hlt : i < 4
        · have hpi := HOK.out i (by rw [HLL.out]; exact hlt)
          obtain ⟨e1, e2⟩ := ptC_at L i (by rw [HLL.out]; exact hlt)
          have HY := Lib.hid (fun h => meL_yes L i (by rw [HLL.out]; exact hlt) h)
          obtain ⟨q, hq⟩ : ∃ q, pt L i = q := ⟨_, rfl⟩
          rw [hq] at e1 e2 hpi HY
          have HQ := Lib.hid hq
          obtain ⟨a, b⟩ := q
          obtain ⟨p1, p2, p3⟩ := hpi
          dsimp only at p1 p2 p3 e1 e2
          have HE1 := Lib.hid (And.intro e1 e2)
          clear e1 e2 hq
          go_wp2_with fail
          go_loopw [14] (fun i2 wy => ∃ j : Nat, j ≤ i ∧ i2 = .int .i64 (j : Int) ∧ anyM (a, b) L j = false ∧ Off Nob W wy) (fun i2 _ => i - (intOf i2).toNat)
          case atStart => exact ⟨0, Nat.zero_le _, rfl, rfl, HO2.out⟩
          case round =>
            obtain ⟨j, hj, rfl, hany, hoff⟩ := hrel
            have HO3 := Lib.hid hoff
            have HA3 := Lib.hid hany
            by_cases hjl : j < i
            · have hpj := HOK.out j (by rw [HLL.out]; omega)
              obtain ⟨f1, f2⟩ := ptC_at L j (by rw [HLL.out]; omega)
              have HS3 := Lib.hid (anyM_succ (a, b) L j (by rw [HLL.out]; omega))
              have HY3 := Lib.hid (anyM_yes (a, b) L j i hjl (by rw [HLL.out]; omega))
              obtain ⟨q, hq⟩ : ∃ q, pt L j = q := ⟨_, rfl⟩
              rw [hq] at f1 f2 hpj HS3 HY3
              obtain ⟨c, m⟩ := q
              obtain ⟨p4, p5, p6⟩ := hpj
              dsimp only at p4 p5 p6 f1 f2 HS3 HY3
              have d1 := (hoff.cell_old HGL.out _).trans (HCC.out _ _ HE1.out.1)
              have d2 := (hoff.cell_old HGL.out _).trans (HCC.out _ _ HE1.out.2)
              have d3 := (hoff.cell_old HGL.out _).trans (HCC.out _ _ f1)
              have d4 := (hoff.cell_old HGL.out _).trans (HCC.out _ _ f2)
              clear hoff hany f1 f2 hq
              have ht : (decide (a < c + m) = false) ∨ (decide (a < c + m) = true ∧ decide (c < a + b) = false) ∨ (decide (a < c + m) = true ∧ decide (c < a + b) = true) := by
                by_cases h8 : a < c + m
                · by_cases h9 : c < a + b
                  · exact .inr (.inr ⟨decide_eq_true h8, decide_eq_true h9⟩)
                  · exact .inr (.inl ⟨decide_eq_true h8, decide_eq_false h9⟩)
                · exact .inl (decide_eq_false h8)
              rcases ht with t1 | ⟨t1, t2⟩ | ⟨t1, t2⟩
              · have HM3 : Hid (meB a b c m = false) := Lib.hid (by unfold meB; rw [t1]; rfl)
                go_wp2_with fail
                go_quiet (fail)
                go_wp2_with fail
                go_roundw
                case rel => exact ⟨j + 1, hjl, by go_num, by rw [HS3.out, HA3.out, HM3.out]; rfl, HO3.out.drewN _⟩
                case measure => simp [intOf]; omega
              · have HM3 : Hid (meB a b c m = false) := Lib.hid (by unfold meB; rw [t1, t2]; rfl)
                go_wp2_with fail
                go_quiet (fail)
                go_wp2_with fail
                go_roundw
                case rel => exact ⟨j + 1, hjl, by go_num, by rw [HS3.out, HA3.out, HM3.out]; rfl, HO3.out.drewN _⟩
                case measure => simp [intOf]; omega
              · have HM3 : Hid (meB a b c m = true) := Lib.hid (by unfold meB; rw [t1, t2]; rfl)
                have HR : Hid (cpE C.length E.length s r d f (k : Int) (n : Int) = 2) := Lib.hid (by
                  have h9 := HY.out (HY3.out HM3.out)
                  unfold cpE
                  rw [if_neg HB.out, HL.out, HN.out, if_pos rfl, h9]
                  rfl)
                go_wp2_with fail
                go_quiet (fail)
                go_wp2_with fail
                go_ret
                exact ⟨by rw [HR.out]; rfl, HOW.out.also (HO3.out.drewN _)⟩
            · obtain rfl : j = i := by omega
              clear hoff hany
              go_wp2_with fail
              go_roundw
              case rel => exact ⟨j + 1, hlt, by go_num, fun i9 hi9 => by
                rcases Nat.lt_or_ge i9 j with h9 | h9
                · exact HAM.out i9 h9
                · have e9 : i9 = j := by omega
                  rw [e9, HQ.out]
                  exact HA3.out, HO3.out⟩
              case measure => simp [intOf]; omega
        · obtain rfl : i = 4 := by omega
          have HR : Hid (cpE C.length E.length s r d f (k : Int) (n : Int) = roomE E.length (M : Int)) := Lib.hid (by
            have h9 := meL_no L (fun i hi => HAM.out i (by rw [HLL.out] at hi; exact hi))
            unfold cpE
            rw [if_neg HB.out, HL.out, HN.out, if_pos rfl, h9, HM.out]
            rfl)
          have HRM := Lib.hid (rroom_any (HA.out.keep (HOW.out.also HO2.out) (fun _ _ h => h)) (M : Int))
          go_wp2_with fail
          refine HRM.out.mono ?_
          rintro e w' ⟨rfl, rfl⟩
          go_wp2_with fail
          go_ret
          exact ⟨by rw [HR.out]; rfl, HOW.out.also HO2.out⟩
theorem rcpck_any (h : Rf w F p C E) (s r d f k n : Int) :
    Calls Tryz.prog 46 #[.pointer (some ⟨p, 0, none⟩), .agg #[.int .i64 s, .int .i64 r, .int .i64 d, .int .i64 f], .int .i64 k, .int .i64 n] w fun e w' => e = .returned (.int .i64 (cpE C.length E.length s r d f k n)) ∧ Off Nob w w' := by
  by_cases hb : k < 1 ∨ 32 < k ∨ n < 1 ∨ 256 < n
  · have := rcpck_bad (.pointer (some ⟨p, 0, none⟩)) s r d f k n hb w
    rwa [show cpE C.length E.length s r d f k n = 7 by unfold cpE; rw [if_pos hb]]
  · obtain ⟨k, rfl⟩ := Int.eq_ofNat_of_zero_le (show 0 ≤ k by omega)
    obtain ⟨n, rfl⟩ := Int.eq_ofNat_of_zero_le (show 0 ≤ n by omega)
    exact rcpck_ok h s r d f k n (by omega) (by omega) (by omega) (by omega)
set_option maxHeartbeats 8000000 in
theorem rccompact_err (h : Rf w F p C E) (s r d f k n : Int) (hz : cpE C.length E.length s r d f k n ≠ 0) :
    Calls Tryz.prog 13 #[.pointer (some ⟨p, 0, none⟩), .agg #[.int .i64 s, .int .i64 r, .int .i64 d, .int .i64 f], .int .i64 k, .int .i64 n] w fun e w' => e = .returned (.int .i64 (cpE C.length E.length s r d f k n)) ∧ RfTo w F p C E w' := by
  have HC : Hid (∀ W, Off Nob w W → Calls Tryz.prog 46 #[.pointer (some ⟨p, 0, none⟩), .agg #[.int .i64 s, .int .i64 r, .int .i64 d, .int .i64 f], .int .i64 k, .int .i64 n] W fun e w' => e = .returned (.int .i64 (cpE C.length E.length s r d f k n)) ∧ Off Nob W w') := Lib.hid (fun W o => rcpck_any (h.keep o (fun _ _ h => h)) s r d f k n)
  have HA := Lib.hid h
  obtain ⟨c, hc⟩ : ∃ c, cpE C.length E.length s r d f k n = c := ⟨_, rfl⟩
  rw [hc] at HC hz ⊢
  have hq : (c != 0) = true := by rw [bne_iff_ne]; exact hz
  clear h hz hc
  go_enter Tryz.func13, Tryz.ntmps13
  go_wp2_with fail
  refine (HC.out _ (Off.alloc (Off.refl _ _) _)).mono ?_
  rintro e w1 ⟨rfl, o1⟩
  have O1 := Lib.hid ((Off.alloc (Off.refl Nob w) _).also o1)
  clear o1
  go_wp2_with fail
  go_ret
  exact ⟨rfl, RfTo.off HA.out O1.out⟩
set_option maxHeartbeats 8000000 in
theorem rccompact_ok (h : Rf w F p C E) (s r d f : Int) (k n : Nat) (hz : CpOk C.length E.length s r d f k n) (hz2 : cpE C.length E.length s r d f k n = 0) :
    Calls Tryz.prog 13 #[.pointer (some ⟨p, 0, none⟩), .agg #[.int .i64 s, .int .i64 r, .int .i64 d, .int .i64 f], .int .i64 (k : Int), .int .i64 (n : Int)] w fun e w' => e = .returned (.int .i64 0) ∧ RfTo w F p (cpK s r d f k n C E 6).1 (cpK s r d f k n C E 6).2.1 w' := by
  have HC : Hid (∀ W, Off Nob w W → Calls Tryz.prog 46 #[.pointer (some ⟨p, 0, none⟩), .agg #[.int .i64 s, .int .i64 r, .int .i64 d, .int .i64 f], .int .i64 (k : Int), .int .i64 (n : Int)] W fun e w' => e = .returned (.int .i64 0) ∧ Off Nob W w') := Lib.hid (fun W o => by have := rcpck_any (h.keep o (fun _ _ h => h)) s r d f (k : Int) (n : Int); rwa [hz2] at this)
  have H1 := Lib.hid ((WkR.start h).push 35 #[.int .i64 s, .int .i64 r, .int .i64 d, .int .i64 f])
  have HZ := Lib.hid hz
  have hk2 := hz.k2
  have hn2 := hz.n2
  have hc2 := Lib.hid h.n2
  have hsr : (-9223372036854775808 ≤ s ∧ s ≤ 9223372036854775807) ∧ (-9223372036854775808 ≤ r ∧ r ≤ 9223372036854775807) := by
    have q1 := hz.s1; have q2 := hz.s2; have q3 := hz.r1; have q4 := hz.r2; have q5 := h.n2
    omega
  have HSR := Lib.hid hsr
  clear h hz hz2 hsr
  go_enter Tryz.func13, Tryz.ntmps13
  go_wp2_with fail
  refine (HC.out _ (Off.alloc (Off.refl _ _) _)).mono ?_
  rintro e w1 ⟨rfl, o1⟩
  have U0 := Lib.hid (H1.out.off o1)
  obtain ⟨g, hg⟩ : ∃ g, w.heap.size = g := ⟨_, rfl⟩
  rw [hg] at U0 ⊢
  clear o1 HC H1 hg
  have hbL := (U0.out.blk (b := g) (t := 35) (cs := #[.int .i64 s, .int .i64 r, .int .i64 d, .int .i64 f]) (by simp))
  have y0 := hbL.cell 0
  have y1 := hbL.cell 1
  have y2 := hbL.cell 2
  have y3 := hbL.cell 3
  simp only [List.getElem?_toArray, List.getElem?_cons_succ, List.getElem?_cons_zero] at y0 y1 y2 y3
  clear hbL
  have HCL0 := Lib.hid (U0.out.call (e0 := .returned (.tuple #[.int .u64 (n64 (prR (cpK s r d f k n C E 0).1 (cpK s r d f k n C E 0).2.1 s ((k : Int) + (n : Int)) r 2 rkF).1.1), .int .i64 (prR (cpK s r d f k n C E 0).1 (cpK s r d f k n C E 0).2.1 s ((k : Int) + (n : Int)) r 2 rkF).1.2])) (C2 := (cpK s r d f k n C E 1).1) (E2 := (cpK s r d f k n C E 1).2.1) (fun w F ha => rranks_any ha s ((k : Int) + (n : Int)) r))
  clear U0
  go_wp2_with fail
  refine HCL0.out.mono ?_
  rintro e v1 ⟨rfl, h1⟩
  have U1 := Lib.hid h1
  clear h1 HCL0 y0 y1 y2 y3
  have hbL := (U1.out.blk (b := g) (t := 35) (cs := #[.int .i64 s, .int .i64 r, .int .i64 d, .int .i64 f]) (by simp))
  have y0 := hbL.cell 0
  have y1 := hbL.cell 1
  have y2 := hbL.cell 2
  have y3 := hbL.cell 3
  simp only [List.getElem?_toArray, List.getElem?_cons_succ, List.getElem?_cons_zero] at y0 y1 y2 y3
  clear hbL
  have HCL1 := Lib.hid (U1.out.call (e0 := .returned (.tuple #[.int .u64 (n64 (prR (cpK s r d f k n C E 1).1 (cpK s r d f k n C E 1).2.1 s ((k : Int) + (n : Int)) r 3 (spF (bv k))).1.1), .int .i64 (prR (cpK s r d f k n C E 1).1 (cpK s r d f k n C E 1).2.1 s ((k : Int) + (n : Int)) r 3 (spF (bv k))).1.2])) (C2 := (cpK s r d f k n C E 2).1) (E2 := (cpK s r d f k n C E 2).2.1) (fun w F ha => rsplit_any ha s ((k : Int) + (n : Int)) r (bv k)))
  clear U1
  go_wp2_with fail
  refine HCL1.out.mono ?_
  rintro e v2 ⟨rfl, h2⟩
  have U2 := Lib.hid h2
  clear h2 HCL1 y0 y1 y2 y3
  have hbL := (U2.out.blk (b := g) (t := 35) (cs := #[.int .i64 s, .int .i64 r, .int .i64 d, .int .i64 f]) (by simp))
  have y0 := hbL.cell 0
  have y1 := hbL.cell 1
  have y2 := hbL.cell 2
  have y3 := hbL.cell 3
  simp only [List.getElem?_toArray, List.getElem?_cons_succ, List.getElem?_cons_zero] at y0 y1 y2 y3
  clear hbL
  have HCL2 := Lib.hid (U2.out.call (e0 := .returned (.int .i64 (chRes (cpK s r d f k n C E 2).1 (cpK s r d f k n C E 2).2.1 d (fun v => sumM v (cpK s r d f k n C E 2).2.2 65535#64)).1.2)) (C2 := (cpK s r d f k n C E 3).1) (E2 := (cpK s r d f k n C E 3).2.1) (fun w F ha => rplusA_any ha d (cpK s r d f k n C E 2).2.2 65535#64))
  clear U2
  go_wp2_with fail
  refine Calls.mono (R := fun e w' => e = .returned (.int .i64 (chRes (cpK s r d f k n C E 2).1 (cpK s r d f k n C E 2).2.1 d (fun v => sumM v (cpK s r d f k n C E 2).2.2 65535#64)).1.2) ∧ WkR w F w' [(g, 35, #[.int .i64 s, .int .i64 r, .int .i64 d, .int .i64 f])] p (cpK s r d f k n C E 3).1 (cpK s r d f k n C E 3).2.1) HCL2.out ?_
  rintro e v3 ⟨rfl, h3⟩
  have U3 := Lib.hid h3
  clear h3 HCL2 y0 y1 y2 y3
  have hbL := (U3.out.blk (b := g) (t := 35) (cs := #[.int .i64 s, .int .i64 r, .int .i64 d, .int .i64 f]) (by simp))
  have y0 := hbL.cell 0
  have y1 := hbL.cell 1
  have y2 := hbL.cell 2
  have y3 := hbL.cell 3
  simp only [List.getElem?_toArray, List.getElem?_cons_succ, List.getElem?_cons_zero] at y0 y1 y2 y3
  clear hbL
  have HST : Hid (∀ W, Off Nob v3 W → Calls Tryz.prog 50 #[.pointer (some ⟨p, 0, none⟩), .int .i64 f, .int .u64 (n64 (~~~ zeM (cpK s r d f k n C E 3).2.2))] W fun e w' => e = .returned (.int .i64 (chRes (cpK s r d f k n C E 3).1 (cpK s r d f k n C E 3).2.1 f (fun v => v ||| ~~~ zeM (cpK s r d f k n C E 3).2.2)).1.2) ∧ WkR w F w' [(g, 35, #[.int .i64 s, .int .i64 r, .int .i64 d, .int .i64 f])] p (cpK s r d f k n C E 4).1 (cpK s r d f k n C E 4).2.1) := Lib.hid (fun W o => (U3.out.off o).call (fun w F ha => rstick_any ha f (~~~ zeM (cpK s r d f k n C E 3).2.2) (isM_notze (cpK s r d f k n C E 3).2.2)))
  go_wp2_with fail
  go_region_held3 (fun w' => w'.cell? ⟨g, 3, none⟩ = some (.int .i64 f))
    (first | with_reducible assumption | go_keep)
    (first
      | (go_at_call 52; refine (rzero_any _ _).mono ?_; rintro e w' ⟨rfl, rfl⟩)
      | (go_at_call 51; refine (rnot_any _ _).mono ?_; rintro e w' ⟨rfl, rfl⟩)
      | (go_at_call 50; refine (HST.out _ (by first | with_reducible exact Off.refl _ _ | with_reducible exact Off.drew (Off.refl _ _) | with_reducible exact Off.drewN (Off.refl _ _) _)).mono ?_; rintro e v4 ⟨rfl, h4⟩; have k4 : v4.cell? ⟨g, 3, none⟩ = some (.int .i64 f) := (h4.blk (b := g) (t := 35) (cs := #[.int .i64 s, .int .i64 r, .int .i64 d, .int .i64 f]) (by simp)).cell 3; have U4 := Lib.hid h4; clear h4))
  clear HST U3 y0 y1 y2 y3 k4
  have hbL := (U4.out.blk (b := g) (t := 35) (cs := #[.int .i64 s, .int .i64 r, .int .i64 d, .int .i64 f]) (by simp))
  have y0 := hbL.cell 0
  have y1 := hbL.cell 1
  have y2 := hbL.cell 2
  have y3 := hbL.cell 3
  simp only [List.getElem?_toArray, List.getElem?_cons_succ, List.getElem?_cons_zero] at y0 y1 y2 y3
  clear hbL
  have HCL4 := Lib.hid (U4.out.call (e0 := .returned (.int .i64 (prR (cpK s r d f k n C E 4).1 (cpK s r d f k n C E 4).2.1 s ((k : Int) + (n : Int)) r 3 diF).1.2)) (C2 := (cpK s r d f k n C E 5).1) (E2 := (cpK s r d f k n C E 5).2.1) (fun w F ha => rdist_any ha s ((k : Int) + (n : Int)) r))
  clear U4
  go_wp2_with fail
  refine HCL4.out.mono ?_
  rintro e v5 ⟨rfl, h5⟩
  have U5 := Lib.hid h5
  clear h5 HCL4 y0 y1 y2 y3
  have hbL := (U5.out.blk (b := g) (t := 35) (cs := #[.int .i64 s, .int .i64 r, .int .i64 d, .int .i64 f]) (by simp))
  have y0 := hbL.cell 0
  have y1 := hbL.cell 1
  have y2 := hbL.cell 2
  have y3 := hbL.cell 3
  simp only [List.getElem?_toArray, List.getElem?_cons_succ, List.getElem?_cons_zero] at y0 y1 y2 y3
  clear hbL
  have HCL5 := Lib.hid (U5.out.call (e0 := .returned (.int .i64 (rtE (cpK s r d f k n C E 5).1.length (cpK s r d f k n C E 5).2.1.length s ((k : Int) + (n : Int)) r))) (C2 := (cpK s r d f k n C E 6).1) (E2 := (cpK s r d f k n C E 6).2.1) (fun w F ha => rroute_any ha s ((k : Int) + (n : Int)) r HSR.out.1 HSR.out.2))
  clear U5
  go_wp2_with fail
  refine HCL5.out.mono ?_
  rintro e v6 ⟨rfl, h6⟩
  have U6 := Lib.hid h6
  clear h6 HCL5 y0 y1 y2 y3
  have HZ6 := Lib.hid (cpZ5 HZ.out)
  go_wp2_with fail
  go_ret
  exact ⟨by rw [← HZ6.out]; rfl, U6.out.done⟩
theorem rccompact_any (h : Rf w F p C E) (s r d f k n : Int) :
    Calls Tryz.prog 13 #[.pointer (some ⟨p, 0, none⟩), .agg #[.int .i64 s, .int .i64 r, .int .i64 d, .int .i64 f], .int .i64 k, .int .i64 n] w fun e w' => e = .returned (.int .i64 (cpE C.length E.length s r d f k n)) ∧ RfTo w F p (if cpE C.length E.length s r d f k n = 0 then (cpK s r d f k n C E 6).1 else C) (if cpE C.length E.length s r d f k n = 0 then (cpK s r d f k n C E 6).2.1 else E) w' := by
  by_cases hz : cpE C.length E.length s r d f k n = 0
  · obtain ⟨k, n, rfl, rfl, ho⟩ := cpE_ok hz
    have := rccompact_ok h s r d f k n ho hz
    rwa [if_pos hz, if_pos hz, hz]
  · have := rccompact_err h s r d f k n hz
    rwa [if_neg hz, if_neg hz]
end
end Go.Proofs.YtedbafgejladiaaGreat

