/-
  network.moves: the moves of a network.
-/
import Derived.Test.YtlefjlclhmapaaaNetPure
import Derived.Test.YtlefjlclhmapaaaSeq
namespace Go.Proofs.Ytlefjlclhmapaaa
open Go.RowKit Go.Shelf
attribute [local go_sem] Oper.semAt_some
set_option linter.unusedVariables false
set_option maxRecDepth 100000
theorem nmoves_any (n : Int) (w : World) : Calls Try.prog 38 #[.int .i64 n] w fun e w' => e = .returned (.func (.func 62) #[] #[.pointer (some ⟨w.heap.size, 0, none⟩)]) ∧ w' = w.alloc (.cells #[.int .i64 n] 3) := by
  go_enter Try.func38, Try.ntmps38
  go_wp2
  go_ret
  exact ⟨rfl, rfl⟩
set_option maxHeartbeats 2000000 in
theorem moves_stops (m : Nat) (hm : 1 ≤ m) (b n : Nat) (h1 : 1 ≤ n) (h2 : n ≤ 288) (w : World) (hb : Blk w b 3 #[.int .i64 n]) :
    Iter Try.prog m 62 #[.pointer (some ⟨b, 0, none⟩)] (fun x : Mv => #[mvV x]) [b] (moves n) w := fun l J Jx W hW hJ hJx hY h0 => by
  have HB := Lib.hid (hb.to (hW.block b hb.lt))
  have HY := Lib.hid (fun x rest W h => rest_yield (x := x) (rest := rest) (W := W) hY h)
  have HJ := Lib.hid (Rest.start h0)
  obtain ⟨r0, r1, r2⟩ := rn_ok h1 h2
  have R1 := Lib.hid r1
  have R2 := Lib.hid r2
  clear hW hJ hJx hY h0 hb r1 r2
  refine callsIn_of_wp Try.func62 rfl trivial ?_ rfl
  simp only [Try.ntmps62, List.size_toArray, List.length_cons, List.length_nil, Nat.reduceAdd, Nat.reduceSub, Array.replicate_succ, Array.replicate_zero, List.push_toArray, List.append_toArray, List.nil_append, List.cons_append]
  gi_wp2
  gi_loopw [3, 4] (fun p q wr => ∃ j r : Nat, p = .int .i64 (j : Int) ∧ q = .int .i64 ((2 ^ j : Nat) : Int) ∧ j + r = rn n ∧ Rest (moves n) J (mvs n j r) wr ∧ Blk wr b 3 #[.int .i64 n]) (fun p _ wr => rn n - (intOf p).toNat)
  case atStart => exact ⟨0, rn n, rfl, rfl, by omega, HJ.out, HB.out⟩
  case round =>
    obtain ⟨j, r, rfl, rfl, hjr, hrel, hbk⟩ := hrel
    have HR := Lib.hid hrel
    have c0 : wr.cell? ⟨b, 0, none⟩ = some (.int .i64 (n : Int)) := hbk.cell 0
    have HBK := Lib.hid hbk
    obtain ⟨P, hP⟩ : ∃ P : Nat, 2 ^ j = P := ⟨_, rfl⟩
    have HP := Lib.hid hP
    have hP2 : P ≤ 512 := by rw [← hP]; exact (Nat.pow_le_pow_right (by decide) (by omega) : 2 ^ j ≤ 2 ^ 9)
    rw [hP]
    clear hrel hbk hP
    by_cases h0 : r = 0
    · subst h0
      have hlt : decide (P < n) = false := decide_eq_false (by have := R1.out; rw [← hjr, Nat.add_zero, HP.out] at this; omega)
      have hlt' : decide ((P : Int) < (n : Int)) = false := decide_eq_false (by have := R1.out; rw [← hjr, Nat.add_zero, HP.out] at this; omega)
      gi_wp2
      go_end0
      obtain ⟨xs, g1, g2⟩ := rest_done HR.out
      exact ⟨⟨_, rfl⟩, .inl ⟨xs, g1, g2⟩⟩
    · have hPn : P < n := by have := R2.out j (by omega); rw [HP.out] at this; exact this
      have hlt : decide (P < n) = true := decide_eq_true hPn
      have hlt' : decide ((P : Int) < (n : Int)) = true := decide_eq_true (by omega)
      have HR2 : Hid (Rest (moves n) J (rd n j P ++ mvs n (j + 1) (r - 1)) wr) := by
        have := HR.out
        rw [show mvs n j r = rd n j P ++ mvs n (j + 1) (r - 1) from by cases r with | zero => exact absurd rfl h0 | succ r => rw [← HP.out]; rfl] at this
        exact Lib.hid this
      have hjb : (j : Int) ≤ 9 := by omega
      clear HR
      gi_wp2
      obtain ⟨wo, hwo⟩ : ∃ wo : World, wo = wr := ⟨_, rfl⟩
      rw [← hwo] at HR2 HBK ⊢
      clear hwo c0
      gi_loopw [5] (fun q wq => ∃ i : Nat, q = .int .i64 (i : Int) ∧ P ≤ i ∧ i ≤ n ∧ Rest (moves n) J (rd n j i ++ mvs n (j + 1) (r - 1)) wq ∧ Blk wq b 3 #[.int .i64 n]) (fun q wq => n - (intOf q).toNat)
      case atStart => exact ⟨P, rfl, by omega, by omega, HR2.out, HBK.out⟩
      case round =>
        obtain ⟨i, rfl, hi0, hi, hrel2, hbk⟩ := hrel
        have HQ := Lib.hid hrel2
        have c0 : wr.cell? ⟨b, 0, none⟩ = some (.int .i64 (n : Int)) := hbk.cell 0
        have HBQ := Lib.hid hbk
        clear hrel2 HR2 hbk HBK
        by_cases hlt : i < n
        · obtain ⟨fn, tmps, assign, body, hy, hR⟩ := HY.out (j, i, i - 2 ^ j) (rd n j (i + 1) ++ mvs n (j + 1) (r - 1)) wr (by have := HQ.out; rw [rd_cons hlt] at this; exact this)
          have hsub : ((i - 2 ^ j : Nat) : Int) = (i : Int) - (P : Int) := by rw [HP.out]; omega
          unfold mvV at hy
          simp only [hsub] at hy
          have hs1 : 0 ≤ (i : Int) - (P : Int) := by omega
          have hs2 : (i : Int) - (P : Int) ≤ 288 := by omega
          clear HQ hsub
          gi_wp2
          refine hR.mono ?_
          rintro e3 W3 (⟨rfl, h3, hk⟩ | ⟨rfl, pre, h3⟩)
          · have H3 := Lib.hid h3
            have B3 := Lib.hid (hk.blk (by simp) HBQ.out)
            clear h3 hk hy hR c0
            gi_wp2
            go_roundw
            case rel => exact ⟨i + 1, by go_num, by omega, by omega, H3.out, B3.out⟩
            case measure => simp [intOf]; omega
          · have H3 := Lib.hid h3
            clear h3 hy hR
            gi_wp2
            refine bodyPost_ret (results_none rfl _ _ _) rfl ?_
            exact ⟨⟨_, rfl⟩, .inr ⟨pre, trivial, H3.out⟩⟩
        · obtain rfl : n = i := by omega
          have HQ2 : Hid (Rest (moves n) J (mvs n (j + 1) (r - 1)) wr) := by
            have := HQ.out
            rw [rd_nil (Nat.le_refl _), List.nil_append] at this
            exact Lib.hid this
          have HPP : Hid ((2 ^ (j + 1) : Nat) = P * 2) := Lib.hid (by rw [Nat.pow_succ, HP.out])
          clear HQ
          gi_wp2
          go_roundw
          case rel => exact ⟨j + 1, r - 1, by go_num, by rw [HPP.out]; push_cast; rfl, by omega, HQ2.out, HBQ.out⟩
          case measure => simp [intOf]; omega
end Go.Proofs.Ytlefjlclhmapaaa
