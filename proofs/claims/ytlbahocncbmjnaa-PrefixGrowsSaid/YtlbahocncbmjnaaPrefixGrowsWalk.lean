/-
  The walk of dragnetlaw23.PrefixGrows.
-/
import Derived.Test.YtlbahocncbmjnaaAwake23
import Derived.Test.YtlbahocncbmjnaaOpen
import Derived.IntWalk
import Derived.BigQuiet
import Derived.Deep.QuietTactic
namespace Go.Proofs.Ytlbahocncbmjnaa
open Go.RowKit
set_option linter.unusedVariables false
set_option maxRecDepth 100000
/-- A list of integers, cell by cell. -/
def IntsAt (w : World) (A : Option Addr) (n : Nat) (l : List Int) : Prop := 0 < n → ∃ b o, A = some ⟨b, o, none⟩ ∧ b < w.heap.size ∧ ∀ j, j < n → w.cell? ⟨b, o + j, none⟩ = some (.int .i64 (iat l j))
theorem rd_ints {w : World} {F : Nat → Prop} {v : Value} {n : Nat} {l : List Int} (h : Rd w F 1 v n (intsV l)) : ∃ A c, v = .slice A n c ∧ IntsAt w A n l := by
  obtain ⟨A, c, rfl, _, hl, hc⟩ := h
  rw [length_intsV] at hl
  refine ⟨A, c, rfl, fun hn => ?_⟩
  obtain ⟨b, o, rfl, _, hb, hx⟩ := hc hn
  exact ⟨b, o, rfl, hb, fun j hj => hx j _ (getElem_intsV l j (by omega))⟩
theorem iat_ranks (l : List Bool) (k j : Nat) (h : j < k) : iat (ranksL l k) j = (rk l j : Int) := by simp [iat, ranksL, List.getD, h]
theorem iat_dist (l : List Bool) (k j : Nat) (h : j < k) : iat (distL l k) j = if l.getD j false = true then (j : Int) - (rk l j : Int) else 0 := by
  unfold iat distL
  rw [List.getD, List.getElem?_map, List.getElem?_range h]
  rfl
/-- The last one that is set before k, if there is one. -/
def LastRel (l : List Bool) (k : Nat) (v : Value) : Prop := (v = .int .i64 (-1) ∧ rk l k = 0) ∨ ∃ j : Nat, j < k ∧ v = .int .i64 (j : Int) ∧ l.getD j false = true ∧ rk l k = rk l j + 1
set_option maxHeartbeats 8000000 in
theorem grows_small {w : World} {v : Value} {n : Nat} {l : List Bool} (h : Rd w (Old w) 1 v n (boolsV l)) (hn : n ≤ 288) : Calls Try.prog 4 #[v] w (BoolNew true w) := by
  have H := Lib.hid h
  have HL : Hid (l.length = n) := by obtain ⟨_, _, _, _, hl, _⟩ := h; rw [boolsV, List.length_map] at hl; exact Lib.hid (by omega)
  obtain ⟨A, c, rfl, _, hc⟩ := h.form
  have HC : Hid (0 < n → ∃ b o, A = some ⟨b, o, none⟩ ∧ b < w.heap.size ∧ ∀ j, j < n → w.cell? ⟨b, o + j, none⟩ = some (.bool (l.getD j false))) := Lib.hid (fun h0 => by
    obtain ⟨b, o, hA, hb, hx⟩ := hc h0
    exact ⟨b, o, hA, hb, fun j hj => hx j _ (by have := HL.out; simp [boolsV, List.getD, List.getElem?_eq_getElem (show j < l.length by omega)])⟩)
  have hd : decide (288 < (n : Int)) = false := by simp; omega
  clear h hc
  go_enter Try.func4, Try.ntmps4
  go_wp2_with fail
  refine (pof_any H.out (by omega)).mono ?_
  rintro e w1 ⟨x, y, rfl, h1⟩
  have r1 := h1.rd1
  have r2 := h1.rd2
  rw [length_ranksL, HL.out] at r1
  rw [length_distL, HL.out] at r2
  obtain ⟨xa, xc, hxf, hxi⟩ := rd_ints r1
  obtain ⟨ya, yc, hyf, hyi⟩ := rd_ints r2
  subst hxf hyf
  have HX := Lib.hid hxi
  have HY := Lib.hid hyi
  have O1 := Lib.hid h1.off
  clear h1 r1 r2 hxi hyi H
  go_wp2_with fail
  go_loopw [5, 6] (fun la i wr => ∃ k : Nat, k ≤ n ∧ i = .int .i64 k ∧ LastRel l k la ∧ Off Nob w1 wr) (fun _ i _ => n - (intOf i).toNat)
  case atStart => exact ⟨0, Nat.zero_le _, rfl, .inl ⟨rfl, rk_zero l⟩, Off.refl _ _⟩
  case round =>
    obtain ⟨k, hk, rfl, hlast, hoff⟩ := hrel
    have HO := Lib.hid hoff
    by_cases hlt : k < n
    · obtain ⟨b, o, hA, hb, hcell⟩ := HC.out (by omega)
      subst hA
      obtain ⟨bx, ox, hXa, hbx, hxc⟩ := HX.out (by omega)
      subst hXa
      obtain ⟨yb, yo, hYa, hby, hyc⟩ := HY.out (by omega)
      subst hYa
      have hkl : k < l.length := by have := HL.out; omega
      have hc1 : wr.cell? ⟨b, o + k, none⟩ = some (.bool (l.getD k false)) := ((O1.out.also hoff).cell_old hb _).trans (hcell k hlt)
      have hx1 : wr.cell? ⟨bx, ox + k, none⟩ = some (.int .i64 (rk l k : Int)) := by rw [hoff.cell_old hbx, hxc k hlt, iat_ranks _ _ _ hlt]
      have hy1 : wr.cell? ⟨yb, yo + k, none⟩ = some (.int .i64 (if l.getD k false = true then (k : Int) - (rk l k : Int) else 0)) := by rw [hoff.cell_old hby, hyc k hlt, iat_dist _ _ _ hlt]
      have hrs := rk_succ l k hkl
      have hrl := rk_le l k
      cases hbt : l.getD k false <;> rw [hbt] at hc1 hy1 hrs
      · rw [if_neg (by decide)] at hy1 hrs
        have HR : Hid (LastRel l (k + 1) u5) := by
          rcases hlast with ⟨h1, h2⟩ | ⟨j, h1, h2, h3, h4⟩
          · exact .inl ⟨h1, by omega⟩
          · exact .inr ⟨j, by omega, h2, h3, by omega⟩
        clear hlast hcell hxc hyc hbt hrs hoff hx1
        go_wp2_with fail
        go_roundw
        case rel => exact ⟨k + 1, by omega, by go_num, HR.out, HO.out⟩
        case measure => simp [intOf]; omega
      · rw [if_pos rfl] at hy1 hrs
        have HR : Hid (LastRel l (k + 1) (.int .i64 (k : Int))) := .inr ⟨k, by omega, rfl, hbt, hrs⟩
        rcases hlast with ⟨rfl, h2⟩ | ⟨j, h1, rfl, h3, h4⟩
        · have hq : (((k : Int) - (rk l k : Int)) != (k : Int)) = false := by rw [h2]; simp
          have hq2 : ((rk l k : Int) != 0) = false := by rw [h2]; rfl
          have b1 : 0 ≤ (k : Int) - (rk l k : Int) := by omega
          have b2 : (k : Int) - (rk l k : Int) ≤ (k : Int) := by omega
          have b3 : 0 ≤ (rk l k : Int) := by omega
          have b4 : (rk l k : Int) ≤ (k : Int) := by omega
          clear hcell hxc hyc hbt hrs hoff h2 hrl
          revert hx1 hy1 hq hq2 b1 b2 b3 b4
          generalize (k : Int) - (rk l k : Int) = fk
          generalize (rk l k : Int) = ck
          intro hx1 hy1 hq hq2 b1 b2 b3 b4
          go_wp2_with fail
          go_roundw
          case rel => exact ⟨k + 1, by omega, by go_num, HR.out, HO.out⟩
          case measure => simp [intOf]; omega
        · have hx2 : wr.cell? ⟨bx, ox + j, none⟩ = some (.int .i64 (rk l j : Int)) := by rw [hoff.cell_old hbx, hxc j (by omega), iat_ranks _ _ _ (by omega)]
          have hy2 : wr.cell? ⟨yb, yo + j, none⟩ = some (.int .i64 ((j : Int) - (rk l j : Int))) := by rw [hoff.cell_old hby, hyc j (by omega), iat_dist _ _ _ (by omega), if_pos h3]
          have hrj := rk_le l j
          have hq : (((k : Int) - (rk l k : Int)) - ((j : Int) - (rk l j : Int)) != (k : Int) - (j : Int) - 1) = false := by rw [h4]; simp; omega
          have hq2 : ((rk l k : Int) != (rk l j : Int) + 1) = false := by rw [h4]; simp
          have b1 : 0 ≤ (k : Int) - (rk l k : Int) := by omega
          have b2 : (k : Int) - (rk l k : Int) ≤ (k : Int) := by omega
          have b3 : 0 ≤ (rk l k : Int) := by omega
          have b4 : (rk l k : Int) ≤ (k : Int) := by omega
          have b5 : 0 ≤ (j : Int) - (rk l j : Int) := by omega
          have b6 : (j : Int) - (rk l j : Int) ≤ (j : Int) := by omega
          have b7 : 0 ≤ (rk l j : Int) := by omega
          have b8 : (rk l j : Int) ≤ (j : Int) := by omega
          have hs1 : IntKind.i64.wrap ((k : Int) - (j : Int)) = (k : Int) - (j : Int) := IntWalk.i64_in _ (by omega)
          have hs2 : IntKind.i64.wrap ((k : Int) - (j : Int) - 1) = (k : Int) - (j : Int) - 1 := IntWalk.i64_in _ (by omega)
          have hs3 : IntKind.i64.wrap ((rk l j : Int) + 1) = (rk l j : Int) + 1 := IntWalk.i64_in _ (by omega)
          clear hcell hxc hyc hbt hrs hoff h4 hrl hrj h3
          revert hx1 hy1 hx2 hy2 hq hq2 b1 b2 b3 b4 b5 b6 b7 b8 hs3
          generalize (k : Int) - (rk l k : Int) = fk
          generalize (rk l k : Int) = ck
          generalize (j : Int) - (rk l j : Int) = fj
          generalize (rk l j : Int) = cj
          intro hx1 hy1 hx2 hy2 hq hq2 b1 b2 b3 b4 b5 b6 b7 b8 hs3
          go_wp2_with fail
          go_quiet (fail)
          clear hs1 hs2 hs3
          go_wp2_with fail
          go_roundw
          case rel => exact ⟨k + 1, by omega, by go_num, HR.out, HO.out.drewN _⟩
          case measure => simp [intOf]; omega
    · clear hlast hoff
      go_wp2_with fail
      refine (awake_ok _).mono ?_
      rintro e w5 ⟨rfl, o5⟩
      have O5 := Lib.hid ((O1.out.also HO.out).also o5)
      clear o5
      go_wp2
      go_ret
      exact ⟨rfl, O5.out⟩
theorem grows_long {w : World} (A : Option Addr) (n c : Nat) (hn : 288 < n) (h1 : n ≤ maxLen) : Calls Try.prog 4 #[.slice A n c] w (BoolNew true w) := by
  unfold maxLen at h1
  have hd : decide (288 < (n : Int)) = true := by simp; omega
  go_enter Try.func4, Try.ntmps4
  go_wp2_with fail
  refine (awake_ok _).mono ?_
  rintro e w5 ⟨rfl, o5⟩
  have O5 := Lib.hid o5
  clear o5
  go_wp2
  go_ret
  exact ⟨rfl, O5.out⟩
theorem prefixGrows_walk {w : World} {v : Value} {n : Nat} {l : List Bool} (h : Rd w (Old w) 1 v n (boolsV l)) : Calls Try.prog 4 #[v] w (BoolNew true w) := by
  by_cases hn : n ≤ 288
  · exact grows_small h hn
  · obtain ⟨A, c, rfl, hm, _⟩ := h.form
    exact grows_long A n c (by omega) hm

end Go.Proofs.Ytlbahocncbmjnaa
