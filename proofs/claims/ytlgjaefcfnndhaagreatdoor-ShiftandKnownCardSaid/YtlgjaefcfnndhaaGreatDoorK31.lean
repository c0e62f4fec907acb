/-
 dragnetref17.SameRow, dragnetref18.row and dragnetref18.finals, in general.
-/
import Derived.Test.YtlgjaefcfnndhaaGreatDoorK29
import Derived.Test.YtlgjaefcfnndhaaGreatDoorK30
set_option linter.unusedVariables false
set_option linter.unusedSimpArgs false
namespace Go.Proofs.YtlgjaefcfnndhaaGreatDoor
open Go.RowKit
set_option maxRecDepth 100000
theorem words_cells {w : World} {v : Value} {L : List Nat} (hv : Rd w (fun _ => True) 1 v L.length (wordsV L)) : ∃ A c, v = .slice A L.length c ∧ ∀ W', Off Nob w W' → ∀ k, k < L.length → ∃ b o, A = some ⟨b, o, none⟩ ∧ W'.cell? ⟨b, o + k, none⟩ = some (.int .u64 ((L.getD k 0 : Nat) : Int)) := by
 obtain ⟨A, c, rfl, _, hcell⟩ := hv.form
 refine ⟨A, c, rfl, fun W' ho k hk => ?_⟩
 obtain ⟨b, o, rfl, hlt, hc⟩ := hcell (by omega)
 exact ⟨b, o, rfl, by rw [ho.cell_old hlt]; exact hc k _ (wordsV_get hk)⟩
theorem take_getD {A B : List Nat} {k : Nat} (h : A.take k = B.take k) (ha : k < A.length) (hb : k < B.length) (hx : A.getD k 0 = B.getD k 0) : A.take (k + 1) = B.take (k + 1) := by
 rw [List.take_succ_eq_append_getElem ha, List.take_succ_eq_append_getElem hb, h]
 simp only [List.getD_eq_getElem?_getD, List.getElem?_eq_getElem ha, List.getElem?_eq_getElem hb, Option.getD_some] at hx
 rw [hx]
set_option maxHeartbeats 2000000 in
theorem r_same (X Y : List Nat) (hX : X.length ≤ 4096) (hY : Y.length ≤ 4096) (w : World) (u v : Value) (hu : Rd w (fun _ => True) 1 u X.length (wordsV X)) (hv : Rd w (fun _ => True) 1 v Y.length (wordsV Y)) :
  Calls Tryz.prog 37 #[u, v] w (RetV w (.bool (decide (X = Y)))) := by
 obtain ⟨A, ca, rfl, hca⟩ := words_cells hu
 obtain ⟨B, cb, rfl, hcb⟩ := words_cells hv
 have HCA := hID hca
 have HCB := hID hcb
 obtain ⟨res, hres⟩ : ∃ res, decide (X = Y) = res := ⟨_, rfl⟩
 have HR := hID hres
 rw [hres]
 obtain ⟨n, hn⟩ : ∃ n, X.length = n := ⟨_, rfl⟩
 obtain ⟨m, hm⟩ : ∃ m, Y.length = m := ⟨_, rfl⟩
 have HN := hID hn
 have HM := hID hm
 rw [hn] at HCA hX ⊢
 rw [hm] at HCB hY ⊢
 clear hca hcb hu hv hres hn hm
 go_enter Tryz.func37, Tryz.ntmps37
 go_wp2
 go_loopw [5] (fun i wr => ∃ k : Nat, k ≤ n ∧ k ≤ m ∧ i = .int .i64 k ∧ Off Nob w wr ∧ X.take k = Y.take k) (fun i _ => n - (intOf i).toNat)
 case atStart => exact ⟨0, Nat.zero_le _, Nat.zero_le _, rfl, Off.refl _ _, rfl⟩
 case round =>
  obtain ⟨k, hk1, hk2, rfl, ho, htk⟩ := hrel
  have HO := hID ho
  have HT := hID htk
  clear ho htk
  by_cases h1 : k < n
  ·have d1 : decide ((k : Int) < (n : Int)) = true := decide_eq_true (by omega)
   by_cases h2 : k < m
   ·have d2 : decide ((k : Int) < (m : Int)) = true := decide_eq_true (by omega)
    obtain ⟨b, o, rfl, c1⟩ := HCA.out wr HO.out k h1
    obtain ⟨b2, o2, rfl, c2⟩ := HCB.out wr HO.out k h2
    have HK := hID (fun h => take_getD (k := k) HT.out (by rw [HN.out]; exact h1) (by rw [HM.out]; exact h2) h)
    have HZ := hID (fun (h : X.getD k 0 ≠ Y.getD k 0) => show res = false by rw [← HR.out]; exact decide_eq_false (fun e => h (by rw [e])))
    obtain ⟨x, hx⟩ : ∃ x, X.getD k 0 = x := ⟨_, rfl⟩
    obtain ⟨y, hy⟩ : ∃ y, Y.getD k 0 = y := ⟨_, rfl⟩
    rw [hx] at c1 HK HZ
    rw [hy] at c2 HK HZ
    clear hx hy
    by_cases hxy : x = y
    ·have d3 : ((x : Int) != (y : Int)) = false := by rw [hxy]; simp
     have HQ := hID (HK.out hxy)
     clear hxy
     go_wp2_with fail
     go_quiet (fail)
     go_wp2_with fail
     go_roundw
     case rel => exact ⟨k + 1, by omega, by omega, by go_num, HO.out.drewN _, HQ.out⟩
     case measure => simp [intOf]; omega
    ·have d3 : ((x : Int) != (y : Int)) = true := by rw [bne_iff_ne]; omega
     have HQ := hID (HZ.out hxy)
     clear hxy
     go_wp2_with fail
     go_quiet (fail)
     go_wp2_with fail
     go_ret
     exact ⟨by rw [HQ.out]; rfl, HO.out.drewN _⟩
   ·have d2 : decide ((k : Int) < (m : Int)) = false := decide_eq_false (by omega)
    have d3 : ((n : Int) == (m : Int)) = false := by rw [beq_eq_false_iff_ne]; omega
    have HF : Hid (res = false) := hID (by rw [← HR.out]; exact decide_eq_false (fun e => by have h3 := congrArg List.length e; rw [HN.out, HM.out] at h3; omega))
    go_wp2_with fail
    go_ret
    exact ⟨by rw [HF.out]; rfl, HO.out⟩
  ·have d1 : decide ((k : Int) < (n : Int)) = false := decide_eq_false (by omega)
   by_cases h3 : n = m
   ·have d3 : ((n : Int) == (m : Int)) = true := by rw [beq_iff_eq]; omega
    have HF : Hid (res = true) := hID (by
     rw [← HR.out]
     refine decide_eq_true ?_
     have h4 := HT.out
     rwa [List.take_of_length_le (by rw [HN.out]; omega), List.take_of_length_le (by rw [HM.out]; omega)] at h4)
    clear h3
    go_wp2_with fail
    go_ret
    exact ⟨by rw [HF.out]; rfl, HO.out⟩
   ·have d3 : ((n : Int) == (m : Int)) = false := by rw [beq_eq_false_iff_ne]; omega
    have HF : Hid (res = false) := hID (by rw [← HR.out]; exact decide_eq_false (fun e => by have h4 := congrArg List.length e; rw [HN.out, HM.out] at h4; omega))
    clear h3
    go_wp2_with fail
    go_ret
    exact ⟨by rw [HF.out]; rfl, HO.out⟩
end Go.Proofs.YtlgjaefcfnndhaaGreatDoor
