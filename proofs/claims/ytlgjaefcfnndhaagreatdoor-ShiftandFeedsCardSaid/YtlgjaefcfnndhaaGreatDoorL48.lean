/-
 dragnetref14.Ints and dragnetref20.SameHits of equal lists.
-/
import Derived.Test.YtlgjaefcfnndhaaGreatDoorL30
import Derived.Test.YtlgjaefcfnndhaaGreatDoorL26
set_option linter.unusedVariables false
set_option linter.unusedSimpArgs false
set_option maxHeartbeats 16000000
set_option maxRecDepth 100000
namespace Go.Proofs.YtlgjaefcfnndhaaGreatDoor
open Go.RowKit
theorem qgy {w : World} {F : Nat → Prop} {v : Value} {sz n : Nat} {xs : List Value} (hv : Rd w F sz v n xs) (hs : 0 < sz) : ∃ A c, v = .slice A n c ∧ n ≤ maxLen ∧ ∀ W', Off Nob w W' → 0 < n → ∃ b o, A = some ⟨b, o, none⟩ ∧ ∀ j u, xs[j]? = some u → W'.cell? ⟨b, o + j, none⟩ = some u := by
 obtain ⟨A, c, rfl, hm, hcell⟩ := hv.form
 refine ⟨A, c, rfl, hm, fun W' ho hn => ?_⟩
 obtain ⟨b, o, rfl, hlt, hc⟩ := hcell hn
 exact ⟨b, o, rfl, fun j u hj => by rw [ho.cell_old hlt]; exact hc j u hj⟩
theorem quc (l : List (Int × Int)) (k : Nat) (h : k < l.length) : (qa6 l)[k * 2]? = some (.int .i64 (l.getD k (0, 0)).1) ∧ (qa6 l)[k * 2 + 1]? = some (.int .i64 (l.getD k (0, 0)).2) := by
 induction l generalizing k with
 | nil => simp at h
 | cons m l ih =>
  cases k with
  | zero => exact ⟨rfl, rfl⟩
  | succ k =>
   have := ih k (by simpa using h)
   rw [show qa6 (m :: l) = [.int .i64 m.1, .int .i64 m.2] ++ qa6 l from rfl]
   rw [List.getElem?_append_right (by simp; omega), List.getElem?_append_right (by simp; omega)]
   simp only [List.length_cons, List.length_nil]
   rw [show (k + 1) * 2 - (0 + 1 + 1) = k * 2 by omega, show (k + 1) * 2 + 1 - (0 + 1 + 1) = k * 2 + 1 by omega]
   simpa using this
theorem qjc {F G : Nat → Prop} (L : List Int) (hL : L.length ≤ 1000000) (w : World) (u v : Value) (hu : Rd w F 1 u L.length (L.map (Value.int .i64))) (hv : Rd w G 1 v L.length (L.map (Value.int .i64))) :
  Calls Tryz.prog 21 #[u, v] w (RetV w (.bool true)) := by
 obtain ⟨A, ca, rfl, _, hca⟩ := qgy hu (by decide)
 obtain ⟨B, cb, rfl, _, hcb⟩ := qgy hv (by decide)
 have HCA := hID hca
 have HCB := hID hcb
 obtain ⟨n, hn⟩ : ∃ n, L.length = n := ⟨_, rfl⟩
 have HN := hID hn
 rw [hn] at HCA HCB hL ⊢
 clear hca hcb hu hv hn
 go_enter Tryz.func21, Tryz.ntmps21
 go_wp2
 go_loopw [5] (fun i wr => ∃ k : Nat, k ≤ n ∧ i = .int .i64 k ∧ Off Nob w wr) (fun i _ => n - (intOf i).toNat)
 case atStart => exact ⟨0, Nat.zero_le _, rfl, Off.refl _ _⟩
 case round =>
  obtain ⟨k, hk1, rfl, ho⟩ := hrel
  have HO := hID ho
  clear ho
  by_cases h1 : k < n
  ·have d1 : decide ((k : Int) < (n : Int)) = true := dcT
   obtain ⟨b, o, rfl, c1⟩ := HCA.out wr HO.out (by omega)
   obtain ⟨b2, o2, rfl, c2⟩ := HCB.out wr HO.out (by omega)
   have hk : k < L.length := by rw [HN.out]; exact h1
   replace c1 := c1 k _ (by rw [List.getElem?_map, List.getElem?_eq_getElem hk]; rfl)
   replace c2 := c2 k _ (by rw [List.getElem?_map, List.getElem?_eq_getElem hk]; rfl)
   obtain ⟨x, hx⟩ : ∃ x, L[k] = x := ⟨_, rfl⟩
   rw [hx] at c1 c2
   clear hx hk
   go_wp2_with fail
   go_quiet (fail)
   go_wp2_with fail
   go_roundw
   case rel => exact ⟨k + 1, by omega, by go_num, HO.out.drewN _⟩
   case measure => simp [intOf]; omega
  ·have d1 : decide ((k : Int) < (n : Int)) = false := dcF
   go_wp2_with fail
   go_ret
   exact ⟨rfl, HO.out⟩
theorem qjd {F G : Nat → Prop} (L : List (Int × Int)) (hL : L.length ≤ 1000000) (w : World) (u v : Value) (hu : Rd w F 2 u L.length (qa6 L)) (hv : Rd w G 2 v L.length (qa6 L)) :
  Calls Tryz.prog 26 #[u, v] w (RetV w (.bool true)) := by
 obtain ⟨A, ca, rfl, _, hca⟩ := qgy hu (by decide)
 obtain ⟨B, cb, rfl, _, hcb⟩ := qgy hv (by decide)
 have HCA := hID hca
 have HCB := hID hcb
 obtain ⟨n, hn⟩ : ∃ n, L.length = n := ⟨_, rfl⟩
 have HN := hID hn
 rw [hn] at HCA HCB hL ⊢
 clear hca hcb hu hv hn
 go_enter Tryz.func26, Tryz.ntmps26
 go_wp2
 go_loopw [5] (fun i wr => ∃ k : Nat, k ≤ n ∧ i = .int .i64 k ∧ Off Nob w wr) (fun i _ => n - (intOf i).toNat)
 case atStart => exact ⟨0, Nat.zero_le _, rfl, Off.refl _ _⟩
 case round =>
  obtain ⟨k, hk1, rfl, ho⟩ := hrel
  have HO := hID ho
  clear ho
  by_cases h1 : k < n
  ·have d1 : decide ((k : Int) < (n : Int)) = true := dcT
   obtain ⟨b, o, rfl, c1⟩ := HCA.out wr HO.out (by omega)
   obtain ⟨b2, o2, rfl, c2⟩ := HCB.out wr HO.out (by omega)
   obtain ⟨e1, e2⟩ := quc L k (by rw [HN.out]; exact h1)
   have p1 := c1 _ _ e1
   have p2 := c1 _ _ e2
   have q1 := c2 _ _ e1
   have q2 := c2 _ _ e2
   rw [← Nat.add_assoc] at p2 q2
   obtain ⟨x, hx⟩ : ∃ x, (L.getD k (0, 0)).1 = x := ⟨_, rfl⟩
   obtain ⟨y, hy⟩ : ∃ y, (L.getD k (0, 0)).2 = y := ⟨_, rfl⟩
   rw [hx] at p1 q1
   rw [hy] at p2 q2
   clear hx hy c1 c2 e1 e2
   go_wp2_with fail
   go_quiet (fail)
   go_wp2_with fail
   go_roundw
   case rel => exact ⟨k + 1, by omega, by go_num, HO.out.drewN _⟩
   case measure => simp [intOf]; omega
  ·have d1 : decide ((k : Int) < (n : Int)) = false := dcF
   go_wp2_with fail
   go_ret
   exact ⟨rfl, HO.out⟩
end Go.Proofs.YtlgjaefcfnndhaaGreatDoor
