/-
 lanes.Check and dragnetref17.Check, with words, Rules and last, for any plan of at most 4096 lanes.
-/
import Derived.Test.YtlgjaefcfnndhaaGreatDoorP17
import Derived.Test.YtlgjaefcfnndhaaGreatDoorP16
import Derived.Deep.RegionHeld3
import Derived.IntWalk
set_option linter.unusedVariables false
set_option linter.unusedSimpArgs false
set_option maxHeartbeats 16000000
set_option maxRecDepth 100000
namespace Go.Proofs.YtlgjaefcfnndhaaGreatDoor
open Go.RowKit
def lnV (l : List Ln) : List Value := l.flatMap (fun x : Ln => [Value.int .i64 (x.1 : Int), .int .i64 (x.2.1 : Int), .int .i64 (x.2.2 : Int)])
theorem qgu (l : List Ln) (x : Ln) : lnV (l ++ [x]) = lnV l ++ [.int .i64 (x.1 : Int), .int .i64 (x.2.1 : Int), .int .i64 (x.2.2 : Int)] := by simp [lnV]
theorem qew : ∀ {l : List Ln} {k : Nat}, k < l.length → (lnV l)[k * 3]? = some (.int .i64 ((l.getD k (0, 0, 0)).1 : Int)) ∧ (lnV l)[k * 3 + 1]? = some (.int .i64 ((l.getD k (0, 0, 0)).2.1 : Int)) ∧ (lnV l)[k * 3 + 2]? = some (.int .i64 ((l.getD k (0, 0, 0)).2.2 : Int))
 | [], k, h => by simp at h
 | x :: l, 0, _ => by simp [lnV]
 | x :: l, k + 1, h => by
  have ih := qew (l := l) (k := k) (by simpa using h)
  have e : lnV (x :: l) = [.int .i64 (x.1 : Int), .int .i64 (x.2.1 : Int), .int .i64 (x.2.2 : Int)] ++ lnV l := by simp [lnV]
  rw [e, show (k + 1) * 3 = k * 3 + 3 from by omega]
  simp only [List.getD_cons_succ]
  refine ⟨?_, ?_, ?_⟩
  ·rw [List.getElem?_append_right (by simp)]
   exact ih.1
  ·rw [List.getElem?_append_right (by simp)]
   exact ih.2.1
  ·rw [List.getElem?_append_right (by simp)]
   exact ih.2.2
theorem qqv {l : List Ln} {k : Nat} (h : k < l.length) : l.drop k = l.getD k (0, 0, 0) :: l.drop (k + 1) := by
 rw [gDe, gEe h]
 exact List.drop_eq_getElem_cons h
def LnAt (l : List Ln) (k n rule : Nat) : Prop := n ≤ 256 ∧ rule < 16 ∧ (k = 0 → rule = 0) ∧ lnOk 0 0 false l = lnOk n rule (decide (0 < k)) (l.drop k) ∧ lnEnd 0 l = lnEnd n (l.drop k) ∧ (0 < k → (l.getD (k - 1) (0, 0, 0)).1 = rule ∧ (l.getD (k - 1) (0, 0, 0)).2.1 + (l.getD (k - 1) (0, 0, 0)).2.2 = n)
theorem LnAt.zero (l : List Ln) : LnAt l 0 0 0 := ⟨by decide, by decide, fun _ => rfl, rfl, rfl, fun h => absurd h (by decide)⟩
theorem LnAt.step {l : List Ln} {k n rule a f c : Nat} (h : LnAt l k n rule) (hk : k < l.length) (hx : l.getD k (0, 0, 0) = (a, f, c)) (h1 : 1 ≤ c) (h2 : a < 16) (h3 : f = n) (h4 : a = rule ∨ 0 < k ∧ a = rule + 1) (h5 : c ≤ 256 - n) : LnAt l (k + 1) (n + c) a := by
 obtain ⟨g1, g2, g3, g4, g5, _⟩ := h
 rw [qqv hk, hx] at g4 g5
 refine ⟨by omega, h2, fun e => by omega, ?_, ?_, fun _ => ?_⟩
 ·rw [g4]
  simp only [lnOk]
  have e1 : decide (1 ≤ c) = true := dT h1
  have e2 : decide (a < 16) = true := dT h2
  have e3 : decide (f = n) = true := dT h3
  have e5 : decide (c ≤ 256 - n) = true := dT h5
  have e4 : (decide (a = rule) || (decide (0 < k) && decide (a = rule + 1))) = true := by
   rcases h4 with e | ⟨e, e'⟩
   ·rw [dT e]; rfl
   ·rw [dT e, dT e']; simp
  rw [e1, e2, e3, e4, e5, dT (by omega : 0 < k + 1)]
  rfl
 ·rw [g5]
  rfl
 ·rw [show k + 1 - 1 = k from by omega, hx]
  exact ⟨rfl, by show f + c = n + c; rw [h3]⟩
theorem LnAt.bad {l : List Ln} {k n rule a f c : Nat} (h : LnAt l k n rule) (hk : k < l.length) (hx : l.getD k (0, 0, 0) = (a, f, c)) (hb : c < 1 ∨ 16 ≤ a ∨ f ≠ n ∨ (a ≠ rule ∧ (k = 0 ∨ a ≠ rule + 1)) ∨ 256 - n < c) (W : Nat) : qao W l = false := by
 obtain ⟨g1, g2, g3, g4, g5, _⟩ := h
 rw [qqv hk, hx] at g4
 have : lnOk 0 0 false l = false := by
  rw [g4]
  simp only [lnOk]
  rw [Bool.eq_false_iff]
  intro hh
  simp only [Bool.and_eq_true, Bool.or_eq_true, decide_eq_true_eq] at hh
  obtain ⟨⟨⟨⟨⟨h1, h2⟩, h3⟩, h4⟩, h5⟩, _⟩ := hh
  omega
 unfold qao
 rw [this]
 simp
theorem LnAt.done {l : List Ln} {n rule : Nat} (h : LnAt l l.length n rule) (hn : 0 < l.length) (W : Nat) : qao W l = decide (W = max ((n + 63) / 64) 1) := by
 obtain ⟨g1, g2, g3, g4, g5, _⟩ := h
 rw [List.drop_length] at g4 g5
 unfold qao
 have e : l.isEmpty = false := by cases l with | nil => simp at hn | cons _ _ => rfl
 rw [e, g4, g5]
 rfl
def LnCk (W : Nat) (l : List Ln) (w : World) (e : Ending) (w' : World) : Prop := ∃ i m : Int, e = .returned (.tuple #[.int .i64 i, .int .i64 m]) ∧ (qao W l = true ∧ m = 0 ∨ qao W l = false ∧ (m != 0) = true) ∧ Off Nob w w'
theorem qu4 (n : Nat) (hn : n ≤ 1024) (w : World) : Calls Tryz.prog 91 #[.int .i64 n] w fun e w' => e = .returned (.int .i64 ((max ((n + 63) / 64) 1 : Nat) : Int)) ∧ w = w' := by
 have h1 : (n : Int) ≤ 1024 := by omega
 have h0 : (0 : Int) ≤ n := by omega
 have hd : max (((n : Int) + 63) / 64) 1 = ((max ((n + 63) / 64) 1 : Nat) : Int) := by omega
 rw [← hd]
 clear hd hn
 go_enter Tryz.func91, Tryz.ntmps91
 go_wp2_with fail
 go_ret
 exact ⟨rfl, rfl⟩
theorem q1k (n : Nat) (hn : n ≤ 1024) (w : World) : Calls Tryz.prog 107 #[.int .i64 n] w fun e w' => e = .returned (.int .i64 ((max ((n + 63) / 64) 1 : Nat) : Int)) ∧ w = w' := by
 have h1 : (n : Int) ≤ 1024 := by omega
 have h0 : (0 : Int) ≤ n := by omega
 have hd : max (((n : Int) + 63) / 64) 1 = ((max ((n + 63) / 64) 1 : Nat) : Int) := by omega
 rw [← hd]
 clear hd hn
 go_enter Tryz.func107, Tryz.ntmps107
 go_wp2_with fail
 go_ret
 exact ⟨rfl, rfl⟩
theorem qoc (W : Nat) (h1 : 1 ≤ W) (hW : W ≤ 8) (l : List Ln) (hn : l.length ≤ 4096) (w : World) (v : Value) (hv : Rd w (fun _ => True) 3 v l.length (lnV l)) : Calls Tryz.prog 81 #[.agg #[.int .i64 W, v]] w (LnCk W l w) := by
 obtain ⟨A, c, rfl, _, hcell⟩ := hv.form
 have hl0 : ((l.length : Int) == 0) = decide (l.length = 0) := by rw [Bool.eq_iff_iff, beq_iff_eq, decide_eq_true_eq]; omega
 by_cases hz : l.length = 0
 ·have HN : Hid (qao W l = false) := hID (by rw [List.length_eq_zero_iff.1 hz]; rfl)
  have d0 : ((l.length : Int) == 0) = true := by rw [hl0]; exact dT hz
  clear hl0 hcell hv hz
  go_enter Tryz.func81, Tryz.ntmps81
  go_wp2_with fail
  go_ret2
  exact ⟨_, _, rfl, .inr ⟨HN.out, by decide⟩, oAl oRf _⟩
 have d0 : ((l.length : Int) == 0) = false := by rw [hl0]; exact dF hz
 have hz1 : 0 < l.length := by omega
 obtain ⟨b, o, rfl, hlt, hc⟩ := hcell hz1
 have HC : Hid (∀ W', Off Nob w W' → ∀ k, k < l.length → W'.cell? ⟨b, o + k * 3, none⟩ = some (.int .i64 ((l.getD k (0, 0, 0)).1 : Int)) ∧ W'.cell? ⟨b, o + k * 3 + 1, none⟩ = some (.int .i64 ((l.getD k (0, 0, 0)).2.1 : Int)) ∧ W'.cell? ⟨b, o + k * 3 + 2, none⟩ = some (.int .i64 ((l.getD k (0, 0, 0)).2.2 : Int))) := hID (fun W' ho k hk => by
  obtain ⟨g1, g2, g3⟩ := qew hk
  rw [ho.cell_old hlt, ho.cell_old hlt, ho.cell_old hlt]
  exact ⟨hc _ _ g1, by rw [Nat.add_assoc]; exact hc _ _ g2, by rw [Nat.add_assoc]; exact hc _ _ g3⟩)
 clear hl0 hcell hv hz hc
 go_enter Tryz.func81, Tryz.ntmps81
 have HB0 : Hid (Blk (w.alloc (.cells #[.int .i64 W, .slice (some ⟨b, o, none⟩) l.length c] 62)) w.heap.size 62 #[.int .i64 W, .slice (some ⟨b, o, none⟩) l.length c] ∧ Off Nob w (w.alloc (.cells #[.int .i64 W, .slice (some ⟨b, o, none⟩) l.length c] 62))) := hID ⟨Blk.new _ _ _, oAl oRf _⟩
 go_wp2_with fail
 revert HB0
 generalize (w.alloc (.cells #[.int .i64 W, .slice (some ⟨b, o, none⟩) l.length c] 62)) = w0
 intro HB0
 have GC : Hid (∀ W', Off Nob w0 W' → W'.cell? ⟨w.heap.size, 0, none⟩ = some (.int .i64 W) ∧ W'.cell? ⟨w.heap.size, 1, none⟩ = some (.slice (some ⟨b, o, none⟩) l.length c)) := hID (fun W' ho => by
  have h := HB0.out.1.to (ho.block _ HB0.out.1.lt id)
  exact ⟨h.cell 0, h.cell 1⟩)
 go_loopw [4, 5, 6] (fun x y z wr => ∃ k n rule : Nat, k ≤ l.length ∧ x = .int .i64 (n : Int) ∧ y = .int .i64 (rule : Int) ∧ z = .int .i64 (k : Int) ∧ LnAt l k n rule ∧ Off Nob w0 wr) (fun _ _ z _ => l.length - (intOf z).toNat)
 case atStart => exact ⟨0, 0, 0, Nat.zero_le _, rfl, rfl, rfl, LnAt.zero l, Off.refl _ _⟩
 case round =>
  obtain ⟨k, n, rule, hk, rfl, rfl, rfl, hat, ho⟩ := hrel
  have HA := hID hat
  have HO := hID ho
  have hn256 : n ≤ 256 := hat.1
  have hr16 : rule < 16 := hat.2.1
  have hk0 : k = 0 → rule = 0 := hat.2.2.1
  clear hat ho
  obtain ⟨t0, t1⟩ := GC.out _ HO.out
  by_cases hlt : k < l.length
  ·have d1 : decide ((k : Int) < (l.length : Int)) = true := dcT
   obtain ⟨c0, c1, c2⟩ := HC.out _ (HB0.out.2.also HO.out) k hlt
   obtain ⟨⟨a, f, cc⟩, hx⟩ : ∃ x, l.getD k (0, 0, 0) = x := ⟨_, rfl⟩
   have HX := hID hx
   rw [hx] at c0 c1 c2
   have HBAD := hID (fun hb => HA.out.bad hlt hx hb W)
   have HST := hID (fun h1 h2 h3 h4 h5 => HA.out.step hlt hx h1 h2 h3 h4 h5)
   clear hx
   replace c0 : wr.cell? ⟨b, o + k * 3, none⟩ = some (.int .i64 (a : Int)) := c0
   replace c1 : wr.cell? ⟨b, o + k * 3 + 1, none⟩ = some (.int .i64 (f : Int)) := c1
   replace c2 : wr.cell? ⟨b, o + k * 3 + 2, none⟩ = some (.int .i64 (cc : Int)) := c2
   by_cases h1 : 1 ≤ cc
   ·have d2 : decide ((cc : Int) < 1) = false := dcF
    have d3 : decide ((a : Int) < 0) = false := dcF
    by_cases h2 : a < 16
    ·have d4 : decide ((16 : Int) ≤ (a : Int)) = false := dcF
     by_cases h3 : f = n
     ·have d5 : ((f : Int) != (n : Int)) = false := by rw [show ((f : Int) : Int) = (n : Int) from by omega]; simp
      by_cases h4 : a = rule
      ·have d6 : ((a : Int) != (rule : Int)) = false := by rw [show ((a : Int) : Int) = (rule : Int) from by omega]; simp
       by_cases h5 : cc ≤ 256 - n
       ·have d9 : decide (256 - (n : Int) < (cc : Int)) = false := dcF
        have HGX := hID (HST.out (by omega) (by omega) (by omega) (by omega) (by omega))
        try clear h3
        try clear h4
        try clear h6
        try clear h7
        have hs1 : IntKind.i64.wrap ((n : Int) + (cc : Int)) = (n : Int) + (cc : Int) := IntWalk.i64_in _ (by omega)
        go_wp2_with fail
        go_quiet (fail)
        have HO2 := hID ((HO.out.alloc (.cells #[.int .i64 (a : Int), .int .i64 (f : Int), .int .i64 (cc : Int)] 43)).drewN nq)
        go_wp2_with fail
        go_roundw
        case rel => exact ⟨k + 1, n + cc, a, by omega, by go_num, rfl, by go_num, HGX.out, HO2.out⟩
        case measure => simp [intOf]; omega
       ·have d9 : decide (256 - (n : Int) < (cc : Int)) = true := dcT
        have HBX := hID (HBAD.out (by omega))
        try clear h3
        try clear h4
        try clear h6
        try clear h7
        go_wp2_with fail
        go_ret2
        exact ⟨_, _, rfl, .inr ⟨HBX.out, by decide⟩, (HB0.out.2.also HO.out).alloc _⟩
      ·have d6 : ((a : Int) != (rule : Int)) = true := by rw [bne_iff_ne]; omega
       by_cases h6 : k = 0
       ·have d7 : ((k : Int) == 0) = true := by rw [beq_iff_eq]; omega
        by_cases h7 : a = rule + 1
        ·have d8 : ((a : Int) != ((rule : Int) + 1)) = false := by rw [show ((a : Int) : Int) = ((rule : Int) + 1) from by omega]; simp
         have HBX := hID (HBAD.out (by omega))
         try clear h3
         try clear h4
         try clear h6
         try clear h7
         go_wp2_with fail
         go_ret2
         exact ⟨_, _, rfl, .inr ⟨HBX.out, by decide⟩, (HB0.out.2.also HO.out).alloc _⟩
        ·have d8 : ((a : Int) != ((rule : Int) + 1)) = true := by rw [bne_iff_ne]; omega
         have HBX := hID (HBAD.out (by omega))
         try clear h3
         try clear h4
         try clear h6
         try clear h7
         go_wp2_with fail
         go_ret2
         exact ⟨_, _, rfl, .inr ⟨HBX.out, by decide⟩, (HB0.out.2.also HO.out).alloc _⟩
       ·have d7 : ((k : Int) == 0) = false := by rw [beq_eq_false_iff_ne]; omega
        by_cases h7 : a = rule + 1
        ·have d8 : ((a : Int) != ((rule : Int) + 1)) = false := by rw [show ((a : Int) : Int) = ((rule : Int) + 1) from by omega]; simp
         by_cases h5 : cc ≤ 256 - n
         ·have d9 : decide (256 - (n : Int) < (cc : Int)) = false := dcF
          have HGX := hID (HST.out (by omega) (by omega) (by omega) (by omega) (by omega))
          try clear h3
          try clear h4
          try clear h6
          try clear h7
          have hs1 : IntKind.i64.wrap ((n : Int) + (cc : Int)) = (n : Int) + (cc : Int) := IntWalk.i64_in _ (by omega)
          go_wp2_with fail
          go_quiet (fail)
          have HO2 := hID ((HO.out.alloc (.cells #[.int .i64 (a : Int), .int .i64 (f : Int), .int .i64 (cc : Int)] 43)).drewN nq)
          go_wp2_with fail
          go_roundw
          case rel => exact ⟨k + 1, n + cc, a, by omega, by go_num, rfl, by go_num, HGX.out, HO2.out⟩
          case measure => simp [intOf]; omega
         ·have d9 : decide (256 - (n : Int) < (cc : Int)) = true := dcT
          have HBX := hID (HBAD.out (by omega))
          try clear h3
          try clear h4
          try clear h6
          try clear h7
          go_wp2_with fail
          go_ret2
          exact ⟨_, _, rfl, .inr ⟨HBX.out, by decide⟩, (HB0.out.2.also HO.out).alloc _⟩
        ·have d8 : ((a : Int) != ((rule : Int) + 1)) = true := by rw [bne_iff_ne]; omega
         have HBX := hID (HBAD.out (by omega))
         try clear h3
         try clear h4
         try clear h6
         try clear h7
         go_wp2_with fail
         go_ret2
         exact ⟨_, _, rfl, .inr ⟨HBX.out, by decide⟩, (HB0.out.2.also HO.out).alloc _⟩
     ·have d5 : ((f : Int) != (n : Int)) = true := by rw [bne_iff_ne]; omega
      have HBX := hID (HBAD.out (by omega))
      try clear h3
      try clear h4
      try clear h6
      try clear h7
      go_wp2_with fail
      go_ret2
      exact ⟨_, _, rfl, .inr ⟨HBX.out, by decide⟩, (HB0.out.2.also HO.out).alloc _⟩
    ·have d4 : decide ((16 : Int) ≤ (a : Int)) = true := dcT
     have HBX := hID (HBAD.out (by omega))
     try clear h3
     try clear h4
     try clear h6
     try clear h7
     go_wp2_with fail
     go_ret2
     exact ⟨_, _, rfl, .inr ⟨HBX.out, by decide⟩, (HB0.out.2.also HO.out).alloc _⟩
   ·have d2 : decide ((cc : Int) < 1) = true := dcT
    have HBX := hID (HBAD.out (by omega))
    try clear h3
    try clear h4
    try clear h6
    try clear h7
    go_wp2_with fail
    go_ret2
    exact ⟨_, _, rfl, .inr ⟨HBX.out, by decide⟩, (HB0.out.2.also HO.out).alloc _⟩
  ·obtain rfl : k = l.length := by omega
   have d1 : decide ((l.length : Int) < (l.length : Int)) = false := dcF
   have HD := hID (HA.out.done hz1 W)
   have HWD := hID (fun W' => qu4 n (by omega) W')
   revert HD HWD
   generalize max ((n + 63) / 64) 1 = m
   intro HD HWD
   go_wp2_with fail
   by_cases hq : W = m
   ·have d6 : ((W : Int) != (m : Int)) = false := by rw [hq]; simp
    have HQ := hID hq
    clear hq
    go_region_held3 (fun W' => W'.cell? ⟨w.heap.size, 0, none⟩ = some (.int .i64 W))
     (first | with_reducible assumption | go_keep)
     (first | (go_at_call 91; refine (HWD.out _).mono ?_; rintro e w' ⟨rfl, rfl⟩))
    go_wp2_with fail
    go_ret2
    exact ⟨_, _, rfl, .inl ⟨by rw [HD.out]; exact dT HQ.out, rfl⟩, HB0.out.2.also HO.out.drew⟩
   ·have d6 : ((W : Int) != (m : Int)) = true := by rw [bne_iff_ne]; omega
    have HQ := hID hq
    clear hq
    go_region_held3 (fun W' => W'.cell? ⟨w.heap.size, 0, none⟩ = some (.int .i64 W))
     (first | with_reducible assumption | go_keep)
     (first | (go_at_call 91; refine (HWD.out _).mono ?_; rintro e w' ⟨rfl, rfl⟩))
    go_wp2_with fail
    go_ret2
    exact ⟨_, _, rfl, .inr ⟨by rw [HD.out]; exact dF HQ.out, by decide⟩, HB0.out.2.also HO.out.drew⟩
theorem qu5 (W : Nat) (h1 : 1 ≤ W) (hW : W ≤ 8) (l : List Ln) (hn : l.length ≤ 4096) (w : World) (v : Value) (hv : Rd w (fun _ => True) 3 v l.length (lnV l)) : Calls Tryz.prog 76 #[.agg #[.int .i64 W, v]] w (LnCk W l w) := by
 obtain ⟨A, c, rfl, _, hcell⟩ := hv.form
 have hl0 : ((l.length : Int) == 0) = decide (l.length = 0) := by rw [Bool.eq_iff_iff, beq_iff_eq, decide_eq_true_eq]; omega
 by_cases hz : l.length = 0
 ·have HN : Hid (qao W l = false) := hID (by rw [List.length_eq_zero_iff.1 hz]; rfl)
  have d0 : ((l.length : Int) == 0) = true := by rw [hl0]; exact dT hz
  clear hl0 hcell hv hz
  go_enter Tryz.func76, Tryz.ntmps76
  go_wp2_with fail
  go_ret2
  exact ⟨_, _, rfl, .inr ⟨HN.out, by decide⟩, oAl oRf _⟩
 have d0 : ((l.length : Int) == 0) = false := by rw [hl0]; exact dF hz
 have hz1 : 0 < l.length := by omega
 obtain ⟨b, o, rfl, hlt, hc⟩ := hcell hz1
 have HC : Hid (∀ W', Off Nob w W' → ∀ k, k < l.length → W'.cell? ⟨b, o + k * 3, none⟩ = some (.int .i64 ((l.getD k (0, 0, 0)).1 : Int)) ∧ W'.cell? ⟨b, o + k * 3 + 1, none⟩ = some (.int .i64 ((l.getD k (0, 0, 0)).2.1 : Int)) ∧ W'.cell? ⟨b, o + k * 3 + 2, none⟩ = some (.int .i64 ((l.getD k (0, 0, 0)).2.2 : Int))) := hID (fun W' ho k hk => by
  obtain ⟨g1, g2, g3⟩ := qew hk
  rw [ho.cell_old hlt, ho.cell_old hlt, ho.cell_old hlt]
  exact ⟨hc _ _ g1, by rw [Nat.add_assoc]; exact hc _ _ g2, by rw [Nat.add_assoc]; exact hc _ _ g3⟩)
 clear hl0 hcell hv hz hc
 go_enter Tryz.func76, Tryz.ntmps76
 have HB0 : Hid (Blk (w.alloc (.cells #[.int .i64 W, .slice (some ⟨b, o, none⟩) l.length c] 62)) w.heap.size 62 #[.int .i64 W, .slice (some ⟨b, o, none⟩) l.length c] ∧ Off Nob w (w.alloc (.cells #[.int .i64 W, .slice (some ⟨b, o, none⟩) l.length c] 62))) := hID ⟨Blk.new _ _ _, oAl oRf _⟩
 go_wp2_with fail
 revert HB0
 generalize (w.alloc (.cells #[.int .i64 W, .slice (some ⟨b, o, none⟩) l.length c] 62)) = w0
 intro HB0
 have GC : Hid (∀ W', Off Nob w0 W' → W'.cell? ⟨w.heap.size, 0, none⟩ = some (.int .i64 W) ∧ W'.cell? ⟨w.heap.size, 1, none⟩ = some (.slice (some ⟨b, o, none⟩) l.length c)) := hID (fun W' ho => by
  have h := HB0.out.1.to (ho.block _ HB0.out.1.lt id)
  exact ⟨h.cell 0, h.cell 1⟩)
 go_loopw [4, 5, 16] (fun x y z wr => ∃ k n rule : Nat, k ≤ l.length ∧ x = .int .i64 (n : Int) ∧ y = .int .i64 (rule : Int) ∧ z = .int .i64 (k : Int) ∧ LnAt l k n rule ∧ Off Nob w0 wr) (fun _ _ z _ => l.length - (intOf z).toNat)
 case atStart => exact ⟨0, 0, 0, Nat.zero_le _, rfl, rfl, rfl, LnAt.zero l, Off.refl _ _⟩
 case round =>
  obtain ⟨k, n, rule, hk, rfl, rfl, rfl, hat, ho⟩ := hrel
  have HA := hID hat
  have HO := hID ho
  have hn256 : n ≤ 256 := hat.1
  have hr16 : rule < 16 := hat.2.1
  have hk0 : k = 0 → rule = 0 := hat.2.2.1
  clear hat ho
  obtain ⟨t0, t1⟩ := GC.out _ HO.out
  by_cases hlt : k < l.length
  ·have d1 : decide ((k : Int) < (l.length : Int)) = true := dcT
   obtain ⟨c0, c1, c2⟩ := HC.out _ (HB0.out.2.also HO.out) k hlt
   obtain ⟨⟨a, f, cc⟩, hx⟩ : ∃ x, l.getD k (0, 0, 0) = x := ⟨_, rfl⟩
   have HX := hID hx
   rw [hx] at c0 c1 c2
   have HBAD := hID (fun hb => HA.out.bad hlt hx hb W)
   have HST := hID (fun h1 h2 h3 h4 h5 => HA.out.step hlt hx h1 h2 h3 h4 h5)
   clear hx
   replace c0 : wr.cell? ⟨b, o + k * 3, none⟩ = some (.int .i64 (a : Int)) := c0
   replace c1 : wr.cell? ⟨b, o + k * 3 + 1, none⟩ = some (.int .i64 (f : Int)) := c1
   replace c2 : wr.cell? ⟨b, o + k * 3 + 2, none⟩ = some (.int .i64 (cc : Int)) := c2
   by_cases h1 : 1 ≤ cc
   ·have d2 : decide ((cc : Int) < 1) = false := dcF
    have d3 : decide ((a : Int) < 0) = false := dcF
    by_cases h2 : a < 16
    ·have d4 : decide ((16 : Int) ≤ (a : Int)) = false := dcF
     by_cases h3 : f = n
     ·have d5 : ((f : Int) != (n : Int)) = false := by rw [show ((f : Int) : Int) = (n : Int) from by omega]; simp
      by_cases h4 : a = rule
      ·have d6 : (((a : Int) - (rule : Int)) != 0) = false := by rw [show (((a : Int) - (rule : Int)) : Int) = 0 from by omega]; simp
       by_cases h5 : cc ≤ 256 - n
       ·have d9 : decide (256 - (n : Int) < (cc : Int)) = false := dcF
        have HGX := hID (HST.out (by omega) (by omega) (by omega) (by omega) (by omega))
        try clear h3
        try clear h4
        try clear h6
        try clear h7
        go_wp2_with fail
        go_roundw
        case rel => exact ⟨k + 1, n + cc, a, by omega, by go_num, rfl, by go_num, HGX.out, HO.out.alloc _⟩
        case measure => simp [intOf]; omega
       ·have d9 : decide (256 - (n : Int) < (cc : Int)) = true := dcT
        have HBX := hID (HBAD.out (by omega))
        try clear h3
        try clear h4
        try clear h6
        try clear h7
        go_wp2_with fail
        go_ret2
        exact ⟨_, _, rfl, .inr ⟨HBX.out, by decide⟩, (HB0.out.2.also HO.out).alloc _⟩
      ·have d6 : (((a : Int) - (rule : Int)) != 0) = true := by rw [bne_iff_ne]; omega
       by_cases h6 : k = 0
       ·have d7 : ((k : Int) == 0) = true := by rw [beq_iff_eq]; omega
        by_cases h7 : a = rule + 1
        ·have d8 : (((a : Int) - (rule : Int)) != 1) = false := by rw [show (((a : Int) - (rule : Int)) : Int) = 1 from by omega]; simp
         have HBX := hID (HBAD.out (by omega))
         try clear h3
         try clear h4
         try clear h6
         try clear h7
         go_wp2_with fail
         go_ret2
         exact ⟨_, _, rfl, .inr ⟨HBX.out, by decide⟩, (HB0.out.2.also HO.out).alloc _⟩
        ·have d8 : (((a : Int) - (rule : Int)) != 1) = true := by rw [bne_iff_ne]; omega
         have HBX := hID (HBAD.out (by omega))
         try clear h3
         try clear h4
         try clear h6
         try clear h7
         go_wp2_with fail
         go_ret2
         exact ⟨_, _, rfl, .inr ⟨HBX.out, by decide⟩, (HB0.out.2.also HO.out).alloc _⟩
       ·have d7 : ((k : Int) == 0) = false := by rw [beq_eq_false_iff_ne]; omega
        by_cases h7 : a = rule + 1
        ·have d8 : (((a : Int) - (rule : Int)) != 1) = false := by rw [show (((a : Int) - (rule : Int)) : Int) = 1 from by omega]; simp
         by_cases h5 : cc ≤ 256 - n
         ·have d9 : decide (256 - (n : Int) < (cc : Int)) = false := dcF
          have HGX := hID (HST.out (by omega) (by omega) (by omega) (by omega) (by omega))
          try clear h3
          try clear h4
          try clear h6
          try clear h7
          go_wp2_with fail
          go_roundw
          case rel => exact ⟨k + 1, n + cc, a, by omega, by go_num, rfl, by go_num, HGX.out, HO.out.alloc _⟩
          case measure => simp [intOf]; omega
         ·have d9 : decide (256 - (n : Int) < (cc : Int)) = true := dcT
          have HBX := hID (HBAD.out (by omega))
          try clear h3
          try clear h4
          try clear h6
          try clear h7
          go_wp2_with fail
          go_ret2
          exact ⟨_, _, rfl, .inr ⟨HBX.out, by decide⟩, (HB0.out.2.also HO.out).alloc _⟩
        ·have d8 : (((a : Int) - (rule : Int)) != 1) = true := by rw [bne_iff_ne]; omega
         have HBX := hID (HBAD.out (by omega))
         try clear h3
         try clear h4
         try clear h6
         try clear h7
         go_wp2_with fail
         go_ret2
         exact ⟨_, _, rfl, .inr ⟨HBX.out, by decide⟩, (HB0.out.2.also HO.out).alloc _⟩
     ·have d5 : ((f : Int) != (n : Int)) = true := by rw [bne_iff_ne]; omega
      have HBX := hID (HBAD.out (by omega))
      try clear h3
      try clear h4
      try clear h6
      try clear h7
      go_wp2_with fail
      go_ret2
      exact ⟨_, _, rfl, .inr ⟨HBX.out, by decide⟩, (HB0.out.2.also HO.out).alloc _⟩
    ·have d4 : decide ((16 : Int) ≤ (a : Int)) = true := dcT
     have HBX := hID (HBAD.out (by omega))
     try clear h3
     try clear h4
     try clear h6
     try clear h7
     go_wp2_with fail
     go_ret2
     exact ⟨_, _, rfl, .inr ⟨HBX.out, by decide⟩, (HB0.out.2.also HO.out).alloc _⟩
   ·have d2 : decide ((cc : Int) < 1) = true := dcT
    have HBX := hID (HBAD.out (by omega))
    try clear h3
    try clear h4
    try clear h6
    try clear h7
    go_wp2_with fail
    go_ret2
    exact ⟨_, _, rfl, .inr ⟨HBX.out, by decide⟩, (HB0.out.2.also HO.out).alloc _⟩
  ·obtain rfl : k = l.length := by omega
   have d1 : decide ((l.length : Int) < (l.length : Int)) = false := dcF
   have HD := hID (HA.out.done hz1 W)
   have HWD := hID (fun W' => q1k n (by omega) W')
   revert HD HWD
   generalize max ((n + 63) / 64) 1 = m
   intro HD HWD
   go_wp2_with fail
   by_cases hq : W = m
   ·have d6 : ((W : Int) != (m : Int)) = false := by rw [hq]; simp
    have HQ := hID hq
    clear hq
    go_region_held3 (fun W' => W'.cell? ⟨w.heap.size, 0, none⟩ = some (.int .i64 W))
     (first | with_reducible assumption | go_keep)
     (first | (go_at_call 107; refine (HWD.out _).mono ?_; rintro e w' ⟨rfl, rfl⟩))
    go_wp2_with fail
    go_ret2
    exact ⟨_, _, rfl, .inl ⟨by rw [HD.out]; exact dT HQ.out, rfl⟩, HB0.out.2.also HO.out.drew⟩
   ·have d6 : ((W : Int) != (m : Int)) = true := by rw [bne_iff_ne]; omega
    have HQ := hID hq
    clear hq
    go_region_held3 (fun W' => W'.cell? ⟨w.heap.size, 0, none⟩ = some (.int .i64 W))
     (first | with_reducible assumption | go_keep)
     (first | (go_at_call 107; refine (HWD.out _).mono ?_; rintro e w' ⟨rfl, rfl⟩))
    go_wp2_with fail
    go_ret2
    exact ⟨_, _, rfl, .inr ⟨by rw [HD.out]; exact dF HQ.out, by decide⟩, HB0.out.2.also HO.out.drew⟩
end Go.Proofs.YtlgjaefcfnndhaaGreatDoor
