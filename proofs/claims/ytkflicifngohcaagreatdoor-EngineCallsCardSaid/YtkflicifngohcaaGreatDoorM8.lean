/-
 Two laws on append: of a slice that may be nil, and of so many zeros, to a slice of the call's own. Nothing of the program is named here.
-/
import Derived.Test.YtkflicifngohcaaGreatDoorM1
import Derived.Lib.AppendZerosOnto
import Derived.Laws.AppendOwnNone
import Derived.Test.YtkflicifngohcaaGreatDoorM7
import Derived.Deep.RegionHeld3
import Derived.BigQuiet
import Derived.Deep.QuietTactic
set_option linter.unusedVariables false
set_option linter.unusedSimpArgs false
namespace Go.Proofs.YtkflicifngohcaaGreatDoor
open Go.RowKit
section
variable {P : Program} {w : World} {ops : Array Oper} {rest : List Oper} {o : Oper} {a : Act} {Q : Exit → Act → World → Prop}
end
end Go.Proofs.YtkflicifngohcaaGreatDoor

namespace Go.Proofs.YtkflicifngohcaaGreatDoor
open Go.RowKit
set_option maxRecDepth 100000
def RetV (w : World) (v : Value) (e : Ending) (w' : World) : Prop := e = .returned v ∧ Off Nob w w'
def RetL (w : World) (size n : Nat) (xs : List Value) (e : Ending) (w' : World) : Prop := ∃ v, e = .returned v ∧ Rd w' (fun _ => True) size v n xs ∧ Off Nob w w'
def OwnL (w0 w : World) (e : TypeId) (size : Nat) (v : Value) (n : Nat) (xs : List Value) : Prop := w.ownsRow w0.heap.size e size v n xs ∧ Off Nob w0 w
section
variable {w0 w w' : World} {e : TypeId} {size n : Nat} {v : Value} {xs : List Value} {F : Nat → Prop}
theorem OwnL.nil (w : World) (e : TypeId) (size : Nat) : OwnL w w e size (.slice none 0 0) 0 [] := ⟨World.ownsRow_nil _ _ _ _, Off.refl _ _⟩
theorem OwnL.nilAt (o : Off Nob w0 w) (e : TypeId) (size : Nat) : OwnL w0 w e size (.slice none 0 0) 0 [] := ⟨World.ownsRow_nil _ _ _ _, o⟩
theorem OwnL.off (h : OwnL w0 w e size v n xs) (o : Off Nob w w') : OwnL w0 w' e size v n xs := ⟨own_to h.1 (fun g hg => o.block g (h.1.lt g hg).2 (fun h => h)), h.2.also o⟩
theorem OwnL.rd (h : OwnL w0 w e size v n xs) : Rd w (fun _ => True) size v n xs := Rd.own h.1 (fun _ _ => trivial)
theorem OwnL.form (h : OwnL w0 w e size v n xs) : ∃ A c, v = .slice A n c := by
 rcases h.1.2 with ⟨hx, h0⟩ | ⟨g, cap, cur, hv, _⟩
 ·exact ⟨none, 0, by rw [hx, h0]⟩
 ·exact ⟨_, _, hv⟩
theorem OwnL.grown (h : OwnL w0 w e size v n xs) {W : World} {v' : Value} {m : Nat} {ys : List Value} (o : Off Nob w W) (hown : w'.ownsRow w0.heap.size e size v' m ys) (hg : W.grownBy w' v.ownBlock) : OwnL w0 w' e size v' m ys :=
 ⟨hown, (h.2.also o).grown hg (fun k hk => .inr (h.1.lt k hk).1)⟩
theorem Rd.keepT (h : Rd w (fun _ => True) size v n xs) (o : Off Nob w w') : Rd w' (fun _ => True) size v n xs := h.keep o (fun _ _ h => h)
theorem Rd.any (h : Rd w F size v n xs) : Rd w (fun _ => True) size v n xs := h.mono (fun _ _ => trivial)
theorem Rd.cellsT (h : Rd w F size v n xs) (hn : 0 < n) : ∃ b o c, v = .slice (some ⟨b, o, none⟩) n c ∧ ∀ W, Off Nob w W → ∀ j u, xs[j]? = some u → W.cell? ⟨b, o + j, none⟩ = some u := by
 obtain ⟨A, c, rfl, _, _, hc⟩ := h
 obtain ⟨b, o, rfl, _, hb, hx⟩ := hc hn
 exact ⟨b, o, c, rfl, fun W ho j u hj => (ho.cell_old hb _).trans (hx j u hj)⟩
end
theorem RetV.mk {w w' : World} {v : Value} (o : Off Nob w w') : RetV w v (.returned v) w' := ⟨rfl, o⟩
theorem Rd.newT (w : World) (t : TypeId) (xs : List Value) (size n : Nat) (hl : xs.length = n * size) (hn : n ≤ maxLen) : Rd (w.alloc (.cells xs.toArray t)) (fun _ => True) size (.slice (some ⟨w.heap.size, 0, none⟩) n n) n xs :=
 ⟨_, _, rfl, hn, hl, fun _ => ⟨w.heap.size, 0, rfl, trivial, by simp, fun j u hu => by
  rw [Nat.zero_add, (Blk.new w t xs.toArray).cell]
  simpa using hu⟩⟩
theorem rd_zero (w : World) (A : Option Addr) (c size : Nat) : Rd w (fun _ => True) size (.slice A 0 c) 0 [] :=
 ⟨A, c, rfl, Nat.zero_le _, by simp, fun h => absurd h (Nat.lt_irrefl 0)⟩
theorem Tryz.infoI' : (Tryz.prog.info? 3).map (fun i => (i.zero, i.size, i.bytes)) = some (some (.int .i64 0), 1, 8) := by kernel_rfl
theorem Tryz.infoY : (Tryz.prog.info? 5).map (fun i => (i.zero, i.size, i.bytes)) = some (some (.int .u8 0), 1, 1) := by kernel_rfl
end Go.Proofs.YtkflicifngohcaaGreatDoor

namespace Go.Proofs.YtkflicifngohcaaGreatDoor
open Go.RowKit
set_option maxRecDepth 100000
theorem nright_yes (a b : Int) (h0 : 1 ≤ a) (h1 : a ≤ 4) (h2 : 1 ≤ b) (h3 : b ≤ 16) (w : World) : Calls Tryz.prog 74 #[.int .i64 a, .int .i64 b] w fun e w' => e = .returned (.bool true) ∧ w = w' := by
 have g0 : decide (1 ≤ a) = true := decide_eq_true h0
 have g1 : decide (a ≤ 4) = true := decide_eq_true h1
 have g2 : decide (1 ≤ b) = true := decide_eq_true h2
 have g3 : decide (b ≤ 16) = true := decide_eq_true h3
 go_enter Tryz.func74, Tryz.ntmps74
 go_wp2_with fail
 go_ret
 exact ⟨rfl, rfl⟩
theorem nright_no (a b : Int) (h : ¬ (1 ≤ a ∧ a ≤ 4 ∧ 1 ≤ b ∧ b ≤ 16)) (w : World) : Calls Tryz.prog 74 #[.int .i64 a, .int .i64 b] w fun e w' => e = .returned (.bool false) ∧ w = w' := by
 by_cases h0 : 1 ≤ a
 rotate_left
 ·have g0 : decide (1 ≤ a) = false := decide_eq_false h0
  clear h
  go_enter Tryz.func74, Tryz.ntmps74
  go_wp2_with fail
  go_ret
  exact ⟨rfl, rfl⟩
 by_cases h1 : a ≤ 4
 rotate_left
 ·have g0 : decide (1 ≤ a) = true := decide_eq_true h0
  have g1 : decide (a ≤ 4) = false := decide_eq_false h1
  clear h
  go_enter Tryz.func74, Tryz.ntmps74
  go_wp2_with fail
  go_ret
  exact ⟨rfl, rfl⟩
 by_cases h2 : 1 ≤ b
 rotate_left
 ·have g0 : decide (1 ≤ a) = true := decide_eq_true h0
  have g1 : decide (a ≤ 4) = true := decide_eq_true h1
  have g2 : decide (1 ≤ b) = false := decide_eq_false h2
  clear h
  go_enter Tryz.func74, Tryz.ntmps74
  go_wp2_with fail
  go_ret
  exact ⟨rfl, rfl⟩
 by_cases h3 : b ≤ 16
 rotate_left
 ·have g0 : decide (1 ≤ a) = true := decide_eq_true h0
  have g1 : decide (a ≤ 4) = true := decide_eq_true h1
  have g2 : decide (1 ≤ b) = true := decide_eq_true h2
  have g3 : decide (b ≤ 16) = false := decide_eq_false h3
  clear h
  go_enter Tryz.func74, Tryz.ntmps74
  go_wp2_with fail
  go_ret
  exact ⟨rfl, rfl⟩
 exact absurd ⟨h0, h1, h2, h3⟩ h
theorem nsteps_yes (a b : Int) (h0 : 1 ≤ a) (h1 : a ≤ 4) (h2 : 1 ≤ b) (h3 : b ≤ 16) (w : World) : Calls Tryz.prog 27 #[.int .i64 a, .int .i64 b] w fun e w' => e = .returned (.tuple #[.int .i64 (258 * a + b * a), .int .i64 (261 * a + b * (2 * a + 1)), .int .i64 0]) ∧ w = w' := by
 have HR := hID (nright_yes a b h0 h1 h2 h3 w)
 have : a = 1 ∨ a = 2 ∨ a = 3 ∨ a = 4 := by omega
 rcases this with rfl | rfl | rfl | rfl
 all_goals
  clear h0 h1
  go_enter Tryz.func27, Tryz.ntmps27
  go_wp2_with fail
  refine HR.out.mono ?_
  rintro e w' ⟨rfl, rfl⟩
  go_wp2_with fail
  go_ret3
  refine ⟨?_, rfl⟩
  simp
  try omega
theorem nsteps_no (a b : Int) (h : ¬ (1 ≤ a ∧ a ≤ 4 ∧ 1 ≤ b ∧ b ≤ 16)) (w : World) : Calls Tryz.prog 27 #[.int .i64 a, .int .i64 b] w fun e w' => e = .returned (.tuple #[.int .i64 0, .int .i64 0, .int .i64 7]) ∧ w = w' := by
 have HR := hID (nright_no a b h w)
 clear h
 go_enter Tryz.func27, Tryz.ntmps27
 go_wp2_with fail
 refine HR.out.mono ?_
 rintro e w' ⟨rfl, rfl⟩
 go_wp2_with fail
 go_ret3
 exact ⟨rfl, rfl⟩
theorem rright_yes (a b : Int) (h0 : 1 ≤ a) (h1 : a ≤ 4) (h2 : 1 ≤ b) (h3 : b ≤ 16) (w : World) : Calls Tryz.prog 75 #[.int .i64 a, .int .i64 b] w fun e w' => e = .returned (.bool true) ∧ w = w' := by
 have g0 : decide (1 ≤ a) = true := decide_eq_true h0
 have g1 : decide (a ≤ 4) = true := decide_eq_true h1
 have g2 : decide (1 ≤ b) = true := decide_eq_true h2
 have g3 : decide (b ≤ 16) = true := decide_eq_true h3
 go_enter Tryz.func75, Tryz.ntmps75
 go_wp2_with fail
 go_ret
 exact ⟨rfl, rfl⟩
theorem rright_no (a b : Int) (h : ¬ (1 ≤ a ∧ a ≤ 4 ∧ 1 ≤ b ∧ b ≤ 16)) (w : World) : Calls Tryz.prog 75 #[.int .i64 a, .int .i64 b] w fun e w' => e = .returned (.bool false) ∧ w = w' := by
 by_cases h0 : 1 ≤ a
 rotate_left
 ·have g0 : decide (1 ≤ a) = false := decide_eq_false h0
  clear h
  go_enter Tryz.func75, Tryz.ntmps75
  go_wp2_with fail
  go_ret
  exact ⟨rfl, rfl⟩
 by_cases h1 : a ≤ 4
 rotate_left
 ·have g0 : decide (1 ≤ a) = true := decide_eq_true h0
  have g1 : decide (a ≤ 4) = false := decide_eq_false h1
  clear h
  go_enter Tryz.func75, Tryz.ntmps75
  go_wp2_with fail
  go_ret
  exact ⟨rfl, rfl⟩
 by_cases h2 : 1 ≤ b
 rotate_left
 ·have g0 : decide (1 ≤ a) = true := decide_eq_true h0
  have g1 : decide (a ≤ 4) = true := decide_eq_true h1
  have g2 : decide (1 ≤ b) = false := decide_eq_false h2
  clear h
  go_enter Tryz.func75, Tryz.ntmps75
  go_wp2_with fail
  go_ret
  exact ⟨rfl, rfl⟩
 by_cases h3 : b ≤ 16
 rotate_left
 ·have g0 : decide (1 ≤ a) = true := decide_eq_true h0
  have g1 : decide (a ≤ 4) = true := decide_eq_true h1
  have g2 : decide (1 ≤ b) = true := decide_eq_true h2
  have g3 : decide (b ≤ 16) = false := decide_eq_false h3
  clear h
  go_enter Tryz.func75, Tryz.ntmps75
  go_wp2_with fail
  go_ret
  exact ⟨rfl, rfl⟩
 exact absurd ⟨h0, h1, h2, h3⟩ h
theorem rsteps_yes (a b : Int) (h0 : 1 ≤ a) (h1 : a ≤ 4) (h2 : 1 ≤ b) (h3 : b ≤ 16) (w : World) : Calls Tryz.prog 28 #[.int .i64 a, .int .i64 b] w fun e w' => e = .returned (.tuple #[.int .i64 (258 * a + b * a), .int .i64 (261 * a + b * (2 * a + 1)), .int .i64 0]) ∧ w = w' := by
 have HR := hID (rright_yes a b h0 h1 h2 h3 w)
 have : a = 1 ∨ a = 2 ∨ a = 3 ∨ a = 4 := by omega
 rcases this with rfl | rfl | rfl | rfl
 all_goals
  clear h0 h1
  go_enter Tryz.func28, Tryz.ntmps28
  go_wp2_with fail
  refine HR.out.mono ?_
  rintro e w' ⟨rfl, rfl⟩
  go_wp2_with fail
  go_ret3
  refine ⟨?_, rfl⟩
  simp
  try omega
end Go.Proofs.YtkflicifngohcaaGreatDoor

namespace Go.Proofs.YtkflicifngohcaaGreatDoor
open Go.RowKit
set_option maxRecDepth 100000
def hasB (a0 a1 a2 a3 : Int) (b : Nat) : Bool := ((if b < 64 then a0 else if b < 128 then a1 else if b < 192 then a2 else a3) / 2 ^ (b % 64)).tmod 2 == 1
set_option maxHeartbeats 1000000 in
theorem co_has (a0 a1 a2 a3 : Int) (b : Nat) (hb : b < 256) (w : World) :
  Calls Tryz.prog 152 #[.agg #[.int .u64 a0, .int .u64 a1, .int .u64 a2, .int .u64 a3], .int .u8 (b : Int)] w (RetV w (.bool (hasB a0 a1 a2 a3 b))) := by
 by_cases h0 : b < 64
 ·have e : (b : Int) / 64 = 0 := by omega
  have E : Hid (hasB a0 a1 a2 a3 b = ((a0 / 2 ^ (b % 64)).tmod 2 == 1)) := hID (by unfold hasB; rw [if_pos h0])
  rw [E.out]
  go_enter Tryz.func152, Tryz.ntmps152
  go_wp2_with fail
  go_ret
  exact ⟨rfl, Off.alloc (Off.refl _ _) _⟩
 by_cases h1 : b < 128
 ·have e : (b : Int) / 64 = 1 := by omega
  have E : Hid (hasB a0 a1 a2 a3 b = ((a1 / 2 ^ (b % 64)).tmod 2 == 1)) := hID (by unfold hasB; rw [if_neg h0, if_pos h1])
  rw [E.out]
  go_enter Tryz.func152, Tryz.ntmps152
  go_wp2_with fail
  go_ret
  exact ⟨rfl, Off.alloc (Off.refl _ _) _⟩
 by_cases h2 : b < 192
 ·have e : (b : Int) / 64 = 2 := by omega
  have E : Hid (hasB a0 a1 a2 a3 b = ((a2 / 2 ^ (b % 64)).tmod 2 == 1)) := hID (by unfold hasB; rw [if_neg h0, if_neg h1, if_pos h2])
  rw [E.out]
  go_enter Tryz.func152, Tryz.ntmps152
  go_wp2_with fail
  go_ret
  exact ⟨rfl, Off.alloc (Off.refl _ _) _⟩
 have e : (b : Int) / 64 = 3 := by omega
 have E : Hid (hasB a0 a1 a2 a3 b = ((a3 / 2 ^ (b % 64)).tmod 2 == 1)) := hID (by unfold hasB; rw [if_neg h0, if_neg h1, if_neg h2])
 rw [E.out]
 go_enter Tryz.func152, Tryz.ntmps152
 go_wp2_with fail
 go_ret
 exact ⟨rfl, Off.alloc (Off.refl _ _) _⟩
theorem blk_second (w : World) (a : Obj) (t : TypeId) (cs : Array Value) : Blk ((w.alloc a).alloc (.cells cs t)) (w.heap.size + 1) t cs := by
 have := Blk.new (w.alloc a) t cs
 simpa using this
theorem Tryz.infoCl : (Tryz.prog.info? 146).map (·.size) = some 4 := by kernel_rfl
theorem co_add_a (w : World) :
  Calls Tryz.prog 129 #[.agg #[.int .u64 0, .int .u64 0, .int .u64 0, .int .u64 0], .int .u8 97] w (RetV w (.agg #[.int .u64 0, .int .u64 8589934592, .int .u64 0, .int .u64 0])) := by
 have E : bits .or .u64 0 8589934592 = 8589934592 := by decide
 go_enter Tryz.func129, Tryz.ntmps129
 go_wp2_with fail
 exact bodyPost_ret (results_cell_row rfl _ _ _ _ _ (0, 0) _ rfl (blk_second _ _ _ _) Tryz.underlying146 rfl Tryz.infoCl) rfl ⟨rfl, Off.alloc (Off.alloc (Off.refl _ _) _) _⟩
theorem co_add_b (w : World) :
  Calls Tryz.prog 129 #[.agg #[.int .u64 0, .int .u64 0, .int .u64 0, .int .u64 0], .int .u8 98] w (RetV w (.agg #[.int .u64 0, .int .u64 17179869184, .int .u64 0, .int .u64 0])) := by
 have E : bits .or .u64 0 17179869184 = 17179869184 := by decide
 go_enter Tryz.func129, Tryz.ntmps129
 go_wp2_with fail
 exact bodyPost_ret (results_cell_row rfl _ _ _ _ _ (0, 0) _ rfl (blk_second _ _ _ _) Tryz.underlying146 rfl Tryz.infoCl) rfl ⟨rfl, Off.alloc (Off.alloc (Off.refl _ _) _) _⟩
theorem co_add_ab (w : World) :
  Calls Tryz.prog 129 #[.agg #[.int .u64 0, .int .u64 8589934592, .int .u64 0, .int .u64 0], .int .u8 98] w (RetV w (.agg #[.int .u64 0, .int .u64 25769803776, .int .u64 0, .int .u64 0])) := by
 have E : bits .or .u64 8589934592 17179869184 = 25769803776 := by decide
 go_enter Tryz.func129, Tryz.ntmps129
 go_wp2_with fail
 exact bodyPost_ret (results_cell_row rfl _ _ _ _ _ (0, 0) _ rfl (blk_second _ _ _ _) Tryz.underlying146 rfl Tryz.infoCl) rfl ⟨rfl, Off.alloc (Off.alloc (Off.refl _ _) _) _⟩
theorem off_cells {w W : World} (o : Off Nob w W) {g : Nat} (hg : w.heap.size ≤ g) (k : Nat) (vs : List Value) : Off Nob w (W.setCells g k vs) := by
 induction vs generalizing W k with
 | nil => exact o
 | cons v vs ih => exact ih (o.put (p := ⟨g, k, none⟩) (.inr hg) v) (k + 1)
theorem blk_cells4 {W : World} {g : Nat} {t : TypeId} {a b c d : Value} (h : Blk W g t #[a, b, c, d]) (x y z u : Value) : Blk (W.setCells g 0 [x, y, z, u]) g t #[x, y, z, u] := by
 show Blk ((((W.setCell ⟨g, 0, none⟩ x).setCell ⟨g, 0 + 1, none⟩ y).setCell ⟨g, 0 + 1 + 1, none⟩ z).setCell ⟨g, 0 + 1 + 1 + 1, none⟩ u) g t #[x, y, z, u]
 exact (((h.put 0 x).put 1 y).put 2 z).put 3 u
theorem blk_far4 {W : World} {g k : Nat} {t : TypeId} {cs : Array Value} (h : Blk W k t cs) (ne : k ≠ g) (o : Nat) (vs : List Value) : Blk (W.setCells g o vs) k t cs := by
 induction vs generalizing W o with
 | nil => exact h
 | cons v vs ih => exact ih (h.far (p := ⟨g, o, none⟩) ne v) (o + 1)
theorem blk_there {W : World} {g : Nat} {t : TypeId} {a b c d : Value} (h : Blk W g t #[a, b, c, d]) : W.there g 0 4 := fun j hj => by
 rw [Nat.zero_add]
 refine ⟨?_, h.frozen _⟩
 rw [h.cell]
 have : j = 0 ∨ j = 1 ∨ j = 2 ∨ j = 3 := by omega
 rcases this with rfl | rfl | rfl | rfl <;> rfl
set_option maxHeartbeats 2000000 in
theorem co_of_a (w : World) (v : Value) (hv : Rd w (fun _ => True) 1 v 1 [.int .u8 97]) : Calls Tryz.prog 84 #[v] w (RetV w (.agg #[.int .u64 0, .int .u64 8589934592, .int .u64 0, .int .u64 0])) := by
 obtain ⟨b, o, c, rfl, hc⟩ := hv.cellsT (by decide)
 have HC := hID hc
 clear hc hv
 go_enter Tryz.func84, Tryz.ntmps84
 go_wp2_with fail
 refine wp_loop_rounds 2 ?_
 rw [rounds_succ]
 have OO0 : Hid (Off Nob w ((w.alloc (.cells #[.int .u64 0, .int .u64 0, .int .u64 0, .int .u64 0] 146)).alloc (.cells #[.int .u64 0, .int .u64 0, .int .u64 0, .int .u64 0] 146))) := hID (Off.alloc (Off.alloc (Off.refl _ _) _) _)
 have B0 : Hid (Blk ((w.alloc (.cells #[.int .u64 0, .int .u64 0, .int .u64 0, .int .u64 0] 146)).alloc (.cells #[.int .u64 0, .int .u64 0, .int .u64 0, .int .u64 0] 146)) (w.heap.size + 1) 146 #[.int .u64 0, .int .u64 0, .int .u64 0, .int .u64 0]) := hID (by have := Blk.new (w.alloc (.cells #[.int .u64 0, .int .u64 0, .int .u64 0, .int .u64 0] 146)) 146 #[.int .u64 0, .int .u64 0, .int .u64 0, .int .u64 0]; simpa using this)
 have R0 : Hid (Blk ((w.alloc (.cells #[.int .u64 0, .int .u64 0, .int .u64 0, .int .u64 0] 146)).alloc (.cells #[.int .u64 0, .int .u64 0, .int .u64 0, .int .u64 0] 146)) w.heap.size 146 #[.int .u64 0, .int .u64 0, .int .u64 0, .int .u64 0]) := hID ((Blk.new _ _ _).alloc _)
 revert OO0 B0 R0
 generalize (w.alloc (.cells #[.int .u64 0, .int .u64 0, .int .u64 0, .int .u64 0] 146)).alloc (.cells #[.int .u64 0, .int .u64 0, .int .u64 0, .int .u64 0] 146) = X0
 intro OO0 B0 R0
 have ck0 := HC.out _ OO0.out 0 _ rfl
 try simp only [Nat.add_zero] at ck0
 have t0 := B0.out.cell 0
 have t1 := B0.out.cell 1
 have t2 := B0.out.cell 2
 have t3 := B0.out.cell 3
 simp only [List.getElem?_toArray, List.getElem?_cons_succ, List.getElem?_cons_zero] at t0 t1 t2 t3
 go_wp2_with fail
 refine wp_region_held_drew (S := fun W => W.cell? ⟨b, o, none⟩ = some (.int .u8 97)) (by kernel_rfl) ck0 (fun hHeld => ?_)
 refine wpAnyH_take (i := 1) (v := ?v0) rfl (by kernel_rfl) (by kernel_rfl) (by kernel_rfl) (fun _ _ _ h => h) (Or.inl ⟨by rfl, ?h0⟩) (by assumption) ?r0
 case h0 => (intro w hSw; (try dsimp only at hSw); go_simp <;> with_reducible rfl)
 try simp only [Act.put, qL1, qL2, qL3, qL4, qL5, qL6]
 refine wpAnyH_take (i := 2) (v := ?v1) rfl (by kernel_rfl) (by kernel_rfl) (by kernel_rfl) (fun _ _ _ h => h) (Or.inl ⟨by rfl, ?h1⟩) (by assumption) ?r1
 case h1 => (intro w hSw; (try dsimp only at hSw); go_simp <;> with_reducible rfl)
 try simp only [Act.put, qL1, qL2, qL3, qL4, qL5, qL6]
 refine wpAnyH_take (i := 3) (v := ?v2) rfl (by kernel_rfl) (by kernel_rfl) (by kernel_rfl) (fun _ _ _ h => h) (Or.inl ⟨by rfl, ?h2⟩) (by assumption) ?r2
 case h2 => (intro w hSw; (try dsimp only at hSw); go_simp <;> with_reducible rfl)
 try simp only [Act.put, qL1, qL2, qL3, qL4, qL5, qL6]
 refine wpAnyH_take (i := 4) (v := ?v3) rfl (by kernel_rfl) (by kernel_rfl) (by kernel_rfl) (fun _ _ _ h => h) (Or.inl ⟨by rfl, ?h3⟩) (by assumption) ?r3
 case h3 => (intro w hSw; (try dsimp only at hSw); go_simp <;> with_reducible rfl)
 try simp only [Act.put, qL1, qL2, qL3, qL4, qL5, qL6]
 refine wpAnyH_ready (rs := [0]) (by kernel_rfl) (by simp) ?_
 refine AllReadyH.cons rfl (fun K hK => ?s4) ?m4
 case s4 =>
  go_simp
  refine hK.out _ _ ?_ (fun hHeld => ?_)
  ·first | exact hHeld | go_keep
  clear hK K
  try simp only [Act.put, qL1, qL2, qL3, qL4, qL5, qL6]
  refine wpAnyH_ready (rs := [5]) (by kernel_rfl) (by simp) ?_
  refine AllReadyH.cons rfl (fun K hK => ?s5) ?m5
  case s5 =>
   go_simp
   refine (co_add_a _).mono ?_
   rintro e W0 ⟨rfl, o0⟩
   have OZ0 := hID (OO0.out.also ((Off.drew (Off.refl _ _)).also o0))
   have BZ0 := hID (Blk.to B0.out (((Off.drew (Off.refl _ _)).also o0).block _ B0.out.lt (fun h => h)))
   have RZ0 := hID (Blk.to R0.out (((Off.drew (Off.refl _ _)).also o0).block _ R0.out.lt (fun h => h)))
   have ck0 := HC.out _ OZ0.out 0 _ rfl
   try simp only [Nat.add_zero] at ck0
   clear OO0 B0 R0
   refine hK.out _ _ ?_ (fun hHeld => ?_)
   ·first | exact ck0 | go_keep
   clear hK K
   try simp only [Act.put, qL1, qL2, qL3, qL4, qL5, qL6]
   refine wpAnyH_ready (rs := [6]) (by kernel_rfl) (by simp) ?_
   refine AllReadyH.cons rfl (fun K hK => ?s6) ?m6
   case s6 =>
    refine wp_store_mid 146 _ _ rfl (w.heap.size + 1) 0 #[.int .u64 0, .int .u64 8589934592, .int .u64 0, .int .u64 0] rfl rfl (blk_there BZ0.out) Tryz.infoCl (by simp [Value.oneCell']) ?_
    refine hK.out _ _ ?_ (fun hHeld => ?_)
    ·first | exact (HC.out _ (off_cells OZ0.out (by omega) _ _) 0 _ rfl) | go_keep
    clear hK K
    try simp only [Act.put, qL1, qL2, qL3, qL4, qL5, qL6]
    refine wpAnyH_done (by kernel_rfl) ?_ _
    clear hHeld
    have OO1 : Hid (Off Nob w (W0.setCells (w.heap.size + 1) 0 [.int .u64 0, .int .u64 8589934592, .int .u64 0, .int .u64 0])) := hID (off_cells OZ0.out (by omega) _ _)
    have B1 : Hid (Blk (W0.setCells (w.heap.size + 1) 0 [.int .u64 0, .int .u64 8589934592, .int .u64 0, .int .u64 0]) (w.heap.size + 1) 146 #[.int .u64 0, .int .u64 8589934592, .int .u64 0, .int .u64 0]) := hID (blk_cells4 BZ0.out _ _ _ _)
    have R1 : Hid (Blk (W0.setCells (w.heap.size + 1) 0 [.int .u64 0, .int .u64 8589934592, .int .u64 0, .int .u64 0]) w.heap.size 146 #[.int .u64 0, .int .u64 0, .int .u64 0, .int .u64 0]) := hID (blk_far4 RZ0.out (by omega) _ _)
    clear OZ0 BZ0 RZ0
    obtain ⟨X1, hX1⟩ : ∃ W, W0.setCells (w.heap.size + 1) 0 [.int .u64 0, .int .u64 8589934592, .int .u64 0, .int .u64 0] = W := ⟨_, rfl⟩
    rw [hX1] at OO1 B1 R1 ⊢
    clear hX1
    go_wp2_with fail
    rw [rounds_succ]
    clear ck0 t0 t1 t2 t3
    have t0 := B1.out.cell 0
    have t1 := B1.out.cell 1
    have t2 := B1.out.cell 2
    have t3 := B1.out.cell 3
    have s0 := R1.out.cell 0
    have s1 := R1.out.cell 1
    have s2 := R1.out.cell 2
    have s3 := R1.out.cell 3
    simp only [List.getElem?_toArray, List.getElem?_cons_succ, List.getElem?_cons_zero] at t0 t1 t2 t3 s0 s1 s2 s3
    have f0 := R1.out.frozen 0
    have f1 := R1.out.frozen 1
    have f2 := R1.out.frozen 2
    have f3 := R1.out.frozen 3
    have RR : Hid (Blk (X1.setCells w.heap.size 0 [.int .u64 0, .int .u64 8589934592, .int .u64 0, .int .u64 0]) w.heap.size 146 #[.int .u64 0, .int .u64 8589934592, .int .u64 0, .int .u64 0] ∧ Off Nob w (X1.setCells w.heap.size 0 [.int .u64 0, .int .u64 8589934592, .int .u64 0, .int .u64 0])) := hID ⟨blk_cells4 R1.out _ _ _ _, off_cells OO1.out (Nat.le_refl _) _ _⟩
    go_wp2_with fail
    exact bodyPost_ret (results_cell_row rfl _ _ _ _ _ (0, 0) _ rfl RR.out.1 Tryz.underlying146 rfl Tryz.infoCl) rfl ⟨rfl, RR.out.2⟩
   exact AllReadyH.nil
  exact AllReadyH.nil
 exact AllReadyH.nil
set_option maxHeartbeats 2000000 in
theorem co_of_b (w : World) (v : Value) (hv : Rd w (fun _ => True) 1 v 1 [.int .u8 98]) : Calls Tryz.prog 84 #[v] w (RetV w (.agg #[.int .u64 0, .int .u64 17179869184, .int .u64 0, .int .u64 0])) := by
 obtain ⟨b, o, c, rfl, hc⟩ := hv.cellsT (by decide)
 have HC := hID hc
 clear hc hv
 go_enter Tryz.func84, Tryz.ntmps84
 go_wp2_with fail
 refine wp_loop_rounds 2 ?_
 rw [rounds_succ]
 have OO0 : Hid (Off Nob w ((w.alloc (.cells #[.int .u64 0, .int .u64 0, .int .u64 0, .int .u64 0] 146)).alloc (.cells #[.int .u64 0, .int .u64 0, .int .u64 0, .int .u64 0] 146))) := hID (Off.alloc (Off.alloc (Off.refl _ _) _) _)
 have B0 : Hid (Blk ((w.alloc (.cells #[.int .u64 0, .int .u64 0, .int .u64 0, .int .u64 0] 146)).alloc (.cells #[.int .u64 0, .int .u64 0, .int .u64 0, .int .u64 0] 146)) (w.heap.size + 1) 146 #[.int .u64 0, .int .u64 0, .int .u64 0, .int .u64 0]) := hID (by have := Blk.new (w.alloc (.cells #[.int .u64 0, .int .u64 0, .int .u64 0, .int .u64 0] 146)) 146 #[.int .u64 0, .int .u64 0, .int .u64 0, .int .u64 0]; simpa using this)
 have R0 : Hid (Blk ((w.alloc (.cells #[.int .u64 0, .int .u64 0, .int .u64 0, .int .u64 0] 146)).alloc (.cells #[.int .u64 0, .int .u64 0, .int .u64 0, .int .u64 0] 146)) w.heap.size 146 #[.int .u64 0, .int .u64 0, .int .u64 0, .int .u64 0]) := hID ((Blk.new _ _ _).alloc _)
 revert OO0 B0 R0
 generalize (w.alloc (.cells #[.int .u64 0, .int .u64 0, .int .u64 0, .int .u64 0] 146)).alloc (.cells #[.int .u64 0, .int .u64 0, .int .u64 0, .int .u64 0] 146) = X0
 intro OO0 B0 R0
 have ck0 := HC.out _ OO0.out 0 _ rfl
 try simp only [Nat.add_zero] at ck0
 have t0 := B0.out.cell 0
 have t1 := B0.out.cell 1
 have t2 := B0.out.cell 2
 have t3 := B0.out.cell 3
 simp only [List.getElem?_toArray, List.getElem?_cons_succ, List.getElem?_cons_zero] at t0 t1 t2 t3
 go_wp2_with fail
 refine wp_region_held_drew (S := fun W => W.cell? ⟨b, o, none⟩ = some (.int .u8 98)) (by kernel_rfl) ck0 (fun hHeld => ?_)
 refine wpAnyH_take (i := 1) (v := ?v0) rfl (by kernel_rfl) (by kernel_rfl) (by kernel_rfl) (fun _ _ _ h => h) (Or.inl ⟨by rfl, ?h0⟩) (by assumption) ?r0
 case h0 => (intro w hSw; (try dsimp only at hSw); go_simp <;> with_reducible rfl)
 try simp only [Act.put, qL1, qL2, qL3, qL4, qL5, qL6]
 refine wpAnyH_take (i := 2) (v := ?v1) rfl (by kernel_rfl) (by kernel_rfl) (by kernel_rfl) (fun _ _ _ h => h) (Or.inl ⟨by rfl, ?h1⟩) (by assumption) ?r1
 case h1 => (intro w hSw; (try dsimp only at hSw); go_simp <;> with_reducible rfl)
 try simp only [Act.put, qL1, qL2, qL3, qL4, qL5, qL6]
 refine wpAnyH_take (i := 3) (v := ?v2) rfl (by kernel_rfl) (by kernel_rfl) (by kernel_rfl) (fun _ _ _ h => h) (Or.inl ⟨by rfl, ?h2⟩) (by assumption) ?r2
 case h2 => (intro w hSw; (try dsimp only at hSw); go_simp <;> with_reducible rfl)
 try simp only [Act.put, qL1, qL2, qL3, qL4, qL5, qL6]
 refine wpAnyH_take (i := 4) (v := ?v3) rfl (by kernel_rfl) (by kernel_rfl) (by kernel_rfl) (fun _ _ _ h => h) (Or.inl ⟨by rfl, ?h3⟩) (by assumption) ?r3
 case h3 => (intro w hSw; (try dsimp only at hSw); go_simp <;> with_reducible rfl)
 try simp only [Act.put, qL1, qL2, qL3, qL4, qL5, qL6]
 refine wpAnyH_ready (rs := [0]) (by kernel_rfl) (by simp) ?_
 refine AllReadyH.cons rfl (fun K hK => ?s4) ?m4
 case s4 =>
  go_simp
  refine hK.out _ _ ?_ (fun hHeld => ?_)
  ·first | exact hHeld | go_keep
  clear hK K
  try simp only [Act.put, qL1, qL2, qL3, qL4, qL5, qL6]
  refine wpAnyH_ready (rs := [5]) (by kernel_rfl) (by simp) ?_
  refine AllReadyH.cons rfl (fun K hK => ?s5) ?m5
  case s5 =>
   go_simp
   refine (co_add_b _).mono ?_
   rintro e W0 ⟨rfl, o0⟩
   have OZ0 := hID (OO0.out.also ((Off.drew (Off.refl _ _)).also o0))
   have BZ0 := hID (Blk.to B0.out (((Off.drew (Off.refl _ _)).also o0).block _ B0.out.lt (fun h => h)))
   have RZ0 := hID (Blk.to R0.out (((Off.drew (Off.refl _ _)).also o0).block _ R0.out.lt (fun h => h)))
   have ck0 := HC.out _ OZ0.out 0 _ rfl
   try simp only [Nat.add_zero] at ck0
   clear OO0 B0 R0
   refine hK.out _ _ ?_ (fun hHeld => ?_)
   ·first | exact ck0 | go_keep
   clear hK K
   try simp only [Act.put, qL1, qL2, qL3, qL4, qL5, qL6]
   refine wpAnyH_ready (rs := [6]) (by kernel_rfl) (by simp) ?_
   refine AllReadyH.cons rfl (fun K hK => ?s6) ?m6
   case s6 =>
    refine wp_store_mid 146 _ _ rfl (w.heap.size + 1) 0 #[.int .u64 0, .int .u64 17179869184, .int .u64 0, .int .u64 0] rfl rfl (blk_there BZ0.out) Tryz.infoCl (by simp [Value.oneCell']) ?_
    refine hK.out _ _ ?_ (fun hHeld => ?_)
    ·first | exact (HC.out _ (off_cells OZ0.out (by omega) _ _) 0 _ rfl) | go_keep
    clear hK K
    try simp only [Act.put, qL1, qL2, qL3, qL4, qL5, qL6]
    refine wpAnyH_done (by kernel_rfl) ?_ _
    clear hHeld
    have OO1 : Hid (Off Nob w (W0.setCells (w.heap.size + 1) 0 [.int .u64 0, .int .u64 17179869184, .int .u64 0, .int .u64 0])) := hID (off_cells OZ0.out (by omega) _ _)
    have B1 : Hid (Blk (W0.setCells (w.heap.size + 1) 0 [.int .u64 0, .int .u64 17179869184, .int .u64 0, .int .u64 0]) (w.heap.size + 1) 146 #[.int .u64 0, .int .u64 17179869184, .int .u64 0, .int .u64 0]) := hID (blk_cells4 BZ0.out _ _ _ _)
    have R1 : Hid (Blk (W0.setCells (w.heap.size + 1) 0 [.int .u64 0, .int .u64 17179869184, .int .u64 0, .int .u64 0]) w.heap.size 146 #[.int .u64 0, .int .u64 0, .int .u64 0, .int .u64 0]) := hID (blk_far4 RZ0.out (by omega) _ _)
    clear OZ0 BZ0 RZ0
    obtain ⟨X1, hX1⟩ : ∃ W, W0.setCells (w.heap.size + 1) 0 [.int .u64 0, .int .u64 17179869184, .int .u64 0, .int .u64 0] = W := ⟨_, rfl⟩
    rw [hX1] at OO1 B1 R1 ⊢
    clear hX1
    go_wp2_with fail
    rw [rounds_succ]
    clear ck0 t0 t1 t2 t3
    have t0 := B1.out.cell 0
    have t1 := B1.out.cell 1
    have t2 := B1.out.cell 2
    have t3 := B1.out.cell 3
    have s0 := R1.out.cell 0
    have s1 := R1.out.cell 1
    have s2 := R1.out.cell 2
    have s3 := R1.out.cell 3
    simp only [List.getElem?_toArray, List.getElem?_cons_succ, List.getElem?_cons_zero] at t0 t1 t2 t3 s0 s1 s2 s3
    have f0 := R1.out.frozen 0
    have f1 := R1.out.frozen 1
    have f2 := R1.out.frozen 2
    have f3 := R1.out.frozen 3
    have RR : Hid (Blk (X1.setCells w.heap.size 0 [.int .u64 0, .int .u64 17179869184, .int .u64 0, .int .u64 0]) w.heap.size 146 #[.int .u64 0, .int .u64 17179869184, .int .u64 0, .int .u64 0] ∧ Off Nob w (X1.setCells w.heap.size 0 [.int .u64 0, .int .u64 17179869184, .int .u64 0, .int .u64 0])) := hID ⟨blk_cells4 R1.out _ _ _ _, off_cells OO1.out (Nat.le_refl _) _ _⟩
    go_wp2_with fail
    exact bodyPost_ret (results_cell_row rfl _ _ _ _ _ (0, 0) _ rfl RR.out.1 Tryz.underlying146 rfl Tryz.infoCl) rfl ⟨rfl, RR.out.2⟩
   exact AllReadyH.nil
  exact AllReadyH.nil
 exact AllReadyH.nil
set_option maxHeartbeats 2000000 in
theorem co_of_ab (w : World) (v : Value) (hv : Rd w (fun _ => True) 1 v 2 [.int .u8 97, .int .u8 98]) : Calls Tryz.prog 84 #[v] w (RetV w (.agg #[.int .u64 0, .int .u64 25769803776, .int .u64 0, .int .u64 0])) := by
 obtain ⟨b, o, c, rfl, hc⟩ := hv.cellsT (by decide)
 have HC := hID hc
 clear hc hv
 go_enter Tryz.func84, Tryz.ntmps84
 go_wp2_with fail
 refine wp_loop_rounds 3 ?_
 rw [rounds_succ]
 have OO0 : Hid (Off Nob w ((w.alloc (.cells #[.int .u64 0, .int .u64 0, .int .u64 0, .int .u64 0] 146)).alloc (.cells #[.int .u64 0, .int .u64 0, .int .u64 0, .int .u64 0] 146))) := hID (Off.alloc (Off.alloc (Off.refl _ _) _) _)
 have B0 : Hid (Blk ((w.alloc (.cells #[.int .u64 0, .int .u64 0, .int .u64 0, .int .u64 0] 146)).alloc (.cells #[.int .u64 0, .int .u64 0, .int .u64 0, .int .u64 0] 146)) (w.heap.size + 1) 146 #[.int .u64 0, .int .u64 0, .int .u64 0, .int .u64 0]) := hID (by have := Blk.new (w.alloc (.cells #[.int .u64 0, .int .u64 0, .int .u64 0, .int .u64 0] 146)) 146 #[.int .u64 0, .int .u64 0, .int .u64 0, .int .u64 0]; simpa using this)
 have R0 : Hid (Blk ((w.alloc (.cells #[.int .u64 0, .int .u64 0, .int .u64 0, .int .u64 0] 146)).alloc (.cells #[.int .u64 0, .int .u64 0, .int .u64 0, .int .u64 0] 146)) w.heap.size 146 #[.int .u64 0, .int .u64 0, .int .u64 0, .int .u64 0]) := hID ((Blk.new _ _ _).alloc _)
 revert OO0 B0 R0
 generalize (w.alloc (.cells #[.int .u64 0, .int .u64 0, .int .u64 0, .int .u64 0] 146)).alloc (.cells #[.int .u64 0, .int .u64 0, .int .u64 0, .int .u64 0] 146) = X0
 intro OO0 B0 R0
 have ck0 := HC.out _ OO0.out 0 _ rfl
 try simp only [Nat.add_zero] at ck0
 have t0 := B0.out.cell 0
 have t1 := B0.out.cell 1
 have t2 := B0.out.cell 2
 have t3 := B0.out.cell 3
 simp only [List.getElem?_toArray, List.getElem?_cons_succ, List.getElem?_cons_zero] at t0 t1 t2 t3
 go_wp2_with fail
 refine wp_region_held_drew (S := fun W => W.cell? ⟨b, o, none⟩ = some (.int .u8 97)) (by kernel_rfl) ck0 (fun hHeld => ?_)
 refine wpAnyH_take (i := 1) (v := ?v0) rfl (by kernel_rfl) (by kernel_rfl) (by kernel_rfl) (fun _ _ _ h => h) (Or.inl ⟨by rfl, ?h0⟩) (by assumption) ?r0
 case h0 => (intro w hSw; (try dsimp only at hSw); go_simp <;> with_reducible rfl)
 try simp only [Act.put, qL1, qL2, qL3, qL4, qL5, qL6]
 refine wpAnyH_take (i := 2) (v := ?v1) rfl (by kernel_rfl) (by kernel_rfl) (by kernel_rfl) (fun _ _ _ h => h) (Or.inl ⟨by rfl, ?h1⟩) (by assumption) ?r1
 case h1 => (intro w hSw; (try dsimp only at hSw); go_simp <;> with_reducible rfl)
 try simp only [Act.put, qL1, qL2, qL3, qL4, qL5, qL6]
 refine wpAnyH_take (i := 3) (v := ?v2) rfl (by kernel_rfl) (by kernel_rfl) (by kernel_rfl) (fun _ _ _ h => h) (Or.inl ⟨by rfl, ?h2⟩) (by assumption) ?r2
 case h2 => (intro w hSw; (try dsimp only at hSw); go_simp <;> with_reducible rfl)
 try simp only [Act.put, qL1, qL2, qL3, qL4, qL5, qL6]
 refine wpAnyH_take (i := 4) (v := ?v3) rfl (by kernel_rfl) (by kernel_rfl) (by kernel_rfl) (fun _ _ _ h => h) (Or.inl ⟨by rfl, ?h3⟩) (by assumption) ?r3
 case h3 => (intro w hSw; (try dsimp only at hSw); go_simp <;> with_reducible rfl)
 try simp only [Act.put, qL1, qL2, qL3, qL4, qL5, qL6]
 refine wpAnyH_ready (rs := [0]) (by kernel_rfl) (by simp) ?_
 refine AllReadyH.cons rfl (fun K hK => ?s4) ?m4
 case s4 =>
  go_simp
  refine hK.out _ _ ?_ (fun hHeld => ?_)
  ·first | exact hHeld | go_keep
  clear hK K
  try simp only [Act.put, qL1, qL2, qL3, qL4, qL5, qL6]
  refine wpAnyH_ready (rs := [5]) (by kernel_rfl) (by simp) ?_
  refine AllReadyH.cons rfl (fun K hK => ?s5) ?m5
  case s5 =>
   go_simp
   refine (co_add_a _).mono ?_
   rintro e W0 ⟨rfl, o0⟩
   have OZ0 := hID (OO0.out.also ((Off.drew (Off.refl _ _)).also o0))
   have BZ0 := hID (Blk.to B0.out (((Off.drew (Off.refl _ _)).also o0).block _ B0.out.lt (fun h => h)))
   have RZ0 := hID (Blk.to R0.out (((Off.drew (Off.refl _ _)).also o0).block _ R0.out.lt (fun h => h)))
   have ck0 := HC.out _ OZ0.out 0 _ rfl
   try simp only [Nat.add_zero] at ck0
   clear OO0 B0 R0
   refine hK.out _ _ ?_ (fun hHeld => ?_)
   ·first | exact ck0 | go_keep
   clear hK K
   try simp only [Act.put, qL1, qL2, qL3, qL4, qL5, qL6]
   refine wpAnyH_ready (rs := [6]) (by kernel_rfl) (by simp) ?_
   refine AllReadyH.cons rfl (fun K hK => ?s6) ?m6
   case s6 =>
    refine wp_store_mid 146 _ _ rfl (w.heap.size + 1) 0 #[.int .u64 0, .int .u64 8589934592, .int .u64 0, .int .u64 0] rfl rfl (blk_there BZ0.out) Tryz.infoCl (by simp [Value.oneCell']) ?_
    refine hK.out _ _ ?_ (fun hHeld => ?_)
    ·first | exact (HC.out _ (off_cells OZ0.out (by omega) _ _) 0 _ rfl) | go_keep
    clear hK K
    try simp only [Act.put, qL1, qL2, qL3, qL4, qL5, qL6]
    refine wpAnyH_done (by kernel_rfl) ?_ _
    clear hHeld
    have OO1 : Hid (Off Nob w (W0.setCells (w.heap.size + 1) 0 [.int .u64 0, .int .u64 8589934592, .int .u64 0, .int .u64 0])) := hID (off_cells OZ0.out (by omega) _ _)
    have B1 : Hid (Blk (W0.setCells (w.heap.size + 1) 0 [.int .u64 0, .int .u64 8589934592, .int .u64 0, .int .u64 0]) (w.heap.size + 1) 146 #[.int .u64 0, .int .u64 8589934592, .int .u64 0, .int .u64 0]) := hID (blk_cells4 BZ0.out _ _ _ _)
    have R1 : Hid (Blk (W0.setCells (w.heap.size + 1) 0 [.int .u64 0, .int .u64 8589934592, .int .u64 0, .int .u64 0]) w.heap.size 146 #[.int .u64 0, .int .u64 0, .int .u64 0, .int .u64 0]) := hID (blk_far4 RZ0.out (by omega) _ _)
    clear OZ0 BZ0 RZ0
    obtain ⟨X1, hX1⟩ : ∃ W, W0.setCells (w.heap.size + 1) 0 [.int .u64 0, .int .u64 8589934592, .int .u64 0, .int .u64 0] = W := ⟨_, rfl⟩
    rw [hX1] at OO1 B1 R1 ⊢
    clear hX1
    go_wp2_with fail
    rw [rounds_succ]
    clear ck0 t0 t1 t2 t3
    have ck1 := HC.out _ OO1.out 1 _ rfl
    try simp only [Nat.add_zero] at ck1
    have t0 := B1.out.cell 0
    have t1 := B1.out.cell 1
    have t2 := B1.out.cell 2
    have t3 := B1.out.cell 3
    simp only [List.getElem?_toArray, List.getElem?_cons_succ, List.getElem?_cons_zero] at t0 t1 t2 t3
    go_wp2_with fail
    refine wp_region_held_drew (S := fun W => W.cell? ⟨b, o + 1, none⟩ = some (.int .u8 98)) (by kernel_rfl) ck1 (fun hHeld => ?_)
    refine wpAnyH_take (i := 1) (v := ?v100) rfl (by kernel_rfl) (by kernel_rfl) (by kernel_rfl) (fun _ _ _ h => h) (Or.inl ⟨by rfl, ?h100⟩) (by assumption) ?r100
    case h100 => (intro w hSw; (try dsimp only at hSw); go_simp <;> with_reducible rfl)
    try simp only [Act.put, qL1, qL2, qL3, qL4, qL5, qL6]
    refine wpAnyH_take (i := 2) (v := ?v101) rfl (by kernel_rfl) (by kernel_rfl) (by kernel_rfl) (fun _ _ _ h => h) (Or.inl ⟨by rfl, ?h101⟩) (by assumption) ?r101
    case h101 => (intro w hSw; (try dsimp only at hSw); go_simp <;> with_reducible rfl)
    try simp only [Act.put, qL1, qL2, qL3, qL4, qL5, qL6]
    refine wpAnyH_take (i := 3) (v := ?v102) rfl (by kernel_rfl) (by kernel_rfl) (by kernel_rfl) (fun _ _ _ h => h) (Or.inl ⟨by rfl, ?h102⟩) (by assumption) ?r102
    case h102 => (intro w hSw; (try dsimp only at hSw); go_simp <;> with_reducible rfl)
    try simp only [Act.put, qL1, qL2, qL3, qL4, qL5, qL6]
    refine wpAnyH_take (i := 4) (v := ?v103) rfl (by kernel_rfl) (by kernel_rfl) (by kernel_rfl) (fun _ _ _ h => h) (Or.inl ⟨by rfl, ?h103⟩) (by assumption) ?r103
    case h103 => (intro w hSw; (try dsimp only at hSw); go_simp <;> with_reducible rfl)
    try simp only [Act.put, qL1, qL2, qL3, qL4, qL5, qL6]
    refine wpAnyH_ready (rs := [0]) (by kernel_rfl) (by simp) ?_
    refine AllReadyH.cons rfl (fun K hK => ?s104) ?m104
    case s104 =>
     go_simp
     refine hK.out _ _ ?_ (fun hHeld => ?_)
     ·first | exact hHeld | go_keep
     clear hK K
     try simp only [Act.put, qL1, qL2, qL3, qL4, qL5, qL6]
     refine wpAnyH_ready (rs := [5]) (by kernel_rfl) (by simp) ?_
     refine AllReadyH.cons rfl (fun K hK => ?s105) ?m105
     case s105 =>
      go_simp
      refine (co_add_ab _).mono ?_
      rintro e W1 ⟨rfl, o1⟩
      have OZ1 := hID (OO1.out.also ((Off.drew (Off.refl _ _)).also o1))
      have BZ1 := hID (Blk.to B1.out (((Off.drew (Off.refl _ _)).also o1).block _ B1.out.lt (fun h => h)))
      have RZ1 := hID (Blk.to R1.out (((Off.drew (Off.refl _ _)).also o1).block _ R1.out.lt (fun h => h)))
      have ck1 := HC.out _ OZ1.out 1 _ rfl
      try simp only [Nat.add_zero] at ck1
      clear OO1 B1 R1
      refine hK.out _ _ ?_ (fun hHeld => ?_)
      ·first | exact ck1 | go_keep
      clear hK K
      try simp only [Act.put, qL1, qL2, qL3, qL4, qL5, qL6]
      refine wpAnyH_ready (rs := [6]) (by kernel_rfl) (by simp) ?_
      refine AllReadyH.cons rfl (fun K hK => ?s106) ?m106
      case s106 =>
       refine wp_store_mid 146 _ _ rfl (w.heap.size + 1) 0 #[.int .u64 0, .int .u64 25769803776, .int .u64 0, .int .u64 0] rfl rfl (blk_there BZ1.out) Tryz.infoCl (by simp [Value.oneCell']) ?_
       refine hK.out _ _ ?_ (fun hHeld => ?_)
       ·first | exact (HC.out _ (off_cells OZ1.out (by omega) _ _) 1 _ rfl) | go_keep
       clear hK K
       try simp only [Act.put, qL1, qL2, qL3, qL4, qL5, qL6]
       refine wpAnyH_done (by kernel_rfl) ?_ _
       clear hHeld
       have OO2 : Hid (Off Nob w (W1.setCells (w.heap.size + 1) 0 [.int .u64 0, .int .u64 25769803776, .int .u64 0, .int .u64 0])) := hID (off_cells OZ1.out (by omega) _ _)
       have B2 : Hid (Blk (W1.setCells (w.heap.size + 1) 0 [.int .u64 0, .int .u64 25769803776, .int .u64 0, .int .u64 0]) (w.heap.size + 1) 146 #[.int .u64 0, .int .u64 25769803776, .int .u64 0, .int .u64 0]) := hID (blk_cells4 BZ1.out _ _ _ _)
       have R2 : Hid (Blk (W1.setCells (w.heap.size + 1) 0 [.int .u64 0, .int .u64 25769803776, .int .u64 0, .int .u64 0]) w.heap.size 146 #[.int .u64 0, .int .u64 0, .int .u64 0, .int .u64 0]) := hID (blk_far4 RZ1.out (by omega) _ _)
       clear OZ1 BZ1 RZ1
       obtain ⟨X2, hX2⟩ : ∃ W, W1.setCells (w.heap.size + 1) 0 [.int .u64 0, .int .u64 25769803776, .int .u64 0, .int .u64 0] = W := ⟨_, rfl⟩
       rw [hX2] at OO2 B2 R2 ⊢
       clear hX2
       go_wp2_with fail
       rw [rounds_succ]
       clear ck1 t0 t1 t2 t3
       have t0 := B2.out.cell 0
       have t1 := B2.out.cell 1
       have t2 := B2.out.cell 2
       have t3 := B2.out.cell 3
       have s0 := R2.out.cell 0
       have s1 := R2.out.cell 1
       have s2 := R2.out.cell 2
       have s3 := R2.out.cell 3
       simp only [List.getElem?_toArray, List.getElem?_cons_succ, List.getElem?_cons_zero] at t0 t1 t2 t3 s0 s1 s2 s3
       have f0 := R2.out.frozen 0
       have f1 := R2.out.frozen 1
       have f2 := R2.out.frozen 2
       have f3 := R2.out.frozen 3
       have RR : Hid (Blk (X2.setCells w.heap.size 0 [.int .u64 0, .int .u64 25769803776, .int .u64 0, .int .u64 0]) w.heap.size 146 #[.int .u64 0, .int .u64 25769803776, .int .u64 0, .int .u64 0] ∧ Off Nob w (X2.setCells w.heap.size 0 [.int .u64 0, .int .u64 25769803776, .int .u64 0, .int .u64 0])) := hID ⟨blk_cells4 R2.out _ _ _ _, off_cells OO2.out (Nat.le_refl _) _ _⟩
       go_wp2_with fail
       exact bodyPost_ret (results_cell_row rfl _ _ _ _ _ (0, 0) _ rfl RR.out.1 Tryz.underlying146 rfl Tryz.infoCl) rfl ⟨rfl, RR.out.2⟩
      exact AllReadyH.nil
     exact AllReadyH.nil
    exact AllReadyH.nil
   exact AllReadyH.nil
  exact AllReadyH.nil
 exact AllReadyH.nil
end Go.Proofs.YtkflicifngohcaaGreatDoor

namespace Go.Proofs.YtkflicifngohcaaGreatDoor
open Go.RowKit
set_option maxRecDepth 100000
def fltB (a0 a1 a2 a3 : Int) (k : Nat) : List Nat := (List.range k).filter (hasB a0 a1 a2 a3)
theorem fltB_yes (a0 a1 a2 a3 : Int) (k : Nat) (h : hasB a0 a1 a2 a3 k = true) : fltB a0 a1 a2 a3 (k + 1) = fltB a0 a1 a2 a3 k ++ [k] := by unfold fltB; rw [List.range_succ, List.filter_append]; simp [h]
theorem fltB_no (a0 a1 a2 a3 : Int) (k : Nat) (h : hasB a0 a1 a2 a3 k = false) : fltB a0 a1 a2 a3 (k + 1) = fltB a0 a1 a2 a3 k := by unfold fltB; rw [List.range_succ, List.filter_append]; simp [h]
theorem fltB_len (a0 a1 a2 a3 : Int) (k : Nat) : (fltB a0 a1 a2 a3 k).length ≤ k := by unfold fltB; have := List.length_filter_le (hasB a0 a1 a2 a3) (List.range k); simpa using this
def byV (l : List Nat) : List Value := l.map fun b : Nat => .int .u8 (b : Int)
theorem byV_snoc (l : List Nat) (b : Nat) : byV (l ++ [b]) = byV l ++ [.int .u8 (b : Int)] := by simp [byV]
theorem cell_one (w : World) (x : Value) (t : TypeId) : ∀ j u, [x][j]? = some u → (w.alloc (.cells #[x] t)).cell? ((⟨w.heap.size, 0, none⟩ : Addr).add j) = some u := by
 intro j u hj
 rw [add_addr, Nat.zero_add, (Blk.new w t #[x]).cell]
 simpa using hj
set_option maxHeartbeats 2000000 in
theorem co_list (a0 a1 a2 a3 : Int) (w : World) :
  Calls Tryz.prog 188 #[.agg #[.int .u64 a0, .int .u64 a1, .int .u64 a2, .int .u64 a3]] w (RetL w 1 (fltB a0 a1 a2 a3 256).length (byV (fltB a0 a1 a2 a3 256))) := by
 obtain ⟨i0, hi, hz0, hz1, hz2⟩ := info_parts Tryz.infoY
 go_enter Tryz.func188, Tryz.ntmps188
 go_wp2_with fail
 have T0 : Hid (Blk (w.alloc (.cells #[.int .u64 a0, .int .u64 a1, .int .u64 a2, .int .u64 a3] 146)) w.heap.size 146 #[.int .u64 a0, .int .u64 a1, .int .u64 a2, .int .u64 a3] ∧ OwnL w (w.alloc (.cells #[.int .u64 a0, .int .u64 a1, .int .u64 a2, .int .u64 a3] 146)) 5 1 (.slice none 0 0) (fltB a0 a1 a2 a3 0).length (byV (fltB a0 a1 a2 a3 0))) := hID ⟨Blk.new _ _ _, OwnL.nilAt (Off.alloc (Off.refl _ _) _) _ _⟩
 go_loopw [3, 4] (fun v i wr => ∃ k : Nat, k ≤ 256 ∧ i = .int .i64 (k : Int) ∧ Blk wr w.heap.size 146 #[.int .u64 a0, .int .u64 a1, .int .u64 a2, .int .u64 a3] ∧ OwnL w wr 5 1 v (fltB a0 a1 a2 a3 k).length (byV (fltB a0 a1 a2 a3 k)) ∧ ∀ g, v.ownBlock = some g → g ≠ w.heap.size) (fun _ i _ => 256 - (intOf i).toNat)
 case atStart => exact ⟨0, Nat.zero_le _, rfl, T0.out.1, T0.out.2, fun g hg => by cases hg⟩
 case round =>
  obtain ⟨k, hk, rfl, hb, hown, hne⟩ := hrel
  obtain ⟨AA, cc, rfl⟩ := hown.form
  have HB := hID hb
  have HO := hID hown
  have HN := hID hne
  have t0 := hb.cell 0
  have t1 := hb.cell 1
  have t2 := hb.cell 2
  have t3 := hb.cell 3
  simp only [List.getElem?_toArray, List.getElem?_cons_succ, List.getElem?_cons_zero] at t0 t1 t2 t3
  clear hb hown hne T0
  by_cases hlt : k < 256
  ·have hl := fltB_len a0 a1 a2 a3 k
   go_wp2_with fail
   refine (co_has a0 a1 a2 a3 k hlt _).mono ?_
   rintro e w1 ⟨rfl, o1⟩
   have O1 := hID (HO.out.off o1)
   have B1 := hID (HB.out.to (o1.block _ HB.out.lt (fun h => h)))
   clear o1 HO HB t0 t1 t2 t3
   cases hbt : hasB a0 a1 a2 a3 k
   ·have HX := hID (fltB_no a0 a1 a2 a3 k hbt)
    clear hbt
    go_wp2_with fail
    go_roundw
    case rel => exact ⟨k + 1, hlt, by go_num, B1.out, by rw [HX.out]; exact O1.out, HN.out⟩
    case measure => simp [intOf]; omega
   ·have HX := hID (fltB_yes a0 a1 a2 a3 k hbt)
    obtain ⟨L, hL⟩ : ∃ L, fltB a0 a1 a2 a3 k = L := ⟨_, rfl⟩
    rw [hL] at hl O1 HX HN ⊢
    clear hbt hL
    obtain ⟨q, hq⟩ : ∃ q, L.length = q := ⟨_, rfl⟩
    have HQ := hID hq
    rw [hq] at hl O1 HN ⊢
    clear hq
    go_wp2_with (at_builtin; refine wpList_append_own_at _ rfl _ _ 26 rfl w.heap.size 5 i0 (.int .u8 0) 1 1 Tryz.underlying26 hi hz0 hz1 hz2 rfl (by decide) (.slice AA q cc) q (byV L) rfl (O1.out.1.alloc _) ⟨w1.heap.size, 0, none⟩ 1 1 [.int .u8 (k : Int)] rfl rfl ?c1 ?c2 ?c3 ?c4 ?c5 ?_)
    case c1 => exact cell_one _ _ _
    case c2 => intro u hu; simp at hu; subst hu; rfl
    case c3 => unfold maxLen; omega
    case c4 => omega
    case c5 => have := O1.out.2.size; simp; omega
    intro v' w4 hown' hgrow hnil hat
    have O4 : Hid (OwnL w w4 5 1 v' (L ++ [k]).length (byV (L ++ [k]))) := hID (by
     have := O1.out.grown (Off.alloc (Off.refl _ _) _) hown' hgrow
     rw [List.length_append, HQ.out, byV_snoc]
     exact this)
    have B4 : Hid (Blk w4 w.heap.size 146 #[.int .u64 a0, .int .u64 a1, .int .u64 a2, .int .u64 a3] ∧ ∀ g, v'.ownBlock = some g → g ≠ w.heap.size) := hID (by
     have oo := Off.grown (F := fun k => (Value.slice AA q cc).ownBlock = some k) (Off.alloc (Off.refl _ _) _) hgrow (fun k hk => .inl hk)
     refine ⟨B1.out.to (oo.block _ B1.out.lt (fun h => HN.out _ h rfl)), fun g hg => ?_⟩
     rcases hat with e | e
     ·exact HN.out g (e ▸ hg)
     ·rw [e] at hg
      injection hg with hg
      subst hg
      have := B1.out.lt
      simp
      omega)
    clear hown' hgrow hnil hat
    go_wp2_with fail
    go_roundw
    case rel => exact ⟨k + 1, hlt, by go_num, B4.out.1, by rw [HX.out]; exact O4.out, B4.out.2⟩
    case measure => simp [intOf]; omega
  ·obtain rfl : k = 256 := by omega
   go_wp2_with fail
   go_ret
   exact ⟨_, rfl, HO.out.rd, HO.out.2⟩
end Go.Proofs.YtkflicifngohcaaGreatDoor

namespace Go.Proofs.YtkflicifngohcaaGreatDoor
open Go.RowKit
set_option maxRecDepth 100000
abbrev Bks := List (Nat × TypeId × Array Value)
def One (w0 w : World) (bs : Bks) (p : Nat) (C : List (BitVec 64)) (E : List Ev) : Prop :=
 ∃ F, Ar w F p C E ∧ Off Nob w0 w ∧ (∀ k, F k → w0.heap.size ≤ k) ∧ ∀ x ∈ bs, Blk w x.1 x.2.1 x.2.2 ∧ ¬ F x.1
def Twin (w0 w : World) (bs : Bks) (p q : Nat) (C : List (BitVec 64)) (E : List Ev) (C' : List (BitVec 64)) (E' : List Ev) : Prop :=
 ∃ F R, Ar w F p C E ∧ Ar w R q C' E' ∧ Off Nob w0 w ∧ (∀ k, F k → w0.heap.size ≤ k) ∧ (∀ k, R k → w0.heap.size ≤ k) ∧ (∀ k, F k → ¬ R k) ∧ ∀ x ∈ bs, Blk w x.1 x.2.1 x.2.2 ∧ ¬ F x.1 ∧ ¬ R x.1
section
variable {w0 w w' : World} {bs : Bks} {p q : Nat} {C C' : List (BitVec 64)} {E E' : List Ev}
theorem Made.one {e : Ending} (h : Made w C e w') (o0 : Off Nob w0 w) (hbs : ∀ x ∈ bs, Blk w x.1 x.2.1 x.2.2) :
  ∃ p r, e = .returned (.tuple #[.pointer (some ⟨p, 0, none⟩), .pointer (some ⟨r, 0, none⟩)]) ∧ One w0 w' bs p (pad C) (stores C.length) := by
 obtain ⟨p, r, F, R, he, h1, h2, h3, h4, h5, h6⟩ := h
 refine ⟨p, r, he, F, h1, o0.also h3, fun k hk => Nat.le_trans o0.size (h4 k hk), fun x hx => ?_⟩
 have hb := hbs x hx
 exact ⟨hb.to (h3.block _ hb.lt (fun h => h)), fun hf => by have := h4 _ hf; have := hb.lt; omega⟩
theorem One.off (h : One w0 w bs p C E) (o : Off Nob w w') : One w0 w' bs p C E := by
 obtain ⟨F, ha, ho, hf, hb⟩ := h
 exact ⟨F, ha.keep o (fun _ _ hn => hn), ho.also o, hf, fun x hx => ⟨(hb x hx).1.to (o.block _ (hb x hx).1.lt (fun h => h)), (hb x hx).2⟩⟩
theorem One.old (h : One w0 w bs p C E) : Off Nob w0 w := by obtain ⟨F, ha, ho, hf, hb⟩ := h; exact ho
theorem One.two {e : Ending} (h : One w0 w bs p C E) (k : Made w C' e w') :
  ∃ q r, e = .returned (.tuple #[.pointer (some ⟨q, 0, none⟩), .pointer (some ⟨r, 0, none⟩)]) ∧ Twin w0 w' bs p q C E (pad C') (stores C'.length) := by
 obtain ⟨F, ha, ho, hf, hb⟩ := h
 obtain ⟨q, r, R, R2, he, h1, h2, h3, h4, h5, h6⟩ := k
 refine ⟨q, r, he, F, R, ha.keep h3 (fun _ _ hn => hn), h1, ho.also h3, hf, fun k hk => Nat.le_trans ho.size (h4 k hk), fun k hk hr => by have := ha.lt k hk; have := h4 k hr; omega, fun x hx => ?_⟩
 obtain ⟨g1, g2⟩ := hb x hx
 exact ⟨g1.to (h3.block _ g1.lt (fun h => h)), g2, fun hr => by have := h4 _ hr; have := g1.lt; omega⟩
theorem One.push (h : One w0 w bs p C E) (t : TypeId) (cs : Array Value) : One w0 (w.alloc (.cells cs t)) ((w.heap.size, t, cs) :: bs) p C E := by
 obtain ⟨F, ha, ho, hf, hb⟩ := h
 refine ⟨F, ha.box _, ho.alloc _, hf, fun x hx => ?_⟩
 rcases List.mem_cons.1 hx with rfl | hx
 ·exact ⟨Blk.new _ _ _, fun hk => by have := ha.lt _ hk; simp at this⟩
 ·exact ⟨(hb x hx).1.alloc _, (hb x hx).2⟩
theorem One.blk (h : One w0 w bs p C E) {b : Nat} {t : TypeId} {cs : Array Value} (hm : (b, t, cs) ∈ bs) : Blk w b t cs := by
 obtain ⟨F, ha, ho, hf, hb⟩ := h
 exact (hb _ hm).1
theorem One.call (h : One w0 w bs p C E) {P : Program} {f : FuncId} {xs : Array Value} {e0 : Ending} {C2 : List (BitVec 64)} {E2 : List Ev}
  (hc : ∀ w F, Ar w F p C E → Calls P f xs w fun e w' => e = e0 ∧ ArTo w F p C2 E2 w') : Calls P f xs w fun e w' => e = e0 ∧ One w0 w' bs p C2 E2 := by
 obtain ⟨F, ha, ho, hf, hb⟩ := h
 refine (hc w F ha).mono fun e w' ⟨he, a3, o3⟩ => ⟨he, _, a3, ho.own o3 hf, Grow.from_ hf ho.size, fun x hx => ?_⟩
 obtain ⟨g1, g2⟩ := hb x hx
 exact ⟨g1.to (o3.block _ g1.lt g2), fun h => h.elim g2 (fun h => by have := g1.lt; omega)⟩
theorem One.ar (h : One w0 w bs p C E) : ∃ F, Ar w F p C E := by obtain ⟨F, ha, _⟩ := h; exact ⟨F, ha⟩
theorem Twin.off (h : Twin w0 w bs p q C E C' E') (o : Off Nob w w') : Twin w0 w' bs p q C E C' E' := by
 obtain ⟨F, R, ha, hr, ho, hf, hg, hd, hb⟩ := h
 exact ⟨F, R, ha.keep o (fun _ _ hn => hn), hr.keep o (fun _ _ hn => hn), ho.also o, hf, hg, hd, fun x hx => ⟨(hb x hx).1.to (o.block _ (hb x hx).1.lt (fun h => h)), (hb x hx).2⟩⟩
theorem Twin.old (h : Twin w0 w bs p q C E C' E') : Off Nob w0 w := by obtain ⟨F, R, ha, hr, ho, hf, hg, hd, hb⟩ := h; exact ho
theorem Twin.blk (h : Twin w0 w bs p q C E C' E') {b : Nat} {t : TypeId} {cs : Array Value} (hm : (b, t, cs) ∈ bs) : Blk w b t cs := by
 obtain ⟨F, R, ha, hr, ho, hf, hg, hd, hb⟩ := h
 exact (hb _ hm).1
theorem Twin.push (h : Twin w0 w bs p q C E C' E') (t : TypeId) (cs : Array Value) : Twin w0 (w.alloc (.cells cs t)) ((w.heap.size, t, cs) :: bs) p q C E C' E' := by
 obtain ⟨F, R, ha, hr, ho, hf, hg, hd, hb⟩ := h
 refine ⟨F, R, ha.box _, hr.box _, ho.alloc _, hf, hg, hd, fun x hx => ?_⟩
 rcases List.mem_cons.1 hx with rfl | hx
 ·exact ⟨Blk.new _ _ _, fun hk => by have := ha.lt _ hk; simp at this, fun hk => by have := hr.lt _ hk; simp at this⟩
 ·exact ⟨(hb x hx).1.alloc _, (hb x hx).2⟩
theorem Twin.first (h : Twin w0 w bs p q C E C' E') {P : Program} {f : FuncId} {xs : Array Value} {e0 : Ending} {C2 : List (BitVec 64)} {E2 : List Ev}
  (hc : ∀ w F, Ar w F p C E → Calls P f xs w fun e w' => e = e0 ∧ ArTo w F p C2 E2 w') : Calls P f xs w fun e w' => e = e0 ∧ Twin w0 w' bs p q C2 E2 C' E' := by
 obtain ⟨F, R, ha, hr, ho, hf, hg, hd, hb⟩ := h
 refine (hc w F ha).mono fun e w' ⟨he, a3, o3⟩ => ⟨he, ?_⟩
 have hd3 : ∀ k, R k → ¬ Grow F w w' k := Grow.apart (fun k hk hn => hd k hn hk) hr.lt
 refine ⟨_, _, a3, hr.keep o3 (fun k hk hn => hd k hn hk), ho.own o3 hf, Grow.from_ hf ho.size, hg, fun k hk hn => hd3 k hn hk, fun x hx => ?_⟩
 obtain ⟨g1, g2, g3⟩ := hb x hx
 exact ⟨g1.to (o3.block _ g1.lt g2), fun h => h.elim g2 (fun h => by have := g1.lt; omega), g3⟩
theorem Twin.swap (h : Twin w0 w bs p q C E C' E') : Twin w0 w bs q p C' E' C E := by
 obtain ⟨F, R, ha, hr, ho, hf, hg, hd, hb⟩ := h
 exact ⟨R, F, hr, ha, ho, hg, hf, fun k hk hn => hd k hn hk, fun x hx => ⟨(hb x hx).1, (hb x hx).2.2, (hb x hx).2.1⟩⟩
theorem Twin.second (h : Twin w0 w bs p q C E C' E') {P : Program} {f : FuncId} {xs : Array Value} {e0 : Ending} {C2 : List (BitVec 64)} {E2 : List Ev}
  (hc : ∀ w F, Ar w F q C' E' → Calls P f xs w fun e w' => e = e0 ∧ ArTo w F q C2 E2 w') : Calls P f xs w fun e w' => e = e0 ∧ Twin w0 w' bs p q C E C2 E2 :=
 (h.swap.first hc).mono fun e w' ⟨h1, h2⟩ => ⟨h1, h2.swap⟩
end
section
variable {w0 w w' : World} {bs : Bks} {p q n : Nat} {E E' : List Ev}
end
section
variable {w0 w w' : World} {bs : Bks} {p q n : Nat} {E E' : List Ev}
end
section
variable {w0 w w' : World} {bs : Bks} {p q n : Nat} {E E' : List Ev}
end
end Go.Proofs.YtkflicifngohcaaGreatDoor

namespace Go.Proofs.YtkflicifngohcaaGreatDoor
open Go.RowKit
set_option maxRecDepth 100000
def Wk (w0 : World) (F : Nat → Prop) (w : World) (bs : Bks) (p : Nat) (C : List (BitVec 64)) (E : List Ev) : Prop :=
 ∃ F1, Ar w F1 p C E ∧ (∀ k, F1 k → F k ∨ w0.heap.size ≤ k) ∧ Off F w0 w ∧ (∀ k, F k → k < w0.heap.size) ∧ (∀ x ∈ bs, Blk w x.1 x.2.1 x.2.2 ∧ ¬ F1 x.1 ∧ w0.heap.size ≤ x.1) ∧ (bs.map Prod.fst).Nodup
section
variable {w0 w w' : World} {F : Nat → Prop} {bs : Bks} {p : Nat} {C C2 : List (BitVec 64)} {E E2 : List Ev}
theorem Wk.start (h : Ar w F p C E) : Wk w F w [] p C E := ⟨F, h, fun k hk => .inl hk, Off.refl _ _, h.lt, (fun x hx => (by cases hx)), List.nodup_nil⟩
theorem Wk.done (h : Wk w0 F w bs p C E) : ArTo w0 F p C E w := by
 obtain ⟨F1, ha, hf, ho, hl, hb, hn⟩ := h
 exact ⟨ha.mono (fun k hk => (hf k hk).elim (fun h => .inl h) (fun h => .inr ⟨h, ha.lt k hk⟩)) (Grow.lt hl ho.size), ho⟩
theorem Wk.ar (h : Wk w0 F w bs p C E) : ∃ F1, Ar w F1 p C E := by obtain ⟨F1, ha, _⟩ := h; exact ⟨F1, ha⟩
theorem Wk.n2 (h : Wk w0 F w bs p C E) : C.length ≤ 65536 := by obtain ⟨F1, ha, _⟩ := h; exact ha.n2
theorem Wk.blk (h : Wk w0 F w bs p C E) {b : Nat} {t : TypeId} {cs : Array Value} (hm : (b, t, cs) ∈ bs) : Blk w b t cs := by
 obtain ⟨F1, ha, hf, ho, hl, hb, hn⟩ := h
 exact (hb _ hm).1
theorem Wk.off (h : Wk w0 F w bs p C E) (o : Off Nob w w') : Wk w0 F w' bs p C E := by
 obtain ⟨F1, ha, hf, ho, hl, hb, hn⟩ := h
 exact ⟨F1, ha.keep o (fun _ _ hn => hn), hf, ho.also o.ofNob, hl, fun x hx => ⟨(hb x hx).1.to (o.block _ (hb x hx).1.lt (fun h => h)), (hb x hx).2⟩, hn⟩
theorem Wk.push (h : Wk w0 F w bs p C E) (t : TypeId) (cs : Array Value) : Wk w0 F (w.alloc (.cells cs t)) ((w.heap.size, t, cs) :: bs) p C E := by
 have hk := h
 obtain ⟨F1, ha, hf, ho, hl, hb, hn⟩ := h
 refine ⟨F1, ha.box _, hf, ho.alloc _, hl, fun x hx => ?_, ?_⟩
 ·rcases List.mem_cons.1 hx with rfl | hx
  ·exact ⟨Blk.new _ _ _, fun hk => by have := ha.lt _ hk; simp at this, ho.size⟩
  ·exact ⟨(hb x hx).1.alloc _, (hb x hx).2⟩
 ·rw [List.map_cons, List.nodup_cons]
  refine ⟨fun hm => ?_, hn⟩
  obtain ⟨x, hx, he⟩ := List.mem_map.1 hm
  have := (hb x hx).1.lt
  simp at he
  omega
theorem Wk.call (h : Wk w0 F w bs p C E) {P : Program} {f : FuncId} {xs : Array Value} {e0 : Ending}
  (hc : ∀ w F, Ar w F p C E → Calls P f xs w fun e w' => e = e0 ∧ ArTo w F p C2 E2 w') : Calls P f xs w fun e w' => e = e0 ∧ Wk w0 F w' bs p C2 E2 := by
 obtain ⟨F1, ha, hf, ho, hl, hb, hn⟩ := h
 refine (hc w F1 ha).mono fun e w' ⟨he, a3, o3⟩ => ⟨he, _, a3, fun k hk => ?_, ?_, hl, fun x hx => ?_, hn⟩
 ·rcases hk with hk | hk
  ·exact hf k hk
  ·exact .inr (Nat.le_trans ho.size hk.1)
 ·exact ⟨o3.os.trans ho.os, o3.tape.trans ho.tape, o3.output.trans ho.output, Nat.le_trans ho.size o3.size, fun i hi hn => (o3.block i (Nat.lt_of_lt_of_le hi ho.size) (fun hf1 => by rcases hf i hf1 with h | h; exact hn h; omega)).trans (ho.block i hi hn)⟩
 ·obtain ⟨g1, g2, g3⟩ := hb x hx
  exact ⟨g1.to (o3.block _ g1.lt g2), fun h => h.elim g2 (fun h => by have := g1.lt; omega), g3⟩
theorem Wk.put {g : Nat} {t : TypeId} {cs : Array Value} (h : Wk w0 F w ((g, t, cs) :: bs) p C E) (i : Nat) (u : Value) : Wk w0 F (w.setCell ⟨g, i, none⟩ u) ((g, t, cs.setIfInBounds i u) :: bs) p C E := by
 obtain ⟨F1, ha, hf, ho, hl, hb, hn⟩ := h
 obtain ⟨g1, g2, g3⟩ := hb _ (List.mem_cons_self ..)
 have off : Off (fun k => k = g) w (w.setCell ⟨g, i, none⟩ u) := Off.put (F := fun k => k = g) (p := ⟨g, i, none⟩) (Off.refl _ w) (Or.inl (Eq.refl g)) u
 have hn2 := hn
 rw [List.map_cons, List.nodup_cons] at hn2
 refine ⟨F1, ha.keep off (fun k hk hn => g2 (by have e : k = g := hn; rw [e] at hk; exact hk)), hf, ?_, hl, fun x hx => ?_, hn⟩
 ·exact ⟨rfl |>.trans ho.os, ho.tape, ho.output, by simpa using ho.size, fun k hk hnf => (off.block k (Nat.lt_of_lt_of_le hk ho.size) (fun e => by have e2 : k = g := e; have : w0.heap.size ≤ g := g3; omega)).trans (ho.block k hk hnf)⟩
 ·rcases List.mem_cons.1 hx with rfl | hx2
  ·exact ⟨g1.put i u, g2, g3⟩
  ·obtain ⟨k1, k2, k3⟩ := hb x (List.mem_cons_of_mem _ hx2)
   exact ⟨k1.far (p := ⟨g, i, none⟩) (fun e => hn2.1 (List.mem_map.2 ⟨x, hx2, e⟩)) u, k2, k3⟩
theorem Wk.drop {a : Nat × TypeId × Array Value} (h : Wk w0 F w (a :: bs) p C E) : Wk w0 F w bs p C E := by
 obtain ⟨F1, ha, hf, ho, hl, hb, hn⟩ := h
 rw [List.map_cons, List.nodup_cons] at hn
 exact ⟨F1, ha, hf, ho, hl, fun x hx => hb x (List.mem_cons_of_mem _ hx), hn.2⟩
theorem Wk.sub {bs2 : Bks} (h : Wk w0 F w bs p C E) (hs : ∀ x ∈ bs2, x ∈ bs) (hn2 : (bs2.map Prod.fst).Nodup) : Wk w0 F w bs2 p C E := by
 obtain ⟨F1, ha, hf, ho, hl, hb, hn⟩ := h
 exact ⟨F1, ha, hf, ho, hl, fun x hx => hb x (hs x hx), hn2⟩
end
end Go.Proofs.YtkflicifngohcaaGreatDoor
