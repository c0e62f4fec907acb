/-
 Plain lemmas on words of 64 bits, as the model's integers of the kind u64 hold them. Nothing of the program is named here.
-/
import Derived.WalkKit
import Derived.WalkSpells
import Derived.WalkLawsBesides
import Derived.Test.YtlgjaefcfnndhaaGreatDoorRows
import Derived.Test.YtlgjaefcfnndhaaGreatDoorP9
import Derived.Laws.EntriesVeiled
import Derived.Outline
import Derived.BigQuiet
import Derived.BigRegion
import Derived.RegionTactic
import Derived.Deep.QuietTactic
import Derived.Laws.AppendOwnNone
import Derived.Deep.RegionHeld3
import Derived.Lib.AppendZerosOnto
set_option linter.unusedVariables false
set_option linter.unusedSimpArgs false
set_option maxHeartbeats 16000000
set_option maxRecDepth 100000
namespace Go.Proofs.YtlgjaefcfnndhaaGreatDoor
section
open Go.RowKit
def bv (n : Int) : BitVec 64 := BitVec.ofInt 64 n
def n64 (x : BitVec 64) : Int := (x.toNat : Int)
@[go_sem, simp] theorem bv_n64 (x : BitVec 64) : bv (n64 x) = x := by
 apply BitVec.eq_of_toNat_eq; simp [bv, n64, BitVec.ofInt_natCast]
end
section
open Go.RowKit
abbrev Ev := Nat × Nat
def enc (e : Ev) : Nat := e.2 * 4 + e.1
def cl (C : List (BitVec 64)) (i : Nat) : BitVec 64 := C.getD i 0
section
variable {w w' w1 w2 : World} {F G : Nat → Prop} {p : Nat} {C C1 C2 : List (BitVec 64)} {E E1 E2 : List Ev} {cb : Nat} {pv : Value} {ps : List Nat} {rg : Value}
theorem qas {base : Nat} {e : TypeId} {size n : Nat} {v : Value} {xs : List Value} (h : w.ownsRow base e size v n xs) (hb : ∀ g, v.ownBlock = some g → w'.heap[g]? = w.heap[g]?) : w'.ownsRow base e size v n xs := by
 refine ⟨h.1, ?_⟩
 rcases h.2 with hn | ⟨g, cap, cur, rfl, hb1, hgg, rest⟩
 ·exact .inl hn
 ·exact .inr ⟨g, cap, cur, rfl, hb1, (hb g rfl).trans hgg, rest⟩
end
theorem Off.own {F : Nat → Prop} {w w1 w2 : World} (h : Off Nob w w1) (k : Off F w1 w2) (hf : ∀ k, F k → w.heap.size ≤ k) : Off Nob w w2 :=
 ⟨k.os.trans h.os, k.tape.trans h.tape, k.output.trans h.output, Nat.le_trans h.size k.size, fun i hi hn =>
  (k.block i (Nat.lt_of_lt_of_le hi h.size) (fun hg => by have := hf i hg; omega)).trans (h.block i hi hn)⟩
section
variable {w : World} {F : Nat → Prop} {p : Nat} {C : List (BitVec 64)} {E : List Ev}
end
end
section
open Go.RowKit
section
variable {w w' w1 w2 : World} {F G : Nat → Prop} {r : Nat} {C C1 C2 : List (BitVec 64)} {E E1 E2 : List Ev} {cb : Nat} {ev rg : Value}
end
section
variable {w : World} {F : Nat → Prop} {r : Nat} {C : List (BitVec 64)} {E : List Ev}
end
end
section
open Go.RowKit
section
variable {w : World} {F : Nat → Prop} {p : Nat} {C : List (BitVec 64)} {E : List Ev}
end
end
section
open Go.RowKit
section
variable {w w' : World} {F : Nat → Prop} {p : Nat} {C : List (BitVec 64)} {E : List Ev} {cb : Nat} {pv : Value} {ps : List Nat} {rg : Value}
end
end
section
open Go.RowKit
section
variable {w : World} {F : Nat → Prop} {p : Nat} {C : List (BitVec 64)} {E : List Ev}
end
end
section
open Go.RowKit
end
section
open Go.RowKit
section
variable {w : World} {F : Nat → Prop} {p : Nat} {C : List (BitVec 64)} {E : List Ev}
end
end
section
open Go.RowKit
section
variable {w : World} {F : Nat → Prop} {p : Nat} {C : List (BitVec 64)} {E : List Ev}
end
end
section
open Go.RowKit
section
variable {w : World} {F : Nat → Prop} {r : Nat} {C : List (BitVec 64)} {E : List Ev}
end
end
section
open Go.RowKit
section
variable {w : World} {F : Nat → Prop} {r : Nat} {C : List (BitVec 64)} {E : List Ev}
end
end
section
open Go.RowKit
end
section
open Go.RowKit
section
variable {w0 w w' : World} {p r : Nat} {C C' : List (BitVec 64)} {E E' : List Ev}
end
end
section
open Go.RowKit
section
variable {w0 w w' : World} {b : Nat} {t : TypeId} {cs : Array Value} {p r : Nat} {C C' : List (BitVec 64)} {E E' : List Ev}
end
theorem Rd.form {w : World} {F : Nat → Prop} {size n : Nat} {v : Value} {xs : List Value} (h : Rd w F size v n xs) : ∃ A c, v = .slice A n c ∧ n ≤ maxLen ∧ (0 < n → ∃ b o, A = some ⟨b, o, none⟩ ∧ b < w.heap.size ∧ ∀ j u, xs[j]? = some u → w.cell? ⟨b, o + j, none⟩ = some u) := by
 obtain ⟨A, c, rfl, hm, _, hc⟩ := h
 refine ⟨A, c, rfl, hm, fun hn => ?_⟩
 obtain ⟨b, o, rfl, _, hb, hx⟩ := hc hn
 exact ⟨b, o, rfl, hb, hx⟩
theorem Off.cell_old {w w' : World} (o : Off Nob w w') {b : Nat} (hb : b < w.heap.size) (i : Nat) : w'.cell? ⟨b, i, none⟩ = w.cell? ⟨b, i, none⟩ := World.cell?_of_block (a := ⟨b, i, none⟩) (o.block b hb (fun h => h))
end
section
open Go.RowKit
section
variable {P : Program} {w : World} {ops : Array Oper} {rest : List Oper} {o : Oper} {a : Act} {Q : Exit → Act → World → Prop}
end
end
section
open Go.RowKit in
theorem tkH {P : Program} {md : Region.Mode} {ops : Array Oper} {Q : Exit → Act → World → Prop} {S : World → Prop} {fuel : Nat} {listed : Array Bool} {a : Act} {w : World} (i : Nat) {oi : Oper} {v : Value}
  {a' : Act} (h : wpAnyH P md ops Q S fuel (listed.setIfInBounds i true) a' w) (hi : ops[i]? = some oi := by rfl) (hs : Region.noSelect ops = true := by kernel_rfl) (hf : Region.free md ops listed i = true := by kernel_rfl) (hr : (Region.ready md ops listed).contains i = true := by kernel_rfl)
  (hQ : ∀ c a w, Q (.panic c) (a.put oi.dst v) w → Q (.panic c) a w := by exact fun _ _ _ h => h) (hw : Region.wanted oi (yielded ops a.tmps) = true := by rfl)
  (hy : ∀ w, S w → (execOp a.eval oi).run P w = .ok (.value v) w := by intro w hSw; (try dsimp only at hSw); go_simp <;> with_reducible rfl) (hS : S w := by assumption)
  (ha : a.put oi.dst v = a' := by (try simp only [Act.put, qL]); exact rfl) : wpAnyH P md ops Q S (fuel + 1) listed a w := by
 subst ha
 exact wpAnyH_take hi hs hf hr hQ (Or.inl ⟨hw, hy⟩) hS h
theorem tkP {P : Program} {md : Region.Mode} {ops : Array Oper} {Q : Exit → Act → World → Prop} {S : World → Prop} {fuel : Nat} {listed : Array Bool} {a : Act} {w : World} (hP : ∀ c a w, Q (.panic c) a w → False) (i : Nat) {oi : Oper} {v : Value}
  {a' : Act} (h : wpAnyH P md ops Q S fuel (listed.setIfInBounds i true) a' w) (hi : ops[i]? = some oi := by rfl) (hs : Region.noSelect ops = true := by kernel_rfl) (hf : Region.free md ops listed i = true := by kernel_rfl) (hr : (Region.ready md ops listed).contains i = true := by kernel_rfl)
  (hw : Region.wanted oi (yielded ops a.tmps) = true := by rfl)
  (hy : ∀ w, S w → (execOp a.eval oi).run P w = .ok (.value v) w := by intro w hSw; (try dsimp only at hSw); go_simp <;> with_reducible rfl) (hS : S w := by assumption)
  (ha : a.put oi.dst v = a' := by (try simp only [Act.put, qL]); exact rfl) : wpAnyH P md ops Q S (fuel + 1) listed a w := by
 subst ha
 exact wpAnyH_take hi hs hf hr (fun _ _ _ h => (hP _ _ _ h).elim) (Or.inl ⟨hw, hy⟩) hS h
open Go.RowKit
def RetV (w : World) (v : Value) (e : Ending) (w' : World) : Prop := e = .returned v ∧ Off Nob w w'
def RetL (w : World) (size n : Nat) (xs : List Value) (e : Ending) (w' : World) : Prop := ∃ v, e = .returned v ∧ Rd w' (fun _ => True) size v n xs ∧ Off Nob w w'
def OwnL (w0 w : World) (e : TypeId) (size : Nat) (v : Value) (n : Nat) (xs : List Value) : Prop := w.ownsRow w0.heap.size e size v n xs ∧ Off Nob w0 w
section
variable {w0 w w' : World} {e : TypeId} {size n : Nat} {v : Value} {xs : List Value} {F : Nat → Prop}
theorem OwnL.nil (w : World) (e : TypeId) (size : Nat) : OwnL w w e size (.slice none 0 0) 0 [] := ⟨World.ownsRow_nil _ _ _ _, Off.refl _ _⟩
theorem OwnL.nilAt (o : Off Nob w0 w) (e : TypeId) (size : Nat) : OwnL w0 w e size (.slice none 0 0) 0 [] := ⟨World.ownsRow_nil _ _ _ _, o⟩
theorem OwnL.off (h : OwnL w0 w e size v n xs) (o : Off Nob w w') : OwnL w0 w' e size v n xs := ⟨qas h.1 (fun g hg => o.block g (h.1.lt g hg).2 (fun h => h)), h.2.also o⟩
theorem OwnL.rd (h : OwnL w0 w e size v n xs) : Rd w (fun _ => True) size v n xs := Rd.own h.1 (fun _ _ => trivial)
theorem OwnL.form (h : OwnL w0 w e size v n xs) : ∃ A c, v = .slice A n c := by
 rcases h.1.2 with ⟨hx, h0⟩ | ⟨g, cap, cur, hv, _⟩
 ·exact ⟨none, 0, by rw [hx, h0]⟩
 ·exact ⟨_, _, hv⟩
theorem OwnL.grown (h : OwnL w0 w e size v n xs) {W : World} {v' : Value} {m : Nat} {ys : List Value} (o : Off Nob w W) (oW : w'.ownsRow w0.heap.size e size v' m ys) (hg : W.grownBy w' v.ownBlock) : OwnL w0 w' e size v' m ys :=
 ⟨oW, (h.2.also o).grown hg (fun k hk => .inr (h.1.lt k hk).1)⟩
theorem Rd.keepT (h : Rd w (fun _ => True) size v n xs) (o : Off Nob w w') : Rd w' (fun _ => True) size v n xs := h.keep o (fun _ _ h => h)
theorem Rd.any (h : Rd w F size v n xs) : Rd w (fun _ => True) size v n xs := h.mono (fun _ _ => trivial)
theorem Rd.cellsT (h : Rd w F size v n xs) (hn : 0 < n) : ∃ b o c, v = .slice (some ⟨b, o, none⟩) n c ∧ ∀ W, Off Nob w W → ∀ j u, xs[j]? = some u → W.cell? ⟨b, o + j, none⟩ = some u := by
 obtain ⟨A, c, rfl, _, _, hc⟩ := h
 obtain ⟨b, o, rfl, _, hb, hx⟩ := hc hn
 exact ⟨b, o, c, rfl, fun W ho j u hj => (ho.cell_old hb _).trans (hx j u hj)⟩
end
theorem Rd.newT (w : World) (t : TypeId) (xs : List Value) (size n : Nat) (hl : xs.length = n * size) (hn : n ≤ maxLen) : Rd (w.alloc (.cells xs.toArray t)) (fun _ => True) size (.slice (some ⟨w.heap.size, 0, none⟩) n n) n xs :=
 ⟨_, _, rfl, hn, hl, fun _ => ⟨w.heap.size, 0, rfl, trivial, by simp, fun j u hu => by
  rw [Nat.zero_add, (Blk.new w t xs.toArray).cell]
  simpa using hu⟩⟩
theorem Tryz.infoI' : (Tryz.prog.info? 3).map (fun i => (i.zero, i.size, i.bytes)) = some (some (.int .i64 0), 1, 8) := by kernel_rfl
theorem Tryz.infoY : (Tryz.prog.info? 5).map (fun i => (i.zero, i.size, i.bytes)) = some (some (.int .u8 0), 1, 1) := by kernel_rfl
end
section
open Go.RowKit
abbrev Bks := List (Nat × TypeId × Array Value)
section
variable {w0 w w' : World} {bs : Bks} {p q : Nat} {C C' : List (BitVec 64)} {E E' : List Ev}
end
section
variable {w0 w w' : World} {bs : Bks} {p q n : Nat} {E E' : List Ev}
end
section
variable {w0 w w' : World} {bs : Bks} {p q n : Nat} {E E' : List Ev}
end
section
variable {w0 w w' : World} {bs : Bks} {p q n : Nat} {E E' : List Ev}
end
end
section
open Go.RowKit
section
variable {w0 w w' : World} {F : Nat → Prop} {bs : Bks} {p : Nat} {C C2 : List (BitVec 64)} {E E2 : List Ev}
end
end
section
open Go.RowKit
def hasB (a0 a1 a2 a3 : Int) (b : Nat) : Bool := ((if b < 64 then a0 else if b < 128 then a1 else if b < 192 then a2 else a3) / 2 ^ (b % 64)).tmod 2 == 1
theorem qur (a0 a1 a2 a3 : Int) (b : Nat) (hb : b < 256) (w : World) :
  Calls Tryz.prog 35 #[.agg #[.int .u64 a0, .int .u64 a1, .int .u64 a2, .int .u64 a3], .int .u8 (b : Int)] w (RetV w (.bool (hasB a0 a1 a2 a3 b))) := by
 by_cases h0 : b < 64
 ·have e : (b : Int) / 64 = 0 := by omega
  have E : Hid (hasB a0 a1 a2 a3 b = ((a0 / 2 ^ (b % 64)).tmod 2 == 1)) := hID (by unfold hasB; rw [if_pos h0])
  rw [E.out]
  go_enter Tryz.func35, Tryz.ntmps35
  go_wp2_with fail
  go_ret
  exact ⟨rfl, oAl oRf _⟩
 by_cases h1 : b < 128
 ·have e : (b : Int) / 64 = 1 := by omega
  have E : Hid (hasB a0 a1 a2 a3 b = ((a1 / 2 ^ (b % 64)).tmod 2 == 1)) := hID (by unfold hasB; rw [if_neg h0, if_pos h1])
  rw [E.out]
  go_enter Tryz.func35, Tryz.ntmps35
  go_wp2_with fail
  go_ret
  exact ⟨rfl, oAl oRf _⟩
 by_cases h2 : b < 192
 ·have e : (b : Int) / 64 = 2 := by omega
  have E : Hid (hasB a0 a1 a2 a3 b = ((a2 / 2 ^ (b % 64)).tmod 2 == 1)) := hID (by unfold hasB; rw [if_neg h0, if_neg h1, if_pos h2])
  rw [E.out]
  go_enter Tryz.func35, Tryz.ntmps35
  go_wp2_with fail
  go_ret
  exact ⟨rfl, oAl oRf _⟩
 have e : (b : Int) / 64 = 3 := by omega
 have E : Hid (hasB a0 a1 a2 a3 b = ((a3 / 2 ^ (b % 64)).tmod 2 == 1)) := hID (by unfold hasB; rw [if_neg h0, if_neg h1, if_neg h2])
 rw [E.out]
 go_enter Tryz.func35, Tryz.ntmps35
 go_wp2_with fail
 go_ret
 exact ⟨rfl, oAl oRf _⟩
theorem qbn (w : World) (a : Obj) (t : TypeId) (cs : Array Value) : Blk ((w.alloc a).alloc (.cells cs t)) (w.heap.size + 1) t cs := by
 have := Blk.new (w.alloc a) t cs
 simpa using this
theorem Tryz.infoCl : (Tryz.prog.info? 73).map (·.size) = some 4 := by kernel_rfl
theorem qns (w : World) :
  Calls Tryz.prog 65 #[.agg #[.int .u64 0, .int .u64 0, .int .u64 0, .int .u64 0], .int .u8 97] w (RetV w (.agg #[.int .u64 0, .int .u64 8589934592, .int .u64 0, .int .u64 0])) := by
 have E : bits .or .u64 0 8589934592 = 8589934592 := by decide
 go_enter Tryz.func65, Tryz.ntmps65
 go_wp2_with fail
 exact bodyPost_ret (results_cell_row rfl _ _ _ _ _ (0, 0) _ rfl (qbn _ _ _ _) Tryz.underlying73 rfl Tryz.infoCl) rfl ⟨rfl, oAl (oAl oRf _) _⟩
theorem qxf (w : World) :
  Calls Tryz.prog 65 #[.agg #[.int .u64 0, .int .u64 0, .int .u64 0, .int .u64 0], .int .u8 98] w (RetV w (.agg #[.int .u64 0, .int .u64 17179869184, .int .u64 0, .int .u64 0])) := by
 have E : bits .or .u64 0 17179869184 = 17179869184 := by decide
 go_enter Tryz.func65, Tryz.ntmps65
 go_wp2_with fail
 exact bodyPost_ret (results_cell_row rfl _ _ _ _ _ (0, 0) _ rfl (qbn _ _ _ _) Tryz.underlying73 rfl Tryz.infoCl) rfl ⟨rfl, oAl (oAl oRf _) _⟩
theorem qus (w : World) :
  Calls Tryz.prog 65 #[.agg #[.int .u64 0, .int .u64 8589934592, .int .u64 0, .int .u64 0], .int .u8 98] w (RetV w (.agg #[.int .u64 0, .int .u64 25769803776, .int .u64 0, .int .u64 0])) := by
 have E : bits .or .u64 8589934592 17179869184 = 25769803776 := by decide
 go_enter Tryz.func65, Tryz.ntmps65
 go_wp2_with fail
 exact bodyPost_ret (results_cell_row rfl _ _ _ _ _ (0, 0) _ rfl (qbn _ _ _ _) Tryz.underlying73 rfl Tryz.infoCl) rfl ⟨rfl, oAl (oAl oRf _) _⟩
theorem qax {w W : World} (o : Off Nob w W) {g : Nat} (hg : w.heap.size ≤ g) (k : Nat) (vs : List Value) : Off Nob w (W.setCells g k vs) := by
 induction vs generalizing W k with
 | nil => exact o
 | cons v vs ih => exact ih (o.put (p := ⟨g, k, none⟩) (.inr hg) v) (k + 1)
theorem qbz {W : World} {g : Nat} {t : TypeId} {a b c d : Value} (h : Blk W g t #[a, b, c, d]) (x y z u : Value) : Blk (W.setCells g 0 [x, y, z, u]) g t #[x, y, z, u] := by
 show Blk ((((W.setCell ⟨g, 0, none⟩ x).setCell ⟨g, 0 + 1, none⟩ y).setCell ⟨g, 0 + 1 + 1, none⟩ z).setCell ⟨g, 0 + 1 + 1 + 1, none⟩ u) g t #[x, y, z, u]
 exact (((h.put 0 x).put 1 y).put 2 z).put 3 u
theorem qdx {W : World} {g k : Nat} {t : TypeId} {cs : Array Value} (h : Blk W k t cs) (ne : k ≠ g) (o : Nat) (vs : List Value) : Blk (W.setCells g o vs) k t cs := by
 induction vs generalizing W o with
 | nil => exact h
 | cons v vs ih => exact ih (h.far (p := ⟨g, o, none⟩) ne v) (o + 1)
theorem qfk {W : World} {g : Nat} {t : TypeId} {a b c d : Value} (h : Blk W g t #[a, b, c, d]) : W.there g 0 4 := fun j hj => by
 rw [Nat.zero_add]
 refine ⟨?_, h.frozen _⟩
 rw [h.cell]
 have : j = 0 ∨ j = 1 ∨ j = 2 ∨ j = 3 := by omega
 rcases this with rfl | rfl | rfl | rfl <;> rfl
theorem qzd (w : World) (v : Value) (hv : Rd w (fun _ => True) 1 v 1 [.int .u8 97]) : Calls Tryz.prog 70 #[v] w (RetV w (.agg #[.int .u64 0, .int .u64 8589934592, .int .u64 0, .int .u64 0])) := by
 obtain ⟨b, o, c, rfl, hc⟩ := hv.cellsT (by decide)
 have HC := hID hc
 clear hc hv
 go_enter Tryz.func70, Tryz.ntmps70
 go_wp2_with fail
 refine wp_loop_rounds 2 ?_
 rw [rounds_succ]
 have OO0 : Hid (Off Nob w ((w.alloc (.cells #[.int .u64 0, .int .u64 0, .int .u64 0, .int .u64 0] 73)).alloc (.cells #[.int .u64 0, .int .u64 0, .int .u64 0, .int .u64 0] 73))) := hID (oAl (oAl oRf _) _)
 have B0 : Hid (Blk ((w.alloc (.cells #[.int .u64 0, .int .u64 0, .int .u64 0, .int .u64 0] 73)).alloc (.cells #[.int .u64 0, .int .u64 0, .int .u64 0, .int .u64 0] 73)) (w.heap.size + 1) 73 #[.int .u64 0, .int .u64 0, .int .u64 0, .int .u64 0]) := hID (by have := Blk.new (w.alloc (.cells #[.int .u64 0, .int .u64 0, .int .u64 0, .int .u64 0] 73)) 73 #[.int .u64 0, .int .u64 0, .int .u64 0, .int .u64 0]; simpa using this)
 have R0 : Hid (Blk ((w.alloc (.cells #[.int .u64 0, .int .u64 0, .int .u64 0, .int .u64 0] 73)).alloc (.cells #[.int .u64 0, .int .u64 0, .int .u64 0, .int .u64 0] 73)) w.heap.size 73 #[.int .u64 0, .int .u64 0, .int .u64 0, .int .u64 0]) := hID ((Blk.new _ _ _).alloc _)
 revert OO0 B0 R0
 generalize (w.alloc (.cells #[.int .u64 0, .int .u64 0, .int .u64 0, .int .u64 0] 73)).alloc (.cells #[.int .u64 0, .int .u64 0, .int .u64 0, .int .u64 0] 73) = X0
 intro OO0 B0 R0
 have ck0 := HC.out _ OO0.out 0 _ rfl
 try simp only [Nat.add_zero] at ck0
 have t0 := B0.out.cell 0
 have t1 := B0.out.cell 1
 have t2 := B0.out.cell 2
 have t3 := B0.out.cell 3
 simp only [qG] at t0 t1 t2 t3
 go_wp2_with fail
 refine wp_region_held_drew (S := fun W => W.cell? ⟨b, o, none⟩ = some (.int .u8 97)) (by kernel_rfl) ck0 (fun hHeld => ?_)
 refine tkH 1 ?_
 refine tkH 2 ?_
 refine tkH 3 ?_
 refine tkH 4 ?_
 refine wpAnyH_ready (rs := [0]) (by kernel_rfl) (by simp) ?_
 refine AllReadyH.cons rfl (fun K hK => ?s4) ?m4
 case s4 =>
  go_simp
  refine hK.out _ _ ?_ (fun hHeld => ?_)
  ·first | exact hHeld | go_keep
  clear hK K
  try simp only [Act.put, qL]
  refine wpAnyH_ready (rs := [5]) (by kernel_rfl) (by simp) ?_
  refine AllReadyH.cons rfl (fun K hK => ?s5) ?m5
  case s5 =>
   go_simp
   refine (qns _).mono ?_
   rintro e W0 ⟨rfl, o0⟩
   have OZ0 := hID (OO0.out.also ((Off.drew oRf).also o0))
   have BZ0 := hID (Blk.to B0.out (((Off.drew oRf).also o0).block _ B0.out.lt (fun h => h)))
   have RZ0 := hID (Blk.to R0.out (((Off.drew oRf).also o0).block _ R0.out.lt (fun h => h)))
   have ck0 := HC.out _ OZ0.out 0 _ rfl
   try simp only [Nat.add_zero] at ck0
   clear OO0 B0 R0
   refine hK.out _ _ ?_ (fun hHeld => ?_)
   ·first | exact ck0 | go_keep
   clear hK K
   try simp only [Act.put, qL]
   refine wpAnyH_ready (rs := [6]) (by kernel_rfl) (by simp) ?_
   refine AllReadyH.cons rfl (fun K hK => ?s6) ?m6
   case s6 =>
    refine wp_store_mid 73 _ _ rfl (w.heap.size + 1) 0 #[.int .u64 0, .int .u64 8589934592, .int .u64 0, .int .u64 0] rfl rfl (qfk BZ0.out) Tryz.infoCl (by simp [Value.oneCell']) ?_
    refine hK.out _ _ ?_ (fun hHeld => ?_)
    ·first | exact (HC.out _ (qax OZ0.out (by omega) _ _) 0 _ rfl) | go_keep
    clear hK K
    try simp only [Act.put, qL]
    refine wpAnyH_done (by kernel_rfl) ?_ _
    clear hHeld
    have OO1 : Hid (Off Nob w (W0.setCells (w.heap.size + 1) 0 [.int .u64 0, .int .u64 8589934592, .int .u64 0, .int .u64 0])) := hID (qax OZ0.out (by omega) _ _)
    have B1 : Hid (Blk (W0.setCells (w.heap.size + 1) 0 [.int .u64 0, .int .u64 8589934592, .int .u64 0, .int .u64 0]) (w.heap.size + 1) 73 #[.int .u64 0, .int .u64 8589934592, .int .u64 0, .int .u64 0]) := hID (qbz BZ0.out _ _ _ _)
    have R1 : Hid (Blk (W0.setCells (w.heap.size + 1) 0 [.int .u64 0, .int .u64 8589934592, .int .u64 0, .int .u64 0]) w.heap.size 73 #[.int .u64 0, .int .u64 0, .int .u64 0, .int .u64 0]) := hID (qdx RZ0.out (by omega) _ _)
    clear OZ0 BZ0 RZ0
    obtain ⟨X1, hX1⟩ : ∃ W, W0.setCells (w.heap.size + 1) 0 [.int .u64 0, .int .u64 8589934592, .int .u64 0, .int .u64 0] = W := ⟨_, rfl⟩
    rw [hX1] at OO1 B1 R1 ⊢
    clear hX1
    go_wp2_with fail
    rw [rounds_succ]
    clear ck0 t0 t1 t2 t3
    have t0 := B1.out.cell 0
    have t1 := B1.out.cell 1
    have t2 := B1.out.cell 2
    have t3 := B1.out.cell 3
    have s0 := R1.out.cell 0
    have s1 := R1.out.cell 1
    have s2 := R1.out.cell 2
    have s3 := R1.out.cell 3
    simp only [qG] at t0 t1 t2 t3 s0 s1 s2 s3
    have f0 := R1.out.frozen 0
    have f1 := R1.out.frozen 1
    have f2 := R1.out.frozen 2
    have f3 := R1.out.frozen 3
    have RR : Hid (Blk (X1.setCells w.heap.size 0 [.int .u64 0, .int .u64 8589934592, .int .u64 0, .int .u64 0]) w.heap.size 73 #[.int .u64 0, .int .u64 8589934592, .int .u64 0, .int .u64 0] ∧ Off Nob w (X1.setCells w.heap.size 0 [.int .u64 0, .int .u64 8589934592, .int .u64 0, .int .u64 0])) := hID ⟨qbz R1.out _ _ _ _, qax OO1.out (Nat.le_refl _) _ _⟩
    go_wp2_with fail
    exact bodyPost_ret (results_cell_row rfl _ _ _ _ _ (0, 0) _ rfl RR.out.1 Tryz.underlying73 rfl Tryz.infoCl) rfl ⟨rfl, RR.out.2⟩
   exact AllReadyH.nil
  exact AllReadyH.nil
 exact AllReadyH.nil
theorem qze (w : World) (v : Value) (hv : Rd w (fun _ => True) 1 v 1 [.int .u8 98]) : Calls Tryz.prog 70 #[v] w (RetV w (.agg #[.int .u64 0, .int .u64 17179869184, .int .u64 0, .int .u64 0])) := by
 obtain ⟨b, o, c, rfl, hc⟩ := hv.cellsT (by decide)
 have HC := hID hc
 clear hc hv
 go_enter Tryz.func70, Tryz.ntmps70
 go_wp2_with fail
 refine wp_loop_rounds 2 ?_
 rw [rounds_succ]
 have OO0 : Hid (Off Nob w ((w.alloc (.cells #[.int .u64 0, .int .u64 0, .int .u64 0, .int .u64 0] 73)).alloc (.cells #[.int .u64 0, .int .u64 0, .int .u64 0, .int .u64 0] 73))) := hID (oAl (oAl oRf _) _)
 have B0 : Hid (Blk ((w.alloc (.cells #[.int .u64 0, .int .u64 0, .int .u64 0, .int .u64 0] 73)).alloc (.cells #[.int .u64 0, .int .u64 0, .int .u64 0, .int .u64 0] 73)) (w.heap.size + 1) 73 #[.int .u64 0, .int .u64 0, .int .u64 0, .int .u64 0]) := hID (by have := Blk.new (w.alloc (.cells #[.int .u64 0, .int .u64 0, .int .u64 0, .int .u64 0] 73)) 73 #[.int .u64 0, .int .u64 0, .int .u64 0, .int .u64 0]; simpa using this)
 have R0 : Hid (Blk ((w.alloc (.cells #[.int .u64 0, .int .u64 0, .int .u64 0, .int .u64 0] 73)).alloc (.cells #[.int .u64 0, .int .u64 0, .int .u64 0, .int .u64 0] 73)) w.heap.size 73 #[.int .u64 0, .int .u64 0, .int .u64 0, .int .u64 0]) := hID ((Blk.new _ _ _).alloc _)
 revert OO0 B0 R0
 generalize (w.alloc (.cells #[.int .u64 0, .int .u64 0, .int .u64 0, .int .u64 0] 73)).alloc (.cells #[.int .u64 0, .int .u64 0, .int .u64 0, .int .u64 0] 73) = X0
 intro OO0 B0 R0
 have ck0 := HC.out _ OO0.out 0 _ rfl
 try simp only [Nat.add_zero] at ck0
 have t0 := B0.out.cell 0
 have t1 := B0.out.cell 1
 have t2 := B0.out.cell 2
 have t3 := B0.out.cell 3
 simp only [qG] at t0 t1 t2 t3
 go_wp2_with fail
 refine wp_region_held_drew (S := fun W => W.cell? ⟨b, o, none⟩ = some (.int .u8 98)) (by kernel_rfl) ck0 (fun hHeld => ?_)
 refine tkH 1 ?_
 refine tkH 2 ?_
 refine tkH 3 ?_
 refine tkH 4 ?_
 refine wpAnyH_ready (rs := [0]) (by kernel_rfl) (by simp) ?_
 refine AllReadyH.cons rfl (fun K hK => ?s4) ?m4
 case s4 =>
  go_simp
  refine hK.out _ _ ?_ (fun hHeld => ?_)
  ·first | exact hHeld | go_keep
  clear hK K
  try simp only [Act.put, qL]
  refine wpAnyH_ready (rs := [5]) (by kernel_rfl) (by simp) ?_
  refine AllReadyH.cons rfl (fun K hK => ?s5) ?m5
  case s5 =>
   go_simp
   refine (qxf _).mono ?_
   rintro e W0 ⟨rfl, o0⟩
   have OZ0 := hID (OO0.out.also ((Off.drew oRf).also o0))
   have BZ0 := hID (Blk.to B0.out (((Off.drew oRf).also o0).block _ B0.out.lt (fun h => h)))
   have RZ0 := hID (Blk.to R0.out (((Off.drew oRf).also o0).block _ R0.out.lt (fun h => h)))
   have ck0 := HC.out _ OZ0.out 0 _ rfl
   try simp only [Nat.add_zero] at ck0
   clear OO0 B0 R0
   refine hK.out _ _ ?_ (fun hHeld => ?_)
   ·first | exact ck0 | go_keep
   clear hK K
   try simp only [Act.put, qL]
   refine wpAnyH_ready (rs := [6]) (by kernel_rfl) (by simp) ?_
   refine AllReadyH.cons rfl (fun K hK => ?s6) ?m6
   case s6 =>
    refine wp_store_mid 73 _ _ rfl (w.heap.size + 1) 0 #[.int .u64 0, .int .u64 17179869184, .int .u64 0, .int .u64 0] rfl rfl (qfk BZ0.out) Tryz.infoCl (by simp [Value.oneCell']) ?_
    refine hK.out _ _ ?_ (fun hHeld => ?_)
    ·first | exact (HC.out _ (qax OZ0.out (by omega) _ _) 0 _ rfl) | go_keep
    clear hK K
    try simp only [Act.put, qL]
    refine wpAnyH_done (by kernel_rfl) ?_ _
    clear hHeld
    have OO1 : Hid (Off Nob w (W0.setCells (w.heap.size + 1) 0 [.int .u64 0, .int .u64 17179869184, .int .u64 0, .int .u64 0])) := hID (qax OZ0.out (by omega) _ _)
    have B1 : Hid (Blk (W0.setCells (w.heap.size + 1) 0 [.int .u64 0, .int .u64 17179869184, .int .u64 0, .int .u64 0]) (w.heap.size + 1) 73 #[.int .u64 0, .int .u64 17179869184, .int .u64 0, .int .u64 0]) := hID (qbz BZ0.out _ _ _ _)
    have R1 : Hid (Blk (W0.setCells (w.heap.size + 1) 0 [.int .u64 0, .int .u64 17179869184, .int .u64 0, .int .u64 0]) w.heap.size 73 #[.int .u64 0, .int .u64 0, .int .u64 0, .int .u64 0]) := hID (qdx RZ0.out (by omega) _ _)
    clear OZ0 BZ0 RZ0
    obtain ⟨X1, hX1⟩ : ∃ W, W0.setCells (w.heap.size + 1) 0 [.int .u64 0, .int .u64 17179869184, .int .u64 0, .int .u64 0] = W := ⟨_, rfl⟩
    rw [hX1] at OO1 B1 R1 ⊢
    clear hX1
    go_wp2_with fail
    rw [rounds_succ]
    clear ck0 t0 t1 t2 t3
    have t0 := B1.out.cell 0
    have t1 := B1.out.cell 1
    have t2 := B1.out.cell 2
    have t3 := B1.out.cell 3
    have s0 := R1.out.cell 0
    have s1 := R1.out.cell 1
    have s2 := R1.out.cell 2
    have s3 := R1.out.cell 3
    simp only [qG] at t0 t1 t2 t3 s0 s1 s2 s3
    have f0 := R1.out.frozen 0
    have f1 := R1.out.frozen 1
    have f2 := R1.out.frozen 2
    have f3 := R1.out.frozen 3
    have RR : Hid (Blk (X1.setCells w.heap.size 0 [.int .u64 0, .int .u64 17179869184, .int .u64 0, .int .u64 0]) w.heap.size 73 #[.int .u64 0, .int .u64 17179869184, .int .u64 0, .int .u64 0] ∧ Off Nob w (X1.setCells w.heap.size 0 [.int .u64 0, .int .u64 17179869184, .int .u64 0, .int .u64 0])) := hID ⟨qbz R1.out _ _ _ _, qax OO1.out (Nat.le_refl _) _ _⟩
    go_wp2_with fail
    exact bodyPost_ret (results_cell_row rfl _ _ _ _ _ (0, 0) _ rfl RR.out.1 Tryz.underlying73 rfl Tryz.infoCl) rfl ⟨rfl, RR.out.2⟩
   exact AllReadyH.nil
  exact AllReadyH.nil
 exact AllReadyH.nil
theorem qxg (w : World) (v : Value) (hv : Rd w (fun _ => True) 1 v 2 [.int .u8 97, .int .u8 98]) : Calls Tryz.prog 70 #[v] w (RetV w (.agg #[.int .u64 0, .int .u64 25769803776, .int .u64 0, .int .u64 0])) := by
 obtain ⟨b, o, c, rfl, hc⟩ := hv.cellsT (by decide)
 have HC := hID hc
 clear hc hv
 go_enter Tryz.func70, Tryz.ntmps70
 go_wp2_with fail
 refine wp_loop_rounds 3 ?_
 rw [rounds_succ]
 have OO0 : Hid (Off Nob w ((w.alloc (.cells #[.int .u64 0, .int .u64 0, .int .u64 0, .int .u64 0] 73)).alloc (.cells #[.int .u64 0, .int .u64 0, .int .u64 0, .int .u64 0] 73))) := hID (oAl (oAl oRf _) _)
 have B0 : Hid (Blk ((w.alloc (.cells #[.int .u64 0, .int .u64 0, .int .u64 0, .int .u64 0] 73)).alloc (.cells #[.int .u64 0, .int .u64 0, .int .u64 0, .int .u64 0] 73)) (w.heap.size + 1) 73 #[.int .u64 0, .int .u64 0, .int .u64 0, .int .u64 0]) := hID (by have := Blk.new (w.alloc (.cells #[.int .u64 0, .int .u64 0, .int .u64 0, .int .u64 0] 73)) 73 #[.int .u64 0, .int .u64 0, .int .u64 0, .int .u64 0]; simpa using this)
 have R0 : Hid (Blk ((w.alloc (.cells #[.int .u64 0, .int .u64 0, .int .u64 0, .int .u64 0] 73)).alloc (.cells #[.int .u64 0, .int .u64 0, .int .u64 0, .int .u64 0] 73)) w.heap.size 73 #[.int .u64 0, .int .u64 0, .int .u64 0, .int .u64 0]) := hID ((Blk.new _ _ _).alloc _)
 revert OO0 B0 R0
 generalize (w.alloc (.cells #[.int .u64 0, .int .u64 0, .int .u64 0, .int .u64 0] 73)).alloc (.cells #[.int .u64 0, .int .u64 0, .int .u64 0, .int .u64 0] 73) = X0
 intro OO0 B0 R0
 have ck0 := HC.out _ OO0.out 0 _ rfl
 try simp only [Nat.add_zero] at ck0
 have t0 := B0.out.cell 0
 have t1 := B0.out.cell 1
 have t2 := B0.out.cell 2
 have t3 := B0.out.cell 3
 simp only [qG] at t0 t1 t2 t3
 go_wp2_with fail
 refine wp_region_held_drew (S := fun W => W.cell? ⟨b, o, none⟩ = some (.int .u8 97)) (by kernel_rfl) ck0 (fun hHeld => ?_)
 refine tkH 1 ?_
 refine tkH 2 ?_
 refine tkH 3 ?_
 refine tkH 4 ?_
 refine wpAnyH_ready (rs := [0]) (by kernel_rfl) (by simp) ?_
 refine AllReadyH.cons rfl (fun K hK => ?s4) ?m4
 case s4 =>
  go_simp
  refine hK.out _ _ ?_ (fun hHeld => ?_)
  ·first | exact hHeld | go_keep
  clear hK K
  try simp only [Act.put, qL]
  refine wpAnyH_ready (rs := [5]) (by kernel_rfl) (by simp) ?_
  refine AllReadyH.cons rfl (fun K hK => ?s5) ?m5
  case s5 =>
   go_simp
   refine (qns _).mono ?_
   rintro e W0 ⟨rfl, o0⟩
   have OZ0 := hID (OO0.out.also ((Off.drew oRf).also o0))
   have BZ0 := hID (Blk.to B0.out (((Off.drew oRf).also o0).block _ B0.out.lt (fun h => h)))
   have RZ0 := hID (Blk.to R0.out (((Off.drew oRf).also o0).block _ R0.out.lt (fun h => h)))
   have ck0 := HC.out _ OZ0.out 0 _ rfl
   try simp only [Nat.add_zero] at ck0
   clear OO0 B0 R0
   refine hK.out _ _ ?_ (fun hHeld => ?_)
   ·first | exact ck0 | go_keep
   clear hK K
   try simp only [Act.put, qL]
   refine wpAnyH_ready (rs := [6]) (by kernel_rfl) (by simp) ?_
   refine AllReadyH.cons rfl (fun K hK => ?s6) ?m6
   case s6 =>
    refine wp_store_mid 73 _ _ rfl (w.heap.size + 1) 0 #[.int .u64 0, .int .u64 8589934592, .int .u64 0, .int .u64 0] rfl rfl (qfk BZ0.out) Tryz.infoCl (by simp [Value.oneCell']) ?_
    refine hK.out _ _ ?_ (fun hHeld => ?_)
    ·first | exact (HC.out _ (qax OZ0.out (by omega) _ _) 0 _ rfl) | go_keep
    clear hK K
    try simp only [Act.put, qL]
    refine wpAnyH_done (by kernel_rfl) ?_ _
    clear hHeld
    have OO1 : Hid (Off Nob w (W0.setCells (w.heap.size + 1) 0 [.int .u64 0, .int .u64 8589934592, .int .u64 0, .int .u64 0])) := hID (qax OZ0.out (by omega) _ _)
    have B1 : Hid (Blk (W0.setCells (w.heap.size + 1) 0 [.int .u64 0, .int .u64 8589934592, .int .u64 0, .int .u64 0]) (w.heap.size + 1) 73 #[.int .u64 0, .int .u64 8589934592, .int .u64 0, .int .u64 0]) := hID (qbz BZ0.out _ _ _ _)
    have R1 : Hid (Blk (W0.setCells (w.heap.size + 1) 0 [.int .u64 0, .int .u64 8589934592, .int .u64 0, .int .u64 0]) w.heap.size 73 #[.int .u64 0, .int .u64 0, .int .u64 0, .int .u64 0]) := hID (qdx RZ0.out (by omega) _ _)
    clear OZ0 BZ0 RZ0
    obtain ⟨X1, hX1⟩ : ∃ W, W0.setCells (w.heap.size + 1) 0 [.int .u64 0, .int .u64 8589934592, .int .u64 0, .int .u64 0] = W := ⟨_, rfl⟩
    rw [hX1] at OO1 B1 R1 ⊢
    clear hX1
    go_wp2_with fail
    rw [rounds_succ]
    clear ck0 t0 t1 t2 t3
    have ck1 := HC.out _ OO1.out 1 _ rfl
    try simp only [Nat.add_zero] at ck1
    have t0 := B1.out.cell 0
    have t1 := B1.out.cell 1
    have t2 := B1.out.cell 2
    have t3 := B1.out.cell 3
    simp only [qG] at t0 t1 t2 t3
    go_wp2_with fail
    refine wp_region_held_drew (S := fun W => W.cell? ⟨b, o + 1, none⟩ = some (.int .u8 98)) (by kernel_rfl) ck1 (fun hHeld => ?_)
    refine tkH 1 ?_
    refine tkH 2 ?_
    refine tkH 3 ?_
    refine tkH 4 ?_
    refine wpAnyH_ready (rs := [0]) (by kernel_rfl) (by simp) ?_
    refine AllReadyH.cons rfl (fun K hK => ?s104) ?m104
    case s104 =>
     go_simp
     refine hK.out _ _ ?_ (fun hHeld => ?_)
     ·first | exact hHeld | go_keep
     clear hK K
     try simp only [Act.put, qL]
     refine wpAnyH_ready (rs := [5]) (by kernel_rfl) (by simp) ?_
     refine AllReadyH.cons rfl (fun K hK => ?s105) ?m105
     case s105 =>
      go_simp
      refine (qus _).mono ?_
      rintro e W1 ⟨rfl, o1⟩
      have OZ1 := hID (OO1.out.also ((Off.drew oRf).also o1))
      have BZ1 := hID (Blk.to B1.out (((Off.drew oRf).also o1).block _ B1.out.lt (fun h => h)))
      have RZ1 := hID (Blk.to R1.out (((Off.drew oRf).also o1).block _ R1.out.lt (fun h => h)))
      have ck1 := HC.out _ OZ1.out 1 _ rfl
      try simp only [Nat.add_zero] at ck1
      clear OO1 B1 R1
      refine hK.out _ _ ?_ (fun hHeld => ?_)
      ·first | exact ck1 | go_keep
      clear hK K
      try simp only [Act.put, qL]
      refine wpAnyH_ready (rs := [6]) (by kernel_rfl) (by simp) ?_
      refine AllReadyH.cons rfl (fun K hK => ?s106) ?m106
      case s106 =>
       refine wp_store_mid 73 _ _ rfl (w.heap.size + 1) 0 #[.int .u64 0, .int .u64 25769803776, .int .u64 0, .int .u64 0] rfl rfl (qfk BZ1.out) Tryz.infoCl (by simp [Value.oneCell']) ?_
       refine hK.out _ _ ?_ (fun hHeld => ?_)
       ·first | exact (HC.out _ (qax OZ1.out (by omega) _ _) 1 _ rfl) | go_keep
       clear hK K
       try simp only [Act.put, qL]
       refine wpAnyH_done (by kernel_rfl) ?_ _
       clear hHeld
       have OO2 : Hid (Off Nob w (W1.setCells (w.heap.size + 1) 0 [.int .u64 0, .int .u64 25769803776, .int .u64 0, .int .u64 0])) := hID (qax OZ1.out (by omega) _ _)
       have B2 : Hid (Blk (W1.setCells (w.heap.size + 1) 0 [.int .u64 0, .int .u64 25769803776, .int .u64 0, .int .u64 0]) (w.heap.size + 1) 73 #[.int .u64 0, .int .u64 25769803776, .int .u64 0, .int .u64 0]) := hID (qbz BZ1.out _ _ _ _)
       have R2 : Hid (Blk (W1.setCells (w.heap.size + 1) 0 [.int .u64 0, .int .u64 25769803776, .int .u64 0, .int .u64 0]) w.heap.size 73 #[.int .u64 0, .int .u64 0, .int .u64 0, .int .u64 0]) := hID (qdx RZ1.out (by omega) _ _)
       clear OZ1 BZ1 RZ1
       obtain ⟨X2, hX2⟩ : ∃ W, W1.setCells (w.heap.size + 1) 0 [.int .u64 0, .int .u64 25769803776, .int .u64 0, .int .u64 0] = W := ⟨_, rfl⟩
       rw [hX2] at OO2 B2 R2 ⊢
       clear hX2
       go_wp2_with fail
       rw [rounds_succ]
       clear ck1 t0 t1 t2 t3
       have t0 := B2.out.cell 0
       have t1 := B2.out.cell 1
       have t2 := B2.out.cell 2
       have t3 := B2.out.cell 3
       have s0 := R2.out.cell 0
       have s1 := R2.out.cell 1
       have s2 := R2.out.cell 2
       have s3 := R2.out.cell 3
       simp only [qG] at t0 t1 t2 t3 s0 s1 s2 s3
       have f0 := R2.out.frozen 0
       have f1 := R2.out.frozen 1
       have f2 := R2.out.frozen 2
       have f3 := R2.out.frozen 3
       have RR : Hid (Blk (X2.setCells w.heap.size 0 [.int .u64 0, .int .u64 25769803776, .int .u64 0, .int .u64 0]) w.heap.size 73 #[.int .u64 0, .int .u64 25769803776, .int .u64 0, .int .u64 0] ∧ Off Nob w (X2.setCells w.heap.size 0 [.int .u64 0, .int .u64 25769803776, .int .u64 0, .int .u64 0])) := hID ⟨qbz R2.out _ _ _ _, qax OO2.out (Nat.le_refl _) _ _⟩
       go_wp2_with fail
       exact bodyPost_ret (results_cell_row rfl _ _ _ _ _ (0, 0) _ rfl RR.out.1 Tryz.underlying73 rfl Tryz.infoCl) rfl ⟨rfl, RR.out.2⟩
      exact AllReadyH.nil
     exact AllReadyH.nil
    exact AllReadyH.nil
   exact AllReadyH.nil
  exact AllReadyH.nil
 exact AllReadyH.nil
end
section
open Go.RowKit
def fltB (a0 a1 a2 a3 : Int) (k : Nat) : List Nat := (List.range k).filter (hasB a0 a1 a2 a3)
theorem qxh (a0 a1 a2 a3 : Int) (k : Nat) (h : hasB a0 a1 a2 a3 k = true) : fltB a0 a1 a2 a3 (k + 1) = fltB a0 a1 a2 a3 k ++ [k] := by unfold fltB; rw [List.range_succ, List.filter_append]; simp [h]
theorem qzf (a0 a1 a2 a3 : Int) (k : Nat) (h : hasB a0 a1 a2 a3 k = false) : fltB a0 a1 a2 a3 (k + 1) = fltB a0 a1 a2 a3 k := by unfold fltB; rw [List.range_succ, List.filter_append]; simp [h]
theorem qxi (a0 a1 a2 a3 : Int) (k : Nat) : (fltB a0 a1 a2 a3 k).length ≤ k := by unfold fltB; have := List.length_filter_le (hasB a0 a1 a2 a3) (List.range k); simpa using this
def byV (l : List Nat) : List Value := l.map fun b : Nat => .int .u8 (b : Int)
theorem qxj (l : List Nat) (b : Nat) : byV (l ++ [b]) = byV l ++ [.int .u8 (b : Int)] := by simp [byV]
theorem qc7 (w : World) (x : Value) (t : TypeId) : ∀ j u, [x][j]? = some u → (w.alloc (.cells #[x] t)).cell? ((⟨w.heap.size, 0, none⟩ : Addr).add j) = some u := by
 intro j u hj
 rw [qam, Nat.zero_add, (Blk.new w t #[x]).cell]
 simpa using hj
theorem qzg (a0 a1 a2 a3 : Int) (w : World) :
  Calls Tryz.prog 138 #[.agg #[.int .u64 a0, .int .u64 a1, .int .u64 a2, .int .u64 a3]] w (RetL w 1 (fltB a0 a1 a2 a3 256).length (byV (fltB a0 a1 a2 a3 256))) := by
 obtain ⟨i0, hi, hz0, hz1, hz2⟩ := info_parts Tryz.infoY
 go_enter Tryz.func138, Tryz.ntmps138
 go_wp2_with fail
 have T0 : Hid (Blk (w.alloc (.cells #[.int .u64 a0, .int .u64 a1, .int .u64 a2, .int .u64 a3] 73)) w.heap.size 73 #[.int .u64 a0, .int .u64 a1, .int .u64 a2, .int .u64 a3] ∧ OwnL w (w.alloc (.cells #[.int .u64 a0, .int .u64 a1, .int .u64 a2, .int .u64 a3] 73)) 5 1 (.slice none 0 0) (fltB a0 a1 a2 a3 0).length (byV (fltB a0 a1 a2 a3 0))) := hID ⟨Blk.new _ _ _, OwnL.nilAt (oAl oRf _) _ _⟩
 go_loopw [3, 4] (fun v i wr => ∃ k : Nat, k ≤ 256 ∧ i = .int .i64 (k : Int) ∧ Blk wr w.heap.size 73 #[.int .u64 a0, .int .u64 a1, .int .u64 a2, .int .u64 a3] ∧ OwnL w wr 5 1 v (fltB a0 a1 a2 a3 k).length (byV (fltB a0 a1 a2 a3 k)) ∧ ∀ g, v.ownBlock = some g → g ≠ w.heap.size) (fun _ i _ => 256 - (intOf i).toNat)
 case atStart => exact ⟨0, Nat.zero_le _, rfl, T0.out.1, T0.out.2, fun g hg => by cases hg⟩
 case round =>
  obtain ⟨k, hk, rfl, hb, oW, hne⟩ := hrel
  obtain ⟨AA, cc, rfl⟩ := oW.form
  have HB := hID hb
  have HO := hID oW
  have HN := hID hne
  have t0 := hb.cell 0
  have t1 := hb.cell 1
  have t2 := hb.cell 2
  have t3 := hb.cell 3
  simp only [qG] at t0 t1 t2 t3
  clear hb oW hne T0
  by_cases hlt : k < 256
  ·have hl := qxi a0 a1 a2 a3 k
   go_wp2_with fail
   refine (qur a0 a1 a2 a3 k hlt _).mono ?_
   rintro e w1 ⟨rfl, o1⟩
   have O1 := hID (HO.out.off o1)
   have B1 := hID (HB.out.to (o1.block _ HB.out.lt (fun h => h)))
   clear o1 HO HB t0 t1 t2 t3
   cases hbt : hasB a0 a1 a2 a3 k
   ·have HX := hID (qzf a0 a1 a2 a3 k hbt)
    clear hbt
    go_wp2_with fail
    go_roundw
    case rel => exact ⟨k + 1, hlt, by go_num, B1.out, by rw [HX.out]; exact O1.out, HN.out⟩
    case measure => simp [intOf]; omega
   ·have HX := hID (qxh a0 a1 a2 a3 k hbt)
    obtain ⟨L, hL⟩ : ∃ L, fltB a0 a1 a2 a3 k = L := ⟨_, rfl⟩
    rw [hL] at hl O1 HX HN ⊢
    clear hbt hL
    obtain ⟨q, hq⟩ : ∃ q, L.length = q := ⟨_, rfl⟩
    have HQ := hID hq
    rw [hq] at hl O1 HN ⊢
    clear hq
    go_wp2_with (at_builtin; refine wpList_append_own_at _ rfl _ _ 45 rfl w.heap.size 5 i0 (.int .u8 0) 1 1 Tryz.underlying45 hi hz0 hz1 hz2 rfl (by decide) (.slice AA q cc) q (byV L) rfl (O1.out.1.alloc _) ⟨w1.heap.size, 0, none⟩ 1 1 [.int .u8 (k : Int)] rfl rfl ?c1 ?c2 ?c3 ?c4 ?c5 ?_)
    case c1 => exact qc7 _ _ _
    case c2 => intro u hu; simp at hu; subst hu; rfl
    case c3 => unfold maxLen; omega
    case c4 => omega
    case c5 => have := O1.out.2.size; simp; omega
    intro v' w4 hown' gW hnil hat
    have O4 : Hid (OwnL w w4 5 1 v' (L ++ [k]).length (byV (L ++ [k]))) := hID (by
     have := O1.out.grown (oAl oRf _) hown' gW
     rw [List.length_append, HQ.out, qxj]
     exact this)
    have B4 : Hid (Blk w4 w.heap.size 73 #[.int .u64 a0, .int .u64 a1, .int .u64 a2, .int .u64 a3] ∧ ∀ g, v'.ownBlock = some g → g ≠ w.heap.size) := hID (by
     have oo := Off.grown (F := fun k => (Value.slice AA q cc).ownBlock = some k) (oAl oRf _) gW (fun k hk => .inl hk)
     refine ⟨B1.out.to (oo.block _ B1.out.lt (fun h => HN.out _ h rfl)), fun g hg => ?_⟩
     rcases hat with e | e
     ·exact HN.out g (e ▸ hg)
     ·rw [e] at hg
      injection hg with hg
      subst hg
      have := B1.out.lt
      simp
      omega)
    clear hown' gW hnil hat
    go_wp2_with fail
    go_roundw
    case rel => exact ⟨k + 1, hlt, by go_num, B4.out.1, by rw [HX.out]; exact O4.out, B4.out.2⟩
    case measure => simp [intOf]; omega
  ·obtain rfl : k = 256 := by omega
   go_wp2_with fail
   go_ret
   exact ⟨_, rfl, HO.out.rd, HO.out.2⟩
end
end Go.Proofs.YtlgjaefcfnndhaaGreatDoor
