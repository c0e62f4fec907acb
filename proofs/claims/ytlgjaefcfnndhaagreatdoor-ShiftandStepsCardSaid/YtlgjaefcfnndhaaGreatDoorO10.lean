/-
 Plain lemmas on words of 64 bits, as the model's integers of the kind u64 hold them. Nothing of the program is named here.
-/
import Derived.WalkKit
import Derived.WalkSpells
import Derived.WalkLawsBesides
import Derived.Test.YtlgjaefcfnndhaaGreatDoorRows
import Derived.Test.YtlgjaefcfnndhaaGreatDoorO9
import Derived.Laws.EntriesVeiled
import Derived.Outline
import Derived.BigQuiet
import Derived.BigRegion
import Derived.RegionTactic
import Derived.Deep.QuietTactic
import Derived.Laws.AppendOwnNone
import Derived.Deep.RegionHeld3
set_option linter.unusedVariables false
set_option linter.unusedSimpArgs false
set_option maxHeartbeats 16000000
set_option maxRecDepth 100000
namespace Go.Proofs.YtlgjaefcfnndhaaGreatDoor
section
open Go.RowKit
def bv (n : Int) : BitVec 64 := BitVec.ofInt 64 n
def n64 (x : BitVec 64) : Int := (x.toNat : Int)
@[go_sem, simp] theorem bv_n64 (x : BitVec 64) : bv (n64 x) = x := by
 apply BitVec.eq_of_toNat_eq; simp [bv, n64, BitVec.ofInt_natCast]
theorem wrap_u64 (n : Int) : IntKind.u64.wrap n = n64 (bv n) := by
 rw [IntKind.wrap_u64]; unfold n64 bv
 rw [BitVec.toNat_ofInt]
 have : (0 : Int) ≤ n % 18446744073709551616 := Int.emod_nonneg _ (by decide)
 simp; omega
end
section
open Go.RowKit
abbrev Ev := Nat × Nat
def enc (e : Ev) : Nat := e.2 * 4 + e.1
def u64s (C : List (BitVec 64)) : List Value := C.map fun x => .int .u64 (n64 x)
theorem qoa (C : List (BitVec 64)) : (u64s C).length = C.length := by simp [u64s]
def cl (C : List (BitVec 64)) (i : Nat) : BitVec 64 := C.getD i 0
section
variable {w w' w1 w2 : World} {F G : Nat → Prop} {p : Nat} {C C1 C2 : List (BitVec 64)} {E E1 E2 : List Ev} {cb : Nat} {pv : Value} {ps : List Nat} {rg : Value}
theorem qao {base : Nat} {e : TypeId} {size n : Nat} {v : Value} {xs : List Value} (h : w.ownsRow base e size v n xs) (hb : ∀ g, v.ownBlock = some g → w'.heap[g]? = w.heap[g]?) : w'.ownsRow base e size v n xs := by
 refine ⟨h.1, ?_⟩
 rcases h.2 with hn | ⟨g, cap, cur, rfl, hb1, hgg, rest⟩
 ·exact .inl hn
 ·exact .inr ⟨g, cap, cur, rfl, hb1, (hb g rfl).trans hgg, rest⟩
end
theorem Off.own {F : Nat → Prop} {w w1 w2 : World} (h : Off Nob w w1) (k : Off F w1 w2) (hf : ∀ k, F k → w.heap.size ≤ k) : Off Nob w w2 :=
 ⟨k.os.trans h.os, k.tape.trans h.tape, k.output.trans h.output, Nat.le_trans h.size k.size, fun i hi hn =>
  (k.block i (Nat.lt_of_lt_of_le hi h.size) (fun hg => by have := hf i hg; omega)).trans (h.block i hi hn)⟩
section
variable {w : World} {F : Nat → Prop} {p : Nat} {C : List (BitVec 64)} {E : List Ev}
end
end
section
open Go.RowKit
section
variable {w w' w1 w2 : World} {F G : Nat → Prop} {r : Nat} {C C1 C2 : List (BitVec 64)} {E E1 E2 : List Ev} {cb : Nat} {ev rg : Value}
end
section
variable {w : World} {F : Nat → Prop} {r : Nat} {C : List (BitVec 64)} {E : List Ev}
end
end
section
open Go.RowKit
section
variable {w : World} {F : Nat → Prop} {p : Nat} {C : List (BitVec 64)} {E : List Ev}
end
end
section
open Go.RowKit
section
variable {w w' : World} {F : Nat → Prop} {p : Nat} {C : List (BitVec 64)} {E : List Ev} {cb : Nat} {pv : Value} {ps : List Nat} {rg : Value}
end
end
section
open Go.RowKit
section
variable {w : World} {F : Nat → Prop} {p : Nat} {C : List (BitVec 64)} {E : List Ev}
end
end
section
open Go.RowKit
theorem Rd.lit (w : World) (t : TypeId) (C : List (BitVec 64)) (h : C.length ≤ maxLen) : Rd (w.alloc (.cells (u64s C).toArray t)) (fun k => k = w.heap.size) 1 (.slice (some ⟨w.heap.size, 0, none⟩) C.length C.length) C.length (u64s C) :=
 ⟨_, _, rfl, h, by rw [qoa, Nat.mul_one], fun _ => ⟨_, 0, rfl, rfl, by simp, fun j u hu => by rw [Nat.zero_add, World.cell?_alloc_new]; simpa using hu⟩⟩
end
section
open Go.RowKit
section
variable {w : World} {F : Nat → Prop} {p : Nat} {C : List (BitVec 64)} {E : List Ev}
end
end
section
open Go.RowKit
section
variable {w : World} {F : Nat → Prop} {p : Nat} {C : List (BitVec 64)} {E : List Ev}
end
end
section
open Go.RowKit
section
variable {w : World} {F : Nat → Prop} {r : Nat} {C : List (BitVec 64)} {E : List Ev}
end
end
section
open Go.RowKit
section
variable {w : World} {F : Nat → Prop} {r : Nat} {C : List (BitVec 64)} {E : List Ev}
end
end
section
open Go.RowKit
end
section
open Go.RowKit
section
variable {w0 w w' : World} {p r : Nat} {C C' : List (BitVec 64)} {E E' : List Ev}
end
end
section
open Go.RowKit
section
variable {w0 w w' : World} {b : Nat} {t : TypeId} {cs : Array Value} {p r : Nat} {C C' : List (BitVec 64)} {E E' : List Ev}
end
theorem Rd.at_ {w : World} {F : Nat → Prop} {size n : Nat} {v : Value} {xs : List Value} (h : Rd w F size v n xs) (hn : 0 < n) : ∃ b o c, v = .slice (some ⟨b, o, none⟩) n c ∧ b < w.heap.size ∧ ∀ j u, xs[j]? = some u → w.cell? ⟨b, o + j, none⟩ = some u := by
 obtain ⟨A, c, rfl, _, _, hc⟩ := h
 obtain ⟨b, o, rfl, _, hb, hx⟩ := hc hn
 exact ⟨b, o, c, rfl, hb, hx⟩
theorem Rd.form {w : World} {F : Nat → Prop} {size n : Nat} {v : Value} {xs : List Value} (h : Rd w F size v n xs) : ∃ A c, v = .slice A n c ∧ n ≤ maxLen ∧ (0 < n → ∃ b o, A = some ⟨b, o, none⟩ ∧ b < w.heap.size ∧ ∀ j u, xs[j]? = some u → w.cell? ⟨b, o + j, none⟩ = some u) := by
 obtain ⟨A, c, rfl, hm, _, hc⟩ := h
 refine ⟨A, c, rfl, hm, fun hn => ?_⟩
 obtain ⟨b, o, rfl, _, hb, hx⟩ := hc hn
 exact ⟨b, o, rfl, hb, hx⟩
theorem Off.cell_old {w w' : World} (o : Off Nob w w') {b : Nat} (hb : b < w.heap.size) (i : Nat) : w'.cell? ⟨b, i, none⟩ = w.cell? ⟨b, i, none⟩ := World.cell?_of_block (a := ⟨b, i, none⟩) (o.block b hb (fun h => h))
end
end Go.Proofs.YtlgjaefcfnndhaaGreatDoor
