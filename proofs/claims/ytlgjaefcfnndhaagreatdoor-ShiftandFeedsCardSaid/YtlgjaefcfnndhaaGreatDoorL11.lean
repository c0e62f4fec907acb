/-
 Plain lemmas on words of 64 bits, as the model's integers of the kind u64 hold them. Nothing of the program is named here.
-/
import Derived.WalkKit
import Derived.WalkSpells
import Derived.WalkLawsBesides
import Derived.Test.YtlgjaefcfnndhaaGreatDoorRows
import Derived.Test.YtlgjaefcfnndhaaGreatDoorL10
import Derived.Laws.EntriesVeiled
import Derived.Outline
import Derived.BigQuiet
import Derived.BigRegion
import Derived.RegionTactic
set_option linter.unusedVariables false
set_option linter.unusedSimpArgs false
set_option maxHeartbeats 16000000
set_option maxRecDepth 100000
namespace Go.Proofs.YtlgjaefcfnndhaaGreatDoor
section
open Go.RowKit
def bv (n : Int) : BitVec 64 := BitVec.ofInt 64 n
def n64 (x : BitVec 64) : Int := (x.toNat : Int)
@[go_sem, simp] theorem bv_n64 (x : BitVec 64) : bv (n64 x) = x := by
 apply BitVec.eq_of_toNat_eq; simp [bv, n64, BitVec.ofInt_natCast]
theorem wrap_u64 (n : Int) : IntKind.u64.wrap n = n64 (bv n) := by
 rw [IntKind.wrap_u64]; unfold n64 bv
 rw [BitVec.toNat_ofInt]
 have : (0 : Int) ≤ n % 18446744073709551616 := Int.emod_nonneg _ (by decide)
 simp; omega
end
section
open Go.RowKit
abbrev Ev := Nat × Nat
def enc (e : Ev) : Nat := e.2 * 4 + e.1
def u64s (C : List (BitVec 64)) : List Value := C.map fun x => .int .u64 (n64 x)
theorem qoe (C : List (BitVec 64)) : (u64s C).length = C.length := by simp [u64s]
def cl (C : List (BitVec 64)) (i : Nat) : BitVec 64 := C.getD i 0
section
variable {w w' w1 w2 : World} {F G : Nat → Prop} {p : Nat} {C C1 C2 : List (BitVec 64)} {E E1 E2 : List Ev} {cb : Nat} {pv : Value} {ps : List Nat} {rg : Value}
theorem qao {base : Nat} {e : TypeId} {size n : Nat} {v : Value} {xs : List Value} (h : w.ownsRow base e size v n xs) (hb : ∀ g, v.ownBlock = some g → w'.heap[g]? = w.heap[g]?) : w'.ownsRow base e size v n xs := by
 refine ⟨h.1, ?_⟩
 rcases h.2 with hn | ⟨g, cap, cur, rfl, hb1, hgg, rest⟩
 ·exact .inl hn
 ·exact .inr ⟨g, cap, cur, rfl, hb1, (hb g rfl).trans hgg, rest⟩
end
theorem Off.own {F : Nat → Prop} {w w1 w2 : World} (h : Off Nob w w1) (k : Off F w1 w2) (hf : ∀ k, F k → w.heap.size ≤ k) : Off Nob w w2 :=
 ⟨k.os.trans h.os, k.tape.trans h.tape, k.output.trans h.output, Nat.le_trans h.size k.size, fun i hi hn =>
  (k.block i (Nat.lt_of_lt_of_le hi h.size) (fun hg => by have := hf i hg; omega)).trans (h.block i hi hn)⟩
section
variable {w : World} {F : Nat → Prop} {p : Nat} {C : List (BitVec 64)} {E : List Ev}
end
end
section
open Go.RowKit
section
variable {w w' w1 w2 : World} {F G : Nat → Prop} {r : Nat} {C C1 C2 : List (BitVec 64)} {E E1 E2 : List Ev} {cb : Nat} {ev rg : Value}
end
theorem ql6 (w : World) (x y : Value) (t : TypeId) : ∀ j u, [x, y][j]? = some u → (w.alloc (.cells #[x, y] t)).cell? ((⟨w.heap.size, 0, none⟩ : Addr).add j) = some u := by
 intro j u hj
 match j, hj with
 | 0, hj => simp at hj; subst hj; simp [Addr.add]
 | 1, hj => simp at hj; subst hj; simp [Addr.add]
section
variable {w : World} {F : Nat → Prop} {r : Nat} {C : List (BitVec 64)} {E : List Ev}
end
end
section
open Go.RowKit
section
variable {w : World} {F : Nat → Prop} {p : Nat} {C : List (BitVec 64)} {E : List Ev}
end
end
section
open Go.RowKit
section
variable {w w' : World} {F : Nat → Prop} {p : Nat} {C : List (BitVec 64)} {E : List Ev} {cb : Nat} {pv : Value} {ps : List Nat} {rg : Value}
end
end
section
open Go.RowKit
section
variable {w : World} {F : Nat → Prop} {p : Nat} {C : List (BitVec 64)} {E : List Ev}
end
end
section
open Go.RowKit
theorem Rd.lit (w : World) (t : TypeId) (C : List (BitVec 64)) (h : C.length ≤ maxLen) : Rd (w.alloc (.cells (u64s C).toArray t)) (fun k => k = w.heap.size) 1 (.slice (some ⟨w.heap.size, 0, none⟩) C.length C.length) C.length (u64s C) :=
 ⟨_, _, rfl, h, by rw [qoe, Nat.mul_one], fun _ => ⟨_, 0, rfl, rfl, by simp, fun j u hu => by rw [Nat.zero_add, World.cell?_alloc_new]; simpa using hu⟩⟩
end
section
open Go.RowKit
section
variable {w : World} {F : Nat → Prop} {p : Nat} {C : List (BitVec 64)} {E : List Ev}
end
end
end Go.Proofs.YtlgjaefcfnndhaaGreatDoor
