/-
  dragnetref09.loaded: the values of the cells of a table.
-/
import Derived.Test.YtgdklokoeeokbaaRef09Ch
import Derived.Maps.AppendAt
namespace Go.Proofs.Ytgdklokoeeokbaa
open Go.RowKit
attribute [local go_sem] bits_and_u64 bits_or_u64 bits_xor_u64 bits_andNot_u64 wrap_u64 bv_add bv_neg bv_sub bv_mul
set_option linter.unusedVariables false
set_option maxRecDepth 100000
/-- The first k values of a table. -/
def ldL (C : List (BitVec 64)) (base k : Nat) : List (BitVec 64) := (List.range k).map fun i => cl C (base + i)
theorem length_ldL (C : List (BitVec 64)) (base k : Nat) : (ldL C base k).length = k := by simp [ldL]
theorem ldL_succ (C : List (BitVec 64)) (base k : Nat) : u64s (ldL C base k) ++ [.int .u64 (n64 (cl C (base + k)))] = u64s (ldL C base (k + 1)) := by unfold ldL u64s; rw [List.range_succ]; simp
/-- Behind k rounds: the arena, beside a row of the call's own. -/
def LdAt (w : World) (F : Nat → Prop) (r : Nat) (C : List (BitVec 64)) (E : List Ev) (base k : Nat) (v : Value) (w' : World) : Prop :=
  ∃ F1, Rf w' F1 r C (ldE base E k) ∧ (∀ j, F1 j → Grow F w w' j) ∧ Off F w w' ∧ w'.ownsRow w.heap.size 23 1 v k (u64s (ldL C base k)) ∧ ∀ g, v.ownBlock = some g → ¬ F1 g
theorem own_off {w w' : World} {F1 : Nat → Prop} {base size n : Nat} {e : TypeId} {v : Value} {xs : List Value} (h : w.ownsRow base e size v n xs) (o : Off F1 w w') (hx : ∀ g, v.ownBlock = some g → ¬ F1 g) : w'.ownsRow base e size v n xs := by
  refine ⟨h.1, ?_⟩
  rcases h.2 with hn | ⟨g, cap, cur, rfl, hb, hgg, rest⟩
  · exact .inl hn
  · refine .inr ⟨g, cap, cur, rfl, hb, ?_, rest⟩
    rw [o.block g (Array.getElem?_eq_some_iff.1 hgg).1 (hx g (by simp [Value.ownBlock]))]
    exact hgg
theorem cell_one_ld (w : World) (x : Value) (t : TypeId) : ∀ j u, [x][j]? = some u → (w.alloc (.cells #[x] t)).cell? ((⟨w.heap.size, 0, none⟩ : Addr).add j) = some u := by
  intro j u hu
  rw [add_addr, Nat.zero_add, World.cell?_alloc_new]
  simpa using hu
section
variable {w : World} {F : Nat → Prop} {r : Nat} {C : List (BitVec 64)} {E : List Ev}
set_option maxHeartbeats 1500000 in
theorem loaded_ok (h : Rf w F r C E) (base n : Nat) (h2 : base + n ≤ C.length) (hE : E.length + n ≤ 8388608) :
    Calls Try.prog 59 #[.pointer (some ⟨r, 0, none⟩), .int .i64 (base : Int), .int .i64 (n : Int)] w fun e w' => ∃ v, e = .returned v ∧ LdAt w F r C E base n v w' := by
  obtain ⟨i0, hi, hz0, hz1, hz2⟩ := info_parts Try.infoU
  have hn2 := h.n2
  have H0 : Hid (LdAt w F r C E base 0 (.slice none 0 0) w) := Lib.hid ⟨F, h, fun j hj => .inl hj, Off.refl _ _, World.ownsRow_nil _ _ _ _, fun g hg => by simp [Value.ownBlock] at hg⟩
  clear h
  go_enter Try.func59, Try.ntmps59
  go_wp2_with fail
  go_loopw [7, 8] (fun v i wr => ∃ k : Nat, k ≤ n ∧ i = .int .i64 k ∧ ∃ u, v = u ∧ LdAt w F r C E base k u wr) (fun _ i _ => n - (intOf i).toNat)
  case atStart => exact ⟨0, Nat.zero_le _, rfl, _, rfl, H0.out⟩
  case round =>
    obtain ⟨k, hk, rfl, u, rfl, hld⟩ := hrel
    have HLD := Lib.hid hld
    clear hld
    by_cases hlt : k < n
    · obtain ⟨F1, ha, hs, ho, hw, hx⟩ := HLD.out
      have hb1 : (base : Int) + (k : Int) ≤ 65536 := by omega
      have hb2 : 0 ≤ (base : Int) + (k : Int) := by omega
      have HL := Lib.hid (rload_ok ha ((base : Int) + (k : Int)) (by omega) (by omega) (by rw [length_ldE]; omega))
      have HF1 := Lib.hid hs
      have HO := Lib.hid ho
      have HW := Lib.hid hw
      have HX := Lib.hid hx
      have HA := Lib.hid ha
      clear ha hs ho hw hx
      go_wp2_with fail
      refine HL.out.mono ?_
      rintro e w1 ⟨rfl, ha1, ho1⟩
      rw [show ((base : Int) + (k : Int)).toNat = base + k by omega] at ha1 ⊢
      have O1 : Hid (Off F w w1) := Lib.hid ⟨ho1.os.trans HO.out.os, ho1.tape.trans HO.out.tape, ho1.output.trans HO.out.output, Nat.le_trans HO.out.size ho1.size, fun i hi hn => (ho1.block i (Nat.lt_of_lt_of_le hi HO.out.size) (fun hf1 => by rcases HF1.out i hf1 with h | h; exact hn h; omega)).trans (HO.out.block i hi hn)⟩
      have W1 := Lib.hid (own_off HW.out ho1 HX.out)
      have HX1 := Lib.hid (fun g hg (hf : Grow F1 wr w1 g) => hf.elim (HX.out g hg) (fun h => by have := (HW.out.lt g hg).2; omega))
      have HA1 := Lib.hid ha1
      have HG1 : Hid (∀ j, Grow F1 wr w1 j → Grow F w w1 j) := Lib.hid (fun j hj => Grow.join HO.out.size ho1.size j (hj.elim (fun h => .inl (HF1.out j h)) (fun h => .inr h)))
      clear ha1 ho1 HL HW HX HA HF1
      go_wp2_with (at_builtin; refine wpList_append_own_at _ rfl _ _ 22 rfl w.heap.size 23 i0 (.int .u64 0) 1 8 Try.underlying22 hi hz0 hz1 hz2 rfl (by decide) u7 k (u64s (ldL C base k)) rfl (W1.out.alloc _) ⟨w1.heap.size, 0, none⟩ 1 1 [.int .u64 (n64 (cl C (base + k)))] rfl rfl ?c1 ?c2 ?c3 ?c4 ?c5 ?_)
      case c1 => exact cell_one_ld _ _ _
      case c2 => intro u hu; simp at hu; subst hu; rfl
      case c3 => unfold maxLen; omega
      case c4 => omega
      case c5 => have := O1.out.size; simp; omega
      intro v' w2 hown' hgrow hnil hat2
      rw [ldL_succ] at hown'
      have HN := Lib.hid hown'
      have HG := Lib.hid hgrow
      have HT := Lib.hid hat2
      clear hown' hgrow hnil hat2
      have o12 : Off (fun j => u7.ownBlock = some j) w1 w2 := Off.grown (Off.alloc (Off.refl _ _) _) HG.out (fun j hj => .inl hj)
      have hsz := o12.size
      have HR : Hid (LdAt w F r C E base (k + 1) v' w2) := Lib.hid ⟨Grow F1 wr w1, HA1.out.keep o12 (fun j hj hg => HX1.out j hg hj), fun j hj => (HG1.out j hj).elim .inl (fun h => .inr ⟨h.1, Nat.lt_of_lt_of_le h.2 hsz⟩), Off.grown (Off.alloc O1.out _) HG.out (fun j hj => .inr (W1.out.lt j hj).1), HN.out, fun g hg hf => by
        have hl := HA1.out.lt g hf
        rcases HT.out with h | h
        · exact HX1.out g (h ▸ hg) hf
        · rw [h] at hg; injection hg with hg; omega⟩
      clear o12 hsz HG HN HT HG1 HA1 HX1 W1 O1
      go_wp2_with fail
      go_roundw
      case rel => exact ⟨k + 1, by omega, by go_num, _, rfl, HR.out⟩
      case measure => simp [intOf]; omega
    · obtain rfl : n = k := by omega
      go_wp2
      go_ret
      exact ⟨_, rfl, HLD.out⟩
end
end Go.Proofs.Ytgdklokoeeokbaa
