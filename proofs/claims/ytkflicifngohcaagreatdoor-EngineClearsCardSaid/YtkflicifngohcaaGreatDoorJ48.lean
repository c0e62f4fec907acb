/-
  What the walks of EngineClears and EngineReads share: two arenas, with contracts that name more; large; Row; slices of cells.
-/
import Derived.Test.YtkflicifngohcaaGreatDoorJ42
import Derived.Test.YtkflicifngohcaaGreatDoorJ44
import Derived.Test.YtkflicifngohcaaGreatDoorJ47
import Derived.Test.YtkflicifngohcaaGreatDoorJ10
import Derived.Deep.RegionHeld3
namespace Go.Proofs.YtkflicifngohcaaGreatDoor
open Go.RowKit
set_option linter.unusedVariables false
set_option linter.unusedSimpArgs false
set_option maxRecDepth 100000
section
variable {w0 w w' : World} {bs : Bks} {p q : Nat} {C C' : List (BitVec 64)} {E E' : List Ev}
theorem Twin.firstQ (h : Twin w0 w bs p q C E C' E') {P : Program} {f : FuncId} {xs : Array Value} {Q : Ending → World → Prop} {C2 : List (BitVec 64)} {E2 : List Ev}
    (hc : ∀ F, Ar w F p C E → (∀ k, F k → w0.heap.size ≤ k) → Calls P f xs w fun e w' => Q e w' ∧ ArTo w F p C2 E2 w') : Calls P f xs w fun e w' => Q e w' ∧ Twin w0 w' bs p q C2 E2 C' E' := by
  obtain ⟨F, R, ha, hr, ho, hf, hg, hd, hb⟩ := h
  refine (hc F ha hf).mono fun e w' ⟨he, a3, o3⟩ => ⟨he, ?_⟩
  have hd3 : ∀ k, R k → ¬ Grow F w w' k := Grow.apart (fun k hk hn => hd k hn hk) hr.lt
  refine ⟨_, _, a3, hr.keep o3 (fun k hk hn => hd k hn hk), ho.own o3 hf, Grow.from_ hf ho.size, hg, fun k hk hn => hd3 k hn hk, fun x hx => ?_⟩
  obtain ⟨g1, g2, g3⟩ := hb x hx
  exact ⟨g1.to (o3.block _ g1.lt g2), fun h => h.elim g2 (fun h => by have := g1.lt; omega), g3⟩
theorem Twin.secondQ (h : Twin w0 w bs p q C E C' E') {P : Program} {f : FuncId} {xs : Array Value} {Q : Ending → World → Prop} {C2 : List (BitVec 64)} {E2 : List Ev}
    (hc : ∀ F, Ar w F q C' E' → (∀ k, F k → w0.heap.size ≤ k) → Calls P f xs w fun e w' => Q e w' ∧ ArTo w F q C2 E2 w') : Calls P f xs w fun e w' => Q e w' ∧ Twin w0 w' bs p q C E C2 E2 :=
  (h.swap.firstQ hc).mono fun e w' ⟨h1, h2⟩ => ⟨h1, h2.swap⟩
theorem Twin.ofTwo {F R : Nat → Prop} (ha : Ar w F p C E) (ho : Off Nob w0 w) (hf : ∀ k, F k → w0.heap.size ≤ k) (hr : Ar w' R q C' E') (o : Off Nob w w') (hR : ∀ k, R k → w.heap.size ≤ k) : Twin w0 w' [] p q C E C' E' :=
  ⟨F, R, ha.keep o (fun _ _ hn => hn), hr, ho.also o, hf, fun k hk => Nat.le_trans ho.size (hR k hk), fun k hk hr2 => by have := ha.lt k hk; have := hR k hr2; omega, fun x hx => by cases hx⟩
end
theorem u64s_words (L : List (BitVec 64)) : u64s L = wordsV (L.map BitVec.toNat) := by
  unfold u64s wordsV
  rw [List.map_map]
  rfl
/-- A part of a row of words, read. -/
theorem Rd.from_ {w : World} {F : Nat → Prop} {b o n c : Nat} {L : List Nat} (h : Rd w F 1 (.slice (some ⟨b, o, none⟩) n c) n (wordsV L)) (k : Nat) (hk : k ≤ n) (c2 : Nat) : Rd w (fun _ => True) 1 (.slice (some ⟨b, o + k, none⟩) (n - k) c2) (L.drop k).length (wordsV (L.drop k)) := by
  obtain ⟨A, c', he, hm, hl, hc⟩ := h
  cases he
  have hl2 : L.length = n := by unfold wordsV at hl; simpa using hl
  have hd : (L.drop k).length = n - k := by rw [List.length_drop, hl2]
  rw [hd]
  refine ⟨_, _, rfl, by omega, by unfold wordsV; rw [List.length_map, hd]; omega, fun hn => ?_⟩
  obtain ⟨b2, o2, he, _, hb, hx⟩ := hc (by omega)
  cases he
  refine ⟨b, o + k, rfl, trivial, hb, fun j u hu => ?_⟩
  rw [Nat.add_assoc]
  refine hx (k + j) u ?_
  unfold wordsV at hu ⊢
  rw [List.map_drop, List.getElem?_drop] at hu
  exact hu
theorem bytes_cells {w : World} {v : Value} {L : List Nat} (hv : Rd w (fun _ => True) 1 v L.length (bytesV L)) : ∃ A c, v = .slice A L.length c ∧ ∀ W', Off Nob w W' → ∀ k, k < L.length → ∃ b o, A = some ⟨b, o, none⟩ ∧ W'.cell? ⟨b, o + k, none⟩ = some (.int .u8 ((L.getD k 0 : Nat) : Int)) := by
  obtain ⟨A, c, rfl, _⟩ := hv.form
  refine ⟨A, c, rfl, fun W' o k hk => ?_⟩
  obtain ⟨A2, c2, he2, _, _, hr⟩ := hv.keepT o
  cases he2
  obtain ⟨b, o, rfl, _, _, hcell⟩ := hr (by omega)
  refine ⟨b, o, rfl, hcell k _ ?_⟩
  unfold bytesV
  rw [List.getElem?_map, List.getElem?_eq_getElem hk, List.getD_eq_getElem?_getD, List.getElem?_eq_getElem hk]
  rfl
theorem getN_of {L : List Nat} {q : Nat} (h : q < L.length) : L.getD q 0 ∈ L := by
  rw [List.getD_eq_getElem?_getD, List.getElem?_eq_getElem h]
  exact List.getElem_mem h
theorem n64_ofNat (x : Nat) (h : x < 256) : n64 (BitVec.ofNat 64 x) = (x : Int) := by
  unfold n64
  rw [BitVec.toNat_ofNat, Nat.mod_eq_of_lt (by omega)]
theorem own_some {w : World} {base n : Nat} {t : TypeId} {v : Value} {L : List Value} (h : w.ownsRow base t 1 v n L) (hn : 0 < n) : ∃ g cap, v = .slice (some ⟨g, 0, none⟩) n cap ∧ n ≤ cap ∧ cap ≤ maxLen := by
  rcases h.2 with ⟨rfl, h0⟩ | ⟨g, cap, cur, rfl, _, _, h1, h2, _⟩
  · omega
  · exact ⟨g, cap, rfl, h1, h2⟩
theorem clC_len (l : LayN) (C : List (BitVec 64)) : (clC l C).length = C.length := by unfold clC; rw [setL_length]
theorem zeros_words (a : Nat) : u64s (List.replicate a (0 : BitVec 64)) = wordsV (List.replicate a 0) := by
  rw [u64s_words, List.map_replicate]
  rfl
def onesB : BitVec 64 := 18446744073709551615#64
theorem n64_onesB : n64 onesB = 18446744073709551615 := by decide
theorem isM_onesB : isM onesB = true := by decide
theorem rowN_seq (a b : Nat) : (rowN a b).Seq := by
  refine ⟨rfl, rfl, ?_, ?_, ?_⟩
  · show 0 + 256 * a ≤ 256 * a + a + b * a
    omega
  · show 256 * a + a ≤ 256 * a + a + b * a
    omega
  · show 256 * a + a + b * a ≤ 256 * a + a + b * a
    omega
theorem row_okN (a b : Nat) (a1 : 1 ≤ a) (a4 : a ≤ 4) (b1 : 1 ≤ b) (b16 : b ≤ 16) (w : World) : Calls Tryz.prog 13 #[.int .i64 a, .int .i64 b, .int .i64 0] w fun e w' => e = .returned (.tuple #[.agg #[.int .i64 (rowN a b).a, .int .i64 (rowN a b).b, .int .i64 (rowN a b).t, .int .i64 (rowN a b).s, .int .i64 (rowN a b).f, .int .i64 (rowN a b).st, .int .i64 (rowN a b).n, .int .i64 (rowN a b).h], .int .i64 (rowZ a b)]) ∧ Off Nob w w' := by
  refine (rrow a b 0 (by omega) (by omega) (by omega) (by omega) (by omega) (by omega) w).mono ?_
  rintro e w' ⟨rfl, o⟩
  refine ⟨?_, o⟩
  simp [layV, rowN, rowZ]
set_option maxHeartbeats 1000000 in
theorem large_is (A0 A1 A2 A3 : Option Addr) (n0 n1 n2 n3 k0 k1 k2 k3 : Nat) (wd : Int) (w : World) : Calls Tryz.prog 10 #[.agg #[.slice A0 n0 k0, .int .i64 wd, .slice A1 n1 k1, .slice A2 n2 k2, .slice A3 n3 k3]] w fun e w' => (∃ q, e = .returned (.bool q) ∧ (q = false → n0 ≤ 20 ∧ n1 ≤ 1100 ∧ n2 ≤ 10 ∧ n3 ≤ 100)) ∧ Off Nob w w' := by
  have X0 : Hid (Off Nob w (w.alloc (.cells #[.slice A0 n0 k0, .int .i64 wd, .slice A1 n1 k1, .slice A2 n2 k2, .slice A3 n3 k3] 25)) ∧ Blk (w.alloc (.cells #[.slice A0 n0 k0, .int .i64 wd, .slice A1 n1 k1, .slice A2 n2 k2, .slice A3 n3 k3] 25)) w.heap.size 25 #[.slice A0 n0 k0, .int .i64 wd, .slice A1 n1 k1, .slice A2 n2 k2, .slice A3 n3 k3]) := Lib.hid ⟨(Off.refl _ _).alloc _, Blk.new _ _ _⟩
  have s0 := X0.out.2.cell 0
  have s2 := X0.out.2.cell 2
  have s3 := X0.out.2.cell 3
  have s4 := X0.out.2.cell 4
  by_cases h0 : (20 : Int) < (n0 : Int)
  · have d0 := decide_eq_true h0
    clear h0
    go_enter Tryz.func10, Tryz.ntmps10
    go_wp2_with fail
    go_ret
    exact ⟨⟨_, rfl, fun h => by cases h⟩, X0.out.1⟩
  · have d0 := decide_eq_false h0
    have g0 : Hid (n0 ≤ 20) := Lib.hid (by omega)
    clear h0
    by_cases h1 : (1100 : Int) < (n1 : Int)
    · have d1 := decide_eq_true h1
      clear h1
      go_enter Tryz.func10, Tryz.ntmps10
      go_wp2_with fail
      go_ret
      exact ⟨⟨_, rfl, fun h => by cases h⟩, X0.out.1⟩
    · have d1 := decide_eq_false h1
      have g1 : Hid (n1 ≤ 1100) := Lib.hid (by omega)
      clear h1
      by_cases h2 : (10 : Int) < (n2 : Int)
      · have d2 := decide_eq_true h2
        clear h2
        go_enter Tryz.func10, Tryz.ntmps10
        go_wp2_with fail
        go_ret
        exact ⟨⟨_, rfl, fun h => by cases h⟩, X0.out.1⟩
      · have d2 := decide_eq_false h2
        have g2 : Hid (n2 ≤ 10) := Lib.hid (by omega)
        clear h2
        by_cases h3 : (100 : Int) < (n3 : Int)
        · have d3 := decide_eq_true h3
          clear h3
          go_enter Tryz.func10, Tryz.ntmps10
          go_wp2_with fail
          go_ret
          exact ⟨⟨_, rfl, fun h => by cases h⟩, X0.out.1⟩
        · have d3 := decide_eq_false h3
          have g3 : Hid (n3 ≤ 100) := Lib.hid (by omega)
          clear h3
          go_enter Tryz.func10, Tryz.ntmps10
          go_wp2_with fail
          go_ret
          exact ⟨⟨_, rfl, fun _ => ⟨g0.out, g1.out, g2.out, g3.out⟩⟩, X0.out.1⟩
end Go.Proofs.YtkflicifngohcaaGreatDoor
