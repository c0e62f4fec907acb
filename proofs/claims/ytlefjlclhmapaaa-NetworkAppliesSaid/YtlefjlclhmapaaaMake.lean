/-
  dragnetlaw07.Arena: an arena and one of the specification with the same values.
-/
import Derived.Test.YtlefjlclhmapaaaLoad
import Derived.Test.YtlefjlclhmapaaaRef
namespace Go.Proofs.Ytlefjlclhmapaaa
open Go.RowKit
set_option maxRecDepth 100000

/-- The steps of so many stores. -/
def stores (n : Nat) : List Ev := (List.range n).map fun i => (2, i)
theorem length_stores (n : Nat) : (stores n).length = n := by simp [stores]
theorem stores_succ (n : Nat) : stores (n + 1) = stores n ++ [(2, n)] := by simp [stores, List.range_succ]
/-- At least one cell. -/
def pad (C : List (BitVec 64)) : List (BitVec 64) := if C = [] then [0] else C
/-- The cells behind k stores. -/
def fillTo (C : List (BitVec 64)) (k : Nat) : List (BitVec 64) := C.take k ++ List.replicate (max C.length 1 - k) 0
theorem fillTo_zero (C : List (BitVec 64)) : fillTo C 0 = List.replicate (max C.length 1) 0 := by simp [fillTo]
theorem fillTo_all (C : List (BitVec 64)) : fillTo C C.length = pad C := by
  unfold fillTo pad
  by_cases h : C = []
  · subst h; rfl
  · have : 0 < C.length := List.length_pos_iff.2 h
    rw [if_neg h, List.take_length, show max C.length 1 - C.length = 0 by omega]
    simp
theorem length_fillTo (C : List (BitVec 64)) (k : Nat) (h : k ≤ C.length) : (fillTo C k).length = max C.length 1 := by
  simp [fillTo]; omega
theorem fillTo_succ (C : List (BitVec 64)) (k : Nat) (h : k < C.length) : (fillTo C k).set k (cl C k) = fillTo C (k + 1) := by
  unfold fillTo cl
  have e1 : max C.length 1 - k = (max C.length 1 - (k + 1)) + 1 := by omega
  rw [e1, List.replicate_succ, List.set_append_right _ _ (by simp; omega)]
  have e2 : k - (C.take k).length = 0 := by simp; omega
  rw [e2, List.set_cons_zero, List.take_succ_eq_append_getElem h, List.append_assoc]
  simp [List.getD, h]

def Made (w : World) (C : List (BitVec 64)) (e : Ending) (w' : World) : Prop :=
  ∃ p r F R, e = .returned (.tuple #[.pointer (some ⟨p, 0, none⟩), .pointer (some ⟨r, 0, none⟩)]) ∧ Ar w' F p (pad C) (stores C.length) ∧ Rf w' R r (pad C) (stores C.length) ∧ Off Nob w w' ∧
    (∀ k, F k → w.heap.size ≤ k) ∧ (∀ k, R k → w.heap.size ≤ k) ∧ ∀ k, F k → ¬ R k

def MadeRel (w : World) (C : List (BitVec 64)) (p r k : Nat) (wr : World) : Prop :=
  ∃ F R, Ar wr F p (fillTo C k) (stores k) ∧ Rf wr R r (fillTo C k) (stores k) ∧ Off Nob w wr ∧ (∀ k, F k → w.heap.size ≤ k) ∧ (∀ k, R k → w.heap.size ≤ k) ∧ ∀ k, F k → ¬ R k

theorem MadeRel.start {w w1 w2 : World} {C : List (BitVec 64)} {p r : Nat} {F R : Nat → Prop} (h1 : Ar w1 F p (List.replicate (max C.length 1) 0) []) (o1 : Off Nob w w1) (f1 : ∀ k, F k → w.heap.size ≤ k)
    (h2 : Rf w2 R r (List.replicate (max C.length 1) 0) []) (o2 : Off Nob w1 w2) (f2 : ∀ k, R k → w1.heap.size ≤ k) : MadeRel w C p r 0 w2 := by
  refine ⟨F, R, by rw [fillTo_zero]; exact h1.keep o2 (fun _ _ h => h), by rw [fillTo_zero]; exact h2, o1.also o2, f1, fun k hk => Nat.le_trans o1.size (f2 k hk), fun k hk hr => ?_⟩
  have := h1.lt k hk
  have := f2 k hr
  omega
theorem MadeRel.done {w wr : World} {C : List (BitVec 64)} {p r : Nat} (h : MadeRel w C p r C.length wr) : Made w C (.returned (.tuple #[.pointer (some ⟨p, 0, none⟩), .pointer (some ⟨r, 0, none⟩)])) wr := by
  obtain ⟨F, R, h1, h2, h3⟩ := h
  rw [fillTo_all] at h1 h2
  exact ⟨p, r, F, R, rfl, h1, h2, h3⟩

set_option maxHeartbeats 1000000 in
theorem arena_some (w : World) (b o n c : Nat) (C : List (BitVec 64)) (hn : C.length = n) (hn0 : 0 < n) (hn1 : n ≤ 65536) (hb : b < w.heap.size)
    (hc : ∀ j u, (u64s C)[j]? = some u → w.cell? ⟨b, o + j, none⟩ = some u) :
    Calls Try.prog 32 #[.slice (some ⟨b, o, none⟩) n c] w (Made w C) := by
  have HC := Lib.hid hc
  clear hc
  have HL := Lib.hid hn
  clear hn
  have hmx : max (n : Int) 1 = n := by omega
  go_enter Try.func32, Try.ntmps32
  go_wp2_with fail
  refine (new_ok n w (by omega) hn1).mono ?_
  rintro e w1 ⟨p, rfl, F, h1, o1, f1⟩
  have H1 := Lib.hid h1
  have O1 := Lib.hid o1
  have F1 := Lib.hid f1
  clear h1 o1 f1
  go_wp2_with fail
  refine (rnew_ok n w1 (by omega) hn1).mono ?_
  rintro e w2 ⟨r, rfl, R, h2, o2, f2⟩
  have hst : Hid (MadeRel w C p r 0 w2) := by
    have hm : max C.length 1 = n := by have := HL.out; omega
    exact MadeRel.start (by rw [hm]; exact H1.out) O1.out F1.out (by rw [hm]; exact h2) o2 f2
  clear h2 o2 f2 H1 O1 F1
  go_wp2_with fail
  go_loopw [9] (fun i wr => ∃ k : Nat, k ≤ n ∧ i = .int .i64 k ∧ MadeRel w C p r k wr) (fun i _ => n - (intOf i).toNat)
  case atStart => exact ⟨0, Nat.zero_le _, rfl, hst.out⟩
  case round =>
    obtain ⟨k, hk, rfl, hrel⟩ := hrel
    by_cases hlt : k < n
    · obtain ⟨F, R, ha, hr, ho, hf, hg, hd⟩ := hrel
      have hcell : wr.cell? ⟨b, o + k, none⟩ = some (.int .u64 (n64 (cl C k))) := by
        rw [World.cell?_of_block (a := ⟨b, o + k, none⟩) (ho.block b hb (fun h => h))]
        exact HC.out k _ (getElem_u64s _ _ (by have := HL.out; omega))
      have hkl : k < (fillTo C k).length := by rw [length_fillTo _ _ (by have := HL.out; omega)]; have := HL.out; omega
      have hS := Lib.hid (store_ok ha (k : Int) (cl C k) (by omega) (by omega) (by rw [length_stores]; omega))
      have hR := Lib.hid hr
      have hO := Lib.hid ho
      have hF := Lib.hid hf
      have hG := Lib.hid hg
      have hD := Lib.hid hd
      clear ha hr ho hf hg hd
      go_wp2_with fail
      refine hS.out.mono ?_
      rintro e w3 ⟨rfl, h3⟩
      have hcell3 : w3.cell? ⟨b, o + k, none⟩ = some (.int .u64 (n64 (cl C k))) := by
        rw [World.cell?_of_block (a := ⟨b, o + k, none⟩) (h3.2.block b (Nat.lt_of_lt_of_le hb hO.out.size) (fun h => by have := hF.out b h; omega))]
        exact hcell
      have hr3 := hR.out.keep h3.2 (fun k hk hn => hD.out k hn hk)
      have hT := Lib.hid (rstore_ok hr3 (k : Int) (cl C k) (by omega) (by omega) (by rw [length_stores]; omega))
      have H3 := Lib.hid h3
      clear h3 hr3 hcell
      go_wp2_with fail
      refine hT.out.mono ?_
      rintro e w4 ⟨rfl, h4⟩
      have hnew : Hid (MadeRel w C p r (k + 1) w4) := by
        obtain ⟨a3, o3⟩ := H3.out
        obtain ⟨r4, o4⟩ := h4
        rw [Int.toNat_natCast, fillTo_succ _ _ (by have := HL.out; omega), ← stores_succ] at a3 r4
        have hd3 : ∀ k, R k → ¬ Grow F wr w3 k := Grow.apart (fun k hk hn => hD.out k hn hk) hR.out.lt
        refine ⟨_, _, a3.keep o4 (fun k hk hn => hd3 k hn hk), r4, (hO.out.own o3 hF.out).own o4 hG.out, Grow.from_ hF.out hO.out.size, Grow.from_ hG.out (Nat.le_trans hO.out.size o3.size), ?_⟩
        exact Grow.apart (fun k hk hn => hd3 k hn hk) a3.lt
      clear h4 H3 hcell3 hT hS hR hO hF hG hD
      go_wp2_with fail
      go_roundw
      case rel => exact ⟨k + 1, by omega, by go_num, hnew.out⟩
      case measure => simp [intOf]; omega
    · have e : k = n := by omega
      have HR := Lib.hid hrel
      clear hrel
      go_wp2_with fail
      go_ret2
      have h5 := HR.out
      rw [e, ← HL.out] at h5
      exact h5.done
set_option maxHeartbeats 1000000 in
theorem arena_none (w : World) (A : Option Addr) (c : Nat) :
    Calls Try.prog 32 #[.slice A 0 c] w (Made w []) := by
  go_enter Try.func32, Try.ntmps32
  go_wp2_with fail
  refine (new_ok 1 w (by omega) (by omega)).mono ?_
  rintro e w1 ⟨p, rfl, F, h1, o1, f1⟩
  have H1 := Lib.hid h1
  have O1 := Lib.hid o1
  have F1 := Lib.hid f1
  clear h1 o1 f1
  go_wp2_with fail
  refine (rnew_ok 1 w1 (by omega) (by omega)).mono ?_
  rintro e w2 ⟨r, rfl, R, h2, o2, f2⟩
  have hst : Hid (MadeRel w [] p r 0 w2) := MadeRel.start H1.out O1.out F1.out h2 o2 f2
  clear h2 o2 f2 H1 O1 F1
  go_wp2_with fail
  refine wp_loop_rounds 1 ?_
  rw [rounds_succ]
  go_wp2_with fail
  go_ret2
  exact hst.out.done
/-- An arena and one of the specification, with the values of a list. -/
theorem arena_any {w : World} {G : Nat → Prop} {v : Value} {n : Nat} {C : List (BitVec 64)} (h : Rd w G 1 v n (u64s C)) (hn : C.length ≤ 65536) :
    Calls Try.prog 32 #[v] w (Made w C) := by
  obtain ⟨A, c, rfl, _, hl, hc⟩ := h
  rw [length_u64s, Nat.mul_one] at hl
  rcases Nat.eq_zero_or_pos n with h0 | h0
  · subst h0
    have : C = [] := List.eq_nil_of_length_eq_zero hl
    subst this
    exact arena_none w A c
  · obtain ⟨b, o, rfl, _, hb, hx⟩ := hc h0
    exact arena_some w b o n c C hl h0 (by omega) hb hx
theorem Made.have_ {w w' : World} {C : List (BitVec 64)} {e : Ending} (h : Made w C e w') : ∃ p r, e = .returned (.tuple #[.pointer (some ⟨p, 0, none⟩), .pointer (some ⟨r, 0, none⟩)]) ∧ Have w w' p (pad C) (stores C.length) := by
  obtain ⟨p, r, F, R, he, h1, _, h3, h4, _, _⟩ := h
  exact ⟨p, r, he, F, h1, h3, h4⟩
/-- A slice that was written out. -/
theorem Rd.lit (w : World) (t : TypeId) (C : List (BitVec 64)) (h : C.length ≤ maxLen) : Rd (w.alloc (.cells (u64s C).toArray t)) (fun k => k = w.heap.size) 1 (.slice (some ⟨w.heap.size, 0, none⟩) C.length C.length) C.length (u64s C) :=
  ⟨_, _, rfl, h, by rw [length_u64s, Nat.mul_one], fun _ => ⟨_, 0, rfl, rfl, by simp, fun j u hu => by rw [Nat.zero_add, World.cell?_alloc_new]; simpa using hu⟩⟩
end Go.Proofs.Ytlefjlclhmapaaa
