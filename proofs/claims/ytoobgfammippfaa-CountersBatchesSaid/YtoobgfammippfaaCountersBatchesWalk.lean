/-
  The walk of dragnetlaw10.CountersBatches.
-/
import Derived.Test.YtoobgfammippfaaCountersManyWalk
import Derived.Test.YtoobgfammippfaaTwin
import Derived.Deep.QuietTactic
import Derived.BigQuiet
import Derived.Deep.RegionHeld3
namespace Go.Proofs.Ytoobgfammippfaa
open Go.RowKit
set_option linter.unusedVariables false
set_option maxRecDepth 100000
/-- The sum of the first k numbers; of the last k. -/
def nsum (l : List (BitVec 64)) (k : Nat) : Nat := ((l.take k).map BitVec.toNat).sum
theorem nsum_zero (l : List (BitVec 64)) : nsum l 0 = 0 := by simp [nsum]
theorem nsum_succ (l : List (BitVec 64)) (k : Nat) (h : k < l.length) : nsum l (k + 1) = nsum l k + (cl l k).toNat := by
  unfold nsum cl
  rw [List.take_succ_eq_append_getElem h, List.map_append, List.sum_append]
  simp [List.getD, h]
theorem sum_rev (l : List Nat) : l.reverse.sum = l.sum := by
  induction l with
  | nil => rfl
  | cons a l ih => rw [List.reverse_cons, List.sum_append, ih]; simp; omega
theorem nsum_rev (l : List (BitVec 64)) : nsum l.reverse l.length = nsum l l.length := by
  unfold nsum
  rw [List.take_of_length_le (by simp), List.take_of_length_le (Nat.le_refl _), List.map_reverse, sum_rev]
theorem cl_rev (l : List (BitVec 64)) (k : Nat) (h : k < l.length) : cl l.reverse k = cl l (l.length - 1 - k) := by
  unfold cl
  simp only [List.getD, List.getElem?_reverse h]
/-- A number, as far as a greatest number lets it be seen. -/
def Seen (a : BitVec 64) (most : BitVec 64) (s : Nat) : Prop := min a.toNat most.toNat = min s most.toNat
theorem Seen.add {a most : BitVec 64} {s : Nat} (h : Seen a most s) (v : BitVec 64) : Seen (sumM a v most) most (s + v.toNat) := by
  unfold Seen at h ⊢
  rw [sumM_toNat]
  omega
theorem Seen.fin {a most : BitVec 64} {s : Nat} (h : Seen a most s) : sumM a 0#64 most = capM s most := by
  unfold Seen at h
  apply BitVec.eq_of_toNat_eq
  rw [sumM_toNat, capM_toNat]
  show min (a.toNat + 0) most.toNat = _
  omega
theorem cap_sum (l : List (BitVec 64)) (k : Nat) (most v : BitVec 64) : sumM (capM k most) v most = capM (k + v.toNat) most := by
  apply BitVec.eq_of_toNat_eq
  rw [sumM_toNat, capM_toNat, capM_toNat]
  omega
theorem start_cap (start most : BitVec 64) (s : Nat) : sumM start (capM s most) most = capM (start.toNat + s) most := by
  apply BitVec.eq_of_toNat_eq
  rw [sumM_toNat, capM_toNat, capM_toNat]
  omega
/-- The arena behind k rounds. -/
def BatRel (w : World) (p : Nat) (start most : BitVec 64) (l : List (BitVec 64)) (k : Nat) (wr : World) : Prop :=
  ∃ (a b : BitVec 64) (E : List Ev), E.length = 3 + 4 * k ∧ Seen a most (start.toNat + nsum l k) ∧ Seen b most (start.toNat + nsum l.reverse k) ∧ Have w wr p [a, b, start] E
theorem bat_a {w0 w : World} {p : Nat} {a b c v most : BitVec 64} {E : List Ev} (h : Have w0 w p [a, b, c] E) (he : E.length + 2 ≤ 8388608) :
    Calls Try.prog 23 #[.pointer (some ⟨p, 0, none⟩), .int .i64 0, .int .u64 (n64 v), .int .u64 (n64 most)] w fun e w' => e = .returned (.int .i64 0) ∧ Have w0 w' p [sumM a v most, b, c] (E ++ [(1, 0), (2, 0)]) :=
  plus_at h 0 v most a 0 (chRes_ok _ E 0 _ (by simp) he)
theorem bat_b {w0 w : World} {p : Nat} {a b c v most : BitVec 64} {E : List Ev} (h : Have w0 w p [a, b, c] E) (he : E.length + 2 ≤ 8388608) :
    Calls Try.prog 23 #[.pointer (some ⟨p, 0, none⟩), .int .i64 1, .int .u64 (n64 v), .int .u64 (n64 most)] w fun e w' => e = .returned (.int .i64 0) ∧ Have w0 w' p [a, sumM b v most, c] (E ++ [(1, 1), (2, 1)]) :=
  plus_at h 1 v most b 0 (chRes_ok _ E 1 _ (by simp) he)
theorem bat_c {w0 w : World} {p : Nat} {a b c v most : BitVec 64} {E : List Ev} (h : Have w0 w p [a, b, c] E) (he : E.length + 2 ≤ 8388608) :
    Calls Try.prog 23 #[.pointer (some ⟨p, 0, none⟩), .int .i64 2, .int .u64 (n64 v), .int .u64 (n64 most)] w fun e w' => e = .returned (.int .i64 0) ∧ Have w0 w' p [a, b, sumM c v most] (E ++ [(1, 2), (2, 2)]) :=
  plus_at h 2 v most c 0 (chRes_ok _ E 2 _ (by simp) he)
theorem three_lit (w1 : World) (start : BitVec 64) : Calls Try.prog 17 #[.slice (some ⟨w1.heap.size, 0, none⟩) 3 3] (w1.alloc (.cells #[.int .u64 (n64 start), .int .u64 (n64 start), .int .u64 (n64 start)] 22)) fun e w' => ∃ p r, e = .returned (.tuple #[.pointer (some ⟨p, 0, none⟩), .pointer (some ⟨r, 0, none⟩)]) ∧ Have w1 w' p [start, start, start] [(2, 0), (2, 1), (2, 2)] := by
  refine (arena_any (C := [start, start, start]) (Rd.lit w1 22 [start, start, start] (by unfold maxLen; simp)) (by simp)).mono fun e w' h => ?_
  obtain ⟨p, r, he, F, h1, h2, h3⟩ := h.have_
  exact ⟨p, r, he, F, h1, (Off.alloc (Off.refl _ _) _).also h2, fun k hk => by have := h3 k hk; simp at this; omega⟩
theorem Have.base {w0 w1 w : World} {p : Nat} {C : List (BitVec 64)} {E : List Ev} (h : Have w1 w p C E) (o : Off Nob w0 w1) : Have w0 w p C E := by
  obtain ⟨F, h1, h2, h3⟩ := h
  exact ⟨F, h1, o.also h2, fun k hk => Nat.le_trans o.size (h3 k hk)⟩
/-- The cells of an arena, as a new slice. -/
theorem cells_new {w0 w : World} {p : Nat} {C : List (BitVec 64)} {E : List Ev} (h : Have w0 w p C E) (hn : 0 < C.length) :
    Calls Try.prog 20 #[.pointer (some ⟨p, 0, none⟩)] w fun e w' => ∃ b c cur, e = .returned (.slice (some ⟨b, 0, none⟩) C.length c) ∧ One w0 w' [(b, 22, cur)] p C E ∧ ∀ j, j < C.length → cur[j]? = some (.int .u64 (n64 (cl C j))) := by
  obtain ⟨F, h1, h2, h3⟩ := h
  refine (cells_ok h1).mono fun e w' ⟨v, he, hv, ho⟩ => ?_
  rcases hv.2 with ⟨rfl, h0⟩ | ⟨g, cap, cur, rfl, hb, hg, _⟩
  · omega
  · refine ⟨g, cap, cur, he, ⟨F, h1.keep ho (fun _ _ hn => hn), h2.also ho, h3, fun x hx => ?_⟩, fun j hj => ?_⟩
    · rw [List.mem_singleton] at hx
      subst hx
      exact ⟨hg, fun hf => by have := h1.lt _ hf; omega⟩
    · have hc := hv.cells (g := g) rfl j _ (getElem_u64s C j hj)
      rw [add_addr, Nat.zero_add] at hc
      have hB : Blk w' g 22 cur := hg
      rw [hB.cell] at hc
      exact hc
/-- The three cells. -/
def Three (w : World) (b : Nat) (V : BitVec 64) : Prop := w.cell? ⟨b, 0, none⟩ = some (.int .u64 (n64 V)) ∧ w.cell? ⟨b, 1, none⟩ = some (.int .u64 (n64 V)) ∧ w.cell? ⟨b, 2, none⟩ = some (.int .u64 (n64 V))
theorem Blk.three {w : World} {b : Nat} {t : TypeId} {cur : Array Value} {V : BitVec 64} (h : Blk w b t cur) (hc : ∀ j, j < 3 → cur[j]? = some (.int .u64 (n64 V))) : w.cell? ⟨b, 0, none⟩ = some (.int .u64 (n64 V)) ∧ w.cell? ⟨b, 1, none⟩ = some (.int .u64 (n64 V)) ∧ w.cell? ⟨b, 2, none⟩ = some (.int .u64 (n64 V)) :=
  ⟨(h.cell 0).trans (hc 0 (by decide)), (h.cell 1).trans (hc 1 (by decide)), (h.cell 2).trans (hc 2 (by decide))⟩
theorem One.three {w0 w : World} {b : Nat} {t : TypeId} {cur : Array Value} {V : BitVec 64} {p : Nat} {C : List (BitVec 64)} {E : List Ev} (h : One w0 w [(b, t, cur)] p C E) (hc : ∀ j, j < 3 → cur[j]? = some (.int .u64 (n64 V))) : w.cell? ⟨b, 0, none⟩ = some (.int .u64 (n64 V)) ∧ w.cell? ⟨b, 1, none⟩ = some (.int .u64 (n64 V)) ∧ w.cell? ⟨b, 2, none⟩ = some (.int .u64 (n64 V)) :=
  (h.blk (List.mem_cons_self ..)).three hc
theorem One.threeA {w0 w : World} {b : Nat} {t : TypeId} {cur : Array Value} {V : BitVec 64} {p : Nat} {C : List (BitVec 64)} {E : List Ev} (h : One w0 w [(b, t, cur)] p C E) (hc : ∀ j, j < 3 → cur[j]? = some (.int .u64 (n64 V))) (o : Obj) : (w.alloc o).cell? ⟨b, 0, none⟩ = some (.int .u64 (n64 V)) ∧ (w.alloc o).cell? ⟨b, 1, none⟩ = some (.int .u64 (n64 V)) ∧ (w.alloc o).cell? ⟨b, 2, none⟩ = some (.int .u64 (n64 V)) :=
  ((h.blk (List.mem_cons_self ..)).alloc o).three hc
theorem One.threeD {w0 w : World} {b : Nat} {t : TypeId} {cur : Array Value} {V : BitVec 64} {p : Nat} {C : List (BitVec 64)} {E : List Ev} (h : One w0 w [(b, t, cur)] p C E) (hc : ∀ j, j < 3 → cur[j]? = some (.int .u64 (n64 V))) (o : Obj) : (w.alloc o).drew.cell? ⟨b, 0, none⟩ = some (.int .u64 (n64 V)) ∧ (w.alloc o).drew.cell? ⟨b, 1, none⟩ = some (.int .u64 (n64 V)) ∧ (w.alloc o).drew.cell? ⟨b, 2, none⟩ = some (.int .u64 (n64 V)) :=
  (((h.blk (List.mem_cons_self ..)).alloc o).to rfl).three hc
theorem One.threeE {w0 w : World} {b : Nat} {t : TypeId} {cur : Array Value} {V : BitVec 64} {p : Nat} {C : List (BitVec 64)} {E : List Ev} (h : One w0 w [(b, t, cur)] p C E) (hc : ∀ j, j < 3 → cur[j]? = some (.int .u64 (n64 V))) : w.drew.cell? ⟨b, 0, none⟩ = some (.int .u64 (n64 V)) ∧ w.drew.cell? ⟨b, 1, none⟩ = some (.int .u64 (n64 V)) ∧ w.drew.cell? ⟨b, 2, none⟩ = some (.int .u64 (n64 V)) :=
  ((h.blk (List.mem_cons_self ..)).to rfl).three hc
theorem cells_of {w0 w : World} {bs : Bks} {p : Nat} {C : List (BitVec 64)} {E : List Ev} (h : One w0 w bs p C E) :
    Calls Try.prog 20 #[.pointer (some ⟨p, 0, none⟩)] w fun e w' => ∃ v, e = .returned v ∧ Off Nob w w' ∧ Rd w' (fun k => w.heap.size ≤ k ∧ k < w'.heap.size) 1 v C.length (u64s C) := by
  obtain ⟨F, hF⟩ := h.ar
  exact (cells_ok hF).mono fun e w' ⟨v, he, hv, ho⟩ => ⟨v, he, ho, NewU.rd hv⟩
/-- The slice that was written out behind the cells, or ahead of them. -/
theorem same_lit1 {w : World} {F : Nat → Prop} {v : Value} {n : Nat} {V : BitVec 64} (h : Rd w F 1 v n (u64s [0#64, V, V])) :
    Calls Try.prog 19 #[v, .slice (some ⟨w.heap.size, 0, none⟩) 3 3] (w.alloc (.cells #[.int .u64 0, .int .u64 (n64 V), .int .u64 (n64 V)] 22)) (BoolNew true (w.alloc (.cells #[.int .u64 0, .int .u64 (n64 V), .int .u64 (n64 V)] 22))) := by
  have := sameCells_any (h.keep (Off.alloc (Off.refl Nob w) (.cells #[.int .u64 0, .int .u64 (n64 V), .int .u64 (n64 V)] 22)) (fun _ _ h => h)) (Rd.lit w 22 [0#64, V, V] (by unfold maxLen; simp))
  rwa [show sameB [0#64, V, V] [0#64, V, V] = true by simp [sameB]] at this
theorem same_lit2 {w w' : World} {F : Nat → Prop} {v : Value} {n : Nat} {V : BitVec 64} (h : Rd w' F 1 v n (u64s [0#64, V, V])) (o : Off Nob (w.alloc (.cells #[.int .u64 0, .int .u64 (n64 V), .int .u64 (n64 V)] 22)) w') :
    Calls Try.prog 19 #[v, .slice (some ⟨w.heap.size, 0, none⟩) 3 3] w' (BoolNew true w') := by
  have := sameCells_any h ((Rd.lit w 22 [0#64, V, V] (by unfold maxLen; simp)).keep o (fun _ _ h => h))
  rwa [show sameB [0#64, V, V] [0#64, V, V] = true by simp [sameB]] at this
set_option maxHeartbeats 16000000
theorem batches_small {w : World} (A : Option Addr) (n c : Nat) (l : List (BitVec 64)) (start most kk : BitVec 64) (hl : l.length = n) (hn : n ≤ 100)
    (hc : 0 < n → ∃ b o, A = some ⟨b, o, none⟩ ∧ b < w.heap.size ∧ ∀ j, j < n → w.cell? ⟨b, o + j, none⟩ = some (.int .u64 (n64 (cl l j)))) :
    Calls Try.prog 7 #[.int .u64 (n64 start), .slice A n c, .agg #[.int .u64 (n64 most), .int .u64 (n64 kk)]] w (BoolNew true w) := by
  have HL := Lib.hid hl
  have HC := Lib.hid hc
  clear hl hc
  have hd : decide (100 < (n : Int)) = false := by simp; omega
  go_enter Try.func7, Try.ntmps7
  go_wp2_with fail
  go_quiet (fail)
  have HO0 := Lib.hid (Off.drewN (Off.alloc (Off.refl Nob w) (.cells #[.int .u64 (n64 most), .int .u64 (n64 kk)] 40)) nq)
  generalize (w.alloc (.cells #[.int .u64 (n64 most), .int .u64 (n64 kk)] 40)).drewN nq = W0 at *
  go_wp2_with fail
  refine (three_lit W0 start).mono ?_
  rintro e w1 ⟨p, r, rfl, h1⟩
  have H1 : Hid (Have w w1 p [start, start, start] [(2, 0), (2, 1), (2, 2)]) := h1.base HO0.out
  clear h1
  go_wp2_with fail
  go_loopw [11, 12] (fun s i wr => ∃ k : Nat, k ≤ n ∧ i = .int .i64 k ∧ s = .int .u64 (n64 (capM (nsum l k) most)) ∧ BatRel w p start most l k wr) (fun _ i _ => n - (intOf i).toNat)
  case atStart => exact ⟨0, Nat.zero_le _, rfl, by rw [nsum_zero, capM_zero]; rfl, start, start, _, rfl, by rw [nsum_zero]; rfl, by rw [nsum_zero]; rfl, H1.out⟩
  case round =>
    obtain ⟨k, hk, rfl, rfl, hrel⟩ := hrel
    by_cases hlt : k < n
    · obtain ⟨b, o, hA, hb, hcell⟩ := HC.out (by omega)
      subst hA
      have hkl : k < l.length := by have := HL.out; omega
      obtain ⟨x, y, E, hE, sa, sb, hH⟩ := hrel
      have hc1 : wr.cell? ⟨b, o + k, none⟩ = some (.int .u64 (n64 (cl l k))) := (hH.old.cell_old hb _).trans (hcell k hlt)
      have HE := Lib.hid hE
      have SA := Lib.hid (sa.add (cl l k))
      have SB := Lib.hid (sb.add (cl l.reverse k))
      have HH := Lib.hid hH
      have HX := Lib.hid (fun (w2 : World) (h : Off Nob w w2) => (h.cell_old hb (o + (n - 1 - k))).trans (hcell (n - 1 - k) (by omega)))
      have HS := Lib.hid (nsum_succ l k hkl)
      have HR := Lib.hid (nsum_succ l.reverse k (by simpa using hkl))
      have HQ := Lib.hid (cl_rev l k hkl)
      clear hE sa sb hH hcell H1
      go_wp2_with fail
      refine (sum_any (capM (nsum l k) most) (cl l k) most _).mono ?_
      rintro e w' ⟨rfl, rfl⟩
      go_wp2_with fail
      refine (bat_a HH.out (by have := HE.out; omega)).mono ?_
      rintro e w2 ⟨rfl, h2⟩
      have H2 := Lib.hid h2
      have hc2 := HX.out w2 h2.old
      have hix : ((n : Int) - 1 - (k : Int)) = ((n - 1 - k : Nat) : Int) := by omega
      clear h2 hc1
      go_wp2_with fail
      refine (bat_b H2.out (by have := HE.out; simp; omega)).mono ?_
      rintro e w3 ⟨rfl, h3⟩
      have H3 := Lib.hid h3
      clear h3 hc2
      go_wp2_with fail
      go_roundw
      case rel =>
        refine ⟨k + 1, by omega, by go_num, by rw [HS.out, ← cap_sum l], _, _, _, ?_, ?_, ?_, H3.out⟩
        · have := HE.out; simp; omega
        · have := SA.out; rw [HS.out, ← Nat.add_assoc]; exact this
        · have := SB.out; rw [HR.out, ← Nat.add_assoc]; rw [HQ.out, HL.out] at this; rw [HQ.out, HL.out]; exact this
      case measure => simp [intOf]; omega
    · obtain rfl : n = k := by omega
      obtain ⟨a, b, E, hE, sa, sb, hH⟩ := hrel
      have HE := Lib.hid hE
      have HSA := Lib.hid sa
      have HSB := Lib.hid sb
      have HH := Lib.hid hH
      clear hE sa sb hH H1 hlt hk
      go_wp2_with fail
      refine (bat_c HH.out (by have := HE.out; omega)).mono ?_
      rintro e w3 ⟨rfl, h3⟩
      have H3 := Lib.hid h3
      clear h3
      go_wp2_with fail
      refine Calls.mono (R := fun e w' => e = .returned (.int .i64 0) ∧ Have w w' p [sumM a 0#64 most, b, sumM start (capM (nsum l n) most) most] _) (bat_a (v := 0#64) H3.out (by have := HE.out; simp; omega)) ?_
      rintro e w4 ⟨rfl, h4⟩
      have H4 := Lib.hid h4
      clear h4 H3
      go_wp2_with fail
      refine Calls.mono (R := fun e w' => e = .returned (.int .i64 0) ∧ Have w w' p [sumM a 0#64 most, sumM b 0#64 most, sumM start (capM (nsum l n) most) most] _) (bat_b (v := 0#64) H4.out (by have := HE.out; simp; omega)) ?_
      rintro e w5 ⟨rfl, h5⟩
      have HF : Hid (Have w w5 p [capM (start.toNat + nsum l n) most, capM (start.toNat + nsum l n) most, capM (start.toNat + nsum l n) most] (E ++ [(1, 2), (2, 2)] ++ [(1, 0), (2, 0)] ++ [(1, 1), (2, 1)])) := by
        have e1 := HSA.out.fin
        have e2 := HSB.out.fin
        rw [← HL.out, nsum_rev, HL.out] at e2
        have e3 := start_cap start most (nsum l n)
        rw [e1, e2, e3] at h5
        exact h5
      clear h5 H4 HSA HSB
      revert HF
      generalize capM (start.toNat + nsum l n) most = V
      have HEF : Hid ((E ++ [(1, 2), (2, 2)] ++ [(1, 0), (2, 0)] ++ [(1, 1), (2, 1)]).length + 10 ≤ 8388608) := Lib.hid (by have := HE.out; simp; omega)
      revert HEF
      generalize E ++ [(1, 2), (2, 2)] ++ [(1, 0), (2, 0)] ++ [(1, 1), (2, 1)] = EF
      intro HEF
      intro HF
      go_wp2_with fail
      refine (cells_new HF.out (by simp)).mono ?_
      rintro e w6 ⟨b2, c2, cur, rfl, hO6, hc6⟩
      have HCU : Hid (∀ j, j < 3 → cur[j]? = some (.int .u64 (n64 V))) := Lib.hid (fun j hj => by
        have := hc6 j (by simpa using hj)
        rw [this]
        match j, hj with
        | 0, _ => rfl
        | 1, _ => rfl
        | 2, _ => rfl)
      obtain ⟨a0, a1, a2⟩ := hO6.three HCU.out
      have H6 := Lib.hid hO6
      clear hO6 hc6 HF
      go_wp2_with fail
      go_quiet (fail)
      have O7 := Lib.hid (H6.out.off (Off.drewN (Off.refl _ _) nq))
      clear a0 a1 a2 H6
      revert O7
      generalize w6.drewN nq = w7
      intro O7
      go_wp2_with fail
      refine (O7.out.call (C2 := [V, V, V]) (E2 := EF ++ [(1, 0)]) (fun w F ha => by
        have := above_any ha 0 kk
        rw [show abRes [V, V, V] EF 0 kk = ((restM V kk, 0), ([V, V, V], EF ++ [(1, 0)])) from by unfold abRes; rw [if_pos (by simp), if_pos (by have := HEF.out; omega)]; rfl] at this
        exact this)).mono ?_
      rintro e w8 ⟨rfl, h8⟩
      have O8 := Lib.hid h8
      clear h8 O7
      go_wp2_with fail
      refine (O8.out.call (C2 := [0#64, V, V]) (E2 := EF ++ [(1, 0)] ++ [(1, 0), (2, 0)]) (fun w F ha => by
        have := take_any ha 0
        rw [show chRes [V, V, V] (EF ++ [(1, 0)]) 0 (fun _ => 0) = ((V, 0), ([0#64, V, V], EF ++ [(1, 0)] ++ [(1, 0), (2, 0)])) from by unfold chRes; rw [if_pos (by simp), if_pos (by have := HEF.out; simp; omega)]; rfl] at this
        exact this)).mono ?_
      rintro e w9 ⟨rfl, h9⟩
      have O9 := Lib.hid h9
      have k9 := h9.three HCU.out
      clear h9 O8
      go_wp2_with fail
      go_region_held3 (fun w' => w'.cell? ⟨b2, 0, none⟩ = some (.int .u64 (n64 V)) ∧ w'.cell? ⟨b2, 1, none⟩ = some (.int .u64 (n64 V)) ∧ w'.cell? ⟨b2, 2, none⟩ = some (.int .u64 (n64 V)))
        (first | with_reducible assumption | with_reducible exact O9.out.threeA HCU.out _ | with_reducible exact O9.out.threeD HCU.out _ | with_reducible exact O9.out.threeE HCU.out | with_reducible exact Q1.out.threeA HCU.out _ | go_keep)
        (first
          | (go_at_call 12; refine (rest_any V kk _).mono ?_; rintro e w' ⟨rfl, rfl⟩)
          | (go_at_call 20; refine (cells_of (O9.out.off (by first | with_reducible exact Off.refl _ _ | with_reducible exact Off.drew (Off.refl _ _) | with_reducible exact Off.alloc (Off.refl _ _) _ | with_reducible exact Off.drew (Off.alloc (Off.refl _ _) _)))).mono ?_; rintro e q1 ⟨v1, rfl, oq1, hv1⟩; have Q1 := Lib.hid (O9.out.off (Off.also (by first | with_reducible exact Off.refl _ _ | with_reducible exact Off.drew (Off.refl _ _) | with_reducible exact Off.alloc (Off.refl _ _) _ | with_reducible exact Off.drew (Off.alloc (Off.refl _ _) _)) oq1)); have kq1 := Q1.out.three HCU.out; have OQ := Lib.hid oq1; have RV := Lib.hid hv1; clear oq1 hv1)
          | (go_at_call 19; (with_reducible refine Calls.mono (same_lit1 RV.out) ?_); rintro e q2 ⟨rfl, oq2⟩; have Q2 := Lib.hid ((Q1.out.off (by first | with_reducible exact Off.refl _ _ | with_reducible exact Off.drew (Off.refl _ _) | with_reducible exact Off.alloc (Off.refl _ _) _ | with_reducible exact Off.drew (Off.alloc (Off.refl _ _) _))).off oq2); have kq2 := Q2.out.three HCU.out; clear oq2)
          | (go_at_call 19; (with_reducible refine Calls.mono (same_lit2 RV.out OQ.out) ?_); rintro e q2 ⟨rfl, oq2⟩; have Q2 := Lib.hid ((Q1.out.off (by first | with_reducible exact Off.refl _ _ | with_reducible exact Off.drew (Off.refl _ _) | with_reducible exact Off.alloc (Off.refl _ _) _ | with_reducible exact Off.drew (Off.alloc (Off.refl _ _) _))).off oq2); have kq2 := Q2.out.three HCU.out; clear oq2)
          | (go_at_call 19; (with_reducible refine Calls.mono (same_lit2 RV.out (Off.also (Off.drew (Off.refl _ _)) OQ.out)) ?_); rintro e q2 ⟨rfl, oq2⟩; have Q2 := Lib.hid ((Q1.out.off (by first | with_reducible exact Off.refl _ _ | with_reducible exact Off.drew (Off.refl _ _) | with_reducible exact Off.alloc (Off.refl _ _) _ | with_reducible exact Off.drew (Off.alloc (Off.refl _ _) _))).off oq2); have kq2 := Q2.out.three HCU.out; clear oq2)
          | (go_at_call 16; refine (awake_ok _).mono ?_; rintro e q3 ⟨rfl, oq3⟩; have Q3 := Lib.hid (Q2.out.off oq3); have kq3 := Q3.out.three HCU.out; clear oq3))
      all_goals go_wp2
      all_goals go_ret
      all_goals exact ⟨ret_bool (by simp), Q3.out.old⟩
theorem batches_long {w : World} (A : Option Addr) (n c : Nat) (start most kk : BitVec 64) (hn : 100 < n) (h1 : n ≤ maxLen) :
    Calls Try.prog 7 #[.int .u64 (n64 start), .slice A n c, .agg #[.int .u64 (n64 most), .int .u64 (n64 kk)]] w (BoolNew true w) := by
  unfold maxLen at h1
  have hd : decide (100 < (n : Int)) = true := by simp; omega
  go_enter Try.func7, Try.ntmps7
  go_wp2_with fail
  refine (awake_ok _).mono ?_
  rintro e w4 ⟨rfl, h4⟩
  have H4 := Lib.hid h4
  clear h4
  go_wp2
  go_ret
  exact ⟨rfl, (Off.alloc (Off.refl _ _) _).also H4.out⟩
theorem countersBatches_walk {w : World} (start : BitVec 64) {v : Value} {n : Nat} {l : List (BitVec 64)} (h : Rd w (Old w) 1 v n (u64s l)) (most kk : BitVec 64) :
    Calls Try.prog 7 #[.int .u64 (n64 start), v, .agg #[.int .u64 (n64 most), .int .u64 (n64 kk)]] w (BoolNew true w) := by
  have hl : l.length = n := by obtain ⟨_, _, _, _, hl, _⟩ := h; rw [length_u64s] at hl; omega
  obtain ⟨A, c, rfl, hm, hc⟩ := h.form
  by_cases hs : n ≤ 100
  · refine batches_small A n c l start most kk hl hs (fun h0 => ?_)
    obtain ⟨b, o, hA, hb, hcell⟩ := hc h0
    exact ⟨b, o, hA, hb, fun j hj => hcell j _ (getElem_u64s l j (by omega))⟩
  · exact batches_long A n c start most kk (by omega) hm

end Go.Proofs.Ytoobgfammippfaa
