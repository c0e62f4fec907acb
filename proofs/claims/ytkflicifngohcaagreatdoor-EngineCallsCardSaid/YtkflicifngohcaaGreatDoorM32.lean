/-
 lanes.Rules and last, dragnetref17's Rules, Spots, Starts, Ends and SameRow, for any plan that is right.
-/
import Derived.Test.YtkflicifngohcaaGreatDoorM31
import Derived.Deep.RegionHeldLaw
import Derived.BigQuiet
import Derived.Deep.QuietTactic
set_option linter.unusedVariables false
set_option linter.unusedSimpArgs false
namespace Go.Proofs.YtkflicifngohcaaGreatDoor
open Go.RowKit
set_option maxRecDepth 100000
theorem lnOk_end : ∀ {l : List Ln} {n rule : Nat} {b : Bool}, n ≤ 256 → lnOk n rule b l = true → lnEnd n l ≤ 256 ∧ n ≤ lnEnd n l ∧ (∀ x ∈ l, n ≤ x.2.1 ∧ x.2.1 + x.2.2 ≤ lnEnd n l ∧ 1 ≤ x.2.2 ∧ x.1 < 16) ∧ (l ≠ [] → (l.getLastD (0, 0, 0)).2.1 + (l.getLastD (0, 0, 0)).2.2 = lnEnd n l)
 | [], n, rule, b, hn, _ => ⟨hn, Nat.le_refl _, by simp, fun h => absurd rfl h⟩
 | y :: l, n, rule, b, hn, h => by
  simp only [lnOk, Bool.and_eq_true, Bool.or_eq_true, decide_eq_true_eq] at h
  obtain ⟨⟨⟨⟨⟨h1, h2⟩, h3⟩, h4⟩, h5⟩, h6⟩ := h
  obtain ⟨g1, g2, g3, g4⟩ := lnOk_end (by omega) h6
  simp only [lnEnd]
  refine ⟨g1, by omega, fun x hx => ?_, fun _ => ?_⟩
  ·rcases List.mem_cons.1 hx with rfl | hx
   ·exact ⟨by omega, by omega, h1, h2⟩
   ·obtain ⟨k1, k2, k3, k4⟩ := g3 x hx
    exact ⟨by omega, k2, k3, k4⟩
  ·cases l with
   | nil => show y.2.1 + y.2.2 = n + y.2.2; omega
   | cons z l =>
    have e : (y :: z :: l).getLastD (0, 0, 0) = (z :: l).getLastD (0, 0, 0) := by simp [List.getLastD]
    rw [e]
    exact g4 (by simp)
structure LnFacts (W : Nat) (l : List Ln) : Prop where
 ne : l ≠ []
 pos : 0 < l.length
 e256 : lnEnd 0 l ≤ 256
 e64 : lnEnd 0 l ≤ 64 * W
 all : ∀ x ∈ l, x.2.1 + x.2.2 ≤ lnEnd 0 l ∧ 1 ≤ x.2.2 ∧ x.1 < 16
 last : (l.getLastD (0, 0, 0)).2.1 + (l.getLastD (0, 0, 0)).2.2 = lnEnd 0 l
theorem LnFacts.of {W : Nat} {l : List Ln} (h : lanesOk W l = true) : LnFacts W l := by
 unfold lanesOk at h
 simp only [Bool.and_eq_true, Bool.not_eq_true', List.isEmpty_eq_false_iff, decide_eq_true_eq] at h
 obtain ⟨⟨h1, h2⟩, h3⟩ := h
 obtain ⟨g1, g2, g3, g4⟩ := lnOk_end (by decide) h2
 exact ⟨h1, by cases l with | nil => exact absurd rfl h1 | cons _ _ => simp, g1, by omega, fun x hx => ⟨(g3 x hx).2.1, (g3 x hx).2.2.1, (g3 x hx).2.2.2⟩, g4 h1⟩
theorem lnLast_get {l : List Ln} (h : 0 < l.length) : l.getD (l.length - 1) (0, 0, 0) = l.getLastD (0, 0, 0) := by
 have hne : l ≠ [] := by cases l with | nil => simp at h | cons _ _ => simp
 rw [List.getD_eq_getElem?_getD, List.getLastD_eq_getLast?, List.getLast?_eq_getElem?]
theorem lnGet_mem {l : List Ln} {k : Nat} (h : k < l.length) : l.getD k (0, 0, 0) ∈ l := by
 rw [List.getD_eq_getElem?_getD, List.getElem?_eq_getElem h]
 exact List.getElem_mem h
def RuPost (W : Nat) (l : List Ln) (w : World) (e : Ending) (w' : World) : Prop := ∃ i m : Int, e = .returned (.tuple #[.int .i64 i, .int .i64 m]) ∧ (lanesOk W l = true ∧ i = (lastRule l : Int) + 1 ∧ m = 0 ∨ lanesOk W l = false ∧ (m != 0) = true) ∧ Off Nob w w'
theorem ln_cells {w : World} {A : Option Addr} {l : List Ln} {c : Nat} (hcell : 0 < l.length → ∃ b o, A = some ⟨b, o, none⟩ ∧ b < w.heap.size ∧ ∀ j u, (lnV l)[j]? = some u → w.cell? ⟨b, o + j, none⟩ = some u) (hz : 0 < l.length) :
  ∃ b o, A = some ⟨b, o, none⟩ ∧ b < w.heap.size ∧ ∀ W', Off Nob w W' → ∀ k a f cc, k < l.length → l.getD k (0, 0, 0) = (a, f, cc) → W'.cell? ⟨b, o + k * 3, none⟩ = some (.int .i64 (a : Int)) ∧ W'.cell? ⟨b, o + k * 3 + 1, none⟩ = some (.int .i64 (f : Int)) ∧ W'.cell? ⟨b, o + k * 3 + 2, none⟩ = some (.int .i64 (cc : Int)) := by
 obtain ⟨b, o, rfl, hlt, hc⟩ := hcell hz
 refine ⟨b, o, rfl, hlt, fun W' ho k a f cc hk hx => ?_⟩
 obtain ⟨g1, g2, g3⟩ := lnV_get hk
 rw [hx] at g1 g2 g3
 rw [ho.cell_old hlt, ho.cell_old hlt, ho.cell_old hlt]
 exact ⟨hc _ _ g1, by rw [Nat.add_assoc]; exact hc _ _ g2, by rw [Nat.add_assoc]; exact hc _ _ g3⟩
theorem Tryz.infoLaS : (Tryz.prog.info? 188).map (·.size) = some 3 := by kernel_rfl
set_option maxHeartbeats 2000000 in
theorem nlast (W : Nat) (l : List Ln) (hz : 0 < l.length) (hn : l.length ≤ 4096) (a f cc : Nat) (hx : l.getD (l.length - 1) (0, 0, 0) = (a, f, cc)) (w : World) (v : Value) (hv : Rd w (fun _ => True) 3 v l.length (lnV l)) : Calls Tryz.prog 170 #[.agg #[.int .i64 W, v]] w (RetV w (.agg #[.int .i64 a, .int .i64 f, .int .i64 cc])) := by
 have HV := hID hv
 obtain ⟨A, c, rfl, _, hcell⟩ := hv.form
 clear hv
 obtain ⟨b, o, rfl, hlt, hc⟩ := ln_cells (c := c) hcell hz
 have X : Off Nob w ((w.alloc (.cells #[.int .i64 W, .slice (some ⟨b, o, none⟩) l.length c] 97)).alloc (.cells #[.int .i64 0, .int .i64 0, .int .i64 0] 188)) := (Off.alloc (Off.refl _ _) _).alloc _
 obtain ⟨c0, c1, c2⟩ := hc _ X _ a f cc (by omega : l.length - 1 < l.length) hx
 have HX := hID X
 have hsub : ((l.length : Int) - 1) = ((l.length - 1 : Nat) : Int) := by omega
 have hq : l.length - 1 < l.length := by omega
 obtain ⟨q, hqe⟩ : ∃ q, l.length - 1 = q := ⟨_, rfl⟩
 rw [hqe] at c0 c1 c2 hsub hq
 clear hcell hc X hx hqe HV
 go_enter Tryz.func170, Tryz.ntmps170
 go_wp2_with fail
 have hB : Blk ((w.alloc (.cells #[.int .i64 W, .slice (some ⟨b, o, none⟩) l.length c] 97)).alloc (.cells #[.int .i64 a, .int .i64 f, .int .i64 cc] 188)) (w.heap.size + 1) 188 #[.int .i64 a, .int .i64 f, .int .i64 cc] := by
  have := Blk.new (w.alloc (.cells #[.int .i64 W, .slice (some ⟨b, o, none⟩) l.length c] 97)) 188 #[.int .i64 a, .int .i64 f, .int .i64 cc]
  rwa [World.size_alloc] at this
 exact bodyPost_ret (results_cell_row rfl _ _ (w.heap.size + 1) 188 _ (0, 0) _ rfl hB Tryz.underlying188 rfl Tryz.infoLaS) rfl ⟨rfl, (Off.alloc (Off.refl _ _) _).alloc _⟩
set_option maxHeartbeats 4000000 in
theorem rrules (W : Nat) (h1 : 1 ≤ W) (hW : W ≤ 8) (l : List Ln) (hn : l.length ≤ 4096) (w : World) (v : Value) (hv : Rd w (fun _ => True) 3 v l.length (lnV l)) : Calls Tryz.prog 115 #[.agg #[.int .i64 W, v]] w (RuPost W l w) := by
 have HV := hID hv
 obtain ⟨A, c, rfl, _, hcell⟩ := hv.form
 clear hv
 have HCL := hID hcell
 clear hcell
 go_enter Tryz.func115, Tryz.ntmps115
 have HB0 : Hid (Blk (w.alloc (.cells #[.int .i64 W, .slice A l.length c] 97)) w.heap.size 97 #[.int .i64 W, .slice A l.length c] ∧ Off Nob w (w.alloc (.cells #[.int .i64 W, .slice A l.length c] 97))) := hID ⟨Blk.new _ _ _, Off.alloc (Off.refl _ _) _⟩
 go_wp2_with fail
 revert HB0
 generalize (w.alloc (.cells #[.int .i64 W, .slice A l.length c] 97)) = w0
 intro HB0
 have GC : Hid (∀ W', Off Nob w0 W' → W'.cell? ⟨w.heap.size, 0, none⟩ = some (.int .i64 W) ∧ W'.cell? ⟨w.heap.size, 1, none⟩ = some (.slice A l.length c)) := hID (fun W' ho => by
  have h := HB0.out.1.to (ho.block _ HB0.out.1.lt id)
  exact ⟨h.cell 0, h.cell 1⟩)
 obtain ⟨t0, t1⟩ := GC.out _ (Off.refl _ _)
 go_wp2_with fail
 refine (rcheck W h1 hW l hn _ _ (HV.out.keepT HB0.out.2)).mono ?_
 rintro e w1 ⟨i, m, rfl, hres, o1⟩
 have X1 := hID o1
 clear o1 t0 t1
 rcases hres with ⟨hok, rfl⟩ | ⟨hno, hm⟩
 ·have HL := hID hok
  have hz := (LnFacts.of hok).pos
  obtain ⟨b, o, rfl, hlt, hc⟩ := ln_cells (c := c) HCL.out hz
  have HC := hID hc
  clear hc
  have hr16 := (LnFacts.of hok).all _ (lnGet_mem (by omega : l.length - 1 < l.length))
  have HR : Hid ((l.getD (l.length - 1) (0, 0, 0)).1 = lastRule l) := hID (by rw [lnLast_get hz]; rfl)
  obtain ⟨⟨a, f, cc⟩, hx⟩ : ∃ x, l.getD (l.length - 1) (0, 0, 0) = x := ⟨_, rfl⟩
  rw [hx] at hr16 HR
  replace HR : Hid (lastRule l = a) := hID HR.out.symm
  have hr : a < 16 := hr16.2.2
  have HX := hID hx
  clear hok hx hr16
  obtain ⟨t0, t1⟩ := GC.out _ X1.out
  obtain ⟨c0, c1, c2⟩ := HC.out _ (HB0.out.2.also X1.out) _ a f cc (by omega : l.length - 1 < l.length) HX.out
  have hsub : ((l.length : Int) - 1) = ((l.length - 1 : Nat) : Int) := by omega
  have hq : l.length - 1 < l.length := by omega
  obtain ⟨q, hqe⟩ : ∃ q, l.length - 1 = q := ⟨_, rfl⟩
  rw [hqe] at c0 c1 c2 hsub hq
  clear hqe
  go_wp2_with fail
  go_ret2
  exact ⟨_, _, rfl, .inl ⟨HL.out, by rw [HR.out], rfl⟩, HB0.out.2.also X1.out⟩
 ·have HN := hID hno
  clear hno
  obtain ⟨t0, t1⟩ := GC.out _ X1.out
  go_wp2_with fail
  go_ret2
  exact ⟨_, _, rfl, .inr ⟨HN.out, hm⟩, HB0.out.2.also X1.out⟩
set_option maxHeartbeats 4000000 in
theorem nrules (W : Nat) (h1 : 1 ≤ W) (hW : W ≤ 8) (l : List Ln) (hn : l.length ≤ 4096) (w : World) (v : Value) (hv : Rd w (fun _ => True) 3 v l.length (lnV l)) : Calls Tryz.prog 156 #[.agg #[.int .i64 W, v]] w (RuPost W l w) := by
 have HV := hID hv
 obtain ⟨A, c, rfl, _, hcell⟩ := hv.form
 clear hv
 have HCL := hID hcell
 clear hcell
 go_enter Tryz.func156, Tryz.ntmps156
 have HB0 : Hid (Blk (w.alloc (.cells #[.int .i64 W, .slice A l.length c] 97)) w.heap.size 97 #[.int .i64 W, .slice A l.length c] ∧ Off Nob w (w.alloc (.cells #[.int .i64 W, .slice A l.length c] 97))) := hID ⟨Blk.new _ _ _, Off.alloc (Off.refl _ _) _⟩
 go_wp2_with fail
 revert HB0
 generalize (w.alloc (.cells #[.int .i64 W, .slice A l.length c] 97)) = w0
 intro HB0
 have GC : Hid (∀ W', Off Nob w0 W' → W'.cell? ⟨w.heap.size, 0, none⟩ = some (.int .i64 W) ∧ W'.cell? ⟨w.heap.size, 1, none⟩ = some (.slice A l.length c)) := hID (fun W' ho => by
  have h := HB0.out.1.to (ho.block _ HB0.out.1.lt id)
  exact ⟨h.cell 0, h.cell 1⟩)
 obtain ⟨t0, t1⟩ := GC.out _ (Off.refl _ _)
 go_wp2_with fail
 refine (ncheck W h1 hW l hn _ _ (HV.out.keepT HB0.out.2)).mono ?_
 rintro e w1 ⟨i, m, rfl, hres, o1⟩
 have X1 := hID o1
 clear o1 t0 t1
 rcases hres with ⟨hok, rfl⟩ | ⟨hno, hm⟩
 ·have HL := hID hok
  have hz := (LnFacts.of hok).pos
  obtain ⟨b, o, rfl, hlt, hc⟩ := ln_cells (c := c) HCL.out hz
  have HC := hID hc
  clear hc
  have hr16 := (LnFacts.of hok).all _ (lnGet_mem (by omega : l.length - 1 < l.length))
  have HR : Hid ((l.getD (l.length - 1) (0, 0, 0)).1 = lastRule l) := hID (by rw [lnLast_get hz]; rfl)
  obtain ⟨⟨a, f, cc⟩, hx⟩ : ∃ x, l.getD (l.length - 1) (0, 0, 0) = x := ⟨_, rfl⟩
  rw [hx] at hr16 HR
  replace HR : Hid (lastRule l = a) := hID HR.out.symm
  have hr : a < 16 := hr16.2.2
  have HX := hID hx
  clear hok hx hr16
  obtain ⟨t0, t1⟩ := GC.out _ X1.out
  have hfl : ∀ w, (Instr.field 188 (.agg #[.int .i64 a, .int .i64 f, .int .i64 cc]) 0).run Tryz.prog w = .ok (.int .i64 a) w := fun w => by kernel_rfl
  go_wp2_with fail
  refine (nlast W l hz hn a f cc HX.out _ _ (HV.out.keepT (HB0.out.2.also X1.out))).mono ?_
  rintro e w2 ⟨rfl, o2⟩
  have X2 := hID (X1.out.also o2)
  clear o2
  go_wp2_with fail
  go_ret2
  exact ⟨_, _, rfl, .inl ⟨HL.out, by rw [HR.out], rfl⟩, HB0.out.2.also X2.out⟩
 ·have HN := hID hno
  clear hno
  obtain ⟨t0, t1⟩ := GC.out _ X1.out
  go_wp2_with fail
  go_ret2
  exact ⟨_, _, rfl, .inr ⟨HN.out, hm⟩, HB0.out.2.also X1.out⟩
theorem firsts_snoc {l : List Ln} {k a f cc : Nat} (h : k < l.length) (hx : l.getD k (0, 0, 0) = (a, f, cc)) : firsts (l.take (k + 1)) = firsts (l.take k) ++ [f] := by
 rw [List.take_succ_eq_append_getElem h]
 have : l[k] = (a, f, cc) := by rw [List.getD_eq_getElem?_getD, List.getElem?_eq_getElem h] at hx; exact hx
 rw [this]
 simp [firsts]
theorem ends_snoc {l : List Ln} {k a f cc r : Nat} (h : k < l.length) (hx : l.getD k (0, 0, 0) = (a, f, cc)) : endsN r (l.take (k + 1)) = endsN r (l.take k) ++ if a = r then [f + cc - 1] else [] := by
 rw [List.take_succ_eq_append_getElem h]
 have : l[k] = (a, f, cc) := by rw [List.getD_eq_getElem?_getD, List.getElem?_eq_getElem h] at hx; exact hx
 rw [this]
 unfold endsN
 rw [List.filter_append, List.map_append]
 congr 1
 by_cases e : a = r <;> simp [e]
def RowPost (W : Nat) (L : List Nat) (w : World) (e : Ending) (w' : World) : Prop := ∃ u, e = .returned (.tuple #[u, .int .i64 0]) ∧ Rd w' (fun k => w.heap.size ≤ k) 1 u W (wordsV L) ∧ Off Nob w w'
set_option maxHeartbeats 4000000 in
theorem rstarts (W : Nat) (h1 : 1 ≤ W) (hW : W ≤ 8) (l : List Ln) (hok : lanesOk W l = true) (hn : l.length ≤ 4096) (w : World) (v : Value) (hv : Rd w (fun _ => True) 3 v l.length (lnV l)) : Calls Tryz.prog 116 #[.agg #[.int .i64 W, v]] w (RowPost W (ofN W (firsts l)) w) := by
 obtain ⟨hi0, hi, hz0, hz1, hz2⟩ := info_parts Tryz.infoI'
 have LF := hID (LnFacts.of hok)
 have HOK := hID hok
 have hz := LF.out.pos
 clear hok
 have HV := hID hv
 obtain ⟨A, c, rfl, _, hcell⟩ := hv.form
 clear hv
 obtain ⟨b, o, rfl, hlt, hc⟩ := ln_cells (c := c) hcell hz
 have HC := hID hc
 clear hc hcell
 go_enter Tryz.func116, Tryz.ntmps116
 have HB0 : Hid (Blk (w.alloc (.cells #[.int .i64 W, .slice (some ⟨b, o, none⟩) l.length c] 97)) w.heap.size 97 #[.int .i64 W, .slice (some ⟨b, o, none⟩) l.length c] ∧ Off Nob w (w.alloc (.cells #[.int .i64 W, .slice (some ⟨b, o, none⟩) l.length c] 97))) := hID ⟨Blk.new _ _ _, Off.alloc (Off.refl _ _) _⟩
 go_wp2_with fail
 revert HB0
 generalize (w.alloc (.cells #[.int .i64 W, .slice (some ⟨b, o, none⟩) l.length c] 97)) = w0
 intro HB0
 have GC : Hid (∀ W', Off Nob w0 W' → W'.cell? ⟨w.heap.size, 0, none⟩ = some (.int .i64 W) ∧ W'.cell? ⟨w.heap.size, 1, none⟩ = some (.slice (some ⟨b, o, none⟩) l.length c)) := hID (fun W' ho => by
  have h := HB0.out.1.to (ho.block _ HB0.out.1.lt id)
  exact ⟨h.cell 0, h.cell 1⟩)
 obtain ⟨t0, t1⟩ := GC.out _ (Off.refl _ _)
 go_wp2_with fail
 refine (rcheck W h1 hW l hn _ _ (HV.out.keepT HB0.out.2)).mono ?_
 rintro e w1 ⟨i, m, rfl, hres, o1⟩
 have X1 := hID o1
 obtain rfl : m = 0 := by
  rcases hres with ⟨_, h⟩ | ⟨h, _⟩
  ·exact h
  ·rw [HOK.out] at h; exact absurd h (by simp)
 clear o1 t0 t1 hres
 go_wp2_with fail
 go_loopw [6, 7] (fun x y wr => ∃ k : Nat, k ≤ l.length ∧ y = .int .i64 (k : Int) ∧ OwnL w0 wr 3 1 x (firsts (l.take k)).length (natsV (firsts (l.take k)))) (fun _ y _ => l.length - (intOf y).toNat)
 case atStart => exact ⟨0, Nat.zero_le _, rfl, OwnL.nilAt X1.out _ _⟩
 case round =>
  obtain ⟨k, hk, rfl, hown⟩ := hrel
  obtain ⟨AA, cq, rfl⟩ := hown.form
  have HO := hID hown
  clear hown X1
  obtain ⟨t0, t1⟩ := GC.out _ HO.out.2
  have hlk : (firsts (l.take k)).length ≤ 4096 := by simp [firsts]; omega
  by_cases hlt : k < l.length
  ·have d1 : decide ((k : Int) < (l.length : Int)) = true := decide_eq_true (by omega)
   obtain ⟨⟨a, f, cc⟩, hx⟩ : ∃ x, l.getD k (0, 0, 0) = x := ⟨_, rfl⟩
   obtain ⟨c0, c1, c2⟩ := HC.out _ (HB0.out.2.also HO.out.2) k a f cc hlt hx
   have HS := hID (firsts_snoc hlt hx)
   clear hx
   obtain ⟨M, hM⟩ : ∃ M, firsts (l.take k) = M := ⟨_, rfl⟩
   rw [hM] at hlk HO HS ⊢
   clear hM
   obtain ⟨q, hq⟩ : ∃ q, M.length = q := ⟨_, rfl⟩
   have HQ := hID hq
   rw [hq] at hlk HO ⊢
   clear hq
   go_wp2_with (at_builtin; refine @wpList_append_lies _ _ _ _ _ _ _ rfl _ _ 22 rfl w0.heap.size 3 hi0 (.int .i64 0) 1 8 Tryz.underlying22 hi hz0 hz1 hz2 rfl (by decide) (.slice AA q cq) q (natsV M) rfl (HO.out.1.alloc _) ⟨wr.heap.size, 0, none⟩ 1 1 [.int .i64 (f : Int)] rfl rfl ?c1 (by intro u hu; simp at hu; subst hu; rfl) (by decide) (by unfold maxLen; omega) (by omega) (by have := HO.out.2.size; simp; omega) _ rfl ?_)
   case c1 => exact cell_one _ _ _
   intro g cap w4 hown hgrow hat hltg
   have O4 : Hid (OwnL w0 w4 3 1 (.slice (some ⟨g, 0, none⟩) (q + 1) cap) (M ++ [f]).length (natsV (M ++ [f]))) := hID (by
    have := HO.out.grown (Off.alloc (Off.refl _ _) _) hown hgrow
    rw [List.length_append, HQ.out, natsV_snoc]
    exact this)
   clear hown hgrow hat hltg
   go_wp2_with fail
   go_roundw
   case rel => exact ⟨k + 1, hlt, by go_num, by rw [HS.out]; exact O4.out⟩
   case measure => simp [intOf]; omega
  ·obtain rfl : k = l.length := by omega
   have d1 : decide ((l.length : Int) < (l.length : Int)) = false := decide_eq_false (by omega)
   rw [List.take_length] at HO hlk
   have HF := hID (g_of W h1 hW (firsts l) (fun i hi => by
    obtain ⟨x, hx, rfl⟩ := List.mem_map.1 hi
    have := LF.out.all x hx
    have := LF.out.e64
    omega) hlk _ _ HO.out.rd)
   go_wp2_with fail
   refine HF.out.mono ?_
   rintro e w2 ⟨u, rfl, hr, o2⟩
   have HR : Hid (Rd w2 (fun k => w.heap.size ≤ k) 1 u W (wordsV (ofN W (firsts l))) ∧ Off Nob w w2) := hID ⟨hr.mono (fun j hj => by have := HB0.out.2.size; have := HO.out.2.size; omega), (HB0.out.2.also HO.out.2).also o2⟩
   clear hr o2
   go_wp2_with fail
   go_ret2
   exact ⟨_, rfl, HR.out⟩
set_option maxHeartbeats 8000000 in
theorem rends (W : Nat) (h1 : 1 ≤ W) (hW : W ≤ 8) (l : List Ln) (hok : lanesOk W l = true) (hn : l.length ≤ 4096) (r : Nat) (hr : r ≤ lastRule l) (w : World) (v : Value) (hv : Rd w (fun _ => True) 3 v l.length (lnV l)) : Calls Tryz.prog 117 #[.agg #[.int .i64 W, v], .int .i64 r] w (RowPost W (ofN W (endsN r l)) w) := by
 obtain ⟨hi0, hi, hz0, hz1, hz2⟩ := info_parts Tryz.infoI'
 have LF := hID (LnFacts.of hok)
 have HOK := hID hok
 have hz := LF.out.pos
 have HRL := hID hr
 clear hok hr
 have HV := hID hv
 obtain ⟨A, c, rfl, _, hcell⟩ := hv.form
 clear hv
 obtain ⟨b, o, rfl, hlt, hc⟩ := ln_cells (c := c) hcell hz
 have HC := hID hc
 clear hc hcell
 go_enter Tryz.func117, Tryz.ntmps117
 have HB0 : Hid (Blk (w.alloc (.cells #[.int .i64 W, .slice (some ⟨b, o, none⟩) l.length c] 97)) w.heap.size 97 #[.int .i64 W, .slice (some ⟨b, o, none⟩) l.length c] ∧ Off Nob w (w.alloc (.cells #[.int .i64 W, .slice (some ⟨b, o, none⟩) l.length c] 97))) := hID ⟨Blk.new _ _ _, Off.alloc (Off.refl _ _) _⟩
 go_wp2_with fail
 revert HB0
 generalize (w.alloc (.cells #[.int .i64 W, .slice (some ⟨b, o, none⟩) l.length c] 97)) = w0
 intro HB0
 have GC : Hid (∀ W', Off Nob w0 W' → W'.cell? ⟨w.heap.size, 0, none⟩ = some (.int .i64 W) ∧ W'.cell? ⟨w.heap.size, 1, none⟩ = some (.slice (some ⟨b, o, none⟩) l.length c)) := hID (fun W' ho => by
  have h := HB0.out.1.to (ho.block _ HB0.out.1.lt id)
  exact ⟨h.cell 0, h.cell 1⟩)
 obtain ⟨t0, t1⟩ := GC.out _ (Off.refl _ _)
 go_wp2_with fail
 refine (rrules W h1 hW l hn _ _ (HV.out.keepT HB0.out.2)).mono ?_
 rintro e w1 ⟨i, m, rfl, hres, o1⟩
 have X1 := hID o1
 obtain ⟨hi1, rfl⟩ : i = (lastRule l : Int) + 1 ∧ m = 0 := by
  rcases hres with ⟨_, h⟩ | ⟨h, _⟩
  ·exact h
  ·rw [HOK.out] at h; exact absurd h (by simp)
 have e1 : decide ((r : Int) < 0) = false := decide_eq_false (by omega)
 have e2 : decide (i ≤ (r : Int)) = false := decide_eq_false (by rw [hi1]; have := HRL.out; omega)
 clear o1 t0 t1 hres hi1
 go_wp2_with fail
 go_loopw [8, 9] (fun x y wr => ∃ k : Nat, k ≤ l.length ∧ y = .int .i64 (k : Int) ∧ OwnL w0 wr 3 1 x (endsN r (l.take k)).length (natsV (endsN r (l.take k))) ∧ (endsN r (l.take k)).length ≤ k) (fun _ y _ => l.length - (intOf y).toNat)
 case atStart => exact ⟨0, Nat.zero_le _, rfl, OwnL.nilAt X1.out _ _, Nat.le_refl _⟩
 case round =>
  obtain ⟨k, hk, rfl, hown, hlk⟩ := hrel
  obtain ⟨AA, cq, rfl⟩ := hown.form
  have HO := hID hown
  clear hown X1
  obtain ⟨t0, t1⟩ := GC.out _ HO.out.2
  by_cases hlt : k < l.length
  ·have d1 : decide ((k : Int) < (l.length : Int)) = true := decide_eq_true (by omega)
   obtain ⟨⟨a, f, cc⟩, hx⟩ : ∃ x, l.getD k (0, 0, 0) = x := ⟨_, rfl⟩
   obtain ⟨c0, c1, c2⟩ := HC.out _ (HB0.out.2.also HO.out.2) k a f cc hlt hx
   have HS := hID (ends_snoc (r := r) hlt hx)
   have HX := hID hx
   have hall := LF.out.all _ (lnGet_mem hlt)
   rw [hx] at hall
   have hcc : 1 ≤ cc := hall.2.1
   have hfc : f + cc ≤ 256 := Nat.le_trans hall.1 LF.out.e256
   clear hx hall
   obtain ⟨M, hM⟩ : ∃ M, endsN r (l.take k) = M := ⟨_, rfl⟩
   rw [hM] at hlk HO HS ⊢
   clear hM
   by_cases har : a = r
   ·have d2 : ((a : Int) == (r : Int)) = true := by rw [beq_iff_eq]; omega
    rw [if_pos har] at HS
    clear har
    obtain ⟨q, hq⟩ : ∃ q, M.length = q := ⟨_, rfl⟩
    have HQ := hID hq
    rw [hq] at hlk HO ⊢
    clear hq
    have hsum : IntKind.i64.wrap ((f : Int) + (cc : Int)) = (f : Int) + (cc : Int) := IntWalk.i64_in _ (by omega)
    have hlast : IntKind.i64.wrap ((f : Int) + (cc : Int) - 1) = ((f + cc - 1 : Nat) : Int) := by rw [IntWalk.i64_in _ (by omega)]; omega
    have hlast2 : (f : Int) + (cc : Int) - 1 = ((f + cc - 1 : Nat) : Int) := by omega
    obtain ⟨y, hy⟩ : ∃ y, f + cc - 1 = y := ⟨_, rfl⟩
    have hy64 : IntKind.i64.wrap (y : Int) = (y : Int) := IntWalk.i64_in _ (by omega)
    rw [hy] at hlast hlast2 HS
    clear hy
    go_wp2_with fail
    go_region_held_law (fun W' => W'.cell? ⟨w.heap.size, 1, none⟩ = some (.slice (some ⟨b, o, none⟩) l.length c) ∧ W'.cell? ⟨b, o + k * 3 + 1, none⟩ = some (.int .i64 (f : Int)) ∧ W'.cell? ⟨b, o + k * 3 + 2, none⟩ = some (.int .i64 (cc : Int)))
     (first | with_reducible assumption | go_keep)
     (first
      | (refine step_append_lies _ rfl _ _ 22 rfl w0.heap.size 3 hi0 (.int .i64 0) 1 8 Tryz.underlying22 hi hz0 hz1 hz2 rfl (by decide) (.slice AA q cq) q (natsV M) rfl (own_to (HO.out.1.alloc (.cells #[.int .i64 (y : Int)] 3)) (fun _ _ => rfl)) ⟨wr.heap.size, 0, none⟩ 1 1 [.int .i64 (y : Int)] rfl rfl (cell_one wr (.int .i64 (y : Int)) 3) (by intro u hu; simp at hu; subst hu; rfl) (by decide) (by unfold maxLen; omega) (by omega) (by have := HO.out.2.size; simp; omega) _ rfl ?_; intro g cap w4 hown hgrow hat hltg; have O4 : Hid (OwnL w0 w4 3 1 (.slice (some ⟨g, 0, none⟩) (q + 1) cap) (M ++ [y]).length (natsV (M ++ [y]))) := hID (by have := HO.out.grown (Off.drew (Off.alloc (Off.refl _ _) _)) hown hgrow; rw [List.length_append, HQ.out, natsV_snoc]; exact this); clear hown hgrow hat hltg; obtain ⟨t0, t1⟩ := GC.out _ O4.out.2; obtain ⟨c0, c1, c2⟩ := HC.out _ (HB0.out.2.also O4.out.2) k a f cc hlt HX.out; try simp only [Act.put, qL1, qL2, qL3, qL4, qL5, qL6])
      | fail)
    go_wp2_with fail
    go_roundw
    case rel => exact ⟨k + 1, hlt, by go_num, by rw [HS.out]; exact O4.out, by rw [HS.out, List.length_append, HQ.out]; simp; omega⟩
    case measure => simp [intOf]; omega
   ·have d2 : ((a : Int) == (r : Int)) = false := by rw [beq_eq_false_iff_ne]; omega
    rw [if_neg har, List.append_nil] at HS
    clear har
    go_wp2_with fail
    go_roundw
    case rel => exact ⟨k + 1, hlt, by go_num, by rw [HS.out]; exact HO.out, by rw [HS.out]; omega⟩
    case measure => simp [intOf]; omega
  ·obtain rfl : k = l.length := by omega
   have d1 : decide ((l.length : Int) < (l.length : Int)) = false := decide_eq_false (by omega)
   rw [List.take_length] at HO hlk
   have HF := hID (g_of W h1 hW (endsN r l) (fun i hi => by
    obtain ⟨x, hx, rfl, _⟩ := mem_endsN.1 hi
    have := LF.out.all x hx
    have := LF.out.e64
    unfold lnLast
    omega) (by omega) _ _ HO.out.rd)
   go_wp2_with fail
   refine HF.out.mono ?_
   rintro e w2 ⟨u, rfl, hr, o2⟩
   have HR : Hid (Rd w2 (fun k => w.heap.size ≤ k) 1 u W (wordsV (ofN W (endsN r l))) ∧ Off Nob w w2) := hID ⟨hr.mono (fun j hj => by have := HB0.out.2.size; have := HO.out.2.size; omega), (HB0.out.2.also HO.out.2).also o2⟩
   clear hr o2
   go_wp2_with fail
   go_ret2
   exact ⟨_, rfl, HR.out⟩
end Go.Proofs.YtkflicifngohcaaGreatDoor
