/-
 lanes.Rules and last, dragnetref17's Rules, Spots, Starts, Ends and SameRow, for any plan that is right.
-/
import Derived.Test.YtlgjaefcfnndhaaGreatDoorP23
import Derived.Deep.RegionHeldLaw
import Derived.BigQuiet
import Derived.Deep.QuietTactic
import Derived.Test.YtlgjaefcfnndhaaGreatDoorP16
import Derived.Deep.RegionHeld3
set_option linter.unusedVariables false
set_option linter.unusedSimpArgs false
set_option maxHeartbeats 16000000
set_option maxRecDepth 100000
namespace Go.Proofs.YtlgjaefcfnndhaaGreatDoor
section
open Go.RowKit
theorem qod : ∀ {l : List Ln} {n rule : Nat} {b : Bool}, n ≤ 256 → lnOk n rule b l = true → lnEnd n l ≤ 256 ∧ n ≤ lnEnd n l ∧ (∀ x ∈ l, n ≤ x.2.1 ∧ x.2.1 + x.2.2 ≤ lnEnd n l ∧ 1 ≤ x.2.2 ∧ x.1 < 16) ∧ (l ≠ [] → (l.getLastD (0, 0, 0)).2.1 + (l.getLastD (0, 0, 0)).2.2 = lnEnd n l)
 | [], n, rule, b, hn, _ => ⟨hn, Nat.le_refl _, by simp, fun h => absurd rfl h⟩
 | y :: l, n, rule, b, hn, h => by
  simp only [lnOk, Bool.and_eq_true, Bool.or_eq_true, decide_eq_true_eq] at h
  obtain ⟨⟨⟨⟨⟨h1, h2⟩, h3⟩, h4⟩, h5⟩, h6⟩ := h
  obtain ⟨g1, g2, g3, g4⟩ := qod (by omega) h6
  simp only [lnEnd]
  refine ⟨g1, by omega, fun x hx => ?_, fun _ => ?_⟩
  ·rcases List.mem_cons.1 hx with rfl | hx
   ·exact ⟨by omega, by omega, h1, h2⟩
   ·obtain ⟨k1, k2, k3, k4⟩ := g3 x hx
    exact ⟨by omega, k2, k3, k4⟩
  ·cases l with
   | nil => show y.2.1 + y.2.2 = n + y.2.2; omega
   | cons z l =>
    have e : (y :: z :: l).getLastD (0, 0, 0) = (z :: l).getLastD (0, 0, 0) := by simp [List.getLastD]
    rw [e]
    exact g4 (by simp)
structure LnFacts (W : Nat) (l : List Ln) : Prop where
 ne : l ≠ []
 pos : 0 < l.length
 e256 : lnEnd 0 l ≤ 256
 e64 : lnEnd 0 l ≤ 64 * W
 all : ∀ x ∈ l, x.2.1 + x.2.2 ≤ lnEnd 0 l ∧ 1 ≤ x.2.2 ∧ x.1 < 16
 last : (l.getLastD (0, 0, 0)).2.1 + (l.getLastD (0, 0, 0)).2.2 = lnEnd 0 l
theorem LnFacts.of {W : Nat} {l : List Ln} (h : qao W l = true) : LnFacts W l := by
 unfold qao at h
 simp only [Bool.and_eq_true, Bool.not_eq_true', List.isEmpty_eq_false_iff, decide_eq_true_eq] at h
 obtain ⟨⟨h1, h2⟩, h3⟩ := h
 obtain ⟨g1, g2, g3, g4⟩ := qod (by decide) h2
 exact ⟨h1, by cases l with | nil => exact absurd rfl h1 | cons _ _ => simp, g1, by omega, fun x hx => ⟨(g3 x hx).2.1, (g3 x hx).2.2.1, (g3 x hx).2.2.2⟩, g4 h1⟩
theorem qgv {l : List Ln} (h : 0 < l.length) : l.getD (l.length - 1) (0, 0, 0) = l.getLastD (0, 0, 0) := by
 have hne : l ≠ [] := by cases l with | nil => simp at h | cons _ _ => simp
 rw [gDe, List.getLastD_eq_getLast?, List.getLast?_eq_getElem?]
theorem qhw {l : List Ln} {k : Nat} (h : k < l.length) : l.getD k (0, 0, 0) ∈ l := by
 rw [gDe, gEe h]
 exact List.getElem_mem h
def qu6 (W : Nat) (l : List Ln) (w : World) (e : Ending) (w' : World) : Prop := ∃ i m : Int, e = .returned (.tuple #[.int .i64 i, .int .i64 m]) ∧ (qao W l = true ∧ i = (qa1 l : Int) + 1 ∧ m = 0 ∨ qao W l = false ∧ (m != 0) = true) ∧ Off Nob w w'
theorem qc9 {w : World} {A : Option Addr} {l : List Ln} {c : Nat} (hcell : 0 < l.length → ∃ b o, A = some ⟨b, o, none⟩ ∧ b < w.heap.size ∧ ∀ j u, (lnV l)[j]? = some u → w.cell? ⟨b, o + j, none⟩ = some u) (hz : 0 < l.length) :
  ∃ b o, A = some ⟨b, o, none⟩ ∧ b < w.heap.size ∧ ∀ W', Off Nob w W' → ∀ k a f cc, k < l.length → l.getD k (0, 0, 0) = (a, f, cc) → W'.cell? ⟨b, o + k * 3, none⟩ = some (.int .i64 (a : Int)) ∧ W'.cell? ⟨b, o + k * 3 + 1, none⟩ = some (.int .i64 (f : Int)) ∧ W'.cell? ⟨b, o + k * 3 + 2, none⟩ = some (.int .i64 (cc : Int)) := by
 obtain ⟨b, o, rfl, hlt, hc⟩ := hcell hz
 refine ⟨b, o, rfl, hlt, fun W' ho k a f cc hk hx => ?_⟩
 obtain ⟨g1, g2, g3⟩ := qew hk
 rw [hx] at g1 g2 g3
 rw [ho.cell_old hlt, ho.cell_old hlt, ho.cell_old hlt]
 exact ⟨hc _ _ g1, by rw [Nat.add_assoc]; exact hc _ _ g2, by rw [Nat.add_assoc]; exact hc _ _ g3⟩
theorem Tryz.infoLaS : (Tryz.prog.info? 43).map (·.size) = some 3 := by kernel_rfl
theorem nlast (W : Nat) (l : List Ln) (hz : 0 < l.length) (hn : l.length ≤ 4096) (a f cc : Nat) (hx : l.getD (l.length - 1) (0, 0, 0) = (a, f, cc)) (w : World) (v : Value) (hv : Rd w (fun _ => True) 3 v l.length (lnV l)) : Calls Tryz.prog 77 #[.agg #[.int .i64 W, v]] w (RetV w (.agg #[.int .i64 a, .int .i64 f, .int .i64 cc])) := by
 have HV := hID hv
 obtain ⟨A, c, rfl, _, hcell⟩ := hv.form
 clear hv
 obtain ⟨b, o, rfl, hlt, hc⟩ := qc9 (c := c) hcell hz
 have X : Off Nob w ((w.alloc (.cells #[.int .i64 W, .slice (some ⟨b, o, none⟩) l.length c] 62)).alloc (.cells #[.int .i64 0, .int .i64 0, .int .i64 0] 43)) := (oAl oRf _).alloc _
 obtain ⟨c0, c1, c2⟩ := hc _ X _ a f cc (by omega : l.length - 1 < l.length) hx
 have HX := hID X
 have hsub : ((l.length : Int) - 1) = ((l.length - 1 : Nat) : Int) := by omega
 have hq : l.length - 1 < l.length := by omega
 obtain ⟨q, hqe⟩ : ∃ q, l.length - 1 = q := ⟨_, rfl⟩
 rw [hqe] at c0 c1 c2 hsub hq
 clear hcell hc X hx hqe HV
 go_enter Tryz.func77, Tryz.ntmps77
 go_wp2_with fail
 have hB : Blk ((w.alloc (.cells #[.int .i64 W, .slice (some ⟨b, o, none⟩) l.length c] 62)).alloc (.cells #[.int .i64 a, .int .i64 f, .int .i64 cc] 43)) (w.heap.size + 1) 43 #[.int .i64 a, .int .i64 f, .int .i64 cc] := by
  have := Blk.new (w.alloc (.cells #[.int .i64 W, .slice (some ⟨b, o, none⟩) l.length c] 62)) 43 #[.int .i64 a, .int .i64 f, .int .i64 cc]
  rwa [World.size_alloc] at this
 exact bodyPost_ret (results_cell_row rfl _ _ (w.heap.size + 1) 43 _ (0, 0) _ rfl hB Tryz.underlying43 rfl Tryz.infoLaS) rfl ⟨rfl, (oAl oRf _).alloc _⟩
theorem q1l (W : Nat) (h1 : 1 ≤ W) (hW : W ≤ 8) (l : List Ln) (hn : l.length ≤ 4096) (w : World) (v : Value) (hv : Rd w (fun _ => True) 3 v l.length (lnV l)) : Calls Tryz.prog 92 #[.agg #[.int .i64 W, v]] w (qu6 W l w) := by
 have HV := hID hv
 obtain ⟨A, c, rfl, _, hcell⟩ := hv.form
 clear hv
 have HCL := hID hcell
 clear hcell
 go_enter Tryz.func92, Tryz.ntmps92
 have HB0 : Hid (Blk (w.alloc (.cells #[.int .i64 W, .slice A l.length c] 62)) w.heap.size 62 #[.int .i64 W, .slice A l.length c] ∧ Off Nob w (w.alloc (.cells #[.int .i64 W, .slice A l.length c] 62))) := hID ⟨Blk.new _ _ _, oAl oRf _⟩
 go_wp2_with fail
 revert HB0
 generalize (w.alloc (.cells #[.int .i64 W, .slice A l.length c] 62)) = w0
 intro HB0
 have GC : Hid (∀ W', Off Nob w0 W' → W'.cell? ⟨w.heap.size, 0, none⟩ = some (.int .i64 W) ∧ W'.cell? ⟨w.heap.size, 1, none⟩ = some (.slice A l.length c)) := hID (fun W' ho => by
  have h := HB0.out.1.to (ho.block _ HB0.out.1.lt id)
  exact ⟨h.cell 0, h.cell 1⟩)
 obtain ⟨t0, t1⟩ := GC.out _ oRf
 go_wp2_with fail
 refine (qoc W h1 hW l hn _ _ (HV.out.keepT HB0.out.2)).mono ?_
 rintro e w1 ⟨i, m, rfl, hres, o1⟩
 have X1 := hID o1
 clear o1 t0 t1
 rcases hres with ⟨hok, rfl⟩ | ⟨hno, hm⟩
 ·have HL := hID hok
  have hz := (LnFacts.of hok).pos
  obtain ⟨b, o, rfl, hlt, hc⟩ := qc9 (c := c) HCL.out hz
  have HC := hID hc
  clear hc
  have hr16 := (LnFacts.of hok).all _ (qhw (by omega : l.length - 1 < l.length))
  have HR : Hid ((l.getD (l.length - 1) (0, 0, 0)).1 = qa1 l) := hID (by rw [qgv hz]; rfl)
  obtain ⟨⟨a, f, cc⟩, hx⟩ : ∃ x, l.getD (l.length - 1) (0, 0, 0) = x := ⟨_, rfl⟩
  rw [hx] at hr16 HR
  replace HR : Hid (qa1 l = a) := hID HR.out.symm
  have hr : a < 16 := hr16.2.2
  have HX := hID hx
  clear hok hx hr16
  obtain ⟨t0, t1⟩ := GC.out _ X1.out
  obtain ⟨c0, c1, c2⟩ := HC.out _ (HB0.out.2.also X1.out) _ a f cc (by omega : l.length - 1 < l.length) HX.out
  have hsub : ((l.length : Int) - 1) = ((l.length - 1 : Nat) : Int) := by omega
  have hq : l.length - 1 < l.length := by omega
  obtain ⟨q, hqe⟩ : ∃ q, l.length - 1 = q := ⟨_, rfl⟩
  rw [hqe] at c0 c1 c2 hsub hq
  clear hqe
  go_wp2_with fail
  go_ret2
  exact ⟨_, _, rfl, .inl ⟨HL.out, by rw [HR.out], rfl⟩, HB0.out.2.also X1.out⟩
 ·have HN := hID hno
  clear hno
  obtain ⟨t0, t1⟩ := GC.out _ X1.out
  go_wp2_with fail
  go_ret2
  exact ⟨_, _, rfl, .inr ⟨HN.out, hm⟩, HB0.out.2.also X1.out⟩
theorem q1m (W : Nat) (h1 : 1 ≤ W) (hW : W ≤ 8) (l : List Ln) (hn : l.length ≤ 4096) (w : World) (v : Value) (hv : Rd w (fun _ => True) 3 v l.length (lnV l)) : Calls Tryz.prog 106 #[.agg #[.int .i64 W, v]] w (qu6 W l w) := by
 have HV := hID hv
 obtain ⟨A, c, rfl, _, hcell⟩ := hv.form
 clear hv
 have HCL := hID hcell
 clear hcell
 go_enter Tryz.func106, Tryz.ntmps106
 have HB0 : Hid (Blk (w.alloc (.cells #[.int .i64 W, .slice A l.length c] 62)) w.heap.size 62 #[.int .i64 W, .slice A l.length c] ∧ Off Nob w (w.alloc (.cells #[.int .i64 W, .slice A l.length c] 62))) := hID ⟨Blk.new _ _ _, oAl oRf _⟩
 go_wp2_with fail
 revert HB0
 generalize (w.alloc (.cells #[.int .i64 W, .slice A l.length c] 62)) = w0
 intro HB0
 have GC : Hid (∀ W', Off Nob w0 W' → W'.cell? ⟨w.heap.size, 0, none⟩ = some (.int .i64 W) ∧ W'.cell? ⟨w.heap.size, 1, none⟩ = some (.slice A l.length c)) := hID (fun W' ho => by
  have h := HB0.out.1.to (ho.block _ HB0.out.1.lt id)
  exact ⟨h.cell 0, h.cell 1⟩)
 obtain ⟨t0, t1⟩ := GC.out _ oRf
 go_wp2_with fail
 refine (qu5 W h1 hW l hn _ _ (HV.out.keepT HB0.out.2)).mono ?_
 rintro e w1 ⟨i, m, rfl, hres, o1⟩
 have X1 := hID o1
 clear o1 t0 t1
 rcases hres with ⟨hok, rfl⟩ | ⟨hno, hm⟩
 ·have HL := hID hok
  have hz := (LnFacts.of hok).pos
  obtain ⟨b, o, rfl, hlt, hc⟩ := qc9 (c := c) HCL.out hz
  have HC := hID hc
  clear hc
  have hr16 := (LnFacts.of hok).all _ (qhw (by omega : l.length - 1 < l.length))
  have HR : Hid ((l.getD (l.length - 1) (0, 0, 0)).1 = qa1 l) := hID (by rw [qgv hz]; rfl)
  obtain ⟨⟨a, f, cc⟩, hx⟩ : ∃ x, l.getD (l.length - 1) (0, 0, 0) = x := ⟨_, rfl⟩
  rw [hx] at hr16 HR
  replace HR : Hid (qa1 l = a) := hID HR.out.symm
  have hr : a < 16 := hr16.2.2
  have HX := hID hx
  clear hok hx hr16
  obtain ⟨t0, t1⟩ := GC.out _ X1.out
  have hfl : ∀ w, (Instr.field 43 (.agg #[.int .i64 a, .int .i64 f, .int .i64 cc]) 0).run Tryz.prog w = .ok (.int .i64 a) w := fun w => by kernel_rfl
  go_wp2_with fail
  refine (nlast W l hz hn a f cc HX.out _ _ (HV.out.keepT (HB0.out.2.also X1.out))).mono ?_
  rintro e w2 ⟨rfl, o2⟩
  have X2 := hID (X1.out.also o2)
  clear o2
  go_wp2_with fail
  go_ret2
  exact ⟨_, _, rfl, .inl ⟨HL.out, by rw [HR.out], rfl⟩, HB0.out.2.also X2.out⟩
 ·have HN := hID hno
  clear hno
  obtain ⟨t0, t1⟩ := GC.out _ X1.out
  go_wp2_with fail
  go_ret2
  exact ⟨_, _, rfl, .inr ⟨HN.out, hm⟩, HB0.out.2.also X1.out⟩
theorem qpz {l : List Ln} {k a f cc : Nat} (h : k < l.length) (hx : l.getD k (0, 0, 0) = (a, f, cc)) : qaq (l.take (k + 1)) = qaq (l.take k) ++ [f] := by
 rw [List.take_succ_eq_append_getElem h]
 have : l[k] = (a, f, cc) := by rw [gDe, gEe h] at hx; exact hx
 rw [this]
 simp [qaq]
theorem qu7 {l : List Ln} {k a f cc r : Nat} (h : k < l.length) (hx : l.getD k (0, 0, 0) = (a, f, cc)) : endsN r (l.take (k + 1)) = endsN r (l.take k) ++ if a = r then [f + cc - 1] else [] := by
 rw [List.take_succ_eq_append_getElem h]
 have : l[k] = (a, f, cc) := by rw [gDe, gEe h] at hx; exact hx
 rw [this]
 unfold endsN
 rw [List.filter_append, List.map_append]
 congr 1
 by_cases e : a = r <;> simp [e]
def qll (W : Nat) (L : List Nat) (w : World) (e : Ending) (w' : World) : Prop := ∃ u, e = .returned (.tuple #[u, .int .i64 0]) ∧ Rd w' (fun k => w.heap.size ≤ k) 1 u W (qab L) ∧ Off Nob w w'
theorem qzt (W : Nat) (h1 : 1 ≤ W) (hW : W ≤ 8) (l : List Ln) (hok : qao W l = true) (hn : l.length ≤ 4096) (w : World) (v : Value) (hv : Rd w (fun _ => True) 3 v l.length (lnV l)) : Calls Tryz.prog 58 #[.agg #[.int .i64 W, v]] w (qll W (ofN W (qaq l)) w) := by
 obtain ⟨hi0, hi, hz0, hz1, hz2⟩ := info_parts Tryz.infoI'
 have LF := hID (LnFacts.of hok)
 have HOK := hID hok
 have hz := LF.out.pos
 clear hok
 have HV := hID hv
 obtain ⟨A, c, rfl, _, hcell⟩ := hv.form
 clear hv
 obtain ⟨b, o, rfl, hlt, hc⟩ := qc9 (c := c) hcell hz
 have HC := hID hc
 clear hc hcell
 go_enter Tryz.func58, Tryz.ntmps58
 have HB0 : Hid (Blk (w.alloc (.cells #[.int .i64 W, .slice (some ⟨b, o, none⟩) l.length c] 62)) w.heap.size 62 #[.int .i64 W, .slice (some ⟨b, o, none⟩) l.length c] ∧ Off Nob w (w.alloc (.cells #[.int .i64 W, .slice (some ⟨b, o, none⟩) l.length c] 62))) := hID ⟨Blk.new _ _ _, oAl oRf _⟩
 go_wp2_with fail
 revert HB0
 generalize (w.alloc (.cells #[.int .i64 W, .slice (some ⟨b, o, none⟩) l.length c] 62)) = w0
 intro HB0
 have GC : Hid (∀ W', Off Nob w0 W' → W'.cell? ⟨w.heap.size, 0, none⟩ = some (.int .i64 W) ∧ W'.cell? ⟨w.heap.size, 1, none⟩ = some (.slice (some ⟨b, o, none⟩) l.length c)) := hID (fun W' ho => by
  have h := HB0.out.1.to (ho.block _ HB0.out.1.lt id)
  exact ⟨h.cell 0, h.cell 1⟩)
 obtain ⟨t0, t1⟩ := GC.out _ oRf
 go_wp2_with fail
 refine (qoc W h1 hW l hn _ _ (HV.out.keepT HB0.out.2)).mono ?_
 rintro e w1 ⟨i, m, rfl, hres, o1⟩
 have X1 := hID o1
 obtain rfl : m = 0 := by
  rcases hres with ⟨_, h⟩ | ⟨h, _⟩
  ·exact h
  ·rw [HOK.out] at h; exact absurd h (by simp)
 clear o1 t0 t1 hres
 go_wp2_with fail
 go_loopw [6, 7] (fun x y wr => ∃ k : Nat, k ≤ l.length ∧ y = .int .i64 (k : Int) ∧ OwnL w0 wr 3 1 x (qaq (l.take k)).length (natsV (qaq (l.take k)))) (fun _ y _ => l.length - (intOf y).toNat)
 case atStart => exact ⟨0, Nat.zero_le _, rfl, OwnL.nilAt X1.out _ _⟩
 case round =>
  obtain ⟨k, hk, rfl, oW⟩ := hrel
  obtain ⟨AA, cq, rfl⟩ := oW.form
  have HO := hID oW
  clear oW X1
  obtain ⟨t0, t1⟩ := GC.out _ HO.out.2
  have hlk : (qaq (l.take k)).length ≤ 4096 := by simp [qaq]; omega
  by_cases hlt : k < l.length
  ·have d1 : decide ((k : Int) < (l.length : Int)) = true := dcT
   obtain ⟨⟨a, f, cc⟩, hx⟩ : ∃ x, l.getD k (0, 0, 0) = x := ⟨_, rfl⟩
   obtain ⟨c0, c1, c2⟩ := HC.out _ (HB0.out.2.also HO.out.2) k a f cc hlt hx
   have HS := hID (qpz hlt hx)
   clear hx
   obtain ⟨M, hM⟩ : ∃ M, qaq (l.take k) = M := ⟨_, rfl⟩
   rw [hM] at hlk HO HS ⊢
   clear hM
   obtain ⟨q, hq⟩ : ∃ q, M.length = q := ⟨_, rfl⟩
   have HQ := hID hq
   rw [hq] at hlk HO ⊢
   clear hq
   go_wp2_with (at_builtin; refine @wpList_append_lies _ _ _ _ _ _ _ rfl _ _ 22 rfl w0.heap.size 3 hi0 (.int .i64 0) 1 8 Tryz.underlying22 hi hz0 hz1 hz2 rfl (by decide) (.slice AA q cq) q (natsV M) rfl (HO.out.1.alloc _) ⟨wr.heap.size, 0, none⟩ 1 1 [.int .i64 (f : Int)] rfl rfl ?c1 (by intro u hu; simp at hu; subst hu; rfl) (by decide) (by unfold maxLen; omega) (by omega) (by have := HO.out.2.size; simp; omega) _ rfl ?_)
   case c1 => exact qc7 _ _ _
   intro g cap w4 oW gW hat hltg
   have O4 : Hid (OwnL w0 w4 3 1 (.slice (some ⟨g, 0, none⟩) (q + 1) cap) (M ++ [f]).length (natsV (M ++ [f]))) := hID (by
    have := HO.out.grown (oAl oRf _) oW gW
    rw [List.length_append, HQ.out, qej]
    exact this)
   clear oW gW hat hltg
   go_wp2_with fail
   go_roundw
   case rel => exact ⟨k + 1, hlt, by go_num, by rw [HS.out]; exact O4.out⟩
   case measure => simp [intOf]; omega
  ·obtain rfl : k = l.length := by omega
   have d1 : decide ((l.length : Int) < (l.length : Int)) = false := dcF
   rw [List.take_length] at HO hlk
   have HF := hID (g_of W h1 hW (qaq l) (fun i hi => by
    obtain ⟨x, hx, rfl⟩ := List.mem_map.1 hi
    have := LF.out.all x hx
    have := LF.out.e64
    omega) hlk _ _ HO.out.rd)
   go_wp2_with fail
   refine HF.out.mono ?_
   rintro e w2 ⟨u, rfl, hr, o2⟩
   have HR : Hid (Rd w2 (fun k => w.heap.size ≤ k) 1 u W (qab (ofN W (qaq l))) ∧ Off Nob w w2) := hID ⟨hr.mono (fun j hj => by have := HB0.out.2.size; have := HO.out.2.size; omega), (HB0.out.2.also HO.out.2).also o2⟩
   clear hr o2
   go_wp2_with fail
   go_ret2
   exact ⟨_, rfl, HR.out⟩
theorem rends (W : Nat) (h1 : 1 ≤ W) (hW : W ≤ 8) (l : List Ln) (hok : qao W l = true) (hn : l.length ≤ 4096) (r : Nat) (hr : r ≤ qa1 l) (w : World) (v : Value) (hv : Rd w (fun _ => True) 3 v l.length (lnV l)) : Calls Tryz.prog 59 #[.agg #[.int .i64 W, v], .int .i64 r] w (qll W (ofN W (endsN r l)) w) := by
 obtain ⟨hi0, hi, hz0, hz1, hz2⟩ := info_parts Tryz.infoI'
 have LF := hID (LnFacts.of hok)
 have HOK := hID hok
 have hz := LF.out.pos
 have HRL := hID hr
 clear hok hr
 have HV := hID hv
 obtain ⟨A, c, rfl, _, hcell⟩ := hv.form
 clear hv
 obtain ⟨b, o, rfl, hlt, hc⟩ := qc9 (c := c) hcell hz
 have HC := hID hc
 clear hc hcell
 go_enter Tryz.func59, Tryz.ntmps59
 have HB0 : Hid (Blk (w.alloc (.cells #[.int .i64 W, .slice (some ⟨b, o, none⟩) l.length c] 62)) w.heap.size 62 #[.int .i64 W, .slice (some ⟨b, o, none⟩) l.length c] ∧ Off Nob w (w.alloc (.cells #[.int .i64 W, .slice (some ⟨b, o, none⟩) l.length c] 62))) := hID ⟨Blk.new _ _ _, oAl oRf _⟩
 go_wp2_with fail
 revert HB0
 generalize (w.alloc (.cells #[.int .i64 W, .slice (some ⟨b, o, none⟩) l.length c] 62)) = w0
 intro HB0
 have GC : Hid (∀ W', Off Nob w0 W' → W'.cell? ⟨w.heap.size, 0, none⟩ = some (.int .i64 W) ∧ W'.cell? ⟨w.heap.size, 1, none⟩ = some (.slice (some ⟨b, o, none⟩) l.length c)) := hID (fun W' ho => by
  have h := HB0.out.1.to (ho.block _ HB0.out.1.lt id)
  exact ⟨h.cell 0, h.cell 1⟩)
 obtain ⟨t0, t1⟩ := GC.out _ oRf
 go_wp2_with fail
 refine (q1l W h1 hW l hn _ _ (HV.out.keepT HB0.out.2)).mono ?_
 rintro e w1 ⟨i, m, rfl, hres, o1⟩
 have X1 := hID o1
 obtain ⟨hi1, rfl⟩ : i = (qa1 l : Int) + 1 ∧ m = 0 := by
  rcases hres with ⟨_, h⟩ | ⟨h, _⟩
  ·exact h
  ·rw [HOK.out] at h; exact absurd h (by simp)
 have e1 : decide ((r : Int) < 0) = false := dcF
 have e2 : decide (i ≤ (r : Int)) = false := dF (by rw [hi1]; have := HRL.out; omega)
 clear o1 t0 t1 hres hi1
 go_wp2_with fail
 go_loopw [8, 9] (fun x y wr => ∃ k : Nat, k ≤ l.length ∧ y = .int .i64 (k : Int) ∧ OwnL w0 wr 3 1 x (endsN r (l.take k)).length (natsV (endsN r (l.take k))) ∧ (endsN r (l.take k)).length ≤ k) (fun _ y _ => l.length - (intOf y).toNat)
 case atStart => exact ⟨0, Nat.zero_le _, rfl, OwnL.nilAt X1.out _ _, Nat.le_refl _⟩
 case round =>
  obtain ⟨k, hk, rfl, oW, hlk⟩ := hrel
  obtain ⟨AA, cq, rfl⟩ := oW.form
  have HO := hID oW
  clear oW X1
  obtain ⟨t0, t1⟩ := GC.out _ HO.out.2
  by_cases hlt : k < l.length
  ·have d1 : decide ((k : Int) < (l.length : Int)) = true := dcT
   obtain ⟨⟨a, f, cc⟩, hx⟩ : ∃ x, l.getD k (0, 0, 0) = x := ⟨_, rfl⟩
   obtain ⟨c0, c1, c2⟩ := HC.out _ (HB0.out.2.also HO.out.2) k a f cc hlt hx
   have HS := hID (qu7 (r := r) hlt hx)
   have HX := hID hx
   have hall := LF.out.all _ (qhw hlt)
   rw [hx] at hall
   have hcc : 1 ≤ cc := hall.2.1
   have hfc : f + cc ≤ 256 := Nat.le_trans hall.1 LF.out.e256
   clear hx hall
   obtain ⟨M, hM⟩ : ∃ M, endsN r (l.take k) = M := ⟨_, rfl⟩
   rw [hM] at hlk HO HS ⊢
   clear hM
   by_cases har : a = r
   ·have d2 : ((a : Int) == (r : Int)) = true := by rw [beq_iff_eq]; omega
    rw [if_pos har] at HS
    clear har
    obtain ⟨q, hq⟩ : ∃ q, M.length = q := ⟨_, rfl⟩
    have HQ := hID hq
    rw [hq] at hlk HO ⊢
    clear hq
    have hsum : IntKind.i64.wrap ((f : Int) + (cc : Int)) = (f : Int) + (cc : Int) := IntWalk.i64_in _ (by omega)
    have hlast : IntKind.i64.wrap ((f : Int) + (cc : Int) - 1) = ((f + cc - 1 : Nat) : Int) := by rw [IntWalk.i64_in _ (by omega)]; omega
    have hlast2 : (f : Int) + (cc : Int) - 1 = ((f + cc - 1 : Nat) : Int) := by omega
    obtain ⟨y, hy⟩ : ∃ y, f + cc - 1 = y := ⟨_, rfl⟩
    have hy64 : IntKind.i64.wrap (y : Int) = (y : Int) := IntWalk.i64_in _ (by omega)
    rw [hy] at hlast hlast2 HS
    clear hy
    go_wp2_with fail
    go_region_held_law (fun W' => W'.cell? ⟨w.heap.size, 1, none⟩ = some (.slice (some ⟨b, o, none⟩) l.length c) ∧ W'.cell? ⟨b, o + k * 3 + 1, none⟩ = some (.int .i64 (f : Int)) ∧ W'.cell? ⟨b, o + k * 3 + 2, none⟩ = some (.int .i64 (cc : Int)))
     (first | with_reducible assumption | go_keep)
     (first
      | (refine step_append_lies _ rfl _ _ 22 rfl w0.heap.size 3 hi0 (.int .i64 0) 1 8 Tryz.underlying22 hi hz0 hz1 hz2 rfl (by decide) (.slice AA q cq) q (natsV M) rfl (qas (HO.out.1.alloc (.cells #[.int .i64 (y : Int)] 3)) (fun _ _ => rfl)) ⟨wr.heap.size, 0, none⟩ 1 1 [.int .i64 (y : Int)] rfl rfl (qc7 wr (.int .i64 (y : Int)) 3) (by intro u hu; simp at hu; subst hu; rfl) (by decide) (by unfold maxLen; omega) (by omega) (by have := HO.out.2.size; simp; omega) _ rfl ?_; intro g cap w4 oW gW hat hltg; have O4 : Hid (OwnL w0 w4 3 1 (.slice (some ⟨g, 0, none⟩) (q + 1) cap) (M ++ [y]).length (natsV (M ++ [y]))) := hID (by have := HO.out.grown (Off.drew (oAl oRf _)) oW gW; rw [List.length_append, HQ.out, qej]; exact this); clear oW gW hat hltg; obtain ⟨t0, t1⟩ := GC.out _ O4.out.2; obtain ⟨c0, c1, c2⟩ := HC.out _ (HB0.out.2.also O4.out.2) k a f cc hlt HX.out; try simp only [Act.put, qL])
      | fail)
    go_wp2_with fail
    go_roundw
    case rel => exact ⟨k + 1, hlt, by go_num, by rw [HS.out]; exact O4.out, by rw [HS.out, List.length_append, HQ.out]; simp; omega⟩
    case measure => simp [intOf]; omega
   ·have d2 : ((a : Int) == (r : Int)) = false := by rw [beq_eq_false_iff_ne]; omega
    rw [if_neg har, List.append_nil] at HS
    clear har
    go_wp2_with fail
    go_roundw
    case rel => exact ⟨k + 1, hlt, by go_num, by rw [HS.out]; exact HO.out, by rw [HS.out]; omega⟩
    case measure => simp [intOf]; omega
  ·obtain rfl : k = l.length := by omega
   have d1 : decide ((l.length : Int) < (l.length : Int)) = false := dcF
   rw [List.take_length] at HO hlk
   have HF := hID (g_of W h1 hW (endsN r l) (fun i hi => by
    obtain ⟨x, hx, rfl, _⟩ := qbe.1 hi
    have := LF.out.all x hx
    have := LF.out.e64
    unfold qa5
    omega) (by omega) _ _ HO.out.rd)
   go_wp2_with fail
   refine HF.out.mono ?_
   rintro e w2 ⟨u, rfl, hr, o2⟩
   have HR : Hid (Rd w2 (fun k => w.heap.size ≤ k) 1 u W (qab (ofN W (endsN r l))) ∧ Off Nob w w2) := hID ⟨hr.mono (fun j hj => by have := HB0.out.2.size; have := HO.out.2.size; omega), (HB0.out.2.also HO.out.2).also o2⟩
   clear hr o2
   go_wp2_with fail
   go_ret2
   exact ⟨_, rfl, HR.out⟩
end
section
open Go.RowKit
theorem ql4 (w : World) (v : Value) (hv : Rd w (fun _ => True) 1 v 2 [.int .i64 0, .int .i64 2]) : Calls Tryz.prog 71 #[.int .i64 1, v] w (fun e w' => ∃ u, e = .returned (.tuple #[u, .int .i64 0]) ∧ Rd w' (fun k => w.heap.size ≤ k) 1 u 1 [.int .u64 5] ∧ Off Nob w w') :=
 g_of 1 (by decide) (by decide) [0, 2] (by decide) (by decide) w v hv
theorem qu9 (w : World) (v : Value) (hv : Rd w (fun _ => True) 1 v 2 [.int .i64 1, .int .i64 2]) : Calls Tryz.prog 71 #[.int .i64 1, v] w (fun e w' => ∃ u, e = .returned (.tuple #[u, .int .i64 0]) ∧ Rd w' (fun k => w.heap.size ≤ k) 1 u 1 [.int .u64 6] ∧ Off Nob w w') :=
 g_of 1 (by decide) (by decide) [1, 2] (by decide) (by decide) w v hv
end
section
open Go.RowKit
end
section
open Go.RowKit
theorem qzx {w V V' : World} {g : Nat} {x y : Value} (o : Off Nob V V') (h0 : V.cell? ⟨g, 0, none⟩ = some x) (h1 : V.cell? ⟨g, 1, none⟩ = some y) (h : Off Nob w V) : V'.cell? ⟨g, 0, none⟩ = some x ∧ V'.cell? ⟨g, 1, none⟩ = some y ∧ Off Nob w V' :=
 ⟨(o.cell_old (World.block_lt_of_cell? _ _ h0) 0).trans h0, (o.cell_old (World.block_lt_of_cell? _ _ h1) 1).trans h1, h.also o⟩
theorem qvi (W : Nat) (h1 : 1 ≤ W) (hW : W ≤ 8) (l : List Ln) (hn : l.length ≤ 4096) (hok0 : qao W l = true) (w : World) (v : Value) (hv : Rd w (fun _ => True) 3 v l.length (lnV l)) : Calls Tryz.prog 43 #[.agg #[.int .i64 W, v]] w (RetV w (.tuple #[.int .i64 (lnEnd 0 l), .int .i64 0])) := by
 have HV := hID hv
 obtain ⟨A, c, rfl, _, hcell⟩ := hv.form
 clear hv
 have HCL := hID hcell
 clear hcell
 go_enter Tryz.func43, Tryz.ntmps43
 have HB0 : Hid (Blk (w.alloc (.cells #[.int .i64 W, .slice A l.length c] 62)) w.heap.size 62 #[.int .i64 W, .slice A l.length c] ∧ Off Nob w (w.alloc (.cells #[.int .i64 W, .slice A l.length c] 62))) := hID ⟨Blk.new _ _ _, oAl oRf _⟩
 go_wp2_with fail
 revert HB0
 generalize (w.alloc (.cells #[.int .i64 W, .slice A l.length c] 62)) = w0
 intro HB0
 have GC : Hid (∀ W', Off Nob w0 W' → W'.cell? ⟨w.heap.size, 0, none⟩ = some (.int .i64 W) ∧ W'.cell? ⟨w.heap.size, 1, none⟩ = some (.slice A l.length c)) := hID (fun W' ho => by
  have h := HB0.out.1.to (ho.block _ HB0.out.1.lt id)
  exact ⟨h.cell 0, h.cell 1⟩)
 obtain ⟨t0, t1⟩ := GC.out _ oRf
 go_wp2_with fail
 refine (qu5 W h1 hW l hn _ _ (HV.out.keepT HB0.out.2)).mono ?_
 rintro e w1 ⟨i, m, rfl, hres, o1⟩
 have X1 := hID o1
 clear o1 t0 t1
 rcases hres with ⟨hok, rfl⟩ | ⟨hno, hm⟩
 ·have HL := hID hok
  have hz := (LnFacts.of hok).pos
  obtain ⟨b, o, rfl, hlt, hc⟩ := qc9 (c := c) HCL.out hz
  have HC := hID hc
  clear hc
  have hlast := (LnFacts.of hok).last
  have he := (LnFacts.of hok).e256
  rw [← qgv hz] at hlast
  obtain ⟨⟨a, f, cc⟩, hx⟩ : ∃ x, l.getD (l.length - 1) (0, 0, 0) = x := ⟨_, rfl⟩
  rw [hx] at hlast
  have hfc : (f : Int) + (cc : Int) = (lnEnd 0 l : Int) := by have : f + cc = lnEnd 0 l := hlast; omega
  have hfb : f ≤ 256 ∧ cc ≤ 256 := by have : f + cc = lnEnd 0 l := hlast; omega
  obtain ⟨hf256, hc256⟩ := hfb
  have HE := hID hfc
  have HX := hID hx
  clear hok hx hlast he hfc
  obtain ⟨t0, t1⟩ := GC.out _ X1.out
  have hf1 : ∀ w, (Instr.field 43 (.agg #[.int .i64 a, .int .i64 f, .int .i64 cc]) 1).run Tryz.prog w = .ok (.int .i64 f) w := fun w => by kernel_rfl
  have hf2 : ∀ w, (Instr.field 43 (.agg #[.int .i64 a, .int .i64 f, .int .i64 cc]) 2).run Tryz.prog w = .ok (.int .i64 cc) w := fun w => by kernel_rfl
  have HO := HB0.out.2.also X1.out
  have hwr : IntKind.i64.wrap ((f : Int) + (cc : Int)) = (f : Int) + (cc : Int) := by rw [IntKind.wrap_i64]; omega
  go_wp2_with fail
  have T0 : (World.cell? w1.drew ⟨w.heap.size, 0, none⟩ = some (.int .i64 W) ∧ World.cell? w1.drew ⟨w.heap.size, 1, none⟩ = some (.slice (some ⟨b, o, none⟩) l.length c) ∧ Off Nob w w1.drew) := ⟨t0, t1, Off.drew HO⟩
  go_region_held3 (fun V => V.cell? ⟨w.heap.size, 0, none⟩ = some (.int .i64 W) ∧ V.cell? ⟨w.heap.size, 1, none⟩ = some (.slice (some ⟨b, o, none⟩) l.length c) ∧ Off Nob w V)
   (first
    | with_reducible assumption
    | exact T0
    | go_keep)
   (first
    | (go_at_call 77; refine (nlast W l hz hn a f cc HX.out _ _ (HV.out.keepT (by first | assumption | exact Off.drew HO | exact (by assumption : (World.cell? _ ⟨w.heap.size, 0, none⟩ = some (.int .i64 W) ∧ World.cell? _ ⟨w.heap.size, 1, none⟩ = some (.slice (some ⟨b, o, none⟩) l.length c) ∧ Off Nob w _)).2.2))).mono ?_; rintro e w2 ⟨rfl, o2⟩; have hS2 := qzx (w := w) (g := w.heap.size) (x := .int .i64 W) (y := .slice (some ⟨b, o, none⟩) l.length c) o2 (by first | assumption | exact (by assumption : (World.cell? _ ⟨w.heap.size, 0, none⟩ = some (.int .i64 W) ∧ World.cell? _ ⟨w.heap.size, 1, none⟩ = some (.slice (some ⟨b, o, none⟩) l.length c) ∧ Off Nob w _)).1) (by first | assumption | exact (by assumption : (World.cell? _ ⟨w.heap.size, 0, none⟩ = some (.int .i64 W) ∧ World.cell? _ ⟨w.heap.size, 1, none⟩ = some (.slice (some ⟨b, o, none⟩) l.length c) ∧ Off Nob w _)).2.1) (by first | assumption | exact Off.drew HO | exact (by assumption : (World.cell? _ ⟨w.heap.size, 0, none⟩ = some (.int .i64 W) ∧ World.cell? _ ⟨w.heap.size, 1, none⟩ = some (.slice (some ⟨b, o, none⟩) l.length c) ∧ Off Nob w _)).2.2)))
  go_wp2_with fail
  go_ret2
  exact ⟨by rw [← HE.out]; rfl, by first | assumption | exact (by assumption : (World.cell? _ ⟨w.heap.size, 0, none⟩ = some (.int .i64 W) ∧ World.cell? _ ⟨w.heap.size, 1, none⟩ = some (.slice (some ⟨b, o, none⟩) l.length c) ∧ Off Nob w _)).2.2⟩
 ·rw [hok0] at hno
  cases hno
end
section
def laneI : List Ln → Nat → Nat
  | [], _ => 0
  | x :: l, k => if k < x.2.1 + x.2.2 then 0 else laneI l k + 1
theorem qcc {n r : Nat} {b : Bool} {x : Ln} {l : List Ln} (h : lnOk n r b (x :: l) = true) : 1 ≤ x.2.2 ∧ x.2.1 = n ∧ lnOk (n + x.2.2) x.1 true l = true := by
  simp only [lnOk, Bool.and_eq_true, decide_eq_true_eq] at h
  exact ⟨h.1.1.1.1.1, h.1.1.1.2, h.2⟩
theorem qh0 : ∀ (l : List Ln) (n r : Nat) (b : Bool), lnOk n r b l = true → ∀ i, i < l.length → n ≤ (l.getD i (0, 0, 0)).2.1
  | [], _, _, _, _, i, hi => by simp at hi
  | x :: l, n, r, b, h, 0, _ => by
    obtain ⟨_, h2, _⟩ := qcc h
    simp [h2]
  | x :: l, n, r, b, h, i + 1, hi => by
    obtain ⟨h1, h2, h3⟩ := qcc h
    have := qh0 l _ _ _ h3 i (by simpa using hi)
    simp only [List.getD_cons_succ]
    omega
theorem qes : ∀ (l : List Ln) (n r : Nat) (b : Bool) (k : Nat), lnOk n r b l = true → n ≤ k → k < lnEnd n l →
    laneI l k < l.length ∧ (l.getD (laneI l k) (0, 0, 0)).2.1 ≤ k ∧ k < (l.getD (laneI l k) (0, 0, 0)).2.1 + (l.getD (laneI l k) (0, 0, 0)).2.2 ∧ (∀ i, i ≤ laneI l k → (l.getD i (0, 0, 0)).2.1 ≤ k) ∧ (∀ i, i < l.length → laneI l k < i → k < (l.getD i (0, 0, 0)).2.1) ∧ (∀ i, i < laneI l k → (l.getD i (0, 0, 0)).2.1 + (l.getD i (0, 0, 0)).2.2 ≤ k)
  | [], n, r, b, k, _, h1, h2 => by simp only [lnEnd] at h2; omega
  | x :: l, n, r, b, k, h, h1, h2 => by
    obtain ⟨p1, p2, p3⟩ := qcc h
    simp only [laneI]
    split
    · rename_i hlt
      refine ⟨by simp, by simp; omega, by simpa using hlt, fun i hi => ?_, fun i hi hi2 => ?_, fun i hi => by omega⟩
      · obtain rfl : i = 0 := by omega
        simp; omega
      · cases i with
        | zero => omega
        | succ i =>
          have := qh0 l _ _ _ p3 i (by simpa using hi)
          simp only [List.getD_cons_succ]
          omega
    · rename_i hge
      obtain ⟨q1, q2, q3, q4, q5, q6⟩ := qes l (n + x.2.2) x.1 true k p3 (by omega) (by simpa [lnEnd] using h2)
      refine ⟨by simpa using q1, by simpa using q2, by simpa using q3, fun i hi => ?_, fun i hi hi2 => ?_, fun i hi => ?_⟩
      · cases i with
        | zero => simp; omega
        | succ i => simpa using q4 i (by omega)
      · cases i with
        | zero => omega
        | succ i => simpa using q5 i (by simpa using hi) (by omega)
      · cases i with
        | zero => simp; omega
        | succ i => simpa using q6 i (by omega)
theorem qi2 (q : Nat → Bool) (I : Nat) : ∀ m, (∀ i, i < m → (q i = true ↔ i ≤ I)) → (List.range m).countP q = min m (I + 1)
  | 0, _ => by simp
  | m + 1, h => by
    have ih := qi2 q I m fun i hi => h i (by omega)
    rw [List.range_succ, List.countP_append, ih, List.countP_singleton]
    have hm := h m (by omega)
    by_cases hle : m ≤ I
    · rw [if_pos (hm.2 hle)]; omega
    · rw [if_neg (fun e => hle (hm.1 e))]; omega
theorem qqb {l : List Ln} {W k : Nat} (h : qao W l = true) (hk : k < lnEnd 0 l) : (List.range l.length).countP (fun i => !decide (k < (l.getD i (0, 0, 0)).2.1)) = laneI l k + 1 := by
  unfold qao at h
  simp only [Bool.and_eq_true] at h
  obtain ⟨q1, q2, q3, q4, q5, q6⟩ := qes l 0 0 false k h.1.2 (Nat.zero_le _) hk
  rw [qi2 _ (laneI l k)]
  · omega
  · intro i hi
    simp only [Bool.not_eq_true', decide_eq_false_iff_not, Nat.not_lt]
    refine ⟨fun h2 => ?_, fun h2 => q4 i h2⟩
    rcases Nat.lt_or_ge (laneI l k) i with h3 | h3
    · have := q5 i hi h3; omega
    · exact h3
theorem qqc {l : List Ln} {W : Nat} (h : qao W l = true) : ∀ a b, a ≤ b → b < l.length → (l.getD a (0, 0, 0)).2.1 ≤ (l.getD b (0, 0, 0)).2.1 := by
  unfold qao at h
  simp only [Bool.and_eq_true] at h
  have key : ∀ (l : List Ln) (n r : Nat) (bb : Bool), lnOk n r bb l = true → ∀ a b, a ≤ b → b < l.length → (l.getD a (0, 0, 0)).2.1 ≤ (l.getD b (0, 0, 0)).2.1 := by
    intro l
    induction l with
    | nil => intro n r bb _ a b _ hb; simp at hb
    | cons x l ih =>
      intro n r bb h a b hab hb
      obtain ⟨p1, p2, p3⟩ := qcc h
      cases b with
      | zero => obtain rfl : a = 0 := by omega
                exact Nat.le_refl _
      | succ b =>
        cases a with
        | zero =>
          have := qh0 l _ _ _ p3 b (by simpa using hb)
          simp only [List.getD_cons_succ, List.getD_cons_zero]
          omega
        | succ a => simpa using ih _ _ _ p3 a b (by omega) (by simpa using hb)
  exact key l _ _ _ h.1.2
end
end Go.Proofs.YtlgjaefcfnndhaaGreatDoor
