/-
 lanes.Find, of a plan that is right: over sort.Search of the library.
-/
import Derived.Test.YtlgjaefcfnndhaaGreatDoorL28
import Derived.Test.YtlgjaefcfnndhaaGreatDoorL34
import Derived.Shelf.SlSorted.Search
set_option linter.unusedVariables false
set_option linter.unusedSimpArgs false
set_option maxHeartbeats 16000000
set_option maxRecDepth 100000
namespace Go.Proofs.YtlgjaefcfnndhaaGreatDoor
open Go.RowKit Go.Shelf Go.Lib Go.Sort
def Tryz.seRen : Ren := ⟨fun _ => 86, fun x => if x = 3 then 3 else if x = 4 then 4 else if x = 35 then 145 else if x = 38 then 139 else 0, fun _ => 0⟩
theorem Tryz.seLay : SlLaysO.n16 Tryz.prog Tryz.seRen where
 mixed := by kernel_rfl
 f16 := Tryz.func86
 t3 := by kernel_rfl
 a3 := fun w => by kernel_rfl
 z3 := fun w => by kernel_rfl
 v3 := fun w => by kernel_rfl
 t4 := by kernel_rfl
 a4 := fun w => by kernel_rfl
 z4 := fun w => by kernel_rfl
 v4 := fun w => by kernel_rfl
 t35 := by kernel_rfl
 a35 := fun w => by kernel_rfl
 z35 := fun w => by kernel_rfl
 v35 := fun w => by kernel_rfl
 t38 := by kernel_rfl
 a38 := fun w => by kernel_rfl
 z38 := fun w => by kernel_rfl
 v38 := fun w => by kernel_rfl
theorem qxz (W : Nat) (l : List Ln) (k pB kB i : Nat) (hi : i < l.length) (hn : l.length ≤ 4096) (w : World) (b o c : Nat) (h0 : w.cell? ⟨pB, 1, none⟩ = some (.slice (some ⟨b, o, none⟩) l.length c)) (h1 : w.cell? ⟨kB, 0, none⟩ = some (.int .i64 (k : Int)))
  (hc : w.cell? ⟨b, o + i * 3 + 1, none⟩ = some (.int .i64 ((l.getD i (0, 0, 0)).2.1 : Int))) :
  Calls Tryz.prog 87 (#[.int .i64 (i : Int)] ++ #[.pointer (some ⟨pB, 0, none⟩), .pointer (some ⟨kB, 0, none⟩)]) w fun e w' => e = .returned (.bool (decide (k < (l.getD i (0, 0, 0)).2.1))) ∧ ∃ q, w' = w.drewN q := by
 obtain ⟨f, hf⟩ : ∃ f, (l.getD i (0, 0, 0)).2.1 = f := ⟨_, rfl⟩
 rw [hf] at hc ⊢
 obtain ⟨n, hn2⟩ : ∃ n, l.length = n := ⟨_, rfl⟩
 rw [hn2] at hi h0 hn
 clear hf hn2
 have hdec : decide (k < f) = decide ((k : Int) < (f : Int)) := by rw [decide_eq_decide]; omega
 rw [hdec]
 clear hdec
 go_enter Tryz.func87, Tryz.ntmps87
 go_wp2
 go_region
 all_goals go_wp2
 all_goals go_ret
 all_goals exact ⟨by first | rfl | simp, 1, rfl⟩
theorem qze (W : Nat) (h1 : 1 ≤ W) (hW : W ≤ 8) (l : List Ln) (hn : l.length ≤ 4096) (hok : qam W l = true) (k : Nat) (hk : k < lnEnd 0 l) (w : World) (v : Value) (hv : Rd w (fun _ => True) 3 v l.length (lnV l)) :
  Calls Tryz.prog 53 #[.agg #[.int .i64 W, v], .int .i64 (k : Int)] w (RetV w (.tuple #[.int .i64 (laneI l k : Int), .int .i64 ((k - (l.getD (laneI l k) (0, 0, 0)).2.1 : Nat) : Int), .int .i64 0])) := by
 have HV := hID hv
 obtain ⟨A, c, rfl, _, hcell⟩ := hv.form
 have hz := (LnFacts.of hok).pos
 have he := (LnFacts.of hok).e256
 obtain ⟨b, o, rfl, hlt, hc⟩ := hcell hz
 have HC : Hid (∀ V, Off Nob w V → ∀ i, i < l.length → V.cell? ⟨b, o + i * 3 + 1, none⟩ = some (.int .i64 ((l.getD i (0, 0, 0)).2.1 : Int))) := hID (fun V oV i hi => by
  rw [oV.cell_old hlt, Nat.add_assoc]
  exact hc _ _ (qex hi).2.1)
 have hsp : laneI l k < l.length ∧ (l.getD (laneI l k) (0, 0, 0)).2.1 ≤ k := by
  have h := hok
  unfold qam at h
  simp only [Bool.and_eq_true] at h
  obtain ⟨q1, q2, _⟩ := qeu l 0 0 false k h.1.2 (Nat.zero_le _) hk
  exact ⟨q1, q2⟩
 have HCNT := hID (qo0 hok hk)
 have HMO := hID (qo1 hok)
 have HSP := hID (fun (V : World) (oV : Off Nob w V) => qt5 W h1 hW l hn hok V _ (hv.keepT oV))
 have HSC := hID (fun (pB kB : Nat) (V : World) (oV : Off Nob w V) (hp : V.cell? ⟨pB, 1, none⟩ = some (.slice (some ⟨b, o, none⟩) l.length c)) (hkk : V.cell? ⟨kB, 0, none⟩ = some (.int .i64 (k : Int))) =>
  Any.sort_Search Tryz.seLay 87 #[.pointer (some ⟨pB, 0, none⟩), .pointer (some ⟨kB, 0, none⟩)] l.length (fun i => decide (k < (l.getD i (0, 0, 0)).2.1)) V (fun args w => enters_of Tryz.func87 (by kernel_rfl) rfl args w) (by omega)
   (fun m os i hi => (qxz W l k pB kB i hi hn _ b o c (cell_grown (World.block_lt_of_cell? _ _ hp) hp m os) (cell_grown (World.block_lt_of_cell? _ _ hkk) hkk m os) (cell_grown (World.block_lt_of_cell? _ _ (HC.out V oV i hi)) (HC.out V oV i hi) m os)).mono
    fun _ _ ⟨he, q, hq⟩ => ⟨he, q, #[], by rw [hq, grow_empty]⟩)
   (fun a b hab hb h => by
    have := HMO.out a b hab hb
    simp only [decide_eq_true_eq] at h ⊢
    omega))
 obtain ⟨i, hi⟩ : ∃ i, laneI l k = i := ⟨_, rfl⟩
 rw [hi] at hsp HCNT
 rw [hi]
 obtain ⟨f, hf⟩ : ∃ f, (l.getD i (0, 0, 0)).2.1 = f := ⟨_, rfl⟩
 have HCI : Hid (∀ V, Off Nob w V → V.cell? ⟨b, o + i * 3 + 1, none⟩ = some (.int .i64 (f : Int))) := hID (fun V oV => by rw [← hf]; exact HC.out V oV i hsp.1)
 rw [hf] at hsp
 rw [hf]
 obtain ⟨n, hn2⟩ : ∃ n, l.length = n := ⟨_, rfl⟩
 rw [hn2] at HSC HCNT hn hsp hz HSP
 obtain ⟨sp, hsp2⟩ : ∃ sp, lnEnd 0 l = sp := ⟨_, rfl⟩
 rw [hsp2] at hk HSP he
 obtain ⟨hin, hfk⟩ := hsp
 have hkb : k < 256 := by omega
 have HW : Hid (Off Nob w w) := hID oRf
 have hk' : k < sp := hk
 rw [show l.length = n from hn2]
 clear hv hcell hc hi hf hn2 hsp2 HC HMO hok HV hlt
 have HK := hID hk'
 have e1 : decide ((k : Int) < 0) = false := dcF
 have e2 : decide ((sp : Int) ≤ (k : Int)) = false := dcF
 have e3 : decide (sp ≤ k) = false := dcF
 clear hk hk' he
 go_enter Tryz.func53, Tryz.ntmps53
 have HB0 : Hid (Blk ((w.alloc (.cells #[.int .i64 W, .slice (some ⟨b, o, none⟩) n c] 62)).alloc (.cells #[.int .i64 (k : Int)] 3)) w.heap.size 62 #[.int .i64 W, .slice (some ⟨b, o, none⟩) n c] ∧ Blk ((w.alloc (.cells #[.int .i64 W, .slice (some ⟨b, o, none⟩) n c] 62)).alloc (.cells #[.int .i64 (k : Int)] 3)) (w.heap.size + 1) 3 #[.int .i64 (k : Int)] ∧ Off Nob w ((w.alloc (.cells #[.int .i64 W, .slice (some ⟨b, o, none⟩) n c] 62)).alloc (.cells #[.int .i64 (k : Int)] 3))) := hID ⟨(Blk.new _ _ _).alloc _, by have h := Blk.new (w.alloc (.cells #[.int .i64 W, .slice (some ⟨b, o, none⟩) n c] 62)) 3 #[.int .i64 (k : Int)]; simpa using h, Off.alloc (Off.alloc oRf _) _⟩
 go_wp2_with fail
 revert HB0
 generalize ((w.alloc (.cells #[.int .i64 W, .slice (some ⟨b, o, none⟩) n c] 62)).alloc (.cells #[.int .i64 (k : Int)] 3)) = w0
 intro HB0
 have GC : Hid (∀ V, Off Nob w0 V → V.cell? ⟨w.heap.size, 0, none⟩ = some (.int .i64 W) ∧ V.cell? ⟨w.heap.size, 1, none⟩ = some (.slice (some ⟨b, o, none⟩) n c) ∧ V.cell? ⟨w.heap.size + 1, 0, none⟩ = some (.int .i64 (k : Int))) := hID (fun V ho => by
  have h := HB0.out.1.to (ho.block _ HB0.out.1.lt id)
  have h2 := HB0.out.2.1.to (ho.block _ HB0.out.2.1.lt id)
  exact ⟨h.cell 0, h.cell 1, h2.cell 0⟩)
 obtain ⟨t0, t1, t2⟩ := GC.out _ oRf
 go_wp2_with fail
 refine (HSP.out _ HB0.out.2.2).mono ?_
 rintro e w1 ⟨rfl, o1⟩
 have X1 := hID o1
 clear o1 t0 t1 t2
 obtain ⟨t0, t1, t2⟩ := GC.out _ X1.out
 go_wp2_with fail
 refine Calls.mono (R := fun e w' => e = .returned (.int .i64 ((List.range n).countP (fun i => !decide (k < (l.getD i (0, 0, 0)).2.1)) : Nat)) ∧ ∃ q os, w' = grow (w1.drewN q) os) (HSC.out _ _ _ (HB0.out.2.2.also X1.out) t1 t2) ?_
 rintro e w2 ⟨rfl, q, os, hw2⟩
 have X2 : Hid (Off Nob w0 w2) := hID (X1.out.also (by rw [hw2]; exact Off.ofBelow (below_grown_sl _ _ q os (Nat.le_refl _))))
 clear hw2 t0 t1 t2
 rw [HCNT.out]
 obtain ⟨t0, t1, t2⟩ := GC.out _ X2.out
 have c1 := HCI.out _ (HB0.out.2.2.also X2.out)
 have hw1 : IntKind.i64.wrap (((i + 1 : Nat) : Int) - 1) = (i : Int) := by rw [IntKind.wrap_i64]; omega
 have hw2 : IntKind.i64.wrap ((k : Int) - (f : Int)) = ((k - f : Nat) : Int) := by rw [IntKind.wrap_i64]; omega
 go_wp2_with fail
 go_quiet (fail)
 go_wp2_with fail
 go_ret3
 exact ⟨rfl, (HB0.out.2.2.also X2.out).drewN _⟩
end Go.Proofs.YtlgjaefcfnndhaaGreatDoor
