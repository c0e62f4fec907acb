/-
 tables.plan at the set of the example.
-/
import Derived.Test.YtkflicifngohcaaGreatDoorM14
import Derived.Test.YtkflicifngohcaaGreatDoorM15
import Derived.Test.YtkflicifngohcaaGreatDoorM18
import Derived.Test.YtkflicifngohcaaGreatDoorM19
import Derived.WalkMore
import Derived.Laws.Bits64b
set_option linter.unusedVariables false
set_option linter.unusedSimpArgs false
namespace Go.Proofs.YtkflicifngohcaaGreatDoor
open Go.RowKit Go.Maps
set_option maxRecDepth 100000
theorem Tryz.infoPl : (Tryz.prog.info? 97).map (·.size) = some 2 := by kernel_rfl
theorem plan_one1 : onesL 0 [2] = [1] := by decide
theorem plan_one2 : onesL 0 [4] = [2] := by decide
theorem plan_one5 : onesL 0 [5] = [0, 2] := by decide
theorem tz_keep {w W : World} (h : TzT w) (o : Off Nob w W) : TzT W := ⟨fun j hj => (o.cell_old h.2 _).trans (h.1 j hj), Nat.lt_of_lt_of_le h.2 o.size⟩
theorem rowB_nat (j : Nat) : ∃ x : Nat, x < 8 ∧ rowB j = (x : Int) := by
 unfold rowB
 split
 ·exact ⟨5, by decide, rfl⟩
 ·split
  ·exact ⟨6, by decide, rfl⟩
  ·exact ⟨0, by decide, rfl⟩
theorem and_pow0 {x k : Nat} (h : x < 2 ^ k) : x &&& 2 ^ k = 0 := by
 apply Nat.eq_of_testBit_eq
 intro i
 rw [Nat.testBit_and, Nat.testBit_two_pow, Nat.zero_testBit]
 by_cases e : k = i
 ·subst e
  rw [Nat.testBit_lt_two_pow h]
  rfl
 ·simp [e]
theorem and_hi (k : Nat) (h3 : 3 ≤ k) (hk : k < 64) (x : Nat) (hx : x < 8) : bits .and .u64 (x : Int) ((2 ^ k : Nat) : Int) = 0 := by
 have h8 : 2 ^ 3 ≤ 2 ^ k := Nat.pow_le_pow_right (by decide) h3
 have hp : 2 ^ k < 2 ^ 64 := Nat.pow_lt_pow_right (by decide) hk
 rw [bits_and_u64_nat x (2 ^ k) (by omega) (by omega), and_pow0 (by omega)]
 rfl
theorem tat1 (k : Nat) (hk : k < 64) (w : World) : Calls Tryz.prog 155 #[.int .i64 k] w fun e w' => e = .returned (.agg #[.int .i64 0, .int .u64 ((2 ^ k : Nat) : Int)]) ∧ Off Nob w w' := by
 refine (tat k (by omega) w).mono ?_
 rintro e w' ⟨rfl, o⟩
 refine ⟨?_, o⟩
 unfold spotV
 rw [Nat.mod_eq_of_lt hk, Nat.div_eq_of_lt hk]
 rfl
set_option maxHeartbeats 4000000 in
theorem tplan_ex (w : World) (VI VT VS VF : Value) (hI : Rd w (fun _ => True) 1 VI 2 [.int .i64 5, .int .i64 9]) (hT : Rd w (fun _ => True) 1 VT 256 (tabV 256)) (hS : Rd w (fun _ => True) 1 VS 1 [.int .u64 5]) (hF : Rd w (fun _ => True) 1 VF 2 [.int .u64 2, .int .u64 4]) (hcT : CapOk VT) (hcF : CapOk VF) (hZ : TzT w) :
  Calls Tryz.prog 133 #[.agg #[VI, .int .i64 1, VT, VS, VF]] w fun e w' => (∃ A n c, e = .returned (.tuple #[.agg #[.int .i64 1, .slice A n c], .bool true])) ∧ Off Nob w w' := by
 obtain ⟨i_lane, h_lane, z_lane, s_lane, b_lane⟩ := info_parts Tryz.infoLa
 have hmm := @run_makeMap Tryz.prog
 have HF : Hid (Rd w (fun _ => True) 1 VF ([2, 4] : List Nat).length (wordsV [2, 4])) := hID hF
 have HS : Hid (Rd w (fun _ => True) 1 VS ([5] : List Nat).length (wordsV [5])) := hID hS
 obtain ⟨bi, oi, ci, rfl, hci⟩ := hI.cellsT (by decide)
 obtain ⟨bt, ot, ct, rfl, hct⟩ := hT.cellsT (by decide)
 obtain ⟨bs, os, cs, rfl, hcs⟩ := hS.cellsT (by decide)
 obtain ⟨bf, of, cf, rfl, hcf⟩ := hF.cellsT (by decide)
 have HT := hID hct
 have HZ := hID hZ
 have hct' : 256 ≤ ct := hcT _ _ _ rfl
 have HCT := hID hct'
 clear hci hct hcs hcf hI hT hS hF hZ hcT hct'
 go_enter Tryz.func133, Tryz.ntmps133
 go_wp2
 go_step3
 go_wp2_with fail
 have X0 : Hid (Pst w w (w.heap.size + 3) (((w.alloc (.cells #[.slice (some ⟨bi, oi, none⟩) 2 ci, .int .i64 1, .slice (some ⟨bt, ot, none⟩) 256 ct, .slice (some ⟨bs, os, none⟩) 1 cs, .slice (some ⟨bf, of, none⟩) 2 cf] 25)).alloc (.cells #[.int .i64 0, .slice none 0 0] 97)).alloc (.map #[] 0)) #[.slice (some ⟨bi, oi, none⟩) 2 ci, .int .i64 1, .slice (some ⟨bt, ot, none⟩) 256 ct, .slice (some ⟨bs, os, none⟩) 1 cs, .slice (some ⟨bf, of, none⟩) 2 cf] (.int .i64 0) (.slice none 0 0) 0 (.map []) 0 []) := hID ⟨((Off.refl _ _).alloc _).alloc _ |>.alloc _, ((Blk.new _ _ _).alloc _).alloc _, by
  have := (Blk.new (w.alloc (.cells #[.slice (some ⟨bi, oi, none⟩) 2 ci, .int .i64 1, .slice (some ⟨bt, ot, none⟩) 256 ct, .slice (some ⟨bs, os, none⟩) 1 cs, .slice (some ⟨bf, of, none⟩) 2 cf] 25)) 97 #[.int .i64 0, .slice none 0 0]).alloc (.map #[] 0)
  simpa using this, by
  have := World.ownsMap_made (H := Unit) ((w.alloc (.cells #[.slice (some ⟨bi, oi, none⟩) 2 ci, .int .i64 1, .slice (some ⟨bt, ot, none⟩) 256 ct, .slice (some ⟨bs, os, none⟩) 1 cs, .slice (some ⟨bf, of, none⟩) 2 cf] 25)).alloc (.cells #[.int .i64 0, .slice none 0 0] 97)) Tryz.prog 233 (plainElem Tryz.prog 3)
  simpa using this, World.ownsRow_nil _ _ _ _, Nat.le_refl _, by simp, fun k h1 h2 => by omega⟩
 revert X0
 generalize (((w.alloc (.cells #[.slice (some ⟨bi, oi, none⟩) 2 ci, .int .i64 1, .slice (some ⟨bt, ot, none⟩) 256 ct, .slice (some ⟨bs, os, none⟩) 1 cs, .slice (some ⟨bf, of, none⟩) 2 cf] 25)).alloc (.cells #[.int .i64 0, .slice none 0 0] 97)).alloc (.map #[] 0)) = w0
 intro X0
 have GC : Hid (∀ W1 B W a v n D m ls, Pst w W1 B W #[.slice (some ⟨bi, oi, none⟩) 2 ci, .int .i64 1, .slice (some ⟨bt, ot, none⟩) 256 ct, .slice (some ⟨bs, os, none⟩) 1 cs, .slice (some ⟨bf, of, none⟩) 2 cf] a v n D m ls → W.cell? ⟨w.heap.size, 0, none⟩ = some (.slice (some ⟨bi, oi, none⟩) 2 ci) ∧ W.cell? ⟨w.heap.size, 1, none⟩ = some (.int .i64 1) ∧ W.cell? ⟨w.heap.size, 2, none⟩ = some (.slice (some ⟨bt, ot, none⟩) 256 ct) ∧ W.cell? ⟨w.heap.size, 3, none⟩ = some (.slice (some ⟨bs, os, none⟩) 1 cs) ∧ W.cell? ⟨w.heap.size, 4, none⟩ = some (.slice (some ⟨bf, of, none⟩) 2 cf) ∧ W.cell? ⟨w.heap.size + 1, 0, none⟩ = some a ∧ W.cell? ⟨w.heap.size + 1, 1, none⟩ = some v ∧ W.frozen? ⟨w.heap.size + 1, 0, none⟩ = false ∧ W.frozen? ⟨w.heap.size + 1, 1, none⟩ = false) := hID (fun W1 B W a v n D m ls h => ⟨h.box.cell 0, h.box.cell 1, h.box.cell 2, h.box.cell 3, h.box.cell 4, h.pla.cell 0, h.pla.cell 1, h.pla.frozen 0, h.pla.frozen 1⟩)
 refine wp_loop_rounds 3 ?_
 rw [rounds_succ]
 obtain ⟨s0, s1, s2, s3, s4, p0, p1, f0, f1⟩ := GC.out _ _ _ _ _ _ _ _ _ X0.out
 go_wp2_with fail
 have HF0 := hID (tfinals (.slice (some ⟨bi, oi, none⟩) 2 ci) (.slice (some ⟨bt, ot, none⟩) 256 ct) (.slice (some ⟨bs, os, none⟩) 1 cs) 1 (by decide) (by decide) [2, 4] 0 (by decide) (by decide) _ _ (HF.out.keepT X0.out.off) hcF)
 refine Calls.mono (R := fun e w' => ∃ u, e = .returned u ∧ w'.ownsRow w0.heap.size 41 1 u 1 (wordsV [2]) ∧ Off Nob w0 w') HF0.out ?_
 rintro e w1 ⟨u, rfl, hu, o1⟩
 have X1 := hID (X0.out.go o1)
 have HU := hID (Rd.own (F := fun _ => True) hu (fun _ _ => trivial))
 clear o1 hu X0 HF0
 clear s0 s1 s2 s3 s4 p0 p1 f0 f1
 go_wp2_with fail
 refine (oones _ [2] (by decide) (by decide) (by decide) (by decide) _ HU.out (tz_keep HZ.out X1.out.off)).mono ?_
 rintro e w2 ⟨vv, rfl, hv, o1⟩
 rw [plan_one1] at hv
 have X2 := hID (X1.out.go o1)
 have hv1 := Rd.own (F := fun _ => True) hv (fun _ _ => trivial)
 obtain ⟨bv, ov, cv, rfl, hcv⟩ := hv1.cellsT (by decide)
 have HV : Hid (∀ W, Off Nob w2 W → W.cell? ⟨bv, ov, none⟩ = some (.int .i64 1)) := hID (fun W ho => hcv W ho 0 _ rfl)
 clear hcv hv1 hv o1 X1 HU
 obtain ⟨s0, s1, s2, s3, s4, p0, p1, f0, f1⟩ := GC.out _ _ _ _ _ _ _ _ _ X2.out
 go_wp2_with fail
 refine wp_loop_rounds 2 ?_
 rw [rounds_succ]
 have e0 := HV.out _ (Off.refl _ _)
 go_wp2_with fail
 clear e0 HV
 clear s0 s1 s2 s3 s4 p0 p1 f0 f1
 refine Calls.mono (R := fun e w' => e = .returned (spotV 1) ∧ Off Nob w2 w') (tat 1 (by decide) _) ?_
 rintro e w3 ⟨rfl, o1⟩
 have X3 := hID (X2.out.go o1)
 clear o1 X2
 obtain ⟨s0, s1, s2, s3, s4, p0, p1, f0, f1⟩ := GC.out _ _ _ _ _ _ _ _ _ X3.out
 have hk := hsk1
 have hh := has_0
 go_wp2_with (at_lookup; refine wpList_lookup_own_ok_int _ rfl _ _ 230 rfl 233 3 .i64 spotKeyed Tryz.underlying230 Tryz.underlying3 (Tryz.zeroInt _) (w.heap.size + 2) 0 (.map []) rfl X3.out.own _ _ rfl hk ?_; intro c hat hwc)
 clear s0 s1 s2 s3 s4 p0 p1 f0 f1
 clear hh
 refine Calls.mono (R := fun e w' => e = .returned (spotV 1) ∧ Off Nob w3 w') (tat 1 (by decide) _) ?_
 rintro e w4 ⟨rfl, o1⟩
 have X4 := hID (X3.out.go o1)
 clear o1 X3
 obtain ⟨s0, s1, s2, s3, s4, p0, p1, f0, f1⟩ := GC.out _ _ _ _ _ _ _ _ _ X4.out
 go_wp2_with (at_mapUpdate; refine wpList_mapUpdate_in _ rfl _ _ _ 230 rfl 233 3 spotKeyed Tryz.underlying230 (plainElem Tryz.prog 3) (w.heap.size + 2) 0 (.map []) rfl X4.out.own (by decide) _ _ _ rfl rfl hk (.lit (.int .i64 0)) [] (plainElem_int Tryz.underlying3 (by decide)) ?_; intro w5 hown hturn; have X5 : Hid (Pst w w (w.heap.size + 3) w5 #[.slice (some ⟨bi, oi, none⟩) 2 ci, .int .i64 1, .slice (some ⟨bt, ot, none⟩) 256 ct, .slice (some ⟨bs, os, none⟩) 1 cs, .slice (some ⟨bf, of, none⟩) 2 cf] (.int .i64 0) (.slice none 0 0) 1 mpA 0 []) := hID (X4.out.turn hown hturn); clear hown hturn X4 s0 s1 s2 s3 s4 p0 p1 f0 f1; obtain ⟨s0, s1, s2, s3, s4, p0, p1, f0, f1⟩ := GC.out _ _ _ _ _ _ _ _ _ X5.out)
 clear hk
 rw [rounds_succ]
 go_wp2_with fail
 clear s0 s1 s2 s3 s4 p0 p1 f0 f1
 rw [rounds_succ]
 obtain ⟨s0, s1, s2, s3, s4, p0, p1, f0, f1⟩ := GC.out _ _ _ _ _ _ _ _ _ X5.out
 go_wp2_with fail
 have HF1 := hID (tfinals (.slice (some ⟨bi, oi, none⟩) 2 ci) (.slice (some ⟨bt, ot, none⟩) 256 ct) (.slice (some ⟨bs, os, none⟩) 1 cs) 1 (by decide) (by decide) [2, 4] 1 (by decide) (by decide) _ _ (HF.out.keepT X5.out.off) hcF)
 refine Calls.mono (R := fun e w' => ∃ u, e = .returned u ∧ w'.ownsRow w5.heap.size 41 1 u 1 (wordsV [4]) ∧ Off Nob w5 w') HF1.out ?_
 rintro e w6 ⟨u, rfl, hu, o1⟩
 have X6 := hID (X5.out.go o1)
 have HU := hID (Rd.own (F := fun _ => True) hu (fun _ _ => trivial))
 clear o1 hu X5 HF1
 clear s0 s1 s2 s3 s4 p0 p1 f0 f1
 go_wp2_with fail
 refine (oones _ [4] (by decide) (by decide) (by decide) (by decide) _ HU.out (tz_keep HZ.out X6.out.off)).mono ?_
 rintro e w7 ⟨vv, rfl, hv, o1⟩
 rw [plan_one2] at hv
 have X7 := hID (X6.out.go o1)
 have hv1 := Rd.own (F := fun _ => True) hv (fun _ _ => trivial)
 obtain ⟨bv, ov, cv, rfl, hcv⟩ := hv1.cellsT (by decide)
 have HV : Hid (∀ W, Off Nob w7 W → W.cell? ⟨bv, ov, none⟩ = some (.int .i64 2)) := hID (fun W ho => hcv W ho 0 _ rfl)
 clear hcv hv1 hv o1 X6 HU
 obtain ⟨s0, s1, s2, s3, s4, p0, p1, f0, f1⟩ := GC.out _ _ _ _ _ _ _ _ _ X7.out
 go_wp2_with fail
 refine wp_loop_rounds 2 ?_
 rw [rounds_succ]
 have e0 := HV.out _ (Off.refl _ _)
 go_wp2_with fail
 clear e0 HV
 clear s0 s1 s2 s3 s4 p0 p1 f0 f1
 refine Calls.mono (R := fun e w' => e = .returned (spotV 2) ∧ Off Nob w7 w') (tat 2 (by decide) _) ?_
 rintro e w8 ⟨rfl, o1⟩
 have X8 := hID (X7.out.go o1)
 clear o1 X7
 obtain ⟨s0, s1, s2, s3, s4, p0, p1, f0, f1⟩ := GC.out _ _ _ _ _ _ _ _ _ X8.out
 have hk := hsk2
 have hh := has_A
 go_wp2_with (at_lookup; refine wpList_lookup_own_ok_int _ rfl _ _ 230 rfl 233 3 .i64 spotKeyed Tryz.underlying230 Tryz.underlying3 (Tryz.zeroInt _) (w.heap.size + 2) 1 mpA rfl X8.out.own _ _ rfl hk ?_; intro c hat hwc)
 clear s0 s1 s2 s3 s4 p0 p1 f0 f1
 clear hh
 refine Calls.mono (R := fun e w' => e = .returned (spotV 2) ∧ Off Nob w8 w') (tat 2 (by decide) _) ?_
 rintro e w9 ⟨rfl, o1⟩
 have X9 := hID (X8.out.go o1)
 clear o1 X8
 obtain ⟨s0, s1, s2, s3, s4, p0, p1, f0, f1⟩ := GC.out _ _ _ _ _ _ _ _ _ X9.out
 go_wp2_with (at_mapUpdate; refine wpList_mapUpdate_in _ rfl _ _ _ 230 rfl 233 3 spotKeyed Tryz.underlying230 (plainElem Tryz.prog 3) (w.heap.size + 2) 1 mpA rfl X9.out.own (by decide) _ _ _ rfl rfl hk (.lit (.int .i64 1)) [] (plainElem_int Tryz.underlying3 (by decide)) ?_; intro w10 hown hturn; have X10 : Hid (Pst w w (w.heap.size + 3) w10 #[.slice (some ⟨bi, oi, none⟩) 2 ci, .int .i64 1, .slice (some ⟨bt, ot, none⟩) 256 ct, .slice (some ⟨bs, os, none⟩) 1 cs, .slice (some ⟨bf, of, none⟩) 2 cf] (.int .i64 0) (.slice none 0 0) 2 mpB 0 []) := hID (X9.out.turn hown hturn); clear hown hturn X9 s0 s1 s2 s3 s4 p0 p1 f0 f1; obtain ⟨s0, s1, s2, s3, s4, p0, p1, f0, f1⟩ := GC.out _ _ _ _ _ _ _ _ _ X10.out)
 clear hk
 rw [rounds_succ]
 go_wp2_with fail
 clear s0 s1 s2 s3 s4 p0 p1 f0 f1
 rw [rounds_succ]
 obtain ⟨s0, s1, s2, s3, s4, p0, p1, f0, f1⟩ := GC.out _ _ _ _ _ _ _ _ _ X10.out
 go_wp2_with fail
 clear s0 s1 s2 s3 s4 p0 p1 f0 f1
 refine (oones _ [5] (by decide) (by decide) (by decide) (by decide) _ (HS.out.keepT X10.out.off) (tz_keep HZ.out X10.out.off)).mono ?_
 rintro e w11 ⟨vv, rfl, hv, o1⟩
 rw [plan_one5] at hv
 have hv1 := Rd.own (F := fun k => w10.heap.size ≤ k ∧ k < w11.heap.size) hv (fun k hk => hv.lt k hk)
 obtain ⟨A1, c1, rfl, _, _, hc1⟩ := hv1
 obtain ⟨bv, ov, rfl, hF1, _, hx1⟩ := hc1 (by decide)
 have hm1 := X10.out.own.lt
 have HV : Hid (∀ W a v n D m ls, Pst w w11 w11.heap.size W #[.slice (some ⟨bi, oi, none⟩) 2 ci, .int .i64 1, .slice (some ⟨bt, ot, none⟩) 256 ct, .slice (some ⟨bs, os, none⟩) 1 cs, .slice (some ⟨bf, of, none⟩) 2 cf] a v n D m ls → W.cell? ⟨bv, ov, none⟩ = some (.int .i64 0) ∧ W.cell? ⟨bv, ov + 1, none⟩ = some (.int .i64 2)) := hID (fun W a v n D m ls h => ⟨h.cell (by omega) hF1.2 (hx1 0 _ rfl), h.cell (by omega) hF1.2 (hx1 1 _ rfl)⟩)
 have X11 := hID (X10.out.go o1).base
 clear hx1 hm1 hF1 hc1 hv o1 X10
 obtain ⟨s0, s1, s2, s3, s4, p0, p1, f0, f1⟩ := GC.out _ _ _ _ _ _ _ _ _ X11.out
 go_wp2_with fail
 clear s0 s1 s2 s3 s4 p0 p1 f0 f1
 have X12 := hID (X11.out.put0 (.int .i64 1))
 clear X11
 generalize w11.setCell ⟨w.heap.size + 1, 0, none⟩ (.int .i64 1) = w12 at *
 refine wp_loop_rounds 3 ?_
 rw [rounds_succ]
 obtain ⟨s0, s1, s2, s3, s4, p0, p1, f0, f1⟩ := GC.out _ _ _ _ _ _ _ _ _ X12.out
 obtain ⟨e0, e1⟩ := HV.out _ _ _ _ _ _ _ X12.out
 go_wp2_with fail
 clear s0 s1 s2 s3 s4 p0 p1 f0 f1
 clear e0 e1
 refine Calls.mono (R := fun e w' => e = .returned (spotV 1) ∧ Off Nob w12 w') (tat 1 (by decide) _) ?_
 rintro e w13 ⟨rfl, o1⟩
 have X13 := hID (X12.out.go o1)
 clear o1 X12
 obtain ⟨s0, s1, s2, s3, s4, p0, p1, f0, f1⟩ := GC.out _ _ _ _ _ _ _ _ _ X13.out
 have hk := hsk1
 have hh := has_B
 go_wp2_with (at_lookup; refine wpList_lookup_own_ok_int _ rfl _ _ 230 rfl 233 3 .i64 spotKeyed Tryz.underlying230 Tryz.underlying3 (Tryz.zeroInt _) (w.heap.size + 2) 2 mpB rfl X13.out.own _ _ rfl hk ?_; intro c hat hwc; obtain rfl : c = 0 := by have := hat.symm.trans at_B; simpa using this)
 clear s0 s1 s2 s3 s4 p0 p1 f0 f1
 clear hh hat hwc
 refine Calls.mono (R := fun e w' => e = .returned (spotV 1) ∧ Off Nob w13 w') (tat 1 (by decide) _) ?_
 rintro e w14 ⟨rfl, o1⟩
 have X14 := hID (X13.out.go o1)
 clear o1 X13
 obtain ⟨s0, s1, s2, s3, s4, p0, p1, f0, f1⟩ := GC.out _ _ _ _ _ _ _ _ _ X14.out
 go_wp2_with (first | (at_delete; refine wpList_delete_own _ rfl _ _ 230 233 rfl 3 spotKeyed Tryz.underlying230 (plainElem Tryz.prog 3) (w.heap.size + 2) 2 mpB rfl X14.out.own _ _ rfl hk ?_; intro w15 hown hturn; have X15 : Hid (Pst w w11 w11.heap.size w15 #[.slice (some ⟨bi, oi, none⟩) 2 ci, .int .i64 1, .slice (some ⟨bt, ot, none⟩) 256 ct, .slice (some ⟨bs, os, none⟩) 1 cs, .slice (some ⟨bf, of, none⟩) 2 cf] (.int .i64 1) (.slice none 0 0) 2 mpC (0) []) := hID (X14.out.turn hown hturn); clear hown hturn X14 s0 s1 s2 s3 s4 p0 p1 f0 f1; obtain ⟨s0, s1, s2, s3, s4, p0, p1, f0, f1⟩ := GC.out _ _ _ _ _ _ _ _ _ X15.out) | (at_builtin; refine @wpList_append_lies _ _ _ _ _ _ _ rfl _ _ 95 rfl w11.heap.size 188 i_lane (.agg #[.int .i64 0, .int .i64 0, .int .i64 0]) 3 24 Tryz.underlying95 h_lane z_lane s_lane b_lane rfl (by decide) (.slice none 0 0) (0) [] rfl (X15.out.lan.alloc _) ⟨w15.heap.size, 0, none⟩ 1 1 [.int .i64 0, .int .i64 0, .int .i64 2] rfl rfl ?c1 (by decide) (by decide) (by decide) (by decide) (by have := X15.out.hi; simp; omega) _ rfl ?_))
 case c1 => exact cell_lit _ [.int .i64 0, .int .i64 0, .int .i64 2] _
 intro ga capa w16 hown hgrow hat hlt
 have XA := hID (X15.out.go (Off.alloc (Off.refl _ _) (.cells #[.int .i64 0, .int .i64 0, .int .i64 2] 188)))
 have X16 : Hid (Pst w w11 w11.heap.size (w16.setCell ⟨w.heap.size + 1, 1, none⟩ (.slice (some ⟨ga, 0, none⟩) (0 + 1) capa)) #[.slice (some ⟨bi, oi, none⟩) 2 ci, .int .i64 1, .slice (some ⟨bt, ot, none⟩) 256 ct, .slice (some ⟨bs, os, none⟩) 1 cs, .slice (some ⟨bf, of, none⟩) 2 cf] (.int .i64 1) (.slice (some ⟨ga, 0, none⟩) (0 + 1) capa) 2 mpC (0 + 1) ([] ++ [.int .i64 0, .int .i64 0, .int .i64 2])) := hID (XA.out.grow hgrow hown)
 have hfz := XA.out.growF hgrow
 have hcz := XA.out.growC hgrow
 clear hown hgrow hat hlt hk XA X15
 clear s0 s1 s2 s3 s4 p0 p1 f0 f1
 go_wp2_with fail
 clear hfz hcz
 generalize w16.setCell ⟨w.heap.size + 1, 1, none⟩ (.slice (some ⟨ga, 0, none⟩) (0 + 1) capa) = w17 at *
 rw [rounds_succ]
 obtain ⟨s0, s1, s2, s3, s4, p0, p1, f0, f1⟩ := GC.out _ _ _ _ _ _ _ _ _ X16.out
 obtain ⟨e0, e1⟩ := HV.out _ _ _ _ _ _ _ X16.out
 go_wp2_with fail
 clear s0 s1 s2 s3 s4 p0 p1 f0 f1
 clear e0 e1
 refine Calls.mono (R := fun e w' => e = .returned (spotV 2) ∧ Off Nob w17 w') (tat 2 (by decide) _) ?_
 rintro e w18 ⟨rfl, o1⟩
 have X17 := hID (X16.out.go o1)
 clear o1 X16
 obtain ⟨s0, s1, s2, s3, s4, p0, p1, f0, f1⟩ := GC.out _ _ _ _ _ _ _ _ _ X17.out
 have hk := hsk2
 have hh := has_C
 go_wp2_with (at_lookup; refine wpList_lookup_own_ok_int _ rfl _ _ 230 rfl 233 3 .i64 spotKeyed Tryz.underlying230 Tryz.underlying3 (Tryz.zeroInt _) (w.heap.size + 2) 2 mpC rfl X17.out.own _ _ rfl hk ?_; intro c hat hwc; obtain rfl : c = 1 := by have := hat.symm.trans at_C; simpa using this)
 clear s0 s1 s2 s3 s4 p0 p1 f0 f1
 clear hh hat hwc
 refine Calls.mono (R := fun e w' => e = .returned (spotV 2) ∧ Off Nob w18 w') (tat 2 (by decide) _) ?_
 rintro e w19 ⟨rfl, o1⟩
 have X18 := hID (X17.out.go o1)
 clear o1 X17
 obtain ⟨s0, s1, s2, s3, s4, p0, p1, f0, f1⟩ := GC.out _ _ _ _ _ _ _ _ _ X18.out
 go_wp2_with (first | (at_delete; refine wpList_delete_own _ rfl _ _ 230 233 rfl 3 spotKeyed Tryz.underlying230 (plainElem Tryz.prog 3) (w.heap.size + 2) 2 mpC rfl X18.out.own _ _ rfl hk ?_; intro w20 hown hturn; have X19 : Hid (Pst w w11 w11.heap.size w20 #[.slice (some ⟨bi, oi, none⟩) 2 ci, .int .i64 1, .slice (some ⟨bt, ot, none⟩) 256 ct, .slice (some ⟨bs, os, none⟩) 1 cs, .slice (some ⟨bf, of, none⟩) 2 cf] (.int .i64 1) (.slice (some ⟨ga, 0, none⟩) (0 + 1) capa) 2 mpD (0 + 1) ([] ++ [.int .i64 0, .int .i64 0, .int .i64 2])) := hID (X18.out.turn hown hturn); clear hown hturn X18 s0 s1 s2 s3 s4 p0 p1 f0 f1; obtain ⟨s0, s1, s2, s3, s4, p0, p1, f0, f1⟩ := GC.out _ _ _ _ _ _ _ _ _ X19.out) | (at_builtin; refine @wpList_append_lies _ _ _ _ _ _ _ rfl _ _ 95 rfl w11.heap.size 188 i_lane (.agg #[.int .i64 0, .int .i64 0, .int .i64 0]) 3 24 Tryz.underlying95 h_lane z_lane s_lane b_lane rfl (by decide) (.slice (some ⟨ga, 0, none⟩) (0 + 1) capa) (0 + 1) ([] ++ [.int .i64 0, .int .i64 0, .int .i64 2]) rfl (X19.out.lan.alloc _) ⟨w20.heap.size, 0, none⟩ 1 1 [.int .i64 1, .int .i64 2, .int .i64 1] rfl rfl ?c1 (by decide) (by decide) (by decide) (by decide) (by have := X19.out.hi; simp; omega) _ rfl ?_))
 case c1 => exact cell_lit _ [.int .i64 1, .int .i64 2, .int .i64 1] _
 intro gb capb w21 hown hgrow hat hlt
 have XA := hID (X19.out.go (Off.alloc (Off.refl _ _) (.cells #[.int .i64 1, .int .i64 2, .int .i64 1] 188)))
 have X20 : Hid (Pst w w11 w11.heap.size (w21.setCell ⟨w.heap.size + 1, 1, none⟩ (.slice (some ⟨gb, 0, none⟩) (0 + 1 + 1) capb)) #[.slice (some ⟨bi, oi, none⟩) 2 ci, .int .i64 1, .slice (some ⟨bt, ot, none⟩) 256 ct, .slice (some ⟨bs, os, none⟩) 1 cs, .slice (some ⟨bf, of, none⟩) 2 cf] (.int .i64 1) (.slice (some ⟨gb, 0, none⟩) (0 + 1 + 1) capb) 2 mpD (0 + 1 + 1) (([] ++ [.int .i64 0, .int .i64 0, .int .i64 2]) ++ [.int .i64 1, .int .i64 2, .int .i64 1])) := hID (XA.out.grow hgrow hown)
 have hfz := XA.out.growF hgrow
 have hcz := XA.out.growC hgrow
 clear hown hgrow hat hlt hk XA X19
 clear s0 s1 s2 s3 s4 p0 p1 f0 f1
 go_wp2_with fail
 clear hfz hcz
 generalize w21.setCell ⟨w.heap.size + 1, 1, none⟩ (.slice (some ⟨gb, 0, none⟩) (0 + 1 + 1) capb) = w22 at *
 rw [rounds_succ]
 obtain ⟨s0, s1, s2, s3, s4, p0, p1, f0, f1⟩ := GC.out _ _ _ _ _ _ _ _ _ X20.out
 obtain ⟨e0, e1⟩ := HV.out _ _ _ _ _ _ _ X20.out
 go_wp2_with fail
 clear s0 s1 s2 s3 s4 p0 p1 f0 f1
 clear e0 e1
 have HL : Hid (Rd w22 (fun _ => True) 3 (.slice (some ⟨gb, 0, none⟩) (0 + 1 + 1) capb) 2 ln_ab) := hID (Rd.own X20.out.lan (fun _ _ => trivial))
 refine (llrules _ _ HL.out).mono ?_
 rintro e w23 ⟨rfl, o1⟩
 have X21 := hID (X20.out.go o1)
 clear o1 X20
 clear HL
 obtain ⟨s0, s1, s2, s3, s4, p0, p1, f0, f1⟩ := GC.out _ _ _ _ _ _ _ _ _ X21.out
 have hlen : ∀ ty, (Builtin.len_ #[230] ty #[.map (some (w.heap.size + 2))]).run Tryz.prog w23 = .ok (.int .i64 0) w23 := fun ty => X21.out.own.len Tryz.underlying230 ty
 go_wp2_with fail
 clear s0 s1 s2 s3 s4 p0 p1 f0 f1
 simp only [show max (0 : Int) (max 2 3) = 3 from by decide]
 go_step3
 obtain ⟨s0, s1, s2, s3, s4, p0, p1, f0, f1⟩ := GC.out _ _ _ _ _ _ _ _ _ X21.out
 go_wp2_with fail
 refine wp_loop_rounds 2 ?_
 rw [rounds_succ]
 go_wp2_with fail
 clear s0 s1 s2 s3 s4 p0 p1 f0 f1
 go_loopw [3, 149] (fun q p wr => ∃ k : Nat, q = .bool false ∧ p = .int .i64 (k : Int) ∧ k ≤ 64 ∧ Pst w w11 w11.heap.size wr #[.slice (some ⟨bi, oi, none⟩) 2 ci, .int .i64 1, .slice (some ⟨bt, ot, none⟩) 256 ct, .slice (some ⟨bs, os, none⟩) 1 cs, .slice (some ⟨bf, of, none⟩) 2 cf] (.int .i64 1) (.slice (some ⟨gb, 0, none⟩) (0 + 1 + 1) capb) 2 mpD (0 + 1 + 1) (([] ++ [.int .i64 0, .int .i64 0, .int .i64 2]) ++ [.int .i64 1, .int .i64 2, .int .i64 1])) (fun q p wr => 64 - (intOf p).toNat)
 case atStart => exact ⟨0, rfl, rfl, by decide, X21.out⟩
 case round =>
  obtain ⟨k, rfl, rfl, hk, hx⟩ := hrel
  have X := hID hx
  clear hx X21
  by_cases hlt : k < 64
  ·have d1 : decide ((k : Int) < 64) = true := decide_eq_true (by omega)
   go_wp2_with fail
   have ht := tat1 k hlt wr
   have HB : Hid (3 ≤ k → ∀ x : Nat, x < 8 → bits .and .u64 (x : Int) ((2 ^ k : Nat) : Int) = 0) := hID (fun h => and_hi k h hlt)
   obtain ⟨z, hz⟩ : ∃ z : Int, ((2 ^ k : Nat) : Int) = z := ⟨_, rfl⟩
   rw [hz] at ht HB
   refine ht.mono ?_
   clear ht hz
   rintro e v1 ⟨rfl, o1⟩
   have Y := hID (X.out.go (Off.alloc o1 (.cells #[.int .i64 0, .int .u64 z] 233)))
   have hz1 : (v1.alloc (.cells #[.int .i64 0, .int .u64 z] 233)).cell? ⟨v1.heap.size, 1, none⟩ = some (.int .u64 z) := (Blk.new v1 233 #[.int .i64 0, .int .u64 z]).cell 1
   clear o1 X
   obtain ⟨s0, s1, s2, s3, s4, p0, p1, f0, f1⟩ := GC.out _ _ _ _ _ _ _ _ _ Y.out
   by_cases h3 : k < 3
   ·have d2 : decide ((k : Int) < 3) = true := decide_eq_true (by omega)
    go_wp2_with fail
    go_roundw
    case rel =>
     repeat apply Exists.intro
     refine ⟨?_, rfl⟩
     exact ⟨k + 1, rfl, rfl, by omega, Y.out⟩
    case measure =>
     show 64 - ((k : Int) + 1).toNat < 64 - (k : Int).toNat
     omega
   ·have d2 : decide ((k : Int) < 3) = false := decide_eq_false (by omega)
    have hct := HCT.out
    go_wp2_with fail
    clear s0 s1 s2 s3 s4 p0 p1 f0 f1
    obtain ⟨wo, hwo⟩ : ∃ wo : World, (v1.alloc (.cells #[.int .i64 0, .int .u64 z] 233)) = wo := ⟨_, rfl⟩
    rw [hwo] at Y hz1 ⊢
    clear hwo
    go_loopw [3, 172] (fun q p wr => ∃ j : Nat, q = .bool false ∧ p = .int .i64 (j : Int) ∧ j ≤ 256 ∧ wr = wo) (fun q p wr => 256 - (intOf p).toNat)
    case atStart => exact ⟨0, rfl, rfl, by decide, rfl⟩
    case round =>
     obtain ⟨j, rfl, rfl, hj, rfl⟩ := hrel
     by_cases hjl : j < 256
     ·have d3 : decide ((j : Int) < 256) = true := decide_eq_true (by omega)
      have hc := HT.out _ Y.out.off j _ (tabV_at 256 j hjl)
      rw [if_pos hjl] at hc
      obtain ⟨x, hx8, hx⟩ := rowB_nat j
      rw [hx] at hc
      have hb := HB.out (by omega) x hx8
      clear hx
      go_wp2_with fail
      go_roundw
      case rel => exact ⟨j + 1, rfl, rfl, by omega, trivial⟩
      case measure =>
       show 256 - ((j : Int) + 1).toNat < 256 - (j : Int).toNat
       omega
     ·obtain rfl : j = 256 := by omega
      go_wp2_with fail
      go_roundw
      case rel =>
       repeat apply Exists.intro
       refine ⟨?_, rfl⟩
       exact ⟨k + 1, rfl, rfl, by omega, Y.out⟩
      case measure =>
       show 64 - ((k : Int) + 1).toNat < 64 - (k : Int).toNat
       omega
  ·obtain rfl : k = 64 := by omega
   obtain ⟨s0, s1, s2, s3, s4, p0, p1, f0, f1⟩ := GC.out _ _ _ _ _ _ _ _ _ X.out
   go_wp2_with fail
   rw [rounds_succ]
   go_wp2_with fail
   rw [Exit.noGoto_ret]
   have XE := hID ((X.out.put0 (.int .i64 1)).put1 ((X.out.put0 (.int .i64 1)).lan))
   exact bodyPost_ret (results_cell_row_tmp rfl _ _ _ _ _ (0, 0) _ rfl XE.out.pla Tryz.underlying97 rfl Tryz.infoPl) rfl ⟨⟨_, _, _, rfl⟩, XE.out.off⟩
end Go.Proofs.YtkflicifngohcaaGreatDoor

namespace Go.Proofs.YtkflicifngohcaaGreatDoor
open Go.RowKit
set_option maxRecDepth 100000
theorem smin_ex (w : World) (v : Value) (hv : Rd w (fun _ => True) 1 v 2 [.int .i64 5, .int .i64 9]) : Calls Tryz.prog 130 #[v] w fun e w' => e = .returned (.int .i64 5) ∧ w = w' := by
 refine (smin [5, 9] (by decide) (by decide) (by decide) w v hv).mono ?_
 rintro e w' ⟨⟨m, rfl, hm, hall⟩, rfl⟩
 have h5 := hall 5 (by simp)
 have : m = 5 ∨ m = 9 := by simpa using hm
 obtain rfl : m = 5 := by omega
 exact ⟨rfl, rfl⟩
theorem smax_ex (w : World) (v : Value) (hv : Rd w (fun _ => True) 1 v 2 [.int .i64 5, .int .i64 9]) : Calls Tryz.prog 131 #[v] w fun e w' => e = .returned (.int .i64 9) ∧ w = w' := by
 refine (smax [5, 9] (by decide) (by decide) (by decide) w v hv).mono ?_
 rintro e w' ⟨⟨m, rfl, hm, hall⟩, rfl⟩
 have h5 := hall 9 (by simp)
 have : m = 5 ∨ m = 9 := by simpa using hm
 obtain rfl : m = 9 := by omega
 exact ⟨rfl, rfl⟩
theorem asc_ex : Asc [5, 9] := by
 intro j hj
 have : j = 0 := by simp at hj; omega
 subst this
 decide
theorem tnamed_ex (w : World) (v : Value) (hv : Rd w (fun _ => True) 1 v 2 [.int .i64 5, .int .i64 9]) : Calls Tryz.prog 132 #[v] w fun e w' => (∃ i, e = .returned (.tuple #[.int .i64 i, .int .i64 0])) ∧ w = w' := by
 refine (tnamed [5, 9] (by decide) (by decide) w v hv).mono ?_
 rintro e w' ⟨⟨i, m, rfl, ⟨_, rfl⟩ | ⟨h, _⟩⟩, rfl⟩
 ·exact ⟨⟨i, rfl⟩, rfl⟩
 ·exact absurd asc_ex h
set_option maxHeartbeats 2000000 in
theorem tPlan_ex (w : World) (VI VT VS VF : Value) (hI : Rd w (fun _ => True) 1 VI 2 [.int .i64 5, .int .i64 9]) (hT : Rd w (fun _ => True) 1 VT 256 (tabV 256)) (hS : Rd w (fun _ => True) 1 VS 1 [.int .u64 5]) (hF : Rd w (fun _ => True) 1 VF 2 [.int .u64 2, .int .u64 4]) (hcT : CapOk VT) (hcF : CapOk VF) (hZ : TzT w) :
  Calls Tryz.prog 91 #[.agg #[VI, .int .i64 1, VT, VS, VF]] w fun e w' => (∃ A n c, e = .returned (.tuple #[.agg #[.int .i64 1, .slice A n c], .int .i64 0])) ∧ Off Nob w w' := by
 have hq : ∀ w : World, (binOp .neq 209 (.agg #[.int .i64 256, .int .i64 1, .int .i64 2]) (.agg #[.int .i64 256, .int .i64 1, .int .i64 2])).run Tryz.prog w = .ok (.bool false) w := fun _ => by kernel_rfl
 have HP := hID (fun (W : World) (o : Off Nob w W) => tplan_ex W VI VT VS VF (hI.keepT o) (hT.keepT o) (hS.keepT o) (hF.keepT o) hcT hcF (tz_keep hZ o))
 have HN := hID (fun (W : World) (o : Off Nob w W) => tnamed_ex W VI (hI.keepT o))
 have HM := hID (fun (W : World) (o : Off Nob w W) => smin_ex W VI (hI.keepT o))
 have HX := hID (fun (W : World) (o : Off Nob w W) => smax_ex W VI (hI.keepT o))
 obtain ⟨AI, ci, rfl, _⟩ := hI.form
 obtain ⟨AT, ct, rfl, _⟩ := hT.form
 obtain ⟨AS, cs, rfl, _⟩ := hS.form
 obtain ⟨AF, cf, rfl, _⟩ := hF.form
 clear hI hT hS hF hZ hcT hcF
 go_enter Tryz.func91, Tryz.ntmps91
 have X0 : Hid (Off Nob w ((w.alloc (.cells #[.slice AI 2 ci, .int .i64 1, .slice AT 256 ct, .slice AS 1 cs, .slice AF 2 cf] 25)).alloc (.cells #[.int .i64 0, .slice none 0 0] 97)) ∧ Blk ((w.alloc (.cells #[.slice AI 2 ci, .int .i64 1, .slice AT 256 ct, .slice AS 1 cs, .slice AF 2 cf] 25)).alloc (.cells #[.int .i64 0, .slice none 0 0] 97)) w.heap.size 25 #[.slice AI 2 ci, .int .i64 1, .slice AT 256 ct, .slice AS 1 cs, .slice AF 2 cf] ∧ Blk ((w.alloc (.cells #[.slice AI 2 ci, .int .i64 1, .slice AT 256 ct, .slice AS 1 cs, .slice AF 2 cf] 25)).alloc (.cells #[.int .i64 0, .slice none 0 0] 97)) (w.heap.size + 1) 97 #[.int .i64 0, .slice none 0 0]) := hID ⟨((Off.refl _ _).alloc _).alloc _, (Blk.new _ _ _).alloc _, blk_second _ _ _ _⟩
 have GC : Hid (∀ W, Blk W w.heap.size 25 #[.slice AI 2 ci, .int .i64 1, .slice AT 256 ct, .slice AS 1 cs, .slice AF 2 cf] → W.cell? ⟨w.heap.size, 0, none⟩ = some (.slice AI 2 ci) ∧ W.cell? ⟨w.heap.size, 1, none⟩ = some (.int .i64 1) ∧ W.cell? ⟨w.heap.size, 2, none⟩ = some (.slice AT 256 ct) ∧ W.cell? ⟨w.heap.size, 3, none⟩ = some (.slice AS 1 cs) ∧ W.cell? ⟨w.heap.size, 4, none⟩ = some (.slice AF 2 cf)) := hID (fun W h => ⟨h.cell 0, h.cell 1, h.cell 2, h.cell 3, h.cell 4⟩)
 obtain ⟨s0, s1, s2, s3, s4⟩ := GC.out _ X0.out.2.1
 go_wp2_with fail
 revert X0 s0 s1 s2 s3 s4
 generalize ((w.alloc (.cells #[.slice AI 2 ci, .int .i64 1, .slice AT 256 ct, .slice AS 1 cs, .slice AF 2 cf] 25)).alloc (.cells #[.int .i64 0, .slice none 0 0] 97)) = w0
 intro X0 s0 s1 s2 s3 s4
 refine (HM.out _ X0.out.1).mono ?_
 rintro e w1 ⟨rfl, rfl⟩
 go_wp2_with fail
 refine (HX.out _ X0.out.1).mono ?_
 rintro e w1 ⟨rfl, rfl⟩
 go_wp2_with fail
 refine (HN.out _ X0.out.1).mono ?_
 rintro e w1 ⟨⟨i, rfl⟩, rfl⟩
 have X1 := hID (And.intro (X0.out.1.alloc (.cells #[.int .i64 256, .int .i64 1, .int .i64 2] 209)) (And.intro (X0.out.2.1.alloc (.cells #[.int .i64 256, .int .i64 1, .int .i64 2] 209)) (And.intro (X0.out.2.2.alloc (.cells #[.int .i64 256, .int .i64 1, .int .i64 2] 209)) (Blk.new w0 209 #[.int .i64 256, .int .i64 1, .int .i64 2]))))
 obtain ⟨r0, r1, r2, r3, r4⟩ := GC.out _ X1.out.2.1
 have q0 := X1.out.2.2.2.cell 0
 have q1 := X1.out.2.2.2.cell 1
 have q2 := X1.out.2.2.2.cell 2
 go_wp2_with fail
 refine (HP.out _ X1.out.1).mono ?_
 rintro e w2 ⟨⟨AV, nv, cv, rfl⟩, o2⟩
 have X2 := hID (And.intro ((X1.out.1.also o2).alloc (.cells #[.int .i64 1, .slice AV nv cv] 97)) (And.intro ((X1.out.2.2.1.to (o2.block _ X1.out.2.2.1.lt id)).alloc (.cells #[.int .i64 1, .slice AV nv cv] 97)) (Blk.new w2 97 #[.int .i64 1, .slice AV nv cv])))
 clear o2 s0 s1 s2 s3 s4 r0 r1 r2 r3 r4 q0 q1 q2 X1
 have q0 := X2.out.2.2.cell 0
 have q1 := X2.out.2.2.cell 1
 have f0 := X2.out.2.1.frozen 0
 have f1 := X2.out.2.1.frozen 1
 have p0 := X2.out.2.1.cell 0
 have p1 := X2.out.2.1.cell 1
 go_wp2_with fail
 have XE := hID ((X2.out.2.1.put 0 (.int .i64 1)).put 1 (.slice AV nv cv))
 exact bodyPost_ret (results_cell_row_tmp rfl _ _ _ _ _ (0, 0) _ rfl XE.out Tryz.underlying97 rfl Tryz.infoPl) rfl ⟨⟨_, _, _, rfl⟩, (X2.out.1.put (.inr (Nat.le_succ _)) _).put (.inr (Nat.le_succ _)) _⟩
theorem tCheck_ex (w : World) (VI VT VS VF : Value) (hI : Rd w (fun _ => True) 1 VI 2 [.int .i64 5, .int .i64 9]) (hT : Rd w (fun _ => True) 1 VT 256 (tabV 256)) (hS : Rd w (fun _ => True) 1 VS 1 [.int .u64 5]) (hF : Rd w (fun _ => True) 1 VF 2 [.int .u64 2, .int .u64 4]) (hcT : CapOk VT) (hcF : CapOk VF) (hZ : TzT w) :
  Calls Tryz.prog 42 #[.agg #[VI, .int .i64 1, VT, VS, VF]] w (RetV w (.int .i64 0)) := by
 have HP := hID (fun (W : World) (o : Off Nob w W) => tPlan_ex W VI VT VS VF (hI.keepT o) (hT.keepT o) (hS.keepT o) (hF.keepT o) hcT hcF (tz_keep hZ o))
 obtain ⟨AI, ci, rfl, _⟩ := hI.form
 obtain ⟨AT, ct, rfl, _⟩ := hT.form
 obtain ⟨AS, cs, rfl, _⟩ := hS.form
 obtain ⟨AF, cf, rfl, _⟩ := hF.form
 clear hI hT hS hF hZ hcT hcF
 go_enter Tryz.func42, Tryz.ntmps42
 have X0 : Hid (Off Nob w (w.alloc (.cells #[.slice AI 2 ci, .int .i64 1, .slice AT 256 ct, .slice AS 1 cs, .slice AF 2 cf] 25)) ∧ Blk (w.alloc (.cells #[.slice AI 2 ci, .int .i64 1, .slice AT 256 ct, .slice AS 1 cs, .slice AF 2 cf] 25)) w.heap.size 25 #[.slice AI 2 ci, .int .i64 1, .slice AT 256 ct, .slice AS 1 cs, .slice AF 2 cf]) := hID ⟨(Off.refl _ _).alloc _, Blk.new _ _ _⟩
 have s0 := X0.out.2.cell 0
 have s1 := X0.out.2.cell 1
 have s2 := X0.out.2.cell 2
 have s3 := X0.out.2.cell 3
 have s4 := X0.out.2.cell 4
 go_wp2_with fail
 refine (HP.out _ X0.out.1).mono ?_
 rintro e w2 ⟨⟨AV, nv, cv, rfl⟩, o2⟩
 have X2 := hID ((X0.out.1.also o2).alloc (.cells #[.int .i64 1, .slice AV nv cv] 97))
 go_wp2_with fail
 go_ret
 exact ⟨rfl, X2.out⟩
end Go.Proofs.YtkflicifngohcaaGreatDoor
