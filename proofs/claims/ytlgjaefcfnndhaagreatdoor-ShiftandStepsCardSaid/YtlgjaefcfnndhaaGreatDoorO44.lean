/-
 dragnetref17.Find of a plan that is right; dragnetref20's Alive.
-/
import Derived.Test.YtlgjaefcfnndhaaGreatDoorO43
import Derived.Test.YtlgjaefcfnndhaaGreatDoorO39
set_option linter.unusedVariables false
set_option linter.unusedSimpArgs false
set_option maxHeartbeats 16000000
set_option maxRecDepth 100000
namespace Go.Proofs.YtlgjaefcfnndhaaGreatDoor
open Go.RowKit
theorem qzx (W : Nat) (h1 : 1 ≤ W) (hW : W ≤ 8) (l : List Ln) (hn : l.length ≤ 256) (hok : qak W l = true) (k : Nat) (hk : k < lnEnd 0 l) (w : World) (v : Value) (hv : Rd w (fun _ => True) 3 v l.length (lnV l)) :
  Calls Tryz.prog 34 #[.agg #[.int .i64 W, v], .int .i64 (k : Int)] w (RetV w (.tuple #[.int .i64 (laneI l k : Int), .int .i64 ((k - (l.getD (laneI l k) (0, 0, 0)).2.1 : Nat) : Int), .int .i64 0])) := by
 obtain ⟨A, c, rfl, _, hcell⟩ := hv.form
 have hz := (LnFacts.of hok).pos
 have he := (LnFacts.of hok).e256
 obtain ⟨b, o, rfl, hlt, hc⟩ := hcell hz
 have HC : Hid (∀ V, Off Nob w V → ∀ i, i < l.length → V.cell? ⟨b, o + i * 3 + 1, none⟩ = some (.int .i64 ((l.getD i (0, 0, 0)).2.1 : Int)) ∧ V.cell? ⟨b, o + i * 3 + 2, none⟩ = some (.int .i64 ((l.getD i (0, 0, 0)).2.2 : Int))) := hID (fun V oV i hi => by
  rw [oV.cell_old hlt, oV.cell_old hlt, Nat.add_assoc, Nat.add_assoc]
  exact ⟨hc _ _ (qc6 hi).2.1, hc _ _ (qc6 hi).2.2⟩)
 have hsp : laneI l k < l.length ∧ (l.getD (laneI l k) (0, 0, 0)).2.1 ≤ k ∧ k < (l.getD (laneI l k) (0, 0, 0)).2.1 + (l.getD (laneI l k) (0, 0, 0)).2.2 ∧ (∀ i, i < laneI l k → (l.getD i (0, 0, 0)).2.1 + (l.getD i (0, 0, 0)).2.2 ≤ k) := by
  have h := hok
  unfold qak at h
  simp only [Bool.and_eq_true] at h
  obtain ⟨q1, q2, q3, q4, q5, q6⟩ := qdi l 0 0 false k h.1.2 (Nat.zero_le _) hk
  exact ⟨q1, q2, q3, q6⟩
 have HALL := hID (fun (i : Nat) (hi : i < l.length) => show (l.getD i (0, 0, 0)).2.1 ≤ 256 ∧ (l.getD i (0, 0, 0)).2.2 ≤ 256 by
  have hm : l.getD i (0, 0, 0) ∈ l := by rw [gDe, gEe hi]; exact List.getElem_mem hi
  have := (LnFacts.of hok).all _ hm
  omega)
 have HSP := hID (fun (V : World) (oV : Off Nob w V) => qpu W h1 hW l (by omega) hok V _ (hv.keepT oV))
 obtain ⟨i, hi⟩ : ∃ i, laneI l k = i := ⟨_, rfl⟩
 rw [hi] at hsp
 rw [hi]
 have HI := hID hsp
 have hin := hsp.1
 obtain ⟨n, hn2⟩ : ∃ n, l.length = n := ⟨_, rfl⟩
 rw [hn2] at hn hz hin HSP HC HALL
 obtain ⟨sp, hsp2⟩ : ∃ sp, lnEnd 0 l = sp := ⟨_, rfl⟩
 rw [hsp2] at hk HSP he
 have hkb : k < 256 := by omega
 have e0 : decide ((k : Int) < 0) = false := dcF
 have e2 : decide ((sp : Int) ≤ (k : Int)) = false := dcF
 have e3 : decide (sp ≤ k) = false := dcF
 rw [show l.length = n from hn2]
 clear hv hcell hc hi hn2 hsp2 hok hlt hsp hk he
 go_enter Tryz.func34, Tryz.ntmps34
 have HB0 : Hid (Blk (w.alloc (.cells #[.int .i64 W, .slice (some ⟨b, o, none⟩) n c] 62)) w.heap.size 62 #[.int .i64 W, .slice (some ⟨b, o, none⟩) n c] ∧ Off Nob w (w.alloc (.cells #[.int .i64 W, .slice (some ⟨b, o, none⟩) n c] 62))) := hID ⟨Blk.new _ _ _, oAl oRf _⟩
 go_wp2_with fail
 revert HB0
 generalize (w.alloc (.cells #[.int .i64 W, .slice (some ⟨b, o, none⟩) n c] 62)) = w0
 intro HB0
 have GC : Hid (∀ V, Off Nob w0 V → V.cell? ⟨w.heap.size, 0, none⟩ = some (.int .i64 W) ∧ V.cell? ⟨w.heap.size, 1, none⟩ = some (.slice (some ⟨b, o, none⟩) n c)) := hID (fun V ho => by
  have h := HB0.out.1.to (ho.block _ HB0.out.1.lt id)
  exact ⟨h.cell 0, h.cell 1⟩)
 obtain ⟨t0, t1⟩ := GC.out _ oRf
 go_wp2_with fail
 refine (HSP.out _ HB0.out.2).mono ?_
 rintro e w1 ⟨rfl, o1⟩
 have X1 := hID o1
 clear o1 t0 t1 HSP
 go_wp2_with fail
 go_loopw [9] (fun x wr => ∃ j : Nat, j ≤ i ∧ x = .int .i64 (j : Int) ∧ Off Nob w0 wr) (fun x _ => i - (intOf x).toNat)
 case atStart => exact ⟨0, Nat.zero_le _, rfl, X1.out⟩
 case round =>
  obtain ⟨j, hj, rfl, oj⟩ := hrel
  have OJ := hID oj
  clear oj
  obtain ⟨t0, t1⟩ := GC.out _ OJ.out
  have hjn : j < n := by omega
  obtain ⟨q1, q2⟩ := HC.out _ (HB0.out.2.also OJ.out) j hjn
  have hb := HALL.out j hjn
  have HLT := hID (fun (h : j < i) => HI.out.2.2.2 j h)
  have HEQ := hID (fun (h : j = i) => show (l.getD j (0, 0, 0)).2.1 ≤ k ∧ k < (l.getD j (0, 0, 0)).2.1 + (l.getD j (0, 0, 0)).2.2 by rw [h]; exact ⟨HI.out.2.1, HI.out.2.2.1⟩)
  obtain ⟨f, hf⟩ : ∃ f, (l.getD j (0, 0, 0)).2.1 = f := ⟨_, rfl⟩
  obtain ⟨d, hd⟩ : ∃ d, (l.getD j (0, 0, 0)).2.2 = d := ⟨_, rfl⟩
  have HF := hID hf
  rw [hf] at q1 hb HLT HEQ
  rw [hd] at q2 hb HLT HEQ
  clear hf hd
  obtain ⟨hf256, hd256⟩ := hb
  have hwr : IntKind.i64.wrap ((f : Int) + (d : Int)) = (f : Int) + (d : Int) := by rw [IntKind.wrap_i64]; omega
  by_cases hlt : j < i
  ·have d1 : decide ((f : Int) + (d : Int) ≤ (k : Int)) = true := dT (by have := HLT.out hlt; omega)
   have d2 : decide (f + d ≤ k) = true := dT (HLT.out hlt)
   have T0 : (wr.drew.cell? ⟨w.heap.size, 0, none⟩ = some (.int .i64 W) ∧ wr.drew.cell? ⟨w.heap.size, 1, none⟩ = some (.slice (some ⟨b, o, none⟩) n c)) := ⟨t0, t1⟩
   go_wp2_with fail
   go_quiet (fail)
   go_wp2_with fail
   go_roundw
   case rel => exact ⟨j + 1, hlt, by go_num, OJ.out.drewN _⟩
   case measure => simp [intOf]; omega
  ·obtain rfl : j = i := by omega
   obtain ⟨g1, g2⟩ := HEQ.out rfl
   have d1 : decide ((f : Int) + (d : Int) ≤ (k : Int)) = false := dcF
   have d2 : decide (f + d ≤ k) = false := dcF
   have hwk : IntKind.i64.wrap ((k : Int) - (f : Int)) = ((k - f : Nat) : Int) := by rw [IntKind.wrap_i64]; omega
   go_wp2_with fail
   go_quiet (fail)
   go_wp2_with fail
   go_quiet (fail)
   go_wp2_with fail
   go_ret3
   exact ⟨by rw [HF.out]; rfl, ((HB0.out.2.also OJ.out).drewN _).drewN _⟩
theorem qo3 (ids : List Int) (Wd : Int) (T S F X : List Nat) (at_ : Int) (w : World) (VI VT VS VF XV : Value)
  (er : Int) (h0 : shErr ids Wd T S F X at_ = er) (her : er ≠ 0) (hX64 : ∀ x ∈ X, x < 18446744073709551616) (hsv : SetV w VI VT VS VF ids Wd T S F) (hxv : Rd w (fun _ => True) 1 XV X.length (qab X)) :
  Calls Tryz.prog 23 #[.agg #[VI, .int .i64 Wd, VT, VS, VF], .agg #[XV, .int .i64 at_]] w (qgc w [] er) := by
 have HSV := hID hsv
 have HXV := hID hxv
 have HX64 := hID hX64
 have H0 := hID h0
 have HCK := hID (fun (V : World) (oV : Off Nob w V) => qei ids Wd T S F X hX64 at_ V VI VT VS VF XV (hsv.keep oV) (hxv.keepT oV))
 have dz : (er != 0) = true := by rw [bne_iff_ne]; exact her
 clear her
 go_enter Tryz.func23, Tryz.ntmps23
 obtain ⟨w0, HW0, HB0, GC⟩ := box2 w VI VT VS VF XV Wd at_
 clear hsv hxv hX64 h0
 go_wp2_with fail
 rw [HW0.out]
 clear HW0
 obtain ⟨c0, c1, c2, c3, c4, x0, x1⟩ := GC.out _ oRf
 go_wp2_with fail
 refine (HCK.out _ HB0.out.1).mono ?_
 rintro e w1 ⟨rfl, o1⟩
 have O1 := hID o1
 clear o1 c0 c1 c2 c3 c4 x0 x1 HCK
 obtain ⟨c0, c1, c2, c3, c4, x0, x1⟩ := GC.out _ O1.out
 rw [H0.out]
 go_wp2_with fail
 go_ret2
 exact ⟨_, rfl, Rd.nil _ _ _, (Lies.of' HB0.out.1).trans (Lies.of' O1.out)⟩
theorem qsm (ids : List Int) (Wd : Int) (T S F X : List Nat) (at_ : Int) (w : World) (VI VT VS VF XV : Value)
  (h0 : shErr ids Wd T S F X at_ = 0) (hX64 : ∀ x ∈ X, x < 18446744073709551616) (hsv : SetV w VI VT VS VF ids Wd T S F) (hxv : Rd w (fun _ => True) 1 XV X.length (qab X)) :
  Calls Tryz.prog 23 #[.agg #[VI, .int .i64 Wd, VT, VS, VF], .agg #[XV, .int .i64 at_]] w (qgc w (qbj (planL ids X.length T S F) (onesN X)) 0) := by
 obtain ⟨ila, hla, lz0, lz1, lz2⟩ := info_parts Tryz.infoLa
 obtain ⟨AX, cx, rfl, _⟩ := hxv.form
 have HPP := hID (fun (V : World) (oV : Off Nob w V) => qnk ids Wd T S F V VI VT VS VF (hsv.keep oV))
 have HSV := hID hsv
 have HXV := hID hxv
 have HX64 := hID hX64
 have H0 := hID h0
 have HCK := hID (fun (V : World) (oV : Off Nob w V) => qei ids Wd T S F X hX64 at_ V VI VT VS VF (.slice AX X.length cx) (hsv.keep oV) (hxv.keepT oV))
 go_enter Tryz.func23, Tryz.ntmps23
 obtain ⟨w0, HW0, HB0, GC⟩ := box2 w VI VT VS VF (.slice AX X.length cx) Wd at_
 clear hsv hxv hX64 h0
 go_wp2_with fail
 rw [HW0.out]
 clear HW0
 obtain ⟨c0, c1, c2, c3, c4, x0, x1⟩ := GC.out _ oRf
 go_wp2_with fail
 refine (HCK.out _ HB0.out.1).mono ?_
 rintro e w1 ⟨rfl, o1⟩
 have O1 := hID o1
 clear o1 c0 c1 c2 c3 c4 x0 x1 HCK
 obtain ⟨c0, c1, c2, c3, c4, x0, x1⟩ := GC.out _ O1.out
 rw [H0.out]
 obtain ⟨hse, hXW, hlow, ha0, ha1⟩ := qcw H0.out
 obtain ⟨hi1, hi16, _, ⟨Wx, hWx, w1', w4', hlt, hls, hlf, hpl⟩, _⟩ := qa8 hse
 obtain rfl : X.length = Wx := by omega
 have HSE := hID hse
 have HLOW := hID hlow
 have HXW := hID hXW
 clear hse hlow hlt hls hlf hpl hWx hXW hi1 hi16 ha0 ha1
 go_wp2_with fail
 refine (HPP.out _ (HB0.out.1.also O1.out)).mono ?_
 rintro e w2 ⟨x, AP, kp, cp, rfl, hyes, o2⟩
 obtain ⟨hx0, l, hll, hrd⟩ := hyes HSE.out
 replace hx0 := hx0.symm
 subst hx0
 have O2 := hID (O1.out.also o2)
 have hpl := hll
 rw [← HXW.out, Int.toNat_natCast] at hpl
 have HPL := hID (show planL ids X.length T S F = l by unfold planL; rw [hpl]; rfl)
 have HPOK := hID (qg1 hpl)
 have HLO2 : Hid (∀ f ∈ onesN X, f < lnEnd 0 l) := hID (by
  have h := HLOW.out
  rw [← HXW.out, Int.toNat_natCast] at h
  have e : qco ids X.length T S F = lnEnd 0 l := by unfold qco; rw [hpl]
  rw [e] at h
  exact h)
 rw [HSE.out]
 obtain rfl : kp = l.length := by obtain ⟨A', c', he, _⟩ := hrd; cases he; rfl
 have HRD := hID hrd.any
 have hrd2 := hrd.any
 clear hrd hll hpl hyes o2 HLOW c0 c1 c2 c3 c4 x0 x1
 have hn4 : l.length ≤ 256 := (LnFacts.of HPOK.out.1).len
 have hz := (LnFacts.of HPOK.out.1).pos
 obtain ⟨bl, ol, cl, hAP, hlc⟩ := hrd2.cellsT hz
 injection hAP with hAP1 _ hAP3
 subst hAP1 hAP3
 have HLC := hID hlc
 clear hlc hrd2
 have HFI := hID (fun (V : World) (oV : Off Nob w2 V) (k : Nat) (hk : k < lnEnd 0 l) => qzx X.length w1' (by omega) l hn4 HPOK.out.1 k hk V _ (HRD.out.keepT oV))
 have HON := hID (fun (V : World) (oV : Off Nob w V) => qf8 X HX64.out w1' (by omega) V (.slice AX X.length cx) (HXV.out.keepT oV))
 have hxw : (X.length : Int) = Wd := HXW.out
 obtain rfl := hxw
 have PB : Hid (Blk (w2.alloc (.cells #[.int .i64 (X.length : Int), .slice (some ⟨bl, ol, none⟩) l.length cp] 62)) w2.heap.size 62 #[.int .i64 (X.length : Int), .slice (some ⟨bl, ol, none⟩) l.length cp] ∧ Off Nob w2 (w2.alloc (.cells #[.int .i64 (X.length : Int), .slice (some ⟨bl, ol, none⟩) l.length cp] 62))) := hID ⟨Blk.new _ _ _, oRf.alloc _⟩
 obtain ⟨c0, c1, c2, c3, c4, x0, x1⟩ := GC.out _ (O2.out.also PB.out.2)
 have p0 := PB.out.1.cell 0
 have p1 := PB.out.1.cell 1
 go_wp2_with fail
 refine (HON.out _ ((HB0.out.1.also O2.out).also PB.out.2)).mono ?_
 rintro e w3 ⟨v3, rfl, hown0⟩
 have oW := hown0.1
 have o3 := hown0.2
 clear hown0
 have HRO := hID (Rd.own (F := fun _ => True) oW (fun _ _ => trivial))
 have O3 := hID (PB.out.2.also o3)
 have PB3 : Hid (Blk w3 w2.heap.size 62 #[.int .i64 (X.length : Int), .slice (some ⟨bl, ol, none⟩) l.length cp]) := hID (PB.out.1.to (o3.block _ PB.out.1.lt id))
 clear oW o3 c0 c1 c2 c3 c4 x0 x1 p0 p1 PB HON HPP
 obtain ⟨A3, c3', rfl, _, hoc⟩ := HRO.out.form
 obtain ⟨N, hN⟩ : ∃ N, (onesN X).length = N := ⟨_, rfl⟩
 have HN := hID hN
 have HOC : Hid (∀ V, Off Nob w3 V → ∀ k, k < N → ∃ b o, A3 = some ⟨b, o, none⟩ ∧ V.cell? ⟨b, o + k, none⟩ = some (.int .i64 (((onesN X).getD k 0 : Nat) : Int))) := hID (fun V oV k hk => by
  obtain ⟨b, o, rfl, hlt, hc⟩ := hoc (by omega)
  refine ⟨b, o, rfl, ?_⟩
  rw [oV.cell_old hlt]
  exact hc k _ (qcq (by rw [hN]; exact hk)))
 rw [hN]
 have hN256 : N ≤ 256 := by
  have h := List.length_filter_le (bitAt X) (List.range (64 * X.length))
  rw [List.length_range] at h
  have h5 : (onesN X).length ≤ 64 * X.length := h
  omega
 clear hoc hN
 go_wp2_with fail
 go_loopw [11, 12] (fun x y wr => ∃ k : Nat, k ≤ N ∧ y = .int .i64 (k : Int) ∧ OwnL w3 wr 43 3 x k (lnV (qbj l ((onesN X).take k)))) (fun _ y _ => N - (intOf y).toNat)
 case atStart => exact ⟨0, Nat.zero_le _, rfl, by rw [List.take_zero]; exact OwnL.nilAt oRf _ _⟩
 case round =>
  obtain ⟨k, hk, rfl, oW⟩ := hrel
  obtain ⟨AA, cq, rfl⟩ := oW.form
  have HO := hID oW
  clear oW
  by_cases hlt : k < N
  ·have d1 : decide ((k : Int) < (N : Int)) = true := dcT
   obtain ⟨b3, o3, rfl, q1⟩ := HOC.out wr HO.out.2 k hlt
   have hpm : (onesN X).getD k 0 ∈ onesN X := by rw [gDe, gEe (by rw [HN.out]; exact hlt)]; exact List.getElem_mem _
   have hpl := HLO2.out _ hpm
   have HTK : Hid ((onesN X).take (k + 1) = (onesN X).take k ++ [(onesN X).getD k 0]) := hID (by
    rw [List.take_succ_eq_append_getElem (by rw [HN.out]; exact hlt), gDe, gEe (by rw [HN.out]; exact hlt)]
    rfl)
   obtain ⟨p, hp⟩ : ∃ p, (onesN X).getD k 0 = p := ⟨_, rfl⟩
   have HPE := hID hp
   rw [hp] at q1 hpl HTK
   have HP256 : Hid (p < 256) := hID (by have := (LnFacts.of HPOK.out.1).e256; omega)
   have hli : laneI l p < l.length ∧ (l.getD (laneI l p) (0, 0, 0)).2.1 ≤ p := by
    have h := HPOK.out.1
    unfold qak at h
    simp only [Bool.and_eq_true] at h
    obtain ⟨q1, q2, _⟩ := qdi l 0 0 false p h.1.2 (Nat.zero_le _) hpl
    exact ⟨q1, q2⟩
   have b1 := PB3.out.to (HO.out.2.block _ PB3.out.lt id)
   have p0 := b1.cell 0
   have p1 := b1.cell 1
   have HPL2 := hID hpl
   clear hp hpm b1 hpl
   go_wp2_with fail
   refine wp_region_held_drew (S := fun W => W.cell? ⟨w2.heap.size, 0, none⟩ = some (.int .i64 (X.length : Int)) ∧ W.cell? ⟨w2.heap.size, 1, none⟩ = some (.slice (some ⟨bl, ol, none⟩) l.length cp) ∧ W.cell? ⟨b3, o3 + k, none⟩ = some (.int .i64 (p : Int))) (by kernel_rfl) ?_ (fun hHeld => ?_)
   ·(try dsimp only); exact ⟨p0, p1, q1⟩
   refine tkH 0 ?_
   refine tkH 1 ?_
   refine tkH 2 ?_
   refine tkH 3 ?_
   refine tkH 4 ?_
   refine wpAnyH_ready (rs := [5]) (by kernel_rfl) (by simp) ?_
   refine AllReadyH.cons rfl (fun K hK => ?s5) ?m5
   case s5 =>
    go_simp
    refine (HFI.out _ (O3.out.also HO.out.2.drew) p HPL2.out).mono ?_
    rintro e w4 ⟨rfl, o4⟩
    have O4 := hID (HO.out.2.drew.also o4)
    have HO4 := hID ((OwnL.off HO.out oRf.drew).off o4)
    clear o4 p0 p1 q1
    have b2 := PB3.out.to (O4.out.block _ PB3.out.lt id)
    have T2 : Hid (w4.cell? ⟨w2.heap.size, 0, none⟩ = some (.int .i64 (X.length : Int)) ∧ w4.cell? ⟨w2.heap.size, 1, none⟩ = some (.slice (some ⟨bl, ol, none⟩) l.length cp) ∧ w4.cell? ⟨b3, o3 + k, none⟩ = some (.int .i64 (p : Int))) := hID ⟨b2.cell 0, b2.cell 1, by
     obtain ⟨b4, o4, he, hc⟩ := HOC.out w4 O4.out k hlt
     injection he with he
     injection he with he1 he2
     subst he1 he2
     rw [HPE.out] at hc
     exact hc⟩
    clear b2
    have b1 := PB3.out.to (O4.out.block _ PB3.out.lt id)
    have p0 := b1.cell 0
    have p1 := b1.cell 1
    have hlc := HLC.out _ (O3.out.also O4.out)
    obtain ⟨g1, g2, g3⟩ := qc6 hli.1
    have l1 := hlc _ _ g1
    have l2 := hlc _ _ g2
    have l3 := hlc _ _ g3
    have HAL : Hid (qnt l p = ((l.getD (laneI l p) (0, 0, 0)).1, (l.getD (laneI l p) (0, 0, 0)).2.1, p - (l.getD (laneI l p) (0, 0, 0)).2.1 + 1)) := hID rfl
    obtain ⟨i, hi⟩ : ∃ i, laneI l p = i := ⟨_, rfl⟩
    rw [hi] at hli l1 l2 l3 HAL
    rw [hi]
    obtain ⟨⟨ra, fa, ca⟩, hx⟩ : ∃ x, l.getD i (0, 0, 0) = x := ⟨_, rfl⟩
    rw [hx] at hli l1 l2 l3 HAL
    rw [hx]
    dsimp only at hli l1 l2 l3 HAL ⊢
    rw [← Nat.add_assoc] at l2 l3
    obtain ⟨hil, hfp⟩ := hli
    go_simp
    refine hK.out _ _ ?_ (fun hHeld => ?_)
    ·first | exact T2.out | go_keep
    clear hK K
    try simp only [Act.put, qL]
    refine tkH 6 ?_
    refine tkH 7 ?_
    refine tkH 8 ?_
    refine tkH 9 ?_
    refine tkH 10 ?_
    refine tkH 11 ?_
    refine tkH 12 ?_
    refine wpAnyH_done (by kernel_rfl) ?_ _
    clear T2 hHeld
    obtain ⟨nl, hnl⟩ : ∃ nl, l.length = nl := ⟨_, rfl⟩
    rw [hnl] at hil p1 hn4
    have hp256 := HP256.out
    have hwp : IntKind.i64.wrap (((p - fa : Nat) : Int) + 1) = ((p - fa + 1 : Nat) : Int) := by rw [IntKind.wrap_i64]; omega
    clear hi hx hlc g1 g2 g3 b1 hnl
    obtain ⟨M, hM⟩ : ∃ M, qbj l ((onesN X).take k) = M := ⟨_, rfl⟩
    have HML : Hid (M.length = k) := hID (by rw [← hM]; unfold qbj; rw [List.length_map, List.length_take, HN.out]; omega)
    have HMN : Hid (qbj l ((onesN X).take (k + 1)) = M ++ [(ra, fa, p - fa + 1)]) := hID (by rw [HTK.out, ← hM, ← HAL.out]; unfold qbj; rw [List.map_append]; rfl)
    rw [hM] at HO4
    clear hM HTK HAL HPL2
    go_wp2_with (at_builtin; refine wpList_append_own_at _ rfl _ _ 39 rfl w3.heap.size 43 ila (.agg #[.int .i64 0, .int .i64 0, .int .i64 0]) 3 24 Tryz.underlying39 hla lz0 lz1 lz2 rfl (by decide) (.slice AA k cq) k (lnV M) rfl ((HO4.out.1.alloc _).alloc _) ⟨w4.heap.size + 1, 0, none⟩ 1 1 [.int .i64 (ra : Int), .int .i64 (fa : Int), .int .i64 (((p - fa : Nat) : Int) + 1)] rfl rfl ?c1 ?c2 ?c3 ?c4 ?c5 ?_)
    case c1 =>
     have h := qai (w4.alloc (.cells #[.int .i64 (ra : Int), .int .i64 (fa : Int), .int .i64 (ca : Int)] 43)) [.int .i64 (ra : Int), .int .i64 (fa : Int), .int .i64 (((p - fa : Nat) : Int) + 1)] 43
     rw [World.size_alloc] at h
     exact h
    case c2 => intro u hu; simp at hu; rcases hu with rfl | rfl | rfl <;> rfl
    case c3 => unfold maxLen; omega
    case c4 => omega
    case c5 => have := HO4.out.2.size; simp; omega
    intro v' w5 hown' gW hnil hat
    have O5 : Hid (OwnL w3 w5 43 3 v' (k + 1) (lnV (qbj l ((onesN X).take (k + 1))))) := hID (by
     have := HO4.out.grown (oAl (oAl oRf _) _) hown' gW
     rw [HMN.out, qb2]
     push_cast
     exact this)
    clear hown' gW hnil hat HO4 HMN
    go_wp2_with fail
    go_roundw
    case rel => exact ⟨k + 1, hlt, by go_num, O5.out⟩
    case measure => simp [intOf]; omega
   exact AllReadyH.nil
  ·obtain rfl : k = N := by omega
   have d1 : decide ((k : Int) < (k : Int)) = false := dcF
   go_wp2_with fail
   go_ret2
   have e : (onesN X).take k = onesN X := by rw [← HN.out]; exact List.take_length
   have h := HO.out.1
   rw [e] at h
   have hl : (qbj l (onesN X)).length = k := by unfold qbj; rw [List.length_map, HN.out]
   have s1 := HB0.out.1.size
   have s2 := O2.out.size
   have s3 := O3.out.size
   refine ⟨_, rfl, ?_, (((Lies.of' HB0.out.1).trans (Lies.of' O2.out)).trans (Lies.of' O3.out)).trans (Lies.of' HO.out.2)⟩
   rw [HPL.out, hl]
   exact Rd.own h (fun g hg => by have := (h.lt g hg).1; omega)
end Go.Proofs.YtlgjaefcfnndhaaGreatDoor
