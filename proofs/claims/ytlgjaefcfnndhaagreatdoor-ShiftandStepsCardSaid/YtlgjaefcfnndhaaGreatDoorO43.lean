/-
 The plain law of shiftand's automaton: what a byte does to the words is what it does to the bits; the hits.
-/
import Derived.Test.YtlgjaefcfnndhaaGreatDoorO23
import Derived.Test.YtlgjaefcfnndhaaGreatDoorO31
import Derived.Test.YtlgjaefcfnndhaaGreatDoorO37
import Derived.Test.YtlgjaefcfnndhaaGreatDoorO38
set_option linter.unusedVariables false
set_option linter.unusedSimpArgs false
set_option maxHeartbeats 16000000
set_option maxRecDepth 100000
namespace Go.Proofs.YtlgjaefcfnndhaaGreatDoor
section
open Go.RowKit Go.Conc Go.Pip
theorem qun {X : List Nat} (hX64 : ∀ x ∈ X, x < 18446744073709551616) (j r : Nat) (hr : r < 64) :
  ((X.getD j 0 * 2) % 18446744073709551616 ||| cyN X j).testBit r = (decide (1 ≤ 64 * j + r) && bitAt X (64 * j + r - 1)) := by
 have e2 : X.getD j 0 * 2 = X.getD j 0 * 2 ^ 1 := by omega
 have em : (18446744073709551616 : Nat) = 2 ^ 64 := by decide
 have ed : (9223372036854775808 : Nat) = 2 ^ 63 := by decide
 have h0 : ∀ k, (X.getD k 0).testBit (64 + k * 0) = false := fun k => Nat.testBit_lt_two_pow (Nat.lt_of_lt_of_le (qbg hX64 k) (by rw [em]; exact Nat.pow_le_pow_right (by decide) (by omega)))
 rw [Nat.testBit_or, em, Nat.testBit_mod_two_pow, e2, Nat.testBit_mul_two_pow]
 unfold cyN bitAt
 by_cases hr0 : r = 0
 ·subst hr0
  by_cases hj : j = 0
  ·subst hj; simp
  ·have e1 : (64 * j + 0 - 1) / 64 = j - 1 := by omega
   have e3 : (64 * j + 0 - 1) % 64 = 63 := by omega
   rw [if_neg hj, e1, e3, ed, Nat.testBit_div_two_pow]
   have d : decide (1 ≤ 64 * j + 0) = true := dcT
   rw [d]
   simp
 ·have e1 : (64 * j + r - 1) / 64 = j := by omega
  have e3 : (64 * j + r - 1) % 64 = r - 1 := by omega
  have d : decide (1 ≤ 64 * j + r) = true := dcT
  have hc : (if j = 0 then 0 else X.getD (j - 1) 0 / 9223372036854775808).testBit r = false := by
   split
   ·simp
   ·rw [ed, Nat.testBit_div_two_pow]
    exact Nat.testBit_lt_two_pow (Nat.lt_of_lt_of_le (qbg hX64 _) (by rw [em]; exact Nat.pow_le_pow_right (by decide) (by omega)))
  rw [hc, e1, e3, d]
  have d1 : decide (r < 64) = true := dT hr
  have d2 : decide (r ≥ 1) = true := dcT
  rw [d1, d2]
  simp
theorem qyg {T S X : List Nat} {W b : Nat} (hX64 : ∀ x ∈ X, x < 18446744073709551616) (hT64 : ∀ x ∈ T, x < 18446744073709551616) : rdTo W T S X b W = stepX T S W X b := by
 have hl : (stepX T S W X b).length = W := by unfold stepX andX; exact qdb _ _
 refine qkt (by rw [qcj, hl]) (qk3 hX64 hT64) (by unfold stepX andX; exact qgs _ _) fun i hi => ?_
 rw [qcj] at hi
 have hj : i / 64 < W := by omega
 unfold stepX andX orX shX
 rw [qee, qee, qee, qen hi]
 have d : decide (i < 64 * W) = true := dT hi
 rw [d]
 simp only [Bool.true_and]
 have hs := qun hX64 (i / 64) (i % 64) (by omega)
 have e : 64 * (i / 64) + i % 64 = i := by omega
 rw [e] at hs
 rw [← hs]
 show ((rdTo W T S X b W).getD (i / 64) 0).testBit (i % 64) = _
 rw [qe5 hj, if_pos hj]
 unfold nxN
 rw [Nat.testBit_and, Nat.testBit_or]
 rfl
theorem qjf {F X : List Nat} {W i : Nat} : ∀ (j r : Nat), (metN F X W i j).testBit r = true ↔ ∃ k, k < j ∧ (X.getD k 0).testBit r = true ∧ (F.getD (i * W + k) 0).testBit r = true
 | 0, r => by simp [metN]
 | j + 1, r => by
  unfold metN
  rw [Nat.testBit_or, Bool.or_eq_true, qjf j r, Nat.testBit_and, Bool.and_eq_true]
  constructor
  ·rintro (⟨k, h1, h2⟩ | h)
   ·exact ⟨k, by omega, h2⟩
   ·exact ⟨j, by omega, h⟩
  ·rintro ⟨k, h1, h2⟩
   by_cases e : k = j
   ·subst e; exact .inr h2
   ·exact .inl ⟨k, by omega, h2⟩
theorem quo {F : List Nat} {W : Nat} {X : List Nat} {r : Nat} : hitR F W X r = true ↔ ∃ i, i < 64 * W ∧ bitAt X i = true ∧ bitAt (finL F W r) i = true := by
 unfold hitR
 rw [decide_eq_true_eq]
 have hl : (andX W X (finL F W r)).length = W := qdb _ _
 constructor
 ·intro h
  obtain ⟨i, hi⟩ := List.exists_mem_of_length_pos h
  have := qaq.1 hi
  rw [hl] at this
  obtain ⟨h1, h2⟩ := this
  unfold andX at h2
  rw [qee, Bool.and_eq_true, Bool.and_eq_true] at h2
  exact ⟨i, h1, h2.2.1, h2.2.2⟩
 ·rintro ⟨i, h1, h2, h3⟩
  refine List.length_pos_of_mem (a := i) (qaq.2 ⟨by rw [hl]; exact h1, ?_⟩)
  unfold andX
  rw [qee, dT h1, h2, h3]
  rfl
theorem qp2 {F : List Nat} {W r k : Nat} (hk : k < W) : (finL F W r).getD k 0 = F.getD (r * W + k) 0 := by
 unfold finL
 rw [gDe, List.getElem?_take, if_pos hk, List.getElem?_drop, gDe]
theorem qp3 {F X : List Nat} {W r : Nat} (hX64 : ∀ x ∈ X, x < 18446744073709551616) : (metN F X W r W = 0) ↔ hitR F W X r = false := by
 rw [← Bool.not_eq_true, quo]
 constructor
 ·rintro h ⟨i, h1, h2, h3⟩
  have hb : (metN F X W r W).testBit (i % 64) = true := (qjf W (i % 64)).2 ⟨i / 64, by omega, h2, by
   have := h3
   unfold bitAt at this
   rw [qp2 (by omega)] at this
   exact this⟩
  rw [h] at hb
  simp at hb
 ·intro h
  refine Nat.eq_of_testBit_eq fun q => ?_
  rw [Nat.zero_testBit]
  cases hb : (metN F X W r W).testBit q with
  | false => rfl
  | true =>
   obtain ⟨k, h1, h2, h3⟩ := (qjf W q).1 hb
   have hq : q < 64 := by
    rcases Nat.lt_or_ge q 64 with h | h
    ·exact h
    ·have e : (X.getD k 0).testBit q = false := Nat.testBit_lt_two_pow (Nat.lt_of_lt_of_le (qbg hX64 k) (by rw [show (18446744073709551616 : Nat) = 2 ^ 64 by decide]; exact Nat.pow_le_pow_right (by decide) h))
     rw [e] at h2; cases h2
   refine absurd ⟨64 * k + q, by omega, ?_, ?_⟩ h
   ·unfold bitAt
    rw [show (64 * k + q) / 64 = k by omega, show (64 * k + q) % 64 = q by omega]
    exact h2
   ·unfold bitAt
    rw [show (64 * k + q) / 64 = k by omega, show (64 * k + q) % 64 = q by omega, qp2 h1]
    exact h3
theorem qlp {F X : List Nat} {W : Nat} (hX64 : ∀ x ∈ X, x < 18446744073709551616) : ∀ n, hitsN F X W n = qby F W X n
 | 0 => by simp [hitsN, qby]
 | n + 1 => by
  unfold hitsN
  rw [qlp hX64 n]
  cases h : hitR F W X n with
  | true => rw [qkc h, if_neg (fun e => by rw [(qp3 hX64).1 e] at h; cases h)]
  | false => rw [qln h, if_pos ((qp3 hX64).2 h), List.append_nil]
end
section
open Go.RowKit
theorem qup {X : List Nat} {f : Nat} (h : f ∈ onesN X) : f ≤ (onesN X).getD ((onesN X).length - 1) 0 := by
 obtain ⟨i, hi, rfl⟩ := List.getElem_of_mem h
 have ha := qda X
 rw [gDe, gEe (by omega)]
 show (onesN X)[i] ≤ (onesN X)[(onesN X).length - 1]
 rcases Nat.lt_or_ge i ((onesN X).length - 1) with h1 | h1
 ·exact Nat.le_of_lt (List.pairwise_iff_getElem.1 ha i _ hi (by omega) h1)
 ·have : i = (onesN X).length - 1 := by omega
  exact Nat.le_of_eq (by congr 1)
theorem qei (ids : List Int) (Wd : Int) (T S F X : List Nat) (hX64 : ∀ x ∈ X, x < 18446744073709551616) (at_ : Int) (w : World) (VI VT VS VF XV : Value) (hs : SetV w VI VT VS VF ids Wd T S F) (hxv : Rd w (fun _ => True) 1 XV X.length (qab X)) :
  Calls Tryz.prog 16 #[.agg #[VI, .int .i64 Wd, VT, VS, VF], .agg #[XV, .int .i64 at_]] w (RetV w (.int .i64 (shErr ids Wd T S F X at_))) := by
 have HP := hID (fun (V : World) (oV : Off Nob w V) => qnk ids Wd T S F V VI VT VS VF (hs.keep oV))
 have HXV := hID hxv
 have HX64 := hID hX64
 obtain ⟨AX, cx, rfl, _⟩ := hxv.form
 clear hs hxv hX64
 go_enter Tryz.func16, Tryz.ntmps16
 have HB0 : Hid (Off Nob w ((w.alloc (.cells #[VI, .int .i64 Wd, VT, VS, VF] 25)).alloc (.cells #[.slice AX X.length cx, .int .i64 at_] 27)) ∧ Blk ((w.alloc (.cells #[VI, .int .i64 Wd, VT, VS, VF] 25)).alloc (.cells #[.slice AX X.length cx, .int .i64 at_] 27)) w.heap.size 25 #[VI, .int .i64 Wd, VT, VS, VF] ∧ Blk ((w.alloc (.cells #[VI, .int .i64 Wd, VT, VS, VF] 25)).alloc (.cells #[.slice AX X.length cx, .int .i64 at_] 27)) (w.heap.size + 1) 27 #[.slice AX X.length cx, .int .i64 at_]) := hID ⟨(oRf.alloc _).alloc _, (Blk.new _ _ _).alloc _, qal _ _ _ _⟩
 go_wp2_with fail
 revert HB0
 generalize ((w.alloc (.cells #[VI, .int .i64 Wd, VT, VS, VF] 25)).alloc (.cells #[.slice AX X.length cx, .int .i64 at_] 27)) = w0
 intro HB0
 have GC : Hid (∀ V, Off Nob w0 V → V.cell? ⟨w.heap.size, 0, none⟩ = some VI ∧ V.cell? ⟨w.heap.size, 1, none⟩ = some (.int .i64 Wd) ∧ V.cell? ⟨w.heap.size, 2, none⟩ = some VT ∧ V.cell? ⟨w.heap.size, 3, none⟩ = some VS ∧ V.cell? ⟨w.heap.size, 4, none⟩ = some VF ∧ V.cell? ⟨w.heap.size + 1, 0, none⟩ = some (.slice AX X.length cx) ∧ V.cell? ⟨w.heap.size + 1, 1, none⟩ = some (.int .i64 at_)) := hID (fun V ho => by
  have h := HB0.out.2.1.to (ho.block _ HB0.out.2.1.lt id)
  have k := HB0.out.2.2.to (ho.block _ HB0.out.2.2.lt id)
  exact ⟨h.cell 0, h.cell 1, h.cell 2, h.cell 3, h.cell 4, k.cell 0, k.cell 1⟩)
 obtain ⟨c0, c1, c2, c3, c4, x0, x1⟩ := GC.out _ oRf
 go_wp2_with fail
 refine (HP.out _ HB0.out.1).mono ?_
 rintro e w1 ⟨x, AP, kp, cp, rfl, hyes, o1⟩
 have Y1 := hID o1
 have HY := hID hyes
 clear o1 hyes c0 c1 c2 c3 c4 x0 x1
 have PB : Hid (Blk (w1.alloc (.cells #[.int .i64 x, .slice AP kp cp] 62)) w1.heap.size 62 #[.int .i64 x, .slice AP kp cp] ∧ Off Nob w0 (w1.alloc (.cells #[.int .i64 x, .slice AP kp cp] 62)) ∧ Off Nob w1 (w1.alloc (.cells #[.int .i64 x, .slice AP kp cp] 62))) := hID ⟨Blk.new _ _ _, Y1.out.alloc _, oRf.alloc _⟩
 obtain ⟨c0, c1, c2, c3, c4, x0, x1⟩ := GC.out _ PB.out.2.1
 have p0 := PB.out.1.cell 0
 have p1 := PB.out.1.cell 1
 obtain ⟨er, her⟩ : ∃ er, qaf ids Wd T S F = er := ⟨_, rfl⟩
 have HER := hID her
 rw [her]
 by_cases hz : er = 0
 ·have dz : (er == 0) = true := by rw [hz]; rfl
  subst hz
  clear her dz
  by_cases hl : (X.length : Int) = Wd
  ·subst hl
   obtain ⟨hi1, hi16, _, ⟨Wx, hWx, w1', w4', hlt, hls, hlf, hpl⟩, _⟩ := qa8 HER.out
   obtain rfl : X.length = Wx := by omega
   obtain ⟨rfl, l, hll, hrd⟩ := HY.out HER.out
   rw [Int.toNat_natCast] at hll
   have HSPO := hID (show qco ids X.length T S F = lnEnd 0 l by unfold qco; rw [hll])
   have HPL := hID (qg1 hll)
   obtain rfl : kp = l.length := by obtain ⟨A', c', he, _⟩ := hrd; cases he; rfl
   have HRD := hID hrd.any
   clear hrd hll hlt hls hlf hpl hWx HY
   have hn4 : l.length ≤ 4096 := by have := (LnFacts.of HPL.out.1).len; omega
   have hnl : (onesN X).length ≤ 256 := by
    have h := List.length_filter_le (bitAt X) (List.range (64 * X.length))
    rw [List.length_range] at h
    have h5 : (onesN X).length ≤ 64 * X.length := h
    omega
   have HSP := hID (fun (V : World) (oV : Off Nob w1 V) => qpu X.length w1' (by omega) l hn4 HPL.out.1 V _ (HRD.out.keepT oV))
   have HON := hID (fun (V : World) (oV : Off Nob w V) => qf8 X HX64.out w1' (by omega) V (.slice AX X.length cx) (HXV.out.keepT oV))
   go_wp2_with fail
   refine (HSP.out _ PB.out.2.2).mono ?_
   rintro e w2 ⟨rfl, o2⟩
   have Y2 := hID (PB.out.2.1.also o2)
   clear o2 c0 c1 c2 c3 c4 x0 x1 p0 p1 HSP
   obtain ⟨c0, c1, c2, c3, c4, x0, x1⟩ := GC.out _ Y2.out
   obtain ⟨sp, hsp⟩ : ∃ sp, lnEnd 0 l = sp := ⟨_, rfl⟩
   have HS2 := hID (HSPO.out.trans hsp)
   rw [hsp]
   clear hsp HSPO
   go_wp2_with fail
   refine (HON.out _ (HB0.out.1.also Y2.out)).mono ?_
   rintro e w3 ⟨v3, rfl, oW⟩
   have Y3 := hID (Y2.out.also oW.2)
   have HRO := hID (Rd.own (F := fun _ => True) oW.1 (fun _ _ => trivial))
   clear oW c0 c1 c2 c3 c4 x0 x1 HON
   obtain ⟨c0, c1, c2, c3, c4, x0, x1⟩ := GC.out _ Y3.out
   by_cases hN0 : (onesN X).length = 0
   ·obtain ⟨A3, c3, rfl, _⟩ := HRO.out.form
    have HR := hID (qje (at_ := at_) HER.out HS2.out (fun f hf => by rw [List.eq_nil_of_length_eq_zero hN0] at hf; cases hf))
    rw [hN0]
    clear hN0 HRO hnl
    by_cases ha : at_ < 0
    ·have d3 : decide (at_ < 0) = true := dT ha
     have HQ := hID (HR.out.trans (if_pos (.inl ha)))
     clear ha
     go_wp2_with fail
     go_ret
     exact ⟨by rw [HQ.out]; rfl, HB0.out.1.also Y3.out⟩
    have d3 : decide (at_ < 0) = false := dF ha
    by_cases hb : 1000000000 < at_
    ·have d4 : decide (1000000000 < at_) = true := dT hb
     have HQ := hID (HR.out.trans (if_pos (.inr hb)))
     clear ha hb
     go_wp2_with fail
     go_ret
     exact ⟨by rw [HQ.out]; rfl, HB0.out.1.also Y3.out⟩
    ·have d4 : decide (1000000000 < at_) = false := dF hb
     have HQ := hID (HR.out.trans (if_neg (fun h => h.elim ha hb)))
     clear ha hb
     go_wp2_with fail
     go_ret
     exact ⟨by rw [HQ.out]; rfl, HB0.out.1.also Y3.out⟩
   ·obtain ⟨b3, o3, c3, rfl, hc3⟩ := HRO.out.cellsT (by omega)
    have k0 := hc3 _ oRf ((onesN X).length - 1) _ (qcq (by omega))
    have hqm := qnl (L := onesN X) (q := (onesN X).length - 1) (by omega)
    have HTOP := hID (fun (f : Nat) (hf : f ∈ onesN X) => qup hf)
    obtain ⟨q, hq⟩ : ∃ q, (onesN X).getD ((onesN X).length - 1) 0 = q := ⟨_, rfl⟩
    rw [hq] at k0 hqm HTOP
    have HQM := hID hqm
    have hpos : 1 ≤ (onesN X).length := by omega
    clear hc3 hN0 HRO hq hqm
    revert hnl k0 hpos
    generalize (onesN X).length = N
    intro hnl k0 hpos
    have dz : decide ((0 : Int) < (N : Int)) = true := dcT
    have hsub : ((N : Int) - 1) = ((N - 1 : Nat) : Int) := by omega
    have hlt : N - 1 < N := by omega
    obtain ⟨m, hm⟩ : ∃ m, N - 1 = m := ⟨_, rfl⟩
    rw [hm] at k0 hsub hlt
    clear hm
    by_cases hsq : sp ≤ q
    ·have dq : decide ((sp : Int) ≤ (q : Int)) = true := dcT
     have dqn : decide (sp ≤ q) = true := dT hsq
     have HR := hID (qnq (at_ := at_) HER.out HS2.out HQM.out hsq)
     go_wp2_with fail
     go_ret
     exact ⟨by rw [HR.out]; rfl, HB0.out.1.also Y3.out⟩
    ·have dq : decide ((sp : Int) ≤ (q : Int)) = false := dcF
     have dqn : decide (sp ≤ q) = false := dF hsq
     have HR := hID (qje (at_ := at_) HER.out HS2.out (fun f hf => by have := HTOP.out f hf; omega))
     clear hsq
     by_cases ha : at_ < 0
     ·have d3 : decide (at_ < 0) = true := dT ha
      have HQ := hID (HR.out.trans (if_pos (.inl ha)))
      clear ha
      go_wp2_with fail
      go_ret
      exact ⟨by rw [HQ.out]; rfl, HB0.out.1.also Y3.out⟩
     have d3 : decide (at_ < 0) = false := dF ha
     by_cases hb : 1000000000 < at_
     ·have d4 : decide (1000000000 < at_) = true := dT hb
      have HQ := hID (HR.out.trans (if_pos (.inr hb)))
      clear ha hb
      go_wp2_with fail
      go_ret
      exact ⟨by rw [HQ.out]; rfl, HB0.out.1.also Y3.out⟩
     ·have d4 : decide (1000000000 < at_) = false := dF hb
      have HQ := hID (HR.out.trans (if_neg (fun h => h.elim ha hb)))
      clear ha hb
      go_wp2_with fail
      go_ret
      exact ⟨by rw [HQ.out]; rfl, HB0.out.1.also Y3.out⟩
  ·have HR := hID (show shErr ids Wd T S F X at_ = 6 by unfold shErr; rw [HER.out, if_neg (by simp), if_pos hl])
   have dl : ((X.length : Int) == Wd) = false := beq_eq_false_iff_ne.2 hl
   go_wp2_with fail
   go_ret
   exact ⟨by rw [HR.out]; rfl, HB0.out.1.also PB.out.2.1⟩
 ·have HR := hID (show shErr ids Wd T S F X at_ = er by unfold shErr; rw [her, if_pos hz])
  have dz : (er == 0) = false := beq_eq_false_iff_ne.2 hz
  go_wp2_with fail
  go_ret
  exact ⟨by rw [HR.out]; rfl, HB0.out.1.also PB.out.2.1⟩
theorem qo0 (ids : List Int) (Wd : Int) (T S F : List Nat) (hno : qaf ids Wd T S F ≠ 0) (w : World) (VI VT VS VF : Value) (hs : SetV w VI VT VS VF ids Wd T S F) :
  Calls Tryz.prog 13 #[.agg #[VI, .int .i64 Wd, VT, VS, VF]] w (RetV w (.tuple #[.agg #[.slice none 0 0, .int .i64 0], .int .i64 (qaf ids Wd T S F)])) := by
 have HCK := hID (fun (V : World) (oV : Off Nob w V) => qpt ids Wd T S F V VI VT VS VF (hs.keep oV))
 clear hs
 go_enter Tryz.func13, Tryz.ntmps13
 have HB0 : Hid (Off Nob w ((w.alloc (.cells #[VI, .int .i64 Wd, VT, VS, VF] 25)).alloc (.cells #[.slice none 0 0, .int .i64 0] 27)) ∧ Blk ((w.alloc (.cells #[VI, .int .i64 Wd, VT, VS, VF] 25)).alloc (.cells #[.slice none 0 0, .int .i64 0] 27)) w.heap.size 25 #[VI, .int .i64 Wd, VT, VS, VF] ∧ Blk ((w.alloc (.cells #[VI, .int .i64 Wd, VT, VS, VF] 25)).alloc (.cells #[.slice none 0 0, .int .i64 0] 27)) (w.heap.size + 1) 27 #[.slice none 0 0, .int .i64 0]) := hID ⟨(oRf.alloc _).alloc _, (Blk.new _ _ _).alloc _, qal _ _ _ _⟩
 go_wp2_with fail
 revert HB0
 generalize ((w.alloc (.cells #[VI, .int .i64 Wd, VT, VS, VF] 25)).alloc (.cells #[.slice none 0 0, .int .i64 0] 27)) = w0
 intro HB0
 have GC : Hid (∀ V, Off Nob w0 V → V.cell? ⟨w.heap.size, 0, none⟩ = some (VI) ∧ V.cell? ⟨w.heap.size, 1, none⟩ = some (.int .i64 Wd) ∧ V.cell? ⟨w.heap.size, 2, none⟩ = some (VT) ∧ V.cell? ⟨w.heap.size, 3, none⟩ = some (VS) ∧ V.cell? ⟨w.heap.size, 4, none⟩ = some (VF)) := hID (fun V ho => by
  have h := HB0.out.2.1.to (ho.block _ HB0.out.2.1.lt id)
  exact ⟨h.cell 0, h.cell 1, h.cell 2, h.cell 3, h.cell 4⟩)
 obtain ⟨c0, c1, c2, c3, c4⟩ := GC.out _ oRf
 go_wp2_with fail
 refine (HCK.out _ HB0.out.1).mono ?_
 rintro e w1 ⟨rfl, o1⟩
 have Y1 := hID o1
 have B1 := HB0.out.2.2.to (Y1.out.block _ HB0.out.2.2.lt id)
 have x0 := B1.cell 0
 have x1 := B1.cell 1
 have z0 := B1.frozen 0
 have z1 := B1.frozen 1
 have XE := hID ((B1.put 0 (.slice none 0 0)).put 1 (.int .i64 0))
 clear o1 c0 c1 c2 c3 c4 HCK B1
 obtain ⟨er, her⟩ : ∃ er, qaf ids Wd T S F = er := ⟨_, rfl⟩
 have HER := hID her
 rw [her] at hno ⊢
 have dz : (er == 0) = false := beq_eq_false_iff_ne.2 hno
 clear her
 go_wp2_with fail
 exact bodyPost_ret (qac rfl _ _ _ _ _ (0, 0) _ rfl XE.out Tryz.underlying27 rfl Tryz.infoSs) rfl ⟨by rw [HER.out]; rfl, ((HB0.out.1.also Y1.out).put (p := ⟨w.heap.size + 1, 0, none⟩) (.inr (Nat.le_add_right _ _)) _).put (p := ⟨w.heap.size + 1, 1, none⟩) (.inr (Nat.le_add_right _ _)) _⟩
theorem qo1 (ids : List Int) (Wd : Int) (T S F : List Nat) (w : World) (VI VT VS VF : Value) (hs : SetV w VI VT VS VF ids Wd T S F) :
  Calls Tryz.prog 13 #[.agg #[VI, .int .i64 Wd, VT, VS, VF]] w (qdv w (qbb ids Wd T S F) 0 (qaf ids Wd T S F)) := by
 by_cases h0 : qaf ids Wd T S F = 0
 ·obtain ⟨_, _, _, ⟨W, rfl, _⟩, _⟩ := qa8 h0
  rw [qbb, h0, if_pos rfl, Int.toNat_natCast]
  refine (qua ids W T S F h0 w VI VT VS VF hs).mono ?_
  rintro e w' ⟨u, rfl, h1, h2⟩
  exact ⟨u, rfl, by rw [List.length_replicate]; exact h1, .of' h2⟩
 ·rw [qbb, if_neg h0]
  refine (qo0 ids Wd T S F h0 w VI VT VS VF hs).mono ?_
  rintro e w' ⟨rfl, o⟩
  exact ⟨_, rfl, Rd.nil _ _ _, .of' o⟩
theorem qsg (ids : List Int) (Wd : Int) (T S F X : List Nat) (at_ : Int) (w : World) (VI VT VS VF XV : Value)
  (er : Int) (h0 : shErr ids Wd T S F X at_ = er) (her : er ≠ 0) (bv : Value) (hX64 : ∀ x ∈ X, x < 18446744073709551616) (hsv : SetV w VI VT VS VF ids Wd T S F) (hxv : Rd w (fun _ => True) 1 XV X.length (qab X)) :
  Calls Tryz.prog 18 #[.agg #[VI, .int .i64 Wd, VT, VS, VF], .agg #[XV, .int .i64 at_], bv] w (qdv w [] 0 er) := by
 have HSV := hID hsv
 have HXV := hID hxv
 have HX64 := hID hX64
 have H0 := hID h0
 have HCK := hID (fun (V : World) (oV : Off Nob w V) => qei ids Wd T S F X hX64 at_ V VI VT VS VF XV (hsv.keep oV) (hxv.keepT oV))
 have dz : (er != 0) = true := by rw [bne_iff_ne]; exact her
 have dz2 : (er == 0) = false := by rw [beq_eq_false_iff_ne]; exact her
 clear her
 go_enter Tryz.func18, Tryz.ntmps18
 obtain ⟨w0, HW0, HB0, GC⟩ := box3 w VI VT VS VF XV Wd at_
 clear hsv hxv hX64 h0
 go_wp2_with fail
 rw [HW0.out]
 clear HW0
 obtain ⟨c0, c1, c2, c3, c4, x0, x1⟩ := GC.out _ oRf
 go_wp2_with fail
 refine (HCK.out _ HB0.out.1).mono ?_
 rintro e w1 ⟨rfl, o1⟩
 have O1 := hID o1
 clear o1 c0 c1 c2 c3 c4 x0 x1 HCK
 obtain ⟨c0, c1, c2, c3, c4, x0, x1⟩ := GC.out _ O1.out
 rw [H0.out]
 have HY : Hid (Blk w1 (w.heap.size + 2) 27 #[.slice none 0 0, .int .i64 0]) := hID (HB0.out.2.2.2.2.to (O1.out.block _ HB0.out.2.2.2.2.lt id))
 have f0 := HY.out.frozen 0
 have f1 := HY.out.frozen 1
 have y0 := HY.out.cell 0
 have y1 := HY.out.cell 1
 go_wp2_with fail
 have XE := hID ((HY.out.put 0 (.slice none 0 0)).put 1 (.int .i64 0))
 have hsz := HB0.out.1.size
 have LZ : Lies w w1 := (Lies.of' HB0.out.1).trans (Lies.of' O1.out)
 exact bodyPost_ret (qac rfl _ _ _ _ _ (0, 0) _ rfl XE.out Tryz.underlying27 rfl Tryz.infoSs) rfl ⟨_, rfl, Rd.nil _ _ _, (LZ.put (by show w.heap.size ≤ w.heap.size + 2; omega) _).put (by show w.heap.size ≤ w.heap.size + 2; omega) _⟩
theorem qo2 (ids : List Int) (Wd : Int) (T S F X : List Nat) (at_ : Int) (w : World) (VI VT VS VF XV : Value)
  (h0 : shErr ids Wd T S F X at_ = 0) (hat : at_ = 1000000000) (bv : Value) (hX64 : ∀ x ∈ X, x < 18446744073709551616) (hsv : SetV w VI VT VS VF ids Wd T S F) (hxv : Rd w (fun _ => True) 1 XV X.length (qab X)) :
  Calls Tryz.prog 18 #[.agg #[VI, .int .i64 Wd, VT, VS, VF], .agg #[XV, .int .i64 at_], bv] w (qdv w [] 0 9) := by
 subst hat
 obtain ⟨at_, hat⟩ : ∃ at_ : Int, (1000000000 : Int) = at_ := ⟨_, rfl⟩
 rw [hat] at h0 ⊢
 have HSV := hID hsv
 have HXV := hID hxv
 have HX64 := hID hX64
 have H0 := hID h0
 have HCK := hID (fun (V : World) (oV : Off Nob w V) => qei ids Wd T S F X hX64 at_ V VI VT VS VF XV (hsv.keep oV) (hxv.keepT oV))
 have d0 : (at_ == 1000000000) = true := by rw [beq_iff_eq]; exact hat.symm
 clear hat
 go_enter Tryz.func18, Tryz.ntmps18
 obtain ⟨w0, HW0, HB0, GC⟩ := box3 w VI VT VS VF XV Wd at_
 clear hsv hxv hX64 h0
 go_wp2_with fail
 rw [HW0.out]
 clear HW0
 obtain ⟨c0, c1, c2, c3, c4, x0, x1⟩ := GC.out _ oRf
 go_wp2_with fail
 refine (HCK.out _ HB0.out.1).mono ?_
 rintro e w1 ⟨rfl, o1⟩
 have O1 := hID o1
 clear o1 c0 c1 c2 c3 c4 x0 x1 HCK
 obtain ⟨c0, c1, c2, c3, c4, x0, x1⟩ := GC.out _ O1.out
 rw [H0.out]
 have HY : Hid (Blk w1 (w.heap.size + 2) 27 #[.slice none 0 0, .int .i64 0]) := hID (HB0.out.2.2.2.2.to (O1.out.block _ HB0.out.2.2.2.2.lt id))
 have f0 := HY.out.frozen 0
 have f1 := HY.out.frozen 1
 have y0 := HY.out.cell 0
 have y1 := HY.out.cell 1
 go_wp2_with fail
 have XE := hID ((HY.out.put 0 (.slice none 0 0)).put 1 (.int .i64 0))
 have hsz := HB0.out.1.size
 have LZ : Lies w w1 := (Lies.of' HB0.out.1).trans (Lies.of' O1.out)
 exact bodyPost_ret (qac rfl _ _ _ _ _ (0, 0) _ rfl XE.out Tryz.underlying27 rfl Tryz.infoSs) rfl ⟨_, rfl, Rd.nil _ _ _, (LZ.put (by show w.heap.size ≤ w.heap.size + 2; omega) _).put (by show w.heap.size ≤ w.heap.size + 2; omega) _⟩
theorem qsh (ids : List Int) (Wd : Int) (T S F X : List Nat) (at_ : Int) (w : World) (VI VT VS VF XV : Value)
  (er : Int) (h0 : shErr ids Wd T S F X at_ = er) (her : er ≠ 0) (hX64 : ∀ x ∈ X, x < 18446744073709551616) (hsv : SetV w VI VT VS VF ids Wd T S F) (hxv : Rd w (fun _ => True) 1 XV X.length (qab X)) :
  Calls Tryz.prog 20 #[.agg #[VI, .int .i64 Wd, VT, VS, VF], .agg #[XV, .int .i64 at_]] w (IntsR w [] er) := by
 have HSV := hID hsv
 have HXV := hID hxv
 have HX64 := hID hX64
 have H0 := hID h0
 have HCK := hID (fun (V : World) (oV : Off Nob w V) => qei ids Wd T S F X hX64 at_ V VI VT VS VF XV (hsv.keep oV) (hxv.keepT oV))
 have dz : (er != 0) = true := by rw [bne_iff_ne]; exact her
 clear her
 go_enter Tryz.func20, Tryz.ntmps20
 obtain ⟨w0, HW0, HB0, GC⟩ := box2 w VI VT VS VF XV Wd at_
 clear hsv hxv hX64 h0
 go_wp2_with fail
 rw [HW0.out]
 clear HW0
 obtain ⟨c0, c1, c2, c3, c4, x0, x1⟩ := GC.out _ oRf
 go_wp2_with fail
 refine (HCK.out _ HB0.out.1).mono ?_
 rintro e w1 ⟨rfl, o1⟩
 have O1 := hID o1
 clear o1 c0 c1 c2 c3 c4 x0 x1 HCK
 obtain ⟨c0, c1, c2, c3, c4, x0, x1⟩ := GC.out _ O1.out
 rw [H0.out]
 go_wp2_with fail
 go_ret2
 exact ⟨_, rfl, Rd.nil _ _ _, (Lies.of' HB0.out.1).trans (Lies.of' O1.out)⟩
theorem quq (ids : List Int) (W : Nat) (T S F : List Nat) (hok : qaf ids (W : Int) T S F = 0) (X : List Nat) (hX : X.length = W) (hX64 : ∀ x ∈ X, x < 18446744073709551616) (at_ : Nat) (hsh : shErr ids (W : Int) T S F X (at_ : Int) = 0) (hat : at_ < 1000000000) (b : Nat) (hb : b < 256) (w : World) (VI VT VS VF XV : Value) (hs : SetV w VI VT VS VF ids (W : Int) T S F) (hxv : Rd w (fun _ => True) 1 XV W (qab X)) :
  Calls Tryz.prog 18 #[.agg #[VI, .int .i64 (W : Int), VT, VS, VF], .agg #[XV, .int .i64 (at_ : Int)], .int .u8 b] w (fun e w' => ∃ u, e = .returned (.tuple #[.agg #[u, .int .i64 ((at_ : Int) + 1)], .int .i64 0]) ∧ Rd w' (fun k => w.heap.size ≤ k) 1 u W (qab (stepX T S W X b)) ∧ Off Nob w w') := by
 obtain ⟨hi1, hi16, _, ⟨Wx, hWx, w1, w4, hlt, hls, hlf, hpl⟩, _⟩ := qa8 hok
 obtain rfl : W = Wx := by omega
 have HCK := hID (fun (V : World) (oV : Off Nob w V) => (by have h := qei ids (W : Int) T S F X hX64 (at_ : Int) V VI VT VS VF XV (hs.keep oV) (by rw [hX]; exact hxv.keepT oV); rw [hsh] at h; exact h))
 have HRD := hID (fun (V : World) (oV : Off Nob w V) => qwi W w1 w4 T S hlt hs.t64 hls hs.s64 X hX hX64 at_ (by omega) b hb V VI VT VS VF XV ((hs.keep oV).t) (by rw [← hls]; exact (hs.keep oV).s) (hxv.keepT oV))
 have d0 : ((at_ : Int) == 1000000000) = false := by rw [beq_eq_false_iff_ne]; omega
 clear hs hok hlt hls hlf hpl hWx hxv hsh hX hX64
 go_enter Tryz.func18, Tryz.ntmps18
 have HB0 : Hid (Off Nob w (((w.alloc (.cells #[VI, .int .i64 (W : Int), VT, VS, VF] 25)).alloc (.cells #[XV, .int .i64 (at_ : Int)] 27)).alloc (.cells #[.slice none 0 0, .int .i64 0] 27)) ∧ Blk (((w.alloc (.cells #[VI, .int .i64 (W : Int), VT, VS, VF] 25)).alloc (.cells #[XV, .int .i64 (at_ : Int)] 27)).alloc (.cells #[.slice none 0 0, .int .i64 0] 27)) w.heap.size 25 #[VI, .int .i64 (W : Int), VT, VS, VF] ∧ Blk (((w.alloc (.cells #[VI, .int .i64 (W : Int), VT, VS, VF] 25)).alloc (.cells #[XV, .int .i64 (at_ : Int)] 27)).alloc (.cells #[.slice none 0 0, .int .i64 0] 27)) (w.heap.size + 1) 27 #[XV, .int .i64 (at_ : Int)] ∧ Blk (((w.alloc (.cells #[VI, .int .i64 (W : Int), VT, VS, VF] 25)).alloc (.cells #[XV, .int .i64 (at_ : Int)] 27)).alloc (.cells #[.slice none 0 0, .int .i64 0] 27)) (w.heap.size + 2) 27 #[.slice none 0 0, .int .i64 0]) := hID ⟨((oRf.alloc _).alloc _).alloc _, ((Blk.new _ _ _).alloc _).alloc _, (qal _ _ _ _).alloc _, by
  have := Blk.new ((w.alloc (.cells #[VI, .int .i64 (W : Int), VT, VS, VF] 25)).alloc (.cells #[XV, .int .i64 (at_ : Int)] 27)) 27 #[.slice none 0 0, .int .i64 0]
  simpa using this⟩
 go_wp2_with fail
 revert HB0
 generalize (((w.alloc (.cells #[VI, .int .i64 (W : Int), VT, VS, VF] 25)).alloc (.cells #[XV, .int .i64 (at_ : Int)] 27)).alloc (.cells #[.slice none 0 0, .int .i64 0] 27)) = w0
 intro HB0
 have GC : Hid (∀ V, Off Nob w0 V → V.cell? ⟨w.heap.size, 0, none⟩ = some (VI) ∧ V.cell? ⟨w.heap.size, 1, none⟩ = some (.int .i64 (W : Int)) ∧ V.cell? ⟨w.heap.size, 2, none⟩ = some (VT) ∧ V.cell? ⟨w.heap.size, 3, none⟩ = some (VS) ∧ V.cell? ⟨w.heap.size, 4, none⟩ = some (VF) ∧ V.cell? ⟨w.heap.size + 1, 0, none⟩ = some (XV) ∧ V.cell? ⟨w.heap.size + 1, 1, none⟩ = some (.int .i64 (at_ : Int))) := hID (fun V ho => by
  have h := HB0.out.2.1.to (ho.block _ HB0.out.2.1.lt id)
  have k := HB0.out.2.2.1.to (ho.block _ HB0.out.2.2.1.lt id)
  exact ⟨h.cell 0, h.cell 1, h.cell 2, h.cell 3, h.cell 4, k.cell 0, k.cell 1⟩)
 obtain ⟨c0, c1, c2, c3, c4, x0, x1⟩ := GC.out _ oRf
 go_wp2_with fail
 refine (HCK.out _ HB0.out.1).mono ?_
 rintro e w1 ⟨rfl, o1⟩
 have Y1 := hID o1
 clear o1 c0 c1 c2 c3 c4 x0 x1 HCK
 obtain ⟨c0, c1, c2, c3, c4, x0, x1⟩ := GC.out _ Y1.out
 go_wp2_with fail
 refine (HRD.out _ (HB0.out.1.also Y1.out)).mono ?_
 rintro e w2 ⟨u2, rfl, hr2, o1⟩
 obtain ⟨A5, c5, rfl, _⟩ := hr2.form
 have HR2 := hID hr2
 have Y2 := hID (Y1.out.also o1)
 clear o1 hr2 c0 c1 c2 c3 c4 x0 x1 HRD
 have HBZ := hID (HB0.out.2.2.2.to (Y2.out.block _ HB0.out.2.2.2.lt id))
 have f0 := HBZ.out.frozen 0
 have f1 := HBZ.out.frozen 1
 have z0 := HBZ.out.cell 0
 have z1 := HBZ.out.cell 1
 go_wp2_with fail
 have XE := hID ((HBZ.out.put 0 (.slice A5 W c5)).put 1 (.int .i64 ((at_ : Int) + 1)))
 have OE : Off (fun j => j = w.heap.size + 2) w2 ((w2.setCell ⟨w.heap.size + 2, 0, none⟩ (.slice A5 W c5)).setCell ⟨w.heap.size + 2, 1, none⟩ (.int .i64 ((at_ : Int) + 1))) := Off.put (F := fun j => j = w.heap.size + 2) (Off.put (F := fun j => j = w.heap.size + 2) oRf (.inl rfl) _) (.inl rfl) _
 have hlt2 := HB0.out.2.2.2.lt
 have hsz := Y1.out.size
 exact bodyPost_ret (qac rfl _ _ _ _ _ (0, 0) _ rfl XE.out Tryz.underlying27 rfl Tryz.infoSs) rfl ⟨_, rfl, (HR2.out.keep OE (fun j hj he => by omega)).mono (fun j hj => by omega), ((HB0.out.1.also Y2.out).put (p := ⟨w.heap.size + 2, 0, none⟩) (.inr (Nat.le_add_right _ _)) _).put (p := ⟨w.heap.size + 2, 1, none⟩) (.inr (Nat.le_add_right _ _)) _⟩
theorem qur (ids : List Int) (W : Nat) (T S F : List Nat) (hok : qaf ids (W : Int) T S F = 0) (X : List Nat) (hX : X.length = W) (hX64 : ∀ x ∈ X, x < 18446744073709551616) (at_ : Nat) (hsh : shErr ids (W : Int) T S F X (at_ : Int) = 0) (w : World) (VI VT VS VF XV : Value) (hs : SetV w VI VT VS VF ids (W : Int) T S F) (hxv : Rd w (fun _ => True) 1 XV W (qab X)) :
  Calls Tryz.prog 20 #[.agg #[VI, .int .i64 (W : Int), VT, VS, VF], .agg #[XV, .int .i64 (at_ : Int)]] w (fun e w' => ∃ v, e = .returned (.tuple #[v, .int .i64 0]) ∧ OwnL w w' 3 1 v (qby F W X ids.length).length (natsV (qby F W X ids.length))) := by
 obtain ⟨hi1, hi16, _, ⟨Wx, hWx, w1, w4, hlt, hls, hlf, hpl⟩, _⟩ := qa8 hok
 obtain rfl : W = Wx := by omega
 obtain ⟨AI, ci, rfl, _⟩ := hs.i.form
 have HCK := hID (fun (V : World) (oV : Off Nob w V) => (by have h := qei ids (W : Int) T S F X hX64 (at_ : Int) V (.slice AI ids.length ci) VT VS VF XV (hs.keep oV) (by rw [hX]; exact hxv.keepT oV); rw [hsh] at h; exact h))
 have HRD := hID (fun (V : World) (oV : Off Nob w V) => qwj W ids.length w1 w4 hi1 hi16 F hlf hs.f64 X hX hX64 at_ AI ci V VT VS VF XV ((hs.keep oV).f) hs.cf (hxv.keepT oV))
 clear hs hok hlt hls hlf hpl hWx hxv hsh hX hX64
 go_enter Tryz.func20, Tryz.ntmps20
 have HB0 : Hid (Off Nob w ((w.alloc (.cells #[.slice AI ids.length ci, .int .i64 (W : Int), VT, VS, VF] 25)).alloc (.cells #[XV, .int .i64 (at_ : Int)] 27)) ∧ Blk ((w.alloc (.cells #[.slice AI ids.length ci, .int .i64 (W : Int), VT, VS, VF] 25)).alloc (.cells #[XV, .int .i64 (at_ : Int)] 27)) w.heap.size 25 #[.slice AI ids.length ci, .int .i64 (W : Int), VT, VS, VF] ∧ Blk ((w.alloc (.cells #[.slice AI ids.length ci, .int .i64 (W : Int), VT, VS, VF] 25)).alloc (.cells #[XV, .int .i64 (at_ : Int)] 27)) (w.heap.size + 1) 27 #[XV, .int .i64 (at_ : Int)]) := hID ⟨(oRf.alloc _).alloc _, (Blk.new _ _ _).alloc _, qal _ _ _ _⟩
 go_wp2_with fail
 revert HB0
 generalize ((w.alloc (.cells #[.slice AI ids.length ci, .int .i64 (W : Int), VT, VS, VF] 25)).alloc (.cells #[XV, .int .i64 (at_ : Int)] 27)) = w0
 intro HB0
 have GC : Hid (∀ V, Off Nob w0 V → V.cell? ⟨w.heap.size, 0, none⟩ = some (.slice AI ids.length ci) ∧ V.cell? ⟨w.heap.size, 1, none⟩ = some (.int .i64 (W : Int)) ∧ V.cell? ⟨w.heap.size, 2, none⟩ = some (VT) ∧ V.cell? ⟨w.heap.size, 3, none⟩ = some (VS) ∧ V.cell? ⟨w.heap.size, 4, none⟩ = some (VF) ∧ V.cell? ⟨w.heap.size + 1, 0, none⟩ = some (XV) ∧ V.cell? ⟨w.heap.size + 1, 1, none⟩ = some (.int .i64 (at_ : Int))) := hID (fun V ho => by
  have h := HB0.out.2.1.to (ho.block _ HB0.out.2.1.lt id)
  have k := HB0.out.2.2.to (ho.block _ HB0.out.2.2.lt id)
  exact ⟨h.cell 0, h.cell 1, h.cell 2, h.cell 3, h.cell 4, k.cell 0, k.cell 1⟩)
 obtain ⟨c0, c1, c2, c3, c4, x0, x1⟩ := GC.out _ oRf
 go_wp2_with fail
 refine (HCK.out _ HB0.out.1).mono ?_
 rintro e w1 ⟨rfl, o1⟩
 have Y1 := hID o1
 clear o1 c0 c1 c2 c3 c4 x0 x1 HCK
 obtain ⟨c0, c1, c2, c3, c4, x0, x1⟩ := GC.out _ Y1.out
 go_wp2_with fail
 refine (HRD.out _ (HB0.out.1.also Y1.out)).mono ?_
 rintro e w2 ⟨v2, rfl, oW⟩
 have HO := hID oW
 clear oW HRD
 go_wp2_with fail
 go_ret2
 exact ⟨_, rfl, qia (HB0.out.1.also Y1.out).size HO.out.1, (HB0.out.1.also Y1.out).also HO.out.2⟩
def stErr (ids : List Int) (Wd : Int) (T S F X : List Nat) (at_ : Int) : Int := if shErr ids Wd T S F X at_ ≠ 0 then shErr ids Wd T S F X at_ else if at_ = 1000000000 then 9 else 0
def stRow (ids : List Int) (Wd : Int) (T S F X : List Nat) (at_ : Int) (b : Nat) : List Nat := if stErr ids Wd T S F X at_ = 0 then rdTo X.length T S X b X.length else []
def stAt (ids : List Int) (Wd : Int) (T S F X : List Nat) (at_ : Int) : Int := if stErr ids Wd T S F X at_ = 0 then at_ + 1 else 0
def hiRow (ids : List Int) (Wd : Int) (T S F X : List Nat) (at_ : Int) : List Nat := if shErr ids Wd T S F X at_ = 0 then hitsN F X X.length ids.length else []
theorem qsi (ids : List Int) (Wd : Int) (T S F X : List Nat) (at_ : Int) (w : World) (VI VT VS VF XV : Value) (b : Nat) (hb : b < 256) (hX64 : ∀ x ∈ X, x < 18446744073709551616) (hsv : SetV w VI VT VS VF ids Wd T S F) (hZ : TzT w) (hxv : Rd w (fun _ => True) 1 XV X.length (qab X)) :
  Calls Tryz.prog 17 #[.agg #[VI, .int .i64 Wd, VT, VS, VF], .agg #[XV, .int .i64 at_], .int .u8 (b : Int)] w (qdv w (stRow ids Wd T S F X at_ b) (stAt ids Wd T S F X at_) (stErr ids Wd T S F X at_)) := by
 by_cases h0 : shErr ids Wd T S F X at_ = 0
 ·by_cases h1 : at_ = 1000000000
  ·have e : stErr ids Wd T S F X at_ = 9 := by unfold stErr; rw [if_neg (by rw [h0]; decide), if_pos h1]
   rw [stRow, stAt, e, if_neg (by decide), if_neg (by decide)]
   exact qou ids Wd T S F X at_ w VI VT VS VF XV h0 h1 _ hX64 hsv hZ hxv
  ·have e : stErr ids Wd T S F X at_ = 0 := by unfold stErr; rw [if_neg (by rw [h0]; decide), if_neg h1]
   rw [stRow, stAt, e, if_pos rfl, if_pos rfl]
   exact qfk ids Wd T S F X at_ w VI VT VS VF XV h0 (by have := (qcw h0).2.2.2.2; omega) b hb hX64 hsv hZ hxv
 ·have e : stErr ids Wd T S F X at_ = shErr ids Wd T S F X at_ := by unfold stErr; rw [if_pos h0]
  rw [stRow, stAt, e, if_neg h0, if_neg h0]
  exact qr8 ids Wd T S F X at_ w VI VT VS VF XV _ rfl h0 _ hX64 hsv hZ hxv
theorem qsj (ids : List Int) (Wd : Int) (T S F X : List Nat) (at_ : Int) (w : World) (VI VT VS VF XV : Value) (b : Nat) (hb : b < 256) (hX64 : ∀ x ∈ X, x < 18446744073709551616) (hsv : SetV w VI VT VS VF ids Wd T S F) (hxv : Rd w (fun _ => True) 1 XV X.length (qab X)) :
  Calls Tryz.prog 18 #[.agg #[VI, .int .i64 Wd, VT, VS, VF], .agg #[XV, .int .i64 at_], .int .u8 (b : Int)] w (qdv w (stRow ids Wd T S F X at_ b) (stAt ids Wd T S F X at_) (stErr ids Wd T S F X at_)) := by
 by_cases h0 : shErr ids Wd T S F X at_ = 0
 ·by_cases h1 : at_ = 1000000000
  ·have e : stErr ids Wd T S F X at_ = 9 := by unfold stErr; rw [if_neg (by rw [h0]; decide), if_pos h1]
   rw [stRow, stAt, e, if_neg (by decide), if_neg (by decide)]
   exact qo2 ids Wd T S F X at_ w VI VT VS VF XV h0 h1 _ hX64 hsv hxv
  ·have e : stErr ids Wd T S F X at_ = 0 := by unfold stErr; rw [if_neg (by rw [h0]; decide), if_neg h1]
   rw [stRow, stAt, e, if_pos rfl, if_pos rfl]
   obtain ⟨hse, hXW, _, ha0, ha1⟩ := qcw h0
   obtain ⟨_, _, _, ⟨W, hW, w1, w4, hlt, hls, _⟩, _⟩ := qa8 hse
   obtain rfl : X.length = W := by omega
   subst hW
   obtain ⟨n, rfl⟩ : ∃ n : Nat, at_ = (n : Int) := ⟨at_.toNat, by omega⟩
   refine (quq ids X.length T S F hse X rfl hX64 n h0 (by omega) b hb w VI VT VS VF XV hsv hxv).mono ?_
   rintro e w' ⟨u, rfl, h2, h3⟩
   refine ⟨u, rfl, ?_, .of' h3⟩
   rw [qcj, qyg hX64 hsv.t64]
   exact h2
 ·have e : stErr ids Wd T S F X at_ = shErr ids Wd T S F X at_ := by unfold stErr; rw [if_pos h0]
  rw [stRow, stAt, e, if_neg h0, if_neg h0]
  exact qsg ids Wd T S F X at_ w VI VT VS VF XV _ rfl h0 _ hX64 hsv hxv
theorem qsk (ids : List Int) (Wd : Int) (T S F X : List Nat) (at_ : Int) (w : World) (VI VT VS VF XV : Value) (hX64 : ∀ x ∈ X, x < 18446744073709551616) (hsv : SetV w VI VT VS VF ids Wd T S F) (hZ : TzT w) (hxv : Rd w (fun _ => True) 1 XV X.length (qab X)) :
  Calls Tryz.prog 19 #[.agg #[VI, .int .i64 Wd, VT, VS, VF], .agg #[XV, .int .i64 at_]] w (IntsR w (hiRow ids Wd T S F X at_) (shErr ids Wd T S F X at_)) := by
 by_cases h0 : shErr ids Wd T S F X at_ = 0
 ·rw [hiRow, h0, if_pos rfl]
  exact qfl ids Wd T S F X at_ w VI VT VS VF XV h0 hX64 hsv hZ hxv
 ·rw [hiRow, if_neg h0]
  exact qr9 ids Wd T S F X at_ w VI VT VS VF XV _ rfl h0 hX64 hsv hZ hxv
theorem qsl (ids : List Int) (Wd : Int) (T S F X : List Nat) (at_ : Int) (w : World) (VI VT VS VF XV : Value) (hX64 : ∀ x ∈ X, x < 18446744073709551616) (hsv : SetV w VI VT VS VF ids Wd T S F) (hxv : Rd w (fun _ => True) 1 XV X.length (qab X)) :
  Calls Tryz.prog 20 #[.agg #[VI, .int .i64 Wd, VT, VS, VF], .agg #[XV, .int .i64 at_]] w (IntsR w (hiRow ids Wd T S F X at_) (shErr ids Wd T S F X at_)) := by
 by_cases h0 : shErr ids Wd T S F X at_ = 0
 ·rw [hiRow, h0, if_pos rfl]
  obtain ⟨hse, hXW, _, ha0, ha1⟩ := qcw h0
  obtain ⟨_, _, _, ⟨W, hW, w1, w4, hlt, hls, _⟩, _⟩ := qa8 hse
  obtain rfl : X.length = W := by omega
  subst hW
  obtain ⟨n, rfl⟩ : ∃ n : Nat, at_ = (n : Int) := ⟨at_.toNat, by omega⟩
  refine (qur ids X.length T S F hse X rfl hX64 n h0 w VI VT VS VF XV hsv hxv).mono ?_
  rintro e w' ⟨v, rfl, h2, h3⟩
  refine ⟨v, rfl, ?_, .of' h3⟩
  rw [qlp hX64]
  exact Rd.own h2 (fun k hk => (h2.lt k hk).1)
 ·rw [hiRow, if_neg h0]
  exact qsh ids Wd T S F X at_ w VI VT VS VF XV _ rfl h0 hX64 hsv hxv
end
end Go.Proofs.YtlgjaefcfnndhaaGreatDoor
