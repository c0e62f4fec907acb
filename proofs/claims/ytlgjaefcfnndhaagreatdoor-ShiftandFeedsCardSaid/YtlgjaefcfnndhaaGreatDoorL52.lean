/-
 dragnetref20's Check, Start, Step and Hits, whatever they are given.
-/
import Derived.Test.YtlgjaefcfnndhaaGreatDoorL42
import Derived.Test.YtlgjaefcfnndhaaGreatDoorL43
import Derived.Test.YtlgjaefcfnndhaaGreatDoorL51
set_option linter.unusedVariables false
set_option linter.unusedSimpArgs false
set_option maxHeartbeats 16000000
set_option maxRecDepth 100000
namespace Go.Proofs.YtlgjaefcfnndhaaGreatDoor
section
open Go.RowKit
theorem qui {X : List Nat} {f : Nat} (h : f ∈ onesN X) : f ≤ (onesN X).getD ((onesN X).length - 1) 0 := by
 obtain ⟨i, hi, rfl⟩ := List.getElem_of_mem h
 have ha := qdb X
 rw [List.getD_eq_getElem?_getD, List.getElem?_eq_getElem (by omega)]
 show (onesN X)[i] ≤ (onesN X)[(onesN X).length - 1]
 rcases Nat.lt_or_ge i ((onesN X).length - 1) with h1 | h1
 ·exact Nat.le_of_lt (List.pairwise_iff_getElem.1 ha i _ hi (by omega) h1)
 ·have : i = (onesN X).length - 1 := by omega
  exact Nat.le_of_eq (by congr 1)
theorem qkf (ids : List Int) (Wd : Int) (T S F X : List Nat) (hX64 : ∀ x ∈ X, x < 18446744073709551616) (at_ : Int) (w : World) (VI VT VS VF XV : Value) (hs : SetV w VI VT VS VF ids Wd T S F) (hxv : Rd w (fun _ => True) 1 XV X.length (qab X)) :
  Calls Tryz.prog 16 #[.agg #[VI, .int .i64 Wd, VT, VS, VF], .agg #[XV, .int .i64 at_]] w (RetV w (.int .i64 (shErr ids Wd T S F X at_))) := by
 have HP := hID (fun (V : World) (oV : Off Nob w V) => qty ids Wd T S F V VI VT VS VF (hs.keep oV))
 have HXV := hID hxv
 have HX64 := hID hX64
 obtain ⟨AX, cx, rfl, _⟩ := hxv.form
 clear hs hxv hX64
 go_enter Tryz.func16, Tryz.ntmps16
 have HB0 : Hid (Off Nob w ((w.alloc (.cells #[VI, .int .i64 Wd, VT, VS, VF] 25)).alloc (.cells #[.slice AX X.length cx, .int .i64 at_] 27)) ∧ Blk ((w.alloc (.cells #[VI, .int .i64 Wd, VT, VS, VF] 25)).alloc (.cells #[.slice AX X.length cx, .int .i64 at_] 27)) w.heap.size 25 #[VI, .int .i64 Wd, VT, VS, VF] ∧ Blk ((w.alloc (.cells #[VI, .int .i64 Wd, VT, VS, VF] 25)).alloc (.cells #[.slice AX X.length cx, .int .i64 at_] 27)) (w.heap.size + 1) 27 #[.slice AX X.length cx, .int .i64 at_]) := hID ⟨(oRf.alloc _).alloc _, (Blk.new _ _ _).alloc _, qan _ _ _ _⟩
 go_wp2_with fail
 revert HB0
 generalize ((w.alloc (.cells #[VI, .int .i64 Wd, VT, VS, VF] 25)).alloc (.cells #[.slice AX X.length cx, .int .i64 at_] 27)) = w0
 intro HB0
 have GC : Hid (∀ V, Off Nob w0 V → V.cell? ⟨w.heap.size, 0, none⟩ = some VI ∧ V.cell? ⟨w.heap.size, 1, none⟩ = some (.int .i64 Wd) ∧ V.cell? ⟨w.heap.size, 2, none⟩ = some VT ∧ V.cell? ⟨w.heap.size, 3, none⟩ = some VS ∧ V.cell? ⟨w.heap.size, 4, none⟩ = some VF ∧ V.cell? ⟨w.heap.size + 1, 0, none⟩ = some (.slice AX X.length cx) ∧ V.cell? ⟨w.heap.size + 1, 1, none⟩ = some (.int .i64 at_)) := hID (fun V ho => by
  have h := HB0.out.2.1.to (ho.block _ HB0.out.2.1.lt id)
  have k := HB0.out.2.2.to (ho.block _ HB0.out.2.2.lt id)
  exact ⟨h.cell 0, h.cell 1, h.cell 2, h.cell 3, h.cell 4, k.cell 0, k.cell 1⟩)
 obtain ⟨c0, c1, c2, c3, c4, x0, x1⟩ := GC.out _ oRf
 go_wp2_with fail
 refine (HP.out _ HB0.out.1).mono ?_
 rintro e w1 ⟨x, AP, kp, cp, rfl, hyes, o1⟩
 have Y1 := hID o1
 have HY := hID hyes
 clear o1 hyes c0 c1 c2 c3 c4 x0 x1
 have PB : Hid (Blk (w1.alloc (.cells #[.int .i64 x, .slice AP kp cp] 62)) w1.heap.size 62 #[.int .i64 x, .slice AP kp cp] ∧ Off Nob w0 (w1.alloc (.cells #[.int .i64 x, .slice AP kp cp] 62)) ∧ Off Nob w1 (w1.alloc (.cells #[.int .i64 x, .slice AP kp cp] 62))) := hID ⟨Blk.new _ _ _, Y1.out.alloc _, oRf.alloc _⟩
 obtain ⟨c0, c1, c2, c3, c4, x0, x1⟩ := GC.out _ PB.out.2.1
 have p0 := PB.out.1.cell 0
 have p1 := PB.out.1.cell 1
 obtain ⟨er, her⟩ : ∃ er, qaf ids Wd T S F = er := ⟨_, rfl⟩
 have HER := hID her
 rw [her]
 by_cases hz : er = 0
 ·have dz : (er == 0) = true := by rw [hz]; rfl
  subst hz
  clear her dz
  by_cases hl : (X.length : Int) = Wd
  ·subst hl
   obtain ⟨hi1, hi16, _, ⟨Wx, hWx, w1', w4', hlt, hls, hlf, hpl⟩, _⟩ := qb0 HER.out
   obtain rfl : X.length = Wx := by omega
   obtain ⟨rfl, l, hll, hrd⟩ := HY.out HER.out
   rw [Int.toNat_natCast] at hll
   have HSPO := hID (show qde ids X.length T S F = lnEnd 0 l by unfold qde; rw [hll])
   have HPL := hID (qja hll)
   obtain rfl : kp = l.length := by obtain ⟨A', c', he, _⟩ := hrd; cases he; rfl
   have HRD := hID hrd.any
   clear hrd hll hlt hls hlf hpl hWx HY
   have hn4 : l.length ≤ 4096 := by have := (LnFacts.of HPL.out.1).len; omega
   have hnl : (onesN X).length ≤ 256 := by
    have h := List.length_filter_le (bitAt X) (List.range (64 * X.length))
    rw [List.length_range] at h
    have h5 : (onesN X).length ≤ 64 * X.length := h
    omega
   have HSP := hID (fun (V : World) (oV : Off Nob w1 V) => qxq X.length w1' (by omega) l hn4 HPL.out.1 V _ (HRD.out.keepT oV))
   have HON := hID (fun (V : World) (oV : Off Nob w V) => qhr X HX64.out w1' (by omega) V (.slice AX X.length cx) (HXV.out.keepT oV))
   go_wp2_with fail
   refine (HSP.out _ PB.out.2.2).mono ?_
   rintro e w2 ⟨rfl, o2⟩
   have Y2 := hID (PB.out.2.1.also o2)
   clear o2 c0 c1 c2 c3 c4 x0 x1 p0 p1 HSP
   obtain ⟨c0, c1, c2, c3, c4, x0, x1⟩ := GC.out _ Y2.out
   obtain ⟨sp, hsp⟩ : ∃ sp, lnEnd 0 l = sp := ⟨_, rfl⟩
   have HS2 := hID (HSPO.out.trans hsp)
   rw [hsp]
   clear hsp HSPO
   go_wp2_with fail
   refine (HON.out _ (HB0.out.1.also Y2.out)).mono ?_
   rintro e w3 ⟨v3, rfl, oW⟩
   have Y3 := hID (Y2.out.also oW.2)
   have HRO := hID (Rd.own (F := fun _ => True) oW.1 (fun _ _ => trivial))
   clear oW c0 c1 c2 c3 c4 x0 x1 HON
   obtain ⟨c0, c1, c2, c3, c4, x0, x1⟩ := GC.out _ Y3.out
   by_cases hN0 : (onesN X).length = 0
   ·obtain ⟨A3, c3, rfl, _⟩ := HRO.out.form
    have HR := hID (qjb (at_ := at_) HER.out HS2.out (fun f hf => by rw [List.eq_nil_of_length_eq_zero hN0] at hf; cases hf))
    rw [hN0]
    clear hN0 HRO hnl
    by_cases ha : at_ < 0
    ·have d3 : decide (at_ < 0) = true := decide_eq_true ha
     have HQ := hID (HR.out.trans (if_pos (.inl ha)))
     clear ha
     go_wp2_with fail
     go_ret
     exact ⟨by rw [HQ.out]; rfl, HB0.out.1.also Y3.out⟩
    have d3 : decide (at_ < 0) = false := decide_eq_false ha
    by_cases hb : 1000000000 < at_
    ·have d4 : decide (1000000000 < at_) = true := decide_eq_true hb
     have HQ := hID (HR.out.trans (if_pos (.inr hb)))
     clear ha hb
     go_wp2_with fail
     go_ret
     exact ⟨by rw [HQ.out]; rfl, HB0.out.1.also Y3.out⟩
    ·have d4 : decide (1000000000 < at_) = false := decide_eq_false hb
     have HQ := hID (HR.out.trans (if_neg (fun h => h.elim ha hb)))
     clear ha hb
     go_wp2_with fail
     go_ret
     exact ⟨by rw [HQ.out]; rfl, HB0.out.1.also Y3.out⟩
   ·obtain ⟨b3, o3, c3, rfl, hc3⟩ := HRO.out.cellsT (by omega)
    have k0 := hc3 _ oRf ((onesN X).length - 1) _ (qcc (by omega))
    have hqm := qnn (L := onesN X) (q := (onesN X).length - 1) (by omega)
    have HTOP := hID (fun (f : Nat) (hf : f ∈ onesN X) => qui hf)
    obtain ⟨q, hq⟩ : ∃ q, (onesN X).getD ((onesN X).length - 1) 0 = q := ⟨_, rfl⟩
    rw [hq] at k0 hqm HTOP
    have HQM := hID hqm
    have hpos : 1 ≤ (onesN X).length := by omega
    clear hc3 hN0 HRO hq hqm
    revert hnl k0 hpos
    generalize (onesN X).length = N
    intro hnl k0 hpos
    have dz : decide ((0 : Int) < (N : Int)) = true := dcT
    have hsub : ((N : Int) - 1) = ((N - 1 : Nat) : Int) := by omega
    have hlt : N - 1 < N := by omega
    obtain ⟨m, hm⟩ : ∃ m, N - 1 = m := ⟨_, rfl⟩
    rw [hm] at k0 hsub hlt
    clear hm
    by_cases hsq : sp ≤ q
    ·have dq : decide ((sp : Int) ≤ (q : Int)) = true := dcT
     have dqn : decide (sp ≤ q) = true := decide_eq_true hsq
     have HR := hID (qns (at_ := at_) HER.out HS2.out HQM.out hsq)
     go_wp2_with fail
     go_ret
     exact ⟨by rw [HR.out]; rfl, HB0.out.1.also Y3.out⟩
    ·have dq : decide ((sp : Int) ≤ (q : Int)) = false := dcF
     have dqn : decide (sp ≤ q) = false := decide_eq_false hsq
     have HR := hID (qjb (at_ := at_) HER.out HS2.out (fun f hf => by have := HTOP.out f hf; omega))
     clear hsq
     by_cases ha : at_ < 0
     ·have d3 : decide (at_ < 0) = true := decide_eq_true ha
      have HQ := hID (HR.out.trans (if_pos (.inl ha)))
      clear ha
      go_wp2_with fail
      go_ret
      exact ⟨by rw [HQ.out]; rfl, HB0.out.1.also Y3.out⟩
     have d3 : decide (at_ < 0) = false := decide_eq_false ha
     by_cases hb : 1000000000 < at_
     ·have d4 : decide (1000000000 < at_) = true := decide_eq_true hb
      have HQ := hID (HR.out.trans (if_pos (.inr hb)))
      clear ha hb
      go_wp2_with fail
      go_ret
      exact ⟨by rw [HQ.out]; rfl, HB0.out.1.also Y3.out⟩
     ·have d4 : decide (1000000000 < at_) = false := decide_eq_false hb
      have HQ := hID (HR.out.trans (if_neg (fun h => h.elim ha hb)))
      clear ha hb
      go_wp2_with fail
      go_ret
      exact ⟨by rw [HQ.out]; rfl, HB0.out.1.also Y3.out⟩
  ·have HR := hID (show shErr ids Wd T S F X at_ = 6 by unfold shErr; rw [HER.out, if_neg (by simp), if_pos hl])
   have dl : ((X.length : Int) == Wd) = false := beq_eq_false_iff_ne.2 hl
   go_wp2_with fail
   go_ret
   exact ⟨by rw [HR.out]; rfl, HB0.out.1.also PB.out.2.1⟩
 ·have HR := hID (show shErr ids Wd T S F X at_ = er by unfold shErr; rw [her, if_pos hz])
  have dz : (er == 0) = false := beq_eq_false_iff_ne.2 hz
  go_wp2_with fail
  go_ret
  exact ⟨by rw [HR.out]; rfl, HB0.out.1.also PB.out.2.1⟩
theorem qo2 (ids : List Int) (Wd : Int) (T S F : List Nat) (hno : qaf ids Wd T S F ≠ 0) (w : World) (VI VT VS VF : Value) (hs : SetV w VI VT VS VF ids Wd T S F) :
  Calls Tryz.prog 13 #[.agg #[VI, .int .i64 Wd, VT, VS, VF]] w (RetV w (.tuple #[.agg #[.slice none 0 0, .int .i64 0], .int .i64 (qaf ids Wd T S F)])) := by
 have HCK := hID (fun (V : World) (oV : Off Nob w V) => qpr ids Wd T S F V VI VT VS VF (hs.keep oV))
 clear hs
 go_enter Tryz.func13, Tryz.ntmps13
 have HB0 : Hid (Off Nob w ((w.alloc (.cells #[VI, .int .i64 Wd, VT, VS, VF] 25)).alloc (.cells #[.slice none 0 0, .int .i64 0] 27)) ∧ Blk ((w.alloc (.cells #[VI, .int .i64 Wd, VT, VS, VF] 25)).alloc (.cells #[.slice none 0 0, .int .i64 0] 27)) w.heap.size 25 #[VI, .int .i64 Wd, VT, VS, VF] ∧ Blk ((w.alloc (.cells #[VI, .int .i64 Wd, VT, VS, VF] 25)).alloc (.cells #[.slice none 0 0, .int .i64 0] 27)) (w.heap.size + 1) 27 #[.slice none 0 0, .int .i64 0]) := hID ⟨(oRf.alloc _).alloc _, (Blk.new _ _ _).alloc _, qan _ _ _ _⟩
 go_wp2_with fail
 revert HB0
 generalize ((w.alloc (.cells #[VI, .int .i64 Wd, VT, VS, VF] 25)).alloc (.cells #[.slice none 0 0, .int .i64 0] 27)) = w0
 intro HB0
 have GC : Hid (∀ V, Off Nob w0 V → V.cell? ⟨w.heap.size, 0, none⟩ = some (VI) ∧ V.cell? ⟨w.heap.size, 1, none⟩ = some (.int .i64 Wd) ∧ V.cell? ⟨w.heap.size, 2, none⟩ = some (VT) ∧ V.cell? ⟨w.heap.size, 3, none⟩ = some (VS) ∧ V.cell? ⟨w.heap.size, 4, none⟩ = some (VF)) := hID (fun V ho => by
  have h := HB0.out.2.1.to (ho.block _ HB0.out.2.1.lt id)
  exact ⟨h.cell 0, h.cell 1, h.cell 2, h.cell 3, h.cell 4⟩)
 obtain ⟨c0, c1, c2, c3, c4⟩ := GC.out _ oRf
 go_wp2_with fail
 refine (HCK.out _ HB0.out.1).mono ?_
 rintro e w1 ⟨rfl, o1⟩
 have Y1 := hID o1
 have B1 := HB0.out.2.2.to (Y1.out.block _ HB0.out.2.2.lt id)
 have x0 := B1.cell 0
 have x1 := B1.cell 1
 have z0 := B1.frozen 0
 have z1 := B1.frozen 1
 have XE := hID ((B1.put 0 (.slice none 0 0)).put 1 (.int .i64 0))
 clear o1 c0 c1 c2 c3 c4 HCK B1
 obtain ⟨er, her⟩ : ∃ er, qaf ids Wd T S F = er := ⟨_, rfl⟩
 have HER := hID her
 rw [her] at hno ⊢
 have dz : (er == 0) = false := beq_eq_false_iff_ne.2 hno
 clear her
 go_wp2_with fail
 exact bodyPost_ret (qac rfl _ _ _ _ _ (0, 0) _ rfl XE.out Tryz.underlying27 rfl Tryz.infoSs) rfl ⟨by rw [HER.out]; rfl, ((HB0.out.1.also Y1.out).put (p := ⟨w.heap.size + 1, 0, none⟩) (.inr (Nat.le_add_right _ _)) _).put (p := ⟨w.heap.size + 1, 1, none⟩) (.inr (Nat.le_add_right _ _)) _⟩
theorem qo3 (ids : List Int) (Wd : Int) (T S F : List Nat) (w : World) (VI VT VS VF : Value) (hs : SetV w VI VT VS VF ids Wd T S F) :
  Calls Tryz.prog 13 #[.agg #[VI, .int .i64 Wd, VT, VS, VF]] w (qnw w (qat ids Wd T S F) 0 (qaf ids Wd T S F)) := by
 by_cases h0 : qaf ids Wd T S F = 0
 ·obtain ⟨_, _, _, ⟨W, rfl, _⟩, _⟩ := qb0 h0
  rw [qat, h0, if_pos rfl, Int.toNat_natCast]
  refine (qt0 ids W T S F h0 w VI VT VS VF hs).mono ?_
  rintro e w' ⟨u, rfl, h1, h2⟩
  exact ⟨u, rfl, by rw [List.length_replicate]; exact h1, .of' h2⟩
 ·rw [qat, if_neg h0]
  refine (qo2 ids Wd T S F h0 w VI VT VS VF hs).mono ?_
  rintro e w' ⟨rfl, o⟩
  exact ⟨_, rfl, Rd.nil _ _ _, .of' o⟩
end
section
open Go.RowKit
theorem qiu (T S : List Nat) (W : Nat) (b : Nat) : ∀ (A X : List Nat), qa8 T S W (A ++ [b]) X = rdTo W T S (qa8 T S W A X) b W
 | [], X => rfl
 | a :: A, X => qiu T S W b A _
theorem qnz : ∀ (A : List Nat) (a : Int), 0 ≤ a → a + (A.length : Int) ≤ 1000000000 → atV A a = a + (A.length : Int)
 | [], a, _, _ => by simp [atV]
 | x :: A, a, h0, h1 => by
  rw [List.length_cons] at h1 ⊢
  have e : IntKind.i64.wrap (a + 1) = a + 1 := by rw [IntKind.wrap_i64]; omega
  unfold atV
  rw [e, qnz A (a + 1) (by omega) (by push_cast at h1 ⊢; omega)]
  push_cast
  omega
theorem qh2 (T S F : List Nat) (W n : Nat) (b : Nat) : ∀ (A X : List Nat) (a : Int), qay T S F W n (A ++ [b]) X a = qay T S F W n A X a ++ (hitsN F (rdTo W T S (qa8 T S W A X) b W) W n).map (fun (r : Nat) => (IntKind.i64.wrap (atV A a + 1), (r : Int)))
 | [], X, a => by simp [qay, qa8, atV]
 | x :: A, X, a => by
  simp only [List.cons_append, qay, qh2 T S F W n b A, List.append_assoc, qa8, atV]
theorem qlr {T S : List Nat} {W : Nat} (hT : ∀ x ∈ T, x < 18446744073709551616) : ∀ (A X : List Nat), (∀ x ∈ X, x < 18446744073709551616) → ∀ x ∈ qa8 T S W A X, x < 18446744073709551616
 | [], X, h => h
 | a :: A, X, h => qlr hT A _ (qf7 h hT)
theorem quj {T S F X B : List Nat} {W nn n k b : Nat} (hb : B[k]? = some b) (ha : (n : Int) + (B.length : Int) ≤ 1000000000) :
  qa8 T S W (B.take (k + 1)) X = rdTo W T S (qa8 T S W (B.take k) X) b W ∧ qay T S F W nn (B.take (k + 1)) X (n : Int) = qay T S F W nn (B.take k) X (n : Int) ++ (hitsN F (rdTo W T S (qa8 T S W (B.take k) X) b W) W nn).map (fun r : Nat => (((n + k + 1 : Nat) : Int), (r : Int))) := by
 have hk : k < B.length := (List.getElem?_eq_some_iff.1 hb).1
 have e : B.take (k + 1) = B.take k ++ [b] := by rw [List.take_add_one, hb]; rfl
 have hl : (B.take k).length = k := by rw [List.length_take]; omega
 rw [e, qiu, qh2, qnz _ _ (by omega) (by rw [hl]; omega), hl]
 have e2 : IntKind.i64.wrap ((n : Int) + (k : Int) + 1) = ((n + k + 1 : Nat) : Int) := by rw [IntKind.wrap_i64]; omega
 rw [e2]
 exact ⟨rfl, rfl⟩
theorem qsc {α : Type} {f : Nat → α} (l : List Nat) {j : Nat} (hj : j < l.length) : (l.take (j + 1)).map f = (l.take j).map f ++ [f (l.getD j 0)] := by
 rw [List.take_add_one, List.getElem?_eq_getElem hj, List.getD_eq_getElem?_getD, List.getElem?_eq_getElem hj, List.map_append]
 rfl
theorem qzl {V : World} {F : Nat → Prop} {n c b o j : Nat} {xs : List Value} {u : Value} (h : Rd V F 1 (.slice (some ⟨b, o, none⟩) n c) n xs) (hj : xs[j]? = some u) : V.cell? ⟨b, o + j, none⟩ = some u := by
 obtain ⟨A, c', he, hm, hl, hc⟩ := h
 have hn : 0 < n := by have := (List.getElem?_eq_some_iff.1 hj).1; omega
 obtain ⟨b', o', hA, _, _, hx⟩ := hc hn
 subst hA
 injection he with he1
 injection he1 with he1
 injection he1 with e1 e2
 subst e1 e2
 exact hx j u hj
theorem Rd.there2 {V : World} {F : Nat → Prop} {sz n : Nat} {v : Value} {xs : List Value} (h : Rd V F sz v n xs) : Rd V (fun k => F k ∧ k < V.heap.size) sz v n xs := by
 obtain ⟨A, c, rfl, h1, h2, h3⟩ := h
 refine ⟨A, c, rfl, h1, h2, fun hn => ?_⟩
 obtain ⟨b, o, rfl, hf, hb, hx⟩ := h3 hn
 exact ⟨b, o, rfl, ⟨hf, hb⟩, hb, hx⟩
theorem qcg {a b c d e f g : Prop} (h : a ∧ b ∧ c ∧ d ∧ e ∧ f ∧ g) : f ∧ g := ⟨h.2.2.2.2.2.1, h.2.2.2.2.2.2⟩
structure Fd (lo : Nat) (z : World) (yB : Nat) (RV out : Value) (X : List Nat) (at_ : Int) (ps : List (Int × Int)) (V : World) : Prop where
 o : Off (fun j => j = yB) z V
 yl : yB < z.heap.size
 y : Blk V yB 27 #[RV, .int .i64 at_]
 r : Rd V (fun k => lo ≤ k ∧ k ≠ yB ∧ out.ownBlock ≠ some k) 1 RV X.length (qab X)
 own : V.ownsRow z.heap.size 85 2 out ps.length (qa6 ps)
section
variable {lo : Nat} {z V V' : World} {yB : Nat} {RV out : Value} {X : List Nat} {at_ : Int} {ps : List (Int × Int)}
theorem Fd.go (h : Fd lo z yB RV out X at_ ps V) (k : Off Nob V V') : Fd lo z yB RV out X at_ ps V' :=
 ⟨h.o.also k.ofNob, h.yl, h.y.to (k.block _ h.y.lt id), h.r.keep k (fun _ _ h => h), qao h.own (fun g hg => k.block g (h.own.lt g hg).2 id)⟩
theorem Fd.put (h : Fd lo z yB RV out X at_ ps V) {RV' : Value} {X' : List Nat} (at' : Int) (hr : Rd V (fun k => lo ≤ k ∧ k ≠ yB ∧ out.ownBlock ≠ some k) 1 RV' X'.length (qab X')) : Fd lo z yB RV' out X' at' ps ((V.setCell ⟨yB, 0, none⟩ RV').setCell ⟨yB, 1, none⟩ (.int .i64 at')) := by
 have o : Off (fun j => j = yB) V ((V.setCell ⟨yB, 0, none⟩ RV').setCell ⟨yB, 1, none⟩ (.int .i64 at')) := Off.put (F := fun j => j = yB) (Off.put (F := fun j => j = yB) oRf (.inl rfl) _) (.inl rfl) _
 exact ⟨h.o.also o, h.yl, (h.y.put 0 RV').put 1 (.int .i64 at'), hr.keep o (fun k hk he => hk.2.1 he), qao h.own (fun g hg => o.block g (h.own.lt g hg).2 (fun e => by have := (h.own.lt g hg).1; have := h.yl; omega))⟩
theorem Rd.beside {V V' : World} {lo yB sz n : Nat} {out out' v : Value} {xs : List Value} (h : Rd V (fun k => lo ≤ k ∧ k ≠ yB ∧ out.ownBlock ≠ some k) sz v n xs) (hg : V.grownBy V' out.ownBlock) (hat : out'.ownBlock = out.ownBlock ∨ out'.ownBlock = some V.heap.size) : Rd V' (fun k => lo ≤ k ∧ k ≠ yB ∧ out'.ownBlock ≠ some k) sz v n xs := by
 have o2 : Off (fun j => out.ownBlock = some j) V V' := Off.grown oRf hg (fun k hk => .inl hk)
 refine (h.there2.keep o2 (fun k hk hf => hk.1.2.2 hf)).mono fun k hk => ⟨hk.1.1, hk.1.2.1, fun e => ?_⟩
 rcases hat with h3 | h3
 ·exact hk.1.2.2 (h3 ▸ e)
 ·rw [h3] at e
  injection e with e
  omega
theorem Fd.grown (h : Fd lo z yB RV out X at_ ps V) {W : World} {out' : Value} {ps' : List (Int × Int)} (o : Off Nob V W) (oW : V'.ownsRow z.heap.size 85 2 out' ps'.length (qa6 ps')) (hg : W.grownBy V' out.ownBlock) (hat : out'.ownBlock = out.ownBlock ∨ out'.ownBlock = some W.heap.size) : Fd lo z yB RV out' X at_ ps' V' := by
 have h2 := h.go o
 have o2 : Off (fun j => out.ownBlock = some j) W V' := Off.grown oRf hg (fun k hk => .inl hk)
 refine ⟨⟨o2.os.trans h2.o.os, o2.tape.trans h2.o.tape, o2.output.trans h2.o.output, Nat.le_trans h2.o.size o2.size, fun k hk hn => (o2.block k (Nat.lt_of_lt_of_le hk h2.o.size) (fun e => by have := (h2.own.lt k e).1; omega)).trans (h2.o.block k hk hn)⟩, h.yl, h2.y.to (o2.block _ h2.y.lt (fun e => by have := (h2.own.lt _ e).1; have := h.yl; omega)), h2.r.beside hg hat, oW⟩
end
theorem qsd (ids : List Int) (Wd : Int) (T S F X : List Nat) (at_ : Int) (w : World) (VI VT VS VF XV : Value)
  (er : Int) (h0 : shErr ids Wd T S F X at_ = er) (her : er ≠ 0) (bv : Value) (hX64 : ∀ x ∈ X, x < 18446744073709551616) (hsv : SetV w VI VT VS VF ids Wd T S F) (hxv : Rd w (fun _ => True) 1 XV X.length (qab X)) :
  Calls Tryz.prog 25 #[.agg #[VI, .int .i64 Wd, VT, VS, VF], .agg #[XV, .int .i64 at_], bv] w (fun e w' => ∃ v, e = .returned v ∧ qd3 w [] 0 [] er v w') := by
 have HSV := hID hsv
 have HXV := hID hxv
 have HX64 := hID hX64
 have H0 := hID h0
 have HCK := hID (fun (V : World) (oV : Off Nob w V) => qkf ids Wd T S F X hX64 at_ V VI VT VS VF XV (hsv.keep oV) (hxv.keepT oV))
 have dz : (er != 0) = true := by rw [bne_iff_ne]; exact her
 have dz2 : (er == 0) = false := by rw [beq_eq_false_iff_ne]; exact her
 clear her
 go_enter Tryz.func25, Tryz.ntmps25
 obtain ⟨w0, HW0, HB0, GC⟩ := box3 w VI VT VS VF XV Wd at_
 clear hsv hxv hX64 h0
 go_wp2_with fail
 rw [HW0.out]
 clear HW0
 obtain ⟨c0, c1, c2, c3, c4, x0, x1⟩ := GC.out _ oRf
 go_wp2_with fail
 refine (HCK.out _ HB0.out.1).mono ?_
 rintro e w1 ⟨rfl, o1⟩
 have O1 := hID o1
 clear o1 c0 c1 c2 c3 c4 x0 x1 HCK
 obtain ⟨c0, c1, c2, c3, c4, x0, x1⟩ := GC.out _ O1.out
 rw [H0.out]
 have HY : Hid (Blk w1 (w.heap.size + 2) 27 #[.slice none 0 0, .int .i64 0]) := hID (HB0.out.2.2.2.2.to (O1.out.block _ HB0.out.2.2.2.2.lt id))
 have f0 := HY.out.frozen 0
 have f1 := HY.out.frozen 1
 have y0 := HY.out.cell 0
 have y1 := HY.out.cell 1
 go_wp2_with fail
 have XE := hID ((HY.out.put 0 (.slice none 0 0)).put 1 (.int .i64 0))
 have hsz := HB0.out.1.size
 have LZ : Lies w w1 := (Lies.of' HB0.out.1).trans (Lies.of' O1.out)
 exact bodyPost_ret (qak rfl _ _ _ _ _ (0, 0) _ rfl XE.out Tryz.underlying27 rfl Tryz.infoSs) rfl ⟨_, rfl, _, _, rfl, Rd.nil _ _ _, Rd.nil _ _ _, (LZ.put (by show w.heap.size ≤ w.heap.size + 2; omega) _).put (by show w.heap.size ≤ w.heap.size + 2; omega) _⟩
theorem qo4 (ids : List Int) (Wd : Int) (T S F X : List Nat) (at_ : Int) (w : World) (VI VT VS VF XV : Value)
  (h0 : shErr ids Wd T S F X at_ = 0) (bp : Option Addr) (L bcap : Nat) (hL : 4096 < L) (hX64 : ∀ x ∈ X, x < 18446744073709551616) (hsv : SetV w VI VT VS VF ids Wd T S F) (hxv : Rd w (fun _ => True) 1 XV X.length (qab X)) :
  Calls Tryz.prog 25 #[.agg #[VI, .int .i64 Wd, VT, VS, VF], .agg #[XV, .int .i64 at_], .slice bp L bcap] w (fun e w' => ∃ v, e = .returned v ∧ qd3 w [] 0 [] 3 v w') := by
 have HSV := hID hsv
 have HXV := hID hxv
 have HX64 := hID hX64
 have H0 := hID h0
 have HCK := hID (fun (V : World) (oV : Off Nob w V) => qkf ids Wd T S F X hX64 at_ V VI VT VS VF XV (hsv.keep oV) (hxv.keepT oV))
 have d1 : decide ((4096 : Int) < (L : Int)) = true := dcT
 have d1n : decide (4096 < L) = true := decide_eq_true hL
 clear hL
 go_enter Tryz.func25, Tryz.ntmps25
 obtain ⟨w0, HW0, HB0, GC⟩ := box3 w VI VT VS VF XV Wd at_
 clear hsv hxv hX64 h0
 go_wp2_with fail
 rw [HW0.out]
 clear HW0
 obtain ⟨c0, c1, c2, c3, c4, x0, x1⟩ := GC.out _ oRf
 go_wp2_with fail
 refine (HCK.out _ HB0.out.1).mono ?_
 rintro e w1 ⟨rfl, o1⟩
 have O1 := hID o1
 clear o1 c0 c1 c2 c3 c4 x0 x1 HCK
 obtain ⟨c0, c1, c2, c3, c4, x0, x1⟩ := GC.out _ O1.out
 rw [H0.out]
 have HY : Hid (Blk w1 (w.heap.size + 2) 27 #[.slice none 0 0, .int .i64 0]) := hID (HB0.out.2.2.2.2.to (O1.out.block _ HB0.out.2.2.2.2.lt id))
 have f0 := HY.out.frozen 0
 have f1 := HY.out.frozen 1
 have y0 := HY.out.cell 0
 have y1 := HY.out.cell 1
 go_wp2_with fail
 have XE := hID ((HY.out.put 0 (.slice none 0 0)).put 1 (.int .i64 0))
 have hsz := HB0.out.1.size
 have LZ : Lies w w1 := (Lies.of' HB0.out.1).trans (Lies.of' O1.out)
 exact bodyPost_ret (qak rfl _ _ _ _ _ (0, 0) _ rfl XE.out Tryz.underlying27 rfl Tryz.infoSs) rfl ⟨_, rfl, _, _, rfl, Rd.nil _ _ _, Rd.nil _ _ _, (LZ.put (by show w.heap.size ≤ w.heap.size + 2; omega) _).put (by show w.heap.size ≤ w.heap.size + 2; omega) _⟩
theorem qo5 (ids : List Int) (Wd : Int) (T S F X : List Nat) (at_ : Int) (w : World) (VI VT VS VF XV : Value)
  (h0 : shErr ids Wd T S F X at_ = 0) (bp : Option Addr) (L bcap : Nat) (hL : L ≤ 4096) (hat : 1000000000 < at_ + (L : Int)) (hX64 : ∀ x ∈ X, x < 18446744073709551616) (hsv : SetV w VI VT VS VF ids Wd T S F) (hxv : Rd w (fun _ => True) 1 XV X.length (qab X)) :
  Calls Tryz.prog 25 #[.agg #[VI, .int .i64 Wd, VT, VS, VF], .agg #[XV, .int .i64 at_], .slice bp L bcap] w (fun e w' => ∃ v, e = .returned v ∧ qd3 w [] 0 [] 9 v w') := by
 obtain ⟨_, _, _, ha0, ha1⟩ := qdf h0
 have HSV := hID hsv
 have HXV := hID hxv
 have HX64 := hID hX64
 have H0 := hID h0
 have HCK := hID (fun (V : World) (oV : Off Nob w V) => qkf ids Wd T S F X hX64 at_ V VI VT VS VF XV (hsv.keep oV) (hxv.keepT oV))
 have d1 : decide ((4096 : Int) < (L : Int)) = false := dcF
 have d1n : decide (4096 < L) = false := dcF
 have hwr : IntKind.i64.wrap (at_ + (L : Int)) = at_ + (L : Int) := by rw [IntKind.wrap_i64]; omega
 have d2 : decide ((1000000000 : Int) < at_ + (L : Int)) = true := dcT
 clear hL hat ha0 ha1
 go_enter Tryz.func25, Tryz.ntmps25
 obtain ⟨w0, HW0, HB0, GC⟩ := box3 w VI VT VS VF XV Wd at_
 clear hsv hxv hX64 h0
 go_wp2_with fail
 rw [HW0.out]
 clear HW0
 obtain ⟨c0, c1, c2, c3, c4, x0, x1⟩ := GC.out _ oRf
 go_wp2_with fail
 refine (HCK.out _ HB0.out.1).mono ?_
 rintro e w1 ⟨rfl, o1⟩
 have O1 := hID o1
 clear o1 c0 c1 c2 c3 c4 x0 x1 HCK
 obtain ⟨c0, c1, c2, c3, c4, x0, x1⟩ := GC.out _ O1.out
 rw [H0.out]
 have HY : Hid (Blk w1 (w.heap.size + 2) 27 #[.slice none 0 0, .int .i64 0]) := hID (HB0.out.2.2.2.2.to (O1.out.block _ HB0.out.2.2.2.2.lt id))
 have f0 := HY.out.frozen 0
 have f1 := HY.out.frozen 1
 have y0 := HY.out.cell 0
 have y1 := HY.out.cell 1
 go_wp2_with fail
 have XE := hID ((HY.out.put 0 (.slice none 0 0)).put 1 (.int .i64 0))
 have hsz := HB0.out.1.size
 have LZ : Lies w w1 := (Lies.of' HB0.out.1).trans (Lies.of' O1.out)
 exact bodyPost_ret (qak rfl _ _ _ _ _ (0, 0) _ rfl XE.out Tryz.underlying27 rfl Tryz.infoSs) rfl ⟨_, rfl, _, _, rfl, Rd.nil _ _ _, Rd.nil _ _ _, (LZ.put (by show w.heap.size ≤ w.heap.size + 2; omega) _).put (by show w.heap.size ≤ w.heap.size + 2; omega) _⟩
theorem quk (ids : List Int) (Wd : Int) (T S F X : List Nat) (at_ : Int) (w : World) (VI VT VS VF XV : Value)
  (h0 : shErr ids Wd T S F X at_ = 0) (B : List Nat) (hB256 : ∀ b ∈ B, b < 256) (BVv : Value) (hb : Rd w (fun _ => True) 1 BVv B.length (qbw B)) (hL : B.length ≤ 4096) (hat : at_ + (B.length : Int) ≤ 1000000000) (hX64 : ∀ x ∈ X, x < 18446744073709551616) (hsv : SetV w VI VT VS VF ids Wd T S F) (hxv : Rd w (fun _ => True) 1 XV X.length (qab X)) :
  Calls Tryz.prog 25 #[.agg #[VI, .int .i64 Wd, VT, VS, VF], .agg #[XV, .int .i64 at_], BVv] w (fun e w' => ∃ v, e = .returned v ∧ qd3 w (qa8 T S X.length B X) (atV B at_) (qay T S F X.length ids.length B X at_) 0 v w') := by
 obtain ⟨i_u64, h_u64, z_u64, s_u64, b_u64⟩ := info_parts Tryz.infoU64
 obtain ⟨i_h, h_h, z_h, s_h, b_h⟩ := info_parts Tryz.infoH
 obtain ⟨AI, ci, rfl, _⟩ := hsv.i.form
 obtain ⟨AX, cx, rfl, _, hxcell⟩ := hxv.form
 obtain ⟨bp, bcap, rfl, _, hbcell⟩ := hb.form
 have HBC := hID hbcell
 have HXC := hID hxcell
 have HB256 := hID hB256
 have HSV := hID hsv
 have HXV := hID hxv
 have HX64 := hID hX64
 have H0 := hID h0
 have HCK := hID (fun (V : World) (oV : Off Nob w V) => qkf ids Wd T S F X hX64 at_ V (.slice AI ids.length ci) VT VS VF (.slice AX X.length cx) (hsv.keep oV) (hxv.keepT oV))
 have d1 : decide ((4096 : Int) < (B.length : Int)) = false := dcF
 have d1n : decide (4096 < B.length) = false := dcF
 obtain ⟨_, _, _, ha0, ha1⟩ := qdf h0
 have hwr : IntKind.i64.wrap (at_ + (B.length : Int)) = at_ + (B.length : Int) := by rw [IntKind.wrap_i64]; omega
 have d2 : decide ((1000000000 : Int) < at_ + (B.length : Int)) = false := dcF
 have HAT := hID hat
 have HA0 := hID (And.intro ha0 ha1)
 have HLL := hID hL
 clear hb hbcell hxcell hB256 hL hat ha0 ha1
 go_enter Tryz.func25, Tryz.ntmps25
 obtain ⟨w0, HW0, HB0, GC⟩ := box3 w (.slice AI ids.length ci) VT VS VF (.slice AX X.length cx) Wd at_
 clear hsv hxv hX64 h0
 go_wp2_with fail
 rw [HW0.out]
 clear HW0
 obtain ⟨c0, c1, c2, c3, c4, x0, x1⟩ := GC.out _ oRf
 go_wp2_with fail
 refine (HCK.out _ HB0.out.1).mono ?_
 rintro e w1 ⟨rfl, o1⟩
 have O1 := hID o1
 clear o1 c0 c1 c2 c3 c4 x0 x1 HCK
 obtain ⟨c0, c1, c2, c3, c4, x0, x1⟩ := GC.out _ O1.out
 rw [H0.out]
 obtain ⟨hse, hXW, hlow, _, _⟩ := qdf H0.out
 obtain ⟨hi1, hi16, _, ⟨Wx, hWx, w1', w4', hlt, hls, hlf, hpl⟩, _⟩ := qb0 hse
 obtain rfl : X.length = Wx := by omega
 have HLT := hID hlt
 have HLS := hID hls
 have HLF := hID hlf
 have HWW := hID (And.intro w1' w4')
 have HI := hID (And.intro hi1 hi16)
 clear hse hlow hlt hls hlf hpl hi1 hi16
 have hwx := hXW
 subst hwx
 clear hXW hWx
 obtain ⟨bx, ox, hAX, hbx, hxc2⟩ := HXC.out (by omega)
 subst hAX
 have HXD : Hid (∀ V, Off Nob w V → ∀ j u, (qab X)[j]? = some u → V.cell? ⟨bx, ox + j, none⟩ = some u) := hID (fun V oV j u hj => by rw [oV.cell_old hbx]; exact hxc2 j u hj)
 clear hbx hxc2
 go_wp2_with fail
 go_cut [10] (fun s wx => ∃ (tb gi ci2 : Nat), s = .pointer (some ⟨tb, 0, none⟩) ∧ w1.heap.size ≤ tb ∧ Blk wx tb 27 #[.slice (some ⟨gi, 0, none⟩) X.length ci2, .int .i64 at_] ∧ Rd wx (fun k => w1.heap.size ≤ k ∧ k ≠ tb) 1 (.slice (some ⟨gi, 0, none⟩) X.length ci2) X.length (qab X) ∧ Off Nob w1 wx)
 case first =>
  refine wp_region_held_drew (S := fun W => W.cell? ⟨w.heap.size + 1, 0, none⟩ = some (.slice (some ⟨bx, ox, none⟩) X.length cx) ∧ W.cell? ⟨w.heap.size + 1, 1, none⟩ = some (.int .i64 at_)) (by kernel_rfl) ⟨x0, x1⟩ (fun hHeld => ?_)
  have X0 : Hid (Off Nob w1 w1.drew) := hID (Off.drew oRf)
  clear c0 c1 c2 c3 c4 x0 x1
  revert X0 hHeld
  generalize w1.drew = y0
  intro hHeld X0
  refine tkH 1 ?_
  refine tkH 2 ?_
  refine tkH 4 ?_
  refine tkH 5 ?_
  refine wpAnyH_ready (rs := [0, 7]) (by kernel_rfl) (by simp) ?_
  refine AllReadyH.cons rfl (fun K hK => ?s4) ?m4
  case' s4 =>
   go_simp
   have X1 := hID (X0.out.also (Off.alloc (Off.refl Nob y0) (.cells #[] 71)))
   have OB1 : Hid (OwnL w1 (y0.alloc (.cells #[] 71)) 71 1 (.slice (some ⟨y0.heap.size, 0, none⟩) 0 0) 0 []) := hID ⟨World.ownsRow_made y0 #[] 0 X0.out.size (by decide) rfl, X1.out⟩
   revert X1 OB1
   generalize (y0.alloc (.cells #[] 71)) = y1
   intro X1 OB1
   obtain ⟨B1, hB⟩ : ∃ B1, y0.heap.size = B1 := ⟨_, rfl⟩
   rw [hB] at OB1 ⊢
   clear hB
   have SS1 := qcg (GC.out _ (O1.out.also X1.out))
   refine hK.out _ _ ?_ (fun hHeld => ?_)
   ·first | exact SS1 | go_keep
   clear hK K
   try simp only [Act.put, qL]
   refine wpAnyH_ready (rs := [3, 7]) (by kernel_rfl) (by simp) ?_
   refine AllReadyH.cons rfl (fun K hK => ?s5) ?m5
   case' s5 =>
    refine wp_append_lies _ _ _ 23 rfl w1.heap.size 71 i_u64 (.int .u64 0) 1 8 Tryz.underlying23 h_u64 z_u64 s_u64 b_u64 rfl (by decide) (.slice (some ⟨B1, 0, none⟩) 0 0) 0 [] rfl OB1.out.1 ⟨bx, ox, none⟩ X.length cx (qab X) rfl (by simp [qab]) ?c1 (by intro u hu; simp only [qab, List.mem_map] at hu; obtain ⟨x, _, rfl⟩ := hu; rfl) (by omega) (by unfold maxLen; omega) (by omega) X1.out.size _ rfl ?_
    case c1 => intro j u hj; rw [qaj]; exact HXD.out _ (HB0.out.1.also (O1.out.also X1.out)) j u hj
    intro gi ci2 y2 oW gW hat hlt
    have OI2 : Hid (OwnL w1 y2 71 1 (.slice (some ⟨gi, 0, none⟩) (0 + X.length) ci2) (0 + X.length) ([] ++ qab X)) := hID (OB1.out.grown oRf oW gW)
    have X2 := hID OI2.out.2
    have oo : Off (fun k => k = B1) y1 y2 := Off.grown oRf gW (fun k hk => .inl (by injection hk with hk; exact hk.symm))
    have OIz := OI2
    clear OI2
    have OI2 := OIz
    clear OIz
    clear oW gW hat hlt oo
    have SS2 := qcg (GC.out _ (O1.out.also X2.out))
    refine hK.out _ _ ?_ (fun hHeld => ?_)
    ·first | exact SS2 | go_keep
    clear hK K
    try simp only [Act.put, qL]
    refine wpAnyH_ready (rs := [6, 7]) (by kernel_rfl) (by simp) ?_
    refine AllReadyH.cons rfl (fun K hK => ?s6) ?m6
    case' s6 =>
     go_simp
     revert X2 OI2
     generalize y2 = y3
     intro X3 OI3
     have SS3 := qcg (GC.out _ (O1.out.also X3.out))
     refine hK.out _ _ ?_ (fun hHeld => ?_)
     ·first | exact SS3 | go_keep
     clear hK K
     try simp only [Act.put, qL]
     refine wpAnyH_ready (rs := [7]) (by kernel_rfl) (by simp) ?_
     refine AllReadyH.cons rfl (fun K hK => ?s7) ?m7
     case' s7 =>
      go_simp
      have X4 := hID (X3.out.also (Off.alloc (Off.refl Nob y3) (.cells #[.slice none 0 0, .int .i64 0] 27)))
      have OI4 := hID (OI3.out.off ((Off.alloc (Off.refl Nob y3) (.cells #[.slice none 0 0, .int .i64 0] 27))))
      have BT4 : Hid (Blk (y3.alloc (.cells #[.slice none 0 0, .int .i64 0] 27)) y3.heap.size 27 #[.slice none 0 0, .int .i64 0]) := hID (Blk.new _ _ _)
      revert X4 OI4 BT4
      generalize (y3.alloc (.cells #[.slice none 0 0, .int .i64 0] 27)) = y4
      intro X4 OI4 BT4
      have tge : w1.heap.size ≤ y3.heap.size := X3.out.size
      obtain ⟨tb, htb⟩ : ∃ B1, y3.heap.size = B1 := ⟨_, rfl⟩
      rw [htb] at BT4 tge ⊢
      clear htb
      have TGE := hID tge
      clear tge
      have SS4 := qcg (GC.out _ (O1.out.also X4.out))
      refine hK.out _ _ ?_ (fun hHeld => ?_)
      ·first | exact SS4 | go_keep
      clear hK K
      try simp only [Act.put, qL]
     case' m7 =>
      exact AllReadyH.nil
    case' m6 =>
     refine AllReadyH.cons rfl (fun K hK => ?s8) ?m8
     case' s8 =>
      go_simp
      have X3 := hID (X2.out.also (Off.alloc (Off.refl Nob y2) (.cells #[.slice none 0 0, .int .i64 0] 27)))
      have OI3 := hID (OI2.out.off ((Off.alloc (Off.refl Nob y2) (.cells #[.slice none 0 0, .int .i64 0] 27))))
      have BT3 : Hid (Blk (y2.alloc (.cells #[.slice none 0 0, .int .i64 0] 27)) y2.heap.size 27 #[.slice none 0 0, .int .i64 0]) := hID (Blk.new _ _ _)
      revert X3 OI3 BT3
      generalize (y2.alloc (.cells #[.slice none 0 0, .int .i64 0] 27)) = y3
      intro X3 OI3 BT3
      have tge : w1.heap.size ≤ y2.heap.size := X2.out.size
      obtain ⟨tb, htb⟩ : ∃ B1, y2.heap.size = B1 := ⟨_, rfl⟩
      rw [htb] at BT3 tge ⊢
      clear htb
      have TGE := hID tge
      clear tge
      have SS3 := qcg (GC.out _ (O1.out.also X3.out))
      refine hK.out _ _ ?_ (fun hHeld => ?_)
      ·first | exact SS3 | go_keep
      clear hK K
      try simp only [Act.put, qL]
      refine wpAnyH_ready (rs := [6]) (by kernel_rfl) (by simp) ?_
      refine AllReadyH.cons rfl (fun K hK => ?s9) ?m9
      case' s9 =>
       go_simp
       revert X3 OI3 BT3
       generalize y3 = y4
       intro X4 OI4 BT4
       have SS4 := qcg (GC.out _ (O1.out.also X4.out))
       refine hK.out _ _ ?_ (fun hHeld => ?_)
       ·first | exact SS4 | go_keep
       clear hK K
       try simp only [Act.put, qL]
      case' m9 =>
       exact AllReadyH.nil
     case' m8 =>
      exact AllReadyH.nil
   case' m5 =>
    refine AllReadyH.cons rfl (fun K hK => ?s10) ?m10
    case' s10 =>
     go_simp
     have X2 := hID (X1.out.also (Off.alloc (Off.refl Nob y1) (.cells #[.slice none 0 0, .int .i64 0] 27)))
     have OB2 := hID (OB1.out.off ((Off.alloc (Off.refl Nob y1) (.cells #[.slice none 0 0, .int .i64 0] 27))))
     have BT2 : Hid (Blk (y1.alloc (.cells #[.slice none 0 0, .int .i64 0] 27)) y1.heap.size 27 #[.slice none 0 0, .int .i64 0]) := hID (Blk.new _ _ _)
     revert X2 OB2 BT2
     generalize (y1.alloc (.cells #[.slice none 0 0, .int .i64 0] 27)) = y2
     intro X2 OB2 BT2
     have tge : w1.heap.size ≤ y1.heap.size := X1.out.size
     obtain ⟨tb, htb⟩ : ∃ B1, y1.heap.size = B1 := ⟨_, rfl⟩
     rw [htb] at BT2 tge ⊢
     clear htb
     have TGE := hID tge
     clear tge
     have SS2 := qcg (GC.out _ (O1.out.also X2.out))
     refine hK.out _ _ ?_ (fun hHeld => ?_)
     ·first | exact SS2 | go_keep
     clear hK K
     try simp only [Act.put, qL]
     refine wpAnyH_ready (rs := [3]) (by kernel_rfl) (by simp) ?_
     refine AllReadyH.cons rfl (fun K hK => ?s11) ?m11
     case' s11 =>
      refine wp_append_lies _ _ _ 23 rfl w1.heap.size 71 i_u64 (.int .u64 0) 1 8 Tryz.underlying23 h_u64 z_u64 s_u64 b_u64 rfl (by decide) (.slice (some ⟨B1, 0, none⟩) 0 0) 0 [] rfl OB2.out.1 ⟨bx, ox, none⟩ X.length cx (qab X) rfl (by simp [qab]) ?c1 (by intro u hu; simp only [qab, List.mem_map] at hu; obtain ⟨x, _, rfl⟩ := hu; rfl) (by omega) (by unfold maxLen; omega) (by omega) X2.out.size _ rfl ?_
      case c1 => intro j u hj; rw [qaj]; exact HXD.out _ (HB0.out.1.also (O1.out.also X2.out)) j u hj
      intro gi ci2 y3 oW gW hat hlt
      have OI3 : Hid (OwnL w1 y3 71 1 (.slice (some ⟨gi, 0, none⟩) (0 + X.length) ci2) (0 + X.length) ([] ++ qab X)) := hID (OB2.out.grown oRf oW gW)
      have X3 := hID OI3.out.2
      have oo : Off (fun k => k = B1) y2 y3 := Off.grown oRf gW (fun k hk => .inl (by injection hk with hk; exact hk.symm))
      have BT3 := hID (BT2.out.to (oo.block _ BT2.out.lt (fun e => qal OB2.out.1 BT2.out (by decide) e.symm)))
      have OIz := OI3
      clear OI3
      have OI3 := OIz
      clear OIz
      have BTz := BT3
      clear BT3
      have BT3 := BTz
      clear BTz
      clear oW gW hat hlt oo
      have SS3 := qcg (GC.out _ (O1.out.also X3.out))
      refine hK.out _ _ ?_ (fun hHeld => ?_)
      ·first | exact SS3 | go_keep
      clear hK K
      try simp only [Act.put, qL]
      refine wpAnyH_ready (rs := [6]) (by kernel_rfl) (by simp) ?_
      refine AllReadyH.cons rfl (fun K hK => ?s12) ?m12
      case' s12 =>
       go_simp
       revert X3 OI3 BT3
       generalize y3 = y4
       intro X4 OI4 BT4
       have SS4 := qcg (GC.out _ (O1.out.also X4.out))
       refine hK.out _ _ ?_ (fun hHeld => ?_)
       ·first | exact SS4 | go_keep
       clear hK K
       try simp only [Act.put, qL]
      case' m12 =>
       exact AllReadyH.nil
     case' m11 =>
      exact AllReadyH.nil
    case' m10 =>
     exact AllReadyH.nil
  case' m4 =>
   refine AllReadyH.cons rfl (fun K hK => ?s13) ?m13
   case' s13 =>
    go_simp
    have X1 := hID (X0.out.also (Off.alloc (Off.refl Nob y0) (.cells #[.slice none 0 0, .int .i64 0] 27)))
    have BT1 : Hid (Blk (y0.alloc (.cells #[.slice none 0 0, .int .i64 0] 27)) y0.heap.size 27 #[.slice none 0 0, .int .i64 0]) := hID (Blk.new _ _ _)
    revert X1 BT1
    generalize (y0.alloc (.cells #[.slice none 0 0, .int .i64 0] 27)) = y1
    intro X1 BT1
    have tge : w1.heap.size ≤ y0.heap.size := X0.out.size
    obtain ⟨tb, htb⟩ : ∃ B1, y0.heap.size = B1 := ⟨_, rfl⟩
    rw [htb] at BT1 tge ⊢
    clear htb
    have TGE := hID tge
    clear tge
    have SS1 := qcg (GC.out _ (O1.out.also X1.out))
    refine hK.out _ _ ?_ (fun hHeld => ?_)
    ·first | exact SS1 | go_keep
    clear hK K
    try simp only [Act.put, qL]
    refine wpAnyH_ready (rs := [0]) (by kernel_rfl) (by simp) ?_
    refine AllReadyH.cons rfl (fun K hK => ?s14) ?m14
    case' s14 =>
     go_simp
     have X2 := hID (X1.out.also (Off.alloc (Off.refl Nob y1) (.cells #[] 71)))
     have BT2 := hID (BT1.out.to (((Off.alloc (Off.refl Nob y1) (.cells #[] 71))).block _ BT1.out.lt (fun h => h)))
     have OB2 : Hid (OwnL w1 (y1.alloc (.cells #[] 71)) 71 1 (.slice (some ⟨y1.heap.size, 0, none⟩) 0 0) 0 []) := hID ⟨World.ownsRow_made y1 #[] 0 X1.out.size (by decide) rfl, X2.out⟩
     revert X2 BT2 OB2
     generalize (y1.alloc (.cells #[] 71)) = y2
     intro X2 BT2 OB2
     obtain ⟨B1, hB⟩ : ∃ B1, y1.heap.size = B1 := ⟨_, rfl⟩
     rw [hB] at OB2 ⊢
     clear hB
     have SS2 := qcg (GC.out _ (O1.out.also X2.out))
     refine hK.out _ _ ?_ (fun hHeld => ?_)
     ·first | exact SS2 | go_keep
     clear hK K
     try simp only [Act.put, qL]
     refine wpAnyH_ready (rs := [3]) (by kernel_rfl) (by simp) ?_
     refine AllReadyH.cons rfl (fun K hK => ?s15) ?m15
     case' s15 =>
      refine wp_append_lies _ _ _ 23 rfl w1.heap.size 71 i_u64 (.int .u64 0) 1 8 Tryz.underlying23 h_u64 z_u64 s_u64 b_u64 rfl (by decide) (.slice (some ⟨B1, 0, none⟩) 0 0) 0 [] rfl OB2.out.1 ⟨bx, ox, none⟩ X.length cx (qab X) rfl (by simp [qab]) ?c1 (by intro u hu; simp only [qab, List.mem_map] at hu; obtain ⟨x, _, rfl⟩ := hu; rfl) (by omega) (by unfold maxLen; omega) (by omega) X2.out.size _ rfl ?_
      case c1 => intro j u hj; rw [qaj]; exact HXD.out _ (HB0.out.1.also (O1.out.also X2.out)) j u hj
      intro gi ci2 y3 oW gW hat hlt
      have OI3 : Hid (OwnL w1 y3 71 1 (.slice (some ⟨gi, 0, none⟩) (0 + X.length) ci2) (0 + X.length) ([] ++ qab X)) := hID (OB2.out.grown oRf oW gW)
      have X3 := hID OI3.out.2
      have oo : Off (fun k => k = B1) y2 y3 := Off.grown oRf gW (fun k hk => .inl (by injection hk with hk; exact hk.symm))
      have BT3 := hID (BT2.out.to (oo.block _ BT2.out.lt (fun e => qal OB2.out.1 BT2.out (by decide) e.symm)))
      have OIz := OI3
      clear OI3
      have OI3 := OIz
      clear OIz
      have BTz := BT3
      clear BT3
      have BT3 := BTz
      clear BTz
      clear oW gW hat hlt oo
      have SS3 := qcg (GC.out _ (O1.out.also X3.out))
      refine hK.out _ _ ?_ (fun hHeld => ?_)
      ·first | exact SS3 | go_keep
      clear hK K
      try simp only [Act.put, qL]
      refine wpAnyH_ready (rs := [6]) (by kernel_rfl) (by simp) ?_
      refine AllReadyH.cons rfl (fun K hK => ?s16) ?m16
      case' s16 =>
       go_simp
       revert X3 OI3 BT3
       generalize y3 = y4
       intro X4 OI4 BT4
       have SS4 := qcg (GC.out _ (O1.out.also X4.out))
       refine hK.out _ _ ?_ (fun hHeld => ?_)
       ·first | exact SS4 | go_keep
       clear hK K
       try simp only [Act.put, qL]
      case' m16 =>
       exact AllReadyH.nil
     case' m15 =>
      exact AllReadyH.nil
    case' m14 =>
     exact AllReadyH.nil
   case' m13 =>
    exact AllReadyH.nil
  all_goals
   refine wpAnyH_ready (rs := [8]) (by kernel_rfl) (by simp) ?_
   refine AllReadyH.cons rfl (fun K hK => ?_) AllReadyH.nil
   have z0 := BT4.out.cell 0
   have z1 := BT4.out.cell 1
   have f0 := BT4.out.frozen 0
   have f1 := BT4.out.frozen 1
   have e1 : gi ≠ tb := qal OI4.out.1 BT4.out (by decide)
   have BF := hID ((BT4.out.put 0 (.slice (some ⟨gi, 0, none⟩) (0 + X.length) ci2)).put 1 (.int .i64 at_))
   have XF : Hid (Off Nob w1 ((y4.setCell ⟨tb, 0, none⟩ (.slice (some ⟨gi, 0, none⟩) (0 + X.length) ci2)).setCell ⟨tb, 1, none⟩ (.int .i64 at_))) := hID (Off.put (F := Nob) (Off.put (F := Nob) X4.out (.inr TGE.out) _) (.inr TGE.out) _)
   have RF : Hid (Rd ((y4.setCell ⟨tb, 0, none⟩ (.slice (some ⟨gi, 0, none⟩) (0 + X.length) ci2)).setCell ⟨tb, 1, none⟩ (.int .i64 at_)) (fun k => w1.heap.size ≤ k ∧ k ≠ tb) 1 (.slice (some ⟨gi, 0, none⟩) (0 + X.length) ci2) (0 + X.length) ([] ++ qab X)) := hID ((Rd.own (F := fun k => k = gi) OI4.out.1 (fun k hk => by injection hk with hk; exact hk.symm)).keep (Off.put (F := fun j => j = tb) (Off.put (F := fun j => j = tb) oRf (.inl rfl) _) (.inl rfl) _) (fun k hk he => e1 (hk ▸ he)) |>.mono (fun k hk => ⟨by subst hk; exact (OI4.out.1.lt _ rfl).1, fun he => e1 (hk ▸ he)⟩))
   have SS5 := qcg (GC.out _ (O1.out.also XF.out))
   rw [Nat.zero_add] at BF XF RF SS5
   go_simp
   refine hK.out _ _ ?_ (fun hHeld => ?_)
   ·first | exact SS5 | go_keep
   clear hK K
   try simp only [Act.put, qL]
   refine wpAnyH_done (by kernel_rfl) ?_ _
   clear hHeld z0 z1 f0 f1 SS5
   go_wp2_with fail
   go_meet
   exact ⟨_, _, _, rfl, TGE.out, BF.out, RF.out, XF.out⟩
 obtain ⟨tb, gi, ci2, rfl, htb, hBT, hRX, hO⟩ := hcut
 obtain ⟨n, hn⟩ : ∃ n : Nat, at_ = (n : Int) := ⟨at_.toNat, by have := HA0.out.1; omega⟩
 subst hn
 clear c0 c1 c2 c3 c4 x0 x1
 have HTB := hID htb
 have HO := hID hO
 have HOW : Hid (∀ V, Off (fun j => j = tb) wc V → Off Nob w0 V) := hID (fun V o => (O1.out.also HO.out).own o (fun k hk => by have := HTB.out; have := O1.out.size; omega))
 have HSET : Hid (∀ V, Off (fun j => j = tb) wc V → SetV V (.slice AI ids.length ci) VT VS VF ids (X.length : Int) T S F) := hID (fun V o => HSV.out.keep (HB0.out.1.also (HOW.out V o)))
 have HF0 : Hid (Fd w1.heap.size wc tb (.slice (some ⟨gi, 0, none⟩) X.length ci2) (.slice none 0 0) X (n : Int) [] wc) := hID ⟨Off.refl _ _, hBT.lt, hBT, hRX.mono (fun k hk => ⟨hk.1, hk.2, by simp [Value.ownBlock]⟩), World.ownsRow_nil _ _ _ _⟩
 clear htb hBT hRX hO
 go_wp2_with fail
 go_loopw [11, 12] (fun x y wr => ∃ k : Nat, k ≤ B.length ∧ y = .int .i64 (k : Int) ∧ ∃ RV, Fd w1.heap.size wc tb RV x (qa8 T S X.length (B.take k) X) ((n + k : Nat) : Int) (qay T S F X.length ids.length (B.take k) X (n : Int)) wr) (fun _ y _ => B.length - (intOf y).toNat)
 case atStart => exact ⟨0, Nat.zero_le _, rfl, _, HF0.out⟩
 case round =>
  clear HF0
  obtain ⟨k, hk, rfl, RV, hFd⟩ := hrel
  have FA := hID hFd
  clear hFd
  by_cases hkl : k < B.length
  ·have d3 : decide ((k : Int) < (B.length : Int)) = true := dcT
   have d4 : decide (k < B.length) = true := decide_eq_true hkl
   obtain ⟨bb, ob, hbp, hbl, hbx⟩ := HBC.out (by omega)
   subst hbp
   obtain ⟨b, hbk⟩ : ∃ b, B[k]? = some b := ⟨_, List.getElem?_eq_getElem hkl⟩
   have HBB : Hid (b < 256) := hID (HB256.out _ (List.mem_of_getElem? hbk))
   have HCB : Hid (∀ V, Off Nob w V → V.cell? ⟨bb, ob + k, none⟩ = some (.int .u8 (b : Int))) := hID (fun V o => by rw [o.cell_old hbl]; exact hbx k _ (by simp [qbw, hbk]))
   have HTK : Hid (B.take (k + 1) = B.take k ++ [b]) := hID (by rw [List.take_add_one, hbk]; rfl)
   have hk4 : k ≤ 4096 := by have := HLL.out; omega
   have hm : n + k ≤ 1000000000 := by have := HAT.out; omega
   obtain ⟨Y, hY⟩ : ∃ Y, qa8 T S X.length (B.take k) X = Y := ⟨_, rfl⟩
   obtain ⟨ps, hps⟩ : ∃ ps, qay T S F X.length ids.length (B.take k) X (n : Int) = ps := ⟨_, rfl⟩
   have HY : Hid (Y.length = X.length ∧ ∀ x ∈ Y, x < 18446744073709551616) := hID ⟨by rw [← hY]; exact qcf _ _ _ _ _ rfl, by rw [← hY]; exact qlr HSV.out.t64 _ _ HX64.out⟩
   obtain ⟨Y2, hY2⟩ : ∃ Y2, rdTo X.length T S Y b X.length = Y2 := ⟨_, rfl⟩
   have HY2 : Hid ((Y2.length = X.length ∧ ∀ x ∈ Y2, x < 18446744073709551616) ∧ rdTo X.length T S Y b X.length = Y2) := hID ⟨⟨by rw [← hY2]; exact qcx _ _ _ _ _ _, by rw [← hY2]; exact qf7 HY.out.2 HSV.out.t64⟩, hY2⟩
   obtain ⟨hl, hhl⟩ : ∃ hl, qb3 F X.length Y2 ids.length = hl := ⟨_, rfl⟩
   have HHL := hID hhl
   have HHS : Hid (hitsN F Y2 X.length ids.length = hl) := hID (by rw [qlq HY2.out.1.2]; exact hhl)
   have HHN : Hid (hl.length ≤ 16) := hID (by rw [← HHS.out]; have := qef F Y2 X.length ids.length; have := HI.out.2; omega)
   have HPS : Hid (ps.length ≤ 4096 * 16) := hID (by rw [← hps]; have h := qeo T S F X.length ids.length (B.take k) X (n : Int); have := HI.out.2; have := HLL.out; have h2 : (B.take k).length * ids.length ≤ 4096 * 16 := Nat.mul_le_mul (by rw [List.length_take]; omega) (by omega); omega)
   obtain ⟨m, hmm⟩ : ∃ m, n + k = m := ⟨_, rfl⟩
   obtain ⟨m2, hm2⟩ : ∃ m2, m + 1 = m2 := ⟨_, rfl⟩
   have HM2 : Hid ((m : Int) + 1 = (m2 : Int)) := hID (by omega)
   have HN : Hid (qa8 T S X.length (B.take (k + 1)) X = Y2 ∧ n + (k + 1) = m2 ∧ qay T S F X.length ids.length (B.take (k + 1)) X (n : Int) = ps ++ hl.map (fun r : Nat => ((m2 : Int), (r : Int)))) := hID (by
    obtain ⟨e1, e2⟩ := quj (T := T) (S := S) (F := F) (X := X) (W := X.length) (nn := ids.length) (n := n) hbk HAT.out
    rw [e1, e2, hps, hY, hY2, HHS.out, ← hm2, ← hmm]
    exact ⟨rfl, rfl, rfl⟩)
   rw [hY, hps, hmm] at FA
   rw [hmm] at hm
   have S5 : Hid (∀ V, Off (fun j => j = tb) wc V → (fun W => (W.cell? ⟨w.heap.size, 0, none⟩ = some (.slice AI ids.length ci) ∧ W.cell? ⟨w.heap.size, 1, none⟩ = some (.int .i64 (X.length : Int)) ∧ W.cell? ⟨w.heap.size, 2, none⟩ = some VT ∧ W.cell? ⟨w.heap.size, 3, none⟩ = some VS ∧ W.cell? ⟨w.heap.size, 4, none⟩ = some VF) ∧ W.cell? ⟨bb, ob + k, none⟩ = some (.int .u8 (b : Int))) V) := hID (fun V o => by
    obtain ⟨c0, c1, c2, c3, c4, -, -⟩ := GC.out V (HOW.out V o)
    exact ⟨⟨c0, c1, c2, c3, c4⟩, HCB.out V (HB0.out.1.also (HOW.out V o))⟩)
   clear hbk hbl hbx hY hps hY2 hhl hmm hm2
   go_wp2_with fail
   refine wp_region_held_drew (S := fun W => (W.cell? ⟨w.heap.size, 0, none⟩ = some (.slice AI ids.length ci) ∧ W.cell? ⟨w.heap.size, 1, none⟩ = some (.int .i64 (X.length : Int)) ∧ W.cell? ⟨w.heap.size, 2, none⟩ = some VT ∧ W.cell? ⟨w.heap.size, 3, none⟩ = some VS ∧ W.cell? ⟨w.heap.size, 4, none⟩ = some VF) ∧ W.cell? ⟨bb, ob + k, none⟩ = some (.int .u8 (b : Int))) (by kernel_rfl) (S5.out _ (FA.out.go (Off.drew (Off.refl Nob _))).o) (fun hHeld => ?_)
   replace FA := hID (FA.out.go (Off.drew (Off.refl Nob _)))
   revert FA hHeld
   generalize wr.drew = va
   intro hHeld FA
   refine tkH 0 ?_
   refine tkH 2 ?_
   refine tkH 3 ?_
   refine tkH 4 ?_
   refine tkH 5 ?_
   refine wpAnyH_ready (rs := [1]) (by kernel_rfl) (by simp) ?_
   refine AllReadyH.cons rfl (fun K hK => ?s2005) ?m2005
   case s2005 =>
    have z0 := FA.out.y.cell 0
    have z1 := FA.out.y.cell 1
    go_simp
    refine hK.out _ _ ?_ (fun hHeld => ?_)
    ·first | with_reducible assumption | go_keep
    clear hK K
    try simp only [Act.put, qL]
    refine wpAnyH_ready (rs := [6]) (by kernel_rfl) (by simp) ?_
    refine AllReadyH.cons rfl (fun K hK => ?s2006) ?m2006
    case s2006 =>
     clear z0 z1
     go_simp
     refine (qv9 X.length HWW.out.1 HWW.out.2 T S HLT.out HSV.out.t64 HLS.out HSV.out.s64 Y HY.out.1 HY.out.2 m hm b HBB.out va _ VT VS _ _ (HSET.out _ FA.out.o).t (by rw [← HLS.out]; exact (HSET.out _ FA.out.o).s) (by have h := FA.out.r.any; rw [HY.out.1] at h; exact h)).mono ?_
     rintro e vb ⟨u, rfl, hu, o1⟩
     obtain ⟨A2, c2, rfl, -⟩ := hu.form
     have FB := hID (FA.out.go o1)
     have HU : Hid (Rd vb (fun k => w1.heap.size ≤ k ∧ k ≠ tb ∧ u11.ownBlock ≠ some k) 1 (.slice A2 X.length c2) Y2.length (qab Y2)) := hID (by
      rw [HY2.out.1.1]
      have h := hu.mono (G := fun k => w1.heap.size ≤ k ∧ k ≠ tb ∧ u11.ownBlock ≠ some k) (fun k hk => ⟨by have := FA.out.y.lt; have := HTB.out; omega, by have := FA.out.y.lt; omega, fun he => by have := (FA.out.own.lt k he).2; omega⟩)
      rwa [← qx4 HY.out.2 HSV.out.t64, HY2.out.2] at h)
     clear hu o1
     rw [HM2.out]
     have z0 := FB.out.y.cell 0
     have z1 := FB.out.y.cell 1
     have f0 := FB.out.y.frozen 0
     have f1 := FB.out.y.frozen 1
     have T1 := hID (S5.out _ FB.out.o)
     have FC := hID (FB.out.put (m2 : Int) HU.out)
     have T2 := hID (S5.out _ FC.out.o)
     clear FA HU
     go_simp
     refine hK.out _ _ ?_ (fun hHeld => ?_)
     ·first | exact T1.out | go_keep
     clear hK K
     try simp only [Act.put, qL]
     refine wpAnyH_ready (rs := [7]) (by kernel_rfl) (by simp) ?_
     refine AllReadyH.cons rfl (fun K hK => ?s2007) ?m2007
     case s2007 =>
      go_simp
      refine hK.out _ _ ?_ (fun hHeld => ?_)
      ·first | exact T2.out | go_keep
      clear hK K
      try simp only [Act.put, qL]
      refine wpAnyH_done (by kernel_rfl) ?_ _
      clear z0 z1 f0 f1 T1 T2 FB hHeld S5
      revert FC
      generalize ((vb.setCell ⟨tb, 0, none⟩ (.slice A2 X.length c2)).setCell ⟨tb, 1, none⟩ (.int .i64 (m2 : Int))) = vc
      intro FC
      obtain ⟨c0, c1, c2', c3, c4, -, -⟩ := GC.out _ (HOW.out _ FC.out.o)
      have y0 := FC.out.y.cell 0
      have y1 := FC.out.y.cell 1
      go_wp2_with fail
      refine (qwa X.length ids.length HWW.out.1 HWW.out.2 HI.out.1 HI.out.2 F HLF.out HSV.out.f64 Y2 HY2.out.1.1 HY2.out.1.2 m2 AI ci vc VT VS VF _ (HSET.out _ FC.out.o).f HSV.out.cf (by have h := FC.out.r.any; rw [HY2.out.1.1] at h; exact h)).mono ?_
      rintro e vd ⟨v, rfl, hv⟩
      rw [HHL.out] at hv
      have FD := hID (FC.out.go hv.2)
      have HV : Hid (Rd vd (fun k => w1.heap.size ≤ k ∧ k ≠ tb ∧ u11.ownBlock ≠ some k) 1 v hl.length (natsV hl)) := hID (Rd.own hv.1 (fun k hk => ⟨by have := FC.out.y.lt; have := HTB.out; have := (hv.1.lt k hk).1; omega, by have := FC.out.y.lt; have := (hv.1.lt k hk).1; omega, fun he => by have := (FC.out.own.lt k he).2; have := (hv.1.lt k hk).1; omega⟩))
      obtain ⟨AH, cH, rfl, -⟩ := HV.out.form
      clear hv FC c0 c1 c2' c3 c4 y0 y1
      go_wp2_with fail
      go_loopw [11, 14] (fun x y wq => ∃ j : Nat, j ≤ hl.length ∧ y = .int .i64 (j : Int) ∧ Fd w1.heap.size wc tb (.slice A2 X.length c2) x Y2 (m2 : Int) (ps ++ (hl.take j).map (fun r : Nat => ((m2 : Int), (r : Int)))) wq ∧ Rd wq (fun k => w1.heap.size ≤ k ∧ k ≠ tb ∧ x.ownBlock ≠ some k) 1 (.slice AH hl.length cH) hl.length (natsV hl)) (fun _ y _ => hl.length - (intOf y).toNat)
      case atStart => exact ⟨0, Nat.zero_le _, rfl, by simpa using FD.out, HV.out⟩
      case round =>
       clear FD HV
       obtain ⟨j, hj, rfl, hFd, hHV⟩ := hrel
       have FE := hID hFd
       have HVE := hID hHV
       clear hFd hHV
       by_cases hjl : j < hl.length
       ·have d1 : decide ((j : Int) < (hl.length : Int)) = true := dcT
        have d2 : decide (j < hl.length) = true := decide_eq_true hjl
        have hj16 : j ≤ 16 := by have := HHN.out; omega
        obtain ⟨p2, hp2⟩ : ∃ p2, ps ++ (hl.take j).map (fun r : Nat => ((m2 : Int), (r : Int))) = p2 := ⟨_, rfl⟩
        obtain ⟨h, hh⟩ : ∃ h, hl.getD j 0 = h := ⟨_, rfl⟩
        have HP2 : Hid (ps ++ (hl.take (j + 1)).map (fun r : Nat => ((m2 : Int), (r : Int))) = p2 ++ [((m2 : Int), (h : Int))]) := hID (by
         rw [← hp2, ← hh, qsc _ hjl, List.append_assoc])
        have HPL : Hid (p2.length ≤ 70000) := hID (by
         rw [← hp2, List.length_append, List.length_map, List.length_take]
         have := HPS.out; have := HHN.out; omega)
        rw [hp2] at FE
        obtain ⟨hb3, ho3, cc3, hee, hcc⟩ := HVE.out.cellsT (by omega)
        injection hee with hee1 hee2 hee3
        subst hee1
        clear hee2 hee3
        have HCC : Hid (∀ W, Off Nob wr W → W.cell? ⟨hb3, ho3 + j, none⟩ = some (.int .i64 (h : Int))) := hID (fun W o => by rw [← hh]; exact hcc W o _ _ (qcc hjl))
        have HHJ : Hid ((natsV hl)[j]? = some (.int .i64 (h : Int))) := hID (by rw [← hh]; exact qcc hjl)
        clear hcc hh hp2
        go_wp2_with fail
        refine wp_region_held_drew (S := fun W => W.cell? ⟨tb, 1, none⟩ = some (.int .i64 (m2 : Int)) ∧ W.cell? ⟨hb3, ho3 + j, none⟩ = some (.int .i64 (h : Int))) (by kernel_rfl) ⟨(FE.out.go (Off.drew (Off.refl Nob _))).y.cell 1, HCC.out _ (Off.drew oRf)⟩ (fun hHeld => ?_)
        have FF := hID (FE.out.go (Off.drew (Off.refl Nob _)))
        have HVF := hID (HVE.out.keep (Off.drew (Off.refl Nob _)) (fun _ _ h => h))
        have OQ : Hid (Off Nob wr wr.drew) := hID (Off.drew oRf)
        clear FE HVE
        revert FF HVF OQ hHeld
        generalize wr.drew = va
        intro hHeld FF HVF OQ
        refine tkH 0 ?_
        refine tkH 1 ?_
        refine tkH 2 ?_
        refine tkH 3 ?_
        refine tkH 4 ?_
        refine tkH 5 ?_
        refine tkH 6 ?_
        refine tkH 7 ?_
        refine wpAnyH_ready (rs := [8]) (by kernel_rfl) (by simp) ?_
        refine AllReadyH.cons rfl (fun K hK => ?s3008) ?m3008
        case s3008 =>
         go_simp
         have FG := hID (FF.out.go (Off.alloc (Off.refl Nob va) (.cells #[.int .i64 (m2 : Int), .int .i64 (h : Int)] 85)))
         have HVG := hID (HVF.out.keep (Off.alloc (Off.refl Nob va) (.cells #[.int .i64 (m2 : Int), .int .i64 (h : Int)] 85)) (fun _ _ h => h))
         have oa : Off Nob va (va.alloc (.cells #[.int .i64 (m2 : Int), .int .i64 (h : Int)] 85)) := Off.alloc (Off.refl Nob va) _
         have SG : Hid (_ ∧ _) := hID ⟨FG.out.y.cell 1, HCC.out _ (OQ.out.also oa)⟩
         clear oa FF HVF
         refine hK.out _ _ ?_ (fun hHeld => ?_)
         ·first | exact SG.out | go_keep
         clear hK K
         try simp only [Act.put, qL]
         refine wpAnyH_ready (rs := [9]) (by kernel_rfl) (by simp) ?_
         refine AllReadyH.cons rfl (fun K hK => ?s3009) ?m3009
         case s3009 =>
          refine wp_append_lies _ _ _ 46 rfl wc.heap.size 85 i_h zHit 2 16 Tryz.underlying46 h_h z_h s_h b_h rfl (by decide) u11 p2.length (qa6 p2) rfl FG.out.own ⟨va.heap.size, 0, none⟩ 1 1 [.int .i64 (m2 : Int), .int .i64 (h : Int)] rfl rfl ?c1 ?c2 (by decide) ?c3 ?c4 ?c5 _ rfl ?_
          case c1 => exact ql6 _ _ _ _
          case c2 => intro u hu; simp at hu; rcases hu with rfl | rfl <;> rfl
          case c3 => unfold maxLen; have := HPL.out; omega
          case c4 => have := HPL.out; omega
          case c5 => have := FG.out.o.size; exact this
          intro gi2 ci3 vz oW gW hat hlt
          have hat2 : (Value.slice (some ⟨gi2, 0, none⟩) (p2.length + 1) ci3).ownBlock = u11.ownBlock ∨ (Value.slice (some ⟨gi2, 0, none⟩) (p2.length + 1) ci3).ownBlock = some (va.alloc (.cells #[.int .i64 (m2 : Int), .int .i64 (h : Int)] 85)).heap.size := hat.elim (fun e => .inl e.symm) (fun e => .inr (by rw [e]; rfl))
          have FH : Hid (Fd w1.heap.size wc tb (.slice A2 X.length c2) (.slice (some ⟨gi2, 0, none⟩) (p2.length + 1) ci3) Y2 (m2 : Int) (p2 ++ [((m2 : Int), (h : Int))]) vz) := hID (FG.out.grown oRf (by
           have e : qa6 (p2 ++ [((m2 : Int), (h : Int))]) = qa6 p2 ++ [.int .i64 (m2 : Int), .int .i64 (h : Int)] := by simp [qa6]
           rw [e, List.length_append]; exact oW) gW hat2)
          have HVH := hID (HVG.out.beside gW hat2)
          have SH : Hid (_ ∧ _) := hID ⟨FH.out.y.cell 1, qzl HVH.out HHJ.out⟩
          clear oW gW hat hat2 hlt FG HVG
          refine hK.out _ _ ?_ (fun hHeld => ?_)
          ·first | exact SH.out | go_keep
          clear hK K
          try simp only [Act.put, qL]
          refine tkH 10 ?_
          refine wpAnyH_done (by kernel_rfl) ?_ _
          clear hHeld
          go_wp2_with fail
          go_roundw
          case rel => exact ⟨j + 1, hjl, by go_num, by rw [HP2.out]; exact FH.out, HVH.out⟩
          case measure => simp [intOf]; omega
         exact AllReadyH.nil
        exact AllReadyH.nil
       ·obtain rfl : j = hl.length := by omega
        have d1 : decide ((hl.length : Int) < (hl.length : Int)) = false := dcF
        rw [List.take_length] at FE
        go_wp2_with fail
        go_roundw
        case rel => exact ⟨k + 1, hkl, by go_num, _, by rw [HN.out.1, HN.out.2.1, HN.out.2.2]; exact FE.out⟩
        case measure => simp [intOf]; omega
     exact AllReadyH.nil
    exact AllReadyH.nil
   exact AllReadyH.nil
  ·obtain rfl : k = B.length := by omega
   have d3 : decide ((B.length : Int) < (B.length : Int)) = false := dcF
   rw [List.take_length] at FA
   obtain ⟨AR, cR, hRV, -⟩ := FA.out.r.form
   subst hRV
   rw [qcf T S X.length B X rfl] at FA
   have HY : Hid (Blk wr (w.heap.size + 1 + 1) 27 #[.slice none 0 0, .int .i64 0]) := hID (HB0.out.2.2.2.2.to ((HOW.out _ FA.out.o).block _ HB0.out.2.2.2.2.lt id))
   have f0 := HY.out.frozen 0
   have f1 := HY.out.frozen 1
   have z0 := HY.out.cell 0
   have z1 := HY.out.cell 1
   have y0 := FA.out.y.cell 0
   have y1 := FA.out.y.cell 1
   have HAV : Hid (((n + B.length : Nat) : Int) = atV B (n : Int)) := hID (by rw [qnz B (n : Int) (by omega) HAT.out]; push_cast; rfl)
   have HSL : Hid ((qa8 T S X.length B X).length = X.length) := hID (qcf _ _ _ _ _ rfl)
   rw [HAV.out] at FA y1
   clear HAV
   go_wp2_with fail
   have XE := hID ((HY.out.put 0 (.slice AR X.length cR)).put 1 (.int .i64 (atV B (n : Int))))
   have oe : Off (fun j => j = w.heap.size + 1 + 1) wr ((wr.setCell ⟨w.heap.size + 1 + 1, 0, none⟩ (.slice AR X.length cR)).setCell ⟨w.heap.size + 1 + 1, 1, none⟩ (.int .i64 (atV B (n : Int)))) := Off.put (F := fun j => j = w.heap.size + 1 + 1) (Off.put (F := fun j => j = w.heap.size + 1 + 1) oRf (.inl rfl) _) (.inl rfl) _
   have hsz := HB0.out.2.2.2.1
   have hsz1 := O1.out.size
   have hsz2 := HO.out.size
   have hsz3 := HB0.out.1.size
   exact bodyPost_ret (qak rfl _ _ _ _ _ (0, 0) _ rfl XE.out Tryz.underlying27 rfl Tryz.infoSs) rfl ⟨_, rfl, _, _, rfl, (FA.out.r.keep oe (fun k hk he => by omega)).mono (G := fun k => w.heap.size ≤ k) (fun k hk => by omega), (Rd.own FA.out.own (F := fun k => wc.heap.size ≤ k) (fun k hk => (FA.out.own.lt k hk).1) |>.keep oe (fun k hk he => by omega)).mono (fun k hk => by omega), ((Lies.of' ((HB0.out.1.also (HOW.out _ FA.out.o)))).put (by show w.heap.size ≤ w.heap.size + 1 + 1; omega) _).put (by show w.heap.size ≤ w.heap.size + 1 + 1; omega) _⟩
end
section
open Go.RowKit
theorem qkg (ids : List Int) (Wd : Int) (T S F X B : List Nat) (at_ : Int) (w : World) (VI VT VS VF XV BVv : Value)
  (hX64 : ∀ x ∈ X, x < 18446744073709551616) (hsv : SetV w VI VT VS VF ids Wd T S F) (hxv : Rd w (fun _ => True) 1 XV X.length (qab X))
  (hB256 : ∀ b ∈ B, b < 256) (hb : Rd w (fun _ => True) 1 BVv B.length (qbw B)) :
  Calls Tryz.prog 25 #[.agg #[VI, .int .i64 Wd, VT, VS, VF], .agg #[XV, .int .i64 at_], BVv] w (fun e w' => ∃ v, e = .returned v ∧ qd3 w (fdRow ids Wd T S F X B at_) (fdAt ids Wd T S F X B at_) (qbx ids Wd T S F X B at_) (fdErr ids Wd T S F X at_ B.length) v w') := by
 by_cases h0 : shErr ids Wd T S F X at_ = 0
 ·by_cases h1 : 4096 < B.length
  ·have e : fdErr ids Wd T S F X at_ B.length = 3 := by unfold fdErr; rw [if_neg (by rw [h0]; decide), if_pos h1]
   rw [fdRow, fdAt, qbx, e, if_neg (by decide), if_neg (by decide), if_neg (by decide)]
   obtain ⟨bp, bcap, rfl, _⟩ := hb.form
   exact qo4 ids Wd T S F X at_ w VI VT VS VF XV h0 bp B.length bcap h1 hX64 hsv hxv
  ·by_cases h2 : 1000000000 < at_ + (B.length : Int)
   ·have e : fdErr ids Wd T S F X at_ B.length = 9 := by unfold fdErr; rw [if_neg (by rw [h0]; decide), if_neg h1, if_pos h2]
    rw [fdRow, fdAt, qbx, e, if_neg (by decide), if_neg (by decide), if_neg (by decide)]
    obtain ⟨bp, bcap, rfl, _⟩ := hb.form
    exact qo5 ids Wd T S F X at_ w VI VT VS VF XV h0 bp B.length bcap (by omega) h2 hX64 hsv hxv
   ·have e : fdErr ids Wd T S F X at_ B.length = 0 := by unfold fdErr; rw [if_neg (by rw [h0]; decide), if_neg h1, if_neg h2]
    rw [fdRow, fdAt, qbx, e, if_pos rfl, if_pos rfl, if_pos rfl]
    exact (quk ids Wd T S F X at_ w VI VT VS VF XV h0 B hB256 BVv hb (by omega) (by omega) hX64 hsv hxv)
 ·have e : fdErr ids Wd T S F X at_ B.length = shErr ids Wd T S F X at_ := by unfold fdErr; rw [if_pos h0]
  rw [fdRow, fdAt, qbx, e, if_neg h0, if_neg h0, if_neg h0]
  exact qsd ids Wd T S F X at_ w VI VT VS VF XV _ rfl h0 BVv hX64 hsv hxv
theorem r_run (ids : List Int) (Wd : Int) (T S F B : List Nat) (w : World) (VI VT VS VF BVv : Value) (hsv : SetV w VI VT VS VF ids Wd T S F) (hB256 : ∀ b ∈ B, b < 256) (hb : Rd w (fun _ => True) 1 BVv B.length (qbw B)) :
  Calls Tryz.prog 28 #[.agg #[VI, .int .i64 Wd, VT, VS, VF], BVv] w (fun e w' => ∃ v, e = .returned v ∧ qt9 w (qb8 ids Wd T S F B) (ruErr ids Wd T S F B.length) v w') := by
 obtain ⟨bp, bcap, rfl, _⟩ := hb.form
 have HST := hID (fun (V : World) (l : Lies w V) => qo3 ids Wd T S F V VI VT VS VF (l.set hsv))
 have HFE := hID (fun (V : World) (l : Lies w V) (XV : Value) (hx : Rd V (fun _ => True) 1 XV (qat ids Wd T S F).length (qab (qat ids Wd T S F))) => qkg ids Wd T S F (qat ids Wd T S F) B 0 V VI VT VS VF XV _ (by
  intro x hx
  unfold qat at hx
  split at hx
  ·rw [List.mem_replicate] at hx; omega
  ·simp at hx) (l.set hsv) hx hB256 (l.rd hb))
 clear hsv hB256 hb
 have L0 : Hid (Lies w (w.alloc (.cells #[VI, .int .i64 Wd, VT, VS, VF] 25)) ∧ Blk (w.alloc (.cells #[VI, .int .i64 Wd, VT, VS, VF] 25)) w.heap.size 25 #[VI, .int .i64 Wd, VT, VS, VF]) := hID ⟨(Lies.refl w).alloc _, Blk.new _ _ _⟩
 go_enter Tryz.func28, Tryz.ntmps28
 go_wp2_with fail
 obtain ⟨HL0, HS0⟩ := L0.out
 clear L0
 revert HL0 HS0
 generalize (w.alloc (.cells #[VI, .int .i64 Wd, VT, VS, VF] 25)) = u0
 intro HL0 HS0
 have HLV := hID HL0
 have HSV := hID HS0
 have c0 := HS0.cell 0
 have c1 := HS0.cell 1
 have c2 := HS0.cell 2
 have c3 := HS0.cell 3
 have c4 := HS0.cell 4
 clear HL0 HS0
 go_wp2_with fail
 refine (HST.out _ HLV.out).mono ?_
 rintro e u1 ⟨XV, rfl, hr, l1⟩
 obtain ⟨AX, cx, rfl, _⟩ := hr.form
 have HX := hID hr.any
 have HL1 := hID (HLV.out.trans l1)
 have HS1 := hID (l1.blk HSV.out)
 clear hr l1 HLV HSV c0 c1 c2 c3 c4 HST
 obtain ⟨er, her⟩ : ∃ er, qaf ids Wd T S F = er := ⟨_, rfl⟩
 have HER := hID her
 rw [her]
 clear her
 obtain ⟨nx, hnx⟩ : ∃ nx, (qat ids Wd T S F).length = nx := ⟨_, rfl⟩
 have HNX := hID hnx
 rw [hnx]
 rw [hnx] at HX
 clear hnx
 have HX2 := hID (((Lies.refl u1).alloc (.cells #[.slice AX nx cx, .int .i64 0] 27)).rd HX.out)
 have HL2 := hID (HL1.out.alloc (.cells #[.slice AX nx cx, .int .i64 0] 27))
 have HS2 := hID (HS1.out.alloc (.cells #[.slice AX nx cx, .int .i64 0] 27))
 have HB2 := hID (Blk.new u1 27 #[.slice AX nx cx, .int .i64 0])
 clear HX HL1 HS1
 by_cases hz : er = 0
 ·have dz : (er != 0) = false := by rw [hz]; rfl
  have HRR : Hid (ruErr ids Wd T S F B.length = fdErr ids Wd T S F (qat ids Wd T S F) 0 B.length ∧ qb8 ids Wd T S F B = qbx ids Wd T S F (qat ids Wd T S F) B 0) := hID (by unfold ruErr qb8; rw [HER.out, hz, if_neg (by decide), if_neg (by decide)]; exact ⟨rfl, rfl⟩)
  clear hz
  have c0 := HS2.out.cell 0
  have c1 := HS2.out.cell 1
  have c2 := HS2.out.cell 2
  have c3 := HS2.out.cell 3
  have c4 := HS2.out.cell 4
  have x0 := HB2.out.cell 0
  have x1 := HB2.out.cell 1
  go_wp2_with fail
  clear c0 c1 c2 c3 c4 x0 x1 HS2 HB2
  revert HX2 HL2
  generalize u1.heap.size = xB
  generalize u1.alloc _ = u2
  intro HX2 HL2
  refine (HFE.out _ HL2.out _ (by rw [HNX.out]; exact HX2.out)).mono ?_
  rintro e u5 ⟨v, rfl, u, out, rfl, hu, hout, l5⟩
  obtain ⟨Au, cu, rfl, _⟩ := hu.form
  obtain ⟨Ao, co, rfl, _⟩ := hout.form
  have HL5 := hID (HL2.out.trans l5)
  have hsz := HL2.out.size
  have HOU := hID (hout.mono (G := fun k => w.heap.size ≤ k) (fun k hk => Nat.le_trans hsz hk))
  clear hu hout l5 hsz HL2 HX2 HFE
  revert HOU HRR
  generalize fdErr ids Wd T S F (qat ids Wd T S F) 0 B.length = e2
  generalize qbx ids Wd T S F (qat ids Wd T S F) B 0 = ps
  generalize (fdRow ids Wd T S F (qat ids Wd T S F) B 0).length = n2
  generalize fdAt ids Wd T S F (qat ids Wd T S F) B 0 = at2
  intro HRR HOU
  go_wp2_with fail
  go_ret2
  exact ⟨_, rfl, _, by rw [HRR.out.1]; rfl, by rw [HRR.out.2]; exact ((Lies.refl u5).alloc _).rd HOU.out, HL5.out.alloc _⟩
 ·have dz : (er != 0) = true := by rw [bne_iff_ne]; exact hz
  have HRR : Hid (ruErr ids Wd T S F B.length = er ∧ qb8 ids Wd T S F B = []) := hID (by unfold ruErr qb8; rw [HER.out, if_pos hz, if_pos hz]; exact ⟨rfl, rfl⟩)
  clear hz HX2 HS2 HB2 HFE
  go_wp2_with fail
  go_ret2
  exact ⟨_, rfl, _, by rw [HRR.out.1]; rfl, by rw [HRR.out.2]; exact Rd.nil _ _ _, HL2.out⟩
end
end Go.Proofs.YtlgjaefcfnndhaaGreatDoor
