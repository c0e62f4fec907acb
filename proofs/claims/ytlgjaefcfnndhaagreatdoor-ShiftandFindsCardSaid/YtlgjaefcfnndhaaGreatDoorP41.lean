/-
 dragnetref17.Pack in general.
-/
import Derived.Test.YtlgjaefcfnndhaaGreatDoorP40
import Derived.Test.YtlgjaefcfnndhaaGreatDoorP37
import Derived.Test.YtlgjaefcfnndhaaGreatDoorP27
import Derived.Test.YtlgjaefcfnndhaaGreatDoorP24
import Derived.Test.YtlgjaefcfnndhaaGreatDoorP16
import Derived.Test.YtlgjaefcfnndhaaGreatDoorP29
import Derived.Test.YtlgjaefcfnndhaaGreatDoorP31
set_option linter.unusedVariables false
set_option linter.unusedSimpArgs false
set_option maxHeartbeats 16000000
set_option maxRecDepth 100000
namespace Go.Proofs.YtlgjaefcfnndhaaGreatDoor
section
open Go.RowKit
theorem qkt (i : Nat) : ∀ (R : List (List Q4)) (n : Nat) (L : List Q4), packR i n (R ++ [L]) = packR i n R ++ [(i, n + qah R, L.length)]
 | [], n, L => by simp [packR, qah]
 | X :: R, n, L => by simp only [List.cons_append, packR, qkt i R (n + X.length) L, qf1, Nat.add_assoc]
theorem qku : ∀ (Rs : List (List (List Q4))) (i n : Nat) (R : List (List Q4)), packL i n (Rs ++ [R]) = packL i n Rs ++ packR (i + Rs.length) (n + qaj Rs) R
 | [], i, n, R => by simp [packL, qaj]
 | X :: Rs, i, n, R => by
  simp only [List.cons_append, packL, qku Rs (i + 1) (n + qah X) R, qf2, List.length_cons, List.append_assoc]
  rw [show i + 1 + Rs.length = i + (Rs.length + 1) by omega, Nat.add_assoc]
theorem qib (i : Nat) : ∀ (R : List (List Q4)) (n : Nat), (packR i n R).length = R.length
 | [], n => rfl
 | X :: R, n => by simp [packR, qib i R]
theorem qfp : ∀ (Rs : List (List (List Q4))) (i n : Nat), (∀ R ∈ Rs, R.length ≤ 64) → (packL i n Rs).length ≤ Rs.length * 64
 | [], i, n, _ => Nat.zero_le _
 | X :: Rs, i, n, h => by
  have h1 := h X (by simp)
  have h2 := qfp Rs (i + 1) (n + qah X) (fun R hR => h R (List.mem_cons_of_mem _ hR))
  have e : (Rs.length + 1) * 64 = Rs.length * 64 + 64 := Nat.succ_mul _ _
  simp only [packL, List.length_append, qib, List.length_cons, e]
  omega
theorem qf3 (R : List (List Q4)) (L : List Q4) : qah (R ++ [L]) = qah R + L.length := by simp [qah]
theorem qd6 (Rs : List (List (List Q4))) (R : List (List Q4)) : qaj (Rs ++ [R]) = qaj Rs + qah R := by simp [qaj, qah]
theorem qi6 (R : List (List Q4)) (k : Nat) : qah (R.take k) ≤ qah R := by
 have e : qah R = qah (R.take k) + qah (R.drop k) := by
  unfold qah
  rw [← List.length_append, ← List.flatten_append, List.take_append_drop]
 omega
theorem qf4 (Rs : List (List (List Q4))) (k : Nat) : qaj (Rs.take k) ≤ qaj Rs := by
 have e : qaj Rs = qaj (Rs.take k) + qaj (Rs.drop k) := by
  unfold qaj
  rw [← List.length_append, ← List.flatten_append, ← List.flatten_append, List.take_append_drop]
 omega
def GoodR (R : List (List Q4)) : Prop := R ≠ [] ∧ (∀ L ∈ R, L ≠ []) ∧ R.length ≤ 64
def OkPk (Rs : List (List (List Q4))) : Prop := PackOk Rs ∧ ∀ R ∈ Rs, R.length ≤ 64
structure RulesB (Rs : List (List (List Q4))) : Prop where
 all : Rs.length ≤ 60
 r : ∀ R ∈ Rs, R.length ≤ 1000000 ∧ ∀ L ∈ R, L.length ≤ 1024
def PackR (w : World) (Rs : List (List (List Q4))) (e : Ending) (w' : World) : Prop := ∃ (W : Int) (A : Option Addr) (n c : Nat) (i x : Int), e = .returned (.tuple #[.agg #[.int .i64 W, .slice A n c], .int .i64 i, .int .i64 x]) ∧ Off Nob w w' ∧ (x = 0 ↔ OkPk Rs) ∧ (x = 0 → W = ((max ((qaj Rs + 63) / 64) 1 : Nat) : Int) ∧ n = (packL 0 0 Rs).length ∧ Rd w' (fun k => w.heap.size ≤ k) 3 (.slice A n c) n (lnV (packL 0 0 Rs)))
theorem qv1 {w1 wr : World} {pb W : Nat} {x : Value} {acc : List Ln} (Q : Qst w1 pb W x acc wr) (a b c : Nat) (hn : acc.length ≤ 999999) :
  ∃ A k w', (Builtin.append_ #[39, 39] 39 #[x, .slice (some ⟨wr.heap.size, 0, none⟩) 1 1]).run Tryz.prog (wr.alloc (.cells #[.int .i64 (a : Int), .int .i64 (b : Int), .int .i64 (c : Int)] 43)) = .ok (.slice A (acc.length + 1) k) w' ∧ Off Nob w1 w' ∧ Blk w' pb 62 #[.int .i64 W, x] ∧ Qst w1 pb W (.slice A (acc.length + 1) k) (acc ++ [(a, b, c)]) (w'.setCell ⟨pb, 1, none⟩ (.slice A (acc.length + 1) k)) := by
 obtain ⟨i0, h0, z0, s0, b0⟩ := info_parts Tryz.infoLa
 have Q2 := Q.go (oAl (Off.refl Nob wr) (.cells #[.int .i64 (a : Int), .int .i64 (b : Int), .int .i64 (c : Int)] 43))
 obtain ⟨x', w', r, own', g', -⟩ := qge Tryz.underlying39 h0 z0 s0 b0 rfl (by decide) _ (pb + 1) Q2.own (qoo wr [.int .i64 (a : Int), .int .i64 (b : Int), .int .i64 (c : Int)] 43 1 3 rfl (by unfold maxLen; omega)) (by intro u hu; simp at hu; rcases hu with rfl | rfl | rfl <;> rfl) (by omega) (by decide) Q2.blk.lt
 have own2 : w'.ownsRow (pb + 1) 43 3 x' (acc ++ [(a, b, c)]).length (lnV (acc ++ [(a, b, c)])) := by rw [List.length_append, qgu]; exact own'
 have hf : ∃ A k, x' = .slice A (acc.length + 1) k := by
  rcases own'.2 with ⟨hx, h0⟩ | ⟨g, cap, cur, hv, _⟩
  ·omega
  ·exact ⟨_, _, hv⟩
 obtain ⟨A, k, rfl⟩ := hf
 exact ⟨A, k, w', r, (Q2.gone g').1, (Q2.gone g').2, Q2.grow g' own2⟩
theorem qv2 (Rs : List (List (List Q4))) (hb : RulesB Rs) (w : World) (v : Value) (hv : RdLs (RdLs EQ) w (fun _ => True) v Rs) : Calls Tryz.prog 57 #[v] w (PackR w Rs) := by
 have HB := hID hb
 have HV := hID hv
 obtain ⟨A, c, rfl⟩ := hv.form
 obtain ⟨m, hm⟩ : ∃ n, Rs.length = n := ⟨_, rfl⟩
 have HM := hID hm
 have hm60 : m ≤ 60 := by rw [← hm]; exact hb.all
 rw [hm] at HV ⊢
 clear hv hb hm
 go_enter Tryz.func57, Tryz.ntmps57
 have X2 : Hid (Off Nob w ((w.alloc (.cells #[.int .i64 0, .slice none 0 0] 62)).alloc (.cells #[.int .i64 0, .slice none 0 0] 62))) := hID (oAl (oAl oRf _) _)
 have HBR : Hid (∀ V, Off Nob ((w.alloc (.cells #[.int .i64 0, .slice none 0 0] 62)).alloc (.cells #[.int .i64 0, .slice none 0 0] 62)) V → Blk V w.heap.size 62 #[.int .i64 0, .slice none 0 0]) := hID (fun V oV => by
  have h := (Blk.new w 62 #[.int .i64 0, .slice none 0 0]).alloc (.cells #[.int .i64 0, .slice none 0 0] 62)
  exact h.to (oV.block _ h.lt id))
 have HBN : Hid (∀ V, Off Nob ((w.alloc (.cells #[.int .i64 0, .slice none 0 0] 62)).alloc (.cells #[.int .i64 0, .slice none 0 0] 62)) V → Blk V (w.heap.size + 1) 62 #[.int .i64 0, .slice none 0 0]) := hID (fun V oV => by
  have h := Blk.new (w.alloc (.cells #[.int .i64 0, .slice none 0 0] 62)) 62 #[.int .i64 0, .slice none 0 0]
  have h2 := h.to (oV.block _ h.lt id)
  simpa using h2)
 have HW2 : Hid (((w.alloc (.cells #[.int .i64 0, .slice none 0 0] 62)).alloc (.cells #[.int .i64 0, .slice none 0 0] 62)).heap.size = w.heap.size + 1 + 1) := hID (by simp)
 by_cases h0 : m = 0
 ·have dm : ((m : Int) == 0) = true := by simp [h0]
  have dmd : decide ((m : Int) = 0) = true := by simp [h0]
  have dmn : decide (m = 0) = true := dT h0
  have HM0 := hID h0
  clear h0
  have NOK : Hid (¬ OkPk Rs) := hID (fun h => h.1.ne (List.eq_nil_of_length_eq_zero (HM.out.trans HM0.out)))
  have BR := hID (HBR.out ((w.alloc (.cells #[.int .i64 0, .slice none 0 0] 62)).alloc (.cells #[.int .i64 0, .slice none 0 0] 62)) oRf)
  have BN := hID (HBN.out ((w.alloc (.cells #[.int .i64 0, .slice none 0 0] 62)).alloc (.cells #[.int .i64 0, .slice none 0 0] 62)) oRf)
  have nz0 := BN.out.cell 0
  have nz1 := BN.out.cell 1
  have rz0 := BR.out.cell 0
  have rz1 := BR.out.cell 1
  simp only [qG] at nz0 nz1 rz0 rz1
  have rf0 := BR.out.frozen 0
  have rf1 := BR.out.frozen 1
  go_wp2_with fail
  exact bodyPost_ret (qae rfl _ _ _ _ _ (0, 0) _ rfl BR.out Tryz.underlying62 rfl Tryz.infoLp) rfl ⟨0, none, 0, 0, 0, 6, rfl, X2.out, ⟨fun h => absurd h (by decide), fun h => absurd h NOK.out⟩, fun h => absurd h (by decide)⟩
 ·have dm : ((m : Int) == 0) = false := by simp [h0]
  have dmd : decide ((m : Int) = 0) = false := by simp [h0]
  have dmn : decide (m = 0) = false := dF h0
  have HM1 := hID h0
  clear h0
  by_cases h16 : 16 < m
  ·have dg : decide ((16 : Int) < (m : Int)) = true := dcT
   have dgn : decide (16 < m) = true := dT h16
   have HM0 := hID h16
   clear h16
   have NOK : Hid (¬ OkPk Rs) := hID (fun h => by have h1 := h.1.le; have h2 := HM0.out; have h3 := HM.out; omega)
   have BR := hID (HBR.out ((w.alloc (.cells #[.int .i64 0, .slice none 0 0] 62)).alloc (.cells #[.int .i64 0, .slice none 0 0] 62)) oRf)
   have BN := hID (HBN.out ((w.alloc (.cells #[.int .i64 0, .slice none 0 0] 62)).alloc (.cells #[.int .i64 0, .slice none 0 0] 62)) oRf)
   have nz0 := BN.out.cell 0
   have nz1 := BN.out.cell 1
   have rz0 := BR.out.cell 0
   have rz1 := BR.out.cell 1
   simp only [qG] at nz0 nz1 rz0 rz1
   have rf0 := BR.out.frozen 0
   have rf1 := BR.out.frozen 1
   go_wp2_with fail
   exact bodyPost_ret (qae rfl _ _ _ _ _ (0, 0) _ rfl BR.out Tryz.underlying62 rfl Tryz.infoLp) rfl ⟨0, none, 0, 0, 0, 3, rfl, X2.out, ⟨fun h => absurd h (by decide), fun h => absurd h NOK.out⟩, fun h => absurd h (by decide)⟩
  ·have dg : decide ((16 : Int) < (m : Int)) = false := dcF
   have dgn : decide (16 < m) = false := dF h16
   have HM0 := hID h16
   have hm16 : m ≤ 16 := by omega
   clear h16
   go_wp2_with fail
   have HQ0 : Hid (Qst ((w.alloc (.cells #[.int .i64 0, .slice none 0 0] 62)).alloc (.cells #[.int .i64 0, .slice none 0 0] 62)) (w.heap.size + 1 + 1) 0 (.slice none 0 0) [] (((w.alloc (.cells #[.int .i64 0, .slice none 0 0] 62)).alloc (.cells #[.int .i64 0, .slice none 0 0] 62)).alloc (.cells #[.int .i64 0, .slice none 0 0] 62))) := hID ⟨oAl oRf _, by
    have h := Blk.new ((w.alloc (.cells #[.int .i64 0, .slice none 0 0] 62)).alloc (.cells #[.int .i64 0, .slice none 0 0] 62)) 62 #[.int .i64 0, .slice none 0 0]
    rw [HW2.out] at h
    exact h, World.ownsRow_nil _ _ _ _, by rw [HW2.out]; exact Nat.le_refl _⟩
   revert X2 HBR HBN HW2 HQ0
   generalize ((w.alloc (.cells #[.int .i64 0, .slice none 0 0] 62)).alloc (.cells #[.int .i64 0, .slice none 0 0] 62)).alloc (.cells #[.int .i64 0, .slice none 0 0] 62) = w3
   generalize ((w.alloc (.cells #[.int .i64 0, .slice none 0 0] 62)).alloc (.cells #[.int .i64 0, .slice none 0 0] 62)) = w2
   intro X2 HBR HBN HW2 HQ0
   go_loopw [7, 8] (fun z q wr => ∃ (i : Nat) (x : Value), i ≤ m ∧ q = .int .i64 (i : Int) ∧ z = .int .i64 (qaj (Rs.take i) : Int) ∧ Qst w2 (w.heap.size + 1 + 1) 0 x (packL 0 0 (Rs.take i)) wr ∧ (∀ R ∈ Rs.take i, GoodR R) ∧ qaj (Rs.take i) ≤ 256) (fun _ q _ => m - (intOf q).toNat)
   case atStart => exact ⟨0, _, Nat.zero_le _, rfl, rfl, HQ0.out, fun R h => by simp at h, by simp [qaj]⟩
   case round =>
    obtain ⟨i, x, hi, rfl, rfl, hq, hgd, htl⟩ := hrel
    obtain ⟨wa, rfl⟩ : ∃ z, z = wr := ⟨wr, rfl⟩
    have HQ := hID hq
    have HO := hID hq.off
    have HGD := hID hgd
    have HTL := hID htl
    clear hq hgd htl HQ0
    by_cases him : i < m
    ·have d1 : decide ((i : Int) < (m : Int)) = true := dcT
     have d1n : decide (i < m) = true := dT him
     have HIM := hID him
     have hi16 : i < 16 := by omega
     obtain ⟨R, hR⟩ : ∃ R, Rs[i]? = some R := ⟨_, gEe (by rw [HM.out]; exact him)⟩
     have HMR := hID (List.mem_of_getElem? hR)
     have HTR : Hid (Rs.take (i + 1) = Rs.take i ++ [R]) := hID (by rw [List.take_add_one, hR]; rfl)
     rw [← HM.out] at HV
     obtain ⟨b, o, cc, u, he, hac, hue⟩ := HV.out.at_ (qak lasts_EQ) hR
     injection he with he1 he2 he3
     subst he1
     clear he2 he3
     rw [HM.out] at HV
     obtain ⟨AU, cu, rfl⟩ := hue.form
     have HUE := hID hue
     have hrb := (HB.out.r R HMR.out).1
     obtain ⟨r, hr⟩ : ∃ r, R.length = r := ⟨_, rfl⟩
     rw [hr] at HUE hac hrb
     have HR := hID hr
     have HAC := hID (fun (V : World) (oV : Off Nob w2 V) => hac V Nob (X2.out.also oV) (fun _ _ h => h))
     have hrb2 := hID hrb
     have ck := HAC.out wa HO.out
     clear hR hac hue hr
     by_cases hr0 : r = 0
     ·have dm : ((r : Int) == 0) = true := by simp [hr0]
      have dmd : decide ((r : Int) = 0) = true := by simp [hr0]
      have dmn : decide (r = 0) = true := dT hr0
      have HR0 := hID hr0
      clear hr0
      have NOK : Hid (¬ OkPk Rs) := hID (fun h => (h.1.rules R HMR.out).1 (List.eq_nil_of_length_eq_zero (HR.out.trans HR0.out)))
      have BR := hID (HBR.out wa HO.out)
      have BN := hID (HBN.out wa HO.out)
      have nz0 := BN.out.cell 0
      have nz1 := BN.out.cell 1
      have rz0 := BR.out.cell 0
      have rz1 := BR.out.cell 1
      simp only [qG] at nz0 nz1 rz0 rz1
      have rf0 := BR.out.frozen 0
      have rf1 := BR.out.frozen 1
      go_wp2_with fail
      have RR : Blk ((wa.setCell ⟨w.heap.size, 0, none⟩ (.int .i64 0)).setCell ⟨w.heap.size, 1, none⟩ (.slice none 0 0)) w.heap.size 62 #[.int .i64 0, .slice none 0 0] := (BR.out.put 0 _).put 1 _
      have RO : Off Nob w ((wa.setCell ⟨w.heap.size, 0, none⟩ (.int .i64 0)).setCell ⟨w.heap.size, 1, none⟩ (.slice none 0 0)) := ((X2.out.also HO.out).put (p := ⟨w.heap.size, 0, none⟩) (.inr (Nat.le_refl _)) _).put (p := ⟨w.heap.size, 1, none⟩) (.inr (Nat.le_refl _)) _
      exact bodyPost_ret (qae rfl _ _ _ _ _ (0, 0) _ rfl RR Tryz.underlying62 rfl Tryz.infoLp) rfl ⟨0, none, 0, 0, i, 6, rfl, RO, ⟨fun h => absurd h (by decide), fun h => absurd h NOK.out⟩, fun h => absurd h (by decide)⟩
     ·have dm : ((r : Int) == 0) = false := by simp [hr0]
      have dmd : decide ((r : Int) = 0) = false := by simp [hr0]
      have dmn : decide (r = 0) = false := dF hr0
      have HR0 := hID hr0
      clear hr0
      go_wp2_with fail
      go_loopw [9] (fun q wr => ∃ k : Nat, k ≤ r ∧ q = .int .i64 (k : Int) ∧ Off Nob wa wr ∧ ∀ L ∈ R.take k, L ≠ []) (fun q _ => r - (intOf q).toNat)
      case atStart => exact ⟨0, Nat.zero_le _, rfl, Off.refl _ _, fun L h => by simp at h⟩
      case round =>
       obtain ⟨k, hk, rfl, ho, hne⟩ := hrel
       obtain ⟨wb, rfl⟩ : ∃ z, z = wr := ⟨wr, rfl⟩
       have HO1 := hID ho
       have HNE := hID hne
       have OB := hID (HO.out.also ho)
       clear ho hne ck
       have ck := HAC.out wb OB.out
       by_cases hkr : k < r
       ·have d2 : decide ((k : Int) < (r : Int)) = true := dcT
        have d2n : decide (k < r) = true := dT hkr
        have HKR := hID hkr
        obtain ⟨L, hL⟩ : ∃ L, R[k]? = some L := ⟨_, gEe (by rw [HR.out]; exact hkr)⟩
        have HML := hID (List.mem_of_getElem? hL)
        have HTK : Hid (R.take (k + 1) = R.take k ++ [L]) := hID (by rw [List.take_add_one, hL]; rfl)
        rw [← HR.out] at HUE
        obtain ⟨b2, o2, cc2, u2, he, hac2, hue2⟩ := HUE.out.at_ lasts_EQ hL
        injection he with he1 he2 he3
        subst he1
        clear he2 he3
        rw [HR.out] at HUE
        obtain ⟨AL, cL, rfl⟩ := RdL.form hue2
        have ck2 := hac2 wb Nob (X2.out.also OB.out) (fun _ _ h => h)
        obtain ⟨l, hl⟩ : ∃ l, L.length = l := ⟨_, rfl⟩
        rw [hl] at ck2
        have HL := hID hl
        clear hac2 hue2 hL hl
        by_cases hl0 : l = 0
        ·have dl : ((l : Int) == 0) = true := by simp [hl0]
         have dld : decide ((l : Int) = 0) = true := by simp [hl0]
         have dln : decide (l = 0) = true := dT hl0
         have HL0 := hID hl0
         clear hl0
         have NOK : Hid (¬ OkPk Rs) := hID (fun h => (h.1.rules R HMR.out).2 L HML.out (List.eq_nil_of_length_eq_zero (HL.out.trans HL0.out)))
         have BR := hID (HBR.out wb OB.out)
         have BN := hID (HBN.out wb OB.out)
         have nz0 := BN.out.cell 0
         have nz1 := BN.out.cell 1
         have rz0 := BR.out.cell 0
         have rz1 := BR.out.cell 1
         simp only [qG] at nz0 nz1 rz0 rz1
         have rf0 := BR.out.frozen 0
         have rf1 := BR.out.frozen 1
         go_wp2_with fail
         have RR : Blk ((wb.setCell ⟨w.heap.size, 0, none⟩ (.int .i64 0)).setCell ⟨w.heap.size, 1, none⟩ (.slice none 0 0)) w.heap.size 62 #[.int .i64 0, .slice none 0 0] := (BR.out.put 0 _).put 1 _
         have RO : Off Nob w ((wb.setCell ⟨w.heap.size, 0, none⟩ (.int .i64 0)).setCell ⟨w.heap.size, 1, none⟩ (.slice none 0 0)) := ((X2.out.also OB.out).put (p := ⟨w.heap.size, 0, none⟩) (.inr (Nat.le_refl _)) _).put (p := ⟨w.heap.size, 1, none⟩) (.inr (Nat.le_refl _)) _
         exact bodyPost_ret (qae rfl _ _ _ _ _ (0, 0) _ rfl RR Tryz.underlying62 rfl Tryz.infoLp) rfl ⟨0, none, 0, 0, i, 6, rfl, RO, ⟨fun h => absurd h (by decide), fun h => absurd h NOK.out⟩, fun h => absurd h (by decide)⟩
        ·have dl : ((l : Int) == 0) = false := by simp [hl0]
         have dld : decide ((l : Int) = 0) = false := by simp [hl0]
         have dln : decide (l = 0) = false := dF hl0
         have HL0 := hID hl0
         clear hl0
         go_wp2_with fail
         go_roundw
         case rel => exact ⟨k + 1, HKR.out, by go_num, HO1.out, fun X hX => by
          rw [HTK.out] at hX
          rcases List.mem_append.1 hX with h | h
          ·exact HNE.out X h
          ·rw [List.mem_singleton.1 h]
           intro e
           have := HL.out
           rw [e] at this
           exact HL0.out this.symm⟩
         case measure => have := HKR.out; simp [intOf]; omega
       ·obtain rfl : k = r := by omega
        have d2 : decide ((k : Int) < (k : Int)) = false := by simp
        have d2n : decide (k < k) = false := by simp
        have HNL : Hid (∀ L ∈ R, L ≠ []) := hID (by
         have h := HNE.out
         rwa [List.take_of_length_le (by rw [HR.out]; exact Nat.le_refl _)] at h)
        clear HNE
        by_cases h64 : 64 < k
        ·have dg : decide ((64 : Int) < (k : Int)) = true := dcT
         have dgn : decide (64 < k) = true := dT h64
         have H64 := hID h64
         clear h64
         have NOK : Hid (¬ OkPk Rs) := hID (fun h => by have h1 := h.2 R HMR.out; have h2 := H64.out; have h3 := HR.out; omega)
         have BR := hID (HBR.out wb OB.out)
         have BN := hID (HBN.out wb OB.out)
         have nz0 := BN.out.cell 0
         have nz1 := BN.out.cell 1
         have rz0 := BR.out.cell 0
         have rz1 := BR.out.cell 1
         simp only [qG] at nz0 nz1 rz0 rz1
         have rf0 := BR.out.frozen 0
         have rf1 := BR.out.frozen 1
         go_wp2_with fail
         have RR : Blk ((wb.setCell ⟨w.heap.size, 0, none⟩ (.int .i64 0)).setCell ⟨w.heap.size, 1, none⟩ (.slice none 0 0)) w.heap.size 62 #[.int .i64 0, .slice none 0 0] := (BR.out.put 0 _).put 1 _
         have RO : Off Nob w ((wb.setCell ⟨w.heap.size, 0, none⟩ (.int .i64 0)).setCell ⟨w.heap.size, 1, none⟩ (.slice none 0 0)) := ((X2.out.also OB.out).put (p := ⟨w.heap.size, 0, none⟩) (.inr (Nat.le_refl _)) _).put (p := ⟨w.heap.size, 1, none⟩) (.inr (Nat.le_refl _)) _
         exact bodyPost_ret (qae rfl _ _ _ _ _ (0, 0) _ rfl RR Tryz.underlying62 rfl Tryz.infoLp) rfl ⟨0, none, 0, 0, i, 3, rfl, RO, ⟨fun h => absurd h (by decide), fun h => absurd h NOK.out⟩, fun h => absurd h (by decide)⟩
        ·have dg : decide ((64 : Int) < (k : Int)) = false := dcF
         have dgn : decide (64 < k) = false := dF h64
         have H64 := hID (show k ≤ 64 by omega)
         have hk64 := H64.out
         clear h64
         have HQB := hID (HQ.out.go HO1.out)
         have HLL : Hid ((packL 0 0 (Rs.take i)).length ≤ 1024) := hID (by
          have h1 := qfp (Rs.take i) 0 0 (fun X hX => (HGD.out X hX).2.2)
          rw [List.length_take] at h1
          omega)
         obtain ⟨N, hN⟩ : ∃ N, qaj (Rs.take i) = N := ⟨_, rfl⟩
         have HN := hID hN
         rw [hN] at HTL
         simp only [hN]
         clear hN
         clear HO1 HQ
         go_wp2_with fail
         clear ck
         go_loopw [7, 10] (fun z q wr => ∃ (t : Nat) (x : Value), t ≤ k ∧ q = .int .i64 (t : Int) ∧ z = .int .i64 ((N + qah (R.take t) : Nat) : Int) ∧ Qst w2 (w.heap.size + 1 + 1) 0 x (packL 0 0 (Rs.take i) ++ packR i N (R.take t)) wr ∧ N + qah (R.take t) ≤ 256) (fun _ q _ => k - (intOf q).toNat)
         case atStart => exact ⟨0, _, Nat.zero_le _, rfl, by simp [qah], by simpa [packR] using HQB.out, by simpa [qah] using HTL.out⟩
         case round =>
          obtain ⟨t, y, ht, rfl, rfl, hq, hle⟩ := hrel
          obtain ⟨wc, rfl⟩ : ∃ z, z = wr := ⟨wr, rfl⟩
          have HQC := hID hq
          have OC := hID hq.off
          have HLE := hID hle
          have ck := HAC.out wc OC.out
          clear hq hle
          by_cases htk : t < k
          ·have d2 : decide ((t : Int) < (k : Int)) = true := dcT
           have d2n : decide (t < k) = true := dT htk
           have HTT := hID htk
           have ht64 : t < 64 := by omega
           obtain ⟨L, hL⟩ : ∃ L, R[t]? = some L := ⟨_, gEe (by rw [HR.out]; exact htk)⟩
           have HML := hID (List.mem_of_getElem? hL)
           have HTK : Hid (R.take (t + 1) = R.take t ++ [L]) := hID (by rw [List.take_add_one, hL]; rfl)
           rw [← HR.out] at HUE
           obtain ⟨b2, o2, cc2, u2, he, hac2, hue2⟩ := HUE.out.at_ lasts_EQ hL
           injection he with he1 he2 he3
           subst he1
           clear he2 he3
           rw [HR.out] at HUE
           obtain ⟨AL, cL, rfl⟩ := RdL.form hue2
           have ck2 := hac2 wc Nob (X2.out.also OC.out) (fun _ _ h => h)
           have hl1024 := (HB.out.r R HMR.out).2 L HML.out
           obtain ⟨l, hl⟩ : ∃ l, L.length = l := ⟨_, rfl⟩
           rw [hl] at ck2 hl1024
           have HL := hID hl
           clear hac2 hue2 hL hl
           have HS1 : Hid (N + qah (R.take (t + 1)) = N + qah (R.take t) + l) := hID (by rw [HTK.out, qf3, HL.out, Nat.add_assoc])
           have HS2 : Hid (packL 0 0 (Rs.take i) ++ packR i N (R.take (t + 1)) = (packL 0 0 (Rs.take i) ++ packR i N (R.take t)) ++ [(i, N + qah (R.take t), l)]) := hID (by rw [HTK.out, qkt, HL.out, List.append_assoc])
           have hacl : (packL 0 0 (Rs.take i) ++ packR i N (R.take t)).length ≤ 1088 := by
            rw [List.length_append, qib, List.length_take]
            have := HLL.out
            omega
           obtain ⟨ACC, hACC⟩ : ∃ X, packL 0 0 (Rs.take i) ++ packR i N (R.take t) = X := ⟨_, rfl⟩
           rw [hACC] at HQC HS2 hacl
           obtain ⟨NN, hNN⟩ : ∃ X, N + qah (R.take t) = X := ⟨_, rfl⟩
           rw [hNN] at HLE HS1 HS2
           simp only [hNN]
           have HNN := hID hNN
           clear hACC hNN
           have hnn256 := HLE.out
           obtain ⟨A6, k6, w6, r6, o6, b6, q6⟩ := qv1 HQC.out i NN l (by omega)
           obtain ⟨n6, hn6⟩ : ∃ X, ACC.length + 1 = X := ⟨_, rfl⟩
           rw [hn6] at r6 q6
           have R6 := hID r6
           have B6 := hID b6
           have Q6 := hID q6
           obtain ⟨NM, hNM⟩ : ∃ X, NN + l = X := ⟨_, rfl⟩
           rw [hNM] at HS1
           have E1 : IntKind.i64.wrap ((NN : Int) + (l : Int)) = (NM : Int) := by rw [IntKind.wrap_i64]; omega
           have p1 := HQC.out.blk.cell 1
           have q1 := b6.cell 1
           simp only [qG] at p1 q1
           have fz1 := b6.frozen 1
           have O6 := hID o6
           clear r6 b6 q6 o6 hn6
           by_cases hbig : 256 < NM
           ·have dg2 : decide ((256 : Int) < (NM : Int)) = true := dcT
            have dg2n : decide (256 < NM) = true := dT hbig
            have HBIG := hID hbig
            clear hbig
            have NOK : Hid (¬ OkPk Rs) := hID (fun h => by have h1 := h.1.total; have h2 := qf4 Rs (i + 1); have h3 := qi6 R (t + 1); have h4 := HS1.out; have h5 := HBIG.out; have h6 := HN.out; rw [HTR.out, qd6] at h2; omega)
            have BR := hID (HBR.out w6 O6.out)
            have BN := hID (HBN.out w6 O6.out)
            have nz0 := BN.out.cell 0
            have nz1 := BN.out.cell 1
            have rz0 := BR.out.cell 0
            have rz1 := BR.out.cell 1
            simp only [qG] at nz0 nz1 rz0 rz1
            have rf0 := BR.out.frozen 0
            have rf1 := BR.out.frozen 1
            go_wp2_with (first | (at_builtin; refine qaz _ (by rfl) _ _ _ rfl rfl rfl R6.out ?_) | fail)
            have RR : Blk (((w6.setCell ⟨w.heap.size + 1 + 1, 1, none⟩ (.slice A6 n6 k6)).setCell ⟨w.heap.size, 0, none⟩ (.int .i64 0)).setCell ⟨w.heap.size, 1, none⟩ (.slice none 0 0)) w.heap.size 62 #[.int .i64 0, .slice none 0 0] := ((BR.out.far (p := ⟨w.heap.size + 1 + 1, 1, none⟩) (show w.heap.size ≠ w.heap.size + 1 + 1 by omega) _).put 0 _).put 1 _
            have RO : Off Nob w (((w6.setCell ⟨w.heap.size + 1 + 1, 1, none⟩ (.slice A6 n6 k6)).setCell ⟨w.heap.size, 0, none⟩ (.int .i64 0)).setCell ⟨w.heap.size, 1, none⟩ (.slice none 0 0)) := ((X2.out.also Q6.out.off).put (p := ⟨w.heap.size, 0, none⟩) (.inr (Nat.le_refl _)) _).put (p := ⟨w.heap.size, 1, none⟩) (.inr (Nat.le_refl _)) _
            exact bodyPost_ret (qae rfl _ _ _ _ _ (0, 0) _ rfl RR Tryz.underlying62 rfl Tryz.infoLp) rfl ⟨0, none, 0, 0, i, 3, rfl, RO, ⟨fun h => absurd h (by decide), fun h => absurd h NOK.out⟩, fun h => absurd h (by decide)⟩
           ·have dg2 : decide ((256 : Int) < (NM : Int)) = false := dcF
            have dg2n : decide (256 < NM) = false := dF hbig
            have HBIG := hID (show NM ≤ 256 by omega)
            clear hbig
            go_wp2_with (first | (at_builtin; refine qaz _ (by rfl) _ _ _ rfl rfl rfl R6.out ?_) | fail)
            go_roundw
            case rel => exact ⟨t + 1, _, HTT.out, by go_num, by rw [HS1.out], by rw [HS2.out]; exact Q6.out, by rw [HS1.out]; exact HBIG.out⟩
            case measure => have := HTT.out; simp [intOf]; omega
          ·obtain rfl : t = k := by omega
           have d2 : decide ((t : Int) < (t : Int)) = false := by simp
           have d2n : decide (t < t) = false := by simp
           have e : R.take t = R := List.take_of_length_le (by rw [HR.out]; exact Nat.le_refl _)
           rw [e] at HQC HLE ⊢
           have HT1 : Hid (qaj (Rs.take (i + 1)) = N + qah R) := hID (by rw [HTR.out, qd6, HN.out])
           have HT2 : Hid (packL 0 0 (Rs.take (i + 1)) = packL 0 0 (Rs.take i) ++ packR i N R) := hID (by
            rw [HTR.out, qku, List.length_take, HM.out, HN.out, Nat.zero_add, Nat.zero_add, Nat.min_eq_left (by have := HIM.out; omega)])
           have HGR : Hid (GoodR R) := hID ⟨fun e => by
            have h1 := HR.out
            rw [e] at h1
            exact HR0.out h1.symm, HNL.out, by rw [HR.out]; exact H64.out⟩
           clear e
           go_wp2_with fail
           go_roundw
           case rel => exact ⟨i + 1, _, HIM.out, by go_num, by rw [HT1.out], by rw [HT2.out]; exact HQC.out, fun X hX => by
            rw [HTR.out] at hX
            rcases List.mem_append.1 hX with h | h
            ·exact HGD.out X h
            ·rw [List.mem_singleton.1 h]; exact HGR.out, by rw [HT1.out]; exact HLE.out⟩
           case measure => have := HIM.out; simp [intOf]; omega
    ·obtain rfl : i = m := by omega
     have d1 : decide ((i : Int) < (i : Int)) = false := by simp
     have d1n : decide (i < i) = false := by simp
     have e : Rs.take i = Rs := List.take_of_length_le (by rw [HM.out]; exact Nat.le_refl _)
     rw [e] at HQ HGD HTL ⊢
     have HOK : Hid (OkPk Rs) := hID ⟨⟨fun e => by
      have h1 := HM.out
      rw [e] at h1
      apply HM1.out
      rw [← h1]
      rfl, by rw [HM.out]; exact hm16, fun R hR => ⟨(HGD.out R hR).1, (HGD.out R hR).2.1⟩, HTL.out⟩, fun R hR => (HGD.out R hR).2.2⟩
     have htl := HTL.out
     obtain ⟨N, hN⟩ : ∃ N, qaj Rs = N := ⟨_, rfl⟩
     rw [hN] at htl ⊢
     have HN := hID hN
     clear e hN him
     go_wp2_with fail
     refine (qu4 N (by omega) wa).mono ?_
     rintro e w' ⟨rfl, rfl⟩
     obtain ⟨WW, hWW⟩ : ∃ X, max ((N + 63) / 64) 1 = X := ⟨_, rfl⟩
     rw [hWW]
     obtain ⟨lv, ac, hfm⟩ : ∃ A c, x = .slice A (packL 0 0 Rs).length c := HQ.out.form
     subst hfm
     have BR := hID (HBR.out wa HO.out)
     have p0 := HQ.out.blk.cell 0
     have p1 := HQ.out.blk.cell 1
     have rz0 := BR.out.cell 0
     have rz1 := BR.out.cell 1
     simp only [qG] at p0 p1 rz0 rz1
     have f0 := HQ.out.blk.frozen 0
     have rf0 := BR.out.frozen 0
     have rf1 := BR.out.frozen 1
     have HLNS : Hid (wa.ownsRow (w.heap.size + 1 + 1 + 1) 43 3 (.slice lv (packL 0 0 Rs).length ac) (packL 0 0 Rs).length (lnV (packL 0 0 Rs))) := hID HQ.out.own
     obtain ⟨n6, hn6⟩ : ∃ X, (packL 0 0 Rs).length = X := ⟨_, rfl⟩
     rw [hn6] at HLNS
     have HN6 := hID hn6
     have HPB : Hid (Blk wa (w.heap.size + 1 + 1) 62 #[.int .i64 0, .slice lv n6 ac]) := hID (by rw [← hn6]; exact HQ.out.blk)
     rw [hn6] at p1
     have HWW := hID hWW
     clear hn6 hWW HQ
     go_wp2_with fail
     have RR : Blk (((wa.setCell ⟨w.heap.size + 1 + 1, 0, none⟩ (.int .i64 (WW : Int))).setCell ⟨w.heap.size, 0, none⟩ (.int .i64 (WW : Int))).setCell ⟨w.heap.size, 1, none⟩ (.slice lv n6 ac)) w.heap.size 62 #[.int .i64 (WW : Int), .slice lv n6 ac] := ((BR.out.far (p := ⟨w.heap.size + 1 + 1, 0, none⟩) (show w.heap.size ≠ w.heap.size + 1 + 1 by omega) _).put 0 _).put 1 _
     have RO : Off Nob w (((wa.setCell ⟨w.heap.size + 1 + 1, 0, none⟩ (.int .i64 (WW : Int))).setCell ⟨w.heap.size, 0, none⟩ (.int .i64 (WW : Int))).setCell ⟨w.heap.size, 1, none⟩ (.slice lv n6 ac)) := (((X2.out.also HO.out).put (p := ⟨w.heap.size + 1 + 1, 0, none⟩) (.inr (by show w.heap.size ≤ w.heap.size + 1 + 1; omega)) _).put (p := ⟨w.heap.size, 0, none⟩) (.inr (Nat.le_refl _)) _).put (p := ⟨w.heap.size, 1, none⟩) (.inr (Nat.le_refl _)) _
     have L1 := qas (w' := wa.setCell ⟨w.heap.size + 1 + 1, 0, none⟩ (.int .i64 (WW : Int))) HLNS.out (fun g hg => (qcu wa ⟨w.heap.size + 1 + 1, 0, none⟩ _).block g (HLNS.out.lt g hg).2 (by have := (HLNS.out.lt g hg).1; simp; omega))
     have L2 := qas (w' := (wa.setCell ⟨w.heap.size + 1 + 1, 0, none⟩ (.int .i64 (WW : Int))).setCell ⟨w.heap.size, 0, none⟩ (.int .i64 (WW : Int))) L1 (fun g hg => (qcu _ ⟨w.heap.size, 0, none⟩ _).block g (L1.lt g hg).2 (by have := (L1.lt g hg).1; simp; omega))
     have L3 := qas (w' := ((wa.setCell ⟨w.heap.size + 1 + 1, 0, none⟩ (.int .i64 (WW : Int))).setCell ⟨w.heap.size, 0, none⟩ (.int .i64 (WW : Int))).setCell ⟨w.heap.size, 1, none⟩ (.slice lv n6 ac)) L2 (fun g hg => (qcu _ ⟨w.heap.size, 1, none⟩ _).block g (L2.lt g hg).2 (by have := (L2.lt g hg).1; simp; omega))
     exact bodyPost_ret (qae rfl _ _ _ _ _ (0, 0) _ rfl RR Tryz.underlying62 rfl Tryz.infoLp) rfl ⟨_, lv, n6, ac, 0, 0, rfl, RO, ⟨fun _ => HOK.out, fun _ => rfl⟩, fun _ => ⟨by rw [HN.out, HWW.out], HN6.out.symm, Rd.own L3 (fun k hk => by have := (L3.lt k hk).1; omega)⟩⟩
end
section
open Go.RowKit
theorem qz9 (W : Nat) (l : List Ln) (hz : 0 < l.length) (hn : l.length ≤ 4096) (w : World) (u v : Value) (hu : Rd w (fun _ => True) 3 u l.length (lnV l)) (hv : Rd w (fun _ => True) 3 v l.length (lnV l)) : Calls Tryz.prog 93 #[.agg #[.int .i64 (W : Int), u], .agg #[.int .i64 (W : Int), v]] w (RetV w (.bool true)) := by
 obtain ⟨A, c, rfl, _, hcell⟩ := hu.form
 obtain ⟨A2, c2, rfl, _, hcell2⟩ := hv.form
 obtain ⟨b, o, rfl, hlt, hc⟩ := qc9 (c := c) hcell hz
 obtain ⟨b2, o2, rfl, hlt2, hc2⟩ := qc9 (c := c2) hcell2 hz
 have HC := hID hc
 have HC2 := hID hc2
 clear hc hc2 hcell hcell2 hu hv hz
 obtain ⟨n, hnn⟩ : ∃ n, l.length = n := ⟨_, rfl⟩
 have HN := hID hnn
 rw [hnn] at hn HC HC2 ⊢
 clear hnn
 go_enter Tryz.func93, Tryz.ntmps93
 have HB0 : Hid (Blk ((w.alloc (.cells #[.int .i64 (W : Int), .slice (some ⟨b, o, none⟩) n c] 62)).alloc (.cells #[.int .i64 (W : Int), .slice (some ⟨b2, o2, none⟩) n c2] 62)) w.heap.size 62 #[.int .i64 (W : Int), .slice (some ⟨b, o, none⟩) n c] ∧ Blk ((w.alloc (.cells #[.int .i64 (W : Int), .slice (some ⟨b, o, none⟩) n c] 62)).alloc (.cells #[.int .i64 (W : Int), .slice (some ⟨b2, o2, none⟩) n c2] 62)) (w.heap.size + 1) 62 #[.int .i64 (W : Int), .slice (some ⟨b2, o2, none⟩) n c2] ∧ Off Nob w ((w.alloc (.cells #[.int .i64 (W : Int), .slice (some ⟨b, o, none⟩) n c] 62)).alloc (.cells #[.int .i64 (W : Int), .slice (some ⟨b2, o2, none⟩) n c2] 62))) := hID ⟨(Blk.new _ _ _).alloc _, by
  have h := Blk.new (w.alloc (.cells #[.int .i64 (W : Int), .slice (some ⟨b, o, none⟩) n c] 62)) 62 #[.int .i64 (W : Int), .slice (some ⟨b2, o2, none⟩) n c2]
  simpa using h, oAl (oAl oRf _) _⟩
 go_wp2_with fail
 revert HB0
 generalize ((w.alloc (.cells #[.int .i64 (W : Int), .slice (some ⟨b, o, none⟩) n c] 62)).alloc (.cells #[.int .i64 (W : Int), .slice (some ⟨b2, o2, none⟩) n c2] 62)) = w0
 intro HB0
 have GC : Hid (∀ V, Off Nob w0 V → V.cell? ⟨w.heap.size, 0, none⟩ = some (.int .i64 (W : Int)) ∧ V.cell? ⟨w.heap.size, 1, none⟩ = some (.slice (some ⟨b, o, none⟩) n c) ∧ V.cell? ⟨w.heap.size + 1, 0, none⟩ = some (.int .i64 (W : Int)) ∧ V.cell? ⟨w.heap.size + 1, 1, none⟩ = some (.slice (some ⟨b2, o2, none⟩) n c2)) := hID (fun V ho => by
  have h := HB0.out.1.to (ho.block _ HB0.out.1.lt (fun h => h))
  have h2 := HB0.out.2.1.to (ho.block _ HB0.out.2.1.lt (fun h => h))
  exact ⟨h.cell 0, h.cell 1, h2.cell 0, h2.cell 1⟩)
 obtain ⟨t0, t1, q0, q1⟩ := GC.out _ oRf
 go_wp2_with fail
 clear t0 t1 q0 q1
 go_loopw [5] (fun q wr => ∃ k : Nat, k ≤ n ∧ q = .int .i64 (k : Int) ∧ Off Nob w0 wr) (fun q _ => n - (intOf q).toNat)
 case atStart => exact ⟨0, Nat.zero_le _, rfl, Off.refl _ _⟩
 case round =>
  obtain ⟨k, hk, rfl, ho⟩ := hrel
  have HO := hID ho
  clear ho
  obtain ⟨t0, t1, q0, q1⟩ := GC.out _ HO.out
  by_cases hkn : k < n
  ·have d1 : decide ((k : Int) < (n : Int)) = true := dcT
   have d1n : decide (k < n) = true := dT hkn
   have HKN := hID hkn
   have hk4096 : k < 4096 := by omega
   obtain ⟨⟨x, y, z⟩, hx⟩ : ∃ x, l.getD k (0, 0, 0) = x := ⟨_, rfl⟩
   obtain ⟨c0, c1, c2⟩ := HC.out _ (HB0.out.2.2.also HO.out) k x y z hkn hx
   obtain ⟨e0, e1, e2⟩ := HC2.out _ (HB0.out.2.2.also HO.out) k x y z hkn hx
   clear hx
   go_wp2_with fail
   go_quiet (fail)
   go_wp2_with fail
   go_roundw
   case rel => exact ⟨k + 1, HKN.out, by go_num, HO.out.drewN _⟩
   case measure => have := HKN.out; simp [intOf]; omega
  ·obtain rfl : k = n := by omega
   have d1 : decide ((k : Int) < (k : Int)) = false := by simp
   have d1n : decide (k < k) = false := by simp
   go_wp2_with fail
   go_ret
   exact ⟨rfl, HB0.out.2.2.also HO.out⟩
end
section
open Go.RowKit
def wdN (Rs : List (List (List Q4))) : Nat := max ((qaj Rs + 63) / 64) 1
theorem qv3 {Rs : List (List (List Q4))} (h : PackOk Rs) : lnOk 0 0 false (packL 0 0 Rs) = true :=
 qjp Rs 0 0 0 false (.inl rfl) (by have := h.le; omega) h.rules (by have := h.total; omega)
theorem qkv {Rs : List (List (List Q4))} (h : PackOk Rs) : qao (wdN Rs) (packL 0 0 Rs) = true := by
 unfold qao
 simp only [Bool.and_eq_true, Bool.not_eq_true', List.isEmpty_eq_false_iff, decide_eq_true_eq]
 refine ⟨⟨?_, qv3 h⟩, ?_⟩
 ·cases hR : Rs with
  | nil => exact absurd hR h.ne
  | cons R Rs' =>
   intro e
   simp only [packL] at e
   exact qjq (h.rules R (by rw [hR]; simp)).1 (List.append_eq_nil_iff.1 e).1
 ·rw [qfo, Nat.zero_add]; rfl
theorem qv4 (C : List Q4) (q : Q4) (b : Nat) : posB (C ++ [q]) b = posB C b ++ if hasN q b then [C.length] else [] := by
 unfold posB
 rw [List.length_append, List.length_singleton, List.range_succ, List.filter_append]
 have e1 : (List.range C.length).filter (fun i => hasN ((C ++ [q]).getD i (0, 0, 0, 0)) b) = (List.range C.length).filter (fun i => hasN (C.getD i (0, 0, 0, 0)) b) := by
  apply List.filter_congr
  intro i hi
  have := List.mem_range.1 hi
  rw [gDe, gDe, List.getElem?_append_left this]
 have e2 : (C ++ [q]).getD C.length (0, 0, 0, 0) = q := by
  rw [gDe, List.getElem?_append_right (Nat.le_refl _)]
  simp
 rw [e1]
 congr 1
 rw [List.filter_cons, List.filter_nil, e2]
theorem qow (C : List Q4) (b : Nat) : (posB C b).length ≤ C.length := by
 have := List.length_filter_le (fun q => hasN (C.getD q (0, 0, 0, 0)) b) (List.range C.length)
 rw [List.length_range] at this
 exact this
theorem qln {α : Type} : ∀ {LL : List (List α)} {i m : Nat} {L : List α} {q : α}, LL[i]? = some L → L[m]? = some q → LL.flatten[(LL.take i).flatten.length + m]? = some q
 | [], i, m, L, q, h, _ => by simp at h
 | X :: LL, 0, m, L, q, h, hq => by
  have e : X = L := by simpa using h
  subst e
  have hlt := (List.getElem?_eq_some_iff.1 hq).1
  rw [List.take_zero, List.flatten_nil, List.length_nil, Nat.zero_add, List.flatten_cons, List.getElem?_append_left hlt]
  exact hq
 | X :: LL, i + 1, m, L, q, h, hq => by
  have ih := qln (LL := LL) (show LL[i]? = some L by simpa using h) hq
  rw [List.take_succ_cons, List.flatten_cons, List.flatten_cons, List.length_append, List.getElem?_append_right (by omega), ← ih]
  congr 1
  omega
theorem qyb {Rs : List (List (List Q4))} {i k m : Nat} {R : List (List Q4)} {L : List Q4} {q : Q4} (h1 : Rs[i]? = some R) (h2 : R[k]? = some L) (h3 : L[m]? = some q) : Rs.flatten.flatten[qaj (Rs.take i) + qah (R.take k) + m]? = some q := by
 have e1 := qln h1 h2
 have e2 := qln e1 h3
 have e3 : Rs.flatten.take ((Rs.take i).flatten.length + k) = (Rs.take i).flatten ++ R.take k := by
  have hlt := (List.getElem?_eq_some_iff.1 h2).1
  have e4 : Rs = Rs.take i ++ R :: Rs.drop (i + 1) := by
   have h5 := List.take_append_drop i Rs
   rw [List.drop_eq_getElem_cons (List.getElem?_eq_some_iff.1 h1).1, (List.getElem?_eq_some_iff.1 h1).2] at h5
   exact h5.symm
  have e5 : Rs.flatten = (Rs.take i).flatten ++ (R ++ (Rs.drop (i + 1)).flatten) := by
   conv => lhs; rw [e4]
   rw [List.flatten_append, List.flatten_cons]
  rw [e5, List.take_append, Nat.add_sub_cancel_left, List.take_of_length_le (Nat.le_add_right _ _), List.take_append_of_le_length (by omega)]
 rw [e3, List.flatten_append, List.length_append] at e2
 exact e2
theorem qlo {α : Type} {C : List α} {n : Nat} {q : α} (h : C[n]? = some q) : C.take (n + 1) = C.take n ++ [q] := by rw [List.take_add_one, h]; rfl
theorem q10 (Rs : List (List (List Q4))) (hb : RulesB Rs) (hok : OkPk Rs) (b : Nat) (hb256 : b < 256) (w : World) (v vp : Value) (hv : RdLs (RdLs EQ) w (fun _ => True) v Rs) (hp : Rd w (fun _ => True) 3 vp (packL 0 0 Rs).length (lnV (packL 0 0 Rs))) : Calls Tryz.prog 60 #[.agg #[.int .i64 (wdN Rs : Int), vp], v, .int .u8 (b : Int)] w (qll (wdN Rs) (ofN (wdN Rs) (posB Rs.flatten.flatten b)) w) := by
 obtain ⟨i0, h0, z0, s0, b0⟩ := info_parts Tryz.infoIn
 have hln := qkv hok.1
 have lf := LnFacts.of hln
 have hW : 1 ≤ wdN Rs ∧ wdN Rs ≤ 4 := by
  have := hok.1.total
  unfold wdN
  omega
 have hl16 : (packL 0 0 Rs).length ≤ 1024 := by
  have h1 := qfp Rs 0 0 hok.2
  have := hok.1.le
  omega
 have HCK := hID (fun (V : World) (oV : Off Nob w V) => qoc (wdN Rs) hW.1 (by omega) (packL 0 0 Rs) (by omega) V vp (hp.keepT oV))
 have HPK := hID (fun (V : World) (oV : Off Nob w V) => qv2 Rs hb V v ((qak (qak lasts_EQ)).keep (G := Nob) hv oV (fun _ _ h => h)))
 have HSM := hID (fun (V : World) (oV : Off Nob w V) (u : Value) (hu : Rd V (fun _ => True) 3 u (packL 0 0 Rs).length (lnV (packL 0 0 Rs))) => qz9 (wdN Rs) (packL 0 0 Rs) lf.pos (by omega) V vp u (hp.keepT oV) hu)
 have HOF := hID (fun (V : World) (u : Value) (hu : Rd V (fun _ => True) 1 u (posB Rs.flatten.flatten b).length (natsV (posB Rs.flatten.flatten b))) => g_of (wdN Rs) hW.1 (by omega) (posB Rs.flatten.flatten b) (fun i hi => by
  have h1 := List.mem_range.1 (List.mem_filter.1 hi).1
  have h2 : qaj Rs ≤ 64 * wdN Rs := by unfold wdN; omega
  unfold qaj at h2
  omega) (by
  have h1 := qow Rs.flatten.flatten b
  have h2 := hok.1.total
  unfold qaj at h2
  omega) V u hu)
 have HB := hID hb
 have HOK := hID hok
 have HLN := hID hln
 have HV := hID hv
 have HT256 := hID hok.1.total
 obtain ⟨A, c, rfl⟩ := hv.form
 obtain ⟨AP, cp, rfl, -⟩ := Rd.form hp
 obtain ⟨m, hm⟩ : ∃ n, Rs.length = n := ⟨_, rfl⟩
 have HM := hID hm
 have hm16 : m ≤ 16 := by rw [← hm]; exact hok.1.le
 rw [hm] at HV HPK ⊢
 obtain ⟨n, hnl⟩ : ∃ n, (packL 0 0 Rs).length = n := ⟨_, rfl⟩
 have HNL := hID hnl
 rw [hnl] at HCK HSM ⊢
 obtain ⟨W, hWW⟩ : ∃ n, wdN Rs = n := ⟨_, rfl⟩
 have HWW := hID hWW
 rw [hWW] at HCK HSM HOF HLN ⊢
 obtain ⟨C, hC⟩ : ∃ C, Rs.flatten.flatten = C := ⟨_, rfl⟩
 have HC := hID hC
 rw [hC] at HOF ⊢
 have HTC : Hid (qaj Rs = C.length) := hID (by rw [← hC]; rfl)
 clear hv hb hok hm hp hnl hWW hW hl16 lf hln hC
 have hb256n := hID hb256
 go_enter Tryz.func60, Tryz.ntmps60
 have HB0 : Hid (Blk (w.alloc (.cells #[.int .i64 (W : Int), .slice AP n cp] 62)) w.heap.size 62 #[.int .i64 (W : Int), .slice AP n cp] ∧ Off Nob w (w.alloc (.cells #[.int .i64 (W : Int), .slice AP n cp] 62))) := hID ⟨Blk.new _ _ _, oAl oRf _⟩
 go_wp2_with fail
 revert HB0
 generalize (w.alloc (.cells #[.int .i64 (W : Int), .slice AP n cp] 62)) = w0
 intro HB0
 have GC : Hid (∀ V, Off Nob w0 V → V.cell? ⟨w.heap.size, 0, none⟩ = some (.int .i64 (W : Int)) ∧ V.cell? ⟨w.heap.size, 1, none⟩ = some (.slice AP n cp)) := hID (fun V ho => by
  have h := HB0.out.1.to (ho.block _ HB0.out.1.lt (fun h => h))
  exact ⟨h.cell 0, h.cell 1⟩)
 obtain ⟨t0, t1⟩ := GC.out _ oRf
 go_wp2_with fail
 refine (HCK.out w0 HB0.out.2).mono ?_
 rintro e w1 ⟨ii, mm, rfl, hres, o1⟩
 obtain rfl : mm = 0 := by
  rcases hres with ⟨_, h⟩ | ⟨h, _⟩
  ·exact h
  ·rw [HLN.out] at h; exact absurd h (by simp)
 have X1 := hID o1
 clear o1 t0 t1 hres HCK
 go_wp2_with fail
 refine (HPK.out w1 (HB0.out.2.also X1.out)).mono ?_
 rintro e w2 ⟨W2, A2, n2, c2, i2, x2, rfl, o2, hx2, hr2⟩
 obtain rfl := hx2.2 HOK.out
 obtain ⟨hw2, hn2, hr2⟩ := hr2 rfl
 have X2 := hID (X1.out.also o2)
 have HW2 : Hid (W2 = (W : Int)) := hID (by rw [hw2, ← HWW.out]; rfl)
 rw [HNL.out] at hn2
 rw [hn2] at hr2 ⊢
 rw [HW2.out]
 have HR2 := hID hr2
 clear o2 hx2 hr2 hw2 hn2 HPK HW2
 have HQB : Hid (Blk (w2.alloc (.cells #[.int .i64 (W : Int), .slice A2 n c2] 62)) w2.heap.size 62 #[.int .i64 (W : Int), .slice A2 n c2] ∧ Off Nob w2 (w2.alloc (.cells #[.int .i64 (W : Int), .slice A2 n c2] 62))) := hID ⟨Blk.new _ _ _, oAl oRf _⟩
 have X3 := hID (X2.out.also HQB.out.2)
 obtain ⟨t0, t1⟩ := GC.out _ X3.out
 have q0 := HQB.out.1.cell 0
 have q1 := HQB.out.1.cell 1
 simp only [qG] at q0 q1
 go_wp2_with fail
 clear t0 t1 q0 q1
 revert HQB X3
 generalize (w2.alloc (.cells #[.int .i64 (W : Int), .slice A2 n c2] 62)) = w3
 intro HQB X3
 refine (HSM.out w3 (HB0.out.2.also X3.out) _ ((HR2.out.keep HQB.out.2 (fun _ _ h => h)).mono (fun _ _ => trivial))).mono ?_
 rintro e w4 ⟨rfl, o4⟩
 have X4 := hID (X3.out.also o4)
 clear o4 HSM HR2
 go_wp2_with fail
 go_loopw [12, 13, 14] (fun x z q wr => ∃ i : Nat, i ≤ m ∧ q = .int .i64 (i : Int) ∧ z = .int .i64 (qaj (Rs.take i) : Int) ∧ OwnL w0 wr 3 1 x (posB (C.take (qaj (Rs.take i))) b).length (natsV (posB (C.take (qaj (Rs.take i))) b))) (fun _ _ q _ => m - (intOf q).toNat)
 case atStart => exact ⟨0, Nat.zero_le _, rfl, rfl, OwnL.nilAt X4.out _ _⟩
 case round =>
  obtain ⟨i, hi, rfl, rfl, oW⟩ := hrel
  obtain ⟨wa, rfl⟩ : ∃ z, z = wr := ⟨wr, rfl⟩
  have HO := hID oW
  clear oW
  by_cases him : i < m
  ·have d1 : decide ((i : Int) < (m : Int)) = true := dcT
   have d1n : decide (i < m) = true := dT him
   have HIM := hID him
   have hi16 : i < 16 := by omega
   obtain ⟨R, hR⟩ : ∃ R, Rs[i]? = some R := ⟨_, gEe (by rw [HM.out]; exact him)⟩
   have HRR := hID hR
   have hr64 := HOK.out.2 R (List.mem_of_getElem? hR)
   have HTR : Hid (Rs.take (i + 1) = Rs.take i ++ [R]) := hID (qlo hR)
   rw [← HM.out] at HV
   obtain ⟨bR, oR, cc, u, he, hac, hue⟩ := HV.out.at_ (qak lasts_EQ) hR
   injection he with he1 he2 he3
   subst he1
   clear he2 he3
   rw [HM.out] at HV
   obtain ⟨AU, cu, rfl⟩ := hue.form
   have HUE := hID hue
   obtain ⟨r, hr⟩ : ∃ r, R.length = r := ⟨_, rfl⟩
   rw [hr] at HUE hac hr64
   have HR := hID hr
   have HAC := hID (fun (V : World) (oV : Off Nob w0 V) => hac V Nob (HB0.out.2.also oV) (fun _ _ h => h))
   obtain ⟨N, hN⟩ : ∃ N, qaj (Rs.take i) = N := ⟨_, rfl⟩
   have HN := hID hN
   rw [hN] at HO
   simp only [hN]
   have ck := HAC.out wa HO.out.2
   have hN256 : N ≤ 256 := by
    rw [← hN]
    exact Nat.le_trans (qf4 Rs i) HT256.out
   clear hR hac hue hr hN
   go_wp2_with fail
   clear ck
   go_loopw [12, 13, 15] (fun x z q wr => ∃ k : Nat, k ≤ r ∧ q = .int .i64 (k : Int) ∧ z = .int .i64 ((N + qah (R.take k) : Nat) : Int) ∧ OwnL w0 wr 3 1 x (posB (C.take (N + qah (R.take k))) b).length (natsV (posB (C.take (N + qah (R.take k))) b))) (fun _ _ q _ => r - (intOf q).toNat)
   case atStart => exact ⟨0, Nat.zero_le _, rfl, by simp [qah], by simpa [qah] using HO.out⟩
   case round =>
    obtain ⟨k, hk, rfl, rfl, oW⟩ := hrel
    obtain ⟨wb, rfl⟩ : ∃ z, z = wr := ⟨wr, rfl⟩
    have HO1 := hID oW
    have ck := HAC.out wb oW.2
    clear oW HO
    by_cases hkr : k < r
    ·have d2 : decide ((k : Int) < (r : Int)) = true := dcT
     have d2n : decide (k < r) = true := dT hkr
     have HKR := hID hkr
     have hk64 : k < 64 := by omega
     obtain ⟨L, hL⟩ : ∃ L, R[k]? = some L := ⟨_, gEe (by rw [HR.out]; exact hkr)⟩
     have HLL := hID hL
     have HTK : Hid (R.take (k + 1) = R.take k ++ [L]) := hID (qlo hL)
     rw [← HR.out] at HUE
     obtain ⟨bL, oL, cc2, u2, he, hac2, hue2⟩ := HUE.out.at_ lasts_EQ hL
     injection he with he1 he2 he3
     subst he1
     clear he2 he3
     rw [HR.out] at HUE
     obtain ⟨AL, cL, rfl⟩ := RdL.form hue2
     have HAC2 := hID (fun (V : World) (oV : Off Nob w0 V) => hac2 V Nob (HB0.out.2.also oV) (fun _ _ h => h))
     have HUE2 := hID (fun (V : World) (oV : Off Nob w0 V) => lasts_EQ.keep (G := Nob) hue2 (HB0.out.2.also oV) (fun _ _ h => h))
     have HTT : Hid (N + qah (R.take k) + L.length ≤ C.length) := hID (by
      have h1 := qf4 Rs (i + 1)
      have h2 := qi6 R (k + 1)
      rw [HTK.out, qf3] at h2
      rw [HTR.out, qd6, HN.out, HTC.out] at h1
      omega)
     have HAT : Hid (∀ m q, L[m]? = some q → C[N + qah (R.take k) + m]? = some q) := hID (fun m q hq => by
      have h := qyb HRR.out HLL.out hq
      rw [HC.out, HN.out] at h
      exact h)
     have HS1 : Hid (N + qah (R.take (k + 1)) = N + qah (R.take k) + L.length) := hID (by rw [HTK.out, qf3, Nat.add_assoc])
     have hC256 : C.length ≤ 256 := by rw [← HTC.out]; exact HT256.out
     obtain ⟨M, hM⟩ : ∃ M, N + qah (R.take k) = M := ⟨_, rfl⟩
     rw [hM] at HO1 HTT HAT HS1
     simp only [hM]
     obtain ⟨l, hl⟩ : ∃ l, L.length = l := ⟨_, rfl⟩
     rw [hl] at HAC2 HUE2 HTT HS1
     have HL := hID hl
     have htt := HTT.out
     have ck2 := HAC2.out wb HO1.out.2
     clear hac2 hue2 hL hl hM
     go_wp2_with fail
     clear ck ck2
     go_loopw [12, 13, 16] (fun x z q wr => ∃ t : Nat, t ≤ l ∧ q = .int .i64 (t : Int) ∧ z = .int .i64 ((M + t : Nat) : Int) ∧ OwnL w0 wr 3 1 x (posB (C.take (M + t)) b).length (natsV (posB (C.take (M + t)) b))) (fun _ _ q _ => l - (intOf q).toNat)
     case atStart => exact ⟨0, Nat.zero_le _, rfl, rfl, HO1.out⟩
     case round =>
      obtain ⟨t, ht, rfl, rfl, oW⟩ := hrel
      obtain ⟨wc, rfl⟩ : ∃ z, z = wr := ⟨wr, rfl⟩
      have HO2 := hID oW
      obtain ⟨AX, cx, rfl⟩ := oW.form
      have ck := HAC.out wc oW.2
      have ck2 := HAC2.out wc oW.2
      clear oW HO1
      by_cases htl : t < l
      ·have d3 : decide ((t : Int) < (l : Int)) = true := dcT
       have d3n : decide (t < l) = true := dT htl
       have HTL := hID htl
       obtain ⟨q, hq⟩ : ∃ q, L[t]? = some q := ⟨_, gEe (by rw [HL.out]; exact htl)⟩
       have HST : Hid (posB (C.take (M + t + 1)) b = posB (C.take (M + t)) b ++ if hasN q b then [M + t] else []) := hID (by
        rw [qlo (HAT.out t q hq), qv4, List.length_take, Nat.min_eq_left (by omega)])
       have hUE2 := HUE2.out wc HO2.out.2
       rw [← HL.out] at hUE2
       obtain ⟨bq, oq, cq, he, -, -, hcq⟩ := hUE2.at_ qx9 hq
       injection he with he1 he2 he3
       subst he1
       clear he2 he3 hUE2
       have e0 := hcq 0 _ rfl
       have e1 := hcq 1 _ rfl
       have e2 := hcq 2 _ rfl
       have e3 := hcq 3 _ rfl
       simp only [Nat.add_zero] at e0
       have hpl : (posB (C.take (M + t)) b).length ≤ 256 := by
        have h := qow (C.take (M + t)) b
        rw [List.length_take] at h
        omega
       obtain ⟨PB, hPB⟩ : ∃ X, posB (C.take (M + t)) b = X := ⟨_, rfl⟩
       rw [hPB] at HO2 HST hpl ⊢
       obtain ⟨g, hg⟩ : ∃ X, PB.length = X := ⟨_, rfl⟩
       have HG := hID hg
       rw [hg] at HO2 hpl ⊢
       obtain ⟨mt, hmt⟩ : ∃ X, M + t = X := ⟨_, rfl⟩
       rw [hmt] at HST
       simp only [hmt]
       have HMT := hID hmt
       have hmt256 : mt < 256 := by omega
       clear hq hcq hPB hg hmt
       go_wp2_with fail
       refine (r_has q b hb256n.out wc).mono ?_
       rintro e wd ⟨rfl, od⟩
       have HO3 := hID (HO2.out.off od)
       clear od HO2 ck ck2 e0 e1 e2 e3
       cases hhs : hasN q b
       ·rw [hhs] at HST
        clear hhs
        have HO4 : Hid (OwnL w0 wd 3 1 (.slice AX g cx) (posB (C.take (M + (t + 1))) b).length (natsV (posB (C.take (M + (t + 1))) b))) := hID (by
         rw [show M + (t + 1) = mt + 1 by have := HMT.out; omega, HST.out]
         simpa [HG.out] using HO3.out)
        clear HO3
        go_wp2_with fail
        go_roundw
        case rel => exact ⟨t + 1, HTL.out, by go_num, by have := HMT.out; go_num, HO4.out⟩
        case measure => have := HTL.out; simp [intOf]; omega
       ·rw [hhs] at HST
        clear hhs
        obtain ⟨A6, c6, w6, r6, o6⟩ := qg2 Tryz.underlying22 h0 z0 s0 b0 rfl (by decide) HO3.out [.int .i64 (mt : Int)] rfl (by intro u hu; rw [List.mem_singleton.1 hu]; rfl) (by omega) (by decide)
        have R6 := hID r6
        have HO4 : Hid (OwnL w0 w6 3 1 (.slice A6 (g + 1) c6) (posB (C.take (M + (t + 1))) b).length (natsV (posB (C.take (M + (t + 1))) b))) := hID (by
         rw [show M + (t + 1) = mt + 1 by have := HMT.out; omega, HST.out, if_pos rfl, qej, List.length_append, HG.out]
         exact o6)
        clear HO3 r6 o6
        go_wp2_with (first | (at_builtin; refine qaz _ (by rfl) _ _ _ rfl rfl rfl R6.out ?_) | fail)
        go_roundw
        case rel => exact ⟨t + 1, HTL.out, by go_num, by have := HMT.out; go_num, HO4.out⟩
        case measure => have := HTL.out; simp [intOf]; omega
      ·obtain rfl : t = l := by omega
       have d3 : decide ((t : Int) < (t : Int)) = false := by simp
       have d3n : decide (t < t) = false := by simp
       have HO4 : Hid (OwnL w0 wc 3 1 (.slice AX (posB (C.take (M + t)) b).length cx) (posB (C.take (N + qah (R.take (k + 1)))) b).length (natsV (posB (C.take (N + qah (R.take (k + 1)))) b))) := hID (by rw [HS1.out]; exact HO2.out)
       clear HO2
       go_wp2_with fail
       go_roundw
       case rel => exact ⟨k + 1, HKR.out, by go_num, by rw [HS1.out], HO4.out⟩
       case measure => have := HKR.out; simp [intOf]; omega
    ·obtain rfl : k = r := by omega
     have d2 : decide ((k : Int) < (k : Int)) = false := by simp
     have d2n : decide (k < k) = false := by simp
     have HT1 : Hid (qaj (Rs.take (i + 1)) = N + qah (R.take k)) := hID (by rw [HTR.out, qd6, HN.out, List.take_of_length_le (by rw [HR.out]; exact Nat.le_refl _)])
     go_wp2_with fail
     go_roundw
     case rel => exact ⟨i + 1, HIM.out, by go_num, by rw [HT1.out], by rw [HT1.out]; exact HO1.out⟩
     case measure => have := HIM.out; simp [intOf]; omega
  ·obtain rfl : i = m := by omega
   have d1 : decide ((i : Int) < (i : Int)) = false := by simp
   have d1n : decide (i < i) = false := by simp
   have e : C.take (qaj (Rs.take i)) = C := by
    rw [List.take_of_length_le (l := Rs) (by rw [HM.out]; exact Nat.le_refl _), HTC.out]
    exact List.take_length
   rw [e] at HO
   clear e
   obtain ⟨t0, t1⟩ := GC.out _ HO.out.2
   go_wp2_with fail
   refine (HOF.out wa _ HO.out.rd).mono ?_
   rintro e w7 ⟨u, rfl, hr, o7⟩
   have HR : Hid (Rd w7 (fun k => w.heap.size ≤ k) 1 u W (qab (ofN W (posB C b))) ∧ Off Nob w w7) := hID ⟨hr.mono (fun j hj => by have := HB0.out.2.size; have := HO.out.2.size; omega), (HB0.out.2.also HO.out.2).also o7⟩
   clear hr o7
   go_wp2_with fail
   go_ret2
   exact ⟨_, rfl, HR.out⟩
end
section
open Go.RowKit
theorem Tryz.infoRl : (Tryz.prog.info? 100).map (fun i => (i.zero, i.size, i.bytes)) = some (some (.slice none 0 0), 1, 24) := by kernel_rfl
structure SetRd (w : World) (F : Nat → Prop) (ids : List Int) (W : Nat) (T S Fl : List Nat) (VI VT VS VF : Value) : Prop where
 i : Rd w F 1 VI ids.length (ids.map (Value.int .i64))
 t : Rd w F 1 VT T.length (qab T)
 s : Rd w F 1 VS S.length (qab S)
 f : Rd w F 1 VF Fl.length (qab Fl)
 t64 : ∀ x ∈ T, x < 18446744073709551616
 s64 : ∀ x ∈ S, x < 18446744073709551616
 f64 : ∀ x ∈ Fl, x < 18446744073709551616
 tc : CapOk VT
 fc : CapOk VF
def IsSl (v : Value) : Prop := ∃ A n c, v = .slice A n c
theorem isSl4 {A1 A2 A3 A4 : Option Addr} {n1 n2 n3 n4 c1 c2 c3 c4 : Nat} : IsSl (.slice A1 n1 c1) ∧ IsSl (.slice A2 n2 c2) ∧ IsSl (.slice A3 n3 c3) ∧ IsSl (.slice A4 n4 c4) := ⟨⟨_, _, _, rfl⟩, ⟨_, _, _, rfl⟩, ⟨_, _, _, rfl⟩, ⟨_, _, _, rfl⟩⟩
def FlatP (ps : List (List El)) : Prop := ∀ p ∈ ps, PatOk p ∧ gapsN p = []
def flatR (ps : List (List El)) : List (List (List Q4)) := ps.map (fun p => [lineN p []])
def GoodB (ids : List Int) (ps : List (List El)) : Prop := FlatP ps ∧ ids.length = ps.length ∧ 1 ≤ ids.length ∧ ids.length ≤ 4 ∧ (∀ x ∈ ids, 1 ≤ x ∧ x ≤ 1000) ∧ AscB ids = true ∧ OkPk (flatR ps)
def q11 (w : World) (ids : List Int) (ps : List (List El)) (e : Ending) (w' : World) : Prop := ∃ (VI VT VS VF : Value) (W i x : Int), e = .returned (.tuple #[.agg #[VI, .int .i64 W, VT, VS, VF], .int .i64 i, .int .i64 x]) ∧ (IsSl VI ∧ IsSl VT ∧ IsSl VS ∧ IsSl VF) ∧ Off Nob w w' ∧ (GoodB ids ps → x = 0 ∧ i = 0) ∧ (x = 0 → ∃ (Rs : List (List (List Q4))) (T S F : List Nat) (Wn : Nat), W = (Wn : Int) ∧ Built ids Rs Wn T S F ∧ qil ps Rs ∧ (∀ p ∈ ps, PatOk p) ∧ SetRd w' (fun k => w.heap.size ≤ k) ids Wn T S F VI VT VS VF ∧ (FlatP ps → Rs = flatR ps))
theorem q0a {ids : List Int} (h : AscB ids = true) {j : Nat} (hj : j + 1 < ids.length) : ids.getD j 0 < ids.getD (j + 1) 0 := by
 unfold AscB at h
 exact of_decide_eq_true (List.all_eq_true.1 h j (List.mem_range.2 (by omega)))
theorem qtl {ps : List (List El)} {t : Nat} {p : List El} (h : ps[t]? = some p) : (ps.take (t + 1)).map (fun p => [lineN p []]) = (ps.take t).map (fun p => [lineN p []]) ++ [[lineN p []]] := by rw [List.take_add_one, h, List.map_append]; rfl
theorem qyc (N : Nat) : (madeCells (Value.int .u64 0).cells (N * 1)).toList = List.replicate N (.int .u64 0) := by
 rw [Nat.mul_one]
 show (madeCells #[.int .u64 0] N).toList = _
 rw [toList_madeCells_one]
/-! ### the table, in plain lists -/
def tabU (g : Nat → Nat → Nat) (N b k : Nat) : List Value := (List.range N).map (fun j => Value.int .u64 ((if j % 256 < b ∨ (j % 256 = b ∧ j / 256 < k) then g (j % 256) (j / 256) else 0 : Nat) : Int))
def tabN (g : Nat → Nat → Nat) (N : Nat) : List Nat := (List.range N).map (fun j => g (j % 256) (j / 256))
theorem qyd (g : Nat → Nat → Nat) (N b k : Nat) : (tabU g N b k).length = N := by simp [tabU]
theorem qv5 (g : Nat → Nat → Nat) (N : Nat) : tabU g N 0 0 = List.replicate N (.int .u64 0) := by
 apply List.ext_getElem
 ·simp [tabU]
 ·intro j h1 h2
  simp [tabU]
theorem qye (g : Nat → Nat → Nat) {N b k : Nat} (hb : b < 256) (h : 256 * k + b < N) : (tabU g N b k).set (256 * k + b) (.int .u64 (g b k : Int)) = tabU g N b (k + 1) := by
 apply List.ext_getElem
 ·simp [tabU]
 ·intro j h1 h2
  rw [List.getElem_set]
  have hj : j < N := by simpa [tabU] using h2
  simp only [tabU, List.getElem_map, List.getElem_range]
  split
  ·next e =>
   subst e
   rw [if_pos (by omega)]
   congr 2
   congr 1 <;> omega
  ·next e =>
   by_cases hc : j % 256 < b ∨ (j % 256 = b ∧ j / 256 < k)
   ·rw [if_pos hc, if_pos (by omega)]
   ·rw [if_neg hc, if_neg (by omega)]
theorem qyf (g : Nat → Nat → Nat) {N W : Nat} (hN : 256 * W = N) (b : Nat) : tabU g N b W = tabU g N (b + 1) 0 := by
 unfold tabU
 apply List.map_congr_left
 intro j hj
 have hj : j < N := List.mem_range.1 hj
 by_cases hc : j % 256 < b ∨ (j % 256 = b ∧ j / 256 < W)
 ·rw [if_pos hc, if_pos (by omega)]
 ·rw [if_neg hc, if_neg (by omega)]
theorem qyg (g : Nat → Nat → Nat) (N : Nat) : tabU g N 256 0 = qab (tabN g N) := by
 unfold tabU qab tabN
 rw [List.map_map]
 apply List.map_congr_left
 intro j hj
 have : j % 256 < 256 := Nat.mod_lt _ (by decide)
 simp [this]
theorem qox (g : Nat → Nat → Nat) (N : Nat) : (tabN g N).length = N := by simp [tabN]
theorem qyh {g : Nat → Nat → Nat} {W b : Nat} {L : List Nat} (hb : b < 256) (hL : L.length = W) (hg : ∀ k, g b k = L.getD k 0) : qar (tabN g (256 * W)) W b = L := by
 unfold qar
 apply List.ext_getElem
 ·simp [hL]
 ·intro k h1 h2
  simp only [List.getElem_map, List.getElem_range, tabN]
  have hk : k < W := by simpa using h1
  rw [gDe, List.getElem?_map, List.getElem?_range (by omega)]
  simp only [Option.map_some, Option.getD_some]
  rw [show (256 * k + b) % 256 = b by omega, show (256 * k + b) / 256 = k by omega, hg, gDe, gEe h2]
  rfl
theorem q0b {g : Nat → Nat → Nat} {N : Nat} (h : ∀ b k, g b k < 18446744073709551616) : ∀ x ∈ tabN g N, x < 18446744073709551616 := by
 intro x hx
 obtain ⟨j, _, rfl⟩ := List.mem_map.1 hx
 exact h _ _
/-! ### the finals -/
def finsN (W : Nat) (l : List Ln) (i : Nat) : List Nat := (List.range i).flatMap (fun r => ofN W (endsN r l))
theorem qeu (W : Nat) (l : List Ln) (i : Nat) : finsN W l (i + 1) = finsN W l i ++ ofN W (endsN i l) := by simp [finsN, List.range_succ]
theorem qfq (W : Nat) (l : List Ln) : ∀ i, (finsN W l i).length = i * W
 | 0 => by simp [finsN]
 | i + 1 => by rw [qeu, List.length_append, qfq W l i, qb4, Nat.succ_mul]
theorem qmj (W : Nat) (l : List Ln) : ∀ (n r : Nat), r < n → finL (finsN W l n) W r = ofN W (endsN r l)
 | 0, r, h => absurd h (Nat.not_lt_zero _)
 | n + 1, r, h => by
  have hl := qfq W l n
  rcases Nat.lt_or_ge r n with h1 | h1
  ·have ih := qmj W l n r h1
   have h2 : (r + 1) * W ≤ n * W := Nat.mul_le_mul_right _ h1
   rw [Nat.succ_mul] at h2
   unfold finL at ih ⊢
   rw [qeu, List.drop_append_of_le_length (by omega), List.take_append_of_le_length (by rw [List.length_drop]; omega)]
   exact ih
  ·obtain rfl : r = n := by omega
   unfold finL
   rw [qeu, List.drop_append, ← hl, List.drop_of_length_le (Nat.le_refl _), Nat.sub_self, List.drop_zero, List.nil_append, List.take_of_length_le (by rw [qb4]; exact Nat.le_refl _)]
theorem qyi (W : Nat) (l : List Ln) (i : Nat) : ∀ x ∈ finsN W l i, x < 18446744073709551616 := by
 intro x hx
 obtain ⟨r, _, h⟩ := List.mem_flatMap.1 hx
 exact qf9 _ _ x h
def rowG (C : List Q4) (W b k : Nat) : Nat := (ofN W (posB C b)).getD k 0
theorem q0c (C : List Q4) (W b k : Nat) : rowG C W b k < 18446744073709551616 := by
 unfold rowG
 rw [gDe]
 cases h : (ofN W (posB C b))[k]? with
 | none => decide
 | some x => exact qf9 _ _ x (List.mem_of_getElem? h)
theorem qyj {ids : List Int} {Rs : List (List (List Q4))} {W N : Nat} (hok : OkPk Rs) (hlen : ids.length = Rs.length) (hr : ∀ x ∈ ids, 1 ≤ x ∧ x ≤ 1000) (ha : AscB ids = true) (hW : wdN Rs = W) (hN : 256 * W = N) : Built ids Rs W (tabN (rowG Rs.flatten.flatten W) N) (ofN W (qaq (packL 0 0 Rs))) (finsN W (packL 0 0 Rs) ids.length) where
 ok := hok.1
 n := hlen
 rng := hr
 asc := ha
 w := hW.symm
 tl := by rw [qox, hN]
 sl := qb4 _ _
 fl := qfq _ _ _
 s := rfl
 f := fun r hr => qmj _ _ _ _ hr
 t := fun b hb => by rw [← hN]; exact qyh hb (qb4 _ _) (fun k => rfl)
theorem qyk {ps : List (List El)} {Rs : List (List (List Q4))} (hok : OkPk Rs) (hl : ps.length = Rs.length) (h : ∀ (j : Nat) (p : List El) (R : List (List Q4)), ps[j]? = some p → Rs[j]? = some R → R ≠ [] → qh9 p R) : qil ps Rs ∧ ∀ p ∈ ps, PatOk p := by
 refine ⟨⟨hl, fun i p R h1 h2 => (h i p R h1 h2 (hok.1.rules R (List.mem_of_getElem? h2)).1).2⟩, fun p hp => ?_⟩
 obtain ⟨i, hi, rfl⟩ := List.getElem_of_mem hp
 have h2 : Rs[i]? = some (Rs[i]'(by omega)) := gEe (by omega)
 exact (h i _ _ (gEe hi) h2 (hok.1.rules _ (List.mem_of_getElem? h2)).1).1
/-! ### the set in memory -/
def BldI (w : World) (pb W n N : Nat) (ids : List Int) (LV st fi : Value) (tab : List Value) (tb gi gc gt : Nat) (V : World) : Prop :=
 Off Nob w V ∧ Blk V pb 62 #[.int .i64 (W : Int), LV] ∧ Blk V tb 25 #[.slice (some ⟨gi, 0, none⟩) n gc, .int .i64 (W : Int), .slice (some ⟨gt, 0, none⟩) N N, st, fi] ∧ V.ownsRow w.heap.size 3 1 (.slice (some ⟨gi, 0, none⟩) n gc) n (ids.map (Value.int .i64)) ∧ V.ownsRow w.heap.size 71 1 (.slice (some ⟨gt, 0, none⟩) N N) N tab ∧ w.heap.size ≤ tb
theorem q12 {w w2 V : World} (x : Off Nob w w2) (o : Off Nob w2 V) (hr : Blk V w.heap.size 25 #[.slice none 0 0, .int .i64 0, .slice none 0 0, .slice none 0 0, .slice none 0 0]) (hn : Blk V (w.heap.size + 1) 25 #[.slice none 0 0, .int .i64 0, .slice none 0 0, .slice none 0 0, .slice none 0 0]) :
  (V.cell? ⟨w.heap.size + 1, 0, none⟩ = some (.slice none 0 0) ∧ V.cell? ⟨w.heap.size + 1, 1, none⟩ = some (.int .i64 0) ∧ V.cell? ⟨w.heap.size + 1, 2, none⟩ = some (.slice none 0 0) ∧ V.cell? ⟨w.heap.size + 1, 3, none⟩ = some (.slice none 0 0) ∧ V.cell? ⟨w.heap.size + 1, 4, none⟩ = some (.slice none 0 0)) ∧
  (V.cell? ⟨w.heap.size, 0, none⟩ = some (.slice none 0 0) ∧ V.cell? ⟨w.heap.size, 1, none⟩ = some (.int .i64 0) ∧ V.cell? ⟨w.heap.size, 2, none⟩ = some (.slice none 0 0) ∧ V.cell? ⟨w.heap.size, 3, none⟩ = some (.slice none 0 0) ∧ V.cell? ⟨w.heap.size, 4, none⟩ = some (.slice none 0 0)) ∧
  (V.frozen? ⟨w.heap.size, 0, none⟩ = false ∧ V.frozen? ⟨w.heap.size, 1, none⟩ = false ∧ V.frozen? ⟨w.heap.size, 2, none⟩ = false ∧ V.frozen? ⟨w.heap.size, 3, none⟩ = false ∧ V.frozen? ⟨w.heap.size, 4, none⟩ = false) ∧
  Hid (Blk (V.setCells w.heap.size 0 [.slice none 0 0, .int .i64 0, .slice none 0 0, .slice none 0 0, .slice none 0 0]) w.heap.size 25 #[.slice none 0 0, .int .i64 0, .slice none 0 0, .slice none 0 0, .slice none 0 0]) ∧ Hid (Off Nob w (V.setCells w.heap.size 0 [.slice none 0 0, .int .i64 0, .slice none 0 0, .slice none 0 0, .slice none 0 0])) :=
 ⟨⟨hn.cell 0, hn.cell 1, hn.cell 2, hn.cell 3, hn.cell 4⟩, ⟨hr.cell 0, hr.cell 1, hr.cell 2, hr.cell 3, hr.cell 4⟩, ⟨hr.frozen 0, hr.frozen 1, hr.frozen 2, hr.frozen 3, hr.frozen 4⟩, hID (qep hr _ _ _ _ _), hID (qax (x.also o) (Nat.le_refl _) 0 _)⟩
structure R25 (z0 : World) (pb W n N : Nat) (ids : List Int) (LV : Value) (B : Option Nat) (I : Option (Nat × Nat)) (T A : Option Nat) (y : World) : Prop where
 o : Off Nob z0 y
 p : Blk y pb 62 #[.int .i64 (W : Int), LV]
 b : ∀ g, B = some g → y.ownsRow z0.heap.size 3 1 (.slice (some ⟨g, 0, none⟩) 0 0) 0 []
 i : ∀ g c, I = some (g, c) → y.ownsRow z0.heap.size 3 1 (.slice (some ⟨g, 0, none⟩) n c) n (ids.map (Value.int .i64))
 t : ∀ g, T = some g → y.ownsRow z0.heap.size 71 1 (.slice (some ⟨g, 0, none⟩) N N) N (List.replicate N (.int .u64 0))
 a : ∀ g, A = some g → Blk y g 25 #[.slice none 0 0, .int .i64 0, .slice none 0 0, .slice none 0 0, .slice none 0 0] ∧ z0.heap.size ≤ g
section
variable {z0 y y' : World} {pb W n N : Nat} {ids : List Int} {LV : Value} {B : Option Nat} {I : Option (Nat × Nat)} {T A : Option Nat}
theorem R25.go (h : R25 z0 pb W n N ids LV B I T A y) (o : Off Nob y y') : R25 z0 pb W n N ids LV B I T A y' where
 o := h.o.also o
 p := h.p.to (o.block _ h.p.lt id)
 b g e := qas (h.b g e) (fun k hk => o.block k ((h.b g e).lt k hk).2 id)
 i g c e := qas (h.i g c e) (fun k hk => o.block k ((h.i g c e).lt k hk).2 id)
 t g e := qas (h.t g e) (fun k hk => o.block k ((h.t g e).lt k hk).2 id)
 a g e := ⟨(h.a g e).1.to (o.block _ (h.a g e).1.lt id), (h.a g e).2⟩
theorem R25.ss (h : R25 z0 pb W n N ids LV B I T A y) : y.cell? ⟨pb, 0, none⟩ = some (.int .i64 (W : Int)) := h.p.cell 0
theorem R25.bs (h : R25 z0 pb W n N ids LV none I T A y) : R25 z0 pb W n N ids LV (some y.heap.size) I T A (y.alloc (.cells #[] 3)) :=
 { h.go (oAl oRf _) with b := fun g e => by obtain rfl := Option.some.inj e; exact World.ownsRow_made y #[] 0 h.o.size (by decide) rfl }
theorem R25.al (h : R25 z0 pb W n N ids LV B I T none y) : R25 z0 pb W n N ids LV B I T (some y.heap.size) (y.alloc (.cells #[.slice none 0 0, .int .i64 0, .slice none 0 0, .slice none 0 0, .slice none 0 0] 25)) :=
 { h.go (oAl oRf _) with a := fun g e => by obtain rfl := Option.some.inj e; exact ⟨Blk.new _ _ _, h.o.size⟩ }
theorem R25.mk' (h : R25 z0 pb W n N ids LV B I none A y) (oW : y'.ownsRow z0.heap.size 71 1 (.slice (some ⟨y.heap.size, 0, none⟩) N N) N (madeCells (Value.int .u64 0).cells (N * 1)).toList) (hg : y.grownBy y' none) : R25 z0 pb W n N ids LV B I (some y.heap.size) A y' :=
 { h.go (Off.grown oRf hg (fun k hk => by cases hk)) with t := fun g e => by obtain rfl := Option.some.inj e; rw [← qyc]; exact oW }
theorem R25.ap {bb gi gc : Nat} (h : R25 z0 pb W n N ids LV (some bb) none T A y) (oW : y'.ownsRow z0.heap.size 3 1 (.slice (some ⟨gi, 0, none⟩) n gc) n (ids.map (Value.int .i64))) (hg : y.grownBy y' (Value.slice (some ⟨bb, 0, none⟩) 0 0).ownBlock) : R25 z0 pb W n N ids LV none (some (gi, gc)) T A y' := by
 have hb := h.b bb rfl
 have oo : Off (fun k => k = bb) y y' := Off.grown oRf hg (fun k hk => .inl (by injection hk with hk; exact hk.symm))
 refine ⟨h.o.own oo (fun k hk => by rw [hk]; exact (hb.lt bb rfl).1), h.p.to (oo.block _ h.p.lt (fun e => qda hb h.p (by decide) e.symm)), fun g e => (by cases e), fun g c e => (by cases e; exact oW), fun g e => ?_, fun g e => ?_⟩
 ·exact qas (h.t g e) (fun k hk => oo.block k ((h.t g e).lt k hk).2 (fun e2 => qeo hb (h.t g e) (by decide) ((Option.some.inj hk).trans e2).symm))
 ·exact ⟨(h.a g e).1.to (oo.block _ (h.a g e).1.lt (fun e2 => qda hb (h.a g e).1 (by decide) e2.symm)), (h.a g e).2⟩
theorem R25.fin {gi gc gt tb : Nat} (h : R25 z0 pb W n N ids LV B (some (gi, gc)) (some gt) (some tb) y) : BldI z0 pb W n N ids LV (.slice none 0 0) (.slice none 0 0) (List.replicate N (.int .u64 0)) tb gi gc gt (y.setCells tb 0 [.slice (some ⟨gi, 0, none⟩) n gc, .int .i64 (W : Int), .slice (some ⟨gt, 0, none⟩) N N, .slice none 0 0, .slice none 0 0]) :=
 have ha := h.a tb rfl
 ⟨qax h.o ha.2 _ _, qdx h.p (qva h.p ha.1 (by decide)) _ _, qep ha.1 _ _ _ _ _, qcp (h.i _ _ rfl) (qda (h.i _ _ rfl) ha.1 (by decide)) _ _, qcp (h.t _ rfl) (qda (h.t _ rfl) ha.1 (by decide)) _ _, ha.2⟩
end
section
variable {z0 V V' : World} {pb W n N tb gi gc gt : Nat} {ids : List Int} {LV st fi : Value} {tab : List Value}
theorem BldI.off (h : BldI z0 pb W n N ids LV st fi tab tb gi gc gt V) (o : Off Nob V V') : BldI z0 pb W n N ids LV st fi tab tb gi gc gt V' := by
 obtain ⟨h1, h2, h3, h4, h5, h6⟩ := h
 exact ⟨h1.also o, h2.to (o.block _ h2.lt (fun h => h)), h3.to (o.block _ h3.lt (fun h => h)), qas h4 (fun g hg => o.block _ (h4.lt g hg).2 (fun h => h)), qas h5 (fun g hg => o.block _ (h5.lt g hg).2 (fun h => h)), h6⟩
theorem BldI.ne (h : BldI z0 pb W n N ids LV st fi tab tb gi gc gt V) : gi ≠ tb ∧ gt ≠ tb ∧ pb ≠ tb ∧ gi ≠ gt ∧ pb ≠ gt := by
 obtain ⟨h1, h2, h3, h4, h5, h6⟩ := h
 exact ⟨qda h4 h3 (by decide), qda h5 h3 (by decide), qva h2 h3 (by decide), qeo h4 h5 (by decide), Ne.symm (qda h5 h2 (by decide))⟩
theorem BldI.lts (h : BldI z0 pb W n N ids LV st fi tab tb gi gc gt V) : pb < V.heap.size ∧ tb < V.heap.size ∧ gi < V.heap.size ∧ gt < V.heap.size := by
 obtain ⟨h1, h2, h3, h4, h5, h6⟩ := h
 exact ⟨h2.lt, h3.lt, (h4.lt gi rfl).2, (h5.lt gt rfl).2⟩
theorem BldI.put3 (h : BldI z0 pb W n N ids LV st fi tab tb gi gc gt V) (v : Value) : BldI z0 pb W n N ids LV v fi tab tb gi gc gt (V.setCell ⟨tb, 3, none⟩ v) := by
 obtain ⟨e1, e2, e3, _⟩ := h.ne
 obtain ⟨h1, h2, h3, h4, h5, h6⟩ := h
 exact ⟨h1.put (p := ⟨tb, 3, none⟩) (.inr h6) _, h2.far (p := ⟨tb, 3, none⟩) e3 _, h3.put 3 v, qcp h4 e1 3 [v], qcp h5 e2 3 [v], h6⟩
theorem BldI.put4 (h : BldI z0 pb W n N ids LV st fi tab tb gi gc gt V) (v : Value) : BldI z0 pb W n N ids LV st v tab tb gi gc gt (V.setCell ⟨tb, 4, none⟩ v) := by
 obtain ⟨e1, e2, e3, _⟩ := h.ne
 obtain ⟨h1, h2, h3, h4, h5, h6⟩ := h
 exact ⟨h1.put (p := ⟨tb, 4, none⟩) (.inr h6) _, h2.far (p := ⟨tb, 4, none⟩) e3 _, h3.put 4 v, qcp h4 e1 4 [v], qcp h5 e2 4 [v], h6⟩
theorem BldI.putT (h : BldI z0 pb W n N ids LV st fi tab tb gi gc gt V) (k : Nat) (v : Value) : BldI z0 pb W n N ids LV st fi (tab.set k v) tb gi gc gt (V.setCell ⟨gt, k, none⟩ v) := by
 obtain ⟨e1, e2, e3, e4, e5⟩ := h.ne
 obtain ⟨h1, h2, h3, h4, h5, h6⟩ := h
 exact ⟨h1.put (p := ⟨gt, k, none⟩) (.inr (h5.lt gt rfl).1) _, h2.far (p := ⟨gt, k, none⟩) e5 _, h3.far (p := ⟨gt, k, none⟩) (Ne.symm e2) _, qcp h4 e4 k [v], (h5.stored k v).1, h6⟩
theorem BldI.grown (h : BldI z0 pb W n N ids LV st fi tab tb gi gc gt V) {x : Value} {N2 : Nat} (hg : V.grownBy V' x.ownBlock) (hx : ∀ k, x.ownBlock = some k → N2 ≤ k) (hz : z0.heap.size ≤ N2) (hn : pb < N2 ∧ tb < N2 ∧ gi < N2 ∧ gt < N2) : BldI z0 pb W n N ids LV st fi tab tb gi gc gt V' := by
 obtain ⟨h1, h2, h3, h4, h5, h6⟩ := h
 have o : Off (fun k => N2 ≤ k) V V' := Off.grown oRf hg (fun k hk => .inl (hx k hk))
 refine ⟨h1.own o (fun k hk => by omega), h2.to (o.block _ h2.lt (fun e => by omega)), h3.to (o.block _ h3.lt (fun e => by omega)), qas h4 (fun g hg => o.block _ (h4.lt g hg).2 (fun e => ?_)), qas h5 (fun g hg => o.block _ (h5.lt g hg).2 (fun e => ?_)), h6⟩
 ·have e2 : gi = g := by simpa [Value.ownBlock] using hg
  omega
 ·have e2 : gt = g := by simpa [Value.ownBlock] using hg
  omega
end
end
section
open Go.ChangeShapes Go.WideShapes Go.ChangeAt Go.RowKit Go.Deep
theorem qre : ∀ (n : Nat) (ys : List Value), ys.length = n * 7 → (∀ j, j < n → ∃ e : El, (ys.drop (j * 7)).take 7 = elV e ∧ ElB e) → ∃ p : List El, p.length = n ∧ ys = p.flatMap elV ∧ ∀ e ∈ p, ElB e
 | 0, ys, hl, _ => ⟨[], rfl, List.eq_nil_of_length_eq_zero (by omega), fun e h => by cases h⟩
 | n + 1, ys, hl, h => by
  obtain ⟨e, he, hb⟩ := h 0 (Nat.succ_pos _)
  obtain ⟨p, h1, h2, h3⟩ := qre n (ys.drop 7) (by rw [List.length_drop]; omega) (fun j hj => by
   obtain ⟨e, he, hb⟩ := h (j + 1) (by omega)
   refine ⟨e, ?_, hb⟩
   rw [List.drop_drop, ← he]
   congr 2
   omega)
  refine ⟨e :: p, by rw [List.length_cons, h1], ?_, fun x hx => ?_⟩
  ·rw [List.flatMap_cons, ← h2, ← he, Nat.zero_mul, List.drop_zero, List.take_append_drop]
  ·rcases List.mem_cons.1 hx with rfl | hx
   ·exact hb
   ·exact h3 x hx
theorem el_of {ys : List Value} (h7 : ys.length = 7) (h0 : ∃ v, ys[0]? = some v ∧ okV none v) (h1 : ∃ v, ys[1]? = some v ∧ okV (some .u64) v) (h2 : ∃ v, ys[2]? = some v ∧ okV (some .u64) v) (h3 : ∃ v, ys[3]? = some v ∧ okV (some .u64) v) (h4 : ∃ v, ys[4]? = some v ∧ okV (some .u64) v) (h5 : ∃ v, ys[5]? = some v ∧ okV (some .i64) v) (h6 : ∃ v, ys[6]? = some v ∧ okV (some .i64) v) : ∃ e : El, ys = elV e ∧ ElB e := by
 match ys, h7 with
 | [a, b, c, d, e, f, g], _ =>
  obtain ⟨_, e0, o0⟩ := h0
  obtain ⟨_, e1, o1⟩ := h1
  obtain ⟨_, e2, o2⟩ := h2
  obtain ⟨_, e3, o3⟩ := h3
  obtain ⟨_, e4, o4⟩ := h4
  obtain ⟨_, e5, o5⟩ := h5
  obtain ⟨_, e6, o6⟩ := h6
  simp at e0 e1 e2 e3 e4 e5 e6
  subst e0 e1 e2 e3 e4 e5 e6
  obtain ⟨x0, rfl⟩ := o0
  obtain ⟨x1, rfl, w1⟩ := o1
  obtain ⟨x2, rfl, w2⟩ := o2
  obtain ⟨x3, rfl, w3⟩ := o3
  obtain ⟨x4, rfl, w4⟩ := o4
  obtain ⟨x5, rfl, w5⟩ := qq1 o5
  obtain ⟨x6, rfl, w6⟩ := qq1 o6
  have b1 := bounds_u64 w1
  have b2 := bounds_u64 w2
  have b3 := bounds_u64 w3
  have b4 := bounds_u64 w4
  obtain ⟨n1, rfl⟩ : ∃ n : Nat, x1 = (n : Int) := ⟨x1.toNat, by omega⟩
  obtain ⟨n2, rfl⟩ : ∃ n : Nat, x2 = (n : Int) := ⟨x2.toNat, by omega⟩
  obtain ⟨n3, rfl⟩ : ∃ n : Nat, x3 = (n : Int) := ⟨x3.toNat, by omega⟩
  obtain ⟨n4, rfl⟩ : ∃ n : Nat, x4 = (n : Int) := ⟨x4.toNat, by omega⟩
  exact ⟨⟨x0, (n1, n2, n3, n4), x5, x6⟩, rfl, ⟨⟨(show n1 < 18446744073709551616 by omega), (show n2 < 18446744073709551616 by omega), (show n3 < 18446744073709551616 by omega), (show n4 < 18446744073709551616 by omega)⟩, w5, w6⟩⟩
section
variable {H : Type} {enc : TypeId × Value → H} {P : Program} {w : World} {b0 base : Nat} {spare : Nat → Bool} {held : Bool} {r : Reach} {t e e2 : TypeId} {v : Value} {d : DataW H} {ps : List MemPlace}
theorem qo6 (ht : P.underlying t = some (.slice e)) (he : P.underlying e = some (.int .i64)) (hce : P.cellsOf e = 1) (hval : Value.okWide P w r b0 t v) (hd : DataW.Trod enc P w base spare held t v d ps) :
  ∃ zs : List Int, Rd w (Old w) 1 v zs.length (zs.map (Value.int .i64)) ∧ ∀ z ∈ zs, -9223372036854775808 ≤ z ∧ z ≤ 9223372036854775807 := by
 obtain ⟨n, zs, hr, hz⟩ := qp7 ht he hce hval hd
 have hl : (zs.map (Value.int .i64)).length = n * 1 := by obtain ⟨_, _, _, _, hl, _⟩ := hr; exact hl
 rw [List.length_map, Nat.mul_one] at hl
 subst hl
 exact ⟨zs, hr, fun z h => by have := bounds_i64 (hz z h); omega⟩
theorem qqg (ht : P.underlying t = some (.slice e)) (he : P.underlying e = some (.slice e2)) (hc1 : P.cellsOf e = 1) (hc2 : P.cellsOf e2 = 7) (k0 : qb1 P 4 e2 0 = some none) (k1 : qb1 P 4 e2 1 = some (some .u64)) (k2 : qb1 P 4 e2 2 = some (some .u64)) (k3 : qb1 P 4 e2 3 = some (some .u64)) (k4 : qb1 P 4 e2 4 = some (some .u64)) (k5 : qb1 P 4 e2 5 = some (some .i64)) (k6 : qb1 P 4 e2 6 = some (some .i64)) (hval : Value.okWide P w r b0 t v) (hd : DataW.Trod enc P w base spare held t v d ps) :
  ∃ pl : List (List El), RdLs EP w (Old w) v pl ∧ ∀ p ∈ pl, ∀ e ∈ p, ElB e := by
 obtain ⟨fuel, hf⟩ := hd
 obtain ⟨a, len, cap, rfl⟩ := okWide_slice ht hval
 obtain ⟨v, n, xs, hcs, hr, _, fu, hx⟩ := trod_slice ht 1 hc1 (by decide) hf
 have hv : v = .slice a len cap := by simpa [Value.cells] using hcs.symm
 subst hv
 have hxl : xs.length = n * 1 := by obtain ⟨_, _, _, _, hl, _⟩ := hr; exact hl
 rw [Nat.mul_one] at hxl
 have key : ∀ i, i < n → ∃ (u : Value) (p : List El), xs[i]? = some u ∧ EP w (Old w) u p ∧ ∀ e ∈ p, ElB e := by
  intro i hi
  obtain ⟨y, hy⟩ := hx i hi
  obtain ⟨u, m, ys, hu, hru, _, fu2, hx2⟩ := trod_slice he 7 hc2 (by decide) hy
  have hyl : ys.length = m * 7 := by obtain ⟨_, _, _, _, hl, _⟩ := hru; exact hl
  obtain ⟨p, hp, rfl, hpb⟩ := qre m ys hyl (fun j hj => by
   obtain ⟨y2, hy2⟩ := hx2 j hj
   have h7 : ((ys.drop (j * 7)).take 7).length = 7 := by
    rw [List.length_take, List.length_drop, hyl]
    have : j * 7 + 7 ≤ m * 7 := by omega
    omega
   exact el_of h7 (qcb 4 e2 0 _ k0 fu2 _ _ hy2) (qcb 4 e2 1 _ k1 fu2 _ _ hy2) (qcb 4 e2 2 _ k2 fu2 _ _ hy2) (qcb 4 e2 3 _ k3 fu2 _ _ hy2) (qcb 4 e2 4 _ k4 fu2 _ _ hy2) (qcb 4 e2 5 _ k5 fu2 _ _ hy2) (qcb 4 e2 6 _ k6 fu2 _ _ hy2))
  refine ⟨u, p, ?_, ?_, hpb⟩
  ·have := congrArg (fun l => l[0]?) hu
   simp only [List.getElem?_cons_zero] at this
   rw [List.getElem?_take_of_lt (by decide), List.getElem?_drop] at this
   rw [← this]
   congr 1
   omega
  ·unfold EP RdL
   rw [hp]
   exact hru
 have pick : ∀ m, m ≤ n → ∃ pl : List (List El), pl.length = m ∧ (∀ (i : Nat) (u : Value) (p : List El), xs[i]? = some u → pl[i]? = some p → EP w (Old w) u p) ∧ ∀ p ∈ pl, ∀ e ∈ p, ElB e := by
  intro m
  induction m with
  | zero => exact fun _ => ⟨[], rfl, fun i u p _ h => by simp at h, fun p h => by cases h⟩
  | succ m ih =>
   intro hm
   obtain ⟨pl, h1, h2, h3⟩ := ih (by omega)
   obtain ⟨u, p, hu, hp, hb⟩ := key m (by omega)
   refine ⟨pl ++ [p], by rw [List.length_append, h1]; rfl, fun i u' p' hu' hp' => ?_, fun p' hp' => ?_⟩
   ·rcases Nat.lt_or_ge i pl.length with h | h
    ·rw [List.getElem?_append_left h] at hp'
     exact h2 i u' p' hu' hp'
    ·rw [List.getElem?_append_right h] at hp'
     have e0 : i - pl.length = 0 := by
      have := (List.getElem?_eq_some_iff.1 hp').1
      simp at this
      omega
     rw [e0] at hp'
     have e1 : i = m := by omega
     subst e1
     rw [hu] at hu'
     simp at hu' hp'
     subst hu' hp'
     exact hp
   ·rcases List.mem_append.1 hp' with h | h
    ·exact h3 p' h
    ·rw [List.mem_singleton.1 h]; exact hb
 obtain ⟨pl, h1, h2, h3⟩ := pick n (Nat.le_refl _)
 refine ⟨pl, ⟨xs, by rw [hxl, h1], by rw [h1]; exact hr, h2⟩, h3⟩
end
end
end Go.Proofs.YtlgjaefcfnndhaaGreatDoor
