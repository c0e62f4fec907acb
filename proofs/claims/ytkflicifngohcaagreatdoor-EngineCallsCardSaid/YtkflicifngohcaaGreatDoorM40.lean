/-
 What engine.Setup and engine.Byte ask, where it is wrong.
-/
import Derived.Test.YtkflicifngohcaaGreatDoorM27
import Derived.Test.YtkflicifngohcaaGreatDoorM39
import Derived.Test.YtkflicifngohcaaGreatDoorM24
import Derived.BigQuiet
import Derived.Deep.QuietTactic
import Derived.Test.YtkflicifngohcaaGreatDoorM25
set_option linter.unusedVariables false
set_option linter.unusedSimpArgs false
namespace Go.Proofs.YtkflicifngohcaaGreatDoor
open Go.RowKit
set_option maxRecDepth 100000
def setAskE (l : LayN) (ids : List Int) (wd : Int) (T S F : List Nat) : Int := if setErr ids wd T S F = 0 then if wd = (l.a : Int) ∧ ids.length = l.b then 0 else 2 else setErr ids wd T S F
set_option maxHeartbeats 1000000 in
theorem nask_setupE (l : LayN) (w : World) (gs gl : Nat) (VI VT VS VF : Value) (ids : List Int) (wd : Int) (T S Fi : List Nat) (h : SetV w VI VT VS VF ids wd T S Fi) (hs : Blk w gs 25 #[VI, .int .i64 wd, VT, VS, VF]) (hl : Blk w gl 33 #[.int .i64 l.a, .int .i64 l.b, .int .i64 l.t, .int .i64 l.s, .int .i64 l.f, .int .i64 l.st, .int .i64 l.n, .int .i64 l.h]) (hZ : TzT w) :
  Calls Tryz.prog 41 #[.pointer (some ⟨gs, 0, none⟩), .pointer (some ⟨gl, 0, none⟩)] w (RetV w (.int .i64 (setAskE l ids wd T S Fi))) := by
 have HP := hID (n_Check ids wd T S Fi w VI VT VS VF h hZ)
 obtain ⟨AI, ci, rfl, _⟩ := h.i.form
 obtain ⟨AT, ct, rfl, _⟩ := h.t.form
 obtain ⟨AS, cs, rfl, _⟩ := h.s.form
 obtain ⟨AF, cf, rfl, _⟩ := h.f.form
 have HS := hID hs
 have HL := hID hl
 have HE : Hid (∀ c, setErr ids wd T S Fi = c → setAskE l ids wd T S Fi = if c = 0 then if wd = (l.a : Int) ∧ ids.length = l.b then 0 else 2 else c) := hID (fun c hc => by unfold setAskE; rw [hc])
 clear h hZ hs hl
 have s0 := HS.out.cell 0
 have s1 := HS.out.cell 1
 have s2 := HS.out.cell 2
 have s3 := HS.out.cell 3
 have s4 := HS.out.cell 4
 obtain ⟨c, hc⟩ : ∃ c, setErr ids wd T S Fi = c := ⟨_, rfl⟩
 rw [hc] at HP
 rw [HE.out c hc]
 clear HE hc
 by_cases h0 : c = 0
 ·subst h0
  rw [if_pos rfl]
  by_cases h1 : wd = (l.a : Int)
  ·have e1 : (wd != (l.a : Int)) = false := by rw [h1]; simp
   by_cases h2 : ids.length = l.b
   ·have e2 : ((ids.length : Int) != (l.b : Int)) = false := by rw [h2]; simp
    rw [if_pos ⟨h1, h2⟩]
    clear h1 h2
    go_enter Tryz.func41, Tryz.ntmps41
    go_wp2_with fail
    refine HP.out.mono ?_
    rintro e w1 ⟨rfl, o1⟩
    clear s0 s1 s2 s3 s4
    have s0 := (HS.out.to (o1.block _ HS.out.lt id)).cell 0
    have s1 := (HS.out.to (o1.block _ HS.out.lt id)).cell 1
    have l0 := (HL.out.to (o1.block _ HL.out.lt id)).cell 0
    have l1 := (HL.out.to (o1.block _ HL.out.lt id)).cell 1
    have HO := hID o1
    clear o1
    go_wp2_with fail
    go_ret
    exact ⟨rfl, HO.out⟩
   ·have e2 : ((ids.length : Int) != (l.b : Int)) = true := by simp; omega
    rw [if_neg (fun h => h2 h.2)]
    clear h1
    go_enter Tryz.func41, Tryz.ntmps41
    go_wp2_with fail
    refine HP.out.mono ?_
    rintro e w1 ⟨rfl, o1⟩
    clear s0 s1 s2 s3 s4
    have s0 := (HS.out.to (o1.block _ HS.out.lt id)).cell 0
    have s1 := (HS.out.to (o1.block _ HS.out.lt id)).cell 1
    have l0 := (HL.out.to (o1.block _ HL.out.lt id)).cell 0
    have l1 := (HL.out.to (o1.block _ HL.out.lt id)).cell 1
    have HO := hID o1
    clear o1
    go_wp2_with fail
    go_ret
    exact ⟨rfl, HO.out⟩
  ·have e1 : (wd != (l.a : Int)) = true := by simpa using h1
   rw [if_neg (fun h => h1 h.1)]
   go_enter Tryz.func41, Tryz.ntmps41
   go_wp2_with fail
   refine HP.out.mono ?_
   rintro e w1 ⟨rfl, o1⟩
   clear s0 s1 s2 s3 s4
   have s0 := (HS.out.to (o1.block _ HS.out.lt id)).cell 0
   have s1 := (HS.out.to (o1.block _ HS.out.lt id)).cell 1
   have l0 := (HL.out.to (o1.block _ HL.out.lt id)).cell 0
   have l1 := (HL.out.to (o1.block _ HL.out.lt id)).cell 1
   have HO := hID o1
   clear o1
   go_wp2_with fail
   go_ret
   exact ⟨rfl, HO.out⟩
 ·obtain ⟨e1, e2⟩ := askE_ne h0
  rw [if_neg h0]
  go_enter Tryz.func41, Tryz.ntmps41
  go_wp2_with fail
  refine HP.out.mono ?_
  rintro e w1 ⟨rfl, o1⟩
  have HO := hID o1
  clear o1 s0 s1 s2 s3 s4
  go_wp2_with fail
  go_ret
  exact ⟨rfl, HO.out⟩
theorem nask_byteE (m : BitVec 64) (hm : isM m = false) (w : World) (g : Nat) (h : w.cell? ⟨g, 0, none⟩ = some (.int .u64 (n64 m))) :
  Calls Tryz.prog 45 #[.pointer (some ⟨g, 0, none⟩)] w (RetV w (.int .i64 2)) := by
 have HI := hID (is_any m w)
 rw [hm] at HI
 go_enter Tryz.func45, Tryz.ntmps45
 go_wp2_with fail
 refine HI.out.mono ?_
 rintro e w1 ⟨rfl, rfl⟩
 go_wp2_with fail
 go_ret
 exact ⟨rfl, Off.refl _ _⟩
end Go.Proofs.YtkflicifngohcaaGreatDoor

namespace Go.Proofs.YtkflicifngohcaaGreatDoor
open Go.RowKit
attribute [local go_sem] bits_and_u64 bits_or_u64 bits_xor_u64 bits_andNot_u64 wrap_u64 bv_add bv_neg bv_sub bv_mul
set_option maxRecDepth 100000
theorem RfTo.pre {w w0 w1 : World} {F : Nat → Prop} {r : Nat} {C C' : List (BitVec 64)} {E E' : List Ev} (h : Rf w F r C E) (o : Off Nob w w0) (k : RfTo w0 F r C' E' w1) : RfTo w F r C' E' w1 := by
 have ho : Off F w w1 := o.ofNob.also k.2
 exact ⟨k.1.mono (fun i hi => hi.elim .inl (fun hi => .inr ⟨Nat.le_trans o.size hi.1, hi.2⟩)) (Grow.lt h.lt ho.size), ho⟩
theorem RfTo.nob {W0 V V0 : World} {F : Nat → Prop} {r : Nat} {C : List (BitVec 64)} {E : List Ev} (h : RfTo W0 F r C E V) (o : Off Nob V V0) : RfTo W0 F r C E V0 := h.trans (RfTo.off h.1 o)
theorem apTo_at {P : List (Int × Int)} {i k : Nat} (h : apTo P i k = true) (hx : apB (pAt P i).1 (pAt P i).2 (pAt P k).1 (pAt P k).2 = true) : apTo P i (k + 1) = true := by
 unfold apTo at h ⊢
 rw [List.range_succ, List.all_append, h]
 simpa using hx
theorem apAll_no {P : List (Int × Int)} {i k : Nat} (hi : i < P.length) (hk : k < i) (hx : apB (pAt P i).1 (pAt P i).2 (pAt P k).1 (pAt P k).2 = false) : apAll P = false := by
 have : ¬ apAll P = true := fun h => by
  have h1 := List.all_eq_true.1 h i (List.mem_range.2 hi)
  have h2 := List.all_eq_true.1 h1 k (List.mem_range.2 hk)
  rw [hx] at h2
  cases h2
 simpa using this
theorem apAll_yes {P : List (Int × Int)} {n : Nat} (hn : P.length = n) (h : ∀ i, i < n → apTo P i i = true) : apAll P = true := by
 unfold apAll
 rw [hn]
 exact List.all_eq_true.2 (fun i hi => h i (List.mem_range.1 hi))
set_option maxHeartbeats 4000000 in
theorem rasked_any (l : Lay) {w : World} {F : Nat → Prop} {r : Nat} {C : List (BitVec 64)} {E : List Ev} (h : Rf w F r C E) :
  Calls Tryz.prog 61 #[.pointer (some ⟨r, 0, none⟩), .agg #[.int .i64 l.a, .int .i64 l.b, .int .i64 l.t, .int .i64 l.s, .int .i64 l.f, .int .i64 l.st, .int .i64 l.n, .int .i64 l.h]] w fun e w' => e = .returned (.int .i64 (askE C.length l)) ∧ Off Nob w w' := by
 have hC := h.n2
 have HA : Hid (∀ W, Off Nob w W → Rf W F r C E) := hID (fun W o => h.keep o (fun _ _ hn => hn))
 clear h
 have X0 : Hid (Off Nob w (w.alloc (.cells #[.int .i64 l.a, .int .i64 l.b, .int .i64 l.t, .int .i64 l.s, .int .i64 l.f, .int .i64 l.st, .int .i64 l.n, .int .i64 l.h] 33)) ∧ Blk (w.alloc (.cells #[.int .i64 l.a, .int .i64 l.b, .int .i64 l.t, .int .i64 l.s, .int .i64 l.f, .int .i64 l.st, .int .i64 l.n, .int .i64 l.h] 33)) w.heap.size 33 #[.int .i64 l.a, .int .i64 l.b, .int .i64 l.t, .int .i64 l.s, .int .i64 l.f, .int .i64 l.st, .int .i64 l.n, .int .i64 l.h]) := hID ⟨(Off.refl _ _).alloc _, Blk.new _ _ _⟩
 have GC : Hid (∀ W, Off Nob (w.alloc (.cells #[.int .i64 l.a, .int .i64 l.b, .int .i64 l.t, .int .i64 l.s, .int .i64 l.f, .int .i64 l.st, .int .i64 l.n, .int .i64 l.h] 33)) W → W.cell? ⟨w.heap.size, 0, none⟩ = some (.int .i64 l.a) ∧ W.cell? ⟨w.heap.size, 1, none⟩ = some (.int .i64 l.b) ∧ W.cell? ⟨w.heap.size, 2, none⟩ = some (.int .i64 l.t) ∧ W.cell? ⟨w.heap.size, 3, none⟩ = some (.int .i64 l.s) ∧ W.cell? ⟨w.heap.size, 4, none⟩ = some (.int .i64 l.f) ∧ W.cell? ⟨w.heap.size, 5, none⟩ = some (.int .i64 l.st) ∧ W.cell? ⟨w.heap.size, 6, none⟩ = some (.int .i64 l.n) ∧ W.cell? ⟨w.heap.size, 7, none⟩ = some (.int .i64 l.h)) := hID (fun W o => by
  have h := X0.out.2.to (o.block _ X0.out.2.lt id)
  exact ⟨h.cell 0, h.cell 1, h.cell 2, h.cell 3, h.cell 4, h.cell 5, h.cell 6, h.cell 7⟩)
 by_cases hr : 1 ≤ l.a ∧ l.a ≤ 4 ∧ 1 ≤ l.b ∧ l.b ≤ 16
 ·have HLW : Hid ((∀ k, k < 6 → hasE C.length (pAt l.parts k).1 (pAt l.parts k).2 ≠ 0 → askE C.length l = 7) ∧ ((∀ k, k < 6 → hasE C.length (pAt l.parts k).1 (pAt l.parts k).2 = 0) → askE C.length l = if apAll l.parts = true then 0 else 2)) := hID ⟨fun k hk h => askE_bad hk h, fun h => askE_all hr h⟩
  obtain ⟨a1, a4, b1, b16⟩ := hr
  have HR : Hid (∀ W, Calls Tryz.prog 75 #[.int .i64 l.a, .int .i64 l.b] W fun e w' => e = .returned (.bool true) ∧ W = w') := hID (fun W => rright_yes l.a l.b a1 a4 b1 b16 W)
  have HP := hID (rparts_yes l a1 a4 b1 b16)
  have HPC : Hid (partC l.parts = (#[.int .i64 l.t, .int .i64 (256 * l.a), .int .i64 l.s, .int .i64 l.a, .int .i64 l.f, .int .i64 (l.b * l.a), .int .i64 l.st, .int .i64 l.a, .int .i64 l.n, .int .i64 l.a, .int .i64 l.h, .int .i64 l.b] : Array Value).toList ∧ l.parts.length = 6) := hID ⟨rfl, rfl⟩
  clear a1 a4 b1 b16
  obtain ⟨c, hc⟩ : ∃ c, askE C.length l = c := ⟨_, rfl⟩
  rw [hc] at HLW ⊢
  clear hc
  go_enter Tryz.func61, Tryz.ntmps61
  go_wp2_with fail
  revert X0 GC
  generalize (w.alloc (.cells #[.int .i64 l.a, .int .i64 l.b, .int .i64 l.t, .int .i64 l.s, .int .i64 l.f, .int .i64 l.st, .int .i64 l.n, .int .i64 l.h] 33)) = w0
  intro X0 GC
  refine (HR.out _).mono ?_
  rintro e w1 ⟨rfl, rfl⟩
  obtain ⟨c0, c1, c2, c3, c4, c5, c6, c7⟩ := GC.out _ (Off.refl _ _)
  go_wp2_with fail
  clear c0 c1 c2 c3 c4 c5 c6 c7
  refine (HP.out _).mono ?_
  rintro e w1 ⟨g, rfl, hb, o1⟩
  have X1 := hID (And.intro (X0.out.1.also o1) hb)
  clear hb o1
  obtain ⟨P, hPe⟩ : ∃ P, l.parts = P := ⟨_, rfl⟩
  rw [hPe] at HPC HLW
  clear hPe
  have HC : Hid (∀ W, Off Nob w1 W → ∀ k, k < 6 → W.cell? ⟨g, k * 2, none⟩ = some (.int .i64 (pAt P k).1) ∧ W.cell? ⟨g, k * 2 + 1, none⟩ = some (.int .i64 (pAt P k).2)) := hID (fun W o k hk => by
   obtain ⟨e1, e2⟩ := partC_at P k (by rw [HPC.out.2]; exact hk)
   rw [HPC.out.1, Nat.mul_comm 2 k] at e1 e2
   have hb := X1.out.2.to (o.block _ X1.out.2.lt id)
   exact ⟨(hb.cell _).trans (by simpa using e1), (hb.cell _).trans (by simpa using e2)⟩)
  clear HP
  go_wp2_with fail
  go_loopw [6] (fun p wr => ∃ k : Nat, p = .int .i64 (k : Int) ∧ k ≤ 6 ∧ Off Nob w1 wr ∧ ∀ j, j < k → hasE C.length (pAt P j).1 (pAt P j).2 = 0) (fun p wr => 6 - (intOf p).toNat)
  case atStart => exact ⟨0, rfl, by decide, Off.refl _ _, fun j hj => by omega⟩
  case round =>
   obtain ⟨k, rfl, hk, ho, hall⟩ := hrel
   have HO := hID (And.intro ho hall)
   clear ho hall
   by_cases hlt : k < 6
   ·have d1 : decide ((k : Int) < 6) = true := decide_eq_true (by omega)
    have i0 : (0 : Int) ≤ (k : Int) := by omega
    have i1 : (k : Int) < 6 := by omega
    obtain ⟨c0, c1⟩ := HC.out _ HO.out.1 k hlt
    obtain ⟨x, y, hxy⟩ : ∃ x y, pAt P k = (x, y) := ⟨_, _, rfl⟩
    have HXY := hID hxy
    rw [hxy] at c0 c1
    clear hxy
    have HD : Hid (Off Nob w1 wr.drew) := hID (HO.out.1.also (Off.drew (Off.refl _ _)))
    have hh := fun W (o : Off Nob w1 W) => rhas_any (HA.out _ (X1.out.1.also o)) x y
    rcases hasE_or C.length x y with hz | hz
    ·have HN0 : Hid (hasE C.length (pAt P k).1 (pAt P k).2 = 0) := hID (by rw [HXY.out]; exact hz)
     rw [hz] at hh
     have HH := hID hh
     clear hh hz
     go_wp2_with fail
     go_region_held3 (fun W => W.cell? ⟨g, k * 2, none⟩ = some (.int .i64 x) ∧ W.cell? ⟨g, k * 2 + 1, none⟩ = some (.int .i64 y))
      (first | with_reducible assumption | go_keep)
      (first
       | (go_at_call 102; refine (HH.out _ HD.out).mono ?_; rintro e w2 ⟨rfl, rfl⟩))
     go_wp2_with fail
     go_roundw
     case rel => exact ⟨k + 1, by go_num, by omega, HD.out, fun j hj => by
      by_cases e : j = k
      ·rw [e]; exact HN0.out
      ·exact HO.out.2 j (by omega)⟩
     case measure => simp [intOf]; omega
    ·have HN7 : Hid (hasE C.length (pAt P k).1 (pAt P k).2 ≠ 0) := hID (by rw [HXY.out]; intro e; rw [hz] at e; exact absurd e (by decide))
     rw [hz] at hh
     have HH := hID hh
     clear hh hz
     go_wp2_with fail
     go_region_held3 (fun W => W.cell? ⟨g, k * 2, none⟩ = some (.int .i64 x) ∧ W.cell? ⟨g, k * 2 + 1, none⟩ = some (.int .i64 y))
      (first | with_reducible assumption | go_keep)
      (first
       | (go_at_call 102; refine (HH.out _ HD.out).mono ?_; rintro e w2 ⟨rfl, rfl⟩))
     go_wp2_with fail
     go_ret
     exact ⟨by rw [HLW.out.1 k hlt HN7.out]; rfl, X1.out.1.also HD.out⟩
   ·obtain rfl : k = 6 := by omega
    have d1 : decide ((((6 : Nat) : Int)) < 6) = false := by decide
    have HFIT : Hid (∀ j, j < 6 → 0 ≤ (pAt P j).1 ∧ 0 ≤ (pAt P j).2 ∧ (pAt P j).1 + (pAt P j).2 ≤ 65536) := hID (fun j hj => by have := hasE_fit (HO.out.2 j hj); omega)
    have HE := hID (HLW.out.2 HO.out.2)
    have O1 := hID HO.out.1
    clear HO HLW
    go_wp2_with fail
    go_loopw [8] (fun p wq => ∃ i : Nat, p = .int .i64 (i : Int) ∧ i ≤ 6 ∧ Off Nob w1 wq ∧ ∀ j, j < i → apTo P j j = true) (fun p wq => 6 - (intOf p).toNat)
    case atStart => exact ⟨0, rfl, by decide, O1.out, fun j hj => by omega⟩
    case round =>
     obtain ⟨i, rfl, hi, ho, hall⟩ := hrel
     have HO := hID (And.intro ho hall)
     clear ho hall O1
     by_cases hlt : i < 6
     ·have d2 : decide ((i : Int) < 6) = true := decide_eq_true (by omega)
      go_wp2_with fail
      go_loopw [9] (fun p wz => ∃ k : Nat, p = .int .i64 (k : Int) ∧ k ≤ i ∧ Off Nob w1 wz ∧ apTo P i k = true) (fun p wz => i - (intOf p).toNat)
      case atStart => exact ⟨0, rfl, Nat.zero_le _, HO.out.1, rfl⟩
      case round =>
       obtain ⟨k, rfl, hk, ho, hap⟩ := hrel
       have HI := hID (And.intro ho hap)
       clear ho hap
       by_cases hlk : k < i
       ·have d3 : decide ((k : Int) < (i : Int)) = true := decide_eq_true (by omega)
        obtain ⟨e0, e1⟩ := HC.out _ HI.out.1 i hlt
        obtain ⟨c0, c1⟩ := HC.out _ HI.out.1 k (by omega)
        obtain ⟨f1, f2, f3⟩ := HFIT.out i hlt
        obtain ⟨g1, g2, g3⟩ := HFIT.out k (by omega)
        obtain ⟨x, y, hxy⟩ : ∃ x y, pAt P i = (x, y) := ⟨_, _, rfl⟩
        obtain ⟨u, v, huv⟩ : ∃ u v, pAt P k = (u, v) := ⟨_, _, rfl⟩
        have HXY := hID (And.intro hxy huv)
        rw [hxy] at e0 e1 f1 f2 f3
        rw [huv] at c0 c1 g1 g2 g3
        clear hxy huv
        simp only at f1 f2 f3 g1 g2 g3
        have i0 : (0 : Int) ≤ (i : Int) := by omega
        have i1 : (i : Int) < 6 := by omega
        have k0 : (0 : Int) ≤ (k : Int) := by omega
        have k1 : (k : Int) < 6 := by omega
        have hw1 : IntKind.i64.wrap (u + v) = u + v := IntWalk.i64_in _ (by omega)
        have hw2 : IntKind.i64.wrap (x + y) = x + y := IntWalk.i64_in _ (by omega)
        have HD : Hid (Off Nob w1 wr.drew) := hID (HI.out.1.also (Off.drew (Off.refl _ _)))
        by_cases h1 : x < u + v
        ·have q1 : decide (x < u + v) = true := decide_eq_true h1
         by_cases h2 : u < x + y
         ·have q2 : decide (u < x + y) = true := decide_eq_true h2
          have HNO : Hid (apAll P = false) := hID (apAll_no (i := i) (k := k) (by rw [HPC.out.2]; exact hlt) hlk (by rw [HXY.out.1, HXY.out.2]; unfold apB; rw [decide_eq_false (by simp only; omega), decide_eq_false (by simp only; omega)]; rfl))
          clear h1 h2
          go_wp2_with fail
          go_quiet (fail)
          go_wp2_with fail
          go_ret
          exact ⟨by rw [HE.out, HNO.out]; rfl, X1.out.1.also (HI.out.1.also (Off.drewN (Off.refl _ _) _))⟩
         ·have q2 : decide (u < x + y) = false := decide_eq_false h2
          have HAP : Hid (apTo P i (k + 1) = true) := hID (apTo_at HI.out.2 (by rw [HXY.out.1, HXY.out.2]; unfold apB; rw [decide_eq_true (show x + y ≤ u by omega)]; rfl))
          clear h1 h2
          go_wp2_with fail
          go_quiet (fail)
          go_wp2_with fail
          go_roundw
          case rel => (first | exact ⟨k + 1, by go_num, hlk, (HI.out.1.also (Off.drewN (Off.refl _ _) _)), HAP.out⟩ | ((repeat apply Exists.intro); refine ⟨?_, rfl⟩; exact ⟨k + 1, by go_num, hlk, (HI.out.1.also (Off.drewN (Off.refl _ _) _)), HAP.out⟩))
          case measure => simp [intOf]; omega
        ·have q1 : decide (x < u + v) = false := decide_eq_false h1
         have HAP : Hid (apTo P i (k + 1) = true) := hID (apTo_at HI.out.2 (by rw [HXY.out.1, HXY.out.2]; unfold apB; rw [decide_eq_true (show u + v ≤ x by omega), Bool.or_true]))
         clear h1
         go_wp2_with fail
         go_quiet (fail)
         go_wp2_with fail
         go_roundw
         case rel => (first | exact ⟨k + 1, by go_num, hlk, (HI.out.1.also (Off.drewN (Off.refl _ _) _)), HAP.out⟩ | ((repeat apply Exists.intro); refine ⟨?_, rfl⟩; exact ⟨k + 1, by go_num, hlk, (HI.out.1.also (Off.drewN (Off.refl _ _) _)), HAP.out⟩))
         case measure => simp [intOf]; omega
       ·obtain rfl : k = i := by omega
        have d3 : decide ((k : Int) < (k : Int)) = false := decide_eq_false (by omega)
        go_wp2_with fail
        go_roundw
        case rel => exact ⟨k + 1, by go_num, by omega, HI.out.1, fun j hj => by
         by_cases e : j = k
         ·rw [e]; exact HI.out.2
         ·exact HO.out.2 j (by omega)⟩
        case measure => simp [intOf]; omega
     ·obtain rfl : i = 6 := by omega
      have d2 : decide ((((6 : Nat) : Int)) < 6) = false := by decide
      have HY : Hid (apAll P = true) := hID (apAll_yes HPC.out.2 HO.out.2)
      go_wp2_with fail
      go_ret
      exact ⟨by rw [HE.out, HY.out]; rfl, X1.out.1.also HO.out.1⟩
 ·have HE := hID (askE_no C.length hr)
  have HR : Hid (∀ W, Calls Tryz.prog 75 #[.int .i64 l.a, .int .i64 l.b] W fun e w' => e = .returned (.bool false) ∧ W = w') := hID (fun W => rright_no l.a l.b hr W)
  rw [HE.out]
  clear hr
  go_enter Tryz.func61, Tryz.ntmps61
  go_wp2_with fail
  revert X0 GC
  generalize (w.alloc (.cells #[.int .i64 l.a, .int .i64 l.b, .int .i64 l.t, .int .i64 l.s, .int .i64 l.f, .int .i64 l.st, .int .i64 l.n, .int .i64 l.h] 33)) = w0
  intro X0 GC
  refine (HR.out _).mono ?_
  rintro e w1 ⟨rfl, rfl⟩
  go_wp2_with fail
  go_ret
  exact ⟨rfl, X0.out.1⟩
set_option maxHeartbeats 2000000 in
theorem rstored_ok (r x : Nat) (L C : List (BitVec 64)) (E : List Ev) (F : Nat → Prop) (w : World) (v : Value) (h : Rf w F r C E)
  (hv : Rd w (fun k => ¬ F k) 1 v L.length (L.map fun u => .int .u64 (n64 u))) (hx : x + L.length ≤ C.length) (he : E.length + L.length < 8388608) :
  Calls Tryz.prog 63 #[.pointer (some ⟨r, 0, none⟩), .int .i64 x, v] w fun e w' => e = .returned (.tuple #[]) ∧ RfTo w F r (setL C x L) (E ++ putE x L.length) w' := by
 have hC := h.n2
 have hform : ∃ A c, v = .slice A L.length c := by
  obtain ⟨A, c, rfl, _⟩ := hv.form
  exact ⟨A, c, rfl⟩
 obtain ⟨A, c, rfl⟩ := hform
 have HC : Hid (∀ W, Off F w W → ∀ k, k < L.length → ∃ b o, A = some ⟨b, o, none⟩ ∧ W.cell? ⟨b, o + k, none⟩ = some (.int .u64 (n64 (L.getD k 0)))) := hID (fun W ho k hk => by
  obtain ⟨A2, c2, he2, _, _, hr⟩ := hv.keep ho (fun k hk => hk)
  cases he2
  obtain ⟨b, o, rfl, _, _, hcell⟩ := hr (by omega)
  exact ⟨b, o, rfl, hcell k _ (by simp [List.getD_eq_getElem?_getD, List.getElem?_eq_getElem hk])⟩)
 have H0 : Hid (RfTo w F r (setL C x (L.take 0)) (E ++ putE x 0) w) := hID ⟨by simpa [setL, putE] using h.mono (fun k hk => .inl hk) (Grow.lt h.lt (Nat.le_refl _)), Off.refl _ _⟩
 clear hv h
 go_enter Tryz.func63, Tryz.ntmps63
 go_wp2_with fail
 go_loopw [6] (fun q wr => ∃ k : Nat, q = .int .i64 (k : Int) ∧ k ≤ L.length ∧ RfTo w F r (setL C x (L.take k)) (E ++ putE x k) wr) (fun q wr => L.length - (intOf q).toNat)
 case atStart => exact ⟨0, rfl, Nat.zero_le _, H0.out⟩
 case round =>
  obtain ⟨k, rfl, hk, ha⟩ := hrel
  have HA := hID ha
  clear ha H0
  by_cases hlt : k < L.length
  ·have d1 : decide ((k : Int) < (L.length : Int)) = true := decide_eq_true (by omega)
   obtain ⟨b, o, rfl, ck⟩ := HC.out _ HA.out.2 k hlt
   have HS := hID (rstore_ok HA.out.1 ((x : Int) + (k : Int)) (L.getD k 0) (by omega) (by rw [setL_length]; omega) (by simp [putE]; omega))
   obtain ⟨u, hu⟩ : ∃ u, L.getD k 0 = u := ⟨_, rfl⟩
   have HT : Hid (L.take (k + 1) = L.take k ++ [u]) := hID (by rw [← hu, List.getD_eq_getElem?_getD, List.getElem?_eq_getElem hlt]; simp)
   rw [hu] at ck HS
   clear hu
   go_wp2_with fail
   refine HS.out.mono ?_
   rintro e w1 ⟨rfl, hs⟩
   have HA1 : Hid (RfTo w F r (setL C x (L.take (k + 1))) (E ++ putE x (k + 1)) w1) := hID (by
    have := HA.out.trans hs
    rw [show ((x : Int) + (k : Int)).toNat = x + k by omega] at this
    rw [HT.out, setL_snoc, putE_snoc, ← List.append_assoc]
    rw [List.length_take, Nat.min_eq_left hk]
    exact this)
   clear hs ck HS HA
   go_wp2_with fail
   go_roundw
   case rel => exact ⟨k + 1, by go_num, by omega, HA1.out⟩
   case measure => simp [intOf]; omega
  ·obtain rfl : k = L.length := by omega
   have d1 : decide ((L.length : Int) < (L.length : Int)) = false := decide_eq_false (by omega)
   go_wp2_with fail
   go_end0
   exact ⟨rfl, by have := HA.out; rwa [List.take_length] at this⟩
theorem rd_grown {w0 W : World} {F : Nat → Prop} {size n : Nat} {v : Value} {xs : List Value} (h : Rd w0 (fun k => ¬ F k) size v n xs) (o : Off F w0 W) : Rd W (fun k => ¬ Grow F w0 W k) size v n xs := by
 obtain ⟨A, c, rfl, hm, hl, hc⟩ := h
 refine ⟨A, c, rfl, hm, hl, fun hn => ?_⟩
 obtain ⟨g, of, rfl, hf, hb, hx⟩ := hc hn
 exact ⟨g, of, rfl, fun k => k.elim hf (fun k => by omega), Nat.lt_of_lt_of_le hb o.size, fun j u hu => (World.cell?_of_block (o.block g hb hf)).trans (hx j u hu)⟩
theorem roomE_fit {n s : Nat} (h : n + s ≤ 8388608) : roomE n (s : Int) = 0 := by
 unfold roomE
 rw [if_neg (by omega), if_neg (by omega)]
set_option maxHeartbeats 8000000 in
theorem rclear_any (l : LayN) (w : World) (F : Nat → Prop) (r : Nat) (C : List (BitVec 64)) (E : List Ev) (h : Rf w F r C E) (hl : askE C.length l.lay = 0) (hi : l.In C.length) (hE : E.length + l.a < 8388608) :
  Calls Tryz.prog 22 #[.pointer (some ⟨r, 0, none⟩), .agg #[.int .i64 l.a, .int .i64 l.b, .int .i64 l.t, .int .i64 l.s, .int .i64 l.f, .int .i64 l.st, .int .i64 l.n, .int .i64 l.h]] w fun e w' => e = .returned (.int .i64 0) ∧ RfTo w F r (clC l C) (E ++ clE l) w' := by
 have HE := hID hE
 have HRE := hID (roomE_fit (show E.length + l.a ≤ 8388608 by omega))
 clear hE
 have hC := h.n2
 obtain ⟨a1, a4, b1, b16, it, is, if_, ist, in_, ih⟩ := hi
 have HB := hID (And.intro a1 (And.intro a4 (And.intro b1 (And.intro b16 (And.intro it (And.intro is (And.intro if_ (And.intro ist (And.intro in_ ih)))))))))
 have X0 : Hid (Off Nob w (w.alloc (.cells #[.int .i64 l.a, .int .i64 l.b, .int .i64 l.t, .int .i64 l.s, .int .i64 l.f, .int .i64 l.st, .int .i64 l.n, .int .i64 l.h] 33)) ∧ Blk (w.alloc (.cells #[.int .i64 l.a, .int .i64 l.b, .int .i64 l.t, .int .i64 l.s, .int .i64 l.f, .int .i64 l.st, .int .i64 l.n, .int .i64 l.h] 33)) w.heap.size 33 #[.int .i64 l.a, .int .i64 l.b, .int .i64 l.t, .int .i64 l.s, .int .i64 l.f, .int .i64 l.st, .int .i64 l.n, .int .i64 l.h]) := hID ⟨(Off.refl _ _).alloc _, Blk.new _ _ _⟩
 have HW := hID h
 have hgF : ∀ k, w.heap.size ≤ k → ¬ F k := fun k hk hf => by have := h.lt k hf; omega
 have HL := hID hl
 clear h hl
 go_enter Tryz.func22, Tryz.ntmps22
 go_wp2_with fail
 revert X0
 generalize (w.alloc (.cells #[.int .i64 l.a, .int .i64 l.b, .int .i64 l.t, .int .i64 l.s, .int .i64 l.f, .int .i64 l.st, .int .i64 l.n, .int .i64 l.h] 33)) = w0
 intro X0
 have HA := hID (HW.out.keep X0.out.1 (fun _ _ hn => hn))
 have GC : Hid (∀ W, Off F w0 W → W.cell? ⟨w.heap.size, 0, none⟩ = some (.int .i64 l.a) ∧ W.cell? ⟨w.heap.size, 1, none⟩ = some (.int .i64 l.b) ∧ W.cell? ⟨w.heap.size, 2, none⟩ = some (.int .i64 l.t) ∧ W.cell? ⟨w.heap.size, 3, none⟩ = some (.int .i64 l.s) ∧ W.cell? ⟨w.heap.size, 4, none⟩ = some (.int .i64 l.f) ∧ W.cell? ⟨w.heap.size, 5, none⟩ = some (.int .i64 l.st) ∧ W.cell? ⟨w.heap.size, 6, none⟩ = some (.int .i64 l.n) ∧ W.cell? ⟨w.heap.size, 7, none⟩ = some (.int .i64 l.h)) := hID (fun W o => by
  have h := X0.out.2.to (o.block _ X0.out.2.lt (hgF _ (Nat.le_refl _)))
  exact ⟨h.cell 0, h.cell 1, h.cell 2, h.cell 3, h.cell 4, h.cell 5, h.cell 6, h.cell 7⟩)
 clear hgF
 have HASK : Hid (∀ W, Off Nob w0 W → Calls Tryz.prog 61 #[.pointer (some ⟨r, 0, none⟩), .agg #[.int .i64 l.a, .int .i64 l.b, .int .i64 l.t, .int .i64 l.s, .int .i64 l.f, .int .i64 l.st, .int .i64 l.n, .int .i64 l.h]] W fun e w' => e = .returned (.int .i64 0) ∧ Off Nob W w') := hID (fun W o => by
  have k := rasked_any l.lay (HA.out.keep o (fun _ _ hn => hn))
  rw [HL.out] at k
  exact k)
 refine (HASK.out _ (Off.refl _ _)).mono ?_
 rintro e w1 ⟨rfl, o1⟩
 have Y1 := hID (RfTo.off HA.out o1)
 have Y1o := hID o1
 clear o1 HASK
 obtain ⟨c0, c1, c2, c3, c4, c5, c6, c7⟩ := GC.out _ Y1.out.2
 have HRM : Hid (∀ W, W = w1 → Calls Tryz.prog 62 #[.pointer (some ⟨r, 0, none⟩), .int .i64 (l.a : Int)] W fun e w' => e = .returned (.int .i64 0) ∧ W = w') := hID (fun W hW => by
  subst hW
  have k := rroom_any Y1.out.1 (l.a : Int)
  rwa [HRE.out] at k)
 go_wp2_with fail
 refine (HRM.out _ rfl).mono ?_
 rintro e w2 ⟨rfl, rfl⟩
 clear HRM
 go_wp2_with fail
 have hms := make_any l.a HB.out.1 HB.out.2.1
 have HP4 : Hid (∀ V, V = (w1.alloc (.cells (List.replicate l.a (Value.int .u64 0)).toArray 41)).drew → Calls Tryz.prog 63 #[.pointer (some ⟨r, 0, none⟩), .int .i64 l.st, .slice (some ⟨w1.heap.size, 0, none⟩) l.a l.a] V fun e w' => e = .returned (.tuple #[]) ∧ RfTo w0 F r (setL C l.st (List.replicate l.a (0 : BitVec 64))) (E ++ putE l.st l.a) w') := hID (fun V hV => by
  have o : Off Nob w1 V := by rw [hV]; exact (Off.alloc (Off.refl Nob w1) _).drew
  have h4 := HB.out.2.1
  have hl : Rd V (fun k => ¬ Grow F w0 w1 k) 1 (.slice (some ⟨w1.heap.size, 0, none⟩) l.a l.a) (List.replicate l.a (0 : BitVec 64)).length ((List.replicate l.a (0 : BitVec 64)).map fun u => .int .u64 (n64 u)) := by
   rw [hV, zeros_eq, List.length_replicate]
   exact ⟨_, _, rfl, by unfold maxLen; omega, by simp, fun _ => ⟨w1.heap.size, 0, rfl, fun h => by have := Y1.out.1.lt _ h; omega, by simp, fun j u hu => by
    rw [Nat.zero_add]
    refine ((Blk.new w1 41 (List.replicate l.a (Value.int .u64 0)).toArray).cell j).trans ?_
    rw [List.getElem?_toArray]
    exact hu⟩⟩
  refine (rstored_ok r l.st (List.replicate l.a (0 : BitVec 64)) _ _ (Grow F w0 w1) V _ (Y1.out.1.keep o (fun _ _ hn => hn)) hl (by rw [List.length_replicate]; exact HB.out.2.2.2.2.2.2.2.1) (by rw [List.length_replicate]; exact HE.out)).mono ?_
  rintro e w' ⟨rfl, a⟩
  refine ⟨rfl, ?_⟩
  have k := Y1.out.trans (RfTo.pre Y1.out.1 o a)
  rw [List.length_replicate] at k
  exact k)
 go_region_held3 (fun W => W.cell? ⟨w.heap.size, 5, none⟩ = some (.int .i64 l.st) ∧ W.cell? ⟨w.heap.size, 0, none⟩ = some (.int .i64 l.a))
  (first | with_reducible assumption | go_keep)
  (first
   | (go_at_call 63; refine (HP4.out _ rfl).mono ?_; rintro e v4 ⟨rfl, a4'⟩; have Y9 := hID a4'; clear a4' c0 c1 c2 c3 c4 c5 c6 c7; obtain ⟨c0, c1, c2, c3, c4, c5, c6, c7⟩ := GC.out _ Y9.out.2))
 go_wp2_with fail
 go_ret
 exact ⟨rfl, RfTo.pre HW.out X0.out.1 Y9.out⟩
set_option maxHeartbeats 8000000 in
theorem rsetup_any (l : LayN) (w : World) (F : Nat → Prop) (r : Nat) (C : List (BitVec 64)) (E : List Ev) (h : Rf w F r C E) (hl : askE C.length l.lay = 0) (hi : l.In C.length) (hE : E.length + (258 * l.a + l.b * l.a) < 8388608) (ids : List Int) (AI : Option Addr) (ci : Nat) (VT VS VF : Value) (T S Fi : List Nat) (hs : SetV w (.slice AI ids.length ci) VT VS VF ids (l.a : Int) T S Fi) (hok : setErr ids (l.a : Int) T S Fi = 0) (hb : ids.length = l.b)
  (hT : Rd w (fun k => ¬ F k) 1 VT T.length (wordsV T)) (hS : Rd w (fun k => ¬ F k) 1 VS S.length (wordsV S)) (hF : Rd w (fun k => ¬ F k) 1 VF Fi.length (wordsV Fi)) :
  Calls Tryz.prog 23 #[.pointer (some ⟨r, 0, none⟩), .agg #[.int .i64 l.a, .int .i64 l.b, .int .i64 l.t, .int .i64 l.s, .int .i64 l.f, .int .i64 l.st, .int .i64 l.n, .int .i64 l.h], .agg #[.slice AI ids.length ci, .int .i64 l.a, VT, VS, VF]] w fun e w' => e = .returned (.int .i64 0) ∧ RfTo w F r (suC l T S Fi C) (E ++ suE l) w' := by
 have HS0 := hID hs
 have HOK := hID (And.intro hok hb)
 have HRL := hID (And.intro (rd_bvs hs.t64 hT) (And.intro (rd_bvs hs.s64 hS) (rd_bvs hs.f64 hF)))
 obtain ⟨_, _, _, ⟨Wx, hWx, _, _, hlt, hls, hlf, _⟩, _⟩ := setErr_ok hok
 obtain rfl : Wx = l.a := by omega
 rw [hb] at hlf
 have HLN := hID (And.intro ((bvs_len T).trans hlt) (And.intro ((bvs_len S).trans hls) ((bvs_len Fi).trans hlf)))
 have hba : l.b * l.a ≤ 64 := Nat.le_trans (Nat.mul_le_mul hi.b16 hi.a4) (by decide)
 have HE := hID (And.intro hE hba)
 have HRE : Hid (roomE E.length (258 * (l.a : Int) + (l.b : Int) * (l.a : Int)) = 0) := hID (by
  have k := roomE_fit (show E.length + (258 * l.a + l.b * l.a) ≤ 8388608 by omega)
  have e : ((258 * l.a + l.b * l.a : Nat) : Int) = 258 * (l.a : Int) + (l.b : Int) * (l.a : Int) := by push_cast; rfl
  rwa [e] at k)
 obtain ⟨LT, hLT⟩ : ∃ LT, bvs T = LT := ⟨_, rfl⟩
 obtain ⟨LS, hLS⟩ : ∃ LS, bvs S = LS := ⟨_, rfl⟩
 obtain ⟨LF, hLF⟩ : ∃ LF, bvs Fi = LF := ⟨_, rfl⟩
 have HSU : Hid (suC l T S Fi C = setL (setL (setL (setL C l.t LT) l.s LS) l.f LF) l.st (List.replicate l.a 0)) := hID (by unfold suC; rw [hLT, hLS, hLF])
 rw [hLT, hLS, hLF] at HLN HRL
 rw [HSU.out]
 have HCK := hID (fun (V : World) (oV : Off Nob w V) => r_Check ids (l.a : Int) T S Fi V (.slice AI ids.length ci) VT VS VF (hs.keep oV))
 rw [hok] at HCK
 have e1 : ((l.a : Int) != (l.a : Int)) = false := by simp
 have e2 : ((ids.length : Int) != (l.b : Int)) = false := by rw [hb]; simp
 have HST := hID (fun W => rsteps_yes (l.a : Int) (l.b : Int) (by have := hi.a1; omega) (by have := hi.a4; omega) (by have := hi.b1; omega) (by have := hi.b16; omega) W)
 clear hE hs hok hb hT hS hF hlt hls hlf hba hWx hLT hLS hLF
 have hC := h.n2
 obtain ⟨a1, a4, b1, b16, it, is, if_, ist, in_, ih⟩ := hi
 have HB := hID (And.intro a1 (And.intro a4 (And.intro b1 (And.intro b16 (And.intro it (And.intro is (And.intro if_ (And.intro ist (And.intro in_ ih)))))))))
 have X0 : Hid (Off Nob w ((w.alloc (.cells #[.int .i64 l.a, .int .i64 l.b, .int .i64 l.t, .int .i64 l.s, .int .i64 l.f, .int .i64 l.st, .int .i64 l.n, .int .i64 l.h] 33)).alloc (.cells #[.slice AI ids.length ci, .int .i64 l.a, VT, VS, VF] 25)) ∧ Blk ((w.alloc (.cells #[.int .i64 l.a, .int .i64 l.b, .int .i64 l.t, .int .i64 l.s, .int .i64 l.f, .int .i64 l.st, .int .i64 l.n, .int .i64 l.h] 33)).alloc (.cells #[.slice AI ids.length ci, .int .i64 l.a, VT, VS, VF] 25)) w.heap.size 33 #[.int .i64 l.a, .int .i64 l.b, .int .i64 l.t, .int .i64 l.s, .int .i64 l.f, .int .i64 l.st, .int .i64 l.n, .int .i64 l.h] ∧ Blk ((w.alloc (.cells #[.int .i64 l.a, .int .i64 l.b, .int .i64 l.t, .int .i64 l.s, .int .i64 l.f, .int .i64 l.st, .int .i64 l.n, .int .i64 l.h] 33)).alloc (.cells #[.slice AI ids.length ci, .int .i64 l.a, VT, VS, VF] 25)) (w.heap.size + 1) 25 #[.slice AI ids.length ci, .int .i64 l.a, VT, VS, VF]) := hID ⟨((Off.refl _ _).alloc _).alloc _, (Blk.new _ _ _).alloc _, blk_second _ _ _ _⟩
 have HW := hID h
 have hgF : ∀ k, w.heap.size ≤ k → ¬ F k := fun k hk hf => by have := h.lt k hf; omega
 have HL := hID hl
 clear h hl
 go_enter Tryz.func23, Tryz.ntmps23
 go_wp2_with fail
 revert X0
 generalize ((w.alloc (.cells #[.int .i64 l.a, .int .i64 l.b, .int .i64 l.t, .int .i64 l.s, .int .i64 l.f, .int .i64 l.st, .int .i64 l.n, .int .i64 l.h] 33)).alloc (.cells #[.slice AI ids.length ci, .int .i64 l.a, VT, VS, VF] 25)) = w0
 intro X0
 have HA := hID (HW.out.keep X0.out.1 (fun _ _ hn => hn))
 have GC : Hid (∀ W, Off F w0 W → W.cell? ⟨w.heap.size, 0, none⟩ = some (.int .i64 l.a) ∧ W.cell? ⟨w.heap.size, 1, none⟩ = some (.int .i64 l.b) ∧ W.cell? ⟨w.heap.size, 2, none⟩ = some (.int .i64 l.t) ∧ W.cell? ⟨w.heap.size, 3, none⟩ = some (.int .i64 l.s) ∧ W.cell? ⟨w.heap.size, 4, none⟩ = some (.int .i64 l.f) ∧ W.cell? ⟨w.heap.size, 5, none⟩ = some (.int .i64 l.st) ∧ W.cell? ⟨w.heap.size, 6, none⟩ = some (.int .i64 l.n) ∧ W.cell? ⟨w.heap.size, 7, none⟩ = some (.int .i64 l.h) ∧ W.cell? ⟨w.heap.size + 1, 0, none⟩ = some (.slice AI ids.length ci) ∧ W.cell? ⟨w.heap.size + 1, 1, none⟩ = some (.int .i64 l.a) ∧ W.cell? ⟨w.heap.size + 1, 2, none⟩ = some (VT) ∧ W.cell? ⟨w.heap.size + 1, 3, none⟩ = some (VS) ∧ W.cell? ⟨w.heap.size + 1, 4, none⟩ = some (VF)) := hID (fun W o => by
  have h := X0.out.2.1.to (o.block _ X0.out.2.1.lt (hgF _ (Nat.le_refl _)))
  have h2 := X0.out.2.2.to (o.block _ X0.out.2.2.lt (hgF _ (Nat.le_add_right _ _)))
  exact ⟨h.cell 0, h.cell 1, h.cell 2, h.cell 3, h.cell 4, h.cell 5, h.cell 6, h.cell 7, h2.cell 0, h2.cell 1, h2.cell 2, h2.cell 3, h2.cell 4⟩)
 clear hgF
 have HASK : Hid (∀ W, Off Nob w0 W → Calls Tryz.prog 61 #[.pointer (some ⟨r, 0, none⟩), .agg #[.int .i64 l.a, .int .i64 l.b, .int .i64 l.t, .int .i64 l.s, .int .i64 l.f, .int .i64 l.st, .int .i64 l.n, .int .i64 l.h]] W fun e w' => e = .returned (.int .i64 0) ∧ Off Nob W w') := hID (fun W o => by
  have k := rasked_any l.lay (HA.out.keep o (fun _ _ hn => hn))
  rw [HL.out] at k
  exact k)
 refine (HASK.out _ (Off.refl _ _)).mono ?_
 rintro e w1 ⟨rfl, o1⟩
 have Y1 := hID (RfTo.off HA.out o1)
 have Y1o := hID o1
 clear o1 HASK
 obtain ⟨c0, c1, c2, c3, c4, c5, c6, c7, s0, s1, s2, s3, s4⟩ := GC.out _ Y1.out.2
 go_wp2_with fail
 refine (HCK.out _ (X0.out.1.also Y1o.out)).mono ?_
 rintro e w2 ⟨rfl, o2⟩
 have Y2 := hID (Y1.out.nob o2)
 clear o2 HCK c0 c1 c2 c3 c4 c5 c6 c7 s0 s1 s2 s3 s4
 obtain ⟨c0, c1, c2, c3, c4, c5, c6, c7, s0, s1, s2, s3, s4⟩ := GC.out _ Y2.out.2
 go_wp2_with fail
 refine (HST.out _).mono ?_
 rintro e w3 ⟨rfl, rfl⟩
 go_wp2_with fail
 have HRM : Hid (∀ W, W = w2 → Calls Tryz.prog 62 #[.pointer (some ⟨r, 0, none⟩), .int .i64 (258 * (l.a : Int) + (l.b : Int) * (l.a : Int))] W fun e w' => e = .returned (.int .i64 0) ∧ W = w') := hID (fun W hW => by
  subst hW
  have k := rroom_any Y2.out.1 (258 * (l.a : Int) + (l.b : Int) * (l.a : Int))
  rwa [HRE.out] at k)
 refine (HRM.out _ rfl).mono ?_
 rintro e w3 ⟨rfl, rfl⟩
 clear HRM HST
 have HQ1 : Hid (∀ W, W = w2 → Calls Tryz.prog 63 #[.pointer (some ⟨r, 0, none⟩), .int .i64 l.t, VT] W fun e w' => e = .returned (.tuple #[]) ∧ RfTo w0 F r (setL C l.t LT) (E ++ putE l.t (256 * l.a)) w') := hID (fun W hW => by
  subst hW
  have hv := rd_grown (HRL.out.1.keep X0.out.1 (fun _ _ h => h)) Y2.out.2
  have k := rstored_ok r l.t LT _ _ _ _ _ Y2.out.1 hv (by have := HE.out.1; have := HE.out.2; have := HLN.out.1; have := HLN.out.2.1; have := HLN.out.2.2; have := HB.out.2.2.2.2.1; have := HB.out.2.2.2.2.2.1; have := HB.out.2.2.2.2.2.2.1; omega) (by have := HE.out.1; have := HE.out.2; have := HLN.out.1; have := HLN.out.2.1; have := HLN.out.2.2; have := HB.out.2.2.2.2.1; have := HB.out.2.2.2.2.2.1; have := HB.out.2.2.2.2.2.2.1; omega)
  refine k.mono (fun e w' ⟨he, a⟩ => ⟨he, ?_⟩)
  have q := Y2.out.trans a
  rwa [HLN.out.1] at q)
 go_wp2_with fail
 refine (HQ1.out _ rfl).mono ?_
 rintro e w3 ⟨rfl, a⟩
 have Y3 := hID a
 clear a HQ1 c0 c1 c2 c3 c4 c5 c6 c7 s0 s1 s2 s3 s4
 obtain ⟨c0, c1, c2, c3, c4, c5, c6, c7, s0, s1, s2, s3, s4⟩ := GC.out _ Y3.out.2
 have HQ2 : Hid (∀ W, W = w3 → Calls Tryz.prog 63 #[.pointer (some ⟨r, 0, none⟩), .int .i64 l.s, VS] W fun e w' => e = .returned (.tuple #[]) ∧ RfTo w0 F r (setL (setL C l.t LT) l.s LS) ((E ++ putE l.t (256 * l.a)) ++ putE l.s l.a) w') := hID (fun W hW => by
  subst hW
  have hv := rd_grown (HRL.out.2.1.keep X0.out.1 (fun _ _ h => h)) Y3.out.2
  have k := rstored_ok r l.s LS _ _ _ _ _ Y3.out.1 hv (by have := HE.out.1; have := HE.out.2; have := HLN.out.1; have := HLN.out.2.1; have := HLN.out.2.2; have := HB.out.2.2.2.2.1; have := HB.out.2.2.2.2.2.1; have := HB.out.2.2.2.2.2.2.1; simp only [setL_length]; omega) (by have := HE.out.1; have := HE.out.2; have := HLN.out.1; have := HLN.out.2.1; have := HLN.out.2.2; have := HB.out.2.2.2.2.1; have := HB.out.2.2.2.2.2.1; have := HB.out.2.2.2.2.2.2.1; simp only [List.length_append, putE_len]; omega)
  refine k.mono (fun e w' ⟨he, a⟩ => ⟨he, ?_⟩)
  have q := Y3.out.trans a
  rwa [HLN.out.2.1] at q)
 go_wp2_with fail
 refine (HQ2.out _ rfl).mono ?_
 rintro e w4 ⟨rfl, a⟩
 have Y4 := hID a
 clear a HQ2 c0 c1 c2 c3 c4 c5 c6 c7 s0 s1 s2 s3 s4
 obtain ⟨c0, c1, c2, c3, c4, c5, c6, c7, s0, s1, s2, s3, s4⟩ := GC.out _ Y4.out.2
 have HQ3 : Hid (∀ W, W = w4 → Calls Tryz.prog 63 #[.pointer (some ⟨r, 0, none⟩), .int .i64 l.f, VF] W fun e w' => e = .returned (.tuple #[]) ∧ RfTo w0 F r (setL (setL (setL C l.t LT) l.s LS) l.f LF) (((E ++ putE l.t (256 * l.a)) ++ putE l.s l.a) ++ putE l.f (l.b * l.a)) w') := hID (fun W hW => by
  subst hW
  have hv := rd_grown (HRL.out.2.2.keep X0.out.1 (fun _ _ h => h)) Y4.out.2
  have k := rstored_ok r l.f LF _ _ _ _ _ Y4.out.1 hv (by have := HE.out.1; have := HE.out.2; have := HLN.out.1; have := HLN.out.2.1; have := HLN.out.2.2; have := HB.out.2.2.2.2.1; have := HB.out.2.2.2.2.2.1; have := HB.out.2.2.2.2.2.2.1; simp only [setL_length]; omega) (by have := HE.out.1; have := HE.out.2; have := HLN.out.1; have := HLN.out.2.1; have := HLN.out.2.2; have := HB.out.2.2.2.2.1; have := HB.out.2.2.2.2.2.1; have := HB.out.2.2.2.2.2.2.1; simp only [List.length_append, putE_len]; omega)
  refine k.mono (fun e w' ⟨he, a⟩ => ⟨he, ?_⟩)
  have q := Y4.out.trans a
  rwa [HLN.out.2.2] at q)
 go_wp2_with fail
 refine (HQ3.out _ rfl).mono ?_
 rintro e w5 ⟨rfl, a⟩
 have Y5 := hID a
 clear a HQ3 c0 c1 c2 c3 c4 c5 c6 c7 s0 s1 s2 s3 s4
 obtain ⟨c0, c1, c2, c3, c4, c5, c6, c7, s0, s1, s2, s3, s4⟩ := GC.out _ Y5.out.2
 go_wp2_with fail
 have hms := make_any l.a HB.out.1 HB.out.2.1
 have HP4 : Hid (∀ V, V = (w5.alloc (.cells (List.replicate l.a (Value.int .u64 0)).toArray 41)).drew → Calls Tryz.prog 63 #[.pointer (some ⟨r, 0, none⟩), .int .i64 l.st, .slice (some ⟨w5.heap.size, 0, none⟩) l.a l.a] V fun e w' => e = .returned (.tuple #[]) ∧ RfTo w0 F r (setL (setL (setL (setL C l.t LT) l.s LS) l.f LF) l.st (List.replicate l.a (0 : BitVec 64))) ((((E ++ putE l.t (256 * l.a)) ++ putE l.s l.a) ++ putE l.f (l.b * l.a)) ++ putE l.st l.a) w') := hID (fun V hV => by
  have o : Off Nob w5 V := by rw [hV]; exact (Off.alloc (Off.refl Nob w5) _).drew
  have h4 := HB.out.2.1
  have hl : Rd V (fun k => ¬ Grow F w0 w5 k) 1 (.slice (some ⟨w5.heap.size, 0, none⟩) l.a l.a) (List.replicate l.a (0 : BitVec 64)).length ((List.replicate l.a (0 : BitVec 64)).map fun u => .int .u64 (n64 u)) := by
   rw [hV, zeros_eq, List.length_replicate]
   exact ⟨_, _, rfl, by unfold maxLen; omega, by simp, fun _ => ⟨w5.heap.size, 0, rfl, fun h => by have := Y5.out.1.lt _ h; omega, by simp, fun j u hu => by
    rw [Nat.zero_add]
    refine ((Blk.new w5 41 (List.replicate l.a (Value.int .u64 0)).toArray).cell j).trans ?_
    rw [List.getElem?_toArray]
    exact hu⟩⟩
  refine (rstored_ok r l.st (List.replicate l.a (0 : BitVec 64)) _ _ (Grow F w0 w5) V _ (Y5.out.1.keep o (fun _ _ hn => hn)) hl (by rw [List.length_replicate]; simp only [setL_length]; exact HB.out.2.2.2.2.2.2.2.1) (by rw [List.length_replicate]; have := HE.out.1; have := HE.out.2; have := HLN.out.1; have := HLN.out.2.1; have := HLN.out.2.2; have := HB.out.2.2.2.2.1; have := HB.out.2.2.2.2.2.1; have := HB.out.2.2.2.2.2.2.1; simp only [List.length_append, putE_len]; omega)).mono ?_
  rintro e w' ⟨rfl, a⟩
  refine ⟨rfl, ?_⟩
  have k := Y5.out.trans (RfTo.pre Y5.out.1 o a)
  rw [List.length_replicate] at k
  exact k)
 go_region_held3 (fun W => W.cell? ⟨w.heap.size, 5, none⟩ = some (.int .i64 l.st) ∧ W.cell? ⟨w.heap.size, 0, none⟩ = some (.int .i64 l.a))
  (first | with_reducible assumption | go_keep)
  (first
   | (go_at_call 63; refine (HP4.out _ rfl).mono ?_; rintro e v4 ⟨rfl, a4'⟩; have Y9 := hID a4'; clear a4' c0 c1 c2 c3 c4 c5 c6 c7 s0 s1 s2 s3 s4; obtain ⟨c0, c1, c2, c3, c4, c5, c6, c7, s0, s1, s2, s3, s4⟩ := GC.out _ Y9.out.2))
 go_wp2_with fail
 go_ret
 have k := RfTo.pre HW.out X0.out.1 Y9.out
 exact ⟨rfl, by unfold suE; simpa only [List.append_assoc] using k⟩
end Go.Proofs.YtkflicifngohcaaGreatDoor

namespace Go.Proofs.YtkflicifngohcaaGreatDoor
open Go.RowKit
attribute [local go_sem] bits_and_u64 bits_or_u64 bits_xor_u64 wrap_u64 bv_add bv_neg bv_sub bv_mul
set_option maxRecDepth 100000
set_option maxHeartbeats 8000000 in
theorem rstate_any (l : LayN) (w : World) (F : Nat → Prop) (r : Nat) (C : List (BitVec 64)) (E : List Ev) (h : Rf w F r C E) (hl : askE C.length l.lay = 0) (hi : l.In C.length) (hE : E.length + l.a < 8388608) :
  Calls Tryz.prog 26 #[.pointer (some ⟨r, 0, none⟩), .agg #[.int .i64 l.a, .int .i64 l.b, .int .i64 l.t, .int .i64 l.s, .int .i64 l.f, .int .i64 l.st, .int .i64 l.n, .int .i64 l.h]] w fun e w' => (∃ v, e = .returned (.tuple #[v, .int .i64 0]) ∧ Rd w' (fun k => w.heap.size ≤ k) 1 v l.a (u64s (stL l C l.a))) ∧ RfTo w F r C (ldE l.st E l.a) w' := by
 obtain ⟨i0, hi0, hz0, hz1, hz2⟩ := info_parts Tryz.infoU
 have HE := hID hE
 have HRE := hID (roomE_fit (show E.length + l.a ≤ 8388608 by omega))
 clear hE
 have hC := h.n2
 obtain ⟨a1, a4, b1, b16, it, is, if_, ist, in_, ih⟩ := hi
 have HB := hID (And.intro a1 (And.intro a4 (And.intro b1 (And.intro b16 (And.intro it (And.intro is (And.intro if_ (And.intro ist (And.intro in_ ih)))))))))
 have X0 : Hid (Off Nob w (w.alloc (.cells #[.int .i64 l.a, .int .i64 l.b, .int .i64 l.t, .int .i64 l.s, .int .i64 l.f, .int .i64 l.st, .int .i64 l.n, .int .i64 l.h] 33)) ∧ Blk (w.alloc (.cells #[.int .i64 l.a, .int .i64 l.b, .int .i64 l.t, .int .i64 l.s, .int .i64 l.f, .int .i64 l.st, .int .i64 l.n, .int .i64 l.h] 33)) w.heap.size 33 #[.int .i64 l.a, .int .i64 l.b, .int .i64 l.t, .int .i64 l.s, .int .i64 l.f, .int .i64 l.st, .int .i64 l.n, .int .i64 l.h]) := hID ⟨(Off.refl _ _).alloc _, Blk.new _ _ _⟩
 have HW := hID h
 have hgF : ∀ k, w.heap.size ≤ k → ¬ F k := fun k hk hf => by have := h.lt k hf; omega
 have HL := hID hl
 clear h hl
 go_enter Tryz.func26, Tryz.ntmps26
 go_wp2_with fail
 revert X0
 generalize (w.alloc (.cells #[.int .i64 l.a, .int .i64 l.b, .int .i64 l.t, .int .i64 l.s, .int .i64 l.f, .int .i64 l.st, .int .i64 l.n, .int .i64 l.h] 33)) = w0
 intro X0
 have HA := hID (HW.out.keep X0.out.1 (fun _ _ hn => hn))
 have GC : Hid (∀ W, Off F w0 W → W.cell? ⟨w.heap.size, 0, none⟩ = some (.int .i64 l.a) ∧ W.cell? ⟨w.heap.size, 1, none⟩ = some (.int .i64 l.b) ∧ W.cell? ⟨w.heap.size, 2, none⟩ = some (.int .i64 l.t) ∧ W.cell? ⟨w.heap.size, 3, none⟩ = some (.int .i64 l.s) ∧ W.cell? ⟨w.heap.size, 4, none⟩ = some (.int .i64 l.f) ∧ W.cell? ⟨w.heap.size, 5, none⟩ = some (.int .i64 l.st) ∧ W.cell? ⟨w.heap.size, 6, none⟩ = some (.int .i64 l.n) ∧ W.cell? ⟨w.heap.size, 7, none⟩ = some (.int .i64 l.h)) := hID (fun W o => by
  have h := X0.out.2.to (o.block _ X0.out.2.lt (hgF _ (Nat.le_refl _)))
  exact ⟨h.cell 0, h.cell 1, h.cell 2, h.cell 3, h.cell 4, h.cell 5, h.cell 6, h.cell 7⟩)
 clear hgF
 have HASK : Hid (∀ W, Off Nob w0 W → Calls Tryz.prog 61 #[.pointer (some ⟨r, 0, none⟩), .agg #[.int .i64 l.a, .int .i64 l.b, .int .i64 l.t, .int .i64 l.s, .int .i64 l.f, .int .i64 l.st, .int .i64 l.n, .int .i64 l.h]] W fun e w' => e = .returned (.int .i64 0) ∧ Off Nob W w') := hID (fun W o => by
  have k := rasked_any l.lay (HA.out.keep o (fun _ _ hn => hn))
  rw [HL.out] at k
  exact k)
 refine (HASK.out _ (Off.refl _ _)).mono ?_
 rintro e w1 ⟨rfl, o1⟩
 have Y1 := hID (RfTo.off HA.out o1)
 have Y1o := hID o1
 clear o1 HASK
 obtain ⟨c0, c1, c2, c3, c4, c5, c6, c7⟩ := GC.out _ Y1.out.2
 have HRM : Hid (∀ W, W = w1 → Calls Tryz.prog 62 #[.pointer (some ⟨r, 0, none⟩), .int .i64 (l.a : Int)] W fun e w' => e = .returned (.int .i64 0) ∧ W = w') := hID (fun W hW => by
  subst hW
  have k := rroom_any Y1.out.1 (l.a : Int)
  rwa [HRE.out] at k)
 go_wp2_with fail
 refine (HRM.out _ rfl).mono ?_
 rintro e w2 ⟨rfl, rfl⟩
 clear HRM c0 c1 c2 c3 c4 c5 c6 c7
 have H0 : Hid (LdAt w0 F r C E l.st 0 (.slice none 0 0) w1) := hID ⟨Grow F w0 w1, Y1.out.1, fun j hj => hj, Y1.out.2, World.ownsRow_nil _ _ _ _, fun g hg => by simp [Value.ownBlock] at hg⟩
 clear Y1 Y1o
 go_wp2_with fail
 go_loopw [7, 8] (fun v i wr => ∃ k : Nat, k ≤ l.a ∧ i = .int .i64 k ∧ ∃ u, v = u ∧ LdAt w0 F r C E l.st k u wr) (fun _ i _ => l.a - (intOf i).toNat)
 case atStart => exact ⟨0, Nat.zero_le _, rfl, _, rfl, H0.out⟩
 case round =>
  obtain ⟨k, hk, rfl, u, rfl, hld⟩ := hrel
  have HLD := hID hld
  clear hld H0
  obtain ⟨c0, c1, c2, c3, c4, c5, c6, c7⟩ := GC.out _ (show Off F w0 wr from by obtain ⟨F1, _, _, ho, _⟩ := HLD.out; exact ho)
  by_cases hlt : k < l.a
  ·have d1 : decide ((k : Int) < (l.a : Int)) = true := decide_eq_true (by omega)
   obtain ⟨F1, ha, hs, ho, hw, hx⟩ := HLD.out
   have hb1 : (l.st : Int) + (k : Int) ≤ 65536 := by omega
   have hb2 : 0 ≤ (l.st : Int) + (k : Int) := by omega
   have HL := hID (rload_ok ha ((l.st : Int) + (k : Int)) (by omega) (by omega) (by rw [length_ldE]; have := HE.out; omega))
   have HF1 := hID hs
   have HO := hID ho
   have HWr := hID hw
   have HX := hID hx
   have HAr := hID ha
   clear ha hs ho hw hx
   go_wp2_with fail
   refine HL.out.mono ?_
   rintro e w1 ⟨rfl, ha1, ho1⟩
   rw [show ((l.st : Int) + (k : Int)).toNat = l.st + k by omega] at ha1 ⊢
   have O1 : Hid (Off F w0 w1) := hID ⟨ho1.os.trans HO.out.os, ho1.tape.trans HO.out.tape, ho1.output.trans HO.out.output, Nat.le_trans HO.out.size ho1.size, fun i hi hn => (ho1.block i (Nat.lt_of_lt_of_le hi HO.out.size) (fun hf1 => by rcases HF1.out i hf1 with h | h; exact hn h; omega)).trans (HO.out.block i hi hn)⟩
   have W1 := hID (own_off HWr.out ho1 HX.out)
   have HX1 := hID (fun g hg (hf : Grow F1 wr w1 g) => hf.elim (HX.out g hg) (fun h => by have := (HWr.out.lt g hg).2; omega))
   have HA1 := hID ha1
   have HG1 : Hid (∀ j, Grow F1 wr w1 j → Grow F w0 w1 j) := hID (fun j hj => Grow.join HO.out.size ho1.size j (hj.elim (fun h => .inl (HF1.out j h)) (fun h => .inr h)))
   clear ha1 ho1 HL HWr HX HAr HF1 c0 c1 c2 c3 c4 c5 c6 c7
   go_wp2_with (at_builtin; refine wpList_append_own_at _ rfl _ _ 23 rfl w0.heap.size 41 i0 (.int .u64 0) 1 8 Tryz.underlying23 hi0 hz0 hz1 hz2 rfl (by decide) u7 k (u64s (ldL C l.st k)) rfl (W1.out.alloc _) ⟨w1.heap.size, 0, none⟩ 1 1 [.int .u64 (n64 (cl C (l.st + k)))] rfl rfl ?c1 ?c2 ?c3 ?c4 ?c5 ?_)
   case c1 => exact cell_one_ld _ _ _
   case c2 => intro u hu; simp at hu; subst hu; rfl
   case c3 => unfold maxLen; omega
   case c4 => omega
   case c5 => have := O1.out.size; simp; omega
   intro v' w2 hown' hgrow hnil hat2
   rw [ldL_succ] at hown'
   have HN := hID hown'
   have HG := hID hgrow
   have HT := hID hat2
   clear hown' hgrow hnil hat2
   have o12 : Off (fun j => u7.ownBlock = some j) w1 w2 := Off.grown (Off.alloc (Off.refl _ _) _) HG.out (fun j hj => .inl hj)
   have hsz := o12.size
   have HR : Hid (LdAt w0 F r C E l.st (k + 1) v' w2) := hID ⟨Grow F1 wr w1, HA1.out.keep o12 (fun j hj hg => HX1.out j hg hj), fun j hj => (HG1.out j hj).elim .inl (fun h => .inr ⟨h.1, Nat.lt_of_lt_of_le h.2 hsz⟩), Off.grown (Off.alloc O1.out _) HG.out (fun j hj => .inr (W1.out.lt j hj).1), HN.out, fun g hg hf => by
    have hl := HA1.out.lt g hf
    rcases HT.out with h | h
    ·exact HX1.out g (h ▸ hg) hf
    ·rw [h] at hg; injection hg with hg; omega⟩
   clear o12 hsz HG HN HT HG1 HA1 HX1 W1 O1
   go_wp2_with fail
   go_roundw
   case rel => exact ⟨k + 1, by omega, by go_num, _, rfl, HR.out⟩
   case measure => simp [intOf]; omega
  ·obtain rfl : k = l.a := by omega
   have d1 : decide ((l.a : Int) < (l.a : Int)) = false := decide_eq_false (by omega)
   go_wp2_with fail
   go_ret2
   obtain ⟨F1, ha, hs, ho, hw, hx⟩ := HLD.out
   have hrd : Rd wr (fun k => w.heap.size ≤ k) 1 u7 l.a (u64s (stL l C l.a)) := Rd.own hw (fun g hg => Nat.le_trans X0.out.1.size (hw.lt g hg).1)
   exact ⟨⟨_, rfl, hrd⟩, RfTo.pre HW.out X0.out.1 ⟨ha.mono hs (Grow.lt HA.out.lt ho.size), ho⟩⟩
set_option maxHeartbeats 2000000 in
theorem rstate_err (l : Lay) (c : Int) (hc0 : c ≠ 0)  {w : World} {v : Value} (h : ∀ W, Off Nob w W → Calls Tryz.prog 61 #[v, .agg #[.int .i64 l.a, .int .i64 l.b, .int .i64 l.t, .int .i64 l.s, .int .i64 l.f, .int .i64 l.st, .int .i64 l.n, .int .i64 l.h]] W fun e w' => e = .returned (.int .i64 c) ∧ Off Nob W w') :
  Calls Tryz.prog 26 #[v, .agg #[.int .i64 l.a, .int .i64 l.b, .int .i64 l.t, .int .i64 l.s, .int .i64 l.f, .int .i64 l.st, .int .i64 l.n, .int .i64 l.h]] w fun e w' => e = .returned (.tuple #[.slice none 0 0, .int .i64 (c)]) ∧ Off Nob w w' := by
 have hmf : ∀ (fn : Fn) (first cap : Array Value) (w : World), (Instr.makeFunc fn first cap).run Tryz.prog w = .ok (.func fn first cap) w := fun _ _ _ _ => rfl
 have HA := hID h
 obtain ⟨hc1, hc2⟩ := askE_ne hc0
 clear h hc0
 go_enter Tryz.func26, Tryz.ntmps26
 go_wp2_with fail
 have X0 : Hid (Off Nob w (w.alloc (.cells #[.int .i64 l.a, .int .i64 l.b, .int .i64 l.t, .int .i64 l.s, .int .i64 l.f, .int .i64 l.st, .int .i64 l.n, .int .i64 l.h] 33)) ∧ Blk (w.alloc (.cells #[.int .i64 l.a, .int .i64 l.b, .int .i64 l.t, .int .i64 l.s, .int .i64 l.f, .int .i64 l.st, .int .i64 l.n, .int .i64 l.h] 33)) w.heap.size 33 #[.int .i64 l.a, .int .i64 l.b, .int .i64 l.t, .int .i64 l.s, .int .i64 l.f, .int .i64 l.st, .int .i64 l.n, .int .i64 l.h]) := hID ⟨((Off.refl Nob w).alloc _), (show Blk (w.alloc (.cells #[.int .i64 l.a, .int .i64 l.b, .int .i64 l.t, .int .i64 l.s, .int .i64 l.f, .int .i64 l.st, .int .i64 l.n, .int .i64 l.h] 33)) (w.heap.size) 33 #[.int .i64 l.a, .int .i64 l.b, .int .i64 l.t, .int .i64 l.s, .int .i64 l.f, .int .i64 l.st, .int .i64 l.n, .int .i64 l.h] from by
  have := Blk.new w 33 #[.int .i64 l.a, .int .i64 l.b, .int .i64 l.t, .int .i64 l.s, .int .i64 l.f, .int .i64 l.st, .int .i64 l.n, .int .i64 l.h]
  simpa using this)⟩
 revert X0
 generalize (w.alloc (.cells #[.int .i64 l.a, .int .i64 l.b, .int .i64 l.t, .int .i64 l.s, .int .i64 l.f, .int .i64 l.st, .int .i64 l.n, .int .i64 l.h] 33)) = W0
 intro X0
 refine (HA.out _ X0.out.1).mono ?_
 rintro e w1 ⟨rfl, o1⟩
 have X1 := hID (X0.out.1.also o1)
 go_wp2_with fail
 go_ret2
 exact ⟨rfl, X1.out⟩
set_option maxHeartbeats 2000000 in
theorem rclear_err (l : Lay) (c : Int) (hc0 : c ≠ 0)  {w : World} {v : Value} (h : ∀ W, Off Nob w W → Calls Tryz.prog 61 #[v, .agg #[.int .i64 l.a, .int .i64 l.b, .int .i64 l.t, .int .i64 l.s, .int .i64 l.f, .int .i64 l.st, .int .i64 l.n, .int .i64 l.h]] W fun e w' => e = .returned (.int .i64 c) ∧ Off Nob W w') :
  Calls Tryz.prog 22 #[v, .agg #[.int .i64 l.a, .int .i64 l.b, .int .i64 l.t, .int .i64 l.s, .int .i64 l.f, .int .i64 l.st, .int .i64 l.n, .int .i64 l.h]] w fun e w' => e = .returned (.int .i64 (c)) ∧ Off Nob w w' := by
 have hmf : ∀ (fn : Fn) (first cap : Array Value) (w : World), (Instr.makeFunc fn first cap).run Tryz.prog w = .ok (.func fn first cap) w := fun _ _ _ _ => rfl
 have HA := hID h
 obtain ⟨hc1, hc2⟩ := askE_ne hc0
 clear h hc0
 go_enter Tryz.func22, Tryz.ntmps22
 go_wp2_with fail
 have X0 : Hid (Off Nob w (w.alloc (.cells #[.int .i64 l.a, .int .i64 l.b, .int .i64 l.t, .int .i64 l.s, .int .i64 l.f, .int .i64 l.st, .int .i64 l.n, .int .i64 l.h] 33)) ∧ Blk (w.alloc (.cells #[.int .i64 l.a, .int .i64 l.b, .int .i64 l.t, .int .i64 l.s, .int .i64 l.f, .int .i64 l.st, .int .i64 l.n, .int .i64 l.h] 33)) w.heap.size 33 #[.int .i64 l.a, .int .i64 l.b, .int .i64 l.t, .int .i64 l.s, .int .i64 l.f, .int .i64 l.st, .int .i64 l.n, .int .i64 l.h]) := hID ⟨((Off.refl Nob w).alloc _), (show Blk (w.alloc (.cells #[.int .i64 l.a, .int .i64 l.b, .int .i64 l.t, .int .i64 l.s, .int .i64 l.f, .int .i64 l.st, .int .i64 l.n, .int .i64 l.h] 33)) (w.heap.size) 33 #[.int .i64 l.a, .int .i64 l.b, .int .i64 l.t, .int .i64 l.s, .int .i64 l.f, .int .i64 l.st, .int .i64 l.n, .int .i64 l.h] from by
  have := Blk.new w 33 #[.int .i64 l.a, .int .i64 l.b, .int .i64 l.t, .int .i64 l.s, .int .i64 l.f, .int .i64 l.st, .int .i64 l.n, .int .i64 l.h]
  simpa using this)⟩
 revert X0
 generalize (w.alloc (.cells #[.int .i64 l.a, .int .i64 l.b, .int .i64 l.t, .int .i64 l.s, .int .i64 l.f, .int .i64 l.st, .int .i64 l.n, .int .i64 l.h] 33)) = W0
 intro X0
 refine (HA.out _ X0.out.1).mono ?_
 rintro e w1 ⟨rfl, o1⟩
 have X1 := hID (X0.out.1.also o1)
 go_wp2_with fail
 go_ret
 exact ⟨rfl, X1.out⟩
set_option maxHeartbeats 2000000 in
theorem rsetup_err (l : Lay) (c : Int) (hc0 : c ≠ 0) (A0 A1 A2 A3 : Option Addr) (n0 n1 n2 n3 k0 k1 k2 k3 : Nat) (wd : Int) {w : World} {v : Value} (h : ∀ W, Off Nob w W → Calls Tryz.prog 61 #[v, .agg #[.int .i64 l.a, .int .i64 l.b, .int .i64 l.t, .int .i64 l.s, .int .i64 l.f, .int .i64 l.st, .int .i64 l.n, .int .i64 l.h]] W fun e w' => e = .returned (.int .i64 c) ∧ Off Nob W w') :
  Calls Tryz.prog 23 #[v, .agg #[.int .i64 l.a, .int .i64 l.b, .int .i64 l.t, .int .i64 l.s, .int .i64 l.f, .int .i64 l.st, .int .i64 l.n, .int .i64 l.h], .agg #[.slice A0 n0 k0, .int .i64 wd, .slice A1 n1 k1, .slice A2 n2 k2, .slice A3 n3 k3]] w fun e w' => e = .returned (.int .i64 (c)) ∧ Off Nob w w' := by
 have hmf : ∀ (fn : Fn) (first cap : Array Value) (w : World), (Instr.makeFunc fn first cap).run Tryz.prog w = .ok (.func fn first cap) w := fun _ _ _ _ => rfl
 have HA := hID h
 obtain ⟨hc1, hc2⟩ := askE_ne hc0
 clear h hc0
 go_enter Tryz.func23, Tryz.ntmps23
 go_wp2_with fail
 have X0 : Hid (Off Nob w ((w.alloc (.cells #[.int .i64 l.a, .int .i64 l.b, .int .i64 l.t, .int .i64 l.s, .int .i64 l.f, .int .i64 l.st, .int .i64 l.n, .int .i64 l.h] 33)).alloc (.cells #[.slice A0 n0 k0, .int .i64 wd, .slice A1 n1 k1, .slice A2 n2 k2, .slice A3 n3 k3] 25)) ∧ Blk ((w.alloc (.cells #[.int .i64 l.a, .int .i64 l.b, .int .i64 l.t, .int .i64 l.s, .int .i64 l.f, .int .i64 l.st, .int .i64 l.n, .int .i64 l.h] 33)).alloc (.cells #[.slice A0 n0 k0, .int .i64 wd, .slice A1 n1 k1, .slice A2 n2 k2, .slice A3 n3 k3] 25)) w.heap.size 33 #[.int .i64 l.a, .int .i64 l.b, .int .i64 l.t, .int .i64 l.s, .int .i64 l.f, .int .i64 l.st, .int .i64 l.n, .int .i64 l.h] ∧ Blk ((w.alloc (.cells #[.int .i64 l.a, .int .i64 l.b, .int .i64 l.t, .int .i64 l.s, .int .i64 l.f, .int .i64 l.st, .int .i64 l.n, .int .i64 l.h] 33)).alloc (.cells #[.slice A0 n0 k0, .int .i64 wd, .slice A1 n1 k1, .slice A2 n2 k2, .slice A3 n3 k3] 25)) (w.heap.size + 1) 25 #[.slice A0 n0 k0, .int .i64 wd, .slice A1 n1 k1, .slice A2 n2 k2, .slice A3 n3 k3]) := hID ⟨(((Off.refl Nob w).alloc _).alloc _), (Blk.alloc (show Blk (w.alloc (.cells #[.int .i64 l.a, .int .i64 l.b, .int .i64 l.t, .int .i64 l.s, .int .i64 l.f, .int .i64 l.st, .int .i64 l.n, .int .i64 l.h] 33)) (w.heap.size) 33 #[.int .i64 l.a, .int .i64 l.b, .int .i64 l.t, .int .i64 l.s, .int .i64 l.f, .int .i64 l.st, .int .i64 l.n, .int .i64 l.h] from by
  have := Blk.new w 33 #[.int .i64 l.a, .int .i64 l.b, .int .i64 l.t, .int .i64 l.s, .int .i64 l.f, .int .i64 l.st, .int .i64 l.n, .int .i64 l.h]
  simpa using this) _), (show Blk ((w.alloc (.cells #[.int .i64 l.a, .int .i64 l.b, .int .i64 l.t, .int .i64 l.s, .int .i64 l.f, .int .i64 l.st, .int .i64 l.n, .int .i64 l.h] 33)).alloc (.cells #[.slice A0 n0 k0, .int .i64 wd, .slice A1 n1 k1, .slice A2 n2 k2, .slice A3 n3 k3] 25)) ((w.heap.size + 1)) 25 #[.slice A0 n0 k0, .int .i64 wd, .slice A1 n1 k1, .slice A2 n2 k2, .slice A3 n3 k3] from by
  have := Blk.new (w.alloc (.cells #[.int .i64 l.a, .int .i64 l.b, .int .i64 l.t, .int .i64 l.s, .int .i64 l.f, .int .i64 l.st, .int .i64 l.n, .int .i64 l.h] 33)) 25 #[.slice A0 n0 k0, .int .i64 wd, .slice A1 n1 k1, .slice A2 n2 k2, .slice A3 n3 k3]
  simpa using this)⟩
 revert X0
 generalize ((w.alloc (.cells #[.int .i64 l.a, .int .i64 l.b, .int .i64 l.t, .int .i64 l.s, .int .i64 l.f, .int .i64 l.st, .int .i64 l.n, .int .i64 l.h] 33)).alloc (.cells #[.slice A0 n0 k0, .int .i64 wd, .slice A1 n1 k1, .slice A2 n2 k2, .slice A3 n3 k3] 25)) = W0
 intro X0
 refine (HA.out _ X0.out.1).mono ?_
 rintro e w1 ⟨rfl, o1⟩
 have X1 := hID (X0.out.1.also o1)
 go_wp2_with fail
 go_ret
 exact ⟨rfl, X1.out⟩
set_option maxHeartbeats 2000000 in
theorem rbyte_err (l : Lay) (c : Int) (hc0 : c ≠ 0) (b m : Int) {w : World} {v : Value} (h : ∀ W, Off Nob w W → Calls Tryz.prog 61 #[v, .agg #[.int .i64 l.a, .int .i64 l.b, .int .i64 l.t, .int .i64 l.s, .int .i64 l.f, .int .i64 l.st, .int .i64 l.n, .int .i64 l.h]] W fun e w' => e = .returned (.int .i64 c) ∧ Off Nob W w') :
  Calls Tryz.prog 25 #[v, .agg #[.int .i64 l.a, .int .i64 l.b, .int .i64 l.t, .int .i64 l.s, .int .i64 l.f, .int .i64 l.st, .int .i64 l.n, .int .i64 l.h], .int .u64 b, .int .u64 m] w fun e w' => e = .returned (.int .i64 (c)) ∧ Off Nob w w' := by
 have hmf : ∀ (fn : Fn) (first cap : Array Value) (w : World), (Instr.makeFunc fn first cap).run Tryz.prog w = .ok (.func fn first cap) w := fun _ _ _ _ => rfl
 have HA := hID h
 obtain ⟨hc1, hc2⟩ := askE_ne hc0
 clear h hc0
 go_enter Tryz.func25, Tryz.ntmps25
 go_wp2_with fail
 have X0 : Hid (Off Nob w (w.alloc (.cells #[.int .i64 l.a, .int .i64 l.b, .int .i64 l.t, .int .i64 l.s, .int .i64 l.f, .int .i64 l.st, .int .i64 l.n, .int .i64 l.h] 33)) ∧ Blk (w.alloc (.cells #[.int .i64 l.a, .int .i64 l.b, .int .i64 l.t, .int .i64 l.s, .int .i64 l.f, .int .i64 l.st, .int .i64 l.n, .int .i64 l.h] 33)) w.heap.size 33 #[.int .i64 l.a, .int .i64 l.b, .int .i64 l.t, .int .i64 l.s, .int .i64 l.f, .int .i64 l.st, .int .i64 l.n, .int .i64 l.h]) := hID ⟨((Off.refl Nob w).alloc _), (show Blk (w.alloc (.cells #[.int .i64 l.a, .int .i64 l.b, .int .i64 l.t, .int .i64 l.s, .int .i64 l.f, .int .i64 l.st, .int .i64 l.n, .int .i64 l.h] 33)) (w.heap.size) 33 #[.int .i64 l.a, .int .i64 l.b, .int .i64 l.t, .int .i64 l.s, .int .i64 l.f, .int .i64 l.st, .int .i64 l.n, .int .i64 l.h] from by
  have := Blk.new w 33 #[.int .i64 l.a, .int .i64 l.b, .int .i64 l.t, .int .i64 l.s, .int .i64 l.f, .int .i64 l.st, .int .i64 l.n, .int .i64 l.h]
  simpa using this)⟩
 revert X0
 generalize (w.alloc (.cells #[.int .i64 l.a, .int .i64 l.b, .int .i64 l.t, .int .i64 l.s, .int .i64 l.f, .int .i64 l.st, .int .i64 l.n, .int .i64 l.h] 33)) = W0
 intro X0
 refine (HA.out _ X0.out.1).mono ?_
 rintro e w1 ⟨rfl, o1⟩
 have X1 := hID (X0.out.1.also o1)
 go_wp2_with fail
 go_ret
 exact ⟨rfl, X1.out⟩
set_option maxHeartbeats 8000000 in
theorem rsetup_bad (l : LayN) (w : World) (F : Nat → Prop) (r : Nat) (C : List (BitVec 64)) (E : List Ev) (h : Rf w F r C E) (hl : askE C.length l.lay = 0) (hi : l.In C.length) (ids : List Int) (AI : Option Addr) (ci : Nat) (wd : Int) (VT VS VF : Value) (T S Fi : List Nat) (hs : SetV w (.slice AI ids.length ci) VT VS VF ids wd T S Fi) (hne : setAskE l ids wd T S Fi ≠ 0) :
  Calls Tryz.prog 23 #[.pointer (some ⟨r, 0, none⟩), .agg #[.int .i64 l.a, .int .i64 l.b, .int .i64 l.t, .int .i64 l.s, .int .i64 l.f, .int .i64 l.st, .int .i64 l.n, .int .i64 l.h], .agg #[.slice AI ids.length ci, .int .i64 wd, VT, VS, VF]] w fun e w' => e = .returned (.int .i64 (setAskE l ids wd T S Fi)) ∧ Off Nob w w' := by
 have HCK := hID (fun (V : World) (oV : Off Nob w V) => r_Check ids wd T S Fi V (.slice AI ids.length ci) VT VS VF (hs.keep oV))
 have HRS : Hid (∃ c d : Int, setErr ids wd T S Fi = c ∧ setAskE l ids wd T S Fi = d ∧ ((c ≠ 0 ∧ d = c) ∨ (c = 0 ∧ d = 2 ∧ ((wd != (l.a : Int)) = true ∨ ((wd != (l.a : Int)) = false ∧ ((ids.length : Int) != (l.b : Int)) = true))))) := hID (by
  refine ⟨_, _, rfl, rfl, ?_⟩
  unfold setAskE at hne ⊢
  by_cases h0 : setErr ids wd T S Fi = 0
  ·rw [if_pos h0] at hne ⊢
   right
   by_cases h1 : wd = (l.a : Int) ∧ ids.length = l.b
   ·rw [if_pos h1] at hne
    exact absurd rfl hne
   ·rw [if_neg h1]
    refine ⟨h0, rfl, ?_⟩
    by_cases h2 : wd = (l.a : Int)
    ·right
     exact ⟨by rw [h2]; simp, by simp; intro e; exact h1 ⟨h2, by omega⟩⟩
    ·left
     simpa using h2
  ·rw [if_neg h0] at hne ⊢
   exact .inl ⟨h0, rfl⟩)
 obtain ⟨c, d, hc, hd, hcd⟩ := HRS.out
 rw [hc] at HCK
 rw [hd]
 have HCD := hID hcd
 clear hs hne hc hd hcd HRS
 have hC := h.n2
 obtain ⟨a1, a4, b1, b16, it, is, if_, ist, in_, ih⟩ := hi
 have HB := hID (And.intro a1 (And.intro a4 (And.intro b1 (And.intro b16 (And.intro it (And.intro is (And.intro if_ (And.intro ist (And.intro in_ ih)))))))))
 have X0 : Hid (Off Nob w ((w.alloc (.cells #[.int .i64 l.a, .int .i64 l.b, .int .i64 l.t, .int .i64 l.s, .int .i64 l.f, .int .i64 l.st, .int .i64 l.n, .int .i64 l.h] 33)).alloc (.cells #[.slice AI ids.length ci, .int .i64 wd, VT, VS, VF] 25)) ∧ Blk ((w.alloc (.cells #[.int .i64 l.a, .int .i64 l.b, .int .i64 l.t, .int .i64 l.s, .int .i64 l.f, .int .i64 l.st, .int .i64 l.n, .int .i64 l.h] 33)).alloc (.cells #[.slice AI ids.length ci, .int .i64 wd, VT, VS, VF] 25)) w.heap.size 33 #[.int .i64 l.a, .int .i64 l.b, .int .i64 l.t, .int .i64 l.s, .int .i64 l.f, .int .i64 l.st, .int .i64 l.n, .int .i64 l.h] ∧ Blk ((w.alloc (.cells #[.int .i64 l.a, .int .i64 l.b, .int .i64 l.t, .int .i64 l.s, .int .i64 l.f, .int .i64 l.st, .int .i64 l.n, .int .i64 l.h] 33)).alloc (.cells #[.slice AI ids.length ci, .int .i64 wd, VT, VS, VF] 25)) (w.heap.size + 1) 25 #[.slice AI ids.length ci, .int .i64 wd, VT, VS, VF]) := hID ⟨((Off.refl _ _).alloc _).alloc _, (Blk.new _ _ _).alloc _, blk_second _ _ _ _⟩
 have HW := hID h
 have hgF : ∀ k, w.heap.size ≤ k → ¬ F k := fun k hk hf => by have := h.lt k hf; omega
 have HL := hID hl
 clear h hl
 go_enter Tryz.func23, Tryz.ntmps23
 go_wp2_with fail
 revert X0
 generalize ((w.alloc (.cells #[.int .i64 l.a, .int .i64 l.b, .int .i64 l.t, .int .i64 l.s, .int .i64 l.f, .int .i64 l.st, .int .i64 l.n, .int .i64 l.h] 33)).alloc (.cells #[.slice AI ids.length ci, .int .i64 wd, VT, VS, VF] 25)) = w0
 intro X0
 have HA := hID (HW.out.keep X0.out.1 (fun _ _ hn => hn))
 have GC : Hid (∀ W, Off F w0 W → W.cell? ⟨w.heap.size, 0, none⟩ = some (.int .i64 l.a) ∧ W.cell? ⟨w.heap.size, 1, none⟩ = some (.int .i64 l.b) ∧ W.cell? ⟨w.heap.size, 2, none⟩ = some (.int .i64 l.t) ∧ W.cell? ⟨w.heap.size, 3, none⟩ = some (.int .i64 l.s) ∧ W.cell? ⟨w.heap.size, 4, none⟩ = some (.int .i64 l.f) ∧ W.cell? ⟨w.heap.size, 5, none⟩ = some (.int .i64 l.st) ∧ W.cell? ⟨w.heap.size, 6, none⟩ = some (.int .i64 l.n) ∧ W.cell? ⟨w.heap.size, 7, none⟩ = some (.int .i64 l.h) ∧ W.cell? ⟨w.heap.size + 1, 0, none⟩ = some (.slice AI ids.length ci) ∧ W.cell? ⟨w.heap.size + 1, 1, none⟩ = some (.int .i64 wd) ∧ W.cell? ⟨w.heap.size + 1, 2, none⟩ = some (VT) ∧ W.cell? ⟨w.heap.size + 1, 3, none⟩ = some (VS) ∧ W.cell? ⟨w.heap.size + 1, 4, none⟩ = some (VF)) := hID (fun W o => by
  have h := X0.out.2.1.to (o.block _ X0.out.2.1.lt (hgF _ (Nat.le_refl _)))
  have h2 := X0.out.2.2.to (o.block _ X0.out.2.2.lt (hgF _ (Nat.le_add_right _ _)))
  exact ⟨h.cell 0, h.cell 1, h.cell 2, h.cell 3, h.cell 4, h.cell 5, h.cell 6, h.cell 7, h2.cell 0, h2.cell 1, h2.cell 2, h2.cell 3, h2.cell 4⟩)
 clear hgF
 have HASK : Hid (∀ W, Off Nob w0 W → Calls Tryz.prog 61 #[.pointer (some ⟨r, 0, none⟩), .agg #[.int .i64 l.a, .int .i64 l.b, .int .i64 l.t, .int .i64 l.s, .int .i64 l.f, .int .i64 l.st, .int .i64 l.n, .int .i64 l.h]] W fun e w' => e = .returned (.int .i64 0) ∧ Off Nob W w') := hID (fun W o => by
  have k := rasked_any l.lay (HA.out.keep o (fun _ _ hn => hn))
  rw [HL.out] at k
  exact k)
 refine (HASK.out _ (Off.refl _ _)).mono ?_
 rintro e w1 ⟨rfl, o1⟩
 have Y1 := hID (RfTo.off HA.out o1)
 have Y1o := hID o1
 clear o1 HASK
 obtain ⟨c0, c1, c2, c3, c4, c5, c6, c7, s0, s1, s2, s3, s4⟩ := GC.out _ Y1.out.2
 go_wp2_with fail
 refine (HCK.out _ (X0.out.1.also Y1o.out)).mono ?_
 rintro e w2 ⟨rfl, o2⟩
 have Y2 := hID (Y1.out.nob o2)
 have Y2o := hID (X0.out.1.also (Y1o.out.also o2))
 clear o2 HCK c0 c1 c2 c3 c4 c5 c6 c7 s0 s1 s2 s3 s4
 obtain ⟨c0, c1, c2, c3, c4, c5, c6, c7, s0, s1, s2, s3, s4⟩ := GC.out _ Y2.out.2
 rcases HCD.out with ⟨h0, rfl⟩ | ⟨rfl, rfl, h1 | ⟨h1, h2⟩⟩
 ·obtain ⟨e1, e2⟩ := askE_ne h0
  clear h0
  go_wp2_with fail
  go_ret
  exact ⟨rfl, Y2o.out⟩
 ·go_wp2_with fail
  go_ret
  exact ⟨rfl, Y2o.out⟩
 ·go_wp2_with fail
  go_ret
  exact ⟨rfl, Y2o.out⟩
set_option maxHeartbeats 8000000 in
theorem rbyte_bad (l : LayN) (w : World) (F : Nat → Prop) (r : Nat) (C : List (BitVec 64)) (E : List Ev) (h : Rf w F r C E) (hl : askE C.length l.lay = 0) (hi : l.In C.length) (x : Int) (m : BitVec 64) (hm : isM m = false) :
  Calls Tryz.prog 25 #[.pointer (some ⟨r, 0, none⟩), .agg #[.int .i64 l.a, .int .i64 l.b, .int .i64 l.t, .int .i64 l.s, .int .i64 l.f, .int .i64 l.st, .int .i64 l.n, .int .i64 l.h], .int .u64 x, .int .u64 (n64 m)] w fun e w' => e = .returned (.int .i64 2) ∧ Off Nob w w' := by
 have HIS : Hid (∀ W, Calls Tryz.prog 68 #[.int .u64 (n64 m)] W fun e w' => e = .returned (.bool false) ∧ W = w') := hID (fun W => by
  have k := ris_any m W
  rwa [hm] at k)
 clear hm
 have hC := h.n2
 obtain ⟨a1, a4, b1, b16, it, is, if_, ist, in_, ih⟩ := hi
 have HB := hID (And.intro a1 (And.intro a4 (And.intro b1 (And.intro b16 (And.intro it (And.intro is (And.intro if_ (And.intro ist (And.intro in_ ih)))))))))
 have X0 : Hid (Off Nob w (w.alloc (.cells #[.int .i64 l.a, .int .i64 l.b, .int .i64 l.t, .int .i64 l.s, .int .i64 l.f, .int .i64 l.st, .int .i64 l.n, .int .i64 l.h] 33)) ∧ Blk (w.alloc (.cells #[.int .i64 l.a, .int .i64 l.b, .int .i64 l.t, .int .i64 l.s, .int .i64 l.f, .int .i64 l.st, .int .i64 l.n, .int .i64 l.h] 33)) w.heap.size 33 #[.int .i64 l.a, .int .i64 l.b, .int .i64 l.t, .int .i64 l.s, .int .i64 l.f, .int .i64 l.st, .int .i64 l.n, .int .i64 l.h]) := hID ⟨(Off.refl _ _).alloc _, Blk.new _ _ _⟩
 have HW := hID h
 have hgF : ∀ k, w.heap.size ≤ k → ¬ F k := fun k hk hf => by have := h.lt k hf; omega
 have HL := hID hl
 clear h hl
 go_enter Tryz.func25, Tryz.ntmps25
 go_wp2_with fail
 revert X0
 generalize (w.alloc (.cells #[.int .i64 l.a, .int .i64 l.b, .int .i64 l.t, .int .i64 l.s, .int .i64 l.f, .int .i64 l.st, .int .i64 l.n, .int .i64 l.h] 33)) = w0
 intro X0
 have HA := hID (HW.out.keep X0.out.1 (fun _ _ hn => hn))
 have GC : Hid (∀ W, Off F w0 W → W.cell? ⟨w.heap.size, 0, none⟩ = some (.int .i64 l.a) ∧ W.cell? ⟨w.heap.size, 1, none⟩ = some (.int .i64 l.b) ∧ W.cell? ⟨w.heap.size, 2, none⟩ = some (.int .i64 l.t) ∧ W.cell? ⟨w.heap.size, 3, none⟩ = some (.int .i64 l.s) ∧ W.cell? ⟨w.heap.size, 4, none⟩ = some (.int .i64 l.f) ∧ W.cell? ⟨w.heap.size, 5, none⟩ = some (.int .i64 l.st) ∧ W.cell? ⟨w.heap.size, 6, none⟩ = some (.int .i64 l.n) ∧ W.cell? ⟨w.heap.size, 7, none⟩ = some (.int .i64 l.h)) := hID (fun W o => by
  have h := X0.out.2.to (o.block _ X0.out.2.lt (hgF _ (Nat.le_refl _)))
  exact ⟨h.cell 0, h.cell 1, h.cell 2, h.cell 3, h.cell 4, h.cell 5, h.cell 6, h.cell 7⟩)
 clear hgF
 have HASK : Hid (∀ W, Off Nob w0 W → Calls Tryz.prog 61 #[.pointer (some ⟨r, 0, none⟩), .agg #[.int .i64 l.a, .int .i64 l.b, .int .i64 l.t, .int .i64 l.s, .int .i64 l.f, .int .i64 l.st, .int .i64 l.n, .int .i64 l.h]] W fun e w' => e = .returned (.int .i64 0) ∧ Off Nob W w') := hID (fun W o => by
  have k := rasked_any l.lay (HA.out.keep o (fun _ _ hn => hn))
  rw [HL.out] at k
  exact k)
 refine (HASK.out _ (Off.refl _ _)).mono ?_
 rintro e w1 ⟨rfl, o1⟩
 have Y1 := hID (RfTo.off HA.out o1)
 have Y1o := hID o1
 clear o1 HASK
 go_wp2_with fail
 refine (HIS.out _).mono ?_
 rintro e w2 ⟨rfl, rfl⟩
 go_wp2_with fail
 go_ret
 exact ⟨rfl, X0.out.1.also Y1o.out⟩
end Go.Proofs.YtkflicifngohcaaGreatDoor

namespace Go.Proofs.YtkflicifngohcaaGreatDoor
open Go.RowKit
attribute [local go_sem] bits_and_u64 bits_or_u64 bits_xor_u64 wrap_u64 bv_add bv_neg bv_sub bv_mul
set_option maxRecDepth 100000
theorem b2S_bit (l : LayN) (m : BitVec 64) (C : List (BitVec 64)) (k : Nat) : (b2S l m C k).2.toNat ≤ 1 := by
 cases k with
 | zero => exact Nat.zero_le _
 | succ k =>
  show ((b2S l m C k).1.getD (l.st + k) 0 >>> 63).toNat ≤ 1
  rw [BitVec.toNat_ushiftRight, Nat.shiftRight_eq_div_pow]
  have := ((b2S l m C k).1.getD (l.st + k) 0).isLt
  omega
theorem top_tdiv (u : BitVec 64) : bv ((n64 u).tdiv 9223372036854775808) = u >>> 63 := by
 rw [Int.tdiv_eq_ediv_of_nonneg (n64_nonneg u), top_bit]
 exact bv_n64 _
theorem two_carry (u c : BitVec 64) (h : c.toNat ≤ 1) : bv 2 * u + c = (u <<< 1) ||| c := by
 have e : bv 2 * u = u <<< 1 := by rw [BitVec.mul_comm]; exact shl_one u
 rw [e]
 refine BitVec.add_eq_or_of_and_eq_zero _ _ ?_
 apply BitVec.eq_of_toNat_eq
 apply Nat.eq_of_testBit_eq
 intro j
 rw [BitVec.toNat_and, Nat.testBit_and, BitVec.toNat_shiftLeft, Nat.testBit_mod_two_pow, Nat.testBit_shiftLeft]
 by_cases hj : 1 ≤ j
 ·have : c.toNat.testBit j = false := Nat.testBit_lt_two_pow (by
   have h2 : 2 ^ 1 ≤ 2 ^ j := Nat.pow_le_pow_right (by decide) hj
   omega)
  rw [this, Bool.and_false]
  exact (Nat.zero_testBit j).symm
 ·rw [decide_eq_false (by omega : ¬ j ≥ 1), Bool.false_and, Bool.and_false, Bool.false_and]
  exact (Nat.zero_testBit j).symm
set_option maxHeartbeats 8000000 in
theorem rbyte_any (l : LayN) (w : World) (F : Nat → Prop) (r : Nat) (C : List (BitVec 64)) (E : List Ev) (h : Rf w F r C E) (hl : askE C.length l.lay = 0) (hi : l.In C.length) (x m : BitVec 64) (hm : isM m = true) (hE : E.length + (261 * l.a + l.b * (2 * l.a + 1)) < 8388608) :
  Calls Tryz.prog 25 #[.pointer (some ⟨r, 0, none⟩), .agg #[.int .i64 l.a, .int .i64 l.b, .int .i64 l.t, .int .i64 l.s, .int .i64 l.f, .int .i64 l.st, .int .i64 l.n, .int .i64 l.h], .int .u64 (n64 x), .int .u64 (n64 m)] w fun e w' => e = .returned (.int .i64 0) ∧ RfTo w F r (byC l x m C) (byE l E) w' := by
 have HRE : Hid (roomE E.length (261 * (l.a : Int) + (l.b : Int) * (2 * (l.a : Int) + 1)) = 0) := hID (by
  have k := roomE_fit (show E.length + (261 * l.a + l.b * (2 * l.a + 1)) ≤ 8388608 by omega)
  have e : ((261 * l.a + l.b * (2 * l.a + 1) : Nat) : Int) = 261 * (l.a : Int) + (l.b : Int) * (2 * (l.a : Int) + 1) := by push_cast; rfl
  rwa [e] at k)
 have HIS : Hid (∀ W, Calls Tryz.prog 68 #[.int .u64 (n64 m)] W fun e w' => e = .returned (.bool true) ∧ W = w') := hID (fun W => by
  have k := ris_any m W
  rwa [hm] at k)
 have HST := hID (fun W => rsteps_yes (l.a : Int) (l.b : Int) (by have := hi.a1; omega) (by have := hi.a4; omega) (by have := hi.b1; omega) (by have := hi.b16; omega) W)
 have hba : l.b * (2 * l.a + 1) ≤ 144 := Nat.le_trans (Nat.mul_le_mul hi.b16 (show 2 * l.a + 1 ≤ 9 by have := hi.a4; omega)) (by decide)
 have HE := hID (And.intro hE hba)
 have HF0 : Hid (l.f + l.b * l.a ≤ C.length ∧ l.b * l.a ≤ 64) := hID ⟨hi.hf, Nat.le_trans (Nat.mul_le_mul hi.b16 hi.a4) (by decide)⟩
 clear hE hm hba
 have hC := h.n2
 obtain ⟨a1, a4, b1, b16, it, is, if_, ist, in_, ih⟩ := hi
 have HB := hID (And.intro a1 (And.intro a4 (And.intro b1 (And.intro b16 (And.intro it (And.intro is (And.intro if_ (And.intro ist (And.intro in_ ih)))))))))
 have X0 : Hid (Off Nob w (w.alloc (.cells #[.int .i64 l.a, .int .i64 l.b, .int .i64 l.t, .int .i64 l.s, .int .i64 l.f, .int .i64 l.st, .int .i64 l.n, .int .i64 l.h] 33)) ∧ Blk (w.alloc (.cells #[.int .i64 l.a, .int .i64 l.b, .int .i64 l.t, .int .i64 l.s, .int .i64 l.f, .int .i64 l.st, .int .i64 l.n, .int .i64 l.h] 33)) w.heap.size 33 #[.int .i64 l.a, .int .i64 l.b, .int .i64 l.t, .int .i64 l.s, .int .i64 l.f, .int .i64 l.st, .int .i64 l.n, .int .i64 l.h]) := hID ⟨(Off.refl _ _).alloc _, Blk.new _ _ _⟩
 have HW := hID h
 have hgF : ∀ k, w.heap.size ≤ k → ¬ F k := fun k hk hf => by have := h.lt k hf; omega
 have HL := hID hl
 clear h hl
 go_enter Tryz.func25, Tryz.ntmps25
 go_wp2_with fail
 revert X0
 generalize (w.alloc (.cells #[.int .i64 l.a, .int .i64 l.b, .int .i64 l.t, .int .i64 l.s, .int .i64 l.f, .int .i64 l.st, .int .i64 l.n, .int .i64 l.h] 33)) = w0
 intro X0
 have HA := hID (HW.out.keep X0.out.1 (fun _ _ hn => hn))
 have GC : Hid (∀ W, Off F w0 W → W.cell? ⟨w.heap.size, 0, none⟩ = some (.int .i64 l.a) ∧ W.cell? ⟨w.heap.size, 1, none⟩ = some (.int .i64 l.b) ∧ W.cell? ⟨w.heap.size, 2, none⟩ = some (.int .i64 l.t) ∧ W.cell? ⟨w.heap.size, 3, none⟩ = some (.int .i64 l.s) ∧ W.cell? ⟨w.heap.size, 4, none⟩ = some (.int .i64 l.f) ∧ W.cell? ⟨w.heap.size, 5, none⟩ = some (.int .i64 l.st) ∧ W.cell? ⟨w.heap.size, 6, none⟩ = some (.int .i64 l.n) ∧ W.cell? ⟨w.heap.size, 7, none⟩ = some (.int .i64 l.h)) := hID (fun W o => by
  have h := X0.out.2.to (o.block _ X0.out.2.lt (hgF _ (Nat.le_refl _)))
  exact ⟨h.cell 0, h.cell 1, h.cell 2, h.cell 3, h.cell 4, h.cell 5, h.cell 6, h.cell 7⟩)
 clear hgF
 have HASK : Hid (∀ W, Off Nob w0 W → Calls Tryz.prog 61 #[.pointer (some ⟨r, 0, none⟩), .agg #[.int .i64 l.a, .int .i64 l.b, .int .i64 l.t, .int .i64 l.s, .int .i64 l.f, .int .i64 l.st, .int .i64 l.n, .int .i64 l.h]] W fun e w' => e = .returned (.int .i64 0) ∧ Off Nob W w') := hID (fun W o => by
  have k := rasked_any l.lay (HA.out.keep o (fun _ _ hn => hn))
  rw [HL.out] at k
  exact k)
 refine (HASK.out _ (Off.refl _ _)).mono ?_
 rintro e w1 ⟨rfl, o1⟩
 have Y1 := hID (RfTo.off HA.out o1)
 have Y1o := hID o1
 clear o1 HASK
 obtain ⟨c0, c1, c2, c3, c4, c5, c6, c7⟩ := GC.out _ Y1.out.2
 go_wp2_with fail
 refine (HIS.out _).mono ?_
 rintro e w2 ⟨rfl, rfl⟩
 go_wp2_with fail
 refine (HST.out _).mono ?_
 rintro e w2 ⟨rfl, rfl⟩
 go_wp2_with fail
 have HRM : Hid (∀ W, W = w1 → Calls Tryz.prog 62 #[.pointer (some ⟨r, 0, none⟩), .int .i64 (261 * (l.a : Int) + (l.b : Int) * (2 * (l.a : Int) + 1))] W fun e w' => e = .returned (.int .i64 0) ∧ W = w') := hID (fun W hW => by
  subst hW
  have k := rroom_any Y1.out.1 (261 * (l.a : Int) + (l.b : Int) * (2 * (l.a : Int) + 1))
  rwa [HRE.out] at k)
 refine (HRM.out _ rfl).mono ?_
 rintro e w2 ⟨rfl, rfl⟩
 clear HRM HST HIS HRE c0 c1 c2 c3 c4 c5 c6 c7
 go_wp2_with fail
 go_loopw [13] (fun q wr => ∃ k : Nat, q = .int .i64 (k : Int) ∧ k ≤ l.a ∧ RfTo w0 F r (b1C l x C k) (b1E l E k) wr) (fun q wr => l.a - (intOf q).toNat)
 case atStart => exact ⟨0, rfl, Nat.zero_le _, Y1.out⟩
 case round =>
  obtain ⟨k, rfl, hk, hy⟩ := hrel
  have Y := hID hy
  clear hy Y1
  obtain ⟨c0, c1, c2, c3, c4, c5, c6, c7⟩ := GC.out _ Y.out.2
  by_cases hlt : k < l.a
  ·have d1 : decide ((k : Int) < (l.a : Int)) = true := decide_eq_true (by omega)
   have HG0 := rget_ok Y.out.1 (l.t + 256 * k) 256 x (by unfold lkE hasE roomE; have := HE.out.1; rw [b1C_len, b1E_len, if_neg (by omega), if_pos (by rw [if_neg (by omega)]), if_neg (by omega), if_neg (by omega)])
   have hgv : (if x.toNat < 256 then cl (b1C l x C k) (l.t + 256 * k + x.toNat) else 0#64) = gvF (fun i => cl (b1C l x C k) (l.t + 256 * k + i)) x 256 := (gvF_eq (fun i => cl (b1C l x C k) (l.t + 256 * k + i)) x 256 (by decide)).symm
   rw [hgv] at HG0
   have hcast : ((l.t + 256 * k : Nat) : Int) = (l.t : Int) + 256 * (k : Int) := by push_cast; rfl
   rw [hcast] at HG0
   have HG := hID HG0
   clear hcast HG0 hgv
   go_wp2_with fail
   refine HG.out.mono ?_
   rintro e v1 ⟨rfl, z1⟩
   have Y2 := hID (Y.out.trans z1)
   clear z1 HG c0 c1 c2 c3 c4 c5 c6 c7
   obtain ⟨c0, c1, c2, c3, c4, c5, c6, c7⟩ := GC.out _ Y2.out.2
   have HP0 := rstore_ok Y2.out.1 ((l.n : Int) + (k : Int)) (gvF (fun i => cl (b1C l x C k) (l.t + 256 * k + i)) x 256) (by omega) (by rw [b1C_len]; omega) (by rw [length_ldE, b1E_len]; have := HE.out.1; omega)
   rw [show ((l.n : Int) + (k : Int)).toNat = l.n + k by omega] at HP0
   have HP := hID HP0
   clear HP0
   obtain ⟨gv, hgv⟩ : ∃ gv, gvF (fun i => cl (b1C l x C k) (l.t + 256 * k + i)) x 256 = gv := ⟨_, rfl⟩
   have HGV := hID hgv
   rw [hgv] at HP ⊢
   clear hgv
   go_wp2_with fail
   refine HP.out.mono ?_
   rintro e v3 ⟨rfl, z3⟩
   have Y3 : Hid (RfTo w0 F r (b1C l x C (k + 1)) (b1E l E (k + 1)) v3) := hID (by
    have q := Y2.out.trans z3
    rw [← HGV.out] at q
    exact q)
   clear z3 HP c0 c1 c2 c3 c4 c5 c6 c7
   go_wp2_with fail
   go_roundw
   case rel => exact ⟨k + 1, by go_num, by omega, Y3.out⟩
   case measure => simp [intOf]; omega
  ·obtain rfl : k = l.a := by omega
   have d1 : decide ((l.a : Int) < (l.a : Int)) = false := decide_eq_false (by omega)
   go_wp2_with fail
   clear c0 c1 c2 c3 c4 c5 c6 c7
   obtain ⟨C1, hC1⟩ : ∃ C1, b1C l x C l.a = C1 := ⟨_, rfl⟩
   obtain ⟨E1, hE1⟩ : ∃ E1, b1E l E l.a = E1 := ⟨_, rfl⟩
   have HC1 : Hid (C1.length = C.length ∧ E1.length = E.length + 257 * l.a) := hID ⟨by rw [← hC1, b1C_len], by rw [← hE1, b1E_len]⟩
   rw [hC1, hE1] at Y
   have HCE := hID (And.intro hC1 hE1)
   clear hC1 hE1
   go_loopw [16, 17] (fun c q wr => ∃ k : Nat, c = .int .u64 (n64 (b2S l m C1 k).2) ∧ q = .int .i64 (k : Int) ∧ k ≤ l.a ∧ RfTo w0 F r (b2S l m C1 k).1 (b2E l E1 k) wr) (fun c q wr => l.a - (intOf q).toNat)
   case atStart => exact ⟨0, rfl, rfl, Nat.zero_le _, Y.out⟩
   case round =>
    obtain ⟨k, rfl, rfl, hk2, hy⟩ := hrel
    have Z := hID hy
    clear hy Y
    obtain ⟨c0, c1, c2, c3, c4, c5, c6, c7⟩ := GC.out _ Z.out.2
    by_cases hlt2 : k < l.a
    ·have d1 : decide ((k : Int) < (l.a : Int)) = true := decide_eq_true (by omega)
     obtain ⟨was, hwas⟩ : ∃ u, (b2S l m C1 k).1.getD (l.st + k) 0 = u := ⟨_, rfl⟩
     obtain ⟨sts, hsts⟩ : ∃ u, (b2S l m C1 k).1.getD (l.s + k) 0 = u := ⟨_, rfl⟩
     obtain ⟨row, hrow⟩ : ∃ u, (b2S l m C1 k).1.getD (l.n + k) 0 = u := ⟨_, rfl⟩
     have hcb := b2S_bit l m C1 k
     obtain ⟨car, hcar⟩ : ∃ u, (b2S l m C1 k).2 = u := ⟨_, rfl⟩
     have HS2 : Hid (b2S l m C1 (k + 1) = ((b2S l m C1 k).1.set (l.st + k) (selM m ((((was <<< 1) ||| car) ||| sts) &&& row) was), was >>> 63)) := hID (by rw [b2S, hwas, hsts, hrow, hcar])
     rw [hcar] at hcb ⊢
     have HTC := hID (two_carry was car hcb)
     have HL0 := rload_ok Z.out.1 ((l.s : Int) + (k : Int)) (by omega) (by rw [b2S_len]; have := HC1.out; omega) (by simp only [List.length_append, List.length_cons, List.length_nil, b2E_len]; have := HC1.out; have := HE.out.1; omega)
     rw [show ((l.s : Int) + (k : Int)).toNat = l.s + k by omega, show cl (b2S l m C1 k).1 (l.s + k) = sts from hsts] at HL0
     have HL := hID HL0
     clear HL0
     go_wp2_with fail
     refine HL.out.mono ?_
     rintro e v4 ⟨rfl, z1⟩
     have Z1 := hID (Z.out.trans z1)
     clear z1 HL c0 c1 c2 c3 c4 c5 c6 c7
     obtain ⟨c0, c1, c2, c3, c4, c5, c6, c7⟩ := GC.out _ Z1.out.2
     have HL0 := rload_ok Z1.out.1 ((l.n : Int) + (k : Int)) (by omega) (by rw [b2S_len]; have := HC1.out; omega) (by simp only [List.length_append, List.length_cons, List.length_nil, b2E_len]; have := HC1.out; have := HE.out.1; omega)
     rw [show ((l.n : Int) + (k : Int)).toNat = l.n + k by omega, show cl (b2S l m C1 k).1 (l.n + k) = row from hrow] at HL0
     have HL := hID HL0
     clear HL0
     go_wp2_with fail
     refine HL.out.mono ?_
     rintro e v4 ⟨rfl, z1⟩
     have Z2 := hID (Z1.out.trans z1)
     clear z1 HL c0 c1 c2 c3 c4 c5 c6 c7
     obtain ⟨c0, c1, c2, c3, c4, c5, c6, c7⟩ := GC.out _ Z2.out.2
     have HL0 := rload_ok Z2.out.1 ((l.st : Int) + (k : Int)) (by omega) (by rw [b2S_len]; have := HC1.out; omega) (by simp only [List.length_append, List.length_cons, List.length_nil, b2E_len]; have := HC1.out; have := HE.out.1; omega)
     rw [show ((l.st : Int) + (k : Int)).toNat = l.st + k by omega, show cl (b2S l m C1 k).1 (l.st + k) = was from hwas] at HL0
     have HL := hID HL0
     clear HL0
     go_wp2_with fail
     refine HL.out.mono ?_
     rintro e v4 ⟨rfl, z1⟩
     have Z3 := hID (Z2.out.trans z1)
     clear z1 HL c0 c1 c2 c3 c4 c5 c6 c7
     obtain ⟨c0, c1, c2, c3, c4, c5, c6, c7⟩ := GC.out _ Z3.out.2
     clear hwas hsts hrow hcar hcb
     go_wp2_with fail
     have hcr : bv ((n64 was).tdiv 9223372036854775808) = was >>> 63 := top_tdiv was
     rw [HTC.out, hcr]
     clear hcr
     obtain ⟨now, hnow⟩ : ∃ u, ((((was <<< 1) ||| car) ||| sts) &&& row) = u := ⟨_, rfl⟩
     rw [hnow] at HS2 ⊢
     clear hnow
     have w3 : IntKind.i64.wrap ((l.st : Int) + (k : Int)) = (l.st : Int) + (k : Int) := IntWalk.i64_in _ (by omega)
     have HP0 := fun W (o : Off Nob v4 W) => rstore_ok (Z3.out.nob o).1 ((l.st : Int) + (k : Int)) (selM m now was) (by omega) (by rw [b2S_len]; have := HC1.out; omega) (by simp only [List.length_append, List.length_cons, List.length_nil, b2E_len]; have := HC1.out; have := HE.out.1; omega)
     rw [show ((l.st : Int) + (k : Int)).toNat = l.st + k by omega] at HP0
     have HP := hID HP0
     clear HP0
     go_region_held3 (fun W => W.cell? ⟨w.heap.size, 5, none⟩ = some (.int .i64 l.st))
      (first | with_reducible assumption | go_keep)
      (first
       | (go_at_call 71; refine (rselect_any m now was _).mono ?_; rintro e w' ⟨rfl, rfl⟩)
       | (go_at_call 60; refine (HP.out _ (Off.refl _ _).drew).mono ?_; rintro e v7 ⟨rfl, z1⟩; have Z4 := hID ((Z3.out.nob (Off.refl _ _).drew).trans z1); clear z1 Z3 c0 c1 c2 c3 c4 c5 c6 c7; obtain ⟨c0, c1, c2, c3, c4, c5, c6, c7⟩ := GC.out _ Z4.out.2))
     clear w3
     go_wp2_with fail
     go_roundw
     case rel => exact ⟨k + 1, by rw [HS2.out], by go_num, by omega, by rw [HS2.out]; exact Z4.out⟩
     case measure => simp [intOf]; omega
    ·obtain rfl : k = l.a := by omega
     have d1 : decide ((l.a : Int) < (l.a : Int)) = false := decide_eq_false (by omega)
     go_wp2_with fail
     clear c0 c1 c2 c3 c4 c5 c6 c7
     obtain ⟨C2, hC2⟩ : ∃ C2, (b2S l m C1 l.a).1 = C2 := ⟨_, rfl⟩
     obtain ⟨E2, hE2⟩ : ∃ E2, b2E l E1 l.a = E2 := ⟨_, rfl⟩
     have HC2 : Hid (C2.length = C.length ∧ E2.length = E.length + 261 * l.a) := hID ⟨by rw [← hC2, b2S_len]; exact HC1.out.1, by rw [← hE2, b2E_len]; have := HC1.out.2; omega⟩
     rw [hC2, hE2] at Z
     have HCE2 := hID (And.intro hC2 hE2)
     clear hC2 hE2
     go_loopw [25] (fun q wr => ∃ q' : Nat, q = .int .i64 (q' : Int) ∧ q' ≤ l.b ∧ RfTo w0 F r (b3C l m C2 q') (b3E l E2 q') wr) (fun q wr => l.b - (intOf q).toNat)
     case atStart => exact ⟨0, rfl, Nat.zero_le _, Z.out⟩
     case round =>
      obtain ⟨i, rfl, hr, hy⟩ := hrel
      have R := hID hy
      clear hy Z
      obtain ⟨c0, c1, c2, c3, c4, c5, c6, c7⟩ := GC.out _ R.out.2
      by_cases hlr : i < l.b
      ·have d1 : decide ((i : Int) < (l.b : Int)) = true := decide_eq_true (by omega)
       go_wp2_with fail
       clear c0 c1 c2 c3 c4 c5 c6 c7
       have hrb : (i + 1) * l.a ≤ l.b * l.a := Nat.mul_le_mul_right _ hlr
       have hrb2 : (i + 1) * (2 * l.a + 1) ≤ l.b * (2 * l.a + 1) := Nat.mul_le_mul_right _ hlr
       rw [Nat.add_mul, Nat.one_mul] at hrb hrb2
       have HRE2 : Hid (E2.length + i * (2 * l.a + 1) + (2 * l.a + 1) < 8388608) := hID (by have := HC2.out.2; have := HE.out.1; omega)
       clear hrb2
       obtain ⟨q0, hq0⟩ : ∃ q0, i * l.a = q0 := ⟨_, rfl⟩
       rw [hq0] at hrb
       have hqi : ((i : Int) * (l.a : Int)) = (q0 : Int) := by rw [← hq0]; push_cast; rfl
       have HQ := hID (And.intro hq0 hqi)
       clear hq0
       have hq1 : q0 + l.a + l.f ≤ C.length := by have := HF0.out.1; omega
       have hq2 : q0 ≤ 64 := by have := HF0.out.2; omega
       clear hrb
       go_loopw [26, 27] (fun c q wq => ∃ k : Nat, c = .int .u64 (n64 (b3I l (b3C l m C2 i) i k)) ∧ q = .int .i64 (k : Int) ∧ k ≤ l.a ∧ RfTo w0 F r (b3C l m C2 i) (b3J l (b3E l E2 i) i k) wq) (fun c q wq => l.a - (intOf q).toNat)
       case atStart => exact ⟨0, rfl, rfl, Nat.zero_le _, R.out⟩
       case round =>
        obtain ⟨k, rfl, rfl, hk3, hy⟩ := hrel
        have S := hID hy
        clear hy
        obtain ⟨c0, c1, c2, c3, c4, c5, c6, c7⟩ := GC.out _ S.out.2
        by_cases hlk : k < l.a
        ·have d2 : decide ((k : Int) < (l.a : Int)) = true := decide_eq_true (by omega)
         obtain ⟨fin, hfin⟩ : ∃ u, (b3C l m C2 i).getD (l.f + i * l.a + k) 0 = u := ⟨_, rfl⟩
         obtain ⟨sta, hsta⟩ : ∃ u, (b3C l m C2 i).getD (l.st + k) 0 = u := ⟨_, rfl⟩
         have HS3 : Hid (b3I l (b3C l m C2 i) i (k + 1) = b3I l (b3C l m C2 i) i k ||| (fin &&& sta)) := hID (by rw [b3I, hfin, hsta])
         have HV := hID (And.intro hfin hsta)
         clear hfin hsta
         have HL0 := rload_ok S.out.1 ((l.f : Int) + (q0 : Int) + (k : Int)) (by omega) (by rw [b3C_len, HC2.out.1]; omega) (by rw [b3J_len, b3E_len]; have := HRE2.out; omega)
         rw [show ((l.f : Int) + (q0 : Int) + (k : Int)).toNat = l.f + i * l.a + k by rw [HQ.out.1]; omega, show cl (b3C l m C2 i) (l.f + i * l.a + k) = fin from HV.out.1] at HL0
         have HL := hID HL0
         clear HL0
         go_wp2_with fail
         refine HL.out.mono ?_
         rintro e v8 ⟨rfl, z1⟩
         have S1 := hID (S.out.trans z1)
         clear z1 HL c0 c1 c2 c3 c4 c5 c6 c7
         obtain ⟨c0, c1, c2, c3, c4, c5, c6, c7⟩ := GC.out _ S1.out.2
         have HL0 := rload_ok S1.out.1 ((l.st : Int) + (k : Int)) (by omega) (by rw [b3C_len, HC2.out.1]; omega) (by simp only [List.length_append, List.length_cons, List.length_nil, b3J_len, b3E_len]; have := HRE2.out; omega)
         rw [show ((l.st : Int) + (k : Int)).toNat = l.st + k by omega, show cl (b3C l m C2 i) (l.st + k) = sta from HV.out.2] at HL0
         have HL := hID HL0
         clear HL0
         go_wp2_with fail
         refine HL.out.mono ?_
         rintro e v9 ⟨rfl, z1⟩
         have S2 := hID (S1.out.trans z1)
         clear z1 HL c0 c1 c2 c3 c4 c5 c6 c7
         go_wp2_with fail
         go_roundw
         case rel => exact ⟨k + 1, by rw [HS3.out], by go_num, by omega, S2.out⟩
         case measure => simp [intOf]; omega
        ·obtain rfl : k = l.a := by omega
         have d2 : decide ((l.a : Int) < (l.a : Int)) = false := decide_eq_false (by omega)
         obtain ⟨bo, hbo⟩ : ∃ u, b3I l (b3C l m C2 i) i l.a = u := ⟨_, rfl⟩
         have HBO := hID hbo
         rw [hbo]
         clear hbo
         have w3 : IntKind.i64.wrap ((l.h : Int) + (i : Int)) = (l.h : Int) + (i : Int) := IntWalk.i64_in _ (by omega)
         have HP0 := fun W (o : Off Nob wr W) => rstore_ok (S.out.nob o).1 ((l.h : Int) + (i : Int)) (m &&& ~~~ (zeM bo)) (by omega) (by rw [b3C_len, HC2.out.1]; omega) (by rw [b3J_len, b3E_len]; have := HRE2.out; omega)
         rw [show ((l.h : Int) + (i : Int)).toNat = l.h + i by omega] at HP0
         have HP := hID HP0
         clear HP0
         go_wp2_with fail
         go_region_held3 (fun W => W.cell? ⟨w.heap.size, 7, none⟩ = some (.int .i64 l.h))
          (first | with_reducible assumption | go_keep)
          (first
           | (go_at_call 73; refine (rzero_any bo _).mono ?_; rintro e w' ⟨rfl, rfl⟩)
           | (go_at_call 72; refine (rnot_any (zeM bo) _).mono ?_; rintro e w' ⟨rfl, rfl⟩)
           | (go_at_call 60; refine (HP.out _ (Off.refl _ _).drew).mono ?_; rintro e v9 ⟨rfl, z1⟩; have T := hID ((S.out.nob (Off.refl _ _).drew).trans z1); clear z1 c0 c1 c2 c3 c4 c5 c6 c7; obtain ⟨c0, c1, c2, c3, c4, c5, c6, c7⟩ := GC.out _ T.out.2))
         clear w3
         go_wp2_with fail
         go_roundw
         case rel => exact ⟨i + 1, by go_num, by omega, by rw [b3C, b3E, HBO.out]; exact T.out⟩
         case measure => simp [intOf]; omega
      ·obtain rfl : i = l.b := by omega
       have d1 : decide ((l.b : Int) < (l.b : Int)) = false := decide_eq_false (by omega)
       have HF : Hid (byC l x m C = b3C l m C2 l.b ∧ byE l E = b3E l E2 l.b) := hID (by unfold byC byE; rw [HCE.out.1, HCE.out.2, HCE2.out.1, HCE2.out.2]; exact ⟨rfl, rfl⟩)
       go_wp2_with fail
       go_ret
       refine ⟨rfl, ?_⟩
       rw [HF.out.1, HF.out.2]
       exact RfTo.pre HW.out X0.out.1 R.out
end Go.Proofs.YtkflicifngohcaaGreatDoor
