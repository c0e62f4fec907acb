/-
  The walk of dragnetlaw25.CompactBlind.
-/
import Derived.Test.YtedbafgejladiaaCompBl
import Derived.Test.YtedbafgejladiaaAwake25
import Derived.Test.YtedbafgejladiaaOpen
import Derived.Test.YtedbafgejladiaaOneRow
import Derived.RegionTactic
import Derived.BigRegion
import Derived.Deep.RegionHeld3
namespace Go.Proofs.Ytedbafgejladiaa
open Go.RowKit Go.ChangeShapes Go.WideShapes Go.ChangeAt
set_option linter.unusedVariables false
set_option maxRecDepth 100000
attribute [local go_sem ↓] run_max_nat
theorem steps_some (k n : Int) : ∃ x y : Int, (∀ w, Calls Try.prog 13 #[.int .i64 k, .int .i64 n] w fun e w' => e = .returned (.tuple #[.int .i64 x, .int .i64 y]) ∧ w = w') ∧ (¬ (k < 1 ∨ 32 < k ∨ n < 1 ∨ 256 < n) → x = (cpN (k + n).toNat : Nat)) := by
  by_cases hb : k < 1 ∨ 32 < k ∨ n < 1 ∨ 256 < n
  · exact ⟨0, 7, fun w => csteps_bad k n hb w, fun h => absurd hb h⟩
  · obtain ⟨k, rfl⟩ := Int.eq_ofNat_of_zero_le (show 0 ≤ k by omega)
    obtain ⟨n, rfl⟩ := Int.eq_ofNat_of_zero_le (show 0 ≤ n by omega)
    exact ⟨_, 0, fun w => csteps_ok k n (by omega) (by omega) (by omega) (by omega) w, fun _ => by rw [show ((k : Int) + (n : Int)).toNat = k + n by omega]⟩
theorem comp_bl (N M : Nat) (CX CY : List (BitVec 64)) (hX : CX.length = N) (hY : CY.length = N) (E : List Ev) (hE : E.length = M) (s r d f k m : Int) : ∃ (c : Int) (C2 C3 : List (BitVec 64)) (E2 : List Ev),
    (∀ p w F, Ar w F p CX E → Calls Try.prog 12 #[.pointer (some ⟨p, 0, none⟩), .agg #[.int .i64 s, .int .i64 r, .int .i64 d, .int .i64 f], .int .i64 k, .int .i64 m] w fun e w' => e = .returned (.int .i64 c) ∧ ArTo w F p C2 E2 w') ∧
    (∀ p w F, Ar w F p CY E → Calls Try.prog 12 #[.pointer (some ⟨p, 0, none⟩), .agg #[.int .i64 s, .int .i64 r, .int .i64 d, .int .i64 f], .int .i64 k, .int .i64 m] w fun e w' => e = .returned (.int .i64 c) ∧ ArTo w F p C3 E2 w') ∧
    ((c = 0 ∧ ¬ (k < 1 ∨ 32 < k ∨ m < 1 ∨ 256 < m) ∧ E2.length = M + cpN (k + m).toNat) ∨ (c ≠ 0 ∧ E2.length = M)) := by
  have hl : CX.length = CY.length := hX.trans hY.symm
  refine ⟨cpE CX.length E.length s r d f k m, if cpE CX.length E.length s r d f k m = 0 then (cpK s r d f k m CX E 6).1 else CX, if cpE CX.length E.length s r d f k m = 0 then (cpK s r d f k m CY E 6).1 else CY, if cpE CX.length E.length s r d f k m = 0 then (cpK s r d f k m CX E 6).2.1 else E, fun p w F ha => ccompact_any ha s r d f k m, fun p w F ha => ?_, ?_⟩
  · have := ccompact_any ha s r d f k m
    rw [← hl, ← (cpK_evq s r d f k m hl E 6).1] at this
    exact this
  · by_cases hz : cpE CX.length E.length s r d f k m = 0
    · refine .inl ⟨hz, ?_, ?_⟩
      · intro hb; unfold cpE at hz; rw [if_pos hb] at hz; cases hz
      · rw [if_pos hz]
        obtain ⟨k, m, rfl, rfl, ho⟩ := cpE_ok hz
        rw [(cpK_len ho 6 (by omega)).2, hE, show ((k : Int) + (m : Int)).toNat = k + m by omega]
        simp only [cpV]
        unfold cpN
        omega
    · exact .inr ⟨hz, by rw [if_neg hz, hE]⟩
set_option maxHeartbeats 16000000 in
theorem blind_small {w : World} (A0 A1 : Option Addr) (n0 c0 n1 c1 : Nat) (X Y : List (BitVec 64)) (h0 : Rd w (Old w) 1 (.slice A0 n0 c0) n0 (u64s X)) (h1 : Rd w (Old w) 1 (.slice A1 n1 c1) n1 (u64s Y)) (z0 : NilOk (.slice A0 n0 c0)) (z1 : NilOk (.slice A1 n1 c1)) (hn0 : n0 ≤ 200) (hn1 : n1 ≤ 200) (ss rr dd ff kk mm : Int) :
    Calls Try.prog 5 #[.slice A0 n0 c0, .slice A1 n1 c1, .agg #[.int .i64 ss, .int .i64 rr, .int .i64 dd, .int .i64 ff, .int .i64 kk, .int .i64 mm]] w (BoolNew true w) := by
  obtain ⟨i0, hi, hz0, hz1, hz2⟩ := info_parts Try.infoU
  have hl0 : X.length = n0 := by obtain ⟨_, _, _, _, hl, _⟩ := h0; rw [length_u64s] at hl; omega
  have hl1 : Y.length = n1 := by obtain ⟨_, _, _, _, hl, _⟩ := h1; rw [length_u64s] at hl; omega
  obtain ⟨hge0, hge1, hle⟩ := mxN_ge n0 n1
  have H0 := Lib.hid h0
  have H1 := Lib.hid h1
  have Z0 := Lib.hid z0
  have Z1 := Lib.hid z1
  have L0 := Lib.hid hl0
  have L1 := Lib.hid hl1
  have hd0 : decide (200 < (n0 : Int)) = false := by simp; omega
  have hd1 : decide (200 < (n1 : Int)) = false := by simp; omega
  clear h0 h1 z0 z1 hl0 hl1

  go_enter Try.func5, Try.ntmps5
  go_wp2_with (at_builtin; refine wpList_append_rd rfl _ _ 44 rfl (w.heap.size + 1) 33 i0 (.int .u64 0) 1 8 Try.underlying44 hi hz0 hz1 hz2 rfl (by decide) (w.heap.size + 1) 0 0 [] rfl ?c0 (.slice A0 n0 c0) n0 (u64s X) rfl (F := Old w) ?c1 Z0.out (u64s_one' X) ?c3 ?c4 ?c5 ?_)
  case c0 => simpa using World.ownsRow_made (w.alloc (.cells #[.int .i64 ss, .int .i64 rr, .int .i64 dd, .int .i64 ff, .int .i64 kk, .int .i64 mm] 60)) #[] 0 (Nat.le_refl _) (Nat.zero_le _) rfl
  case c1 => exact H0.out.keep (Off.alloc (Off.alloc (Off.refl Nob w) _) _) (fun _ _ h => h)
  case c3 => unfold maxLen; omega
  case c4 => omega
  case c5 => simp
  intro g1 cap1 w1 ho1 hg1 ha1
  have O1 : Hid (Off Nob (w.alloc (.cells #[.int .i64 ss, .int .i64 rr, .int .i64 dd, .int .i64 ff, .int .i64 kk, .int .i64 mm] 60)) w1) := Off.grown (Off.alloc (Off.refl _ _) _) hg1 (fun k hk => .inr (by injection hk with hk; simp; omega))
  have W1 := Lib.hid ho1
  clear hg1 ha1 ho1
  go_wp2_with (at_builtin; refine wpList_append_zeros rfl _ _ 44 3 rfl (w.heap.size + 1) 33 i0 (.int .u64 0) 8 .i64 .i64 Try.underlying44 Try.underlying3 hi hz0 hz1 hz2 rfl rfl g1 n0 cap1 (u64s X) rfl W1.out (mxN n0 n1 - n0) (mxN n0 n1) ?d0 ?d1 ?d2 ?d3 ?d4 ?_)
  case d0 => omega
  case d1 => exact congrArg (Value.int .i64) (by omega)
  case d2 => unfold maxLen; omega
  case d3 => omega
  case d4 => have := O1.out.size; simp at this; omega
  intro g2 cap2 w2 ho2 hg2 ha2
  have O2 : Hid (Off Nob (w.alloc (.cells #[.int .i64 ss, .int .i64 rr, .int .i64 dd, .int .i64 ff, .int .i64 kk, .int .i64 mm] 60)) w2) := Off.grown O1.out hg2 (fun k hk => .inr (by injection hk with hk; subst hk; have := (W1.out.lt g1 rfl).1; simp; omega))
  have W2 : Hid (Rd w2 (fun k => w.heap.size + 1 ≤ k ∧ k < w2.heap.size) 1 (.slice (some ⟨g2, 0, none⟩) (mxN n0 n1) cap2) (mxN n0 n1) (u64s (padTo X (mxN n0 n1)))) := by
    have := Rd.own ho2 (F := fun k => w.heap.size + 1 ≤ k ∧ k < w2.heap.size) (fun k hk => ho2.lt k hk)
    rw [u64s_zeros] at this
    unfold padTo
    rw [L0.out]
    exact this
  clear hg2 ha2 ho2 W1 O1
  go_wp2_with fail
  refine (arena_any W2.out (by rw [padTo_length _ _ (by have := L0.out; omega)]; omega)).mono ?_
  rintro e w3 h3
  obtain ⟨p, r, rfl, k3⟩ := h3.one (w0 := w) (bs := [(w.heap.size, 60, #[.int .i64 ss, .int .i64 rr, .int .i64 dd, .int .i64 ff, .int .i64 kk, .int .i64 mm])]) ((Off.alloc (Off.refl _ _) _).also O2.out) (fun x hx => by
    rw [List.mem_singleton] at hx
    subst hx
    exact (Blk.new _ _ _).to (O2.out.block _ (by simp) (fun h => h)))
  rw [padTo_length _ _ (by have := L0.out; omega)] at k3
  have H3 := Lib.hid k3
  clear h3 k3 W2 O2
  go_wp2_with (at_builtin; refine wpList_append_rd rfl _ _ 44 rfl w3.heap.size 33 i0 (.int .u64 0) 1 8 Try.underlying44 hi hz0 hz1 hz2 rfl (by decide) w3.heap.size 0 0 [] rfl ?c0 (.slice A1 n1 c1) n1 (u64s Y) rfl (F := Old w) ?c1 Z1.out (u64s_one' Y) ?c3 ?c4 ?c5 ?_)
  case c0 => exact World.ownsRow_made w3 #[] 0 (Nat.le_refl _) (Nat.zero_le _) rfl
  case c1 => exact H1.out.keep (Off.alloc H3.out.old _) (fun _ _ h => h)
  case c3 => unfold maxLen; omega
  case c4 => omega
  case c5 => simp
  intro g3 cap3 w4 ho3 hg3 ha3
  have O3 : Hid (Off Nob w3 w4) := Off.grown (Off.alloc (Off.refl _ _) _) hg3 (fun k hk => .inr (by injection hk with hk; omega))
  have W3 := Lib.hid ho3
  clear hg3 ha3 ho3
  go_wp2_with (at_builtin; refine wpList_append_zeros rfl _ _ 44 3 rfl w3.heap.size 33 i0 (.int .u64 0) 8 .i64 .i64 Try.underlying44 Try.underlying3 hi hz0 hz1 hz2 rfl rfl g3 n1 cap3 (u64s Y) rfl W3.out (mxN n0 n1 - n1) (mxN n0 n1) ?d0 ?d1 ?d2 ?d3 ?d4 ?_)
  case d0 => omega
  case d1 => exact congrArg (Value.int .i64) (by omega)
  case d2 => unfold maxLen; omega
  case d3 => omega
  case d4 => exact O3.out.size
  intro g4 cap4 w5 ho4 hg4 ha4
  have O4 : Hid (Off Nob w3 w5) := Off.grown O3.out hg4 (fun k hk => .inr (by injection hk with hk; subst hk; exact (W3.out.lt g3 rfl).1))
  have W4 : Hid (Rd w5 (fun k => w3.heap.size ≤ k ∧ k < w5.heap.size) 1 (.slice (some ⟨g4, 0, none⟩) (mxN n0 n1) cap4) (mxN n0 n1) (u64s (padTo Y (mxN n0 n1)))) := by
    have := Rd.own ho4 (F := fun k => w3.heap.size ≤ k ∧ k < w5.heap.size) (fun k hk => ho4.lt k hk)
    rw [u64s_zeros] at this
    unfold padTo
    rw [L1.out]
    exact this
  clear hg4 ha4 ho4 W3 O3
  go_wp2_with fail
  refine (arena_any W4.out (by rw [padTo_length _ _ (by have := L1.out; omega)]; omega)).mono ?_
  rintro e w6 h6
  obtain ⟨q, r2, rfl, k6⟩ := (H3.out.off O4.out).two h6
  rw [padTo_length _ _ (by have := L1.out; omega)] at k6
  have TW := Lib.hid k6
  have PX : Hid ((pad (padTo X (mxN n0 n1))).length = max (mxN n0 n1) 1) := Lib.hid (by rw [pad_length, padTo_length _ _ (by have := L0.out; omega)])
  have PY : Hid ((pad (padTo Y (mxN n0 n1))).length = max (mxN n0 n1) 1) := Lib.hid (by rw [pad_length, padTo_length _ _ (by have := L1.out; omega)])
  clear h6 k6 W4 O4 H3 H0 H1 Z0 Z1 L0 L1
  revert TW PX PY
  generalize pad (padTo X (mxN n0 n1)) = CX
  generalize pad (padTo Y (mxN n0 n1)) = CY
  intro TW PX PY
  have hN200 : mxN n0 n1 ≤ 200 := by omega
  clear hge0 hge1 hle hn0 hn1 hd0 hd1 hi hz0 hz1 hz2
  revert TW PX PY hN200
  generalize mxN n0 n1 = N
  intro TW PX PY hN200

  obtain ⟨er, C2, C3, E2, m1, m2, hE2⟩ := comp_bl (max N 1) N CX CY PX.out PY.out (stores N) (length_stores N) ss rr dd ff kk mm
  obtain ⟨sx, sy, hst, hsx⟩ := steps_some kk mm
  have M1 := Lib.hid m1
  have M2 := Lib.hid m2
  have ST := Lib.hid hst
  have HE2 : Hid ((er = 0 ∧ (E2.length : Int) = (N : Int) + sx) ∨ (er ≠ 0 ∧ (E2.length : Int) = (N : Int))) := Lib.hid (by
    rcases hE2 with ⟨h1, h2, h3⟩ | ⟨h1, h2⟩
    · exact .inl ⟨h1, by rw [hsx h2, h3]; push_cast; rfl⟩
    · exact .inr ⟨h1, by rw [h2]⟩)
  have HS0 : Hid (er = 0 → 0 ≤ sx) := Lib.hid (fun h => by
    rcases hE2 with ⟨_, h2, _⟩ | ⟨h1, _⟩
    · rw [hsx h2]; omega
    · exact absurd h h1)
  clear m1 m2 hE2 hst hsx
  revert TW
  generalize stores N = E1 at *
  intro TW
  have kb := TW.out.blk (List.mem_cons_self ..)
  obtain ⟨k0, k1, k2, k3, k4, k5⟩ : w6.cell? ⟨w.heap.size, 0, none⟩ = some (.int .i64 ss) ∧ w6.cell? ⟨w.heap.size, 1, none⟩ = some (.int .i64 rr) ∧ w6.cell? ⟨w.heap.size, 2, none⟩ = some (.int .i64 dd) ∧ w6.cell? ⟨w.heap.size, 3, none⟩ = some (.int .i64 ff) ∧ w6.cell? ⟨w.heap.size, 4, none⟩ = some (.int .i64 kk) ∧ w6.cell? ⟨w.heap.size, 5, none⟩ = some (.int .i64 mm) := ⟨kb.cell 0, kb.cell 1, kb.cell 2, kb.cell 3, kb.cell 4, kb.cell 5⟩
  clear kb
  go_wp2_with fail
  refine (TW.out.first (fun w F h => M1.out p w F h)).mono ?_
  rintro e w7 ⟨rfl, h7⟩
  have T7 := Lib.hid h7
  clear h7 k0 k1 k2 k3 k4 k5 TW
  have kb := T7.out.blk (List.mem_cons_self ..)
  obtain ⟨k0, k1, k2, k3, k4, k5⟩ : w7.cell? ⟨w.heap.size, 0, none⟩ = some (.int .i64 ss) ∧ w7.cell? ⟨w.heap.size, 1, none⟩ = some (.int .i64 rr) ∧ w7.cell? ⟨w.heap.size, 2, none⟩ = some (.int .i64 dd) ∧ w7.cell? ⟨w.heap.size, 3, none⟩ = some (.int .i64 ff) ∧ w7.cell? ⟨w.heap.size, 4, none⟩ = some (.int .i64 kk) ∧ w7.cell? ⟨w.heap.size, 5, none⟩ = some (.int .i64 mm) := ⟨kb.cell 0, kb.cell 1, kb.cell 2, kb.cell 3, kb.cell 4, kb.cell 5⟩
  clear kb
  go_wp2_with fail
  refine (T7.out.second (fun w F h => M2.out q w F h)).mono ?_
  rintro e w8 ⟨rfl, h8⟩
  have T8 := Lib.hid h8
  clear h8 k0 k1 k2 k3 k4 k5 T7
  have kb := T8.out.blk (List.mem_cons_self ..)
  obtain ⟨k0, k1, k2, k3, k4, k5⟩ : w8.cell? ⟨w.heap.size, 0, none⟩ = some (.int .i64 ss) ∧ w8.cell? ⟨w.heap.size, 1, none⟩ = some (.int .i64 rr) ∧ w8.cell? ⟨w.heap.size, 2, none⟩ = some (.int .i64 dd) ∧ w8.cell? ⟨w.heap.size, 3, none⟩ = some (.int .i64 ff) ∧ w8.cell? ⟨w.heap.size, 4, none⟩ = some (.int .i64 kk) ∧ w8.cell? ⟨w.heap.size, 5, none⟩ = some (.int .i64 mm) := ⟨kb.cell 0, kb.cell 1, kb.cell 2, kb.cell 3, kb.cell 4, kb.cell 5⟩
  clear kb
  go_wp2_with fail
  refine (ST.out _).mono ?_
  rintro e w' ⟨rfl, rfl⟩
  clear k0 k1 k2 k3 k4 k5
  have hx : ∃ sz : Int, (E2.length : Int) = (N : Int) + sz ∧ ((er = 0 ∧ sz = sx) ∨ (er ≠ 0 ∧ sz = 0)) := by
    rcases HE2.out with ⟨h1, h2⟩ | ⟨h1, h2⟩
    · exact ⟨sx, h2, .inl ⟨h1, rfl⟩⟩
    · exact ⟨0, by omega, .inr ⟨h1, rfl⟩⟩
  obtain ⟨sz, hl2, hcase⟩ := hx
  have HL2 := Lib.hid hl2
  obtain ⟨LE, hLE⟩ : ∃ LE, E2.length = LE := ⟨_, rfl⟩
  have HLE := Lib.hid hLE
  have hLE2 : (LE : Int) ≤ 9000000 := by
    obtain ⟨F, ha⟩ := T8.out.ar1
    have := ha.e2
    omega
  rw [hLE] at hl2 HL2
  have hE1 : 0 ≤ sz := by
    rcases HE2.out with ⟨h1, h2⟩ | ⟨h1, h2⟩
    · obtain ⟨F, ha⟩ := T8.out.ar1
      rcases hcase with ⟨_, rfl⟩ | ⟨_, rfl⟩
      · exact HS0.out h1
      · exact Int.le_refl _
    · rcases hcase with ⟨h3, _⟩ | ⟨_, rfl⟩
      · exact absurd h3 h1
      · exact Int.le_refl _
  have hs1 : sz ≤ 9000000 := by omega
  have hsum : (N : Int) + sz = (LE : Int) := by omega
  clear hl2 hLE HE2 hLE2
  rcases hcase with ⟨rfl, rfl⟩ | ⟨hne, rfl⟩
  rotate_left
  have hbn : (er != 0) = true := by rw [bne_iff_ne]; exact hne
  clear hne
  obtain rfl : LE = N := by omega
  clear hE1 hs1 hsum
  all_goals
    go_wp2_with fail
    obtain ⟨FP, hp⟩ := T8.out.ar1
    have HP := Lib.hid (events_ok hp)
    clear hp
    refine HP.out.mono ?_
    rintro e v1 ⟨l1, rfl, hl1, o1⟩
    have V1 := Lib.hid (NewE.rd hl1)
    have T10 := Lib.hid (T8.out.off o1)
    clear hl1 o1 HP T8
    go_wp2_with fail
    obtain ⟨FQ, hq⟩ := T10.out.ar2
    have HQ := Lib.hid (events_ok hq)
    clear hq
    refine HQ.out.mono ?_
    rintro e v2 ⟨l2, rfl, hl2, o2⟩
    have V2 := Lib.hid (V1.out.keep o2 (fun _ _ h => h))
    have V3 := Lib.hid (NewE.rd hl2)
    have T11 := Lib.hid (T10.out.off o2)
    clear hl2 o2 HQ V1 T10
    go_wp2_with fail
    refine Calls.mono (R := BoolNew true v2) (by have := sameEv V2.out V3.out; simpa using this) ?_
    rintro e v3 ⟨rfl, o3⟩
    have T12 := Lib.hid (T11.out.off o3)
    clear o3 V2 V3 T11
    go_wp2_with fail
    refine Calls.mono (R := fun e w' => e = .returned (.int .i64 (LE : Int)) ∧ v3 = w') (by
      obtain ⟨F, ha⟩ := T12.out.ar1
      have := steps_any ha
      rwa [HLE.out] at this) ?_
    rintro e w' ⟨rfl, rfl⟩
    go_wp2_with fail
    refine (awake_ok _).mono ?_
    rintro e v6 ⟨rfl, o6⟩
    have O6 := Lib.hid (T12.out.old.also o6)
    clear o6
    go_wp2
    go_ret
    exact ⟨rfl, O6.out⟩
theorem blind_long0 {w : World} (A0 A1 : Option Addr) (n0 c0 n1 c1 : Nat) (ss rr dd ff kk mm : Int) (h : 200 < n0) (b0 : n0 ≤ maxLen) (b1 : n1 ≤ maxLen) :
    Calls Try.prog 5 #[.slice A0 n0 c0, .slice A1 n1 c1, .agg #[.int .i64 ss, .int .i64 rr, .int .i64 dd, .int .i64 ff, .int .i64 kk, .int .i64 mm]] w (BoolNew true w) := by
  unfold maxLen at b0 b1
  have hd0 : decide (200 < (n0 : Int)) = true := by simp; omega
  go_enter Try.func5, Try.ntmps5
  go_wp2_with fail
  refine (awake_ok _).mono ?_
  rintro e w4 ⟨rfl, h4⟩
  have H4 := Lib.hid h4
  clear h4
  go_wp2
  go_ret
  exact ⟨rfl, (Off.alloc (Off.refl _ _) _).also H4.out⟩
theorem blind_long1 {w : World} (A0 A1 : Option Addr) (n0 c0 n1 c1 : Nat) (ss rr dd ff kk mm : Int) (h0 : ¬ 200 < n0) (h : 200 < n1) (b0 : n0 ≤ maxLen) (b1 : n1 ≤ maxLen) :
    Calls Try.prog 5 #[.slice A0 n0 c0, .slice A1 n1 c1, .agg #[.int .i64 ss, .int .i64 rr, .int .i64 dd, .int .i64 ff, .int .i64 kk, .int .i64 mm]] w (BoolNew true w) := by
  unfold maxLen at b0 b1
  have hd0 : decide (200 < (n0 : Int)) = false := by simp; omega
  have hd1 : decide (200 < (n1 : Int)) = true := by simp; omega
  go_enter Try.func5, Try.ntmps5
  go_wp2_with fail
  refine (awake_ok _).mono ?_
  rintro e w4 ⟨rfl, h4⟩
  have H4 := Lib.hid h4
  clear h4
  go_wp2
  go_ret
  exact ⟨rfl, (Off.alloc (Off.refl _ _) _).also H4.out⟩
theorem compactBlind_walk {w : World} {v0 v1 : Value} {n0 n1 : Nat} {X Y : List (BitVec 64)} (h0 : Rd w (Old w) 1 v0 n0 (u64s X)) (z0 : NilOk v0) (h1 : Rd w (Old w) 1 v1 n1 (u64s Y)) (z1 : NilOk v1)
    (l : List Value) (hl : l.length = 6) (hk : ∀ f j κ, kindAt Try.prog f 60 j = some κ → ∃ u, l[j]? = some u ∧ okV κ u) :
    Calls Try.prog 5 #[v0, v1, .agg l.toArray] w (BoolNew true w) := by
  obtain ⟨u0, e0, o0⟩ := hk 4 0 (some .i64) (by kernel_rfl)
  obtain ⟨u1, e1, o1⟩ := hk 4 1 (some .i64) (by kernel_rfl)
  obtain ⟨u2, e2, o2⟩ := hk 4 2 (some .i64) (by kernel_rfl)
  obtain ⟨u3, e3, o3⟩ := hk 4 3 (some .i64) (by kernel_rfl)
  obtain ⟨u4, e4, o4⟩ := hk 4 4 (some .i64) (by kernel_rfl)
  obtain ⟨u5, e5, o5⟩ := hk 4 5 (some .i64) (by kernel_rfl)
  obtain ⟨ss, rfl, qss⟩ := okV_i64 o0
  obtain ⟨rr, rfl, qrr⟩ := okV_i64 o1
  obtain ⟨dd, rfl, qdd⟩ := okV_i64 o2
  obtain ⟨ff, rfl, qff⟩ := okV_i64 o3
  obtain ⟨kk, rfl, qkk⟩ := okV_i64 o4
  obtain ⟨mm, rfl, qmm⟩ := okV_i64 o5
  match l, hl with
  | [a, b, c, a2, b2, c2], _ =>
    simp at e0 e1 e2 e3 e4 e5
    subst e0 e1 e2 e3 e4 e5
    obtain ⟨A0, c0, rfl, m0, _⟩ := h0.form
    obtain ⟨A1, c1, rfl, m1, _⟩ := h1.form
    by_cases g0 : 200 < n0
    · exact blind_long0 _ _ _ _ _ _ _ _ _ _ _ _ g0 m0 m1
    by_cases g1 : 200 < n1
    · exact blind_long1 _ _ _ _ _ _ _ _ _ _ _ _ g0 g1 m0 m1
    exact blind_small A0 A1 n0 c0 n1 c1 X Y h0 h1 z0 z1 (by omega) (by omega) ss rr dd ff kk mm

end Go.Proofs.Ytedbafgejladiaa
