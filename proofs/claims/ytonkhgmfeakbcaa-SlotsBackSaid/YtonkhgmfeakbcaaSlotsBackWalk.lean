/-
  The walk of dragnetlaw22.SlotsBack.
-/
import Derived.Test.YtonkhgmfeakbcaaAwake22
import Derived.Test.YtonkhgmfeakbcaaSlLaw
import Derived.Deep.RegionHeld3
namespace Go.Proofs.Ytonkhgmfeakbcaa
open Go.RowKit
set_option linter.unusedVariables false
set_option maxRecDepth 100000
/-- The cells of the law, the first i of which are set. -/
def bkC (N i : Nat) : List (BitVec 64) := (List.range N).map fun j => if j < i then BitVec.ofNat 64 (j + 1000) else 0#64
theorem bkC_len (N i : Nat) : (bkC N i).length = N := by simp [bkC]
theorem bkC_zero (N : Nat) : bkC N 0 = List.replicate N 0#64 := by
  apply List.ext_getElem
  · simp [bkC]
  · intro j h1 h2; simp [bkC]
theorem bkC_set (N i : Nat) (h : i < N) (hN : N ≤ 1000) : (u64s (bkC N i)).set i (.int .u64 ((i : Int) + 1000)) = u64s (bkC N (i + 1)) := by
  apply List.ext_getElem
  · simp [u64s, bkC]
  · intro j h1 h2
    simp only [u64s, bkC, List.length_set, List.length_map, List.length_range] at h1
    simp only [u64s, bkC, List.getElem_set, List.getElem_map, List.getElem_range]
    by_cases e : i = j
    · subst e
      rw [if_pos rfl, if_pos (by omega)]
      unfold n64
      rw [BitVec.toNat_ofNat, Nat.mod_eq_of_lt (by omega)]
      rfl
    · rw [if_neg e]
      by_cases e2 : j < i
      · rw [if_pos e2, if_pos (by omega)]
      · rw [if_neg e2, if_neg (by omega)]
theorem bk_pad (N : Nat) (h : 0 < N) : pad (bkC N N) = bkC N N := by
  unfold pad
  rw [if_neg (fun e => by have := bkC_len N N; rw [e] at this; simp at this; omega)]
theorem cap_sub {w : World} {F : Nat → Prop} {b o N c at_ : Nat} {C : List (BitVec 64)} (h : Rd w F 1 (.slice (some ⟨b, o, none⟩) N c) N (u64s C)) (hk : at_ ≤ N) (cc : Nat) : Rd w F 1 (.slice (some ⟨b, o, none⟩) at_ cc) at_ (u64s (C.take at_)) := by
  obtain ⟨A, c', hv, hm, hl, hx⟩ := h
  injection hv with hA hn hc
  refine ⟨_, _, rfl, Nat.le_trans hk hm, ?_, fun hp => ?_⟩
  · rw [length_u64s] at hl ⊢; rw [List.length_take]; omega
  · obtain ⟨b', o', e, hf, hb, hy⟩ := hx (by omega)
    rw [← hA] at e
    injection e with e
    injection e with e1 e2
    subst e1 e2
    refine ⟨_, _, rfl, hf, hb, fun j u hu => hy j u ?_⟩
    unfold u64s at hu ⊢
    rw [List.map_take] at hu
    rw [List.getElem?_take] at hu
    split at hu
    · exact hu
    · cases hu
theorem cap_from {w : World} {F : Nat → Prop} {b o N c at_ : Nat} {C : List (BitVec 64)} (h : Rd w F 1 (.slice (some ⟨b, o, none⟩) N c) N (u64s C)) (hk : at_ ≤ N) (hp : 0 < N) (cc : Nat) : Rd w F 1 (.slice (some ⟨b, o + at_, none⟩) (N - at_) cc) (N - at_) (u64s (C.drop at_)) := by
  obtain ⟨A, c', hv, hm, hl, hx⟩ := h
  injection hv with hA hn hc
  refine ⟨_, _, rfl, by omega, ?_, fun _ => ?_⟩
  · rw [length_u64s] at hl ⊢; rw [List.length_drop]; omega
  · obtain ⟨b', o', e, hf, hb, hy⟩ := hx hp
    rw [← hA] at e
    injection e with e
    injection e with e1 e2
    subst e1 e2
    refine ⟨_, _, rfl, hf, hb, fun j u hu => ?_⟩
    unfold u64s at hu hy
    rw [List.map_drop, List.getElem?_drop] at hu
    have := hy (at_ + j) u hu
    rwa [← Nat.add_assoc] at this
theorem made_us (N : Nat) : (madeCells (Value.int .u64 0).cells (N * 1)).toList = u64s (List.replicate N 0#64) := by
  rw [Nat.mul_one]
  show (madeCells #[.int .u64 0] N).toList = _
  rw [toList_madeCells_one]
  simp [u64s, n64]
def BkI (w : World) (g N i : Nat) (W : World) : Prop := W.ownsRow w.heap.size 41 1 (.slice (some ⟨g, 0, none⟩) N N) N (u64s (bkC N i)) ∧ Off Nob w W
theorem BkI.put {w W : World} {g N i : Nat} (h : BkI w g N i W) (hi : i < N) (hN : N ≤ 1000) : BkI w g N (i + 1) (W.setCell ⟨g, i, none⟩ (.int .u64 ((i : Int) + 1000))) := by
  have := (h.1.stored i (.int .u64 ((i : Int) + 1000))).1
  rw [bkC_set N i hi hN] at this
  exact ⟨this, h.2.put (p := ⟨g, i, none⟩) (.inr (h.1.lt g rfl).1) _⟩
theorem write_any {w : World} {F G : Nat → Prop} {p n : Nat} {C : List (BitVec 64)} {E : List Ev} {v : Value} {L : List Sl} (h : Ar w F p C E) (hr : Rd w G 3 v n (slC L)) (hn : 0 < n) (hG : ∀ k, G k → ¬ F k) (base : Nat) (hz : ckS C.length E.length base n = 0) :
    Calls Try.prog 23 #[.pointer (some ⟨p, 0, none⟩), .int .i64 (base : Int), v] w fun e w' => e = .returned (.int .i64 0) ∧ ArTo w F p (wrS base (sl L) (C, E) n).1 (wrS base (sl L) (C, E) n).2 w' := by
  obtain ⟨A, c, rfl, hm, hl, hx⟩ := hr
  obtain ⟨b, o, rfl, hf, hb, hc⟩ := hx hn
  exact write_ok h base n b o c L (by rw [slC_len] at hl; omega) hb (hG _ hf) hc hz
theorem own_form {w : World} {base n : Nat} {t : TypeId} {v : Value} {xs : List Value} (h : w.ownsRow base t 1 v n xs) (hn : 0 < n) : ∃ g c, v = .slice (some ⟨g, 0, none⟩) n c ∧ n ≤ c := by
  rcases h.2 with ⟨_, h2⟩ | ⟨g, cap, cur, hv, _, _, hc, _⟩
  · have := h.1; simp [h2] at this; omega
  · exact ⟨g, cap, hv, hc⟩
set_option maxHeartbeats 8000000 in
theorem back_small {w : World} {v0 v1 : Value} {n m : Nat} {L : List Sl} {H : List Hi} (h0 : Rd w (Old w) 3 v0 n (slC L)) (h1 : Rd w (Old w) 2 v1 m (hiC H)) (hH : ∀ h ∈ H, InI h.1 ∧ InI h.2) (hn : n ≤ 60) (hm : m ≤ 300) (x : Nat) (hx : x < 256) :
    Calls Try.prog 5 #[v0, v1, .int .u8 (x : Int)] w (BoolNew true w) := by
  have hLl : L.length = n := by obtain ⟨_, _, _, _, hl, _⟩ := h0; rw [slC_len] at hl; omega
  have hHl : H.length = m := by obtain ⟨_, _, _, _, hl, _⟩ := h1; rw [hiC_len] at hl; omega
  obtain ⟨iu, hI, hz0, hz1, hz2⟩ := info_parts Try.infoU22
  have HL := Lib.hid h0
  have HH := Lib.hid h1
  have HHI := Lib.hid hH
  obtain ⟨A0, c0, rfl, _⟩ := h0
  obtain ⟨A1, c1, rfl, _⟩ := h1
  have hd0 : decide (60 < (n : Int)) = false := decide_eq_false (by omega)
  have hd1 : decide (300 < (m : Int)) = false := decide_eq_false (by omega)
  obtain ⟨k, hk⟩ : ∃ k, mxN m 1 = k := ⟨_, rfl⟩
  have hmx : ∀ w, (Builtin.max_ #[3, 3] 3 #[.int .i64 (m : Int), .int .i64 1]).run Try.prog w = .ok (.int .i64 (k : Int)) w := fun w => by
    have := run_max_nat (P := Try.prog) (w := w) #[3, 3] 3 m 1
    rw [hk] at this
    exact this
  obtain ⟨k1, k2, k3⟩ := mxN_ge m 1
  rw [hk] at k1 k2 k3
  have HLL := Lib.hid (And.intro hLl hHl)
  clear hk hLl hHl hH
  have t : (decide ((m : Int) ≤ 288) = true ∧ m ≤ 288) ∨ (decide ((m : Int) ≤ 288) = false ∧ ¬ m ≤ 288) := by
    by_cases q : m ≤ 288
    · exact .inl ⟨decide_eq_true (by omega), q⟩
    · exact .inr ⟨decide_eq_false (by omega), q⟩
  have tn : ((n : Int) == 0) = true ∨ (((n : Int) == 0) = false ∧ 0 < n) := by
    by_cases q : n = 0
    · exact .inl (by simpa using q)
    · exact .inr ⟨by simpa using q, by omega⟩
  rcases t with ⟨t1, t2⟩ | ⟨t1, t2⟩
  · have HOF := Lib.hid (sof_any (n := (k : Int)) HH.out (by unfold ofE; rw [if_neg (by omega), if_neg (by omega)]))
    rw [Int.toNat_natCast] at HOF
    go_enter Try.func5, Try.ntmps5
    go_wp2_with fail
    refine HOF.out.mono ?_
    rintro e w1 ⟨g, rfl, h1⟩
    have RO := Lib.hid (Rd.own h1.1 (F := fun _ => True) (fun _ _ => trivial))
    have O1 := Lib.hid h1.2
    clear h1 hmx HOF
    go_wp2_with fail
    refine Calls.mono (R := NewH w1 H) (by have := hits_any RO.out (by omega); rwa [hi_of H k HHI.out] at this) ?_
    rintro e w2 ⟨u, rfl, h2, o2⟩
    have R2 := Lib.hid (Rd.own h2 (F := fun _ => True) (fun _ _ => trivial))
    have O2 := Lib.hid (O1.out.also o2)
    clear h2 o2 O1 RO
    go_wp2_with fail
    refine (sameHi_eq (A := H) (by have := R2.out; rwa [HLL.out.2] at this) (HH.out.keep O2.out (fun _ _ h => h))).mono ?_
    rintro e w3 ⟨rfl, o3⟩
    have O3 := Lib.hid (O2.out.also o3)
    clear o3 R2 O2
    rcases tn with tn | ⟨tn, tp⟩
    · go_wp2_with fail
      refine (awake_ok _).mono ?_
      rintro e w4 ⟨rfl, o4⟩
      have O4 := Lib.hid (O3.out.also o4)
      clear o4
      go_wp2_with fail
      go_ret
      exact ⟨rfl, O4.out⟩
    obtain ⟨a, ha⟩ : ∃ a : Nat, x % 10 = a := ⟨_, rfl⟩
    have ha2 : (x : Int) % 10 = (a : Int) := by rw [← ha]; push_cast; rfl
    have ha3 : a ≤ 9 := by omega
    obtain ⟨N, hN⟩ : ∃ N : Nat, a + 3 * n + 5 = N := ⟨_, rfl⟩
    have hN2 : (x : Int) % 10 + 3 * (n : Int) + 5 = (N : Int) := by rw [← hN, ha2]; push_cast; rfl
    have HN := Lib.hid hN
    have HA2 := Lib.hid ha2
    have hNb : N ≤ 200 := by omega
    have hNp : 0 < N := by omega
    have hmk : ∀ w, (Instr.makeSlice 40 (.int .i64 ((x : Int) % 10 + 3 * (n : Int) + 5)) (.int .i64 ((x : Int) % 10 + 3 * (n : Int) + 5))).run Try.prog w = .ok (.slice (some ⟨w.heap.size, 0, none⟩) N N) (w.alloc (.cells (u64s (bkC N 0)).toArray 41)) := fun w => by
      rw [hN2]
      have := run_makeSlice (P := Try.prog) (w := w) 40 41 iu _ Try.underlying40 hI hz0 .i64 .i64 (N : Int) (N : Int) (by omega) (by omega) (by rw [hz1]; omega) (by rw [hz2]; omega) (by omega)
      rw [this, bkC_zero, ← made_us]
      congr 3
      rw [Int.toNat_natCast, hz1]
    clear ha ha2 hN hN2 hd0 hd1 k1 k2 k3 t2 hI hz0 hz1 hz2
    go_wp2_with fail
    rw [HA2.out]
    obtain ⟨w4, hw4⟩ : ∃ w4, w3.alloc (.cells (u64s (bkC N 0)).toArray 41) = w4 := ⟨_, rfl⟩
    obtain ⟨g4, hg4⟩ : ∃ g, w3.heap.size = g := ⟨_, rfl⟩
    have B4 : Hid (BkI w3 g4 N 0 w4) := Lib.hid (by
      rw [← hw4, ← hg4]
      have hb := Blk.new w3 41 (u64s (bkC N 0)).toArray
      refine ⟨⟨by rw [length_u64s, bkC_len, Nat.mul_one], .inr ⟨w3.heap.size, N, (u64s (bkC N 0)).toArray, rfl, Nat.le_refl _, hb, Nat.le_refl _, by unfold maxLen; omega, by simp [length_u64s, bkC_len], by rw [List.take_of_length_le (by rw [length_u64s, bkC_len, Nat.mul_one]; exact Nat.le_refl _)]⟩⟩, Off.alloc (Off.refl _ _) _⟩)
    rw [hg4, hw4]
    clear hg4 hw4 hmk tn t1
    go_wp2_with fail
    go_loopw [11] (fun i wr => ∃ j : Nat, j ≤ N ∧ i = .int .i64 (j : Int) ∧ BkI w3 g4 N j wr) (fun i _ => N - (intOf i).toNat)
    case atStart => exact ⟨0, Nat.zero_le _, rfl, B4.out⟩
    case round =>
      obtain ⟨j, hj, rfl, hrel⟩ := hrel
      have HR := Lib.hid hrel
      clear B4
      by_cases hlt : j < N
      · obtain ⟨u4, d0⟩ : ∃ u4, wr.cell? ⟨g4, j, none⟩ = some u4 := by
          refine ⟨_, (hrel.1.cellAt j (by omega)).trans (List.getElem?_eq_getElem (by rw [length_u64s, bkC_len]; exact hlt))⟩
        have f0 := hrel.1.frozenAt j
        have HP := Lib.hid (hrel.put hlt (by omega))
        clear hrel
        go_wp2_with fail
        go_roundw
        case rel => exact ⟨j + 1, hlt, by go_num, HP.out⟩
        case measure => simp [intOf]; omega
      · obtain rfl : j = N := by omega
        have R4 := Lib.hid (Rd.own hrel.1 (F := fun b => b < wr.heap.size) (fun b hb => (hrel.1.lt b hb).2))
        have O4 := Lib.hid (O3.out.also hrel.2)
        clear hrel HR
        go_wp2_with fail
        refine (arena_any R4.out (by rw [bkC_len]; omega)).mono ?_
        rintro e w5 h5
        obtain ⟨p, r, rfl, hh⟩ := h5.have_
        rw [bk_pad _ hNp, bkC_len] at hh
        have H5 := Lib.hid hh.one
        clear h5 hh
        go_wp2_with fail
        have hsz : ∀ nE, nE ≤ 2000 → ckS (bkC j j).length nE a n = 0 := fun nE h => ckS_ok ⟨by omega, by omega, by omega, by rw [bkC_len, ← HN.out]; push_cast; omega, by push_cast; omega⟩
        have HSZ := Lib.hid hsz
        have HR0 := Lib.hid (HL.out.keep O4.out (fun _ _ h => h))
        clear hsz
        refine Calls.mono (R := fun e w' => e = .returned (.int .i64 0) ∧ One wr w' [] p (wrS a (sl L) (bkC j j, stores j) n).1 (wrS a (sl L) (bkC j j, stores j) n).2) (H5.out.callF (fun F ha hf o => write_any ha (HR0.out.keep o (fun _ _ h => h)) tp (fun k hk hn => by have := hf k hn; have h2 : k < w.heap.size := hk; have := O4.out.size; omega) a (HSZ.out _ (by rw [length_stores]; omega)))) ?_
        rintro e w6 ⟨rfl, h6⟩
        obtain ⟨hl1, hl2⟩ := wrS_len a (sl L) (bkC j j, stores j) n
        rw [bkC_len] at hl1
        rw [length_stores] at hl2
        have hr1 : rdL a (wrS a (sl L) (bkC j j, stores j) n).1 n = L := by
          have := rd_wr a (bkC j j, stores j) L (by rw [bkC_len, HLL.out.1, ← HN.out]; omega)
          rwa [HLL.out.1] at this
        have hr2 := wr_take a (sl L) (bkC j j, stores j) n (by rw [bkC_len, ← HN.out]; omega)
        have hr3 := wr_drop a (sl L) (bkC j j, stores j) n (by rw [bkC_len, ← HN.out]; omega)
        generalize (wrS a (sl L) (bkC j j, stores j) n).1 = C2 at h6 hl1 hr1 hr2 hr3
        generalize (wrS a (sl L) (bkC j j, stores j) n).2 = E2 at h6 hl2
        have H6 := Lib.hid h6
        have HRR := Lib.hid (And.intro hl1 (And.intro hr2 hr3))
        have HZ2 : Hid (ckS C2.length E2.length a n = 0) := Lib.hid (by have := HSZ.out E2.length (by rw [hl2]; omega); rwa [bkC_len, ← hl1] at this)
        have HRD := Lib.hid hr1
        clear h6 hl1 hl2 hr1 hr2 hr3 H5
        go_wp2_with fail
        refine Calls.mono (R := fun e w' => ∃ g, e = .returned (.tuple #[.slice (some ⟨g, 0, none⟩) n n, .int .i64 0]) ∧ One wr w' [(g, 75, (slC L).toArray)] p C2 (rdE a E2 n)) (H6.out.row (fun F ha => by
          have := read_ok ha a n HZ2.out
          rw [HRD.out] at this
          exact this)) ?_
        rintro e w7 ⟨g7, rfl, h7⟩
        have H7 := Lib.hid h7
        clear h7 H6
        go_wp2_with fail
        refine (cells_ok H7.out.ar.choose_spec).mono ?_
        rintro e w8 ⟨v8, rfl, h8, o8⟩
        rw [HRR.out.1] at h8
        obtain ⟨g8, c8, rfl, hc8⟩ := own_form h8 hNp
        have R8 := Lib.hid (Rd.own h8 (F := fun _ => True) (fun _ _ => trivial))
        have H8 := Lib.hid (H7.out.offR o8)
        have R48 := Lib.hid (R4.out.keep H8.out.oldR (fun _ _ h => h))
        have RG8 : Hid (Rd w8 (fun _ => True) 3 (.slice (some ⟨g7, 0, none⟩) n n) n (slC L)) := Lib.hid ⟨_, _, rfl, by unfold maxLen; omega, by rw [slC_len, HLL.out.1], fun _ => ⟨g7, 0, rfl, trivial, (H8.out.blk (List.mem_cons_self ..)).lt, fun j u hu => by rw [Nat.zero_add, (H8.out.blk (List.mem_cons_self ..)).cell]; simpa using hu⟩⟩
        have HR8 := Lib.hid (HR0.out.keep H8.out.oldR (fun _ _ h => h))
        have HAN := Lib.hid (show a + 3 * n ≤ j by have := HN.out; omega)
        have ha8 : a ≤ j := by have := HAN.out; omega
        have hc9 : j ≤ c8 := hc8
        have hca : a ≤ c8 := by omega
        have hcb : a + 3 * n ≤ j := HAN.out
        have hcc : a + 3 * n ≤ c8 := by omega
        clear h8 o8 H7 R4 HR0 hc8
        go_wp2_with fail
        have HSS : Hid (∀ W, Off Nob w8 W → Calls Try.prog 14 #[.slice (some ⟨g7, 0, none⟩) n n, .slice A0 n c0] W (BoolNew true W)) := Lib.hid (fun W o => sameSl_eq (RG8.out.keep o (fun _ _ h => h)) (HR8.out.keep o (fun _ _ h => h)))
        have OW8 : Hid (Off Nob w w8) := Lib.hid (O4.out.also H8.out.oldR)
        have HC1 : Hid (∀ W, Off Nob w8 W → Calls Try.prog 25 #[.slice (some ⟨g8, 0, none⟩) a c8, .slice (some ⟨g4, 0, none⟩) a j] W (BoolNew true W)) := Lib.hid (fun W o => by
          have := sameCells_any (cap_sub (R8.out.keep o (fun _ _ h => h)) ha8 c8) (cap_sub (R48.out.keep o (fun _ _ h => h)) ha8 j)
          rwa [HRR.out.2.1, show ∀ L, sameB L L = true from fun L => by simp [sameB]] at this)
        obtain ⟨m9, hm9⟩ : ∃ m9, a + 3 * n = m9 := ⟨_, rfl⟩
        have hm8 : (a : Int) + 3 * (n : Int) = (m9 : Int) := by rw [← hm9]; push_cast; rfl
        rw [hm8]
        have HRR3 : Hid (C2.drop m9 = (bkC j j).drop m9) := Lib.hid (by have := HRR.out.2.2; rwa [hm9] at this)
        rw [hm9] at hcb hcc
        have hcd : (m9 : Int) ≤ (j : Int) := by omega
        have hn1 : ¬ c8 = m9 := by have := HN.out; omega
        have hn2 : ¬ j = m9 := by have := HN.out; omega
        clear hm8 hm9
        have HC2 : Hid (∀ W, Off Nob w8 W → Calls Try.prog 25 #[.slice (some ⟨g8, m9, none⟩) (j - m9) (c8 - m9), .slice (some ⟨g4, m9, none⟩) (j - m9) (j - m9)] W (BoolNew true W)) := Lib.hid (fun W o => by
          have := sameCells_any (cap_from (R8.out.keep o (fun _ _ h => h)) hcb hNp (c8 - m9)) (cap_from (R48.out.keep o (fun _ _ h => h)) hcb hNp (j - m9))
          rw [Nat.zero_add] at this
          rwa [HRR3.out, show ∀ L, sameB L L = true from fun L => by simp [sameB]] at this)
        go_region_held3 (fun _ => True) (trivial)
          (first
            | (go_at_call 14; refine (HSS.out _ (by first | with_reducible exact Off.refl _ _ | with_reducible exact Off.drew (Off.refl _ _) | with_reducible exact Off.drewN (Off.refl _ _) _)).mono ?_; rintro e w9 ⟨rfl, o9⟩; have O9 : Hid (Off Nob w8 w9) := Lib.hid (Off.also (by first | with_reducible exact Off.refl _ _ | with_reducible exact Off.drew (Off.refl _ _) | with_reducible exact Off.drewN (Off.refl _ _) _) o9); clear o9)
            | (go_at_call 25; (with_reducible refine Calls.mono (HC1.out _ (O9.out.also (by first | with_reducible exact Off.refl _ _ | with_reducible exact Off.drew (Off.refl _ _) | with_reducible exact Off.drewN (Off.refl _ _) _))) ?_); rintro e w10 ⟨rfl, o10⟩; have O10 : Hid (Off Nob w8 w10) := Lib.hid ((O9.out.also (by first | with_reducible exact Off.refl _ _ | with_reducible exact Off.drew (Off.refl _ _) | with_reducible exact Off.drewN (Off.refl _ _) _)).also o10); clear o10)
            | (go_at_call 25; (with_reducible refine Calls.mono (HC2.out _ (O10.out.also (by first | with_reducible exact Off.refl _ _ | with_reducible exact Off.drew (Off.refl _ _) | with_reducible exact Off.drewN (Off.refl _ _) _))) ?_); rintro e w11 ⟨rfl, o11⟩; have O11 : Hid (Off Nob w8 w11) := Lib.hid ((O10.out.also (by first | with_reducible exact Off.refl _ _ | with_reducible exact Off.drew (Off.refl _ _) | with_reducible exact Off.drewN (Off.refl _ _) _)).also o11); clear o11)
            | (go_at_call 9; refine (awake_ok _).mono ?_; rintro e w12 ⟨rfl, o12⟩; have O12 : Hid (Off Nob w8 w12) := Lib.hid ((O11.out.also (by first | with_reducible exact Off.refl _ _ | with_reducible exact Off.drew (Off.refl _ _) | with_reducible exact Off.drewN (Off.refl _ _) _)).also o12); clear o12)
            | (go_at_call 25; trace_state; fail))
        go_wp2
        go_ret
        exact ⟨ret_bool (by simp), OW8.out.also O12.out⟩
  · have HOF := Lib.hid (sof_err (n := (k : Int)) HH.out (by unfold ofE; rw [if_pos (by omega)]; decide))
    rw [show ofE m (k : Int) = 7 by unfold ofE; rw [if_pos (by omega)]] at HOF
    go_enter Try.func5, Try.ntmps5
    go_wp2_with fail
    refine HOF.out.mono ?_
    rintro e w3 ⟨rfl, hw3⟩
    have O3 : Hid (Off Nob w w3) := Lib.hid (by rw [← hw3]; exact Off.refl _ _)
    clear hmx HOF hw3
    rcases tn with tn | ⟨tn, tp⟩
    · go_wp2_with fail
      refine (awake_ok _).mono ?_
      rintro e w4 ⟨rfl, o4⟩
      have O4 := Lib.hid (O3.out.also o4)
      clear o4
      go_wp2_with fail
      go_ret
      exact ⟨rfl, O4.out⟩
    obtain ⟨a, ha⟩ : ∃ a : Nat, x % 10 = a := ⟨_, rfl⟩
    have ha2 : (x : Int) % 10 = (a : Int) := by rw [← ha]; push_cast; rfl
    have ha3 : a ≤ 9 := by omega
    obtain ⟨N, hN⟩ : ∃ N : Nat, a + 3 * n + 5 = N := ⟨_, rfl⟩
    have hN2 : (x : Int) % 10 + 3 * (n : Int) + 5 = (N : Int) := by rw [← hN, ha2]; push_cast; rfl
    have HN := Lib.hid hN
    have HA2 := Lib.hid ha2
    have hNb : N ≤ 200 := by omega
    have hNp : 0 < N := by omega
    have hmk : ∀ w, (Instr.makeSlice 40 (.int .i64 ((x : Int) % 10 + 3 * (n : Int) + 5)) (.int .i64 ((x : Int) % 10 + 3 * (n : Int) + 5))).run Try.prog w = .ok (.slice (some ⟨w.heap.size, 0, none⟩) N N) (w.alloc (.cells (u64s (bkC N 0)).toArray 41)) := fun w => by
      rw [hN2]
      have := run_makeSlice (P := Try.prog) (w := w) 40 41 iu _ Try.underlying40 hI hz0 .i64 .i64 (N : Int) (N : Int) (by omega) (by omega) (by rw [hz1]; omega) (by rw [hz2]; omega) (by omega)
      rw [this, bkC_zero, ← made_us]
      congr 3
      rw [Int.toNat_natCast, hz1]
    clear ha ha2 hN hN2 hd0 hd1 k1 k2 k3 t2 hI hz0 hz1 hz2
    go_wp2_with fail
    rw [HA2.out]
    obtain ⟨w4, hw4⟩ : ∃ w4, w3.alloc (.cells (u64s (bkC N 0)).toArray 41) = w4 := ⟨_, rfl⟩
    obtain ⟨g4, hg4⟩ : ∃ g, w3.heap.size = g := ⟨_, rfl⟩
    have B4 : Hid (BkI w3 g4 N 0 w4) := Lib.hid (by
      rw [← hw4, ← hg4]
      have hb := Blk.new w3 41 (u64s (bkC N 0)).toArray
      refine ⟨⟨by rw [length_u64s, bkC_len, Nat.mul_one], .inr ⟨w3.heap.size, N, (u64s (bkC N 0)).toArray, rfl, Nat.le_refl _, hb, Nat.le_refl _, by unfold maxLen; omega, by simp [length_u64s, bkC_len], by rw [List.take_of_length_le (by rw [length_u64s, bkC_len, Nat.mul_one]; exact Nat.le_refl _)]⟩⟩, Off.alloc (Off.refl _ _) _⟩)
    rw [hg4, hw4]
    clear hg4 hw4 hmk tn t1
    go_wp2_with fail
    go_loopw [11] (fun i wr => ∃ j : Nat, j ≤ N ∧ i = .int .i64 (j : Int) ∧ BkI w3 g4 N j wr) (fun i _ => N - (intOf i).toNat)
    case atStart => exact ⟨0, Nat.zero_le _, rfl, B4.out⟩
    case round =>
      obtain ⟨j, hj, rfl, hrel⟩ := hrel
      have HR := Lib.hid hrel
      clear B4
      by_cases hlt : j < N
      · obtain ⟨u4, d0⟩ : ∃ u4, wr.cell? ⟨g4, j, none⟩ = some u4 := by
          refine ⟨_, (hrel.1.cellAt j (by omega)).trans (List.getElem?_eq_getElem (by rw [length_u64s, bkC_len]; exact hlt))⟩
        have f0 := hrel.1.frozenAt j
        have HP := Lib.hid (hrel.put hlt (by omega))
        clear hrel
        go_wp2_with fail
        go_roundw
        case rel => exact ⟨j + 1, hlt, by go_num, HP.out⟩
        case measure => simp [intOf]; omega
      · obtain rfl : j = N := by omega
        have R4 := Lib.hid (Rd.own hrel.1 (F := fun b => b < wr.heap.size) (fun b hb => (hrel.1.lt b hb).2))
        have O4 := Lib.hid (O3.out.also hrel.2)
        clear hrel HR
        go_wp2_with fail
        refine (arena_any R4.out (by rw [bkC_len]; omega)).mono ?_
        rintro e w5 h5
        obtain ⟨p, r, rfl, hh⟩ := h5.have_
        rw [bk_pad _ hNp, bkC_len] at hh
        have H5 := Lib.hid hh.one
        clear h5 hh
        go_wp2_with fail
        have hsz : ∀ nE, nE ≤ 2000 → ckS (bkC j j).length nE a n = 0 := fun nE h => ckS_ok ⟨by omega, by omega, by omega, by rw [bkC_len, ← HN.out]; push_cast; omega, by push_cast; omega⟩
        have HSZ := Lib.hid hsz
        have HR0 := Lib.hid (HL.out.keep O4.out (fun _ _ h => h))
        clear hsz
        refine Calls.mono (R := fun e w' => e = .returned (.int .i64 0) ∧ One wr w' [] p (wrS a (sl L) (bkC j j, stores j) n).1 (wrS a (sl L) (bkC j j, stores j) n).2) (H5.out.callF (fun F ha hf o => write_any ha (HR0.out.keep o (fun _ _ h => h)) tp (fun k hk hn => by have := hf k hn; have h2 : k < w.heap.size := hk; have := O4.out.size; omega) a (HSZ.out _ (by rw [length_stores]; omega)))) ?_
        rintro e w6 ⟨rfl, h6⟩
        obtain ⟨hl1, hl2⟩ := wrS_len a (sl L) (bkC j j, stores j) n
        rw [bkC_len] at hl1
        rw [length_stores] at hl2
        have hr1 : rdL a (wrS a (sl L) (bkC j j, stores j) n).1 n = L := by
          have := rd_wr a (bkC j j, stores j) L (by rw [bkC_len, HLL.out.1, ← HN.out]; omega)
          rwa [HLL.out.1] at this
        have hr2 := wr_take a (sl L) (bkC j j, stores j) n (by rw [bkC_len, ← HN.out]; omega)
        have hr3 := wr_drop a (sl L) (bkC j j, stores j) n (by rw [bkC_len, ← HN.out]; omega)
        generalize (wrS a (sl L) (bkC j j, stores j) n).1 = C2 at h6 hl1 hr1 hr2 hr3
        generalize (wrS a (sl L) (bkC j j, stores j) n).2 = E2 at h6 hl2
        have H6 := Lib.hid h6
        have HRR := Lib.hid (And.intro hl1 (And.intro hr2 hr3))
        have HZ2 : Hid (ckS C2.length E2.length a n = 0) := Lib.hid (by have := HSZ.out E2.length (by rw [hl2]; omega); rwa [bkC_len, ← hl1] at this)
        have HRD := Lib.hid hr1
        clear h6 hl1 hl2 hr1 hr2 hr3 H5
        go_wp2_with fail
        refine Calls.mono (R := fun e w' => ∃ g, e = .returned (.tuple #[.slice (some ⟨g, 0, none⟩) n n, .int .i64 0]) ∧ One wr w' [(g, 75, (slC L).toArray)] p C2 (rdE a E2 n)) (H6.out.row (fun F ha => by
          have := read_ok ha a n HZ2.out
          rw [HRD.out] at this
          exact this)) ?_
        rintro e w7 ⟨g7, rfl, h7⟩
        have H7 := Lib.hid h7
        clear h7 H6
        go_wp2_with fail
        refine (cells_ok H7.out.ar.choose_spec).mono ?_
        rintro e w8 ⟨v8, rfl, h8, o8⟩
        rw [HRR.out.1] at h8
        obtain ⟨g8, c8, rfl, hc8⟩ := own_form h8 hNp
        have R8 := Lib.hid (Rd.own h8 (F := fun _ => True) (fun _ _ => trivial))
        have H8 := Lib.hid (H7.out.offR o8)
        have R48 := Lib.hid (R4.out.keep H8.out.oldR (fun _ _ h => h))
        have RG8 : Hid (Rd w8 (fun _ => True) 3 (.slice (some ⟨g7, 0, none⟩) n n) n (slC L)) := Lib.hid ⟨_, _, rfl, by unfold maxLen; omega, by rw [slC_len, HLL.out.1], fun _ => ⟨g7, 0, rfl, trivial, (H8.out.blk (List.mem_cons_self ..)).lt, fun j u hu => by rw [Nat.zero_add, (H8.out.blk (List.mem_cons_self ..)).cell]; simpa using hu⟩⟩
        have HR8 := Lib.hid (HR0.out.keep H8.out.oldR (fun _ _ h => h))
        have HAN := Lib.hid (show a + 3 * n ≤ j by have := HN.out; omega)
        have ha8 : a ≤ j := by have := HAN.out; omega
        have hc9 : j ≤ c8 := hc8
        have hca : a ≤ c8 := by omega
        have hcb : a + 3 * n ≤ j := HAN.out
        have hcc : a + 3 * n ≤ c8 := by omega
        clear h8 o8 H7 R4 HR0 hc8
        go_wp2_with fail
        have HSS : Hid (∀ W, Off Nob w8 W → Calls Try.prog 14 #[.slice (some ⟨g7, 0, none⟩) n n, .slice A0 n c0] W (BoolNew true W)) := Lib.hid (fun W o => sameSl_eq (RG8.out.keep o (fun _ _ h => h)) (HR8.out.keep o (fun _ _ h => h)))
        have OW8 : Hid (Off Nob w w8) := Lib.hid (O4.out.also H8.out.oldR)
        have HC1 : Hid (∀ W, Off Nob w8 W → Calls Try.prog 25 #[.slice (some ⟨g8, 0, none⟩) a c8, .slice (some ⟨g4, 0, none⟩) a j] W (BoolNew true W)) := Lib.hid (fun W o => by
          have := sameCells_any (cap_sub (R8.out.keep o (fun _ _ h => h)) ha8 c8) (cap_sub (R48.out.keep o (fun _ _ h => h)) ha8 j)
          rwa [HRR.out.2.1, show ∀ L, sameB L L = true from fun L => by simp [sameB]] at this)
        obtain ⟨m9, hm9⟩ : ∃ m9, a + 3 * n = m9 := ⟨_, rfl⟩
        have hm8 : (a : Int) + 3 * (n : Int) = (m9 : Int) := by rw [← hm9]; push_cast; rfl
        rw [hm8]
        have HRR3 : Hid (C2.drop m9 = (bkC j j).drop m9) := Lib.hid (by have := HRR.out.2.2; rwa [hm9] at this)
        rw [hm9] at hcb hcc
        have hcd : (m9 : Int) ≤ (j : Int) := by omega
        have hn1 : ¬ c8 = m9 := by have := HN.out; omega
        have hn2 : ¬ j = m9 := by have := HN.out; omega
        clear hm8 hm9
        have HC2 : Hid (∀ W, Off Nob w8 W → Calls Try.prog 25 #[.slice (some ⟨g8, m9, none⟩) (j - m9) (c8 - m9), .slice (some ⟨g4, m9, none⟩) (j - m9) (j - m9)] W (BoolNew true W)) := Lib.hid (fun W o => by
          have := sameCells_any (cap_from (R8.out.keep o (fun _ _ h => h)) hcb hNp (c8 - m9)) (cap_from (R48.out.keep o (fun _ _ h => h)) hcb hNp (j - m9))
          rw [Nat.zero_add] at this
          rwa [HRR3.out, show ∀ L, sameB L L = true from fun L => by simp [sameB]] at this)
        go_region_held3 (fun _ => True) (trivial)
          (first
            | (go_at_call 14; refine (HSS.out _ (by first | with_reducible exact Off.refl _ _ | with_reducible exact Off.drew (Off.refl _ _) | with_reducible exact Off.drewN (Off.refl _ _) _)).mono ?_; rintro e w9 ⟨rfl, o9⟩; have O9 : Hid (Off Nob w8 w9) := Lib.hid (Off.also (by first | with_reducible exact Off.refl _ _ | with_reducible exact Off.drew (Off.refl _ _) | with_reducible exact Off.drewN (Off.refl _ _) _) o9); clear o9)
            | (go_at_call 25; (with_reducible refine Calls.mono (HC1.out _ (O9.out.also (by first | with_reducible exact Off.refl _ _ | with_reducible exact Off.drew (Off.refl _ _) | with_reducible exact Off.drewN (Off.refl _ _) _))) ?_); rintro e w10 ⟨rfl, o10⟩; have O10 : Hid (Off Nob w8 w10) := Lib.hid ((O9.out.also (by first | with_reducible exact Off.refl _ _ | with_reducible exact Off.drew (Off.refl _ _) | with_reducible exact Off.drewN (Off.refl _ _) _)).also o10); clear o10)
            | (go_at_call 25; (with_reducible refine Calls.mono (HC2.out _ (O10.out.also (by first | with_reducible exact Off.refl _ _ | with_reducible exact Off.drew (Off.refl _ _) | with_reducible exact Off.drewN (Off.refl _ _) _))) ?_); rintro e w11 ⟨rfl, o11⟩; have O11 : Hid (Off Nob w8 w11) := Lib.hid ((O10.out.also (by first | with_reducible exact Off.refl _ _ | with_reducible exact Off.drew (Off.refl _ _) | with_reducible exact Off.drewN (Off.refl _ _) _)).also o11); clear o11)
            | (go_at_call 9; refine (awake_ok _).mono ?_; rintro e w12 ⟨rfl, o12⟩; have O12 : Hid (Off Nob w8 w12) := Lib.hid ((O11.out.also (by first | with_reducible exact Off.refl _ _ | with_reducible exact Off.drew (Off.refl _ _) | with_reducible exact Off.drewN (Off.refl _ _) _)).also o12); clear o12)
            | (go_at_call 25; trace_state; fail))
        go_wp2
        go_ret
        exact ⟨ret_bool (by simp), OW8.out.also O12.out⟩
theorem back_long {w : World} (A0 A1 : Option Addr) (n0 c0 n1 c1 : Nat) (h : 60 < n0 ∨ 300 < n1) (b0 : n0 ≤ maxLen) (b1 : n1 ≤ maxLen) (x : Int) :
    Calls Try.prog 5 #[.slice A0 n0 c0, .slice A1 n1 c1, .int .u8 x] w (BoolNew true w) := by
  unfold maxLen at b0 b1
  have t : decide (60 < (n0 : Int)) = true ∨ (decide (60 < (n0 : Int)) = false ∧ decide (300 < (n1 : Int)) = true) := by
    by_cases q : 60 < (n0 : Int)
    · exact .inl (decide_eq_true q)
    · exact .inr ⟨decide_eq_false q, decide_eq_true (by omega)⟩
  clear h
  rcases t with t1 | ⟨t1, t2⟩
  all_goals
    go_enter Try.func5, Try.ntmps5
    go_wp2_with fail
    refine (awake_ok _).mono ?_
    rintro e w4 ⟨rfl, h4⟩
    have H4 := Lib.hid h4
    clear h4
    go_wp2
    go_ret
    exact ⟨rfl, H4.out⟩
theorem slotsBack_walk {w : World} {v0 v1 : Value} {n0 n1 : Nat} {xs ys : List Value} (h0 : Rd w (Old w) 3 v0 n0 xs) (k0 : ∀ f j κ, j < n0 * 3 → kindAt Try.prog f 75 (j % 3) = some κ → ∃ u, xs[j]? = some u ∧ okV κ u)
    (h1 : Rd w (Old w) 2 v1 n1 ys) (k1 : ∀ f j κ, j < n1 * 2 → kindAt Try.prog f 50 (j % 2) = some κ → ∃ u, ys[j]? = some u ∧ okV κ u)
    (x : Int) (hx : 0 ≤ x ∧ x < 256) :
    Calls Try.prog 5 #[v0, v1, .int .u8 x] w (BoolNew true w) := by
  obtain ⟨L, hL, r0⟩ := opened_slots h0 k0
  obtain ⟨H, hH, r1, hI⟩ := opened_hits h1 k1
  by_cases g : 60 < n0 ∨ 300 < n1
  · obtain ⟨A0, c0, rfl, m0, _⟩ := h0.form
    obtain ⟨A1, c1, rfl, m1, _⟩ := h1.form
    exact back_long _ _ _ _ _ _ g m0 m1 _
  · obtain ⟨y, rfl⟩ := Int.eq_ofNat_of_zero_le hx.1
    exact back_small r0 r1 hI (by omega) (by omega) y (by omega)
end Go.Proofs.Ytonkhgmfeakbcaa
