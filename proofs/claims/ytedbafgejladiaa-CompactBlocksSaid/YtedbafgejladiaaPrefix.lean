import Derived.Test.YtedbafgejladiaaPrefRow
import Derived.IntWalk
import Derived.Deep.RegionHeld3
/-
  prefix: check, each and what it is handed.
-/
namespace Go.Proofs.Ytedbafgejladiaa
open Go.RowKit
attribute [local go_sem] bits_and_u64 bits_or_u64 bits_xor_u64 bits_andNot_u64 wrap_u64 bv_add bv_neg bv_sub bv_mul
set_option linter.unusedVariables false
set_option maxRecDepth 100000
section
variable {w0 w : World} {F : Nat → Prop} {bs : Bks} {p : Nat} {C : List (BitVec 64)} {E : List Ev}
set_option maxHeartbeats 2000000 in
theorem pcheck_any (h : Ar w F p C E) (base n out : Int) (s : Nat) (hs : s ≤ 3) :
    Calls Try.prog 88 #[.pointer (some ⟨p, 0, none⟩), .int .i64 base, .int .i64 n, .int .i64 out, .int .i64 (s : Int)] w fun e w' => e = .returned (.int .i64 (pkE C.length E.length base n out s)) ∧ w = w' := by
  have h2 := h.n2
  have H := Lib.hid h
  clear h
  by_cases n1 : n < 1
  · have HF := Lib.hid (show pkE C.length E.length base n out s = 7 by unfold pkE; rw [if_pos (.inl n1)])
    go_enter Try.func88, Try.ntmps88
    go_wp2_with fail
    go_ret
    exact ⟨by rw [HF.out]; rfl, rfl⟩
  by_cases n2 : 288 < n
  · have HF := Lib.hid (show pkE C.length E.length base n out s = 7 by unfold pkE; rw [if_pos (.inr n2)])
    go_enter Try.func88, Try.ntmps88
    go_wp2_with fail
    go_ret
    exact ⟨by rw [HF.out]; rfl, rfl⟩
  have hn : ¬ (n < 1 ∨ 288 < n) := by omega
  by_cases hb : hasE C.length base (3 * n) = 0
  · have HB := Lib.hid hb
    by_cases ho : hasE C.length out n = 0
    · have HO := Lib.hid ho
      have g1 : 0 ≤ base ∧ base + 3 * n ≤ C.length := by unfold hasE at hb; split at hb; cases hb; omega
      have g2 : 0 ≤ out ∧ out + n ≤ C.length := by unfold hasE at ho; split at ho; cases ho; omega
      obtain ⟨g1, g3⟩ := g1
      obtain ⟨g2, g4⟩ := g2
      by_cases hv : out < base + 3 * n ∧ base < out + n
      · have HF := Lib.hid (show pkE C.length E.length base n out s = 2 by unfold pkE; rw [if_neg hn, if_pos hb, if_pos ho, if_pos hv])
        obtain ⟨v1, v2⟩ := hv
        clear hb ho hn
        go_enter Try.func88, Try.ntmps88
        go_wp2_with fail
        refine Calls.mono (R := fun e w' => e = .returned (.int .i64 0) ∧ w = w') (by have := has_any H.out base (3 * n); rwa [HB.out] at this) ?_
        rintro e w' ⟨rfl, rfl⟩
        go_wp2_with fail
        refine Calls.mono (R := fun e w' => e = .returned (.int .i64 0) ∧ w = w') (by have := has_any H.out out n; rwa [HO.out] at this) ?_
        rintro e w' ⟨rfl, rfl⟩
        go_wp2_with fail
        go_ret
        exact ⟨by rw [HF.out]; rfl, rfl⟩
      · have HF := Lib.hid (show pkE C.length E.length base n out s = roomE E.length ((s : Int) * n) by unfold pkE; rw [if_neg hn, if_pos hb, if_pos ho, if_neg hv])
        have hxy : ¬ out < base + 3 * n ∨ (out < base + 3 * n ∧ ¬ base < out + n) := by omega
        have m1 : 0 ≤ (s : Int) * n := Int.mul_nonneg (by omega) (by omega)
        have m2 : (s : Int) * n ≤ 3 * n := Int.mul_le_mul_of_nonneg_right (by omega) (by omega)
        clear hb ho hn hv
        rcases hxy with hxy | ⟨hxy, hyx⟩
        all_goals
          go_enter Try.func88, Try.ntmps88
          go_wp2_with fail
          refine Calls.mono (R := fun e w' => e = .returned (.int .i64 0) ∧ w = w') (by have := has_any H.out base (3 * n); rwa [HB.out] at this) ?_
          rintro e w' ⟨rfl, rfl⟩
          go_wp2_with fail
          refine Calls.mono (R := fun e w' => e = .returned (.int .i64 0) ∧ w = w') (by have := has_any H.out out n; rwa [HO.out] at this) ?_
          rintro e w' ⟨rfl, rfl⟩
          go_wp2_with fail
          refine (room_any H.out ((s : Int) * n)).mono ?_
          rintro e w' ⟨rfl, rfl⟩
          go_wp2_with fail
          go_ret
          exact ⟨by rw [HF.out]; rfl, rfl⟩
    · have HF := Lib.hid (show pkE C.length E.length base n out s = hasE C.length out n by unfold pkE; rw [if_neg hn, if_pos hb, if_neg ho])
      have hq : (hasE C.length out n != 0) = true := by rw [bne_iff_ne]; exact ho
      clear hb ho hn
      go_enter Try.func88, Try.ntmps88
      go_wp2_with fail
      refine Calls.mono (R := fun e w' => e = .returned (.int .i64 0) ∧ w = w') (by have := has_any H.out base (3 * n); rwa [HB.out] at this) ?_
      rintro e w' ⟨rfl, rfl⟩
      go_wp2_with fail
      refine (has_any H.out out n).mono ?_
      rintro e w' ⟨rfl, rfl⟩
      go_wp2_with fail
      go_ret
      exact ⟨by rw [HF.out]; rfl, rfl⟩
  · have HF := Lib.hid (show pkE C.length E.length base n out s = hasE C.length base (3 * n) by unfold pkE; rw [if_neg hn, if_neg hb])
    have hq : (hasE C.length base (3 * n) != 0) = true := by rw [bne_iff_ne]; exact hb
    clear hb hn
    go_enter Try.func88, Try.ntmps88
    go_wp2_with fail
    refine (has_any H.out base (3 * n)).mono ?_
    rintro e w' ⟨rfl, rfl⟩
    go_wp2_with fail
    go_ret
    exact ⟨by rw [HF.out]; rfl, rfl⟩
theorem pkE_zero {nC nE : Nat} {base n out : Int} {s : Int} (h : pkE nC nE base n out s = 0) : 1 ≤ n ∧ n ≤ 288 ∧ 0 ≤ base ∧ base + 3 * n ≤ nC ∧ 0 ≤ out ∧ out + n ≤ nC ∧ ¬ (out < base + 3 * n ∧ base < out + n) ∧ nE + s * n ≤ 8388608 := by
  unfold pkE at h
  split at h
  · cases h
  · rename_i hn
    split at h
    · rename_i hb
      split at h
      · rename_i ho
        have g1 : 0 ≤ base ∧ base + 3 * n ≤ nC := by unfold hasE at hb; split at hb; cases hb; omega
        have g2 : 0 ≤ out ∧ out + n ≤ nC := by unfold hasE at ho; split at ho; cases ho; omega
        split at h
        · cases h
        · rename_i hv
          have g3 : nE + s * n ≤ 8388608 := by
            unfold roomE at h
            split at h
            · cases h
            · split at h
              · cases h
              · omega
          exact ⟨by omega, by omega, g1.1, g1.2, g2.1, g2.2, hv, g3⟩
      · rename_i ho; exact absurd h ho
    · rename_i hb; exact absurd h hb
/-- What each is handed: it does f at i. -/
def DoesE (p : Nat) (bs : Bks) (base n out : Nat) (fn : FuncId) (caps : Array Value) (f : St → Nat → St) (s0 : St) : Prop :=
  (∀ (xs : Array Value) (w1 : World), (callFunc fn xs).run Try.prog w1 = .ok (.enter fn xs) w1) ∧
  ∀ (w0 : World) (F : Nat → Prop) (w : World) (rb i : Nat), i < n → Wk w0 F w ((rb, 128, #[.pointer (some ⟨p, 0, none⟩), .int .u64 (n64 (repS f s0 i).2.2), .int .i64 (base : Int), .int .i64 (n : Int), .int .i64 (out : Int)]) :: bs) p (repS f s0 i).1 (repS f s0 i).2.1 →
    Calls Try.prog fn (#[.pointer (some ⟨rb, 0, none⟩), .int .i64 (i : Int)] ++ caps) w fun e w' => e = .returned (.tuple #[]) ∧ Wk w0 F w' ((rb, 128, #[.pointer (some ⟨p, 0, none⟩), .int .u64 (n64 (repS f s0 (i + 1)).2.2), .int .i64 (base : Int), .int .i64 (n : Int), .int .i64 (out : Int)]) :: bs) p (repS f s0 (i + 1)).1 (repS f s0 (i + 1)).2.1
set_option maxHeartbeats 2000000 in
theorem each_ok {base n out : Nat} (h : Wk w0 F w bs p C E) (s : Nat) (hs : s ≤ 3) (fn : FuncId) (caps : Array Value) (f : St → Nat → St) (hg : DoesE p bs base n out fn caps f (C, E, 0#64)) (hz : pkE C.length E.length base n out s = 0) :
    Calls Try.prog 64 #[.pointer (some ⟨p, 0, none⟩), .int .i64 (base : Int), .int .i64 (n : Int), .int .i64 (out : Int), .int .i64 (s : Int), .func (.func fn) #[] caps] w fun e w' => e = .returned (.tuple #[.int .u64 (n64 (repS f (C, E, 0#64) n).2.2), .int .i64 0]) ∧ Wk w0 F w' bs p (repS f (C, E, 0#64) n).1 (repS f (C, E, 0#64) n).2.1 := by
  obtain ⟨hcf, hdo⟩ := hg
  have HD := Lib.hid hdo
  have hn288 : n ≤ 288 := by have := pkE_zero hz; omega
  obtain ⟨F1, ha⟩ := h.ar
  have HK := Lib.hid (pcheck_any ha base n out s hs)
  have HZ := Lib.hid hz
  have H : Hid (Wk w0 F (w.alloc (.cells #[.pointer (some ⟨p, 0, none⟩), .int .u64 (n64 0#64), .int .i64 (base : Int), .int .i64 (n : Int), .int .i64 (out : Int)] 128)) ((w.heap.size, 128, #[.pointer (some ⟨p, 0, none⟩), .int .u64 (n64 (repS f (C, E, 0#64) 0).2.2), .int .i64 (base : Int), .int .i64 (n : Int), .int .i64 (out : Int)]) :: bs) p (repS f (C, E, 0#64) 0).1 (repS f (C, E, 0#64) 0).2.1) := h.push _ _
  clear h hdo hz ha
  go_enter Try.func64, Try.ntmps64
  go_wp2_with fail
  refine Calls.mono (R := fun e w' => e = .returned (.int .i64 0) ∧ w = w') (by have := HK.out; rwa [HZ.out] at this) ?_
  rintro e w' ⟨rfl, rfl⟩
  go_wp2_with fail
  go_loopw [33] (fun i wr => ∃ j : Nat, j ≤ n ∧ i = .int .i64 j ∧ Wk w0 F wr ((w.heap.size, 128, #[.pointer (some ⟨p, 0, none⟩), .int .u64 (n64 (repS f (C, E, 0#64) j).2.2), .int .i64 (base : Int), .int .i64 (n : Int), .int .i64 (out : Int)]) :: bs) p (repS f (C, E, 0#64) j).1 (repS f (C, E, 0#64) j).2.1) (fun i _ => n - (intOf i).toNat)
  case atStart => exact ⟨0, Nat.zero_le _, rfl, H.out⟩
  case round =>
    obtain ⟨j, hj, rfl, hrel⟩ := hrel
    have HR := Lib.hid hrel
    clear hrel H
    by_cases hlt : j < n
    · have HQ := Lib.hid (HD.out w0 F wr w.heap.size j hlt HR.out)
      go_wp2_with fail
      refine HQ.out.mono ?_
      rintro e w2 ⟨rfl, h3⟩
      have H3 := Lib.hid h3
      clear h3
      go_wp2_with fail
      go_roundw
      case rel => exact ⟨j + 1, by omega, by go_num, H3.out⟩
      case measure => simp [intOf]; omega
    · obtain rfl : n = j := by omega
      have b1 := (HR.out.blk (List.mem_cons_self ..)).cell 1
      simp only [List.getElem?_toArray, List.getElem?_cons_succ, List.getElem?_cons_zero] at b1
      go_wp2_with fail
      go_ret2
      exact ⟨rfl, HR.out.drop⟩
theorem each_err (h : Ar w F p C E) (base n out : Int) (s : Nat) (hs : s ≤ 3) (fv : Value) (hz : pkE C.length E.length base n out s ≠ 0) :
    Calls Try.prog 64 #[.pointer (some ⟨p, 0, none⟩), .int .i64 base, .int .i64 n, .int .i64 out, .int .i64 (s : Int), fv] w fun e w' => e = .returned (.tuple #[.int .u64 0, .int .i64 (pkE C.length E.length base n out s)]) ∧ w = w' := by
  have HK := Lib.hid (pcheck_any h base n out s hs)
  have hq : (pkE C.length E.length base n out s != 0) = true := by rw [bne_iff_ne]; exact hz
  clear h hz
  go_enter Try.func64, Try.ntmps64
  go_wp2_with fail
  refine HK.out.mono ?_
  rintro e w' ⟨rfl, rfl⟩
  go_wp2
  go_ret2
  exact ⟨rfl, rfl⟩
set_option maxHeartbeats 2000000 in
theorem ranks1_ok {rb ob base out n i : Nat} {many : BitVec 64} (h : Wk w0 F w ((rb, 128, #[.pointer (some ⟨p, 0, none⟩), .int .u64 (n64 many), .int .i64 (base : Int), .int .i64 (n : Int), .int .i64 (out : Int)]) :: (ob, 3, #[.int .i64 (out : Int)]) :: bs) p C E) (hi : i < 288) (hx : base + 3 * i < C.length) (hy : out + i < C.length) (he : E.length + 2 ≤ 8388608) :
    Calls Try.prog 65 #[.pointer (some ⟨rb, 0, none⟩), .int .i64 (i : Int), .pointer (some ⟨ob, 0, none⟩)] w fun e w' => e = .returned (.tuple #[]) ∧ Wk w0 F w' ((rb, 128, #[.pointer (some ⟨p, 0, none⟩), .int .u64 (n64 (rkF base out (C, E, many) i).2.2), .int .i64 (base : Int), .int .i64 (n : Int), .int .i64 (out : Int)]) :: (ob, 3, #[.int .i64 (out : Int)]) :: bs) p (rkF base out (C, E, many) i).1 (rkF base out (C, E, many) i).2.1 := by
  have hn2 := h.n2
  have H := Lib.hid h
  have HE := Lib.hid he
  have hs2 : IntKind.i64.wrap ((out : Int) + (i : Int)) = (out : Int) + (i : Int) := IntWalk.i64_in _ (by omega)
  have HS2 := Lib.hid hs2
  clear h he hs2
  go_enter Try.func65, Try.ntmps65
  go_wp2_with fail
  refine (valid_ok H.out (List.mem_cons_self ..) hi hx (by have := HE.out; omega)).mono ?_
  rintro e w1 ⟨rfl, h1⟩
  have H1 := Lib.hid h1
  have k1 : w1.cell? ⟨rb, 0, none⟩ = some (.pointer (some ⟨p, 0, none⟩)) ∧ w1.cell? ⟨rb, 1, none⟩ = some (.int .u64 (n64 many)) ∧ w1.cell? ⟨ob, 0, none⟩ = some (.int .i64 (out : Int)) := ⟨(h1.blk (List.mem_cons_self ..)).cell 0, (h1.blk (List.mem_cons_self ..)).cell 1, (h1.blk (List.mem_cons_of_mem _ (List.mem_cons_self ..))).cell 0⟩
  clear h1
  have HT := Lib.hid (fun (W : World) (o : Off Nob w1 W) => Wk.call (C2 := C.set (out + i) many) (E2 := E ++ [(1, base + 3 * i)] ++ [(2, out + i)]) (e0 := .returned (.int .i64 0)) (H1.out.off o) (fun w F ha => by
    have := store_ok ha ((out : Int) + (i : Int)) many (by omega) (by omega) (by have := HE.out; simp; omega)
    rw [show ((out : Int) + (i : Int)).toNat = out + i by omega] at this
    exact this))
  have hs2 := HS2.out
  go_wp2_with fail
  go_region_held3 (fun w' => w'.cell? ⟨rb, 0, none⟩ = some (.pointer (some ⟨p, 0, none⟩)) ∧ w'.cell? ⟨rb, 1, none⟩ = some (.int .u64 (n64 many)) ∧ w'.cell? ⟨ob, 0, none⟩ = some (.int .i64 (out : Int)))
    (first | with_reducible assumption | go_keep)
    (first
      | (go_at_call 10; refine (HT.out _ (by first | with_reducible exact Off.refl _ _ | with_reducible exact Off.drew (Off.refl _ _) | with_reducible exact Off.drewN (Off.refl _ _) _)).mono ?_; rintro e w2 ⟨rfl, h2⟩; have H2 := Lib.hid h2; have k2 : w2.cell? ⟨rb, 0, none⟩ = some (.pointer (some ⟨p, 0, none⟩)) ∧ w2.cell? ⟨rb, 1, none⟩ = some (.int .u64 (n64 many)) ∧ w2.cell? ⟨ob, 0, none⟩ = some (.int .i64 (out : Int)) := ⟨(h2.blk (List.mem_cons_self ..)).cell 0, (h2.blk (List.mem_cons_self ..)).cell 1, (h2.blk (List.mem_cons_of_mem _ (List.mem_cons_self ..))).cell 0⟩; clear h2))
  clear hs2 k1
  go_wp2_with fail
  refine (add_ok H2.out (ofM (cl C (base + 3 * i)))).mono ?_
  rintro e w3 ⟨rfl, h3⟩
  have H3 := Lib.hid h3
  clear h3 k2
  go_wp2
  go_end0
  refine ⟨rfl, ?_⟩
  have := H3.out
  rw [List.append_assoc] at this
  exact this
set_option maxHeartbeats 2000000 in
theorem split1_ok {rb kb bb base out n i : Nat} {many k : BitVec 64} (h : Wk w0 F w ((rb, 128, #[.pointer (some ⟨p, 0, none⟩), .int .u64 (n64 many), .int .i64 (base : Int), .int .i64 (n : Int), .int .i64 (out : Int)]) :: (kb, 33, #[.int .u64 (n64 k)]) :: (bb, 3, #[.int .i64 (base : Int)]) :: bs) p C E) (hi : i < 288) (hx : base + 3 * i < C.length) (hy : out + i < C.length) (he : E.length + 3 ≤ 8388608) :
    Calls Try.prog 68 #[.pointer (some ⟨rb, 0, none⟩), .int .i64 (i : Int), .pointer (some ⟨kb, 0, none⟩), .pointer (some ⟨bb, 0, none⟩)] w fun e w' => e = .returned (.tuple #[]) ∧ Wk w0 F w' ((rb, 128, #[.pointer (some ⟨p, 0, none⟩), .int .u64 (n64 (spF k base out (C, E, many) i).2.2), .int .i64 (base : Int), .int .i64 (n : Int), .int .i64 (out : Int)]) :: (kb, 33, #[.int .u64 (n64 k)]) :: (bb, 3, #[.int .i64 (base : Int)]) :: bs) p (spF k base out (C, E, many) i).1 (spF k base out (C, E, many) i).2.1 := by
  have hn2 := h.n2
  have H := Lib.hid h
  have HE := Lib.hid he
  have HS1 := Lib.hid (show IntKind.i64.wrap (3 * (i : Int)) = 3 * (i : Int) from IntWalk.i64_in _ (by omega))
  have HS2 := Lib.hid (show IntKind.i64.wrap ((base : Int) + 3 * (i : Int)) = (base : Int) + 3 * (i : Int) from IntWalk.i64_in _ (by omega))
  clear h he
  go_enter Try.func68, Try.ntmps68
  go_wp2_with fail
  refine (valid_ok H.out (List.mem_cons_self ..) hi hx (by have := HE.out; omega)).mono ?_
  rintro e w1 ⟨rfl, h1⟩
  have H1 := Lib.hid h1
  have k1 : w1.cell? ⟨rb, 0, none⟩ = some (.pointer (some ⟨p, 0, none⟩)) ∧ w1.cell? ⟨kb, 0, none⟩ = some (.int .u64 (n64 k)) ∧ w1.cell? ⟨bb, 0, none⟩ = some (.int .i64 (base : Int)) := ⟨(h1.blk (List.mem_cons_self ..)).cell 0, (h1.blk (List.mem_cons_of_mem _ (List.mem_cons_self ..))).cell 0, (h1.blk (List.mem_cons_of_mem _ (List.mem_cons_of_mem _ (List.mem_cons_self ..)))).cell 0⟩
  clear h1
  have HN := Lib.hid (fun (W : World) (o : Off Nob w1 W) => number_ok (H1.out.off o) (List.mem_cons_self ..) hi hy (by have := HE.out; simp; omega))
  go_wp2_with fail
  go_region_held3 (fun w' => w'.cell? ⟨rb, 0, none⟩ = some (.pointer (some ⟨p, 0, none⟩)) ∧ w'.cell? ⟨kb, 0, none⟩ = some (.int .u64 (n64 k)) ∧ w'.cell? ⟨bb, 0, none⟩ = some (.int .i64 (base : Int)))
    (first | with_reducible assumption | go_keep)
    (first
      | (go_at_call 70; refine (HN.out _ (by first | with_reducible exact Off.refl _ _ | with_reducible exact Off.drew (Off.refl _ _) | with_reducible exact Off.drewN (Off.refl _ _) _)).mono ?_; rintro e w2 ⟨rfl, h2⟩; have H2 := Lib.hid h2; have k2 : w2.cell? ⟨rb, 0, none⟩ = some (.pointer (some ⟨p, 0, none⟩)) ∧ w2.cell? ⟨kb, 0, none⟩ = some (.int .u64 (n64 k)) ∧ w2.cell? ⟨bb, 0, none⟩ = some (.int .i64 (base : Int)) := ⟨(h2.blk (List.mem_cons_self ..)).cell 0, (h2.blk (List.mem_cons_of_mem _ (List.mem_cons_self ..))).cell 0, (h2.blk (List.mem_cons_of_mem _ (List.mem_cons_of_mem _ (List.mem_cons_self ..)))).cell 0⟩; clear h2)
      | (go_at_call 69; refine (less_any _ _ _).mono ?_; rintro e w' ⟨rfl, rfl⟩))
  clear k1
  have HT := Lib.hid (fun (W : World) (o : Off Nob w2 W) => Wk.call (C2 := C.set (base + 3 * i) (spK k base out C i)) (E2 := E ++ [(1, base + 3 * i)] ++ [(1, out + i)] ++ [(2, base + 3 * i)]) (e0 := .returned (.int .i64 0)) (H2.out.off o) (fun w F ha => by
    have := store_ok ha ((base : Int) + 3 * (i : Int)) (spK k base out C i) (by omega) (by omega) (by have := HE.out; simp; omega)
    rw [show ((base : Int) + 3 * (i : Int)).toNat = base + 3 * i by omega] at this
    exact this))
  have hs1 := HS1.out
  have hs2 := HS2.out
  go_wp2_with fail
  go_region_held3 (fun w' => w'.cell? ⟨rb, 0, none⟩ = some (.pointer (some ⟨p, 0, none⟩)) ∧ w'.cell? ⟨kb, 0, none⟩ = some (.int .u64 (n64 k)) ∧ w'.cell? ⟨bb, 0, none⟩ = some (.int .i64 (base : Int)))
    (first | with_reducible assumption | go_keep)
    (first
      | (go_at_call 10; refine (HT.out _ (by first | with_reducible exact Off.refl _ _ | with_reducible exact Off.drew (Off.refl _ _) | with_reducible exact Off.drewN (Off.refl _ _) _)).mono ?_; rintro e w3 ⟨rfl, h3⟩; have H3 := Lib.hid h3; have k3 : w3.cell? ⟨rb, 0, none⟩ = some (.pointer (some ⟨p, 0, none⟩)) ∧ w3.cell? ⟨kb, 0, none⟩ = some (.int .u64 (n64 k)) ∧ w3.cell? ⟨bb, 0, none⟩ = some (.int .i64 (base : Int)) := ⟨(h3.blk (List.mem_cons_self ..)).cell 0, (h3.blk (List.mem_cons_of_mem _ (List.mem_cons_self ..))).cell 0, (h3.blk (List.mem_cons_of_mem _ (List.mem_cons_of_mem _ (List.mem_cons_self ..)))).cell 0⟩; clear h3))
  clear hs1 hs2 k2
  go_wp2_with fail
  refine (add_ok H3.out (ofM (cl C (base + 3 * i)) &&& ~~~ spK k base out C i)).mono ?_
  rintro e w4 ⟨rfl, h4⟩
  have H4 := Lib.hid h4
  clear h4 k3
  go_wp2
  go_end0
  refine ⟨rfl, ?_⟩
  have := H4.out
  rw [List.append_assoc, List.append_assoc] at this
  exact this
theorem n64_nat (i : Nat) (h : i < 18446744073709551616) : (i : Int) = n64 (BitVec.ofNat 64 i) := by unfold n64; rw [BitVec.toNat_ofNat, Nat.mod_eq_of_lt h]
theorem bv_nat (i : Nat) : bv (i : Int) = BitVec.ofNat 64 i := by unfold bv; rw [BitVec.ofInt_natCast]
set_option maxHeartbeats 2000000 in
theorem dist1_ok {rb ob base out n i : Nat} {many : BitVec 64} (h : Wk w0 F w ((rb, 128, #[.pointer (some ⟨p, 0, none⟩), .int .u64 (n64 many), .int .i64 (base : Int), .int .i64 (n : Int), .int .i64 (out : Int)]) :: (ob, 3, #[.int .i64 (out : Int)]) :: bs) p C E) (hi : i < 288) (hx : base + 3 * i < C.length) (hy : out + i < C.length) (he : E.length + 3 ≤ 8388608) :
    Calls Try.prog 78 #[.pointer (some ⟨rb, 0, none⟩), .int .i64 (i : Int), .pointer (some ⟨ob, 0, none⟩)] w fun e w' => e = .returned (.tuple #[]) ∧ Wk w0 F w' ((rb, 128, #[.pointer (some ⟨p, 0, none⟩), .int .u64 (n64 (diF base out (C, E, many) i).2.2), .int .i64 (base : Int), .int .i64 (n : Int), .int .i64 (out : Int)]) :: (ob, 3, #[.int .i64 (out : Int)]) :: bs) p (diF base out (C, E, many) i).1 (diF base out (C, E, many) i).2.1 := by
  have hn2 := h.n2
  have H := Lib.hid h
  have HE := Lib.hid he
  have HS2 := Lib.hid (show IntKind.i64.wrap ((out : Int) + (i : Int)) = (out : Int) + (i : Int) from IntWalk.i64_in _ (by omega))
  clear h he
  go_enter Try.func78, Try.ntmps78
  go_wp2_with fail
  refine (valid_ok H.out (List.mem_cons_self ..) hi hx (by have := HE.out; omega)).mono ?_
  rintro e w1 ⟨rfl, h1⟩
  have H1 := Lib.hid h1
  have k1 : w1.cell? ⟨rb, 0, none⟩ = some (.pointer (some ⟨p, 0, none⟩)) ∧ w1.cell? ⟨ob, 0, none⟩ = some (.int .i64 (out : Int)) := ⟨(h1.blk (List.mem_cons_self ..)).cell 0, (h1.blk (List.mem_cons_of_mem _ (List.mem_cons_self ..))).cell 0⟩
  clear h1
  have HN := Lib.hid (fun (W : World) (o : Off Nob w1 W) => number_ok (H1.out.off o) (List.mem_cons_self ..) hi hy (by have := HE.out; simp; omega))
  have HT := Lib.hid (fun (w2 W : World) (H2 : Wk w0 F w2 ((rb, 128, #[.pointer (some ⟨p, 0, none⟩), .int .u64 (n64 many), .int .i64 (base : Int), .int .i64 (n : Int), .int .i64 (out : Int)]) :: (ob, 3, #[.int .i64 (out : Int)]) :: bs) p C (E ++ [(1, base + 3 * i)] ++ [(1, out + i)])) (o : Off Nob w2 W) => Wk.call (C2 := C.set (out + i) (ofM (cl C (base + 3 * i)) &&& (BitVec.ofNat 64 i - cl C (out + i)))) (E2 := E ++ [(1, base + 3 * i)] ++ [(1, out + i)] ++ [(2, out + i)]) (e0 := .returned (.int .i64 0)) (H2.off o) (fun w F ha => by
    have := store_ok ha ((out : Int) + (i : Int)) (ofM (cl C (base + 3 * i)) &&& (BitVec.ofNat 64 i - cl C (out + i))) (by omega) (by omega) (by have := HE.out; simp; omega)
    rw [show ((out : Int) + (i : Int)).toNat = out + i by omega] at this
    exact this))
  have hs2 := HS2.out
  have hbn := bv_nat i
  go_wp2_with fail
  go_region_held3 (fun w' => w'.cell? ⟨rb, 0, none⟩ = some (.pointer (some ⟨p, 0, none⟩)) ∧ w'.cell? ⟨ob, 0, none⟩ = some (.int .i64 (out : Int)))
    (first | with_reducible assumption | go_keep)
    (first
      | (go_at_call 70; refine (HN.out _ (by first | with_reducible exact Off.refl _ _ | with_reducible exact Off.drew (Off.refl _ _) | with_reducible exact Off.drewN (Off.refl _ _) _)).mono ?_; rintro e w2 ⟨rfl, h2⟩; have H2 := Lib.hid h2; have k2 : w2.cell? ⟨rb, 0, none⟩ = some (.pointer (some ⟨p, 0, none⟩)) ∧ w2.cell? ⟨ob, 0, none⟩ = some (.int .i64 (out : Int)) := ⟨(h2.blk (List.mem_cons_self ..)).cell 0, (h2.blk (List.mem_cons_of_mem _ (List.mem_cons_self ..))).cell 0⟩; clear h2)
      | (go_at_call 10; refine (HT.out w2 _ H2.out (by first | with_reducible exact Off.refl _ _ | with_reducible exact Off.drew (Off.refl _ _) | with_reducible exact Off.drewN (Off.refl _ _) _)).mono ?_; rintro e w3 ⟨rfl, h3⟩; have H3 := Lib.hid h3; have k3 : w3.cell? ⟨rb, 0, none⟩ = some (.pointer (some ⟨p, 0, none⟩)) ∧ w3.cell? ⟨ob, 0, none⟩ = some (.int .i64 (out : Int)) := ⟨(h3.blk (List.mem_cons_self ..)).cell 0, (h3.blk (List.mem_cons_of_mem _ (List.mem_cons_self ..))).cell 0⟩; clear h3))
  clear hs2 k1 k2
  go_wp2
  go_end0
  refine ⟨rfl, ?_⟩
  have := H3.out
  rw [List.append_assoc, List.append_assoc] at this
  exact this
end

end Go.Proofs.Ytedbafgejladiaa

