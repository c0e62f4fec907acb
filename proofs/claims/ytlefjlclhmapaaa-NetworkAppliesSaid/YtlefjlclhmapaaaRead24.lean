/-
  dragnetref22.Row and Read.
-/
import Derived.Test.YtlefjlclhmapaaaSlPure
import Derived.Test.YtlefjlclhmapaaaNetRoute
import Derived.Test.YtlefjlclhmapaaaWkR
namespace Go.Proofs.Ytlefjlclhmapaaa
open Go.RowKit
set_option linter.unusedVariables false
set_option linter.unusedSimpArgs false
set_option maxRecDepth 100000
theorem cell_threeR (w : World) (x y z : Value) (t : TypeId) : ∀ j u, [x, y, z][j]? = some u → (w.alloc (.cells #[x, y, z] t)).cell? ((⟨w.heap.size, 0, none⟩ : Addr).add j) = some u := by
  intro j u hu
  rw [add_addr, Nat.zero_add, World.cell?_alloc_new]
  simpa using hu
section
variable {w : World} {F : Nat → Prop} {r : Nat} {C : List (BitVec 64)} {E : List Ev}
theorem rrow_bad (v : Value) (base n : Int) (hn : n < 1 ∨ 288 < n) (w : World) :
    Calls Try.prog 52 #[v, .int .i64 base, .int .i64 n, .int .i64 3] w fun e w' => e = .returned (.int .i64 7) ∧ w = w' := by
  have t : decide (n < 1) = true ∨ (decide (n < 1) = false ∧ decide (288 < n) = true) := by
    by_cases q : n < 1
    · exact .inl (decide_eq_true q)
    · exact .inr ⟨decide_eq_false q, decide_eq_true (by omega)⟩
  clear hn
  rcases t with t1 | ⟨t1, t2⟩
  all_goals
    go_enter Try.func52, Try.ntmps52
    go_wp2_with fail
    go_ret
    exact ⟨rfl, rfl⟩
theorem rrow_nil (base n : Int) (h1 : 1 ≤ n) (h2 : n ≤ 288) (w : World) :
    Calls Try.prog 52 #[.pointer none, .int .i64 base, .int .i64 n, .int .i64 3] w fun e w' => e = .returned (.int .i64 1) ∧ w = w' := by
  have d1 : decide (n < 1) = false := decide_eq_false (by omega)
  have d2 : decide (288 < n) = false := decide_eq_false (by omega)
  go_enter Try.func52, Try.ntmps52
  go_wp2_with fail
  refine (rhas_nil _ _ _).mono ?_
  rintro e w' ⟨rfl, rfl⟩
  go_wp2_with fail
  go_ret
  exact ⟨rfl, rfl⟩
theorem rrow_any (h : Rf w F r C E) (base n : Int) :
    Calls Try.prog 52 #[.pointer (some ⟨r, 0, none⟩), .int .i64 base, .int .i64 n, .int .i64 3] w fun e w' => e = .returned (.int .i64 (ckS C.length E.length base n)) ∧ w = w' := by
  by_cases hn : n < 1 ∨ 288 < n
  · have := rrow_bad (.pointer (some ⟨r, 0, none⟩)) base n hn w
    rwa [show ckS C.length E.length base n = 7 by unfold ckS; rw [if_pos hn]]
  · have d1 : decide (n < 1) = false := decide_eq_false (by omega)
    have d2 : decide (288 < n) = false := decide_eq_false (by omega)
    have g1 : 1 ≤ n := by omega
    have g2 : n ≤ 288 := by omega
    have HH := Lib.hid (rhas_any h base (3 * n))
    have HR := Lib.hid (rroom_any h (3 * n))
    have HC : Hid (ckS C.length E.length base n = if hasE C.length base (3 * n) = 0 then roomE E.length (3 * n) else hasE C.length base (3 * n)) := Lib.hid (by unfold ckS; rw [if_neg hn])
    obtain ⟨c1, hc1⟩ : ∃ c, hasE C.length base (3 * n) = c := ⟨_, rfl⟩
    obtain ⟨c2, hc2⟩ : ∃ c, roomE E.length (3 * n) = c := ⟨_, rfl⟩
    rw [hc1] at HH HC
    rw [hc2] at HR HC
    clear hc1 hc2 hn h
    by_cases hz : c1 = 0
    · subst hz
      rw [HC.out, if_pos rfl]
      go_enter Try.func52, Try.ntmps52
      go_wp2_with fail
      refine HH.out.mono ?_
      rintro e w' ⟨rfl, rfl⟩
      go_wp2_with fail
      refine HR.out.mono ?_
      rintro e w' ⟨rfl, rfl⟩
      go_wp2_with fail
      go_ret
      exact ⟨rfl, rfl⟩
    · rw [HC.out, if_neg hz]
      have hz2 : (c1 == 0) = false := by simpa using hz
      have hz3 : (c1 != 0) = true := by simpa using hz
      clear hz
      go_enter Try.func52, Try.ntmps52
      go_wp2_with fail
      refine HH.out.mono ?_
      rintro e w' ⟨rfl, rfl⟩
      go_wp2_with fail
      go_ret
      exact ⟨rfl, rfl⟩
def RdI (w : World) (F : Nat → Prop) (r : Nat) (C : List (BitVec 64)) (E : List Ev) (base j : Nat) (v : Value) (W : World) : Prop :=
  ∃ F1, Rf W F1 r C (rdE base E j) ∧ (∀ k, F1 k → F k ∨ w.heap.size ≤ k) ∧ Off F w W ∧ (∀ k, F k → k < w.heap.size) ∧ W.ownsRow w.heap.size 41 3 v j (slC (rdL base C j)) ∧ ∀ k, v.ownBlock = some k → ¬ F1 k
theorem RdI.form {w : World} {F : Nat → Prop} {r : Nat} {C : List (BitVec 64)} {E : List Ev} {base j : Nat} {v : Value} {W : World} (h : RdI w F r C E base j v W) : ∃ A c, v = .slice A j c := by
  obtain ⟨F1, hr, hf, ho, hl, hown, hap⟩ := h
  rcases hown.2 with ⟨rfl, h0⟩ | ⟨g, cap, cur, rfl, _⟩
  · have e0 : j = 0 := by have := hown.1; rw [h0] at this; simp at this; omega
    exact ⟨none, 0, by rw [e0]⟩
  · exact ⟨_, cap, rfl⟩
set_option maxHeartbeats 4000000 in
theorem rread_ok (h : Rf w F r C E) (base n : Nat) (hz : ckS C.length E.length base n = 0) :
    Calls Try.prog 27 #[.pointer (some ⟨r, 0, none⟩), .int .i64 (base : Int), .int .i64 (n : Int)] w fun e w' => ∃ v, e = .returned (.tuple #[v, .int .i64 0]) ∧ RdI w F r C E base n v w' := by
  obtain ⟨g1, g2, g3, g4, g5⟩ := ckS_zero hz
  have hn2 := h.n2
  obtain ⟨is0, his, hsz0, hsz1, hsz2⟩ := info_parts Try.infoSl
  have HCK := Lib.hid (rrow_any h (base : Int) (n : Int))
  rw [hz] at HCK
  have HW : Hid (RdI w F r C E base 0 (.slice none 0 0) w) := Lib.hid ⟨F, h, fun k hk => .inl hk, Off.refl _ _, h.lt, World.ownsRow_nil _ _ _ _, fun k hk => by simp [Value.ownBlock] at hk⟩
  clear h hz
  go_enter Try.func27, Try.ntmps27
  go_wp2_with fail
  refine HCK.out.mono ?_
  rintro e w' ⟨rfl, rfl⟩
  go_wp2_with fail
  clear HCK
  go_loopw [9, 10] (fun v i wr => ∃ j : Nat, j ≤ n ∧ i = .int .i64 (j : Int) ∧ RdI w F r C E base j v wr) (fun _ i _ => n - (intOf i).toNat)
  case atStart => exact ⟨0, Nat.zero_le _, rfl, HW.out⟩
  case round =>
    obtain ⟨j, hj, rfl, hrel⟩ := hrel
    by_cases hlt : j < n
    rotate_left
    · obtain rfl : j = n := by omega
      have HR := Lib.hid hrel
      clear hrel HW
      go_wp2_with fail
      go_ret2
      exact ⟨_, rfl, HR.out⟩
    obtain ⟨A, cap, rfl⟩ := RdI.form hrel
    obtain ⟨F1, hr, hf, ho, hl, hown, hap⟩ := hrel
    have H0 := Lib.hid (WkR.start hr)
    have HF := Lib.hid (And.intro hf (And.intro ho (And.intro hl (And.intro hown (And.intro hap hr.lt)))))
    have l2 := rdE_len base E j
    have HN : Hid (rdE base E (j + 1) = ((rdE base E j ++ [(1, base + 3 * j)]) ++ [(1, base + 3 * j + 1)]) ++ [(1, base + 3 * j + 2)]) := Lib.hid rfl
    have HNL := Lib.hid (rdL_succ base C j)
    obtain ⟨E1, hE1⟩ : ∃ s, rdE base E j = s := ⟨_, rfl⟩
    rw [hE1] at H0 HN l2
    obtain ⟨x0, hx0⟩ : ∃ x, cl C (base + 3 * j) = x := ⟨_, rfl⟩
    obtain ⟨x1, hx1⟩ : ∃ x, cl C (base + 3 * j + 1) = x := ⟨_, rfl⟩
    obtain ⟨x2, hx2⟩ : ∃ x, cl C (base + 3 * j + 2) = x := ⟨_, rfl⟩
    have HX := Lib.hid (And.intro hx0 (And.intro hx1 hx2))
    clear hE1 hx0 hx1 hx2 hr hf ho hl hown hap HW
    go_wp2_with fail
    refine (H0.out.call (fun w F ha => by have := rload_ok ha ((base : Int) + 3 * (j : Int)) (by omega) (by omega) (by rw [l2]; omega); rw [show ((base : Int) + 3 * (j : Int)).toNat = base + 3 * j by omega, HX.out.1] at this; exact this)).mono ?_
    rintro e w1 ⟨rfl, h1⟩
    have H1 := Lib.hid h1
    clear h1 H0
    go_wp2_with fail
    refine (H1.out.call (fun w F ha => by have := rload_ok ha ((base : Int) + 3 * (j : Int) + 1) (by omega) (by omega) (by simp [l2]; omega); rw [show ((base : Int) + 3 * (j : Int) + 1).toNat = base + 3 * j + 1 by omega, HX.out.2.1] at this; exact this)).mono ?_
    rintro e w2 ⟨rfl, h2⟩
    have H2 := Lib.hid h2
    clear h2 H1
    go_wp2_with fail
    refine (H2.out.call (fun w F ha => by have := rload_ok ha ((base : Int) + 3 * (j : Int) + 2) (by omega) (by omega) (by simp [l2]; omega); rw [show ((base : Int) + 3 * (j : Int) + 2).toNat = base + 3 * j + 2 by omega, HX.out.2.2] at this; exact this)).mono ?_
    rintro e w3 ⟨rfl, h3⟩
    have H3 := Lib.hid h3
    clear h3 H2
    have hown3 := Lib.hid (own_to HF.out.2.2.2.1 (fun g hg => H3.out.done.2.block g (HF.out.2.2.2.1.lt g hg).2 (HF.out.2.2.2.2.1 g hg)))
    go_wp2_with (at_builtin; refine wpList_append_own_at _ rfl _ _ 33 rfl w.heap.size 41 is0 (.agg #[.int .u64 0, .int .u64 0, .int .u64 0]) 3 24 Try.underlying33 his hsz0 hsz1 hsz2 rfl (by decide) (.slice A j cap) j (slC (rdL base C j)) rfl (hown3.out.alloc _) ⟨w3.heap.size, 0, none⟩ 1 1 [.int .u64 (n64 x0), .int .u64 (n64 x1), .int .u64 (n64 x2)] rfl rfl ?c1 ?c2 ?c3 ?c4 ?c5 ?_)
    case c1 => exact cell_threeR _ _ _ _ _
    case c2 => intro u hu; simp at hu; rcases hu with rfl | rfl | rfl <;> rfl
    case c3 => unfold maxLen; omega
    case c4 => omega
    case c5 => have := H3.out.done.2.size; have := HF.out.2.1.size; simp; omega
    intro v' w4 hown' hgrow hnil hat
    have HR4 : Hid (RdI w F r C E base (j + 1) v' w4) := Lib.hid (by
      obtain ⟨F1', a1, a2⟩ := H3.out
      obtain ⟨k1, k2⟩ := H3.out.done
      have hsz3 := k2.size
      have hap3 : ∀ k, (Value.slice A j cap).ownBlock = some k → ¬ Grow F1 wr w3 k := fun k hk hn => by
        rcases hn with hn | hn
        · exact HF.out.2.2.2.2.1 k hk hn
        · have := (HF.out.2.2.2.1.lt k hk).2; omega
      have oG : Off (fun k => (Value.slice A j cap).ownBlock = some k) w3 w4 := Off.grown (Off.alloc (Off.refl _ _) _) hgrow (fun k hk => .inl hk)
      refine ⟨Grow F1 wr w3, by rw [HN.out]; exact k1.keep oG (fun k hk hn => hap3 k hn hk), fun k hk => ?_, ?_, HF.out.2.2.1, ?_, fun k hk => ?_⟩
      · rcases hk with hk | hk
        · exact HF.out.1 k hk
        · exact .inr (Nat.le_trans HF.out.2.1.size hk.1)
      · have o2 : Off F w w3 := ⟨k2.os.trans HF.out.2.1.os, k2.tape.trans HF.out.2.1.tape, k2.output.trans HF.out.2.1.output, Nat.le_trans HF.out.2.1.size k2.size, fun k hk hn => (k2.block k (Nat.lt_of_lt_of_le hk HF.out.2.1.size) (fun hf1 => by rcases HF.out.1 k hf1 with h | h; exact hn h; omega)).trans (HF.out.2.1.block k hk hn)⟩
        exact (o2.alloc _).grown hgrow (fun k hk => .inr (HF.out.2.2.2.1.lt k hk).1)
      · rw [HNL.out, slC_snoc]
        unfold rdV
        rw [HX.out.1, HX.out.2.1, HX.out.2.2]
        exact hown'
      · rcases hat with e | e
        · exact hap3 k (e ▸ hk)
        · rw [e] at hk
          injection hk with hk
          subst hk
          intro hn
          rcases hn with hn | hn
          · have := HF.out.2.2.2.2.2 _ hn; omega
          · have := hn.2; omega)
    clear hown' hgrow hnil hat
    go_wp2_with fail
    go_roundw
    case rel => exact ⟨j + 1, by omega, by go_num, HR4.out⟩
    case measure => simp [intOf]; omega
end
end Go.Proofs.Ytlefjlclhmapaaa
