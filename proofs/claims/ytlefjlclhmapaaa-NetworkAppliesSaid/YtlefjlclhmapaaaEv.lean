/-
  The steps of an arena as a slice: from, Since, Events; and dragnetlaw07.SameEvents.
-/
import Derived.Test.YtlefjlclhmapaaaStep
import Derived.Test.YtlefjlclhmapaaaRef
import Derived.Test.YtlefjlclhmapaaaCells
namespace Go.Proofs.Ytlefjlclhmapaaa
open Go.RowKit
set_option maxRecDepth 100000

/-- A new slice of steps. -/
def NewE (w : World) (E : List Ev) (e : Ending) (w' : World) : Prop := ∃ v, e = .returned v ∧ w'.ownsRow w.heap.size 103 2 v E.length (evs E) ∧ Off Nob w w'
def NewE2 (w : World) (E : List Ev) (e : Ending) (w' : World) : Prop := ∃ v, e = .returned (.tuple #[v, .int .i64 0]) ∧ w'.ownsRow w.heap.size 103 2 v E.length (evs E) ∧ Off Nob w w'
theorem evs_one (E : List Ev) : ∀ u ∈ evs E, u.oneCell' = true := by
  intro u hu
  simp [evs] at hu
  obtain ⟨a, b, _, h | h⟩ := hu <;> subst h <;> rfl
theorem and3_u32 (k x : Nat) (hk : k < 4) (hx : x < 65536) : bits .and .u32 ((x * 4 + k : Nat) : Int) 3 = k := by
  have e1 : ((BitVec.ofInt 32 ((x * 4 + k : Nat) : Int)) &&& (BitVec.ofInt 32 (3 : Int))).toNat = k := by
    rw [BitVec.ofInt_natCast, BitVec.toNat_and, BitVec.toNat_ofNat, Nat.mod_eq_of_lt (by omega)]
    show (x * 4 + k) &&& (2 ^ 2 - 1) = k
    rw [Nat.and_two_pow_sub_one_eq_mod]
    omega
  show IntKind.u32.wrap ((BitVec.ofInt 32 ((x * 4 + k : Nat) : Int) &&& BitVec.ofInt 32 (3 : Int)).toNat : Int) = _
  rw [e1]
  unfold IntKind.wrap
  simp [IntKind.bits]
  omega
/-- Steps as an arena keeps them. -/
def EvOk (E : List Ev) : Prop := ∀ e ∈ E, e.1 < 4 ∧ e.2 < 65536
def evAt (E : List Ev) (i : Nat) : Ev := E.getD i (0, 0)
theorem EvOk.at_ {E : List Ev} (h : EvOk E) (i : Nat) : (evAt E i).1 < 4 ∧ (evAt E i).2 < 65536 := by
  unfold evAt
  rcases Nat.lt_or_ge i E.length with hi | hi
  · simp [List.getD, hi]; exact h _ (List.getElem_mem hi)
  · simp [List.getD, List.getElem?_eq_none hi]
theorem drop_take_succ (E : List Ev) (s i : Nat) (hs : s ≤ i) (hi : i < E.length) : (E.take (i + 1)).drop s = (E.take i).drop s ++ [evAt E i] := by
  rw [List.take_succ_eq_append_getElem hi, List.drop_append_of_le_length (by simp; omega)]
  simp [evAt, List.getD, hi]

section
variable {w : World} {F : Nat → Prop} {p : Nat} {C : List (BitVec 64)} {E : List Ev}
/-- The cell of a step. -/
theorem ArAt.evCell {cb : Nat} {pv : Value} {ps : List Nat} {rg : Value} (h : ArAt w F p C E cb pv ps rg) (hl : ps.length = (E.length + 4095) / 4096) (i : Nat) (hi : i < E.length) :
    ∃ g cap, pv = .slice (some ⟨g, 0, none⟩) ps.length cap ∧ i / 4096 < ps.length ∧ w.cell? ⟨g, i / 4096, none⟩ = some (.pointer (some ⟨ps.getD (i / 4096) 0, 0, none⟩)) ∧
      w.cell? ⟨ps.getD (i / 4096) 0, i % 4096, none⟩ = some (.int .u32 (((evAt E i).2 * 4 + (evAt E i).1 : Nat) : Int)) := by
  obtain ⟨g, cap, cur, hv, _, _, hcg⟩ := h.form (by omega)
  have hlt : i / 4096 < ps.length := by omega
  refine ⟨g, cap, hv, hlt, hcg _ hlt, ?_⟩
  rw [(h.pg _ hlt).cell, List.getElem?_toArray, get_pageOf _ _ _ (Nat.mod_lt _ (by decide))]
  have : 4096 * (i / 4096) + i % 4096 = i := Nat.div_add_mod i 4096
  rw [this]
  rfl

theorem Ar.evs_ok (h : Ar w F p C E) (i : Nat) : (evAt E i).1 < 4 ∧ (evAt E i).2 < 65536 := by
  obtain ⟨cb, pv, ps, rg, _, h⟩ := h
  exact EvOk.at_ h.ev i
set_option maxHeartbeats 1000000 in
theorem from_ok (h : Ar w F p C E) (s : Nat) (hs : s ≤ E.length) :
    Calls Try.prog 70 #[.pointer (some ⟨p, 0, none⟩), .int .i64 s] w (NewE w (E.drop s)) := by
  obtain ⟨i0, hi, hz0, hz1, hz2⟩ := info_parts Try.infoEv
  have h2 := h.e2
  have H := Lib.hid h
  have c1 : w.cell? ⟨p, 1, none⟩ = some (.int .i64 (E.length : Int)) := by
    obtain ⟨cb, pv, ps, rg, _, h⟩ := h
    exact h.top.cell 1
  clear h
  go_enter Try.func70, Try.ntmps70
  go_wp2_with (at_make; refine wpList_make_own _ rfl _ _ 71 rfl w.heap.size 103 i0 (.agg #[.int .i32 0, .int .i32 0]) 2 Try.underlying71 hi hz0 hz1 .i64 .i64 _ (E.length - s) rfl rfl (by omega) (by rw [hz2]; omega) (by unfold maxLen; omega) (Nat.le_refl _) ?_; intro w0 hown0 hgrow0)
  have HO0 : Hid (w0.ownsRow w.heap.size 103 2 (.slice (some ⟨w.heap.size, 0, none⟩) 0 (E.length - s)) (s - s) (evs ((E.take s).drop s))) := by
    rw [Nat.sub_self, List.drop_of_length_le (by simp; omega)]
    exact hown0
  have HF0 : Hid (Off Nob w w0) := Off.grown (Off.refl _ _) hgrow0 (fun k hk => by cases hk)
  clear hown0 hgrow0
  go_wp2_with fail
  go_loopw [5, 6] (fun v i wr => ∃ k : Nat, s ≤ k ∧ k ≤ E.length ∧ i = .int .i64 k ∧ wr.ownsRow w.heap.size 103 2 v (k - s) (evs ((E.take k).drop s)) ∧ Off Nob w wr) (fun _ i _ => E.length - (intOf i).toNat)
  case atStart => exact ⟨s, Nat.le_refl _, hs, rfl, HO0.out, HF0.out⟩
  case round =>
    obtain ⟨k, hsk, hk, rfl, hown, hoff⟩ := hrel
    have HW := Lib.hid hown
    have HF := Lib.hid hoff
    obtain ⟨cb, pv, ps, rg, hpl, hat⟩ := H.out.keep hoff (fun _ _ h => h)
    have c1' := hat.top.cell 1
    simp only [List.getElem?_toArray, List.getElem?_cons_succ, List.getElem?_cons_zero] at c1'
    clear c1 hown hoff HO0 HF0
    by_cases hlt : k < E.length
    · obtain ⟨g, cap, rfl, hlt2, hcg, hcp⟩ := hat.evCell hpl k hlt
      have c0' := hat.top.cell 0
      simp only [List.getElem?_toArray, List.getElem?_cons_zero] at c0'
      obtain ⟨b1, b2⟩ := EvOk.at_ hat.ev k
      have hand := and3_u32 (evAt E k).1 (evAt E k).2 b1 b2
      have hshr : (((evAt E k).2 * 4 + (evAt E k).1 : Nat) : Int) / 4 = ((evAt E k).2 : Int) := by omega
      have hq : (evAt E k).2 * 4 + (evAt E k).1 < 262144 := by omega
      have hform : ∃ Av cv, u5 = .slice Av (k - s) cv := by
        rcases HW.out.2 with ⟨rfl, h0⟩ | ⟨g, cap, cur, rfl, _⟩
        · exact ⟨none, 0, by rw [h0]⟩
        · exact ⟨_, _, rfl⟩
      obtain ⟨Av, cv, rfl⟩ := hform
      have HX := Lib.hid (show evs ((E.take k).drop s) ++ [.int .i32 ((evAt E k).1 : Int), .int .i32 ((evAt E k).2 : Int)] = evs ((E.take (k + 1)).drop s) from by rw [drop_take_succ _ _ _ hsk hlt, evs_push])
      clear hat hpl
      revert hcg hand hshr hq hcp HX b1 b2
      generalize ps.getD (k / 4096) 0 = pb
      generalize (evAt E k).2 * 4 + (evAt E k).1 = q
      generalize (evAt E k).2 = x0
      generalize (evAt E k).1 = k0
      intro hcg hcp b1 b2 hand hshr hq HX
      go_wp2_with (at_builtin; refine wpList_append_own_at _ rfl _ _ 71 rfl w.heap.size 103 i0 (.agg #[.int .i32 0, .int .i32 0]) 2 8 Try.underlying71 hi hz0 hz1 hz2 rfl (by decide) (.slice Av (k - s) cv) (k - s) (evs ((E.take k).drop s)) rfl (HW.out.alloc _) ⟨wr.heap.size, 0, none⟩ 1 1 [.int .i32 (k0 : Int), .int .i32 (x0 : Int)] rfl rfl ?c1 ?c2 ?c3 ?c4 ?c5 ?_)
      case c1 => exact cell_two_new' _ _ _ _
      case c2 => intro u hu; simp at hu; rcases hu with rfl | rfl <;> rfl
      case c3 => unfold maxLen; omega
      case c4 => omega
      case c5 => have := HF.out.size; simp; omega
      intro v' w1 hown' hgrow hnil hat2
      have HN : Hid (w1.ownsRow w.heap.size 103 2 v' (k + 1 - s) (evs ((E.take (k + 1)).drop s))) := by
        rw [← HX.out, show k + 1 - s = k - s + 1 by omega]
        exact hown'
      have HG : Hid (Off Nob w w1) := Off.grown (Off.alloc HF.out _) hgrow (fun j hj => .inr (HW.out.lt j hj).1)
      clear hown' hgrow hnil hat2 hand hshr
      go_wp2_with fail
      go_roundw
      case rel => exact ⟨k + 1, by omega, by omega, by go_num, HN.out, HG.out⟩
      case measure => simp [intOf]; omega
    · clear hat hpl
      obtain rfl : k = E.length := by omega
      have HZ : Hid (wr.ownsRow w.heap.size 103 2 u5 (E.drop s).length (evs (E.drop s))) := by
        have := HW.out
        rwa [List.take_length, ← List.length_drop] at this
      go_wp2_with fail
      go_ret
      exact ⟨_, rfl, HZ.out, HF.out⟩
end
end Go.Proofs.Ytlefjlclhmapaaa
