/-
  dragnetref23.Of: ranks and distances.
-/
import Derived.Test.YtlefjlclhmapaaaOpen
import Derived.Test.YtlefjlclhmapaaaNetAp
import Derived.Test.YtlefjlclhmapaaaPair
import Derived.Maps.AppendAt
namespace Go.Proofs.Ytlefjlclhmapaaa
open Go.RowKit
attribute [local go_sem] bits_and_u64 bits_or_u64 bits_xor_u64 bits_andNot_u64 wrap_u64 bv_add bv_neg bv_sub bv_mul
set_option linter.unusedVariables false
set_option maxRecDepth 100000
/-- Integers as values. -/
def intsV (l : List Int) : List Value := l.map (Value.int .i64)
theorem length_intsV (l : List Int) : (intsV l).length = l.length := by simp [intsV]
theorem intsV_push (l : List Int) (x : Int) : intsV (l ++ [x]) = intsV l ++ [.int .i64 x] := by simp [intsV]
def iat (l : List Int) (k : Nat) : Int := l.getD k 0
theorem getElem_intsV (l : List Int) (k : Nat) (h : k < l.length) : (intsV l)[k]? = some (.int .i64 (iat l k)) := by simp [intsV, iat, h]
/-- Two lists of integers, of the call's own, that grow. -/
def TwoRows (w0 : World) (v1 v2 : Value) (A B : List Int) (w : World) : Prop :=
  w.ownsRow w0.heap.size 3 1 v1 A.length (intsV A) ∧ w.ownsRow w0.heap.size 3 1 v2 B.length (intsV B) ∧ (∀ g, v1.ownBlock = some g → v2.ownBlock ≠ some g) ∧ Off Nob w0 w
theorem TwoRows.swap {w0 w : World} {v1 v2 : Value} {A B : List Int} (h : TwoRows w0 v1 v2 A B w) : TwoRows w0 v2 v1 B A w := ⟨h.2.1, h.1, fun g h1 h2 => h.2.2.1 g h2 h1, h.2.2.2⟩
theorem TwoRows.grow {w0 w w1 : World} {v1 v2 v' : Value} {A B : List Int} {x : Int} {o : Obj} (h : TwoRows w0 v1 v2 A B w) (hown : w1.ownsRow w0.heap.size 3 1 v' (A.length + 1) (intsV A ++ [.int .i64 x])) (hg : (w.alloc o).grownBy w1 v1.ownBlock) (hat : v'.ownBlock = v1.ownBlock ∨ v'.ownBlock = some (w.heap.size + 1)) : TwoRows w0 v' v2 (A ++ [x]) B w1 := by
  obtain ⟨h1, h2, h3, h4⟩ := h
  refine ⟨by rw [intsV_push, List.length_append]; exact hown, (h2.alloc o).kept hg ?_, fun g hg1 hg2 => ?_, Off.grown (Off.alloc h4 o) hg (fun k hk => .inr (h1.lt k hk).1)⟩
  · cases hv : v2.ownBlock with
    | none => exact .inl rfl
    | some g => exact .inr (fun e => h3 g e.symm hv)
  · rcases hat with e | e
    · exact h3 g (e ▸ hg1) hg2
    · rw [e] at hg1
      injection hg1 with hg1
      have := (h2.lt g hg2).2
      omega
theorem TwoRows.start (w : World) : TwoRows w (.slice none 0 0) (.slice none 0 0) [] [] w := ⟨World.ownsRow_nil _ _ _ _, World.ownsRow_nil _ _ _ _, (fun g h => (by cases h)), Off.refl _ _⟩
theorem TwoRows.off {w0 w : World} {v1 v2 : Value} {A B : List Int} (h : TwoRows w0 v1 v2 A B w) : Off Nob w0 w := h.2.2.2
/-- How many of the first k are set; ranks and distances of the first k. -/
def rk (l : List Bool) (k : Nat) : Nat := ((l.take k).filter id).length
def ranksL (l : List Bool) (k : Nat) : List Int := (List.range k).map fun i => (rk l i : Int)
def distL (l : List Bool) (k : Nat) : List Int := (List.range k).map fun i => if l.getD i false = true then (i : Int) - (rk l i : Int) else 0
theorem rk_zero (l : List Bool) : rk l 0 = 0 := by simp [rk]
theorem rk_le (l : List Bool) (k : Nat) : rk l k ≤ k := by
  unfold rk
  have := List.length_filter_le id (l.take k)
  have := List.length_take_le k l
  omega
theorem rk_succ (l : List Bool) (k : Nat) (h : k < l.length) : rk l (k + 1) = rk l k + (if l.getD k false = true then 1 else 0) := by
  unfold rk
  rw [List.take_succ_eq_append_getElem h, List.filter_append, List.length_append]
  congr 1
  simp only [List.getD, List.getElem?_eq_getElem h, Option.getD_some]
  cases l[k] <;> rfl
theorem ranksL_succ (l : List Bool) (k : Nat) : ranksL l (k + 1) = ranksL l k ++ [(rk l k : Int)] := by simp [ranksL, List.range_succ]
theorem distL_succ (l : List Bool) (k : Nat) : distL l (k + 1) = distL l k ++ [if l.getD k false = true then (k : Int) - (rk l k : Int) else 0] := by simp [distL, List.range_succ]
theorem length_ranksL (l : List Bool) (k : Nat) : (ranksL l k).length = k := by simp [ranksL]
theorem length_distL (l : List Bool) (k : Nat) : (distL l k).length = k := by simp [distL]
/-- What Of leaves. -/
def OfPost (w : World) (l : List Bool) (e : Ending) (w' : World) : Prop := ∃ v1 v2, e = .returned (.tuple #[v1, v2]) ∧ TwoRows w v1 v2 (ranksL l l.length) (distL l l.length) w'
set_option maxHeartbeats 4000000 in
theorem prof_some (w : World) (b o n c : Nat) (l : List Bool) (hl : l.length = n) (hn : n ≤ 100000) (hb : b < w.heap.size) (hc : ∀ j, j < n → w.cell? ⟨b, o + j, none⟩ = some (.bool (l.getD j false))) :
    Calls Try.prog 18 #[.slice (some ⟨b, o, none⟩) n c] w (OfPost w l) := by
  obtain ⟨i0, hi, hz0, hz1, hz2⟩ := info_parts Try.infoI
  have HL := Lib.hid hl
  have HC := Lib.hid hc
  clear hl hc
  go_enter Try.func18, Try.ntmps18
  go_wp2_with fail
  go_loopw [4, 5, 6, 7] (fun va vb m i wr => ∃ k : Nat, k ≤ n ∧ i = .int .i64 k ∧ m = .int .i64 (rk l k : Int) ∧ TwoRows w va vb (ranksL l k) (distL l k) wr) (fun _ _ _ i _ => n - (intOf i).toNat)
  case atStart => exact ⟨0, Nat.zero_le _, rfl, by rw [rk_zero]; rfl, TwoRows.start w⟩
  case round =>
    obtain ⟨k, hk, rfl, rfl, hrel⟩ := hrel
    have T0 := Lib.hid hrel
    have hrk := rk_le l k
    clear hrel
    by_cases hlt : k < n
    · have hcell : wr.cell? ⟨b, o + k, none⟩ = some (.bool (l.getD k false)) := (T0.out.off.cell_old hb _).trans (HC.out k hlt)
      have hkl : k < l.length := by have := HL.out; omega
      have HS := Lib.hid (rk_succ l k hkl)
      have HR := Lib.hid (ranksL_succ l k)
      have HD := Lib.hid (distL_succ l k)
      have LA := Lib.hid (length_ranksL l k)
      have LB := Lib.hid (length_distL l k)
      have HOC := Lib.hid (fun (w2 : World) (h : Off Nob w w2) => (h.cell_old hb (o + k)).trans (HC.out k hlt))
      cases hbt : l.getD k false <;> rw [hbt] at hcell HOC HS HD <;> clear hbt
      · go_wp2_with (at_builtin; refine wpList_append_own_at _ rfl _ _ 34 rfl w.heap.size 3 i0 (.int .i64 0) 1 8 Try.underlying34 hi hz0 hz1 hz2 rfl (by decide) u4 (ranksL l k).length (intsV (ranksL l k)) rfl ?c0 ⟨wr.heap.size, 0, none⟩ 1 1 [.int .i64 ((rk l k : Int))] rfl rfl (cell_one_new _ _ _) ?c2 ?c3 ?c4 ?c5 ?_)
        case c0 => exact T0.out.1.alloc _
        case c2 => first | rfl | (intro u hu; simp at hu; subst hu; rfl)
        case c3 => have := LA.out; unfold maxLen; omega
        case c4 => have := LA.out; omega
        case c5 => have := T0.out.off.size; simp; omega
        intro q1 wq1 hown hgrow hnil hat
        have T1 := Lib.hid ((T0.out.grow hown hgrow (by simpa using hat)))
        clear hown hgrow hnil hat T0
        have hcell2 := HOC.out wq1 T1.out.off
        go_wp2_with (at_builtin; refine wpList_append_own_at _ rfl _ _ 34 rfl w.heap.size 3 i0 (.int .i64 0) 1 8 Try.underlying34 hi hz0 hz1 hz2 rfl (by decide) u5 (distL l k).length (intsV (distL l k)) rfl ?c0 ⟨wq1.heap.size, 0, none⟩ 1 1 [.int .i64 (0)] rfl rfl (cell_one_new _ _ _) ?c2 ?c3 ?c4 ?c5 ?_)
        case c0 => exact T1.out.2.1.alloc _
        case c2 => first | rfl | (intro u hu; simp at hu; subst hu; rfl)
        case c3 => have := LB.out; unfold maxLen; omega
        case c4 => have := LB.out; omega
        case c5 => have := T1.out.off.size; simp; omega
        intro q2 wq2 hown hgrow hnil hat
        have T2 := Lib.hid ((T1.out.swap.grow hown hgrow (by simpa using hat)).swap)
        clear hown hgrow hnil hat T1
        have hcell3 := HOC.out wq2 T2.out.off
        clear hcell hcell2
        go_wp2_with fail
        go_roundw
        case rel => exact ⟨k + 1, by omega, by go_num, by rw [HS.out]; rfl, by rw [HR.out, HD.out]; exact T2.out⟩
        case measure => simp [intOf]; omega
      · go_wp2_with (at_builtin; refine wpList_append_own_at _ rfl _ _ 34 rfl w.heap.size 3 i0 (.int .i64 0) 1 8 Try.underlying34 hi hz0 hz1 hz2 rfl (by decide) u4 (ranksL l k).length (intsV (ranksL l k)) rfl ?c0 ⟨wr.heap.size, 0, none⟩ 1 1 [.int .i64 ((rk l k : Int))] rfl rfl (cell_one_new _ _ _) ?c2 ?c3 ?c4 ?c5 ?_)
        case c0 => exact T0.out.1.alloc _
        case c2 => first | rfl | (intro u hu; simp at hu; subst hu; rfl)
        case c3 => have := LA.out; unfold maxLen; omega
        case c4 => have := LA.out; omega
        case c5 => have := T0.out.off.size; simp; omega
        intro q1 wq1 hown hgrow hnil hat
        have T1 := Lib.hid ((T0.out.grow hown hgrow (by simpa using hat)))
        clear hown hgrow hnil hat T0
        have hcell2 := HOC.out wq1 T1.out.off
        go_wp2_with (at_builtin; refine wpList_append_own_at _ rfl _ _ 34 rfl w.heap.size 3 i0 (.int .i64 0) 1 8 Try.underlying34 hi hz0 hz1 hz2 rfl (by decide) u5 (distL l k).length (intsV (distL l k)) rfl ?c0 ⟨wq1.heap.size, 0, none⟩ 1 1 [.int .i64 ((k : Int) - (rk l k : Int))] rfl rfl (cell_one_new _ _ _) ?c2 ?c3 ?c4 ?c5 ?_)
        case c0 => exact T1.out.2.1.alloc _
        case c2 => first | rfl | (intro u hu; simp at hu; subst hu; rfl)
        case c3 => have := LB.out; unfold maxLen; omega
        case c4 => have := LB.out; omega
        case c5 => have := T1.out.off.size; simp; omega
        intro q2 wq2 hown hgrow hnil hat
        have T2 := Lib.hid ((T1.out.swap.grow hown hgrow (by simpa using hat)).swap)
        clear hown hgrow hnil hat T1
        have hcell3 := HOC.out wq2 T2.out.off
        clear hcell hcell2
        go_wp2_with fail
        go_roundw
        case rel => exact ⟨k + 1, by omega, by go_num, by rw [HS.out]; go_num, by rw [HR.out, HD.out]; exact T2.out⟩
        case measure => simp [intOf]; omega
    · obtain rfl : n = k := by omega
      go_wp2_with fail
      go_ret2
      exact ⟨_, _, rfl, by rw [HL.out]; exact T0.out⟩
theorem prof_none (w : World) (A : Option Addr) (c : Nat) : Calls Try.prog 18 #[.slice A 0 c] w (OfPost w []) := by
  go_enter Try.func18, Try.ntmps18
  go_wp2_with fail
  refine wp_loop_rounds 1 ?_
  rw [rounds_succ]
  go_wp2_with fail
  go_ret2
  exact ⟨_, _, rfl, TwoRows.start w⟩
theorem prof_any {w : World} {G : Nat → Prop} {v : Value} {n : Nat} {l : List Bool} (h : Rd w G 1 v n (boolsV l)) (hn : n ≤ 100000) : Calls Try.prog 18 #[v] w (OfPost w l) := by
  have hl : l.length = n := by obtain ⟨_, _, _, _, hl, _⟩ := h; rw [boolsV, List.length_map] at hl; omega
  obtain ⟨A, c, rfl, hm, hc⟩ := h.form
  rcases Nat.eq_zero_or_pos n with h0 | h0
  · subst h0
    have : l = [] := List.eq_nil_of_length_eq_zero hl
    subst this
    exact prof_none w A c
  · obtain ⟨b, o, rfl, hb, hx⟩ := hc h0
    exact prof_some w b o n c l hl hn hb (fun j hj => hx j _ (by simp [boolsV, List.getD, List.getElem?_eq_getElem (show j < l.length by omega)]))

end Go.Proofs.Ytlefjlclhmapaaa
