/-
  compare.pairs: the pairs of a network that sorts.
-/
import Derived.Test.YtdgehacbpjgmcaaCmpEx
import Derived.Test.YtdgehacbpjgmcaaSeq
namespace Go.Proofs.Ytdgehacbpjgmcaa
open Go.RowKit Go.Shelf
attribute [local go_sem] Oper.semAt_some
set_option linter.unusedVariables false
set_option maxRecDepth 100000
/-- The first ones of the pairs, where e is the last place. -/
def pl : Nat → List Nat
  | 0 => []
  | e + 1 => List.range (e + 1) ++ pl e
theorem range_from (i e : Nat) (h : i < e) : (List.range e).drop i = i :: (List.range e).drop (i + 1) := by
  rw [List.drop_eq_getElem_cons (by simpa using h)]
  simp
theorem pairs_any (many : Int) (w : World) : Calls Try.prog 43 #[.int .i64 many] w fun e w' => e = .returned (.func (.func 65) #[] #[.pointer (some ⟨w.heap.size, 0, none⟩)]) ∧ w' = w.alloc (.cells #[.int .i64 many] 3) := by
  go_enter Try.func43, Try.ntmps43
  go_wp2
  go_ret
  exact ⟨rfl, rfl⟩
set_option maxHeartbeats 2000000 in
theorem pairs_stops (n : Nat) (hn : 1 ≤ n) (b many : Nat) (hm : 1 ≤ many) (hm2 : many ≤ 16) (w : World) (hb : Blk w b 3 #[.int .i64 many]) :
    Iter Try.prog n 65 #[.pointer (some ⟨b, 0, none⟩)] (fun x : Nat => #[.int .i64 x]) [b] (pl (many - 1)) w := fun l J Jx W hW hJ hJx hY h0 => by
  have HB := Lib.hid (hb.to (hW.block b hb.lt))
  have HY := Lib.hid (fun x rest W h => rest_yield (x := x) (rest := rest) (W := W) hY h)
  have HJ := Lib.hid (Rest.start h0)
  have c0 : W.cell? ⟨b, 0, none⟩ = some (.int .i64 many) := HB.out.cell 0
  clear hW hJ hJx hY h0 hb
  refine callsIn_of_wp Try.func65 rfl trivial ?_ rfl
  simp only [Try.ntmps65, List.size_toArray, List.length_cons, List.length_nil, Nat.reduceAdd, Nat.reduceSub, Array.replicate_succ, Array.replicate_zero, List.push_toArray, List.append_toArray, List.nil_append, List.cons_append]
  gi_wp2
  gi_loopw [3] (fun p wr => ∃ e : Nat, p = .int .i64 (e : Int) ∧ e ≤ 15 ∧ Rest (pl (many - 1)) J (pl e) wr) (fun p wr => (intOf p).toNat)
  case atStart => exact ⟨many - 1, by congr 1; omega, by omega, HJ.out⟩
  case round =>
    obtain ⟨e, rfl, he, hrel⟩ := hrel
    have HR := Lib.hid hrel
    clear hrel
    by_cases h0 : e = 0
    · subst h0
      gi_wp2
      go_end0
      obtain ⟨xs, h1, h2⟩ := rest_done HR.out
      exact ⟨⟨_, rfl⟩, .inl ⟨xs, h1, h2⟩⟩
    · have hq : decide (0 < e) = true := decide_eq_true (by omega)
      have HR2 : Hid (Rest (pl (many - 1)) J ((List.range e).drop 0 ++ pl (e - 1)) wr) := by
        have := HR.out
        rw [show pl e = List.range e ++ pl (e - 1) from by cases e with | zero => exact absurd rfl h0 | succ e => rfl] at this
        exact Lib.hid this
      clear HR
      gi_wp2
      obtain ⟨wo, hwo⟩ : ∃ wo : World, wo = wr := ⟨_, rfl⟩
      rw [← hwo] at HR2 ⊢
      clear hwo
      gi_loopw [12] (fun q wq => ∃ i : Nat, q = .int .i64 (i : Int) ∧ i ≤ e ∧ Rest (pl (many - 1)) J ((List.range e).drop i ++ pl (e - 1)) wq) (fun q wq => e - (intOf q).toNat)
      case atStart => exact ⟨0, rfl, by omega, HR2.out⟩
      case round =>
        obtain ⟨i, rfl, hi, hrel2⟩ := hrel
        have HQ := Lib.hid hrel2
        clear hrel2 HR2
        by_cases hlt : i < e
        · obtain ⟨fn, tmps, assign, body, hy, hR⟩ := HY.out i ((List.range e).drop (i + 1) ++ pl (e - 1)) wr (by have := HQ.out; rw [range_from i e hlt] at this; exact this)
          clear HQ
          gi_wp2
          refine hR.mono ?_
          rintro e3 W3 (⟨rfl, h3, _⟩ | ⟨rfl, pre, h3⟩)
          · have H3 := Lib.hid h3
            clear h3 hy hR
            gi_wp2
            go_roundw
            case rel => exact ⟨i + 1, by go_num, by omega, H3.out⟩
            case measure => simp [intOf]; omega
          · have H3 := Lib.hid h3
            clear h3 hy hR
            gi_wp2
            refine bodyPost_ret (results_none rfl _ _ _) rfl ?_
            exact ⟨⟨_, rfl⟩, .inr ⟨pre, trivial, H3.out⟩⟩
        · obtain rfl : e = i := by omega
          have HQ2 : Hid (Rest (pl (many - 1)) J (pl (e - 1)) wr) := by
            have := HQ.out
            rw [List.drop_of_length_le (by simp), List.nil_append] at this
            exact Lib.hid this
          clear HQ
          gi_wp2
          go_roundw
          case rel => exact ⟨e - 1, by congr 1; omega, by omega, HQ2.out⟩
          case measure => simp [intOf]; omega
end Go.Proofs.Ytdgehacbpjgmcaa
