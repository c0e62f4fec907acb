/-
  dragnetlaw24.packed: slots that are valid or not, and their distances.
-/
import Derived.Test.YtlefjlclhmapaaaRef23Of
import Derived.Test.YtlefjlclhmapaaaNetPack
import Derived.Deep.MidRow
namespace Go.Proofs.Ytlefjlclhmapaaa
open Go.RowKit
set_option linter.unusedVariables false
set_option maxRecDepth 100000
/-- The slot at a place; the slots, of which the first k are made. -/
def pkS (l : List Bool) (i : Nat) : Sl := if l.getD i false = true then (BitVec.ofNat 64 18446744073709551615, BitVec.ofNat 64 (i + 1), BitVec.ofNat 64 (i % 16)) else (0#64, 0#64, 0#64)
def pkT (l : List Bool) (n k : Nat) : List Sl := (List.range n).map fun i => if i < k then pkS l i else (0#64, 0#64, 0#64)
def farN (l : List Bool) (n : Nat) : List Nat := (List.range n).map fun i => if l.getD i false = true then i - rk l i else 0
theorem pkT_len (l : List Bool) (n k : Nat) : (pkT l n k).length = n := by simp [pkT]
theorem farN_len (l : List Bool) (n : Nat) : (farN l n).length = n := by simp [farN]
theorem pkT_zero (l : List Bool) (n : Nat) : pkT l n 0 = List.replicate n (0#64, 0#64, 0#64) := by
  apply List.ext_getElem <;> simp [pkT]
theorem pkT_at (l : List Bool) (n k i : Nat) (h : i < n) : sl (pkT l n k) i = if i < k then pkS l i else (0#64, 0#64, 0#64) := by simp [sl, pkT, h]
theorem farN_at (l : List Bool) (n i : Nat) (h : i < n) : (farN l n).getD i 0 = if l.getD i false = true then i - rk l i else 0 := by simp [farN, h]
theorem farN_bd (l : List Bool) (n i : Nat) : (farN l n).getD i 0 ≤ i := by
  by_cases h : i < n
  · rw [farN_at _ _ _ h]; split <;> omega
  · simp [List.getD, List.getElem?_eq_none (show (farN l n).length ≤ i by rw [farN_len]; omega)]
theorem pkT_no (l : List Bool) (n k : Nat) (h : l.getD k false = false) : pkT l n (k + 1) = pkT l n k := by
  unfold pkT
  apply List.map_congr_left
  intro i _
  by_cases e : i = k
  · subst e
    rw [if_pos (by omega), if_neg (by omega)]
    unfold pkS
    rw [h]
    rfl
  · by_cases h2 : i < k
    · rw [if_pos h2, if_pos (by omega)]
    · rw [if_neg h2, if_neg (by omega)]
theorem pkT_yes (l : List Bool) (n k : Nat) (hk : k < n) (h : l.getD k false = true) : pkT l n (k + 1) = (pkT l n k).set k (BitVec.ofNat 64 18446744073709551615, BitVec.ofNat 64 (k + 1), BitVec.ofNat 64 (k % 16)) := by
  apply List.ext_getElem
  · simp [pkT]
  · intro i h1 h2
    rw [List.getElem_set]
    simp only [pkT, List.getElem_map, List.getElem_range]
    by_cases e : k = i
    · subst e
      rw [if_pos rfl, if_pos (by omega)]
      unfold pkS
      rw [if_pos h]
    · rw [if_neg e]
      by_cases h3 : i < k
      · rw [if_pos h3, if_pos (by omega)]
      · rw [if_neg h3, if_neg (by omega)]
theorem distL_inC (l : List Bool) (n : Nat) : intsV (distL l n) = inC (farN l n) := by
  unfold intsV distL inC farN
  rw [List.map_map, List.map_map]
  apply List.map_congr_left
  intro i _
  have := rk_le l i
  show Value.int .i64 (if l.getD i false = true then (i : Int) - (rk l i : Int) else 0) = Value.int .i64 ((if l.getD i false = true then i - rk l i else 0 : Nat) : Int)
  by_cases h : l.getD i false = true
  · rw [if_pos h, if_pos h]; congr 1; omega
  · rw [if_neg h, if_neg h]; rfl
/-- The number of the valid ones is the one of the compaction. -/
theorem rk_cnt (l : List Bool) (i : Nat) (h : i ≤ l.length) : rk l i = cnt (fun i => l.getD i false) i := by
  induction i with
  | zero => exact rk_zero l
  | succ i ih => rw [rk_succ l i (by omega), cnt_succ, ih (by omega)]
/-- What the network makes of them. -/
theorem packs_of (l : List Bool) (n : Nat) (hl : l.length = n) (h1 : 1 ≤ n) (h2 : n ≤ 288) : (apL (pkT l n n) (farN l n) (moves n)).1.length = n ∧ (∀ i, i < n → l.getD i false = true → sl (apL (pkT l n n) (farN l n) (moves n)).1 (rk l i) = sl (pkT l n n) i) ∧ ∀ x, x < n → rk l n ≤ x → sl (apL (pkT l n n) (farN l n) (moves n)).1 x = (0#64, 0#64, 0#64) := by
  obtain ⟨a, b, c⟩ := apL_packs (v := fun i => l.getD i false) (l := pkT l n n) (far := farN l n) h1 h2 (pkT_len _ _ _) (farN_len _ _) (fun i hi => by rw [farN_at _ _ _ hi, rk_cnt l i (by omega)]) (fun i hi hv => by
    rw [pkT_at _ _ _ _ hi, if_pos hi]
    unfold pkS
    rw [if_neg (by rw [hv]; exact Bool.false_ne_true)])
  exact ⟨a, fun i hi hv => by rw [rk_cnt l i (by omega)]; exact b i hi hv, fun x hx hx2 => c x hx (by rw [← rk_cnt l n (by omega)]; exact hx2)⟩
theorem made_sl (n : Nat) : (madeCells (Value.agg #[.int .u64 0, .int .u64 0, .int .u64 0]).cells (n * 3)).toList = slC (List.replicate n (0#64, 0#64, 0#64)) := by
  rw [slC_replicate]
  apply List.ext_getElem
  · simp [madeCells]
  · intro i h1 h2
    simp only [madeCells, List.getElem_replicate, Value.cells]
    have hlt : i % 3 < 3 := Nat.mod_lt _ (by decide)
    have : i % 3 = 0 ∨ i % 3 = 1 ∨ i % 3 = 2 := by omega
    rcases this with e | e | e <;> simp [e]
/-- What packed leaves. -/
def PackPost (w : World) (l : List Bool) (n : Nat) (e : Ending) (w' : World) : Prop := ∃ g1 g2 c2, e = .returned (.tuple #[.slice (some ⟨g1, 0, none⟩) n n, .slice (some ⟨g2, 0, none⟩) n c2]) ∧ w'.ownsRow w.heap.size 41 3 (.slice (some ⟨g1, 0, none⟩) n n) n (slC (pkT l n n)) ∧ w'.ownsRow w.heap.size 3 1 (.slice (some ⟨g2, 0, none⟩) n c2) n (inC (farN l n)) ∧ Off Nob w w'
theorem Try.infoSl3p : (Try.prog.info? 41).map (·.size) = some 3 := by kernel_rfl
/-- What the loop holds. -/
def PkI (w : World) (g1 g2 c2 : Nat) (A : List Sl) (D : List Nat) (n : Nat) (W : World) : Prop := W.ownsRow w.heap.size 41 3 (.slice (some ⟨g1, 0, none⟩) n n) n (slC A) ∧ W.ownsRow w.heap.size 3 1 (.slice (some ⟨g2, 0, none⟩) n c2) n (inC D) ∧ Off Nob w W
theorem PkI.put {w W : World} {g1 g2 c2 : Nat} {A : List Sl} {D : List Nat} {n : Nat} (h : PkI w g1 g2 c2 A D n W) (hne : g2 ≠ g1) (k : Nat) (x : Sl) : PkI w g1 g2 c2 (A.set k x) D n (W.setCells g1 (k * 3) [.int .u64 (n64 x.1), .int .u64 (n64 x.2.1), .int .u64 (n64 x.2.2)]) := by
  obtain ⟨i3, i4, i5⟩ := h
  have hw := (i3.lt g1 rfl).1
  show PkI w g1 g2 c2 (A.set k x) D n (((W.setCell ⟨g1, k * 3, none⟩ (.int .u64 (n64 x.1))).setCell ⟨g1, k * 3 + 1, none⟩ (.int .u64 (n64 x.2.1))).setCell ⟨g1, k * 3 + 1 + 1, none⟩ (.int .u64 (n64 x.2.2)))
  refine ⟨?_, ?_, ((i5.put (p := ⟨g1, _, none⟩) (.inr hw) _).put (p := ⟨g1, _, none⟩) (.inr hw) _).put (p := ⟨g1, _, none⟩) (.inr hw) _⟩
  · have := (((i3.stored (k * 3) (.int .u64 (n64 x.1))).1.stored (k * 3 + 1) (.int .u64 (n64 x.2.1))).1.stored (k * 3 + 2) (.int .u64 (n64 x.2.2))).1
    rw [slC_set] at this
    exact this
  · exact own_to i4 (fun g hg => by
      have e : g2 = g := by simpa [Value.ownBlock] using hg
      subst e
      rw [Below.heap_setCell _ ⟨g1, _, none⟩ _ _ hne, Below.heap_setCell _ ⟨g1, _, none⟩ _ _ hne, Below.heap_setCell _ ⟨g1, _, none⟩ _ _ hne])
theorem own_thereP {w : World} {base : Nat} {e : TypeId} {size n g c : Nat} {xs : List Value} (h : w.ownsRow base e size (.slice (some ⟨g, 0, none⟩) n c) n xs) (o k : Nat) (hk : o + k ≤ n * size) : w.there g o k := fun j hj =>
  ⟨by rw [h.cellAt _ (by omega), List.getElem?_eq_getElem (by rw [h.1]; omega)]; rfl, h.frozenAt _⟩
set_option maxHeartbeats 4000000 in
theorem packed_ok (w : World) (b o n c : Nat) (l : List Bool) (hl : l.length = n) (hn1 : 1 ≤ n) (hn : n ≤ 288) (hR : Rd w (Old w) 1 (.slice (some ⟨b, o, none⟩) n c) n (boolsV l)) (hb : b < w.heap.size) (hc : ∀ j, j < n → w.cell? ⟨b, o + j, none⟩ = some (.bool (l.getD j false))) :
    Calls Try.prog 16 #[.slice (some ⟨b, o, none⟩) n c] w (PackPost w l n) := by
  obtain ⟨i0, hi, hz0, hz1, hz2⟩ := info_parts Try.infoSl
  have HR := Lib.hid (prof_any hR (by omega))
  have HL := Lib.hid hl
  have HC := Lib.hid hc
  clear hR hl hc
  go_enter Try.func16, Try.ntmps16
  go_wp2_with fail
  refine HR.out.mono ?_
  rintro e w1 ⟨v1, v2, rfl, q1, h2, q2, o1⟩
  rw [length_distL, distL_inC, HL.out] at h2
  clear q1 q2
  obtain ⟨g2, c2, rfl⟩ : ∃ g2 c2, v2 = .slice (some ⟨g2, 0, none⟩) n c2 := by
    rcases id h2.2 with ⟨_, h0⟩ | ⟨g, cap, cur, hv, _⟩
    · omega
    · exact ⟨g, cap, hv⟩
  have H2 := Lib.hid h2
  have O1 := Lib.hid o1
  clear h2 o1 HR
  have hsz := O1.out.size
  go_wp2_with (at_make; refine wpList_make_full _ rfl _ _ 33 rfl w.heap.size 41 i0 (.agg #[.int .u64 0, .int .u64 0, .int .u64 0]) 3 Try.underlying33 hi hz0 hz1 .i64 .i64 _ _ n rfl rfl rfl rfl (by rw [hz2]; omega) (by unfold maxLen; omega) hsz ?_; intro w2 hown2 hgrow2)
  have hlt2 := (H2.out.lt g2 rfl).2
  have PK : Hid (PkI w w1.heap.size g2 c2 (pkT l n 0) (farN l n) n w2) := by
    have o2 : Off Nob w1 w2 := Off.grown (Off.refl _ _) hgrow2 (fun k hk => by cases hk)
    refine Lib.hid ⟨?_, own_to H2.out (fun g hg => o2.block g (H2.out.lt g hg).2 (fun h => h)), O1.out.also o2⟩
    rw [made_sl] at hown2
    rw [pkT_zero]
    exact hown2
  have NE : Hid (g2 ≠ w1.heap.size) := Lib.hid (by omega)
  clear hown2 hgrow2 H2 O1 hsz hlt2 hi hz0 hz1 hz2
  revert PK NE
  generalize w1.heap.size = g1
  intro PK NE
  go_loopw [7] (fun i wr => ∃ k : Nat, k ≤ n ∧ i = .int .i64 (k : Int) ∧ PkI w g1 g2 c2 (pkT l n k) (farN l n) n wr) (fun i _ => n - (intOf i).toNat)
  case atStart => exact ⟨0, Nat.zero_le _, rfl, PK.out⟩
  case round =>
    obtain ⟨k, hk, rfl, hrel⟩ := hrel
    have T0 := Lib.hid hrel
    clear hrel PK
    by_cases hlt : k < n
    · have hcell : wr.cell? ⟨b, o + k, none⟩ = some (.bool (l.getD k false)) := (T0.out.2.2.cell_old hb _).trans (HC.out k hlt)
      cases hbt : l.getD k false <;> rw [hbt] at hcell
      · have HB := Lib.hid (pkT_no l n k hbt)
        clear hbt
        go_wp2_with fail
        go_roundw
        case rel => exact ⟨k + 1, hlt, rfl, by rw [HB.out]; exact T0.out⟩
        case measure => simp [intOf]; omega
      · have HB := Lib.hid (pkT_yes l n k hlt hbt)
        clear hbt
        obtain ⟨a0, a1, a2⟩ := slC_at (pkT l n k) k (by rw [pkT_len]; exact hlt)
        rw [← T0.out.1.cellAt _ (by omega)] at a0 a1 a2
        have f0 := T0.out.1.frozenAt (k * 3)
        have f1 := T0.out.1.frozenAt (k * 3 + 1)
        have f2 := T0.out.1.frozenAt (k * 3 + 2)
        have T1 := Lib.hid (T0.out.put NE.out k (BitVec.ofNat 64 18446744073709551615, BitVec.ofNat 64 (k + 1), BitVec.ofNat 64 (k % 16)))
        rw [← HB.out] at T1
        clear T0 HB
        go_wp2_with fail
        go_roundw
        case rel =>
          refine ⟨k + 1, hlt, rfl, ?_⟩
          have := T1.out
          rw [show n64 (BitVec.ofNat 64 18446744073709551615, BitVec.ofNat 64 (k + 1), BitVec.ofNat 64 (k % 16)).1 = 18446744073709551615 by rfl, show n64 (BitVec.ofNat 64 18446744073709551615, BitVec.ofNat 64 (k + 1), BitVec.ofNat 64 (k % 16)).2.1 = (k : Int) + 1 by unfold n64; simp; omega, show n64 (BitVec.ofNat 64 18446744073709551615, BitVec.ofNat 64 (k + 1), BitVec.ofNat 64 (k % 16)).2.2 = (k : Int) % 16 by unfold n64; simp; omega] at this
          exact this
        case measure => simp [intOf]; omega
    · obtain rfl : k = n := by omega
      go_wp2_with fail
      go_ret2
      exact ⟨g1, g2, c2, rfl, T0.out.1, T0.out.2.1, T0.out.2.2⟩
end Go.Proofs.Ytlefjlclhmapaaa
