/-
  The walk of dragnetlaw24.NetworkAgain.
-/
import Derived.Test.YtlefjlclhmapaaaAwake24
import Derived.Test.YtlefjlclhmapaaaNetTwice
import Derived.BigQuiet
import Derived.Deep.QuietTactic
namespace Go.Proofs.Ytlefjlclhmapaaa
open Go.RowKit
set_option linter.unusedVariables false
set_option maxRecDepth 100000
theorem own_baseA {w : World} {base base' size n : Nat} {e : TypeId} {v : Value} {xs : List Value} (h : w.ownsRow base e size v n xs) (hb : base' ≤ base) : w.ownsRow base' e size v n xs := by
  refine ⟨h.1, ?_⟩
  rcases h.2 with h2 | ⟨g, cap, cur, a, b, c⟩
  · exact .inl h2
  · exact .inr ⟨g, cap, cur, a, Nat.le_trans hb b, c⟩
theorem own_farA {w : World} {base size n g c x i : Nat} {e : TypeId} {xs : List Value} (h : w.ownsRow base e size (.slice (some ⟨g, 0, none⟩) n c) n xs) (hne : g ≠ x) (u : Value) : (w.setCell ⟨x, i, none⟩ u).ownsRow base e size (.slice (some ⟨g, 0, none⟩) n c) n xs :=
  own_to h (fun k hk => by
    have e : g = k := by simpa [Value.ownBlock] using hk
    subst e
    exact Below.heap_setCell _ ⟨x, _, none⟩ _ _ hne)
theorem boolsV_set (l : List Bool) (i : Nat) (b : Bool) : (boolsV l).set i (.bool b) = boolsV (l.set i b) := by simp [boolsV, List.map_set]
theorem boolsV_at (l : List Bool) (i : Nat) (h : i < l.length) : (boolsV l)[i]? = some (.bool (l.getD i false)) := by simp [boolsV, List.getD, h]
theorem boolsV_len (l : List Bool) : (boolsV l).length = l.length := by simp [boolsV]
theorem Try.infoB : (Try.prog.info? 4).map (fun i => (i.zero, i.size, i.bytes)) = some (some (.bool false), 1, 1) := by kernel_rfl
/-- What the loop holds. -/
def AgI (w : World) (g5 c5 g6 c6 g7 c7 g8 c8 g9 c9 n : Nat) (S Lf : List Sl) (R Is : List Bool) (W : World) : Prop :=
  W.ownsRow w.heap.size 41 3 (.slice (some ⟨g5, 0, none⟩) n c5) n (slC S) ∧ W.ownsRow w.heap.size 41 3 (.slice (some ⟨g6, 0, none⟩) n c6) n (slC S) ∧ W.ownsRow w.heap.size 41 3 (.slice (some ⟨g7, 0, none⟩) n c7) n (slC Lf) ∧ W.ownsRow w.heap.size 4 1 (.slice (some ⟨g8, 0, none⟩) n c8) n (boolsV R) ∧ W.ownsRow w.heap.size 4 1 (.slice (some ⟨g9, 0, none⟩) n c9) n (boolsV Is) ∧ Off Nob w W
def AgN (g5 g6 g7 g8 g9 : Nat) : Prop := g5 < g6 ∧ g6 < g7 ∧ g7 < g8 ∧ g8 < g9
section
variable {w W : World} {g5 c5 g6 c6 g7 c7 g8 c8 g9 c9 n : Nat} {S Lf : List Sl} {R Is : List Bool}
theorem AgI.left (h : AgI w g5 c5 g6 c6 g7 c7 g8 c8 g9 c9 n S Lf R Is W) (ne : AgN g5 g6 g7 g8 g9) (k : Nat) : AgI w g5 c5 g6 c6 g7 c7 g8 c8 g9 c9 n S (Lf.set k (0#64, 0#64, 0#64)) R Is (((W.setCell ⟨g7, k * 3, none⟩ (.int .u64 0)).setCell ⟨g7, k * 3 + 1, none⟩ (.int .u64 0)).setCell ⟨g7, k * 3 + 2, none⟩ (.int .u64 0)) := by
  obtain ⟨h1, h2, h3, h4, h5, h6⟩ := h
  obtain ⟨n1, n2, n3, n4⟩ := ne
  have hw := (h3.lt g7 rfl).1
  refine ⟨own_farA (own_farA (own_farA h1 (by omega) _) (by omega) _) (by omega) _, own_farA (own_farA (own_farA h2 (by omega) _) (by omega) _) (by omega) _, ?_, own_farA (own_farA (own_farA h4 (by omega) _) (by omega) _) (by omega) _, own_farA (own_farA (own_farA h5 (by omega) _) (by omega) _) (by omega) _, ((h6.put (p := ⟨g7, _, none⟩) (.inr hw) _).put (p := ⟨g7, _, none⟩) (.inr hw) _).put (p := ⟨g7, _, none⟩) (.inr hw) _⟩
  have := (((h3.stored (k * 3) (.int .u64 (n64 (0#64)))).1.stored (k * 3 + 1) (.int .u64 (n64 (0#64)))).1.stored (k * 3 + 2) (.int .u64 (n64 (0#64)))).1
  have e := slC_set Lf k (0#64, 0#64, 0#64)
  dsimp only at e
  rw [e] at this
  exact this
theorem AgI.rest (h : AgI w g5 c5 g6 c6 g7 c7 g8 c8 g9 c9 n S Lf R Is W) (ne : AgN g5 g6 g7 g8 g9) (k : Nat) (b : Bool) : AgI w g5 c5 g6 c6 g7 c7 g8 c8 g9 c9 n S Lf (R.set k b) Is (W.setCell ⟨g8, k, none⟩ (.bool b)) := by
  obtain ⟨h1, h2, h3, h4, h5, h6⟩ := h
  obtain ⟨n1, n2, n3, n4⟩ := ne
  have hw := (h4.lt g8 rfl).1
  refine ⟨own_farA h1 (by omega) _, own_farA h2 (by omega) _, own_farA h3 (by omega) _, ?_, own_farA h5 (by omega) _, h6.put (p := ⟨g8, _, none⟩) (.inr hw) _⟩
  have := (h4.stored k (.bool b)).1
  rw [boolsV_set] at this
  exact this
theorem AgI.is (h : AgI w g5 c5 g6 c6 g7 c7 g8 c8 g9 c9 n S Lf R Is W) (ne : AgN g5 g6 g7 g8 g9) (k : Nat) (b : Bool) : AgI w g5 c5 g6 c6 g7 c7 g8 c8 g9 c9 n S Lf R (Is.set k b) (W.setCell ⟨g9, k, none⟩ (.bool b)) := by
  obtain ⟨h1, h2, h3, h4, h5, h6⟩ := h
  obtain ⟨n1, n2, n3, n4⟩ := ne
  have hw := (h5.lt g9 rfl).1
  refine ⟨own_farA h1 (by omega) _, own_farA h2 (by omega) _, own_farA h3 (by omega) _, own_farA h4 (by omega) _, ?_, h6.put (p := ⟨g9, _, none⟩) (.inr hw) _⟩
  have := (h5.stored k (.bool b)).1
  rw [boolsV_set] at this
  exact this
end
theorem slC_hc {W : World} {base n g c : Nat} {A : List Sl} (h : W.ownsRow base 41 3 (.slice (some ⟨g, 0, none⟩) n c) n (slC A)) : ∀ j u, (slC A)[j]? = some u → W.cell? ⟨g, 0 + j, none⟩ = some u := fun j u hj => by
  rw [Nat.zero_add, h.cellAt j (by have := (List.getElem?_eq_some_iff.1 hj).1; rw [h.1] at this; exact this)]; exact hj
theorem inC_hc {W : World} {base n g c : Nat} {D : List Nat} (h : W.ownsRow base 3 1 (.slice (some ⟨g, 0, none⟩) n c) n (inC D)) : ∀ j u, (inC D)[j]? = some u → W.cell? ⟨g, 0 + j, none⟩ = some u := fun j u hj => by
  rw [Nat.zero_add, h.cellAt j (by have := (List.getElem?_eq_some_iff.1 hj).1; rw [h.1] at this; exact this)]; exact hj
theorem made_in (n : Nat) : (madeCells (Value.int .i64 0).cells (n * 1)).toList = inC (List.replicate n 0) := by
  rw [Nat.mul_one]
  show (madeCells #[.int .i64 0] n).toList = _
  rw [toList_madeCells_one]
  simp [inC]
theorem made_bo (n : Nat) : (madeCells (Value.bool false).cells (n * 1)).toList = boolsV (List.replicate n false) := by
  rw [Nat.mul_one]
  show (madeCells #[.bool false] n).toList = _
  rw [toList_madeCells_one]
  simp [boolsV]
set_option maxHeartbeats 16000000 in
theorem again_some (w : World) (b o n c m c' : Nat) (A' : Option Addr) (V O : List Bool) (hl : V.length = n) (hOl : O.length = m) (hm : m ≤ maxLen) (hn1 : 1 ≤ n) (hn : n ≤ 120) (hR : Rd w (Old w) 1 (.slice (some ⟨b, o, none⟩) n c) n (boolsV V)) (hb : b < w.heap.size) (hc : ∀ j, j < n → w.cell? ⟨b, o + j, none⟩ = some (.bool (V.getD j false)))
    (hO : 0 < m → ∃ b2 o2, A' = some ⟨b2, o2, none⟩ ∧ b2 < w.heap.size ∧ ∀ j, j < m → w.cell? ⟨b2, o2 + j, none⟩ = some (.bool (O.getD j false))) :
    Calls Try.prog 4 #[.slice (some ⟨b, o, none⟩) n c, .slice A' m c'] w (BoolNew true w) := by
  obtain ⟨is0, his, hsz0, hsz1, hsz2⟩ := info_parts Try.infoSl
  obtain ⟨ib0, hib, hbz0, hbz1, hbz2⟩ := info_parts Try.infoB
  obtain ⟨ii0, hii, hiz0, hiz1, hiz2⟩ := info_parts Try.infoI
  unfold maxLen at hm
  have HP := Lib.hid (packed_ok w b o n c V hl hn1 (by omega) hR hb hc)
  have HC := Lib.hid hc
  have HL := Lib.hid hl
  have HOO := Lib.hid hO
  have HOL := Lib.hid hOl
  clear hR hc hl hO hOl
  have hd0 : decide ((n : Int) < 1) = false := by simp; omega
  have hd1 : decide ((120 : Int) < (n : Int)) = false := by simp; omega
  go_enter Try.func4, Try.ntmps4
  go_wp2_with fail
  refine HP.out.mono ?_
  rintro e w1 ⟨g1, g2, c2, rfl, h1, h2, o1⟩
  have R1 := Lib.hid (And.intro h1 (And.intro h2 o1))
  clear h1 h2 o1 HP
  go_wp2_with fail
  refine (napply_ok n g1 0 n g2 0 c2 (pkT V n n) (farN V n) (pkT_len _ _ _) (farN_len _ _) hn1 (by omega) w1 (R1.out.1.lt g1 rfl).2 (R1.out.2.1.lt g2 rfl).2 (slC_hc R1.out.1) (inC_hc R1.out.2.1) (fun i _ => farN_bd V n i)).mono ?_
  obtain ⟨S, hS⟩ : ∃ S, (apL (pkT V n n) (farN V n) (moves n)).1 = S := ⟨_, rfl⟩
  rw [hS]
  have HS := Lib.hid hS.symm
  have HSL : Hid (S.length = n) := Lib.hid (by rw [← hS]; exact (apL_len _ _ _).1.trans (pkT_len _ _ _))
  clear hS
  rintro e w2 ⟨g5, c5, rfl, hc5, h5, o2⟩
  have R5 : Hid (w2.ownsRow w.heap.size 41 3 (.slice (some ⟨g5, 0, none⟩) n c5) n (slC S)) := Lib.hid (own_baseA h5 R1.out.2.2.size)
  have O2 := Lib.hid (R1.out.2.2.also o2)
  clear h5 o2 R1
  go_wp2_with (at_make; refine wpList_make_full _ rfl _ _ 34 rfl w2.heap.size 3 ii0 (.int .i64 0) 1 Try.underlying34 hii hiz0 hiz1 .i64 .i64 _ _ n rfl rfl rfl rfl (by rw [hiz2]; omega) (by unfold maxLen; omega) (Nat.le_refl _) ?_; intro w3 hown3 hgrow3)
  rw [made_in] at hown3
  have o3 : Off Nob w2 w3 := Off.grown (Off.refl _ _) hgrow3 (fun k hk => by cases hk)
  refine (napply_ok n g5 0 c5 w2.heap.size 0 n S (List.replicate n 0) HSL.out (by simp) hn1 (by omega) w3 ((own_off0 R5.out o3).lt g5 rfl).2 (hown3.lt _ rfl).2 (slC_hc (own_off0 R5.out o3)) (inC_hc hown3) (fun i _ => by simp only [List.getD, List.getElem?_replicate]; split <;> exact Nat.zero_le _)).mono ?_
  rw [apL_still]
  rintro e w4 ⟨g6, c6, rfl, hc6, h6, o4⟩
  have q56 : g5 < g6 := by have := (R5.out.lt g5 rfl).2; have := (h6.lt g6 rfl).1; have := o3.size; omega
  have R6 : Hid (w4.ownsRow w.heap.size 41 3 (.slice (some ⟨g6, 0, none⟩) n c6) n (slC S)) := Lib.hid (own_baseA h6 (by have := O2.out.size; have := o3.size; omega))
  have R5' := Lib.hid (own_off0 (own_off0 R5.out o3) o4)
  have O4 := Lib.hid ((O2.out.also o3).also o4)
  clear h6 o4 o3 hown3 hgrow3 R5 O2
  go_wp2_with (at_builtin; refine wpList_append_own_at _ rfl _ _ 33 rfl w4.heap.size 41 is0 (.agg #[.int .u64 0, .int .u64 0, .int .u64 0]) 3 24 Try.underlying33 his hsz0 hsz1 hsz2 rfl (by decide) (.slice (some ⟨w4.heap.size, 0, none⟩) 0 0) 0 [] rfl ?c0 ⟨g5, 0, none⟩ n c5 (slC S) rfl ?c6 ?c1 ?c2 ?c3 ?c4 ?c5 ?_)
  case c0 => exact World.ownsRow_made w4 #[] 0 (Nat.le_refl _) (Nat.zero_le _) rfl
  case c6 => rw [slC_len, HSL.out]
  case c1 => intro j u hu; rw [add_addr, World.cell?_alloc_lt _ _ _ (R5'.out.lt g5 rfl).2]; exact slC_hc R5'.out j u hu
  case c2 => exact slC_one S
  case c3 => unfold maxLen; omega
  case c4 => omega
  case c5 => simp
  intro v7 w5 hown5 hgrow5 hnil5 hat5
  obtain ⟨g7, c7, rfl⟩ : ∃ g c, v7 = .slice (some ⟨g, 0, none⟩) n c := by
    rcases id hown5.2 with ⟨_, h0⟩ | ⟨g, cap, cur, hv, _⟩
    · omega
    · exact ⟨g, cap, hv⟩
  have o5 : Off Nob w4 w5 := Off.grown (Off.alloc (Off.refl _ _) _) hgrow5 (fun k hk => by simp [Value.ownBlock] at hk; right; omega)
  have q67 : g6 < g7 := by have := (R6.out.lt g6 rfl).2; have := (hown5.lt g7 rfl).1; omega
  have R7 : Hid (w5.ownsRow w.heap.size 41 3 (.slice (some ⟨g7, 0, none⟩) n c7) n (slC S)) := Lib.hid (own_baseA hown5 O4.out.size)
  have R5b := Lib.hid (own_off0 R5'.out o5)
  have R6b := Lib.hid (own_off0 R6.out o5)
  have O5 := Lib.hid (O4.out.also o5)
  clear hown5 hgrow5 hnil5 hat5 o5 O4 R5' R6
  go_wp2_with (at_builtin; refine wpList_append_own_at _ rfl _ _ 32 rfl w5.heap.size 4 ib0 (.bool false) 1 1 Try.underlying32 hib hbz0 hbz1 hbz2 rfl (by decide) (.slice (some ⟨w5.heap.size, 0, none⟩) 0 0) 0 [] rfl ?c0 ⟨b, o, none⟩ n c (boolsV V) rfl ?c6 ?c1 ?c2 ?c3 ?c4 ?c5 ?_)
  case c0 => exact World.ownsRow_made w5 #[] 0 (Nat.le_refl _) (Nat.zero_le _) rfl
  case c6 => rw [boolsV_len, HL.out, Nat.mul_one]
  case c1 =>
    intro j u hu
    have hj : j < V.length := by have := (List.getElem?_eq_some_iff.1 hu).1; rwa [boolsV_len] at this
    rw [add_addr, World.cell?_alloc_lt _ _ _ (Nat.lt_of_lt_of_le hb O5.out.size), O5.out.cell_old hb, HC.out j (by rw [← HL.out]; exact hj), ← boolsV_at V j hj]
    exact hu
  case c2 => intro u hu; simp [boolsV] at hu; rcases hu with ⟨_, rfl⟩ | ⟨_, rfl⟩ <;> rfl
  case c3 => unfold maxLen; omega
  case c4 => omega
  case c5 => simp
  intro v8 w6 hown6 hgrow6 hnil6 hat6
  obtain ⟨g8, c8, rfl⟩ : ∃ g c, v8 = .slice (some ⟨g, 0, none⟩) n c := by
    rcases id hown6.2 with ⟨_, h0⟩ | ⟨g, cap, cur, hv, _⟩
    · omega
    · exact ⟨g, cap, hv⟩
  have o6 : Off Nob w5 w6 := Off.grown (Off.alloc (Off.refl _ _) _) hgrow6 (fun k hk => by simp [Value.ownBlock] at hk; right; omega)
  have q78 : g7 < g8 := by have := (R7.out.lt g7 rfl).2; have := (hown6.lt g8 rfl).1; omega
  have R8 : Hid (w6.ownsRow w.heap.size 4 1 (.slice (some ⟨g8, 0, none⟩) n c8) n (boolsV V)) := Lib.hid (own_baseA hown6 O5.out.size)
  have R5c := Lib.hid (own_off0 R5b.out o6)
  have R6c := Lib.hid (own_off0 R6b.out o6)
  have R7c := Lib.hid (own_off0 R7.out o6)
  have O6 := Lib.hid (O5.out.also o6)
  clear hown6 hgrow6 hnil6 hat6 o6 O5 R5b R6b R7
  go_wp2_with (at_make; refine wpList_make_full _ rfl _ _ 32 rfl w6.heap.size 4 ib0 (.bool false) 1 Try.underlying32 hib hbz0 hbz1 .i64 .i64 _ _ n rfl rfl rfl rfl (by rw [hbz2]; omega) (by unfold maxLen; omega) (Nat.le_refl _) ?_; intro w7 hown7 hgrow7)
  rw [made_bo] at hown7
  have o7 : Off Nob w6 w7 := Off.grown (Off.refl _ _) hgrow7 (fun k hk => by cases hk)
  have NE : Hid (AgN g5 g6 g7 g8 w6.heap.size) := Lib.hid ⟨q56, q67, q78, (R8.out.lt g8 rfl).2⟩
  have AG : Hid (AgI w g5 c5 g6 c6 g7 c7 g8 c8 w6.heap.size n n S (lfL O S n (rk V 0)) (reL V O n 0) (isL O n (rk V 0)) w7) := Lib.hid (by
    rw [rk_zero, lfL_zero _ _ _ HSL.out, reL_zero _ _ _ HL.out, isL_zero]
    exact ⟨own_off0 R5c.out o7, own_off0 R6c.out o7, own_off0 R7c.out o7, own_off0 R8.out o7, own_baseA hown7 O6.out.size, O6.out.also o7⟩)
  clear hown7 hgrow7 o7 q56 q67 q78 R5c R6c R7c R8 O6 hc5 hc6 his hsz0 hsz1 hsz2 hib hbz0 hbz1 hbz2 hii hiz0 hiz1 hiz2
  revert NE AG
  generalize w6.heap.size = g9
  intro NE AG
  go_wp2_with fail
  go_loopw [15, 16] (fun q i wr => ∃ j : Nat, j ≤ n ∧ i = .int .i64 (j : Int) ∧ q = .int .i64 (rk V j : Int) ∧ AgI w g5 c5 g6 c6 g7 c7 g8 c8 g9 n n S (lfL O S n (rk V j)) (reL V O n j) (isL O n (rk V j)) wr) (fun _ i _ => n - (intOf i).toNat)
  case atStart => exact ⟨0, Nat.zero_le _, rfl, by rw [rk_zero]; rfl, AG.out⟩
  case round =>
    obtain ⟨j, hj, rfl, rfl, hrel⟩ := hrel
    have T0 := Lib.hid hrel
    clear hrel AG
    by_cases hlt : j < n
    · have hcell : wr.cell? ⟨b, o + j, none⟩ = some (.bool (V.getD j false)) := (T0.out.2.2.2.2.2.cell_old hb _).trans (HC.out j hlt)
      have hrs := rk_succ V j (by rw [HL.out]; exact hlt)
      have hrl := rk_le V j
      cases hbt : V.getD j false <;> rw [hbt] at hcell hrs
      · replace hrs : rk V (j + 1) = rk V j := by rw [hrs]; rfl
        have HX := Lib.hid (And.intro hrs (reL_same V O n j (.inl hbt)))
        clear hrs hbt
        go_wp2_with fail
        go_roundw
        case rel => exact ⟨j + 1, hlt, rfl, by rw [HX.out.1], by rw [HX.out.1, HX.out.2]; exact T0.out⟩
        case measure => simp [intOf]; omega
      · rw [if_pos rfl] at hrs
        obtain ⟨k, hk⟩ : ∃ k, rk V j = k := ⟨_, rfl⟩
        have HK := Lib.hid hk
        rw [hk] at hrs hrl T0 ⊢
        have HRS := Lib.hid hrs
        clear hrs hbt hk
        by_cases hkm : k < m
        · obtain ⟨b2, o2, rfl, hb2, hx2⟩ := HOO.out (by omega)
          have hcO : wr.cell? ⟨b2, o2 + k, none⟩ = some (.bool (O.getD k false)) := (T0.out.2.2.2.2.2.cell_old hb2 _).trans (hx2 k hkm)
          have hd : decide ((k : Int) < (m : Int)) = true := decide_eq_true (by omega)
          clear hx2
          cases hot : O.getD k false <;> rw [hot] at hcO
          · have a0 := (T0.out.2.2.2.2.1.cellAt k (by omega)).trans (boolsV_at (isL O n k) k (by rw [isL_len]; omega))
            have f0 := T0.out.2.2.2.2.1.frozenAt k
            have T1 := Lib.hid (T0.out.is NE.out k true)
            rw [← isL_no O n k (by omega) hot, ← lfL_no O S n k hot, ← reL_same V O n j (.inr (by rw [HK.out]; exact hot))] at T1
            clear T0 hot
            go_wp2_with fail
            go_roundw
            case rel => exact ⟨j + 1, hlt, rfl, by rw [HRS.out]; go_num, by rw [HRS.out]; exact T1.out⟩
            case measure => simp [intOf]; omega
          · obtain ⟨a0, a1, a2⟩ := slC_at (lfL O S n k) k (by rw [lfL_len]; omega)
            rw [← T0.out.2.2.1.cellAt _ (by omega)] at a0 a1 a2
            have f0 := T0.out.2.2.1.frozenAt (k * 3)
            have f1 := T0.out.2.2.1.frozenAt (k * 3 + 1)
            have f2 := T0.out.2.2.1.frozenAt (k * 3 + 2)
            have T1 := Lib.hid (T0.out.left NE.out k)
            have a3 := (T1.out.2.2.2.1.cellAt j (by omega)).trans (boolsV_at (reL V O n j) j (by rw [reL_len]; omega))
            have f3 := T1.out.2.2.2.1.frozenAt j
            have T2 := Lib.hid (T1.out.rest NE.out j false)
            rw [← isL_yes O n k (by omega) hot, ← lfL_yes O S n k (by omega) hot, ← reL_yes V O n j hlt (by rw [HK.out]; exact hot)] at T2
            clear T0 T1 hot
            go_wp2_with fail
            go_roundw
            case rel => exact ⟨j + 1, hlt, rfl, by rw [HRS.out]; go_num, by rw [HRS.out]; exact T2.out⟩
            case measure => simp [intOf]; omega
        · have hd : decide ((k : Int) < (m : Int)) = false := decide_eq_false (by omega)
          have hot : O.getD k false = false := by simp [List.getD, List.getElem?_eq_none (show O.length ≤ k by rw [HOL.out]; omega)]
          have a0 := (T0.out.2.2.2.2.1.cellAt k (by omega)).trans (boolsV_at (isL O n k) k (by rw [isL_len]; omega))
          have f0 := T0.out.2.2.2.2.1.frozenAt k
          have T1 := Lib.hid (T0.out.is NE.out k true)
          rw [← isL_no O n k (by omega) hot, ← lfL_no O S n k hot, ← reL_same V O n j (.inr (by rw [HK.out]; exact hot))] at T1
          clear T0 hot
          go_wp2_with fail
          go_roundw
          case rel => exact ⟨j + 1, hlt, rfl, by rw [HRS.out]; go_num, by rw [HRS.out]; exact T1.out⟩
          case measure => simp [intOf]; omega
    · obtain rfl : j = n := by omega
      clear hlt hj
      go_wp2_with fail
      obtain ⟨R5, R6, R7, R8, R9, O7⟩ := T0.out
      have H7 := Lib.hid (own_off0 R7 (Off.refl _ _))
      have H5 := Lib.hid R5
      have H6 := Lib.hid R6
      have H8 := Lib.hid R8
      have HO7 := Lib.hid O7
      refine Calls.mono (R := OfPost wr (isL O j (rk V j))) (prof_any (Rd.own R9 (F := fun _ => True) (fun _ _ => trivial)) (by omega)) ?_
      clear R5 R6 R7 R8 R9 O7 T0
      rintro e x1 ⟨v1, v2, rfl, q1, r2, q2, p1⟩
      rw [length_distL, distL_inC, isL_len] at r2
      clear q1 q2
      obtain ⟨g10, c10, rfl⟩ : ∃ g c, v2 = .slice (some ⟨g, 0, none⟩) j c := by
        rcases id r2.2 with ⟨_, h0⟩ | ⟨g, cap, cur, hv, _⟩
        · omega
        · exact ⟨g, cap, hv⟩
      have K2 := Lib.hid r2
      have K5 := Lib.hid (own_off0 H5.out p1)
      have K6 := Lib.hid (own_off0 H6.out p1)
      have K7 := Lib.hid (own_off0 H7.out p1)
      have K8 := Lib.hid (own_off0 H8.out p1)
      have P1 := Lib.hid (HO7.out.also p1)
      clear r2 p1 H5 H6 H7 H8 HO7
      go_wp2_with fail
      refine (napply_ok j g7 0 c7 g10 0 c10 (lfL O S j (rk V j)) (farN (isL O j (rk V j)) j) (lfL_len _ _ _ _) (farN_len _ _) hn1 (by omega) x1 (K7.out.lt g7 rfl).2 (K2.out.lt g10 rfl).2 (slC_hc K7.out) (inC_hc K2.out) (fun i _ => farN_bd _ j i)).mono ?_
      rintro e x2 ⟨g11, c11, rfl, hc11, h11, p2⟩
      have M11 := Lib.hid h11
      have M5 := Lib.hid (own_off0 K5.out p2)
      have M6 := Lib.hid (own_off0 K6.out p2)
      have M8 := Lib.hid (own_off0 K8.out p2)
      have P2 := Lib.hid (P1.out.also p2)
      clear h11 p2 K2 K5 K6 K7 K8 P1
      go_wp2_with fail
      refine (packed_ok x2 g8 0 j c8 (reL V O j j) (reL_len _ _ _ _) hn1 (by omega) (Rd.own M8.out (F := Old x2) (fun k hk => (M8.out.lt k hk).2)) (M8.out.lt g8 rfl).2 (fun i hi => by
        rw [Nat.zero_add, M8.out.cellAt i (by omega)]; exact boolsV_at _ i (by rw [reL_len]; exact hi))).mono ?_
      rintro e x3 ⟨g12, g13, c13, rfl, h12, h13, p3⟩
      have N12 := Lib.hid h12
      have N13 := Lib.hid h13
      have N5 := Lib.hid (own_off0 M5.out p3)
      have N6 := Lib.hid (own_off0 M6.out p3)
      have N11 := Lib.hid (own_off0 M11.out p3)
      have P3 := Lib.hid (P2.out.also p3)
      clear h12 h13 p3 M5 M6 M8 M11 P2
      go_wp2_with fail
      refine (napply_ok j g12 0 j g13 0 c13 (pkT (reL V O j j) j j) (farN (reL V O j j) j) (pkT_len _ _ _) (farN_len _ _) hn1 (by omega) x3 (N12.out.lt g12 rfl).2 (N13.out.lt g13 rfl).2 (slC_hc N12.out) (inC_hc N13.out) (fun i _ => farN_bd _ j i)).mono ?_
      rw [← packs_twice V O S j HL.out hn1 (by omega) HS.out]
      rintro e x4 ⟨g14, c14, rfl, hc14, h14, p4⟩
      have V14 := Lib.hid h14
      have V5 := Lib.hid (own_off0 N5.out p4)
      have V6 := Lib.hid (own_off0 N6.out p4)
      have V11 := Lib.hid (own_off0 N11.out p4)
      have P4 := Lib.hid (P3.out.also p4)
      clear h14 p4 N5 N6 N11 N12 N13 P3
      go_wp2_with fail
      refine (sameSl_eq (Rd.own V6.out (F := fun _ => True) (fun _ _ => trivial)) (Rd.own V5.out (F := fun _ => True) (fun _ _ => trivial))).mono ?_
      rintro e x5 ⟨rfl, p5⟩
      have X14 := Lib.hid (own_off0 V14.out p5)
      have X11 := Lib.hid (own_off0 V11.out p5)
      have P5 := Lib.hid (P4.out.also p5)
      clear p5 V5 V6 V11 V14 P4
      go_wp2_with fail
      refine (sameSl_eq (Rd.own X11.out (F := fun _ => True) (fun _ _ => trivial)) (Rd.own X14.out (F := fun _ => True) (fun _ _ => trivial))).mono ?_
      rintro e x6 ⟨rfl, p6⟩
      have P6 := Lib.hid (P5.out.also p6)
      clear p6 X11 X14 P5
      go_wp2_with fail
      refine (awake_ok _).mono ?_
      rintro e x7 ⟨rfl, p7⟩
      have P7 := Lib.hid (P6.out.also p7)
      clear p7
      go_wp2
      go_ret
      exact ⟨rfl, P7.out⟩
theorem again_out {w : World} (A A' : Option Addr) (n c m c' : Nat) (h : n < 1 ∨ 120 < n) (hm : n ≤ maxLen) : Calls Try.prog 4 #[.slice A n c, .slice A' m c'] w (BoolNew true w) := by
  unfold maxLen at hm
  go_enter Try.func4, Try.ntmps4
  rcases h with h | h
  · have hd0 : decide ((n : Int) < 1) = true := by simp; omega
    go_wp2_with fail
    refine (awake_ok _).mono ?_
    rintro e w4 ⟨rfl, h4⟩
    have H4 := Lib.hid h4
    clear h4
    go_wp2
    go_ret
    exact ⟨rfl, H4.out⟩
  · have hd0 : decide ((n : Int) < 1) = false := by simp; omega
    have hd1 : decide ((120 : Int) < (n : Int)) = true := by simp; omega
    go_wp2_with fail
    refine (awake_ok _).mono ?_
    rintro e w4 ⟨rfl, h4⟩
    have H4 := Lib.hid h4
    clear h4
    go_wp2
    go_ret
    exact ⟨rfl, H4.out⟩
theorem networkAgain_walk {w : World} {v0 v1 : Value} {n m : Nat} {V O : List Bool} (h0 : Rd w (Old w) 1 v0 n (boolsV V)) (h1 : Rd w (Old w) 1 v1 m (boolsV O)) : Calls Try.prog 4 #[v0, v1] w (BoolNew true w) := by
  have hl : V.length = n := by obtain ⟨_, _, _, _, hl, _⟩ := h0; rw [boolsV, List.length_map] at hl; omega
  have hl1 : O.length = m := by obtain ⟨_, _, _, _, hl, _⟩ := h1; rw [boolsV, List.length_map] at hl; omega
  obtain ⟨A, c, rfl, hm, hc⟩ := h0.form
  obtain ⟨A', c', rfl, hm1, hc1⟩ := h1.form
  by_cases g : n < 1 ∨ 120 < n
  · exact again_out _ _ _ _ _ _ g hm
  · obtain ⟨b, o, rfl, hb, hx⟩ := hc (by omega)
    refine again_some w b o n c m c' A' V O hl hl1 hm1 (by omega) (by omega) h0 hb (fun j hj => hx j _ (boolsV_at V j (by omega))) (fun hm0 => ?_)
    obtain ⟨b2, o2, hA, hb2, hx2⟩ := hc1 hm0
    exact ⟨b2, o2, hA, hb2, fun j hj => hx2 j _ (boolsV_at O j (by omega))⟩
end Go.Proofs.Ytlefjlclhmapaaa
