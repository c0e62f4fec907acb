/-
  Hits of slots, slots of hits; dragnetref16.Same of equal lists.
-/
import Derived.Test.YtonkhgmfeakbcaaSlOps
import Derived.Test.YtonkhgmfeakbcaaRound
import Derived.Maps.AppendAt
import Derived.Deep.MidRow
import Derived.BigQuiet
import Derived.Deep.QuietTactic
namespace Go.Proofs.Ytonkhgmfeakbcaa
open Go.RowKit
set_option linter.unusedVariables false
set_option linter.unusedSimpArgs false
set_option maxRecDepth 100000
theorem wp_append_own_at {P : Program} {w : World} {o : Oper} {a : Act} {K : Act → World → Prop} {Q : Exit → Act → World → Prop} (s x : Operand) (t : TypeId)
    (ho : o.op = .call { callee := .builtin .append, args := #[s, x], argTypes := #[t, t] })
    (base : Nat) (e : TypeId) (i : TypeInfo) (z : Value) (size bytes : Nat) (ht : P.underlying t = some (.slice e)) (hi : P.info? e = some i) (hz : i.zero = some z)
    (hsize : i.size = size) (hby : i.bytes = bytes) (hzs : z.cells.size = size) (hsz : 0 < size)
    (v : Value) (n : Nat) (xs : List Value) (hs : a.eval s = v) (hown : w.ownsRow base e size v n xs)
    (ad : Addr) (m c : Nat) (news : List Value) (hx : a.eval x = .slice (some ad) m c) (hl : news.length = m * size) (hnews : ∀ j u, news[j]? = some u → w.cell? (ad.add j) = some u) (h1 : ∀ u ∈ news, u.oneCell' = true)
    (h63 : n + m ≤ maxLen) (hbytes : (n + m) * bytes ≤ 140737488355328) (hbase : base ≤ w.heap.size)
    (h : ∀ v' w', w'.ownsRow base e size v' (n + m) (xs ++ news) → w.grownBy w' v.ownBlock → (v' = .slice none 0 0 ↔ v = .slice none 0 0 ∧ m = 0) → (v'.ownBlock = v.ownBlock ∨ v'.ownBlock = some w.heap.size) → K (a.put o.dst v') w') : o.wp P a w K Q := by
  obtain ⟨v', w', hr, h2, h3, h4, h5⟩ := run_append_own_at (P := P) w base t o.type e i z size bytes ht hi hz hsize hby hzs hsz v n xs hown ad m c news hl hnews h1 h63 hbytes hbase
  unfold Oper.wp execOp
  simp only [ho, resolve, invoke, builtin, Sem.run_bind, Sem.run_pure, Result.andThen_ok, List.map_toArray, List.map_cons, List.map_nil, hs, hx, hr]
  exact h v' w' h2 h3 h4 h5
/-- A hit: End, Rule. -/
abbrev Hi := Int × Int
def hiC (l : List Hi) : List Value := l.flatMap fun h => [.int .i64 h.1, .int .i64 h.2]
theorem hiC_len (l : List Hi) : (hiC l).length = l.length * 2 := by
  induction l with
  | nil => rfl
  | cons m l ih => simp [hiC] at ih ⊢; omega
theorem hiC_snoc (l : List Hi) (s : Hi) : hiC (l ++ [s]) = hiC l ++ [.int .i64 s.1, .int .i64 s.2] := by simp [hiC]
/-- The hit at a place. -/
def hi (l : List Hi) (k : Nat) : Hi := l.getD k (0, 0)
theorem hiC_at (l : List Hi) (k : Nat) (h : k < l.length) : (hiC l)[k * 2]? = some (.int .i64 (hi l k).1) ∧ (hiC l)[k * 2 + 1]? = some (.int .i64 (hi l k).2) := by
  induction l generalizing k with
  | nil => simp at h
  | cons m l ih =>
    cases k with
    | zero => exact ⟨rfl, rfl⟩
    | succ k =>
      have := ih k (by simpa using h)
      have e : hi (m :: l) (k + 1) = hi l k := by simp [hi]
      rw [show hiC (m :: l) = [.int .i64 m.1, .int .i64 m.2] ++ hiC l from rfl, e]
      rw [List.getElem?_append_right (by simp; omega), List.getElem?_append_right (by simp; omega)]
      simp only [List.length_cons, List.length_nil]
      rw [show (k + 1) * 2 - (0 + 1 + 1) = k * 2 by omega, show (k + 1) * 2 + 1 - (0 + 1 + 1) = k * 2 + 1 by omega]
      exact this
theorem hiC_one (l : List Hi) : ∀ u ∈ hiC l, u.oneCell' = true := by
  intro u hu
  unfold hiC at hu
  obtain ⟨s, _, hs⟩ := List.mem_flatMap.1 hu
  simp at hs
  rcases hs with rfl | rfl <;> rfl
/-- Is a slot valid? -/
def vaB (s : Sl) : Bool := decide (s.1.toNat % 2 = 1)
/-- The hit of a slot. -/
def hiV (s : Sl) : Hi := (IntKind.i64.wrap (n64 s.2.1), IntKind.i64.wrap (n64 s.2.2))
/-- The hits of slots. -/
def hiL (l : List Sl) : List Hi := (l.filter vaB).map hiV
theorem hiL_le (l : List Sl) : (hiL l).length ≤ l.length := by unfold hiL; rw [List.length_map]; exact List.length_filter_le _ _
theorem hiL_step (l : List Sl) (k : Nat) (h : k < l.length) : hiL (l.take (k + 1)) = if vaB (sl l k) then hiL (l.take k) ++ [hiV (sl l k)] else hiL (l.take k) := by
  have e : l.take (k + 1) = l.take k ++ [sl l k] := by
    rw [List.take_succ_eq_append_getElem h]
    congr 2
    simp [sl, List.getD, h]
  unfold hiL
  rw [e, List.filter_append, List.map_append]
  cases hb : vaB (sl l k) <;> simp [List.filter_cons, hb]
theorem vaB_bits (v : BitVec 64) : bits .and .u64 (n64 v) 1 = if v.toNat % 2 = 1 then 1 else 0 := by
  rw [bits_and_u64, bv_n64, bv_one]
  unfold n64
  rw [and_one]
  rcases Nat.mod_two_eq_zero_or_one v.toNat with h | h <;> rw [h] <;> rfl
theorem Try.infoHi : (Try.prog.info? 50).map (fun i => (i.zero, i.size, i.bytes)) = some (some (.agg #[.int .i64 0, .int .i64 0]), 2, 16) := by kernel_rfl
/-- A new list of hits. -/
def NewH (w : World) (L : List Hi) (e : Ending) (w' : World) : Prop := ∃ v, e = .returned v ∧ w'.ownsRow w.heap.size 50 2 v L.length (hiC L) ∧ Off Nob w w'
def HiI (w : World) (L : List Hi) (v : Value) (W : World) : Prop := W.ownsRow w.heap.size 50 2 v L.length (hiC L) ∧ Off Nob w W
theorem HiI.form {w W : World} {L : List Hi} {v : Value} (h : HiI w L v W) : ∃ A c, v = .slice A L.length c := by
  rcases h.1.2 with ⟨rfl, h0⟩ | ⟨g, cap, cur, rfl, _⟩
  · exact ⟨none, 0, by rw [h0]⟩
  · exact ⟨_, cap, rfl⟩
theorem HiI.more {w W W2 : World} {L : List Hi} {v v' : Value} {x : Hi} (h : HiI w L v W) {W1 : World} (o : Off Nob W W1) (h2 : W2.ownsRow w.heap.size 50 2 v' (L.length + 1) (hiC L ++ [.int .i64 x.1, .int .i64 x.2])) (hg : W1.grownBy W2 v.ownBlock) : HiI w (L ++ [x]) v' W2 := by
  refine ⟨?_, (h.2.also o).grown hg (fun k hk => .inr (h.1.lt k hk).1)⟩
  rw [List.length_append, hiC_snoc]
  exact h2
set_option maxHeartbeats 4000000 in
theorem hits_some (w : World) (b o n c : Nat) (L : List Sl) (hL : L.length = n) (hn : n ≤ 300) (hn0 : 0 < n) (hb : b < w.heap.size) (hc : ∀ j u, (slC L)[j]? = some u → w.cell? ⟨b, o + j, none⟩ = some u) :
    Calls Try.prog 16 #[.slice (some ⟨b, o, none⟩) n c] w (NewH w (hiL L)) := by
  obtain ⟨i0, hI, hz0, hz1, hz2⟩ := info_parts Try.infoHi
  have HC := Lib.hid hc
  have HL := Lib.hid hL
  clear hc hL
  go_enter Try.func16, Try.ntmps16
  go_wp2_with fail
  go_loopw [3, 8] (fun v i wr => ∃ j : Nat, j ≤ n ∧ i = .int .i64 (j : Int) ∧ HiI w (hiL (L.take j)) v wr) (fun _ i _ => n - (intOf i).toNat)
  case atStart => exact ⟨0, Nat.zero_le _, rfl, (World.ownsRow_nil _ _ _ _ : World.ownsRow _ w.heap.size 50 2 (.slice none 0 0) 0 []), Off.refl _ _⟩
  case round =>
    obtain ⟨j, hj, rfl, hrel⟩ := hrel
    by_cases hlt : j < n
    · obtain ⟨d0, d1, d2⟩ := Rd.slot (F := Nob) (n := n) (c := c) (fun j u hu => (hrel.2.cell_old hb _).trans (HC.out j u hu)) j (by rw [HL.out]; exact hlt)
      have HS := Lib.hid (hiL_step L j (by rw [HL.out]; exact hlt))
      have hll := hiL_le (L.take j)
      rw [List.length_take, HL.out, Nat.min_eq_left hj] at hll
      obtain ⟨M, hM⟩ : ∃ M, hiL (L.take j) = M := ⟨_, rfl⟩
      rw [hM] at hrel HS hll
      obtain ⟨A, cap, rfl⟩ := hrel.form
      have HR := Lib.hid hrel
      obtain ⟨x, hx⟩ : ∃ x, sl L j = x := ⟨_, rfl⟩
      rw [hx] at d0 d1 d2 HS
      have hvb := vaB_bits x.1
      have HX := Lib.hid (show hiV x = (IntKind.i64.wrap (n64 x.2.1), IntKind.i64.wrap (n64 x.2.2)) from rfl)
      have HV : Hid (vaB x = decide (x.1.toNat % 2 = 1)) := Lib.hid rfl
      have hq : x.1.toNat % 2 = 1 ∨ x.1.toNat % 2 = 0 := by omega
      have HQ := Lib.hid hq
      obtain ⟨v0, hv0⟩ : ∃ v, n64 x.1 = v := ⟨_, rfl⟩
      obtain ⟨v1, hv1⟩ : ∃ v, n64 x.2.1 = v := ⟨_, rfl⟩
      obtain ⟨v2, hv2⟩ : ∃ v, n64 x.2.2 = v := ⟨_, rfl⟩
      rw [hv0] at d0 hvb
      rw [hv1] at d1 HX
      rw [hv2] at d2 HX
      obtain ⟨z1, hz1'⟩ : ∃ v, IntKind.i64.wrap v1 = v := ⟨_, rfl⟩
      obtain ⟨z2, hz2'⟩ : ∃ v, IntKind.i64.wrap v2 = v := ⟨_, rfl⟩
      rw [hz1', hz2'] at HX
      clear hM hrel hx hv0 hv1 hv2 hq
      rcases HQ.out with hq | hq
      · rw [if_pos hq] at hvb
        have HN : Hid (hiL (L.take (j + 1)) = M ++ [(z1, z2)]) := Lib.hid (by rw [HS.out, HV.out, decide_eq_true hq, if_pos rfl, HX.out])
        clear hq HQ HS HV HX
        go_wp2_with (at_builtin; refine wpList_append_own_at _ rfl _ _ 23 rfl w.heap.size 50 i0 (.agg #[.int .i64 0, .int .i64 0]) 2 16 Try.underlying23 hI hz0 hz1 hz2 rfl (by decide) (.slice A M.length cap) M.length (hiC M) rfl ((HR.out.1.alloc _).alloc _) ⟨wr.heap.size + 1, 0, none⟩ 1 1 [.int .i64 z1, .int .i64 z2] rfl rfl ?c1 ?c2 ?c3 ?c4 ?c5 ?_)
        case c1 => have := cell_two_new' (wr.alloc (.cells #[.int .u64 v0, .int .u64 v1, .int .u64 v2] 75)) (.int .i64 z1) (.int .i64 z2) 50; simpa using this
        case c2 => intro u hu; simp at hu; rcases hu with rfl | rfl <;> rfl
        case c3 => unfold maxLen; omega
        case c4 => omega
        case c5 => have := HR.out.2.size; simp; omega
        intro v' w1 hown' hgrow hnil hat
        have H1 := Lib.hid (HiI.more (x := (z1, z2)) HR.out (Off.alloc (Off.alloc (Off.refl _ _) _) _) hown' hgrow)
        clear hown' hgrow hnil hat
        go_wp2_with fail
        go_roundw
        case rel => exact ⟨j + 1, by omega, by go_num, by rw [HN.out]; exact H1.out⟩
        case measure => simp [intOf]; omega
      · rw [if_neg (by omega)] at hvb
        have HN : Hid (hiL (L.take (j + 1)) = M) := Lib.hid (by rw [HS.out, HV.out, decide_eq_false (by omega)]; rfl)
        clear hq HQ HS HV HX
        go_wp2_with fail
        go_roundw
        case rel => exact ⟨j + 1, by omega, by go_num, by rw [HN.out]; exact ⟨HR.out.1.alloc _, HR.out.2.alloc _⟩⟩
        case measure => simp [intOf]; omega
    · obtain rfl : j = n := by omega
      have HR := Lib.hid hrel
      clear hrel
      go_wp2_with fail
      go_ret
      exact ⟨_, rfl, by have := HR.out.1; rwa [List.take_of_length_le (by rw [HL.out]; exact Nat.le_refl _)] at this, HR.out.2⟩
set_option maxHeartbeats 4000000 in
theorem rhits_some (w : World) (b o n c : Nat) (L : List Sl) (hL : L.length = n) (hn : n ≤ 300) (hn0 : 0 < n) (hb : b < w.heap.size) (hc : ∀ j u, (slC L)[j]? = some u → w.cell? ⟨b, o + j, none⟩ = some u) :
    Calls Try.prog 17 #[.slice (some ⟨b, o, none⟩) n c] w (NewH w (hiL L)) := by
  obtain ⟨i0, hI, hz0, hz1, hz2⟩ := info_parts Try.infoHi
  have HC := Lib.hid hc
  have HL := Lib.hid hL
  clear hc hL
  go_enter Try.func17, Try.ntmps17
  go_wp2_with fail
  go_loopw [3, 4] (fun v i wr => ∃ j : Nat, j ≤ n ∧ i = .int .i64 (j : Int) ∧ HiI w (hiL (L.take j)) v wr) (fun _ i _ => n - (intOf i).toNat)
  case atStart => exact ⟨0, Nat.zero_le _, rfl, (World.ownsRow_nil _ _ _ _ : World.ownsRow _ w.heap.size 50 2 (.slice none 0 0) 0 []), Off.refl _ _⟩
  case round =>
    obtain ⟨j, hj, rfl, hrel⟩ := hrel
    by_cases hlt : j < n
    · obtain ⟨d0, d1, d2⟩ := Rd.slot (F := Nob) (n := n) (c := c) (fun j u hu => (hrel.2.cell_old hb _).trans (HC.out j u hu)) j (by rw [HL.out]; exact hlt)
      have HS := Lib.hid (hiL_step L j (by rw [HL.out]; exact hlt))
      have hll := hiL_le (L.take j)
      rw [List.length_take, HL.out, Nat.min_eq_left hj] at hll
      obtain ⟨M, hM⟩ : ∃ M, hiL (L.take j) = M := ⟨_, rfl⟩
      rw [hM] at hrel HS hll
      obtain ⟨A, cap, rfl⟩ := hrel.form
      have HR := Lib.hid hrel
      obtain ⟨x, hx⟩ : ∃ x, sl L j = x := ⟨_, rfl⟩
      rw [hx] at d0 d1 d2 HS
      have hvb : (n64 x.1 % 2 == 1) = decide (x.1.toNat % 2 = 1) := by
        unfold n64; rw [Bool.eq_iff_iff]; simp; omega
      have HX := Lib.hid (show hiV x = (IntKind.i64.wrap (n64 x.2.1), IntKind.i64.wrap (n64 x.2.2)) from rfl)
      have HV : Hid (vaB x = decide (x.1.toNat % 2 = 1)) := Lib.hid rfl
      have hq : x.1.toNat % 2 = 1 ∨ x.1.toNat % 2 = 0 := by omega
      have HQ := Lib.hid hq
      obtain ⟨v0, hv0⟩ : ∃ v, n64 x.1 = v := ⟨_, rfl⟩
      obtain ⟨v1, hv1⟩ : ∃ v, n64 x.2.1 = v := ⟨_, rfl⟩
      obtain ⟨v2, hv2⟩ : ∃ v, n64 x.2.2 = v := ⟨_, rfl⟩
      rw [hv0] at d0 hvb
      have hv00 : 0 ≤ v0 := by rw [← hv0]; exact n64_nonneg _
      rw [hv1] at d1 HX
      rw [hv2] at d2 HX
      obtain ⟨z1, hz1'⟩ : ∃ v, IntKind.i64.wrap v1 = v := ⟨_, rfl⟩
      obtain ⟨z2, hz2'⟩ : ∃ v, IntKind.i64.wrap v2 = v := ⟨_, rfl⟩
      rw [hz1', hz2'] at HX
      clear hM hrel hx hv0 hv1 hv2 hq
      rcases HQ.out with hq | hq
      · rw [decide_eq_true hq] at hvb
        have HN : Hid (hiL (L.take (j + 1)) = M ++ [(z1, z2)]) := Lib.hid (by rw [HS.out, HV.out, decide_eq_true hq, if_pos rfl, HX.out])
        clear hq HQ HS HV HX
        have HD := Lib.hid (And.intro d1 d2)
        go_wp2_with fail
        rename_i K6 hK6
        refine wp_region_held_drew (S := fun W => W.cell? ⟨b, o + j * 3 + 1, none⟩ = some (.int .u64 v1) ∧ W.cell? ⟨b, o + j * 3 + 2, none⟩ = some (.int .u64 v2)) (by kernel_rfl) ⟨d1, d2⟩ (fun hHeld => ?_)
        refine wpAnyH_take (i := 0) (v := ?v0) rfl (by kernel_rfl) (by kernel_rfl) (by kernel_rfl) (fun _ _ _ h => h) (Or.inl ⟨by rfl, ?h0⟩) (by assumption) ?r0
        case h0 => (intro w hSw; (try dsimp only at hSw); go_simp <;> with_reducible rfl)
        try simp only [Act.put, List.getElem_toArray, List.getElem_cons_zero, List.getElem_cons_succ, List.setIfInBounds_toArray, List.set_cons_zero, List.set_cons_succ]
        refine wpAnyH_take (i := 1) (v := ?v1) rfl (by kernel_rfl) (by kernel_rfl) (by kernel_rfl) (fun _ _ _ h => h) (Or.inl ⟨by rfl, ?h1⟩) (by assumption) ?r1
        case h1 => (intro w hSw; (try dsimp only at hSw); go_simp <;> with_reducible rfl)
        try simp only [Act.put, List.getElem_toArray, List.getElem_cons_zero, List.getElem_cons_succ, List.setIfInBounds_toArray, List.set_cons_zero, List.set_cons_succ]
        refine wpAnyH_take (i := 2) (v := ?v2) rfl (by kernel_rfl) (by kernel_rfl) (by kernel_rfl) (fun _ _ _ h => h) (Or.inl ⟨by rfl, ?h2⟩) (by assumption) ?r2
        case h2 => (intro w hSw; (try dsimp only at hSw); go_simp <;> with_reducible rfl)
        try simp only [Act.put, List.getElem_toArray, List.getElem_cons_zero, List.getElem_cons_succ, List.setIfInBounds_toArray, List.set_cons_zero, List.set_cons_succ]
        refine wpAnyH_take (i := 3) (v := ?v3) rfl (by kernel_rfl) (by kernel_rfl) (by kernel_rfl) (fun _ _ _ h => h) (Or.inl ⟨by rfl, ?h3⟩) (by assumption) ?r3
        case h3 => (intro w hSw; (try dsimp only at hSw); go_simp <;> with_reducible rfl)
        try simp only [Act.put, List.getElem_toArray, List.getElem_cons_zero, List.getElem_cons_succ, List.setIfInBounds_toArray, List.set_cons_zero, List.set_cons_succ]
        refine wpAnyH_take (i := 4) (v := ?v4) rfl (by kernel_rfl) (by kernel_rfl) (by kernel_rfl) (fun _ _ _ h => h) (Or.inl ⟨by rfl, ?h4⟩) (by assumption) ?r4
        case h4 => (intro w hSw; (try dsimp only at hSw); go_simp <;> with_reducible rfl)
        try simp only [Act.put, List.getElem_toArray, List.getElem_cons_zero, List.getElem_cons_succ, List.setIfInBounds_toArray, List.set_cons_zero, List.set_cons_succ]
        refine wpAnyH_take (i := 5) (v := ?v5) rfl (by kernel_rfl) (by kernel_rfl) (by kernel_rfl) (fun _ _ _ h => h) (Or.inl ⟨by rfl, ?h5⟩) (by assumption) ?r5
        case h5 => (intro w hSw; (try dsimp only at hSw); go_simp <;> with_reducible rfl)
        try simp only [Act.put, List.getElem_toArray, List.getElem_cons_zero, List.getElem_cons_succ, List.setIfInBounds_toArray, List.set_cons_zero, List.set_cons_succ]
        refine wpAnyH_take (i := 6) (v := ?v6) rfl (by kernel_rfl) (by kernel_rfl) (by kernel_rfl) (fun _ _ _ h => h) (Or.inl ⟨by rfl, ?h6⟩) (by assumption) ?r6
        case h6 => (intro w hSw; (try dsimp only at hSw); go_simp <;> with_reducible rfl)
        try simp only [Act.put, List.getElem_toArray, List.getElem_cons_zero, List.getElem_cons_succ, List.setIfInBounds_toArray, List.set_cons_zero, List.set_cons_succ]
        refine wpAnyH_take (i := 7) (v := ?v7) rfl (by kernel_rfl) (by kernel_rfl) (by kernel_rfl) (fun _ _ _ h => h) (Or.inl ⟨by rfl, ?h7⟩) (by assumption) ?r7
        case h7 => (intro w hSw; (try dsimp only at hSw); go_simp <;> with_reducible rfl)
        try simp only [Act.put, List.getElem_toArray, List.getElem_cons_zero, List.getElem_cons_succ, List.setIfInBounds_toArray, List.set_cons_zero, List.set_cons_succ]
        refine wpAnyH_take (i := 8) (v := ?v8) rfl (by kernel_rfl) (by kernel_rfl) (by kernel_rfl) (fun _ _ _ h => h) (Or.inl ⟨by rfl, ?h8⟩) (by assumption) ?r8
        case h8 => (intro w hSw; (try dsimp only at hSw); go_simp <;> with_reducible rfl)
        try simp only [Act.put, List.getElem_toArray, List.getElem_cons_zero, List.getElem_cons_succ, List.setIfInBounds_toArray, List.set_cons_zero, List.set_cons_succ]
        refine wpAnyH_take (i := 9) (v := ?v9) rfl (by kernel_rfl) (by kernel_rfl) (by kernel_rfl) (fun _ _ _ h => h) (Or.inl ⟨by rfl, ?h9⟩) (by assumption) ?r9
        case h9 => (intro w hSw; (try dsimp only at hSw); go_simp <;> with_reducible rfl)
        try simp only [Act.put, List.getElem_toArray, List.getElem_cons_zero, List.getElem_cons_succ, List.setIfInBounds_toArray, List.set_cons_zero, List.set_cons_succ]
        refine wpAnyH_take (i := 10) (v := ?v10) rfl (by kernel_rfl) (by kernel_rfl) (by kernel_rfl) (fun _ _ _ h => h) (Or.inl ⟨by rfl, ?h10⟩) (by assumption) ?r10
        case h10 => (intro w hSw; (try dsimp only at hSw); go_simp <;> with_reducible rfl)
        try simp only [Act.put, List.getElem_toArray, List.getElem_cons_zero, List.getElem_cons_succ, List.setIfInBounds_toArray, List.set_cons_zero, List.set_cons_succ]
        refine wpAnyH_take (i := 11) (v := ?v11) rfl (by kernel_rfl) (by kernel_rfl) (by kernel_rfl) (fun _ _ _ h => h) (Or.inl ⟨by rfl, ?h11⟩) (by assumption) ?r11
        case h11 => (intro w hSw; (try dsimp only at hSw); go_simp <;> with_reducible rfl)
        try simp only [Act.put, List.getElem_toArray, List.getElem_cons_zero, List.getElem_cons_succ, List.setIfInBounds_toArray, List.set_cons_zero, List.set_cons_succ]
        refine wpAnyH_take (i := 12) (v := ?v12) rfl (by kernel_rfl) (by kernel_rfl) (by kernel_rfl) (fun _ _ _ h => h) (Or.inl ⟨by rfl, ?h12⟩) (by assumption) ?r12
        case h12 => (intro w hSw; (try dsimp only at hSw); go_simp <;> with_reducible rfl)
        try simp only [Act.put, List.getElem_toArray, List.getElem_cons_zero, List.getElem_cons_succ, List.setIfInBounds_toArray, List.set_cons_zero, List.set_cons_succ]
        refine wpAnyH_take (i := 13) (v := ?v13) rfl (by kernel_rfl) (by kernel_rfl) (by kernel_rfl) (fun _ _ _ h => h) (Or.inl ⟨by rfl, ?h13⟩) (by assumption) ?r13
        case h13 => (intro w hSw; (try dsimp only at hSw); go_simp <;> with_reducible rfl)
        try simp only [Act.put, List.getElem_toArray, List.getElem_cons_zero, List.getElem_cons_succ, List.setIfInBounds_toArray, List.set_cons_zero, List.set_cons_succ]
        refine wpAnyH_ready (rs := [14]) (by kernel_rfl) (by simp) ?_
        refine AllReadyH.cons rfl (fun K hK => ?s14) ?m14
        case s14 =>
          go_simp
          refine hK.out _ _ ?_ (fun hHeld => ?_)
          · first | with_reducible assumption | exact hk.out | go_keep
          clear hK K
          try simp only [Act.put, List.getElem_toArray, List.getElem_cons_zero, List.getElem_cons_succ, List.setIfInBounds_toArray, List.set_cons_zero, List.set_cons_succ]
          refine wpAnyH_ready (rs := [15]) (by kernel_rfl) (by simp) ?_
          refine AllReadyH.cons rfl (fun K hK => ?s15) ?m15
          case s15 =>
            refine wp_append_own_at _ _ 23 rfl w.heap.size 50 i0 (.agg #[.int .i64 0, .int .i64 0]) 2 16 Try.underlying23 hI hz0 hz1 hz2 rfl (by decide) (.slice A M.length cap) M.length (hiC M) rfl (HR.out.1.alloc _) ⟨wr.heap.size, 0, none⟩ 1 1 [.int .i64 z1, .int .i64 z2] rfl rfl ?c1 ?c2 ?c3 ?c4 ?c5 ?_
            case c1 => exact cell_two_new' wr.drew (.int .i64 z1) (.int .i64 z2) 50
            case c2 => intro u hu; simp at hu; rcases hu with rfl | rfl <;> rfl
            case c3 => unfold maxLen; omega
            case c4 => omega
            case c5 => have := HR.out.2.size; simp; omega
            intro v' w1 hown' hgrow hnil hat
            have H1 := Lib.hid (HiI.more (x := (z1, z2)) HR.out (Off.alloc (Off.drew (Off.refl _ _)) _) hown' hgrow)
            have hk := Lib.hid (show w1.cell? ⟨b, o + j * 3 + 1, none⟩ = some (.int .u64 v1) ∧ w1.cell? ⟨b, o + j * 3 + 2, none⟩ = some (.int .u64 v2) from ⟨(H1.out.2.cell_old hb _).trans ((HR.out.2.cell_old hb _).symm.trans HD.out.1), (H1.out.2.cell_old hb _).trans ((HR.out.2.cell_old hb _).symm.trans HD.out.2)⟩)
            clear hown' hgrow hnil hat
            refine hK.out _ _ ?_ (fun hHeld => ?_)
            · first | with_reducible assumption | exact hk.out | go_keep
            clear hK K
            try simp only [Act.put, List.getElem_toArray, List.getElem_cons_zero, List.getElem_cons_succ, List.setIfInBounds_toArray, List.set_cons_zero, List.set_cons_succ]
            refine wpAnyH_take (i := 16) (v := ?v16) rfl (by kernel_rfl) (by kernel_rfl) (by kernel_rfl) (fun _ _ _ h => h) (Or.inl ⟨by rfl, ?h16⟩) (by assumption) ?r16
            case h16 => (intro w hSw; (try dsimp only at hSw); go_simp <;> with_reducible rfl)
            try simp only [Act.put, List.getElem_toArray, List.getElem_cons_zero, List.getElem_cons_succ, List.setIfInBounds_toArray, List.set_cons_zero, List.set_cons_succ]
            refine wpAnyH_done (by kernel_rfl) ?_ _
            go_wp2_with fail
            go_roundw
            case rel => exact ⟨j + 1, by omega, by go_num, by rw [HN.out]; exact H1.out⟩
            case measure => simp [intOf]; omega
          exact AllReadyH.nil
        exact AllReadyH.nil
      · rw [decide_eq_false (by omega)] at hvb
        have HN : Hid (hiL (L.take (j + 1)) = M) := Lib.hid (by rw [HS.out, HV.out, decide_eq_false (by omega)]; rfl)
        clear hq HQ HS HV HX
        go_wp2_with fail
        go_roundw
        case rel => exact ⟨j + 1, by omega, by go_num, by rw [HN.out]; exact HR.out⟩
        case measure => simp [intOf]; omega
    · obtain rfl : j = n := by omega
      have HR := Lib.hid hrel
      clear hrel
      go_wp2_with fail
      go_ret
      exact ⟨_, rfl, by have := HR.out.1; rwa [List.take_of_length_le (by rw [HL.out]; exact Nat.le_refl _)] at this, HR.out.2⟩
end Go.Proofs.Ytonkhgmfeakbcaa
