import Derived.Test.YtedbafgejladiaaSlFill
import Derived.Test.YtedbafgejladiaaRound
import Derived.Maps.AppendAt
import Derived.Deep.MidRow
import Derived.BigQuiet
import Derived.Deep.QuietTactic
import Derived.Test.YtedbafgejladiaaRef07
import Derived.Test.YtedbafgejladiaaOneRow
/-
  Hits of slots, slots of hits; dragnetref16.Same of equal lists.
-/
namespace Go.Proofs.Ytedbafgejladiaa
open Go.RowKit
set_option linter.unusedVariables false
set_option linter.unusedSimpArgs false
set_option maxRecDepth 100000
theorem wp_append_own_at {P : Program} {w : World} {o : Oper} {a : Act} {K : Act → World → Prop} {Q : Exit → Act → World → Prop} (s x : Operand) (t : TypeId)
    (ho : o.op = .call { callee := .builtin .append, args := #[s, x], argTypes := #[t, t] })
    (base : Nat) (e : TypeId) (i : TypeInfo) (z : Value) (size bytes : Nat) (ht : P.underlying t = some (.slice e)) (hi : P.info? e = some i) (hz : i.zero = some z)
    (hsize : i.size = size) (hby : i.bytes = bytes) (hzs : z.cells.size = size) (hsz : 0 < size)
    (v : Value) (n : Nat) (xs : List Value) (hs : a.eval s = v) (hown : w.ownsRow base e size v n xs)
    (ad : Addr) (m c : Nat) (news : List Value) (hx : a.eval x = .slice (some ad) m c) (hl : news.length = m * size) (hnews : ∀ j u, news[j]? = some u → w.cell? (ad.add j) = some u) (h1 : ∀ u ∈ news, u.oneCell' = true)
    (h63 : n + m ≤ maxLen) (hbytes : (n + m) * bytes ≤ 140737488355328) (hbase : base ≤ w.heap.size)
    (h : ∀ v' w', w'.ownsRow base e size v' (n + m) (xs ++ news) → w.grownBy w' v.ownBlock → (v' = .slice none 0 0 ↔ v = .slice none 0 0 ∧ m = 0) → (v'.ownBlock = v.ownBlock ∨ v'.ownBlock = some w.heap.size) → K (a.put o.dst v') w') : o.wp P a w K Q := by
  obtain ⟨v', w', hr, h2, h3, h4, h5⟩ := run_append_own_at (P := P) w base t o.type e i z size bytes ht hi hz hsize hby hzs hsz v n xs hown ad m c news hl hnews h1 h63 hbytes hbase
  unfold Oper.wp execOp
  simp only [ho, resolve, invoke, builtin, Sem.run_bind, Sem.run_pure, Result.andThen_ok, List.map_toArray, List.map_cons, List.map_nil, hs, hx, hr]
  exact h v' w' h2 h3 h4 h5
/-- A hit: End, Rule. -/
abbrev Hi := Int × Int
def hiC (l : List Hi) : List Value := l.flatMap fun h => [.int .i64 h.1, .int .i64 h.2]
theorem hiC_len (l : List Hi) : (hiC l).length = l.length * 2 := by
  induction l with
  | nil => rfl
  | cons m l ih => simp [hiC] at ih ⊢; omega
theorem hiC_snoc (l : List Hi) (s : Hi) : hiC (l ++ [s]) = hiC l ++ [.int .i64 s.1, .int .i64 s.2] := by simp [hiC]
/-- The hit at a place. -/
def hi (l : List Hi) (k : Nat) : Hi := l.getD k (0, 0)
theorem hiC_at (l : List Hi) (k : Nat) (h : k < l.length) : (hiC l)[k * 2]? = some (.int .i64 (hi l k).1) ∧ (hiC l)[k * 2 + 1]? = some (.int .i64 (hi l k).2) := by
  induction l generalizing k with
  | nil => simp at h
  | cons m l ih =>
    cases k with
    | zero => exact ⟨rfl, rfl⟩
    | succ k =>
      have := ih k (by simpa using h)
      have e : hi (m :: l) (k + 1) = hi l k := by simp [hi]
      rw [show hiC (m :: l) = [.int .i64 m.1, .int .i64 m.2] ++ hiC l from rfl, e]
      rw [List.getElem?_append_right (by simp; omega), List.getElem?_append_right (by simp; omega)]
      simp only [List.length_cons, List.length_nil]
      rw [show (k + 1) * 2 - (0 + 1 + 1) = k * 2 by omega, show (k + 1) * 2 + 1 - (0 + 1 + 1) = k * 2 + 1 by omega]
      exact this
theorem hiC_one (l : List Hi) : ∀ u ∈ hiC l, u.oneCell' = true := by
  intro u hu
  unfold hiC at hu
  obtain ⟨s, _, hs⟩ := List.mem_flatMap.1 hu
  simp at hs
  rcases hs with rfl | rfl <;> rfl
/-- Is a slot valid? -/
def vaB (s : Sl) : Bool := decide (s.1.toNat % 2 = 1)
/-- The hit of a slot. -/
def hiV (s : Sl) : Hi := (IntKind.i64.wrap (n64 s.2.1), IntKind.i64.wrap (n64 s.2.2))
/-- The hits of slots. -/
def hiL (l : List Sl) : List Hi := (l.filter vaB).map hiV
theorem hiL_le (l : List Sl) : (hiL l).length ≤ l.length := by unfold hiL; rw [List.length_map]; exact List.length_filter_le _ _
theorem hiL_step (l : List Sl) (k : Nat) (h : k < l.length) : hiL (l.take (k + 1)) = if vaB (sl l k) then hiL (l.take k) ++ [hiV (sl l k)] else hiL (l.take k) := by
  have e : l.take (k + 1) = l.take k ++ [sl l k] := by
    rw [List.take_succ_eq_append_getElem h]
    congr 2
    simp [sl, List.getD, h]
  unfold hiL
  rw [e, List.filter_append, List.map_append]
  cases hb : vaB (sl l k) <;> simp [List.filter_cons, hb]
theorem vaB_bits (v : BitVec 64) : bits .and .u64 (n64 v) 1 = if v.toNat % 2 = 1 then 1 else 0 := by
  rw [bits_and_u64, bv_n64, bv_one]
  unfold n64
  rw [and_one]
  rcases Nat.mod_two_eq_zero_or_one v.toNat with h | h <;> rw [h] <;> rfl
theorem Try.infoHi : (Try.prog.info? 53).map (fun i => (i.zero, i.size, i.bytes)) = some (some (.agg #[.int .i64 0, .int .i64 0]), 2, 16) := by kernel_rfl
/-- A new list of hits. -/
def NewH (w : World) (L : List Hi) (e : Ending) (w' : World) : Prop := ∃ v, e = .returned v ∧ w'.ownsRow w.heap.size 53 2 v L.length (hiC L) ∧ Off Nob w w'
def HiI (w : World) (L : List Hi) (v : Value) (W : World) : Prop := W.ownsRow w.heap.size 53 2 v L.length (hiC L) ∧ Off Nob w W
theorem HiI.form {w W : World} {L : List Hi} {v : Value} (h : HiI w L v W) : ∃ A c, v = .slice A L.length c := by
  rcases h.1.2 with ⟨rfl, h0⟩ | ⟨g, cap, cur, rfl, _⟩
  · exact ⟨none, 0, by rw [h0]⟩
  · exact ⟨_, cap, rfl⟩
theorem HiI.more {w W W2 : World} {L : List Hi} {v v' : Value} {x : Hi} (h : HiI w L v W) {W1 : World} (o : Off Nob W W1) (h2 : W2.ownsRow w.heap.size 53 2 v' (L.length + 1) (hiC L ++ [.int .i64 x.1, .int .i64 x.2])) (hg : W1.grownBy W2 v.ownBlock) : HiI w (L ++ [x]) v' W2 := by
  refine ⟨?_, (h.2.also o).grown hg (fun k hk => .inr (h.1.lt k hk).1)⟩
  rw [List.length_append, hiC_snoc]
  exact h2
set_option maxHeartbeats 4000000 in
theorem hits_some (w : World) (b o n c : Nat) (L : List Sl) (hL : L.length = n) (hn : n ≤ 300) (hn0 : 0 < n) (hb : b < w.heap.size) (hc : ∀ j u, (slC L)[j]? = some u → w.cell? ⟨b, o + j, none⟩ = some u) :
    Calls Try.prog 19 #[.slice (some ⟨b, o, none⟩) n c] w (NewH w (hiL L)) := by
  obtain ⟨i0, hI, hz0, hz1, hz2⟩ := info_parts Try.infoHi
  have HC := Lib.hid hc
  have HL := Lib.hid hL
  clear hc hL
  go_enter Try.func19, Try.ntmps19
  go_wp2_with fail
  go_loopw [3, 8] (fun v i wr => ∃ j : Nat, j ≤ n ∧ i = .int .i64 (j : Int) ∧ HiI w (hiL (L.take j)) v wr) (fun _ i _ => n - (intOf i).toNat)
  case atStart => exact ⟨0, Nat.zero_le _, rfl, (World.ownsRow_nil _ _ _ _ : World.ownsRow _ w.heap.size 53 2 (.slice none 0 0) 0 []), Off.refl _ _⟩
  case round =>
    obtain ⟨j, hj, rfl, hrel⟩ := hrel
    by_cases hlt : j < n
    · obtain ⟨d0, d1, d2⟩ := Rd.slot (F := Nob) (n := n) (c := c) (fun j u hu => (hrel.2.cell_old hb _).trans (HC.out j u hu)) j (by rw [HL.out]; exact hlt)
      have HS := Lib.hid (hiL_step L j (by rw [HL.out]; exact hlt))
      have hll := hiL_le (L.take j)
      rw [List.length_take, HL.out, Nat.min_eq_left hj] at hll
      obtain ⟨M, hM⟩ : ∃ M, hiL (L.take j) = M := ⟨_, rfl⟩
      rw [hM] at hrel HS hll
      obtain ⟨A, cap, rfl⟩ := hrel.form
      have HR := Lib.hid hrel
      obtain ⟨x, hx⟩ : ∃ x, sl L j = x := ⟨_, rfl⟩
      rw [hx] at d0 d1 d2 HS
      have hvb := vaB_bits x.1
      have HX := Lib.hid (show hiV x = (IntKind.i64.wrap (n64 x.2.1), IntKind.i64.wrap (n64 x.2.2)) from rfl)
      have HV : Hid (vaB x = decide (x.1.toNat % 2 = 1)) := Lib.hid rfl
      have hq : x.1.toNat % 2 = 1 ∨ x.1.toNat % 2 = 0 := by omega
      have HQ := Lib.hid hq
      obtain ⟨v0, hv0⟩ : ∃ v, n64 x.1 = v := ⟨_, rfl⟩
      obtain ⟨v1, hv1⟩ : ∃ v, n64 x.2.1 = v := ⟨_, rfl⟩
      obtain ⟨v2, hv2⟩ : ∃ v, n64 x.2.2 = v := ⟨_, rfl⟩
      rw [hv0] at d0 hvb
      rw [hv1] at d1 HX
      rw [hv2] at d2 HX
      obtain ⟨z1, hz1'⟩ : ∃ v, IntKind.i64.wrap v1 = v := ⟨_, rfl⟩
      obtain ⟨z2, hz2'⟩ : ∃ v, IntKind.i64.wrap v2 = v := ⟨_, rfl⟩
      rw [hz1', hz2'] at HX
      clear hM hrel hx hv0 hv1 hv2 hq
      rcases HQ.out with hq | hq
      · rw [if_pos hq] at hvb
        have HN : Hid (hiL (L.take (j + 1)) = M ++ [(z1, z2)]) := Lib.hid (by rw [HS.out, HV.out, decide_eq_true hq, if_pos rfl, HX.out])
        clear hq HQ HS HV HX
        go_wp2_with (at_builtin; refine wpList_append_own_at _ rfl _ _ 51 rfl w.heap.size 53 i0 (.agg #[.int .i64 0, .int .i64 0]) 2 16 Try.underlying51 hI hz0 hz1 hz2 rfl (by decide) (.slice A M.length cap) M.length (hiC M) rfl ((HR.out.1.alloc _).alloc _) ⟨wr.heap.size + 1, 0, none⟩ 1 1 [.int .i64 z1, .int .i64 z2] rfl rfl ?c1 ?c2 ?c3 ?c4 ?c5 ?_)
        case c1 => have := cell_two_new' (wr.alloc (.cells #[.int .u64 v0, .int .u64 v1, .int .u64 v2] 47)) (.int .i64 z1) (.int .i64 z2) 53; simpa using this
        case c2 => intro u hu; simp at hu; rcases hu with rfl | rfl <;> rfl
        case c3 => unfold maxLen; omega
        case c4 => omega
        case c5 => have := HR.out.2.size; simp; omega
        intro v' w1 hown' hgrow hnil hat
        have H1 := Lib.hid (HiI.more (x := (z1, z2)) HR.out (Off.alloc (Off.alloc (Off.refl _ _) _) _) hown' hgrow)
        clear hown' hgrow hnil hat
        go_wp2_with fail
        go_roundw
        case rel => exact ⟨j + 1, by omega, by go_num, by rw [HN.out]; exact H1.out⟩
        case measure => simp [intOf]; omega
      · rw [if_neg (by omega)] at hvb
        have HN : Hid (hiL (L.take (j + 1)) = M) := Lib.hid (by rw [HS.out, HV.out, decide_eq_false (by omega)]; rfl)
        clear hq HQ HS HV HX
        go_wp2_with fail
        go_roundw
        case rel => exact ⟨j + 1, by omega, by go_num, by rw [HN.out]; exact ⟨HR.out.1.alloc _, HR.out.2.alloc _⟩⟩
        case measure => simp [intOf]; omega
    · obtain rfl : j = n := by omega
      have HR := Lib.hid hrel
      clear hrel
      go_wp2_with fail
      go_ret
      exact ⟨_, rfl, by have := HR.out.1; rwa [List.take_of_length_le (by rw [HL.out]; exact Nat.le_refl _)] at this, HR.out.2⟩
end Go.Proofs.Ytedbafgejladiaa

/-
  slots.Of.
-/
namespace Go.Proofs.Ytedbafgejladiaa
open Go.RowKit
set_option linter.unusedVariables false
set_option linter.unusedSimpArgs false
set_option maxRecDepth 100000
/-- The slot of a hit. -/
def ofV (x : Hi) : Sl := (msk true, bv x.1, bv x.2)
/-- The slots of the first k hits, and empty ones. -/
def ofK (H : List Hi) (n k : Nat) : List Sl := (H.take k).map ofV ++ List.replicate (n - k) sl0
theorem ofK_len (H : List Hi) (n k : Nat) (h : k ≤ n) (h2 : k ≤ H.length) : (ofK H n k).length = n := by simp [ofK]; omega
theorem ofK_zero (H : List Hi) (n : Nat) : ofK H n 0 = List.replicate n sl0 := by simp [ofK]
theorem ofK_set (H : List Hi) (n k : Nat) (h : k < n) (h2 : k < H.length) : (ofK H n k).set k (ofV (hi H k)) = ofK H n (k + 1) := by
  unfold ofK
  have e : H.take (k + 1) = H.take k ++ [hi H k] := by
    rw [List.take_succ_eq_append_getElem h2]
    congr 2
    simp [hi, List.getD, h2]
  rw [List.set_append_right _ _ (by simp; omega), e, List.map_append, List.append_assoc]
  congr 1
  rw [show k - (List.map ofV (List.take k H)).length = 0 by simp; omega]
  obtain ⟨m, hm⟩ : ∃ m, n - k = m + 1 := ⟨n - k - 1, by omega⟩
  rw [hm, show n - (k + 1) = m by omega]
  rfl
/-- The slots of hits. -/
def ofL (H : List Hi) (n : Nat) : List Sl := ofK H n H.length
/-- The error of Of. -/
def ofE (m : Nat) (n : Int) : Int := if n < 1 ∨ 288 < n then 7 else if n < m then 3 else 0
def OfI (w : World) (g n : Nat) (A : List Sl) (W : World) : Prop := W.ownsRow w.heap.size 47 3 (.slice (some ⟨g, 0, none⟩) n n) n (slC A) ∧ Off Nob w W
theorem OfI.put {w W : World} {g n : Nat} {A : List Sl} (h : OfI w g n A W) (k : Nat) (x : Sl) : OfI w g n (A.set k x) (W.setCells g (k * 3) [.int .u64 (n64 x.1), .int .u64 (n64 x.2.1), .int .u64 (n64 x.2.2)]) := by
  obtain ⟨i3, i5⟩ := h
  have hw := (i3.lt g rfl).1
  show OfI w g n (A.set k x) (((W.setCell ⟨g, k * 3, none⟩ (.int .u64 (n64 x.1))).setCell ⟨g, k * 3 + 1, none⟩ (.int .u64 (n64 x.2.1))).setCell ⟨g, k * 3 + 1 + 1, none⟩ (.int .u64 (n64 x.2.2)))
  refine ⟨?_, ((i5.put (p := ⟨g, _, none⟩) (.inr hw) _).put (p := ⟨g, _, none⟩) (.inr hw) _).put (p := ⟨g, _, none⟩) (.inr hw) _⟩
  have := (((i3.stored (k * 3) (.int .u64 (n64 x.1))).1.stored (k * 3 + 1) (.int .u64 (n64 x.2.1))).1.stored (k * 3 + 2) (.int .u64 (n64 x.2.2))).1
  rw [slC_set] at this
  exact this
theorem OfI.there {w W : World} {g n : Nat} {A : List Sl} (h : OfI w g n A W) (k : Nat) (hk : k < n) : W.there g (k * 3) 3 := fun j hj =>
  ⟨by rw [h.1.cellAt _ (by omega), List.getElem?_eq_getElem (by rw [h.1.1]; omega)]; rfl, h.1.frozenAt _⟩
theorem OfI.off {w W W1 : World} {g n : Nat} {A : List Sl} (h : OfI w g n A W) (o : Off Nob W W1) : OfI w g n A W1 := ⟨own_to h.1 (fun k hk => o.block k (h.1.lt k hk).2 (fun h => h)), h.2.also o⟩
theorem made_slots' (n : Nat) : (madeCells (Value.agg #[.int .u64 0, .int .u64 0, .int .u64 0]).cells (n * 3)).toList = slC (List.replicate n sl0) := by
  unfold sl0
  rw [slC_replicate]
  apply List.ext_getElem
  · simp [madeCells]
  · intro i h1 h2
    simp only [madeCells, List.getElem_replicate, Value.cells]
    have hlt : i % 3 < 3 := Nat.mod_lt _ (by decide)
    have : i % 3 = 0 ∨ i % 3 = 1 ∨ i % 3 = 2 := by omega
    rcases this with e | e | e <;> simp [e]
theorem Try.infoSl3o : (Try.prog.info? 47).map (·.size) = some 3 := by kernel_rfl
theorem cell_apartO {W : World} {b i : Nat} {v : Value} (h : W.cell? ⟨b, i, none⟩ = some v) (g o : Nat) (vs : List Value) (hap : b ≠ g) : (W.setCells g o vs).cell? ⟨b, i, none⟩ = some v := by
  have := World.rangeAt_setCells_apart (w := W) (b' := b) (o' := i) (cs := [v]) (fun j u hu => by
    match j, hu with
    | 0, hu => simp at hu; subst hu; exact h) g o vs (.inl hap)
  exact this 0 v rfl
theorem hits_zero (w : World) (A : Option Addr) (c : Nat) : Calls Try.prog 19 #[.slice A 0 c] w (NewH w []) := by
  go_enter Try.func19, Try.ntmps19
  go_wp2_with fail
  refine wp_loop_rounds 1 ?_
  rw [rounds_succ]
  go_wp2_with fail
  go_ret
  exact ⟨_, rfl, (World.ownsRow_nil _ _ _ _ : World.ownsRow _ w.heap.size 53 2 (.slice none 0 0) 0 []), Off.refl _ _⟩
theorem hits_any {w : World} {G : Nat → Prop} {v : Value} {n : Nat} {L : List Sl} (h : Rd w G 3 v n (slC L)) (hn : n ≤ 300) : Calls Try.prog 19 #[v] w (NewH w (hiL L)) := by
  obtain ⟨X, c, rfl, hm1, hl1, hc1⟩ := h
  rw [slC_len] at hl1
  rcases Nat.eq_zero_or_pos n with h0 | h0
  · subst h0
    have e : L = [] := List.eq_nil_of_length_eq_zero (by omega)
    subst e
    exact hits_zero w X c
  · obtain ⟨b, o, rfl, _, hb, hx⟩ := hc1 h0
    exact hits_some w b o n c L (by omega) hn h0 hb hx
end Go.Proofs.Ytedbafgejladiaa

/-
  slots.Wipe and slots.Write.
-/
namespace Go.Proofs.Ytedbafgejladiaa
open Go.RowKit Go.Shelf
attribute [local go_sem] Oper.semAt_some
set_option linter.unusedVariables false
set_option linter.unusedSimpArgs false
set_option maxRecDepth 100000
theorem monoInS {n : Nat} {P : Program} {f : FuncId} {args : Array Value} {w : World} {R R' : Ending → World → Prop} (h : Calls P f args w R) (hr : ∀ e w', R e w' → R' e w') : CallsIn Fence.wide n P f args w R' := callsIn_wide.2 (h.mono hr)
section
variable {w : World} {F : Nat → Prop} {p : Nat} {C : List (BitVec 64)} {E : List Ev}
set_option maxHeartbeats 4000000 in
theorem write_ok (h : Ar w F p C E) (base n : Nat) (b o c : Nat) (L : List Sl) (hL : L.length = n) (hb : b < w.heap.size) (hF : ¬ F b) (hc : ∀ j u, (slC L)[j]? = some u → w.cell? ⟨b, o + j, none⟩ = some u) (hz : ckS C.length E.length base n = 0) :
    Calls Try.prog 9 #[.pointer (some ⟨p, 0, none⟩), .int .i64 (base : Int), .slice (some ⟨b, o, none⟩) n c] w fun e w' => e = .returned (.int .i64 0) ∧ ArTo w F p (wrS base (sl L) (C, E) n).1 (wrS base (sl L) (C, E) n).2 w' := by
  obtain ⟨g1, g2, g3, g4, g5⟩ := ckS_zero hz
  have hn2 := h.n2
  have HW := Lib.hid (((Wk.start h).push 29 #[.pointer (some ⟨p, 0, none⟩)]).push 27 #[.slice (some ⟨b, o, none⟩) n c])
  have HCK : Hid (∀ w F, Ar w F p C E → Calls Try.prog 26 #[.pointer (some ⟨p, 0, none⟩), .int .i64 (base : Int), .int .i64 (n : Int)] w fun e w' => e = .returned (.int .i64 0) ∧ w = w') := Lib.hid (fun w F ha => by have := check_any ha (base : Int) (n : Int); rwa [hz] at this)
  have HD := Lib.hid (And.intro hL (And.intro hb (And.intro hF hc)))
  clear h hz hL hb hF hc
  refine (callsIn_wide (n := 4)).1 ?_
  refine callsIn_of_wp_marks Try.func9 rfl trivial ?_ rfl
  simp only [Try.ntmps9, List.size_toArray, List.length_cons, List.length_nil, Nat.reduceAdd, Nat.reduceSub, Array.replicate_succ, Array.replicate_zero, List.push_toArray, List.append_toArray, List.nil_append, List.cons_append]
  gi_wp2_with fail
  refine ⟨trivial, ?_⟩
  refine monoInS ((HCK.out _ _ HW.out.ar.choose_spec)) ?_
  rintro e w' ⟨rfl, rfl⟩
  gi_wp2_with fail
  refine ⟨trivial, ?_⟩
  refine monoInS (row_any (base : Int) (n : Int) _) ?_
  rintro e w' ⟨rfl, rfl⟩
  gi_wp2_with fail
  obtain ⟨W0, hW0⟩ : ∃ W0, ((((w.alloc (.cells #[.pointer (some ⟨p, 0, none⟩)] 29)).alloc (.cells #[.slice (some ⟨b, o, none⟩) n c] 27)).alloc (.cells #[.int .i64 (base : Int)] 3)).alloc (.cells #[.int .i64 (n : Int)] 3)) = W0 := ⟨_, rfl⟩
  have HS : Hid (W0.heap.size = w.heap.size + 4) := Lib.hid (by rw [← hW0]; simp)
  have HW0 := (HW.out.push 3 #[.int .i64 (base : Int)]).push 3 #[.int .i64 (n : Int)]
  simp only [World.size_alloc] at HW0
  rw [hW0] at HW0 ⊢
  obtain ⟨s, hs⟩ : ∃ s, w.heap.size = s := ⟨_, rfl⟩
  have HSS := Lib.hid hs
  rw [hs] at HW0 HS ⊢
  have HWK : Hid (Wk w F W0 [(s + 1 + 1 + 1, 3, #[.int .i64 (n : Int)]), (s + 1 + 1, 3, #[.int .i64 (base : Int)]), (s + 1, 27, #[.slice (some ⟨b, o, none⟩) n c]), (s, 29, #[.pointer (some ⟨p, 0, none⟩)])] p C E) := Lib.hid HW0
  have hbl := HW0.blk (b := s + 1 + 1) (t := 3) (cs := #[.int .i64 (base : Int)]) (by simp)
  have hbl1 := HW0.blk (b := s + 1 + 1 + 1) (t := 3) (cs := #[.int .i64 (n : Int)]) (by simp)
  clear hW0 hs HW0 HW HCK
  apply wpIn_rangeFunc_ownG (F := Fence.wide) (n := 4) rfl (by decide) (gf := 59) (lb := #[.pointer (some ⟨s + 1 + 1 + 1, 0, none⟩), .pointer (some ⟨s + 1 + 1, 0, none⟩)]) rfl trivial (enters_of Try.func59 (by kernel_rfl) rfl)
    (row_stops (4 - 1) (by decide) (s + 1 + 1) base n (by omega) (by omega) W0 hbl hbl1) (fun h k => kpB_t h k) (kpB_b (fun b hb => by rw [HS.out]; simp at hb; omega)) (Below.refl _ _) (fun _ => rfl)
    (fun (pre : List {x : Nat // x ∈ List.range n}) W => Wk w F W [(s + 1 + 1 + 1, 3, #[.int .i64 (n : Int)]), (s + 1 + 1, 3, #[.int .i64 (base : Int)]), (s + 1, 27, #[.slice (some ⟨b, o, none⟩) n c]), (s, 29, #[.pointer (some ⟨p, 0, none⟩)])] p (wrL base (sl L) (C, E) (pre.map Subtype.val)).1 (wrL base (sl L) (C, E) (pre.map Subtype.val)).2)
    (fun _ _ _ => False) (wk_own (by rw [HS.out]; have := HSS.out; omega) _ _ _ _) (fun _ _ _ _ _ hs _ _ => hs) HWK.out
  case hassign =>
    intro l x W K hK
    simp only [rowV]
    gi_wp2
    exact hK
  case hbody =>
    rintro l pre x W hi hlt
    obtain ⟨i, hx⟩ := x
    have hin : i < n := List.mem_range.1 hx
    have HI := Lib.hid hi
    obtain ⟨hl1, hl2⟩ := wrL_len base (sl L) (C, E) (pre.map Subtype.val)
    rw [List.length_map] at hl2
    have HNX := Lib.hid (show (pre ++ [(⟨i, hx⟩ : {x // x ∈ List.range n})]).map Subtype.val = pre.map Subtype.val ++ [i] by simp)
    dsimp only at hl1 hl2 hlt ⊢
    rw [List.length_range] at hlt
    generalize pre ++ [(⟨i, hx⟩ : {x // x ∈ List.range n})] = nx at HNX ⊢
    have c0 : W.cell? ⟨s, 0, none⟩ = some (.pointer (some ⟨p, 0, none⟩)) := (hi.blk (b := s) (t := 29) (cs := #[.pointer (some ⟨p, 0, none⟩)]) (by simp)).cell 0
    have c1 : W.cell? ⟨s + 1, 0, none⟩ = some (.slice (some ⟨b, o, none⟩) n c) := (hi.blk (b := s + 1) (t := 27) (cs := #[.slice (some ⟨b, o, none⟩) n c]) (by simp)).cell 0
    have HOC := Lib.hid (fun (W : World) (C' : List (BitVec 64)) (E' : List Ev) (hk : Wk w F W [(s + 1 + 1 + 1, 3, #[.int .i64 (n : Int)]), (s + 1 + 1, 3, #[.int .i64 (base : Int)]), (s + 1, 27, #[.slice (some ⟨b, o, none⟩) n c]), (s, 29, #[.pointer (some ⟨p, 0, none⟩)])] p C' E') (j : Nat) (u : Value) (hu : (slC L)[j]? = some u) => (show W.cell? ⟨b, o + j, none⟩ = some u from (World.cell?_of_block (a := ⟨b, o + j, none⟩) (hk.done.2.block b HD.out.2.1 HD.out.2.2.1)).trans (HD.out.2.2.2 j u hu)))
    obtain ⟨d0, d1, d2⟩ := Rd.slot (F := Nob) (n := n) (c := c) (HOC.out _ _ _ hi) i (by rw [HD.out.1]; exact hin)
    obtain ⟨x, hx'⟩ : ∃ x, sl L i = x := ⟨_, rfl⟩
    rw [hx'] at d0 d1 d2
    have HC := Lib.hid ((HI.out.off (Off.drew (Off.refl _ _))).callO (e0 := .returned (.tuple #[])) (C2 := (wrL base (sl L) (C, E) (nx.map Subtype.val)).1) (E2 := (wrL base (sl L) (C, E) (nx.map Subtype.val)).2) (P := Try.prog) (f := 28) (xs := #[.pointer (some ⟨p, 0, none⟩), .int .i64 ((base : Int) + 3 * (i : Int)), slV x]) (fun w1 F1 ha => by
      have := slStore_ok ha (base + 3 * i) x (by rw [hl1]; omega) (by rw [hl2]; omega)
      rw [HNX.out, wrL_snoc, hx']
      push_cast at this
      exact this))
    unfold slV at HC
    have HST := Lib.hid (fun (W : World) (hk : Wk w F W [(s + 1 + 1 + 1, 3, #[.int .i64 (n : Int)]), (s + 1 + 1, 3, #[.int .i64 (base : Int)]), (s + 1, 27, #[.slice (some ⟨b, o, none⟩) n c]), (s, 29, #[.pointer (some ⟨p, 0, none⟩)])] p (wrL base (sl L) (C, E) (nx.map Subtype.val)).1 (wrL base (sl L) (C, E) (nx.map Subtype.val)).2) => (by
      obtain ⟨d0, d1, d2⟩ := Rd.slot (F := Nob) (n := n) (c := c) (HOC.out _ _ _ hk) i (by rw [HD.out.1]; exact hin)
      rw [hx'] at d0 d1 d2
      exact ⟨(hk.blk (b := s) (t := 29) (cs := #[.pointer (some ⟨p, 0, none⟩)]) (by simp)).cell 0, (hk.blk (b := s + 1) (t := 27) (cs := #[.slice (some ⟨b, o, none⟩) n c]) (by simp)).cell 0, d0, d1, d2⟩ : W.cell? ⟨s, 0, none⟩ = some (.pointer (some ⟨p, 0, none⟩)) ∧ W.cell? ⟨s + 1, 0, none⟩ = some (.slice (some ⟨b, o, none⟩) n c) ∧ W.cell? ⟨b, o + i * 3, none⟩ = some (.int .u64 (n64 x.1)) ∧ W.cell? ⟨b, o + i * 3 + 1, none⟩ = some (.int .u64 (n64 x.2.1)) ∧ W.cell? ⟨b, o + i * 3 + 2, none⟩ = some (.int .u64 (n64 x.2.2))))
    have HBL := Lib.hid (And.intro (hi.blk (b := s + 1 + 1) (t := 3) (cs := #[.int .i64 (base : Int)]) (by simp)) (hi.blk (b := s + 1 + 1 + 1) (t := 3) (cs := #[.int .i64 (n : Int)]) (by simp)))
    clear hi hl1 hl2 hlt hx hx'
    revert d0 d1 d2 HC HST
    generalize n64 x.1 = v0
    generalize n64 x.2.1 = v1
    generalize n64 x.2.2 = v2
    intro d2 d1 d0 HC HST
    gi_wp2_with fail

    refine round_held (S := fun W => W.cell? ⟨s, 0, none⟩ = some (.pointer (some ⟨p, 0, none⟩)) ∧ W.cell? ⟨s + 1, 0, none⟩ = some (.slice (some ⟨b, o, none⟩) n c) ∧ W.cell? ⟨b, o + i * 3, none⟩ = some (.int .u64 v0) ∧ W.cell? ⟨b, o + i * 3 + 1, none⟩ = some (.int .u64 v1) ∧ W.cell? ⟨b, o + i * 3 + 2, none⟩ = some (.int .u64 v2)) (by kernel_rfl) (by kernel_rfl) (fun ⟨_, _, h⟩ => h) ⟨c0, c1, d0, d1, d2⟩ (fun hHeld => ?_)
    refine wpAnyH_take (i := 0) (v := ?v0) rfl (by kernel_rfl) (by kernel_rfl) (by kernel_rfl) (fun _ _ _ h => h) (Or.inl ⟨by rfl, ?h0⟩) (by assumption) ?r0
    case h0 => (intro w hSw; (try dsimp only at hSw); go_simp <;> with_reducible rfl)
    try simp only [Act.put, List.getElem_toArray, List.getElem_cons_zero, List.getElem_cons_succ, List.setIfInBounds_toArray, List.set_cons_zero, List.set_cons_succ]
    refine wpAnyH_take (i := 1) (v := ?v1) rfl (by kernel_rfl) (by kernel_rfl) (by kernel_rfl) (fun _ _ _ h => h) (Or.inl ⟨by rfl, ?h1⟩) (by assumption) ?r1
    case h1 => (intro w hSw; (try dsimp only at hSw); go_simp <;> with_reducible rfl)
    try simp only [Act.put, List.getElem_toArray, List.getElem_cons_zero, List.getElem_cons_succ, List.setIfInBounds_toArray, List.set_cons_zero, List.set_cons_succ]
    refine wpAnyH_take (i := 2) (v := ?v2) rfl (by kernel_rfl) (by kernel_rfl) (by kernel_rfl) (fun _ _ _ h => h) (Or.inl ⟨by rfl, ?h2⟩) (by assumption) ?r2
    case h2 => (intro w hSw; (try dsimp only at hSw); go_simp <;> with_reducible rfl)
    try simp only [Act.put, List.getElem_toArray, List.getElem_cons_zero, List.getElem_cons_succ, List.setIfInBounds_toArray, List.set_cons_zero, List.set_cons_succ]
    refine wpAnyH_take (i := 3) (v := ?v3) rfl (by kernel_rfl) (by kernel_rfl) (by kernel_rfl) (fun _ _ _ h => h) (Or.inl ⟨by rfl, ?h3⟩) (by assumption) ?r3
    case h3 => (intro w hSw; (try dsimp only at hSw); go_simp <;> with_reducible rfl)
    try simp only [Act.put, List.getElem_toArray, List.getElem_cons_zero, List.getElem_cons_succ, List.setIfInBounds_toArray, List.set_cons_zero, List.set_cons_succ]
    refine wpAnyH_take (i := 4) (v := ?v4) rfl (by kernel_rfl) (by kernel_rfl) (by kernel_rfl) (fun _ _ _ h => h) (Or.inl ⟨by rfl, ?h4⟩) (by assumption) ?r4
    case h4 => (intro w hSw; (try dsimp only at hSw); go_simp <;> with_reducible rfl)
    try simp only [Act.put, List.getElem_toArray, List.getElem_cons_zero, List.getElem_cons_succ, List.setIfInBounds_toArray, List.set_cons_zero, List.set_cons_succ]
    refine wpAnyH_take (i := 5) (v := ?v5) rfl (by kernel_rfl) (by kernel_rfl) (by kernel_rfl) (fun _ _ _ h => h) (Or.inl ⟨by rfl, ?h5⟩) (by assumption) ?r5
    case h5 => (intro w hSw; (try dsimp only at hSw); go_simp <;> with_reducible rfl)
    try simp only [Act.put, List.getElem_toArray, List.getElem_cons_zero, List.getElem_cons_succ, List.setIfInBounds_toArray, List.set_cons_zero, List.set_cons_succ]
    refine wpAnyH_ready (rs := [6]) (by kernel_rfl) (by simp) ?_
    refine AllReadyH.cons rfl (fun K hK => ?s6) ?m6
    case s6 =>
      go_simp
      refine HC.out.mono ?_
      rintro e w3 ⟨rfl, h3, hk3⟩
      have H3 := Lib.hid h3
      have HK3 := Lib.hid hk3
      have hS3 := HST.out w3 h3
      clear h3 hk3
      go_simp
      refine hK.out _ _ ?_ (fun hHeld => ?_)
      · first | with_reducible assumption | go_keep
      clear hK K
      try simp only [Act.put, List.getElem_toArray, List.getElem_cons_zero, List.getElem_cons_succ, List.setIfInBounds_toArray, List.set_cons_zero, List.set_cons_succ]
      refine wpAnyH_done (by kernel_rfl) ?_ _
      gi_wp2_with fail
      refine ⟨((KeepsOthers.drew _).trans HK3.out).from _, fun y hy => ?_, H3.out⟩
      simp at hy
      rcases hy with rfl | rfl
      · exact (H3.out.blk (b := s + 1 + 1) (t := 3) (cs := #[.int .i64 (base : Int)]) (by simp)).trans HBL.out.1.symm
      · exact (H3.out.blk (b := s + 1 + 1 + 1) (t := 3) (cs := #[.int .i64 (n : Int)]) (by simp)).trans HBL.out.2.symm
    exact AllReadyH.nil
  case hdone =>
    rintro D xs W hD hxs hi hK
    rw [hxs, wrL_range] at hi
    have HU := Lib.hid (hi.unmark (o' := .deferred none) (by rw [HS.out] at hD; have := HSS.out; omega) hK rfl).done
    have HK := Lib.hid hK
    clear hi hK hxs
    gi_wp2_with fail
    refine ⟨by simp, .inl ⟨_, _, rfl, run_takeDeferred HK.out, ?_⟩⟩
    exact ⟨.int .i64 0, by simp [results, Try.f9, go_sem], rfl, HU.out⟩
  case hstop =>
    rintro D c pre W _ _ h _
    exact h.elim
end
end Go.Proofs.Ytedbafgejladiaa

/-
  dragnetref22.Row, Wipe, Read, Write and Fill.
-/
namespace Go.Proofs.Ytedbafgejladiaa
open Go.RowKit
set_option linter.unusedVariables false
set_option linter.unusedSimpArgs false
set_option maxRecDepth 100000
/-- Cells are made 0 one by one. -/
def ziS (base : Nat) (s : SlSt) : Nat → SlSt
  | 0 => s
  | k + 1 => ((ziS base s k).1.set (base + k) 0#64, (ziS base s k).2 ++ [(2, base + k)])
theorem ziS_len (base : Nat) (s : SlSt) (k : Nat) : (ziS base s k).1.length = s.1.length ∧ (ziS base s k).2.length = s.2.length + k := by
  induction k with
  | zero => exact ⟨rfl, rfl⟩
  | succ k ih => unfold ziS; simp [ih]; omega
theorem ziS_all (base : Nat) (s : SlSt) (n : Nat) : ziS base s (3 * n) = wrS base (fun _ => sl0) s n := by
  induction n with
  | zero => rfl
  | succ n ih =>
    show ziS base s (3 * n + 1 + 1 + 1) = _
    simp only [ziS, ih]
    rfl
theorem cell_threeR (w : World) (x y z : Value) (t : TypeId) : ∀ j u, [x, y, z][j]? = some u → (w.alloc (.cells #[x, y, z] t)).cell? ((⟨w.heap.size, 0, none⟩ : Addr).add j) = some u := by
  intro j u hu
  rw [add_addr, Nat.zero_add, World.cell?_alloc_new]
  simpa using hu
section
variable {w : World} {F : Nat → Prop} {r : Nat} {C : List (BitVec 64)} {E : List Ev}
/-- A list that is read, in the making: apart from the arena. -/
def RdI (w : World) (F : Nat → Prop) (r : Nat) (C : List (BitVec 64)) (E : List Ev) (base j : Nat) (v : Value) (W : World) : Prop :=
  ∃ F1, Rf W F1 r C (rdE base E j) ∧ (∀ k, F1 k → F k ∨ w.heap.size ≤ k) ∧ Off F w W ∧ (∀ k, F k → k < w.heap.size) ∧ W.ownsRow w.heap.size 47 3 v j (slC (rdL base C j)) ∧ ∀ k, v.ownBlock = some k → ¬ F1 k
theorem RdI.form {w : World} {F : Nat → Prop} {r : Nat} {C : List (BitVec 64)} {E : List Ev} {base j : Nat} {v : Value} {W : World} (h : RdI w F r C E base j v W) : ∃ A c, v = .slice A j c := by
  obtain ⟨F1, hr, hf, ho, hl, hown, hap⟩ := h
  rcases hown.2 with ⟨rfl, h0⟩ | ⟨g, cap, cur, rfl, _⟩
  · have e0 : j = 0 := by have := hown.1; rw [h0] at this; simp at this; omega
    exact ⟨none, 0, by rw [e0]⟩
  · exact ⟨_, cap, rfl⟩
end
end Go.Proofs.Ytedbafgejladiaa

/-
  dragnetref22.Fill.
-/
namespace Go.Proofs.Ytedbafgejladiaa
open Go.RowKit
set_option linter.unusedVariables false
set_option linter.unusedSimpArgs false
set_option maxRecDepth 100000
section
variable {w : World} {F : Nat → Prop} {r : Nat} {C : List (BitVec 64)} {E : List Ev}
end
end Go.Proofs.Ytedbafgejladiaa

