/-
  network.Route.
-/
import Derived.Test.YtlefjlclhmapaaaNetCell
import Derived.Test.YtlefjlclhmapaaaNetPlan
namespace Go.Proofs.Ytlefjlclhmapaaa
open Go.RowKit Go.Shelf
set_option linter.unusedVariables false
set_option linter.unusedSimpArgs false
set_option maxRecDepth 100000
/-- The cells of a slot, behind a move. -/
def rcS (b : Bool) (f t : Nat) (s : List (BitVec 64) × List Ev) : Nat → List (BitVec 64) × List Ev
  | 0 => s
  | c + 1 => prS b (rcS b f t s c) (f + c) (t + c)
/-- A move of Route. -/
def rtM (base far : Nat) (s : List (BitVec 64) × List Ev) (m : Mv) : List (BitVec 64) × List Ev :=
  rcS (bitB (cl s.1 (far + m.2.1)) m.1) (base + 3 * m.2.1) (base + 3 * m.2.2) (prS (bitB (cl s.1 (far + m.2.1)) m.1) s (far + m.2.1) (far + m.2.2)) 3
def rtL (base far : Nat) (s : List (BitVec 64) × List Ev) (ms : List Mv) : List (BitVec 64) × List Ev := ms.foldl (rtM base far) s
theorem rcS_len (b : Bool) (f t : Nat) (s : List (BitVec 64) × List Ev) (c : Nat) : (rcS b f t s c).1.length = s.1.length ∧ (rcS b f t s c).2.length = s.2.length + 4 * c := by
  induction c with
  | zero => exact ⟨rfl, rfl⟩
  | succ c ih =>
    obtain ⟨h1, h2⟩ := prS_len b (rcS b f t s c) (f + c) (t + c)
    exact ⟨h1.trans ih.1, by show (prS b (rcS b f t s c) (f + c) (t + c)).2.length = _; rw [h2, ih.2]; omega⟩
theorem rtM_len (base far : Nat) (s : List (BitVec 64) × List Ev) (m : Mv) : (rtM base far s m).1.length = s.1.length ∧ (rtM base far s m).2.length = s.2.length + 16 := by
  unfold rtM
  obtain ⟨h1, h2⟩ := rcS_len (bitB (cl s.1 (far + m.2.1)) m.1) (base + 3 * m.2.1) (base + 3 * m.2.2) (prS (bitB (cl s.1 (far + m.2.1)) m.1) s (far + m.2.1) (far + m.2.2)) 3
  obtain ⟨h3, h4⟩ := prS_len (bitB (cl s.1 (far + m.2.1)) m.1) s (far + m.2.1) (far + m.2.2)
  exact ⟨h1.trans h3, by rw [h2, h4]⟩
theorem rtL_len (base far : Nat) (s : List (BitVec 64) × List Ev) (ms : List Mv) : (rtL base far s ms).1.length = s.1.length ∧ (rtL base far s ms).2.length = s.2.length + 16 * ms.length := by
  unfold rtL
  induction ms generalizing s with
  | nil => exact ⟨rfl, rfl⟩
  | cons m ms ih =>
    obtain ⟨h1, h2⟩ := ih (rtM base far s m)
    obtain ⟨h3, h4⟩ := rtM_len base far s m
    exact ⟨h1.trans h3, by rw [List.foldl_cons, h2, h4, List.length_cons]; omega⟩
theorem rtL_snoc (base far : Nat) (s : List (BitVec 64) × List Ev) (ms : List Mv) (m : Mv) : rtL base far s (ms ++ [m]) = rtM base far (rtL base far s ms) m := by unfold rtL; rw [List.foldl_append]; rfl
/-- Route's error. -/
def rtE (nC nE : Nat) (base n far : Int) : Int :=
  if n < 1 ∨ 288 < n then 7 else if hasE nC base (3 * n) = 0 then (if hasE nC far n = 0 then (if far < base + 3 * n ∧ base < far + n then 2 else roomE nE ((16 * (moves n.toNat).length : Nat) : Int)) else hasE nC far n) else hasE nC base (3 * n)
def rtR (C : List (BitVec 64)) (E : List Ev) (base n far : Int) : List (BitVec 64) × List Ev :=
  if rtE C.length E.length base n far = 0 then rtL base.toNat far.toNat (C, E) (moves n.toNat) else (C, E)
theorem hasE_cases2 (n : Nat) (x k : Int) : (hasE n x k = 0 ∧ 0 ≤ x ∧ 0 ≤ k ∧ x + k ≤ n) ∨ (hasE n x k = 7 ∧ ¬ (0 ≤ x ∧ 0 ≤ k ∧ x + k ≤ n)) := by
  unfold hasE
  split
  · exact .inr ⟨rfl, by omega⟩
  · exact .inl ⟨rfl, by omega⟩
theorem roomE_zero2 {n : Nat} {s : Int} (h : roomE n s = 0) : 0 ≤ s ∧ n + s ≤ 8388608 := by
  unfold roomE at h
  split at h
  · cases h
  · split at h
    · cases h
    · omega
theorem rtE_zero {nC nE : Nat} {base n far : Int} (h : rtE nC nE base n far = 0) : 1 ≤ n ∧ n ≤ 288 ∧ 0 ≤ base ∧ base + 3 * n ≤ nC ∧ 0 ≤ far ∧ far + n ≤ nC ∧ ¬ (far < base + 3 * n ∧ base < far + n) ∧ nE + 16 * (moves n.toNat).length ≤ 8388608 := by
  unfold rtE at h
  split at h
  · cases h
  · rename_i h1
    rcases hasE_cases2 nC base (3 * n) with ⟨a, b⟩ | ⟨a, b⟩
    · rw [if_pos a] at h
      rcases hasE_cases2 nC far n with ⟨c, d⟩ | ⟨c, d⟩
      · rw [if_pos c] at h
        split at h
        · cases h
        · rename_i h2
          have := (roomE_zero2 h).2
          push_cast at this
          omega
      · rw [if_neg (by rw [c]; decide), c] at h; cases h
    · rw [if_neg (by rw [a]; decide), a] at h; cases h
/-- The arena's own blocks, with their types. -/
theorem Ar.typed {w : World} {F : Nat → Prop} {p : Nat} {C : List (BitVec 64)} {E : List Ev} (h : Ar w F p C E) : ∃ F1, Ar w F1 p C E ∧ (∀ k, F1 k → F k) ∧ ∀ k, F1 k → ∃ t cs, Blk w k t cs ∧ (t = 89 ∨ t = 39 ∨ t = 120 ∨ t = 121) := by
  obtain ⟨cb, pv, ps, rg, hpl, h⟩ := h
  refine ⟨fun k => k = p ∨ k = cb ∨ pv.ownBlock = some k ∨ k ∈ ps, ⟨cb, pv, ps, rg, hpl, { h with fp := .inl rfl, fc := .inr (.inl rfl), fo := fun g hg => .inr (.inr (.inl hg)), fg := fun b hb => .inr (.inr (.inr hb)), fl := ?_ }⟩, ?_, ?_⟩
  · rintro k (rfl | rfl | hk | hk)
    · exact h.fl _ h.fp
    · exact h.fl _ h.fc
    · exact h.fl _ (h.fo k hk)
    · exact h.fl _ (h.fg k hk)
  · rintro k (rfl | rfl | hk | hk)
    · exact h.fp
    · exact h.fc
    · exact h.fo k hk
    · exact h.fg k hk
  · rintro k (rfl | rfl | hk | hk)
    · exact ⟨_, _, h.top, .inl rfl⟩
    · exact ⟨_, _, h.cel, .inr (.inl rfl)⟩
    · rcases h.own.2 with ⟨rfl, _⟩ | ⟨g', cap, cur, rfl, _, hh, _⟩
      · simp [Value.ownBlock] at hk
      · have e2 : g' = k := by simpa [Value.ownBlock] using hk
        subst e2
        exact ⟨_, _, hh, .inr (.inr (.inl rfl))⟩
    · obtain ⟨i, hi, he⟩ := List.getElem_of_mem hk
      have e : ps.getD i 0 = k := by simp [List.getD, hi, he]
      have := h.pg i hi
      rw [e] at this
      exact ⟨_, _, this, .inr (.inr (.inr rfl))⟩
theorem Wk.more {w0 w : World} {F : Nat → Prop} {bs : Bks} {p : Nat} {C : List (BitVec 64)} {E : List Ev} {b : Nat} {t : TypeId} {cs : Array Value} (h : Wk w0 F w bs p C E) (hb : Blk w b t cs) (ht : t ≠ 89 ∧ t ≠ 39 ∧ t ≠ 120 ∧ t ≠ 121) (hge : w0.heap.size ≤ b) (hn : b ∉ bs.map Prod.fst) : Wk w0 F w ((b, t, cs) :: bs) p C E := by
  obtain ⟨F1, ha, hf, ho, hl, hbs, hnd⟩ := h
  obtain ⟨F2, ha2, hs2, ht2⟩ := ha.typed
  refine ⟨F2, ha2, fun k hk => hf k (hs2 k hk), ho, hl, fun x hx => ?_, by rw [List.map_cons, List.nodup_cons]; exact ⟨hn, hnd⟩⟩
  rcases List.mem_cons.1 hx with rfl | hx
  · refine ⟨hb, fun hk => ?_, hge⟩
    obtain ⟨t', cs', hb', ht'⟩ := ht2 _ hk
    by_cases e : t = t'
    · subst e
      rcases ht' with e | e | e | e
      · exact ht.1 e
      · exact ht.2.1 e
      · exact ht.2.2.1 e
      · exact ht.2.2.2 e
    · exact Blk.diff hb hb' e rfl
  · obtain ⟨g1, g2, g3⟩ := hbs x hx
    exact ⟨g1, fun hk => g2 (hs2 _ hk), g3⟩
theorem monoInR {n : Nat} {P : Program} {f : FuncId} {args : Array Value} {w : World} {R R' : Ending → World → Prop} (h : Calls P f args w R) (hr : ∀ e w', R e w' → R' e w') : CallsIn Fence.wide n P f args w R' := callsIn_wide.2 (h.mono hr)
section
attribute [local go_sem] Oper.semAt_some
variable {w : World} {F : Nat → Prop} {p : Nat} {C : List (BitVec 64)} {E : List Ev}
set_option maxHeartbeats 4000000 in
theorem nroute_ok (h : Ar w F p C E) (base n far : Nat) (hz : rtE C.length E.length base n far = 0) :
    Calls Try.prog 25 #[.pointer (some ⟨p, 0, none⟩), .int .i64 (base : Int), .int .i64 (n : Int), .int .i64 (far : Int)] w fun e w' => e = .returned (.int .i64 0) ∧ ArTo w F p (rtL base far (C, E) (moves n)).1 (rtL base far (C, E) (moves n)).2 w' := by
  obtain ⟨g1, g2, g3, g4, g5, g6, g7, g8⟩ := rtE_zero hz
  rw [Int.toNat_natCast] at g8
  have hn2 := h.n2
  have HZ1 := Lib.hid (show hasE C.length base (3 * (n : Int)) = 0 by unfold hasE; rw [if_neg (by omega)])
  have HZ2 := Lib.hid (show hasE C.length far (n : Int) = 0 by unfold hasE; rw [if_neg (by omega)])
  have HZ3 := Lib.hid (show roomE E.length ((16 * (moves n).length : Nat) : Int) = 0 by unfold roomE; rw [if_neg (by omega), if_neg (by push_cast; omega)])
  have HST := Lib.hid (nsteps_ok n (by omega) (by omega))
  have H8 := Lib.hid g8
  have HW := Lib.hid (((Wk.start h).push 3 #[.int .i64 (base : Int)]).push 3 #[.int .i64 (far : Int)])
  obtain ⟨Fx, hFx⟩ := HW.out.ar
  have HH1 := Lib.hid (has_any hFx base (3 * (n : Int)))
  have HH2 := Lib.hid (has_any hFx far (n : Int))
  have HH3 := Lib.hid (room_any hFx ((16 * (moves n).length : Nat) : Int))
  have t1 : ¬ ((far : Int) < (base : Int) + 3 * (n : Int)) ∨ ((far : Int) < (base : Int) + 3 * (n : Int) ∧ ¬ ((base : Int) < (far : Int) + (n : Int))) := by omega
  obtain ⟨L, hL⟩ : ∃ L : Int, ((16 * (moves n).length : Nat) : Int) = L := ⟨_, rfl⟩
  rw [hL] at HZ3 HH3
  have HST2 : Hid (∀ w, Calls Try.prog 11 #[.int .i64 n] w fun e w' => e = .returned (.tuple #[.int .i64 L, .int .i64 0]) ∧ w = w') := Lib.hid (fun w => by have := HST.out w; rw [hL] at this; exact this)
  clear h hz hFx g8 g7 hL HST
  refine (callsIn_wide (n := 4)).1 ?_
  refine callsIn_of_wp_marks Try.func25 rfl trivial ?_ rfl
  simp only [Try.ntmps25, List.size_toArray, List.length_cons, List.length_nil, Nat.reduceAdd, Nat.reduceSub, Array.replicate_succ, Array.replicate_zero, List.push_toArray, List.append_toArray, List.nil_append, List.cons_append]
  rcases t1 with t1 | ⟨t1, t2⟩
  all_goals
    gi_wp2_with fail
    refine ⟨trivial, ?_⟩
    refine monoInR (HST2.out _) ?_
    rintro e w' ⟨rfl, rfl⟩
    gi_wp2_with fail
    refine ⟨trivial, ?_⟩
    refine monoInR (R := fun e w' => e = .returned (.int .i64 0) ∧ _ = w') (by have := HH1.out; rwa [HZ1.out] at this) ?_
    rintro e w' ⟨rfl, rfl⟩
    gi_wp2_with fail
    refine ⟨trivial, ?_⟩
    refine monoInR (R := fun e w' => e = .returned (.int .i64 0) ∧ _ = w') (by have := HH2.out; rwa [HZ2.out] at this) ?_
    rintro e w' ⟨rfl, rfl⟩
    gi_wp2_with fail
    refine ⟨trivial, ?_⟩
    refine monoInR (R := fun e w' => e = .returned (.int .i64 0) ∧ _ = w') (by have := HH3.out; rwa [HZ3.out] at this) ?_
    rintro e w' ⟨rfl, rfl⟩
    gi_wp2_with fail
    refine ⟨trivial, ?_⟩
    refine monoInR (nmoves_any n _) ?_
    rintro e w' ⟨rfl, rfl⟩
    gi_wp2_with fail
    obtain ⟨W0, hW0⟩ : ∃ W0, ((((w.alloc (.cells #[.int .i64 (base : Int)] 3)).alloc (.cells #[.int .i64 (far : Int)] 3)).alloc (.cells #[.pointer (some ⟨p, 0, none⟩)] 95)).alloc (.cells #[.func (.func 47) #[.agg #[.pointer (some ⟨p, 0, none⟩)]] #[]] 96)).alloc (.cells #[.int .i64 (n : Int)] 3) = W0 := ⟨_, rfl⟩
    have HS : Hid (W0.heap.size = w.heap.size + 5) := Lib.hid (by rw [← hW0]; simp)
    have HW0 := ((HW.out.push 95 #[.pointer (some ⟨p, 0, none⟩)]).push 96 #[.func (.func 47) #[.agg #[.pointer (some ⟨p, 0, none⟩)]] #[]]).push 3 #[.int .i64 (n : Int)]
    simp only [World.size_alloc] at HW0
    rw [hW0] at HW0 ⊢
    obtain ⟨s, hs⟩ : ∃ s, w.heap.size = s := ⟨_, rfl⟩
    have HSS := Lib.hid hs
    rw [hs] at HW0 HS ⊢
    have HWK : Hid (Wk w F W0 [(s + 1 + 1 + 1 + 1, 3, #[.int .i64 (n : Int)]), (s + 1 + 1 + 1, 96, #[.func (.func 47) #[.agg #[.pointer (some ⟨p, 0, none⟩)]] #[]]), (s + 1 + 1, 95, #[.pointer (some ⟨p, 0, none⟩)]), (s + 1, 3, #[.int .i64 (far : Int)]), (s, 3, #[.int .i64 (base : Int)])] p C E) := Lib.hid HW0
    have hbl := HW0.blk (List.mem_cons_self ..)
    have H9 := Lib.hid (rn_ok (n := n) (by omega) (by omega)).1
    clear hW0 hs HW0 HW HH1 HH2 HH3 HZ1 HZ2 HZ3 HST2
    apply range_boxed (n := 4) (by decide) (gf := 62) (lb := #[.pointer (some ⟨s + 1 + 1 + 1 + 1, 0, none⟩)]) rfl (enters_of Try.func62 (by kernel_rfl) rfl)
      (moves_stops (4 - 1) (by decide) (s + 1 + 1 + 1 + 1) n (by omega) (by omega) W0 hbl) (fun h k => kpB_t h k) (kpB_b (fun x hx => by rw [HS.out]; simp at hx; omega)) (fun _ => rfl)
      (fun (pre : List {x : Mv // x ∈ moves n}) W => Wk w F W [(s + 1 + 1 + 1 + 1, 3, #[.int .i64 (n : Int)]), (s + 1 + 1 + 1, 96, #[.func (.func 47) #[.agg #[.pointer (some ⟨p, 0, none⟩)]] #[]]), (s + 1 + 1, 95, #[.pointer (some ⟨p, 0, none⟩)]), (s + 1, 3, #[.int .i64 (far : Int)]), (s, 3, #[.int .i64 (base : Int)])] p (rtL base far (C, E) (pre.map Subtype.val)).1 (rtL base far (C, E) (pre.map Subtype.val)).2 ∧ W0.heap.size ≤ W.heap.size)
      (fun x W W' row hh hg hr => ⟨hh.1.turn hg (fun r e => ⟨Nat.le_trans (by rw [HS.out, HSS.out]; omega) (hr r e).1, (hr r e).2⟩), Nat.le_trans hh.2 hg.size⟩) ⟨HWK.out, Nat.le_refl _⟩ 67 16 29 (fun x => #[.int .i64 x.1.1, .int .i64 x.1.2.1, .int .i64 x.1.2.2])
    case hassign =>
      intro l pre x W K hi hK
      have hbx := hi.1.blk (b := s + 1 + 1 + 1 + 1) (t := 3) (cs := #[.int .i64 (n : Int)]) (by simp)
      have HK := Lib.hid (hK _ _ ((KeepsOthers.alloc W _).from _) (fun y hy => Below.heap_alloc _ _ _ (by simp at hy; have := hbx.lt; omega)) ⟨(hi.1.push 29 #[.int .i64 x.1.1, .int .i64 x.1.2.1, .int .i64 x.1.2.2]).drop, by simp; have := hi.2; omega⟩ ⟨W.heap.size, hi.2, Blk.new _ _ _, rfl⟩)
      clear hK hi hbx
      simp only [mvV]
      gi_wp2
      exact HK.out
    case hbody =>
      rintro l pre x Bx W ⟨hi, hsz⟩ hBx bX hlt
      obtain ⟨⟨mj, mi, mk⟩, hm⟩ := x
      have HNX := Lib.hid (show (pre ++ [(⟨(mj, mi, mk), hm⟩ : {x // x ∈ moves n})]).map Subtype.val = pre.map Subtype.val ++ [(mj, mi, mk)] by simp)
      dsimp only at bX ⊢
      have HLN := Lib.hid (show pre.length + 1 ≤ (moves n).length from hlt)
      have hpl : (pre.map Subtype.val).length = pre.length := by simp
      generalize pre ++ [(⟨(mj, mi, mk), hm⟩ : {x // x ∈ moves n})] = nx at HNX ⊢
      obtain ⟨q1, q2⟩ := rtL_len base far (C, E) (pre.map Subtype.val)
      rw [hpl] at q2
      obtain ⟨m1, m2, m3, m4⟩ := moves_mem hm
      dsimp only at m1 m2 m3 m4
      have HAP := Lib.hid (rtL_snoc base far (C, E) (pre.map Subtype.val) (mj, mi, mk))
      rw [← HNX.out] at HAP
      obtain ⟨⟨C1, E1⟩, hCE⟩ : ∃ x, rtL base far (C, E) (pre.map Subtype.val) = x := ⟨_, rfl⟩
      rw [hCE] at hi q1 q2 HAP
      dsimp only at hi q1 q2
      have hpp := Nat.one_le_two_pow (n := mj)
      have hki : mk ≤ mi := by omega
      have hj : mj ≤ 9 := by have := H9.out; omega
      have q3 : E1.length + 16 ≤ 8388608 := by have := H8.out; have := HLN.out; omega
      clear hm hlt HNX hCE m4 m1 m2 hpp HLN H9 q2 hpl
      have HI0 := Lib.hid (hi.more bX (by decide) (by rw [HSS.out]; rw [HS.out] at hBx; omega) (by rw [HS.out] at hBx; simp; omega))
      have hsub : Hid (∀ W', Wk w F W' ((Bx, 29, #[.int .i64 (mj : Int), .int .i64 (mi : Int), .int .i64 (mk : Int)]) :: [(s + 1 + 1 + 1 + 1, 3, #[.int .i64 (n : Int)]), (s + 1 + 1 + 1, 96, #[.func (.func 47) #[.agg #[.pointer (some ⟨p, 0, none⟩)]] #[]]), (s + 1 + 1, 95, #[.pointer (some ⟨p, 0, none⟩)]), (s + 1, 3, #[.int .i64 (far : Int)]), (s, 3, #[.int .i64 (base : Int)])]) p C1 E1 → True) := Lib.hid (fun _ _ => trivial)
      have cells := fun (W' : World) (C' : List (BitVec 64)) (E' : List Ev) (hk : Wk w F W' ((Bx, 29, #[.int .i64 (mj : Int), .int .i64 (mi : Int), .int .i64 (mk : Int)]) :: [(s + 1 + 1 + 1 + 1, 3, #[.int .i64 (n : Int)]), (s + 1 + 1 + 1, 96, #[.func (.func 47) #[.agg #[.pointer (some ⟨p, 0, none⟩)]] #[]]), (s + 1 + 1, 95, #[.pointer (some ⟨p, 0, none⟩)]), (s + 1, 3, #[.int .i64 (far : Int)]), (s, 3, #[.int .i64 (base : Int)])]) p C' E') => (⟨(hk.blk (b := s) (t := 3) (cs := #[.int .i64 (base : Int)]) (by simp)).cell 0, (hk.blk (b := s + 1) (t := 3) (cs := #[.int .i64 (far : Int)]) (by simp)).cell 0, (hk.blk (b := s + 1 + 1) (t := 95) (cs := #[.pointer (some ⟨p, 0, none⟩)]) (by simp)).cell 0, (hk.blk (b := s + 1 + 1 + 1) (t := 96) (cs := #[.func (.func 47) #[.agg #[.pointer (some ⟨p, 0, none⟩)]] #[]]) (by simp)).cell 0, (hk.blk (List.mem_cons_self ..)).cell 0, (hk.blk (List.mem_cons_self ..)).cell 1, (hk.blk (List.mem_cons_self ..)).cell 2⟩ :
        W'.cell? ⟨s, 0, none⟩ = some (.int .i64 (base : Int)) ∧ W'.cell? ⟨s + 1, 0, none⟩ = some (.int .i64 (far : Int)) ∧ W'.cell? ⟨s + 1 + 1, 0, none⟩ = some (.pointer (some ⟨p, 0, none⟩)) ∧ W'.cell? ⟨s + 1 + 1 + 1, 0, none⟩ = some (.func (.func 47) #[.agg #[.pointer (some ⟨p, 0, none⟩)]] #[]) ∧ W'.cell? ⟨Bx, 0, none⟩ = some (.int .i64 (mj : Int)) ∧ W'.cell? ⟨Bx, 1, none⟩ = some (.int .i64 (mi : Int)) ∧ W'.cell? ⟨Bx, 2, none⟩ = some (.int .i64 (mk : Int)))
      have HCL := Lib.hid cells
      have HBN := Lib.hid (hi.blk (b := s + 1 + 1 + 1 + 1) (t := 3) (cs := #[.int .i64 (n : Int)]) (by simp))
      clear cells hsub hi bX
      obtain ⟨k0, k1, k2, k3, x0, x1, x2⟩ := HCL.out _ _ _ HI0.out
      simp only [List.setIfInBounds_toArray, List.set_cons_zero, List.set_cons_succ]
      obtain ⟨bt, hbt⟩ : ∃ bt, bitB (cl C1 (far + mi)) mj = bt := ⟨_, rfl⟩
      have HBT := Lib.hid hbt
      have HF := Lib.hid (HI0.out.callO (e0 := .returned (.int .u64 (n64 (msk bt)))) (C2 := (prS bt (C1, E1) (far + mi) (far + mk)).1) (E2 := (prS bt (C1, E1) (far + mi) (far + mk)).2) (P := Try.prog) (f := 48) (xs := #[.agg #[.pointer (some ⟨p, 0, none⟩)], .int .i64 (mj : Int), .int .i64 ((far : Int) + (mi : Int)), .int .i64 ((far : Int) + (mk : Int))]) (fun w1 F1 ha => by
        have := nfar_ok ha mj (far + mi) (far + mk) hj (by rw [q1]; omega) (by rw [q1]; omega) (by omega)
        rw [hbt] at this
        push_cast at this
        exact this))
      clear hbt
      gi_wp2_with fail
      refine ⟨trivial, ?_⟩
      refine (CallsIn.inRound l (monoInR HF.out (fun _ _ h => h))).mono ?_
      rintro e w3 ⟨rfl, h3, hk3⟩
      have H3 := Lib.hid h3
      have HK3 := Lib.hid hk3
      clear h3 hk3 k0 k1 k2 k3 x0 x1 x2 HF HI0
      gi_wp2_with fail
      gi_loopw [80] (fun c wr => ∃ k : Nat, k ≤ 3 ∧ c = .int .i64 (k : Int) ∧ Wk w F wr ((Bx, 29, #[.int .i64 (mj : Int), .int .i64 (mi : Int), .int .i64 (mk : Int)]) :: [(s + 1 + 1 + 1 + 1, 3, #[.int .i64 (n : Int)]), (s + 1 + 1 + 1, 96, #[.func (.func 47) #[.agg #[.pointer (some ⟨p, 0, none⟩)]] #[]]), (s + 1 + 1, 95, #[.pointer (some ⟨p, 0, none⟩)]), (s + 1, 3, #[.int .i64 (far : Int)]), (s, 3, #[.int .i64 (base : Int)])]) p (rcS bt (base + 3 * mi) (base + 3 * mk) (prS bt (C1, E1) (far + mi) (far + mk)) k).1 (rcS bt (base + 3 * mi) (base + 3 * mk) (prS bt (C1, E1) (far + mi) (far + mk)) k).2 ∧ KeepsOthers W wr) (fun c _ => 3 - (intOf c).toNat)
      case atStart => exact ⟨0, Nat.zero_le _, rfl, H3.out, HK3.out⟩
      case round =>
        obtain ⟨k, hk, rfl, h5, hk5⟩ := hrel
        have H5 := Lib.hid h5
        have HK5 := Lib.hid hk5
        obtain ⟨k0, k1, k2, k3, x0, x1, x2⟩ := HCL.out _ _ _ h5
        obtain ⟨y1, y2⟩ := rcS_len bt (base + 3 * mi) (base + 3 * mk) (prS bt (C1, E1) (far + mi) (far + mk)) k
        obtain ⟨y3, y4⟩ := prS_len bt (C1, E1) (far + mi) (far + mk)
        rw [y3] at y1
        rw [y4] at y2
        dsimp only at y1 y2
        clear h5 hk5 y3 y4
        by_cases hlt : k < 3
        · have HC := Lib.hid (H5.out.callO (e0 := .returned (.tuple #[])) (C2 := (rcS bt (base + 3 * mi) (base + 3 * mk) (prS bt (C1, E1) (far + mi) (far + mk)) (k + 1)).1) (E2 := (rcS bt (base + 3 * mi) (base + 3 * mk) (prS bt (C1, E1) (far + mi) (far + mk)) (k + 1)).2) (P := Try.prog) (f := 47) (xs := #[.agg #[.pointer (some ⟨p, 0, none⟩)], .int .u64 (n64 (msk bt)), .int .i64 ((base : Int) + 3 * (mi : Int) + (k : Int)), .int .i64 ((base : Int) + 3 * (mk : Int) + (k : Int))]) (fun w1 F1 ha => by
            have := ncell_ok ha bt (base + 3 * mi + k) (base + 3 * mk + k) (by rw [y1, q1]; omega) (by rw [y1, q1]; omega) (by rw [y2]; omega)
            push_cast at this
            exact this))
          clear y1 y2
          gi_wp2_with fail
          refine ⟨trivial, ?_⟩
          refine (CallsIn.inRound l (monoInR HC.out (fun _ _ h => h))).mono ?_
          rintro e w6 ⟨rfl, h6, hk6⟩
          have H6 := Lib.hid h6
          have HK6 := Lib.hid (HK5.out.trans hk6)
          clear h6 hk6 k0 k1 k2 k3 x0 x1 x2 HC
          gi_wp2_with fail
          go_roundw
          case rel => exact ⟨k + 1, by omega, by go_num, H6.out, HK6.out⟩
          case measure => simp [intOf]; omega
        · obtain rfl : k = 3 := by omega
          clear y1 y2 k0 k1 k2 k3 x0 x1 x2
          gi_wp2_with fail
          refine ⟨HK5.out.from _, fun y hy => ?_, ?_, Nat.le_trans hsz HK5.out.1⟩
          · simp at hy
            subst hy
            exact (H5.out.blk (b := s + 1 + 1 + 1 + 1) (t := 3) (cs := #[.int .i64 (n : Int)]) (by simp)).trans (HBN.out).symm
          · have e1 : rtM base far (C1, E1) (mj, mi, mk) = rcS bt (base + 3 * mi) (base + 3 * mk) (prS bt (C1, E1) (far + mi) (far + mk)) 3 := by unfold rtM; dsimp only; rw [HBT.out]
            rw [HAP.out, e1]
            exact H5.out.drop
    case hdone =>
      rintro D xs W hD hxs ⟨hi, hsz⟩ hK
      rw [hxs] at hi
      have HU := Lib.hid (hi.unmark (o' := .deferred none) (by rw [HSS.out]; rw [HS.out] at hD; omega) hK rfl).done
      have HK := Lib.hid hK
      clear hi hK hxs
      gi_wp2_with fail
      refine ⟨by simp, .inl ⟨_, _, rfl, run_takeDeferred HK.out, ?_⟩⟩
      exact ⟨.int .i64 0, by simp [results, Try.f25, go_sem], rfl, HU.out⟩
end
end Go.Proofs.Ytlefjlclhmapaaa
