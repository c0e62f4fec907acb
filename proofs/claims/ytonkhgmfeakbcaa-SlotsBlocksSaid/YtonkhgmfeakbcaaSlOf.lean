/-
  slots.Of.
-/
import Derived.Test.YtonkhgmfeakbcaaSlHit
import Derived.Test.YtonkhgmfeakbcaaRef07
namespace Go.Proofs.Ytonkhgmfeakbcaa
open Go.RowKit
set_option linter.unusedVariables false
set_option linter.unusedSimpArgs false
set_option maxRecDepth 100000
/-- The slot of a hit. -/
def ofV (x : Hi) : Sl := (msk true, bv x.1, bv x.2)
/-- The slots of the first k hits, and empty ones. -/
def ofK (H : List Hi) (n k : Nat) : List Sl := (H.take k).map ofV ++ List.replicate (n - k) sl0
theorem ofK_len (H : List Hi) (n k : Nat) (h : k ≤ n) (h2 : k ≤ H.length) : (ofK H n k).length = n := by simp [ofK]; omega
theorem ofK_zero (H : List Hi) (n : Nat) : ofK H n 0 = List.replicate n sl0 := by simp [ofK]
theorem ofK_set (H : List Hi) (n k : Nat) (h : k < n) (h2 : k < H.length) : (ofK H n k).set k (ofV (hi H k)) = ofK H n (k + 1) := by
  unfold ofK
  have e : H.take (k + 1) = H.take k ++ [hi H k] := by
    rw [List.take_succ_eq_append_getElem h2]
    congr 2
    simp [hi, List.getD, h2]
  rw [List.set_append_right _ _ (by simp; omega), e, List.map_append, List.append_assoc]
  congr 1
  rw [show k - (List.map ofV (List.take k H)).length = 0 by simp; omega]
  obtain ⟨m, hm⟩ : ∃ m, n - k = m + 1 := ⟨n - k - 1, by omega⟩
  rw [hm, show n - (k + 1) = m by omega]
  rfl
/-- The slots of hits. -/
def ofL (H : List Hi) (n : Nat) : List Sl := ofK H n H.length
/-- The error of Of. -/
def ofE (m : Nat) (n : Int) : Int := if n < 1 ∨ 288 < n then 7 else if n < m then 3 else 0
def OfI (w : World) (g n : Nat) (A : List Sl) (W : World) : Prop := W.ownsRow w.heap.size 75 3 (.slice (some ⟨g, 0, none⟩) n n) n (slC A) ∧ Off Nob w W
theorem OfI.put {w W : World} {g n : Nat} {A : List Sl} (h : OfI w g n A W) (k : Nat) (x : Sl) : OfI w g n (A.set k x) (W.setCells g (k * 3) [.int .u64 (n64 x.1), .int .u64 (n64 x.2.1), .int .u64 (n64 x.2.2)]) := by
  obtain ⟨i3, i5⟩ := h
  have hw := (i3.lt g rfl).1
  show OfI w g n (A.set k x) (((W.setCell ⟨g, k * 3, none⟩ (.int .u64 (n64 x.1))).setCell ⟨g, k * 3 + 1, none⟩ (.int .u64 (n64 x.2.1))).setCell ⟨g, k * 3 + 1 + 1, none⟩ (.int .u64 (n64 x.2.2)))
  refine ⟨?_, ((i5.put (p := ⟨g, _, none⟩) (.inr hw) _).put (p := ⟨g, _, none⟩) (.inr hw) _).put (p := ⟨g, _, none⟩) (.inr hw) _⟩
  have := (((i3.stored (k * 3) (.int .u64 (n64 x.1))).1.stored (k * 3 + 1) (.int .u64 (n64 x.2.1))).1.stored (k * 3 + 2) (.int .u64 (n64 x.2.2))).1
  rw [slC_set] at this
  exact this
theorem OfI.there {w W : World} {g n : Nat} {A : List Sl} (h : OfI w g n A W) (k : Nat) (hk : k < n) : W.there g (k * 3) 3 := fun j hj =>
  ⟨by rw [h.1.cellAt _ (by omega), List.getElem?_eq_getElem (by rw [h.1.1]; omega)]; rfl, h.1.frozenAt _⟩
theorem OfI.off {w W W1 : World} {g n : Nat} {A : List Sl} (h : OfI w g n A W) (o : Off Nob W W1) : OfI w g n A W1 := ⟨own_to h.1 (fun k hk => o.block k (h.1.lt k hk).2 (fun h => h)), h.2.also o⟩
theorem made_slots' (n : Nat) : (madeCells (Value.agg #[.int .u64 0, .int .u64 0, .int .u64 0]).cells (n * 3)).toList = slC (List.replicate n sl0) := by
  unfold sl0
  rw [slC_replicate]
  apply List.ext_getElem
  · simp [madeCells]
  · intro i h1 h2
    simp only [madeCells, List.getElem_replicate, Value.cells]
    have hlt : i % 3 < 3 := Nat.mod_lt _ (by decide)
    have : i % 3 = 0 ∨ i % 3 = 1 ∨ i % 3 = 2 := by omega
    rcases this with e | e | e <;> simp [e]
theorem Try.infoSl3o : (Try.prog.info? 75).map (·.size) = some 3 := by kernel_rfl
theorem cell_apartO {W : World} {b i : Nat} {v : Value} (h : W.cell? ⟨b, i, none⟩ = some v) (g o : Nat) (vs : List Value) (hap : b ≠ g) : (W.setCells g o vs).cell? ⟨b, i, none⟩ = some v := by
  have := World.rangeAt_setCells_apart (w := W) (b' := b) (o' := i) (cs := [v]) (fun j u hu => by
    match j, hu with
    | 0, hu => simp at hu; subst hu; exact h) g o vs (.inl hap)
  exact this 0 v rfl
theorem hits_zero (w : World) (A : Option Addr) (c : Nat) : Calls Try.prog 16 #[.slice A 0 c] w (NewH w []) := by
  go_enter Try.func16, Try.ntmps16
  go_wp2_with fail
  refine wp_loop_rounds 1 ?_
  rw [rounds_succ]
  go_wp2_with fail
  go_ret
  exact ⟨_, rfl, (World.ownsRow_nil _ _ _ _ : World.ownsRow _ w.heap.size 50 2 (.slice none 0 0) 0 []), Off.refl _ _⟩
theorem hits_any {w : World} {G : Nat → Prop} {v : Value} {n : Nat} {L : List Sl} (h : Rd w G 3 v n (slC L)) (hn : n ≤ 300) : Calls Try.prog 16 #[v] w (NewH w (hiL L)) := by
  obtain ⟨X, c, rfl, hm1, hl1, hc1⟩ := h
  rw [slC_len] at hl1
  rcases Nat.eq_zero_or_pos n with h0 | h0
  · subst h0
    have e : L = [] := List.eq_nil_of_length_eq_zero (by omega)
    subst e
    exact hits_zero w X c
  · obtain ⟨b, o, rfl, _, hb, hx⟩ := hc1 h0
    exact hits_some w b o n c L (by omega) hn h0 hb hx
theorem rhits_zero (w : World) (A : Option Addr) (c : Nat) : Calls Try.prog 17 #[.slice A 0 c] w (NewH w []) := by
  go_enter Try.func17, Try.ntmps17
  go_wp2_with fail
  refine wp_loop_rounds 1 ?_
  rw [rounds_succ]
  go_wp2_with fail
  go_ret
  exact ⟨_, rfl, (World.ownsRow_nil _ _ _ _ : World.ownsRow _ w.heap.size 50 2 (.slice none 0 0) 0 []), Off.refl _ _⟩
theorem rhits_any {w : World} {G : Nat → Prop} {v : Value} {n : Nat} {L : List Sl} (h : Rd w G 3 v n (slC L)) (hn : n ≤ 300) : Calls Try.prog 17 #[v] w (NewH w (hiL L)) := by
  obtain ⟨X, c, rfl, hm1, hl1, hc1⟩ := h
  rw [slC_len] at hl1
  rcases Nat.eq_zero_or_pos n with h0 | h0
  · subst h0
    have e : L = [] := List.eq_nil_of_length_eq_zero (by omega)
    subst e
    exact rhits_zero w X c
  · obtain ⟨b, o, rfl, _, hb, hx⟩ := hc1 h0
    exact rhits_some w b o n c L (by omega) hn h0 hb hx
set_option maxHeartbeats 4000000 in
theorem sof_some (w : World) (A : Option Addr) (m c n : Nat) (H : List Hi) (hH : H.length = m) (hn1 : 1 ≤ n) (hn : n ≤ 288) (hm : m ≤ n) (hc : 0 < m → ∃ b o, A = some ⟨b, o, none⟩ ∧ b < w.heap.size ∧ ∀ j u, (hiC H)[j]? = some u → w.cell? ⟨b, o + j, none⟩ = some u) :
    Calls Try.prog 12 #[.slice A m c, .int .i64 (n : Int)] w fun e w' => ∃ g, e = .returned (.tuple #[.slice (some ⟨g, 0, none⟩) n n, .int .i64 0]) ∧ OfI w g n (ofL H n) w' := by
  obtain ⟨is0, his, hsz0, hsz1, hsz2⟩ := info_parts Try.infoSl
  have HC := Lib.hid hc
  have HL := Lib.hid hH
  have hd1 : decide ((n : Int) < 1) = false := decide_eq_false (by omega)
  have hd2 : decide (288 < (n : Int)) = false := decide_eq_false (by omega)
  have hd3 : decide (n < m) = false := decide_eq_false (by omega)
  have hd4 : decide ((n : Int) < (m : Int)) = false := decide_eq_false (by omega)
  obtain ⟨M1, hM1⟩ : ∃ M1, n64 (msk true) = M1 := ⟨_, rfl⟩
  have HM1 := Lib.hid hM1
  have HOF : Hid (∀ w, Calls Try.prog 36 #[.int .u64 1] w fun e w' => e = .returned (.int .u64 M1) ∧ w = w') := Lib.hid (fun w => by have := of_any 1#64 w; rw [show ofM 1#64 = msk true from rfl, hM1] at this; exact this)
  have HOI := Lib.hid (fun w => outside_in (n : Int) 1 288 (by omega) (by omega) w)
  clear hc hH hM1
  go_enter Try.func12, Try.ntmps12
  go_wp2_with fail
  refine (HOI.out _).mono ?_
  rintro e w' ⟨rfl, rfl⟩
  go_wp2_with (at_make; refine wpList_make_full _ rfl _ _ 22 rfl w.heap.size 75 is0 (.agg #[.int .u64 0, .int .u64 0, .int .u64 0]) 3 Try.underlying22 his hsz0 hsz1 .i64 .i64 _ _ n rfl rfl rfl rfl (by rw [hsz2]; omega) (by unfold maxLen; omega) (Nat.le_refl _) ?_; intro w0 hown0 hgrow0)
  rw [made_slots'] at hown0
  have HR0 : Hid (OfI w w.heap.size n (ofK H n 0) w0) := Lib.hid ⟨by rw [ofK_zero]; exact hown0, Off.grown (Off.refl _ _) hgrow0 (fun k hk => by cases hk)⟩
  clear hown0 hgrow0 his hsz0 hsz1 hsz2
  revert HR0
  obtain ⟨g, hg⟩ : ∃ g, w.heap.size = g := ⟨_, rfl⟩
  rw [hg]
  intro HR0
  have HG := Lib.hid hg
  clear hg
  go_wp2_with fail
  go_loopw [21] (fun i wr => ∃ j : Nat, j ≤ m ∧ i = .int .i64 (j : Int) ∧ OfI w g n (ofK H n j) wr) (fun i _ => m - (intOf i).toNat)
  case atStart => exact ⟨0, Nat.zero_le _, rfl, HR0.out⟩
  case round =>
    obtain ⟨j, hj, rfl, hrel⟩ := hrel
    have HR := Lib.hid hrel
    clear hrel HR0
    by_cases hlt : j < m
    · obtain ⟨b, o, rfl, hb, hx⟩ := HC.out (by omega)
      obtain ⟨d1, d2⟩ := hiC_at H j (by rw [HL.out]; exact hlt)
      replace d1 := (HR.out.2.cell_old hb _).trans (hx _ _ d1)
      replace d2 := (HR.out.2.cell_old hb _).trans (hx _ _ d2)
      rw [← Nat.add_assoc] at d2
      have HN := Lib.hid (ofK_set H n j (by omega) (by rw [HL.out]; exact hlt))
      obtain ⟨x, hxx⟩ : ∃ x, hi H j = x := ⟨_, rfl⟩
      rw [hxx] at d1 d2 HN
      have HZ := Lib.hid (show [Value.int .u64 (n64 (ofV x).1), .int .u64 (n64 (ofV x).2.1), .int .u64 (n64 (ofV x).2.2)] = [.int .u64 (n64 (msk true)), .int .u64 (IntKind.u64.wrap x.1), .int .u64 (IntKind.u64.wrap x.2)] by rw [wrap_u64, wrap_u64]; rfl)
      obtain ⟨v1, hv1⟩ : ∃ v, x.1 = v := ⟨_, rfl⟩
      obtain ⟨v2, hv2⟩ : ∃ v, x.2 = v := ⟨_, rfl⟩
      rw [hv1] at d1
      rw [hv2] at d2
      rw [HM1.out, hv1, hv2] at HZ
      obtain ⟨z1, hz1⟩ : ∃ v, IntKind.u64.wrap v1 = v := ⟨_, rfl⟩
      obtain ⟨z2, hz2⟩ : ∃ v, IntKind.u64.wrap v2 = v := ⟨_, rfl⟩
      rw [hz1, hz2] at HZ
      have NE : Hid (wr.heap.size ≠ g) := Lib.hid (by have := (HR.out.1.lt g rfl).2; omega)
      have hjn : j < n := by omega
      clear hx hxx hv1 hv2
      go_wp2_with fail
      rename_i K9 hK9
      refine wp_region_held_drew (S := fun W => W.cell? ⟨wr.heap.size, 0, none⟩ = some (.int .i64 v1) ∧ W.cell? ⟨wr.heap.size, 1, none⟩ = some (.int .i64 v2) ∧ W.there g (j * 3) 3) (by kernel_rfl) ⟨(Blk.new wr 50 #[.int .i64 v1, .int .i64 v2]).cell 0, (Blk.new wr 50 #[.int .i64 v1, .int .i64 v2]).cell 1, (HR.out.off (Off.alloc (Off.refl _ _) _)).there j (by omega)⟩ (fun hHeld => ?_)
      refine wpAnyH_take (i := 0) (v := ?v0) rfl (by kernel_rfl) (by kernel_rfl) (by kernel_rfl) (fun _ _ _ h => h) (Or.inl ⟨by rfl, ?h0⟩) (by assumption) ?r0
      case h0 => (intro w hSw; (try dsimp only at hSw); go_simp <;> with_reducible rfl)
      try simp only [Act.put, List.getElem_toArray, List.getElem_cons_zero, List.getElem_cons_succ, List.setIfInBounds_toArray, List.set_cons_zero, List.set_cons_succ]
      refine wpAnyH_take (i := 1) (v := ?v1) rfl (by kernel_rfl) (by kernel_rfl) (by kernel_rfl) (fun _ _ _ h => h) (Or.inl ⟨by rfl, ?h1⟩) (by assumption) ?r1
      case h1 => (intro w hSw; (try dsimp only at hSw); go_simp <;> with_reducible rfl)
      try simp only [Act.put, List.getElem_toArray, List.getElem_cons_zero, List.getElem_cons_succ, List.setIfInBounds_toArray, List.set_cons_zero, List.set_cons_succ]
      refine wpAnyH_take (i := 3) (v := ?v2) rfl (by kernel_rfl) (by kernel_rfl) (by kernel_rfl) (fun _ _ _ h => h) (Or.inl ⟨by rfl, ?h2⟩) (by assumption) ?r2
      case h2 => (intro w hSw; (try dsimp only at hSw); go_simp <;> with_reducible rfl)
      try simp only [Act.put, List.getElem_toArray, List.getElem_cons_zero, List.getElem_cons_succ, List.setIfInBounds_toArray, List.set_cons_zero, List.set_cons_succ]
      refine wpAnyH_take (i := 4) (v := ?v3) rfl (by kernel_rfl) (by kernel_rfl) (by kernel_rfl) (fun _ _ _ h => h) (Or.inl ⟨by rfl, ?h3⟩) (by assumption) ?r3
      case h3 => (intro w hSw; (try dsimp only at hSw); go_simp <;> with_reducible rfl)
      try simp only [Act.put, List.getElem_toArray, List.getElem_cons_zero, List.getElem_cons_succ, List.setIfInBounds_toArray, List.set_cons_zero, List.set_cons_succ]
      refine wpAnyH_take (i := 5) (v := ?v4) rfl (by kernel_rfl) (by kernel_rfl) (by kernel_rfl) (fun _ _ _ h => h) (Or.inl ⟨by rfl, ?h4⟩) (by assumption) ?r4
      case h4 => (intro w hSw; (try dsimp only at hSw); go_simp <;> with_reducible rfl)
      try simp only [Act.put, List.getElem_toArray, List.getElem_cons_zero, List.getElem_cons_succ, List.setIfInBounds_toArray, List.set_cons_zero, List.set_cons_succ]
      refine wpAnyH_take (i := 6) (v := ?v5) rfl (by kernel_rfl) (by kernel_rfl) (by kernel_rfl) (fun _ _ _ h => h) (Or.inl ⟨by rfl, ?h5⟩) (by assumption) ?r5
      case h5 => (intro w hSw; (try dsimp only at hSw); go_simp <;> with_reducible rfl)
      try simp only [Act.put, List.getElem_toArray, List.getElem_cons_zero, List.getElem_cons_succ, List.setIfInBounds_toArray, List.set_cons_zero, List.set_cons_succ]
      refine wpAnyH_take (i := 7) (v := ?v6) rfl (by kernel_rfl) (by kernel_rfl) (by kernel_rfl) (fun _ _ _ h => h) (Or.inl ⟨by rfl, ?h6⟩) (by assumption) ?r6
      case h6 => (intro w hSw; (try dsimp only at hSw); go_simp <;> with_reducible rfl)
      try simp only [Act.put, List.getElem_toArray, List.getElem_cons_zero, List.getElem_cons_succ, List.setIfInBounds_toArray, List.set_cons_zero, List.set_cons_succ]
      refine wpAnyH_take (i := 8) (v := ?v7) rfl (by kernel_rfl) (by kernel_rfl) (by kernel_rfl) (fun _ _ _ h => h) (Or.inl ⟨by rfl, ?h7⟩) (by assumption) ?r7
      case h7 => (intro w hSw; (try dsimp only at hSw); go_simp <;> with_reducible rfl)
      try simp only [Act.put, List.getElem_toArray, List.getElem_cons_zero, List.getElem_cons_succ, List.setIfInBounds_toArray, List.set_cons_zero, List.set_cons_succ]
      refine wpAnyH_ready (rs := [2]) (by kernel_rfl) (by simp) ?_
      refine AllReadyH.cons rfl (fun K hK => ?s8) ?m8
      case s8 =>
        go_simp
        refine (HOF.out _).mono ?_
        rintro e w' ⟨rfl, rfl⟩
        go_simp
        refine hK.out _ _ ?_ (fun hHeld => ?_)
        · first | with_reducible assumption | go_keep
        clear hK K
        try simp only [Act.put, List.getElem_toArray, List.getElem_cons_zero, List.getElem_cons_succ, List.setIfInBounds_toArray, List.set_cons_zero, List.set_cons_succ]
        refine wpAnyH_take (i := 9) (v := ?v9) rfl (by kernel_rfl) (by kernel_rfl) (by kernel_rfl) (fun _ _ _ h => h) (Or.inl ⟨by rfl, ?h9⟩) (by assumption) ?r9
        case h9 => (intro w hSw; (try dsimp only at hSw); go_simp <;> with_reducible rfl)
        try simp only [Act.put, List.getElem_toArray, List.getElem_cons_zero, List.getElem_cons_succ, List.setIfInBounds_toArray, List.set_cons_zero, List.set_cons_succ]
        refine wpAnyH_take (i := 10) (v := ?v10) rfl (by kernel_rfl) (by kernel_rfl) (by kernel_rfl) (fun _ _ _ h => h) (Or.inl ⟨by rfl, ?h10⟩) (by assumption) ?r10
        case h10 => (intro w hSw; (try dsimp only at hSw); go_simp <;> with_reducible rfl)
        try simp only [Act.put, List.getElem_toArray, List.getElem_cons_zero, List.getElem_cons_succ, List.setIfInBounds_toArray, List.set_cons_zero, List.set_cons_succ]
        refine wpAnyH_ready (rs := [11]) (by kernel_rfl) (by simp) ?_
        refine AllReadyH.cons rfl (fun K hK => ?s11) ?m11
        case s11 =>
          refine wp_store_mid 75 _ _ rfl g (j * 3) #[.int .u64 M1, .int .u64 z1, .int .u64 z2] rfl rfl hHeld.2.2 Try.infoSl3o (by simp [Value.oneCell']) ?_
          refine hK.out _ _ ?_ (fun hHeld => ?_)
          · first | exact ⟨cell_apartO hHeld.1 _ _ _ (NE.out), cell_apartO hHeld.2.1 _ _ _ (NE.out), World.there_setCells hHeld.2.2 _ _ _⟩ | go_keep
          clear hK K
          try simp only [Act.put, List.getElem_toArray, List.getElem_cons_zero, List.getElem_cons_succ, List.setIfInBounds_toArray, List.set_cons_zero, List.set_cons_succ]
          refine wpAnyH_done (by kernel_rfl) ?_ _
          have H1 : Hid (OfI w g n (ofK H n (j + 1)) ((wr.alloc (.cells #[.int .i64 v1, .int .i64 v2] 50)).drew.setCells g (j * 3) [.int .u64 M1, .int .u64 z1, .int .u64 z2])) := Lib.hid (by
            have := (HR.out.off (Off.drew (Off.alloc (Off.refl _ _) (.cells #[.int .i64 v1, .int .i64 v2] 50)))).put j (ofV x)
            rw [HN.out, HZ.out] at this
            exact this)
          go_wp2_with fail
          go_roundw
          case rel => exact ⟨j + 1, by omega, by go_num, H1.out⟩
          case measure => simp [intOf]; omega
        exact AllReadyH.nil
      exact AllReadyH.nil
    · obtain rfl : j = m := by omega
      go_wp2_with fail
      go_ret2
      exact ⟨g, rfl, by have := HR.out; rw [← HL.out] at this; exact this⟩
set_option maxHeartbeats 4000000 in
theorem rsof_some (w : World) (A : Option Addr) (m c n : Nat) (H : List Hi) (hH : H.length = m) (hn1 : 1 ≤ n) (hn : n ≤ 288) (hm : m ≤ n) (hc : 0 < m → ∃ b o, A = some ⟨b, o, none⟩ ∧ b < w.heap.size ∧ ∀ j u, (hiC H)[j]? = some u → w.cell? ⟨b, o + j, none⟩ = some u) :
    Calls Try.prog 13 #[.slice A m c, .int .i64 (n : Int)] w fun e w' => ∃ g, e = .returned (.tuple #[.slice (some ⟨g, 0, none⟩) n n, .int .i64 0]) ∧ OfI w g n (ofL H n) w' := by
  obtain ⟨is0, his, hsz0, hsz1, hsz2⟩ := info_parts Try.infoSl
  have HC := Lib.hid hc
  have HL := Lib.hid hH
  have hd1 : decide ((n : Int) < 1) = false := decide_eq_false (by omega)
  have hd2 : decide (288 < (n : Int)) = false := decide_eq_false (by omega)
  have hd3 : decide (n < m) = false := decide_eq_false (by omega)
  have hd4 : decide ((n : Int) < (m : Int)) = false := decide_eq_false (by omega)
  obtain ⟨M1, hM1⟩ : ∃ M1, n64 (msk true) = M1 := ⟨_, rfl⟩
  have HM1 := Lib.hid hM1
  have HOF : Hid (∀ w, Calls Try.prog 26 #[.int .u64 1] w fun e w' => e = .returned (.int .u64 M1) ∧ w = w') := Lib.hid (fun w => by have := rof_any 1#64 w; rw [show ofM 1#64 = msk true from rfl, hM1] at this; exact this)

  clear hc hH hM1
  go_enter Try.func13, Try.ntmps13
  go_wp2_with (at_make; refine wpList_make_full _ rfl _ _ 22 rfl w.heap.size 75 is0 (.agg #[.int .u64 0, .int .u64 0, .int .u64 0]) 3 Try.underlying22 his hsz0 hsz1 .i64 .i64 _ _ n rfl rfl rfl rfl (by rw [hsz2]; omega) (by unfold maxLen; omega) (Nat.le_refl _) ?_; intro w0 hown0 hgrow0)
  rw [made_slots'] at hown0
  have HR0 : Hid (OfI w w.heap.size n (ofK H n 0) w0) := Lib.hid ⟨by rw [ofK_zero]; exact hown0, Off.grown (Off.refl _ _) hgrow0 (fun k hk => by cases hk)⟩
  clear hown0 hgrow0 his hsz0 hsz1 hsz2
  revert HR0
  obtain ⟨g, hg⟩ : ∃ g, w.heap.size = g := ⟨_, rfl⟩
  rw [hg]
  intro HR0
  have HG := Lib.hid hg
  clear hg
  go_wp2_with fail
  go_loopw [7] (fun i wr => ∃ j : Nat, j ≤ m ∧ i = .int .i64 (j : Int) ∧ OfI w g n (ofK H n j) wr) (fun i _ => m - (intOf i).toNat)
  case atStart => exact ⟨0, Nat.zero_le _, rfl, HR0.out⟩
  case round =>
    obtain ⟨j, hj, rfl, hrel⟩ := hrel
    have HR := Lib.hid hrel
    clear hrel HR0
    by_cases hlt : j < m
    · obtain ⟨b, o, rfl, hb, hx⟩ := HC.out (by omega)
      obtain ⟨d1, d2⟩ := hiC_at H j (by rw [HL.out]; exact hlt)
      replace d1 := (HR.out.2.cell_old hb _).trans (hx _ _ d1)
      replace d2 := (HR.out.2.cell_old hb _).trans (hx _ _ d2)
      rw [← Nat.add_assoc] at d2
      have HN := Lib.hid (ofK_set H n j (by omega) (by rw [HL.out]; exact hlt))
      obtain ⟨x, hxx⟩ : ∃ x, hi H j = x := ⟨_, rfl⟩
      rw [hxx] at d1 d2 HN
      have HZ := Lib.hid (show [Value.int .u64 (n64 (ofV x).1), .int .u64 (n64 (ofV x).2.1), .int .u64 (n64 (ofV x).2.2)] = [.int .u64 (n64 (msk true)), .int .u64 (IntKind.u64.wrap x.1), .int .u64 (IntKind.u64.wrap x.2)] by rw [wrap_u64, wrap_u64]; rfl)
      obtain ⟨v1, hv1⟩ : ∃ v, x.1 = v := ⟨_, rfl⟩
      obtain ⟨v2, hv2⟩ : ∃ v, x.2 = v := ⟨_, rfl⟩
      rw [hv1] at d1
      rw [hv2] at d2
      rw [HM1.out, hv1, hv2] at HZ
      obtain ⟨z1, hz1⟩ : ∃ v, IntKind.u64.wrap v1 = v := ⟨_, rfl⟩
      obtain ⟨z2, hz2⟩ : ∃ v, IntKind.u64.wrap v2 = v := ⟨_, rfl⟩
      rw [hz1, hz2] at HZ
      have NE : Hid (b ≠ g) := Lib.hid (by have := (HR.out.1.lt g rfl).1; omega)
      have hjn : j < n := by omega
      clear hx hxx hv1 hv2
      go_wp2_with fail
      rename_i K9 hK9
      refine wp_region_held_drew (S := fun W => W.cell? ⟨b, o + j * 2, none⟩ = some (.int .i64 v1) ∧ W.cell? ⟨b, o + j * 2 + 1, none⟩ = some (.int .i64 v2) ∧ W.there g (j * 3) 3) (by kernel_rfl) ⟨d1, d2, HR.out.there j (by omega)⟩ (fun hHeld => ?_)
      refine wpAnyH_take (i := 0) (v := ?v0) rfl (by kernel_rfl) (by kernel_rfl) (by kernel_rfl) (fun _ _ _ h => h) (Or.inl ⟨by rfl, ?h0⟩) (by assumption) ?r0
      case h0 => (intro w hSw; (try dsimp only at hSw); go_simp <;> with_reducible rfl)
      try simp only [Act.put, List.getElem_toArray, List.getElem_cons_zero, List.getElem_cons_succ, List.setIfInBounds_toArray, List.set_cons_zero, List.set_cons_succ]
      refine wpAnyH_take (i := 1) (v := ?v1) rfl (by kernel_rfl) (by kernel_rfl) (by kernel_rfl) (fun _ _ _ h => h) (Or.inl ⟨by rfl, ?h1⟩) (by assumption) ?r1
      case h1 => (intro w hSw; (try dsimp only at hSw); go_simp <;> with_reducible rfl)
      try simp only [Act.put, List.getElem_toArray, List.getElem_cons_zero, List.getElem_cons_succ, List.setIfInBounds_toArray, List.set_cons_zero, List.set_cons_succ]
      refine wpAnyH_take (i := 3) (v := ?v2) rfl (by kernel_rfl) (by kernel_rfl) (by kernel_rfl) (fun _ _ _ h => h) (Or.inl ⟨by rfl, ?h2⟩) (by assumption) ?r2
      case h2 => (intro w hSw; (try dsimp only at hSw); go_simp <;> with_reducible rfl)
      try simp only [Act.put, List.getElem_toArray, List.getElem_cons_zero, List.getElem_cons_succ, List.setIfInBounds_toArray, List.set_cons_zero, List.set_cons_succ]
      refine wpAnyH_take (i := 4) (v := ?v3) rfl (by kernel_rfl) (by kernel_rfl) (by kernel_rfl) (fun _ _ _ h => h) (Or.inl ⟨by rfl, ?h3⟩) (by assumption) ?r3
      case h3 => (intro w hSw; (try dsimp only at hSw); go_simp <;> with_reducible rfl)
      try simp only [Act.put, List.getElem_toArray, List.getElem_cons_zero, List.getElem_cons_succ, List.setIfInBounds_toArray, List.set_cons_zero, List.set_cons_succ]
      refine wpAnyH_take (i := 5) (v := ?v4) rfl (by kernel_rfl) (by kernel_rfl) (by kernel_rfl) (fun _ _ _ h => h) (Or.inl ⟨by rfl, ?h4⟩) (by assumption) ?r4
      case h4 => (intro w hSw; (try dsimp only at hSw); go_simp <;> with_reducible rfl)
      try simp only [Act.put, List.getElem_toArray, List.getElem_cons_zero, List.getElem_cons_succ, List.setIfInBounds_toArray, List.set_cons_zero, List.set_cons_succ]
      refine wpAnyH_take (i := 6) (v := ?v5) rfl (by kernel_rfl) (by kernel_rfl) (by kernel_rfl) (fun _ _ _ h => h) (Or.inl ⟨by rfl, ?h5⟩) (by assumption) ?r5
      case h5 => (intro w hSw; (try dsimp only at hSw); go_simp <;> with_reducible rfl)
      try simp only [Act.put, List.getElem_toArray, List.getElem_cons_zero, List.getElem_cons_succ, List.setIfInBounds_toArray, List.set_cons_zero, List.set_cons_succ]
      refine wpAnyH_take (i := 7) (v := ?v6) rfl (by kernel_rfl) (by kernel_rfl) (by kernel_rfl) (fun _ _ _ h => h) (Or.inl ⟨by rfl, ?h6⟩) (by assumption) ?r6
      case h6 => (intro w hSw; (try dsimp only at hSw); go_simp <;> with_reducible rfl)
      try simp only [Act.put, List.getElem_toArray, List.getElem_cons_zero, List.getElem_cons_succ, List.setIfInBounds_toArray, List.set_cons_zero, List.set_cons_succ]
      refine wpAnyH_take (i := 8) (v := ?v7) rfl (by kernel_rfl) (by kernel_rfl) (by kernel_rfl) (fun _ _ _ h => h) (Or.inl ⟨by rfl, ?h7⟩) (by assumption) ?r7
      case h7 => (intro w hSw; (try dsimp only at hSw); go_simp <;> with_reducible rfl)
      try simp only [Act.put, List.getElem_toArray, List.getElem_cons_zero, List.getElem_cons_succ, List.setIfInBounds_toArray, List.set_cons_zero, List.set_cons_succ]
      refine wpAnyH_take (i := 9) (v := ?v8) rfl (by kernel_rfl) (by kernel_rfl) (by kernel_rfl) (fun _ _ _ h => h) (Or.inl ⟨by rfl, ?h8⟩) (by assumption) ?r8
      case h8 => (intro w hSw; (try dsimp only at hSw); go_simp <;> with_reducible rfl)
      try simp only [Act.put, List.getElem_toArray, List.getElem_cons_zero, List.getElem_cons_succ, List.setIfInBounds_toArray, List.set_cons_zero, List.set_cons_succ]
      refine wpAnyH_take (i := 10) (v := ?v9) rfl (by kernel_rfl) (by kernel_rfl) (by kernel_rfl) (fun _ _ _ h => h) (Or.inl ⟨by rfl, ?h9⟩) (by assumption) ?r9
      case h9 => (intro w hSw; (try dsimp only at hSw); go_simp <;> with_reducible rfl)
      try simp only [Act.put, List.getElem_toArray, List.getElem_cons_zero, List.getElem_cons_succ, List.setIfInBounds_toArray, List.set_cons_zero, List.set_cons_succ]
      refine wpAnyH_take (i := 11) (v := ?v10) rfl (by kernel_rfl) (by kernel_rfl) (by kernel_rfl) (fun _ _ _ h => h) (Or.inl ⟨by rfl, ?h10⟩) (by assumption) ?r10
      case h10 => (intro w hSw; (try dsimp only at hSw); go_simp <;> with_reducible rfl)
      try simp only [Act.put, List.getElem_toArray, List.getElem_cons_zero, List.getElem_cons_succ, List.setIfInBounds_toArray, List.set_cons_zero, List.set_cons_succ]
      refine wpAnyH_take (i := 12) (v := ?v11) rfl (by kernel_rfl) (by kernel_rfl) (by kernel_rfl) (fun _ _ _ h => h) (Or.inl ⟨by rfl, ?h11⟩) (by assumption) ?r11
      case h11 => (intro w hSw; (try dsimp only at hSw); go_simp <;> with_reducible rfl)
      try simp only [Act.put, List.getElem_toArray, List.getElem_cons_zero, List.getElem_cons_succ, List.setIfInBounds_toArray, List.set_cons_zero, List.set_cons_succ]
      refine wpAnyH_take (i := 13) (v := ?v12) rfl (by kernel_rfl) (by kernel_rfl) (by kernel_rfl) (fun _ _ _ h => h) (Or.inl ⟨by rfl, ?h12⟩) (by assumption) ?r12
      case h12 => (intro w hSw; (try dsimp only at hSw); go_simp <;> with_reducible rfl)
      try simp only [Act.put, List.getElem_toArray, List.getElem_cons_zero, List.getElem_cons_succ, List.setIfInBounds_toArray, List.set_cons_zero, List.set_cons_succ]
      refine wpAnyH_take (i := 14) (v := ?v13) rfl (by kernel_rfl) (by kernel_rfl) (by kernel_rfl) (fun _ _ _ h => h) (Or.inl ⟨by rfl, ?h13⟩) (by assumption) ?r13
      case h13 => (intro w hSw; (try dsimp only at hSw); go_simp <;> with_reducible rfl)
      try simp only [Act.put, List.getElem_toArray, List.getElem_cons_zero, List.getElem_cons_succ, List.setIfInBounds_toArray, List.set_cons_zero, List.set_cons_succ]
      refine wpAnyH_ready (rs := [2]) (by kernel_rfl) (by simp) ?_
      refine AllReadyH.cons rfl (fun K hK => ?s14) ?m14
      case s14 =>
        go_simp
        refine (HOF.out _).mono ?_
        rintro e w' ⟨rfl, rfl⟩
        go_simp
        refine hK.out _ _ ?_ (fun hHeld => ?_)
        · first | with_reducible assumption | go_keep
        clear hK K
        try simp only [Act.put, List.getElem_toArray, List.getElem_cons_zero, List.getElem_cons_succ, List.setIfInBounds_toArray, List.set_cons_zero, List.set_cons_succ]
        refine wpAnyH_take (i := 15) (v := ?v15) rfl (by kernel_rfl) (by kernel_rfl) (by kernel_rfl) (fun _ _ _ h => h) (Or.inl ⟨by rfl, ?h15⟩) (by assumption) ?r15
        case h15 => (intro w hSw; (try dsimp only at hSw); go_simp <;> with_reducible rfl)
        try simp only [Act.put, List.getElem_toArray, List.getElem_cons_zero, List.getElem_cons_succ, List.setIfInBounds_toArray, List.set_cons_zero, List.set_cons_succ]
        refine wpAnyH_take (i := 16) (v := ?v16) rfl (by kernel_rfl) (by kernel_rfl) (by kernel_rfl) (fun _ _ _ h => h) (Or.inl ⟨by rfl, ?h16⟩) (by assumption) ?r16
        case h16 => (intro w hSw; (try dsimp only at hSw); go_simp <;> with_reducible rfl)
        try simp only [Act.put, List.getElem_toArray, List.getElem_cons_zero, List.getElem_cons_succ, List.setIfInBounds_toArray, List.set_cons_zero, List.set_cons_succ]
        refine wpAnyH_ready (rs := [17]) (by kernel_rfl) (by simp) ?_
        refine AllReadyH.cons rfl (fun K hK => ?s17) ?m17
        case s17 =>
          refine wp_store_mid 75 _ _ rfl g (j * 3) #[.int .u64 M1, .int .u64 z1, .int .u64 z2] rfl rfl hHeld.2.2 Try.infoSl3o (by simp [Value.oneCell']) ?_
          refine hK.out _ _ ?_ (fun hHeld => ?_)
          · first | exact ⟨cell_apartO hHeld.1 _ _ _ (NE.out), cell_apartO hHeld.2.1 _ _ _ (NE.out), World.there_setCells hHeld.2.2 _ _ _⟩ | go_keep
          clear hK K
          try simp only [Act.put, List.getElem_toArray, List.getElem_cons_zero, List.getElem_cons_succ, List.setIfInBounds_toArray, List.set_cons_zero, List.set_cons_succ]
          refine wpAnyH_done (by kernel_rfl) ?_ _
          have H1 : Hid (OfI w g n (ofK H n (j + 1)) (wr.drew.setCells g (j * 3) [.int .u64 M1, .int .u64 z1, .int .u64 z2])) := Lib.hid (by
            have := (HR.out.off (Off.drew (Off.refl _ _))).put j (ofV x)
            rw [HN.out, HZ.out] at this
            exact this)
          go_wp2_with fail
          go_roundw
          case rel => exact ⟨j + 1, by omega, by go_num, H1.out⟩
          case measure => simp [intOf]; omega
        exact AllReadyH.nil
      exact AllReadyH.nil
    · obtain rfl : j = m := by omega
      go_wp2_with fail
      go_ret2
      exact ⟨g, rfl, by have := HR.out; rw [← HL.out] at this; exact this⟩
theorem sof_range (w : World) (A : Option Addr) (m c : Nat) (n : Int) (h : n < 1 ∨ 288 < n) :
    Calls Try.prog 12 #[.slice A m c, .int .i64 n] w fun e w' => e = .returned (.tuple #[.slice none 0 0, .int .i64 7]) ∧ w = w' := by
  have HOI := Lib.hid (fun w => outside_out n 1 288 h w)
  have t1 : decide (n < 1) = true ∨ (decide (n < 1) = false ∧ decide (288 < n) = true) := by
    by_cases q : n < 1
    · exact .inl (decide_eq_true q)
    · exact .inr ⟨decide_eq_false q, decide_eq_true (by omega)⟩
  clear h
  rcases t1 with t1 | ⟨t1, t2⟩
  all_goals
    go_enter Try.func12, Try.ntmps12
    go_wp2_with fail
    refine (HOI.out _).mono ?_
    rintro e w' ⟨rfl, rfl⟩
    go_wp2_with fail
    go_ret2
    exact ⟨rfl, rfl⟩
theorem sof_long (w : World) (A : Option Addr) (m c : Nat) (n : Nat) (hn1 : 1 ≤ n) (hn : n ≤ 288) (hm : n < m) :
    Calls Try.prog 12 #[.slice A m c, .int .i64 (n : Int)] w fun e w' => e = .returned (.tuple #[.slice none 0 0, .int .i64 3]) ∧ w = w' := by
  have HOI := Lib.hid (fun w => outside_in (n : Int) 1 288 (by omega) (by omega) w)
  have hd1 : decide ((n : Int) < 1) = false := decide_eq_false (by omega)
  have hd2 : decide (288 < (n : Int)) = false := decide_eq_false (by omega)
  have hd3 : decide (n < m) = true := decide_eq_true hm
  have hd4 : decide ((n : Int) < (m : Int)) = true := decide_eq_true (by omega)
  go_enter Try.func12, Try.ntmps12
  go_wp2_with fail
  refine (HOI.out _).mono ?_
  rintro e w' ⟨rfl, rfl⟩
  go_wp2_with fail
  go_ret2
  exact ⟨rfl, rfl⟩
theorem rsof_range (w : World) (A : Option Addr) (m c : Nat) (n : Int) (h : n < 1 ∨ 288 < n) :
    Calls Try.prog 13 #[.slice A m c, .int .i64 n] w fun e w' => e = .returned (.tuple #[.slice none 0 0, .int .i64 7]) ∧ w = w' := by

  have t1 : decide (n < 1) = true ∨ (decide (n < 1) = false ∧ decide (288 < n) = true) := by
    by_cases q : n < 1
    · exact .inl (decide_eq_true q)
    · exact .inr ⟨decide_eq_false q, decide_eq_true (by omega)⟩
  clear h
  rcases t1 with t1 | ⟨t1, t2⟩
  all_goals
    go_enter Try.func13, Try.ntmps13
    go_wp2_with fail

    go_ret2
    exact ⟨rfl, rfl⟩
theorem rsof_long (w : World) (A : Option Addr) (m c : Nat) (n : Nat) (hn1 : 1 ≤ n) (hn : n ≤ 288) (hm : n < m) :
    Calls Try.prog 13 #[.slice A m c, .int .i64 (n : Int)] w fun e w' => e = .returned (.tuple #[.slice none 0 0, .int .i64 3]) ∧ w = w' := by

  have hd1 : decide ((n : Int) < 1) = false := decide_eq_false (by omega)
  have hd2 : decide (288 < (n : Int)) = false := decide_eq_false (by omega)
  have hd3 : decide (n < m) = true := decide_eq_true hm
  have hd4 : decide ((n : Int) < (m : Int)) = true := decide_eq_true (by omega)
  go_enter Try.func13, Try.ntmps13
  go_wp2_with fail
  go_ret2
  exact ⟨rfl, rfl⟩
theorem sof_any {w : World} {G : Nat → Prop} {v : Value} {m : Nat} {n : Int} {H : List Hi} (h : Rd w G 2 v m (hiC H)) (hz : ofE m n = 0) : Calls Try.prog 12 #[v, .int .i64 n] w fun e w' => ∃ g, e = .returned (.tuple #[.slice (some ⟨g, 0, none⟩) n.toNat n.toNat, .int .i64 0]) ∧ OfI w g n.toNat (ofL H n.toNat) w' := by
  obtain ⟨X, c, rfl, hm1, hl1, hc1⟩ := h
  rw [hiC_len] at hl1
  have hb : 1 ≤ n ∧ n ≤ 288 ∧ (m : Int) ≤ n := by
    unfold ofE at hz
    split at hz
    · cases hz
    · split at hz
      · cases hz
      · omega
  obtain ⟨k, rfl⟩ := Int.eq_ofNat_of_zero_le (a := n) (by omega)
  rw [Int.toNat_natCast]
  exact sof_some w X m c k H (by omega) (by omega) (by omega) (by omega) (fun h0 => by obtain ⟨b, o, hA, _, hb, hx⟩ := hc1 h0; exact ⟨b, o, hA, hb, hx⟩)
theorem sof_err {w : World} {G : Nat → Prop} {v : Value} {m : Nat} {n : Int} {H : List Hi} (h : Rd w G 2 v m (hiC H)) (hz : ofE m n ≠ 0) : Calls Try.prog 12 #[v, .int .i64 n] w fun e w' => e = .returned (.tuple #[.slice none 0 0, .int .i64 (ofE m n)]) ∧ w = w' := by
  obtain ⟨X, c, rfl, hm1, hl1, hc1⟩ := h
  unfold ofE at hz ⊢
  split
  · rename_i h1
    exact sof_range w X m c n h1
  · rename_i h1
    rw [if_neg h1] at hz
    split
    · rename_i h2
      obtain ⟨k, rfl⟩ := Int.eq_ofNat_of_zero_le (a := n) (by omega)
      exact sof_long w X m c k (by have := h1; simp at this; omega) (by have := h1; simp at this; omega) (by simpa using h2)
    · rename_i h2
      rw [if_neg h2] at hz
      exact absurd rfl hz
theorem rsof_any {w : World} {G : Nat → Prop} {v : Value} {m : Nat} {n : Int} {H : List Hi} (h : Rd w G 2 v m (hiC H)) (hz : ofE m n = 0) : Calls Try.prog 13 #[v, .int .i64 n] w fun e w' => ∃ g, e = .returned (.tuple #[.slice (some ⟨g, 0, none⟩) n.toNat n.toNat, .int .i64 0]) ∧ OfI w g n.toNat (ofL H n.toNat) w' := by
  obtain ⟨X, c, rfl, hm1, hl1, hc1⟩ := h
  rw [hiC_len] at hl1
  have hb : 1 ≤ n ∧ n ≤ 288 ∧ (m : Int) ≤ n := by
    unfold ofE at hz
    split at hz
    · cases hz
    · split at hz
      · cases hz
      · omega
  obtain ⟨k, rfl⟩ := Int.eq_ofNat_of_zero_le (a := n) (by omega)
  rw [Int.toNat_natCast]
  exact rsof_some w X m c k H (by omega) (by omega) (by omega) (by omega) (fun h0 => by obtain ⟨b, o, hA, _, hb, hx⟩ := hc1 h0; exact ⟨b, o, hA, hb, hx⟩)
theorem rsof_err {w : World} {G : Nat → Prop} {v : Value} {m : Nat} {n : Int} {H : List Hi} (h : Rd w G 2 v m (hiC H)) (hz : ofE m n ≠ 0) : Calls Try.prog 13 #[v, .int .i64 n] w fun e w' => e = .returned (.tuple #[.slice none 0 0, .int .i64 (ofE m n)]) ∧ w = w' := by
  obtain ⟨X, c, rfl, hm1, hl1, hc1⟩ := h
  unfold ofE at hz ⊢
  split
  · rename_i h1
    exact rsof_range w X m c n h1
  · rename_i h1
    rw [if_neg h1] at hz
    split
    · rename_i h2
      obtain ⟨k, rfl⟩ := Int.eq_ofNat_of_zero_le (a := n) (by omega)
      exact rsof_long w X m c k (by have := h1; simp at this; omega) (by have := h1; simp at this; omega) (by simpa using h2)
    · rename_i h2
      rw [if_neg h2] at hz
      exact absurd rfl hz
end Go.Proofs.Ytonkhgmfeakbcaa
