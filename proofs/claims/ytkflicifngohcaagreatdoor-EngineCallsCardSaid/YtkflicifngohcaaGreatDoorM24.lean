/-
 A region that draws its order, within a round: what is walked as anywhere serves there too.
-/
import Derived.Test.YtkflicifngohcaaGreatDoorM12
import Derived.OrdersIn
import Derived.OrdersHeld
import Derived.Deep.RegionHeld3
import Derived.Test.YtkflicifngohcaaGreatDoorM23
import Derived.BigQuiet
import Derived.Deep.QuietTactic
import Derived.RegionIn
import Derived.Test.YtkflicifngohcaaGreatDoorM5
import Derived.Test.YtkflicifngohcaaGreatDoorM21
import Derived.Maps.AppendAt
set_option linter.unusedVariables false
set_option linter.unusedSimpArgs false
namespace Go.Proofs.YtkflicifngohcaaGreatDoor
open Go.RowKit Go.Shelf
set_option maxRecDepth 100000
def noDefer (ops : Array Oper) : Bool := ops.toList.all fun o => match o.op with | .defer _ => false | _ => true
theorem noDefer_at {ops : Array Oper} (h : noDefer ops = true) (i : Nat) (o : Oper) (hi : ops[i]? = some o) : ∀ c, o.op ≠ .defer c := by
 intro c hc
 have hm : o ∈ ops.toList := by
  rw [← Array.getElem?_toList] at hi
  exact List.mem_of_getElem? hi
 have := List.all_eq_true.1 h o hm
 rw [hc] at this
 cases this
theorem rows_wide {n : Nat} {P : Program} {row : String} {args : Array Value} {w : World} {R : Value → World → Prop} (h : Rows P row args w R) : RowsIn Fence.wide n P row args w R :=
 fun c cs _ => by
  obtain ⟨v, w', r, s⟩ := h c cs
  exact ⟨v, w', r, stepsIn_wide.2 s⟩
section
variable {l n : Nat} {P : Program} {ops : Array Oper} {Q : Exit → Act → World → Prop}
theorem oper_round {o : Oper} (hd : ∀ c, o.op ≠ .defer c) {K : Act → World → Prop} {a : Act} {w : World} (h : o.wp P a w K Q) : o.wpIn (Fence.wide.inRound l) n P a w K Q := by
 refine ⟨fun _ _ => trivial, ?_⟩
 rw [show (Fence.wide.inRound l).round = some l from rfl, Oper.semAt_eq _ _ _ hd]
 unfold Oper.wp at h
 revert h
 generalize (execOp a.eval o).run P w = r
 intro h
 cases r with
 | ok x w' =>
  cases x with
  | value v => exact h
  | skip => exact h
  | defer d => exact h
  | enter f args => exact ⟨fun hs => absurd (show false = true from hs) Bool.false_ne_true, CallsIn.inRound l (callsIn_wide.2 h)⟩
  | row row args => exact ⟨fun hs => absurd (show false = true from hs) Bool.false_ne_true, rows_wide h⟩
  | _ => exact h.elim
 | halt hl w' =>
  cases hl with
  | panic v => exact h
  | _ => exact h.elim
theorem any_round (hd : noDefer ops = true) (hlo : ¬ LetsOut Q) : ∀ (fuel : Nat) (listed : Array Bool) (a : Act) (w : World), wpAny P .any ops Q fuel listed a w → wpAnyIn (Fence.wide.inRound l) n P .any ops Q fuel listed a w
 | 0, _, _, _, h => h
 | fuel + 1, listed, a, w, h => ⟨h.1, fun i hi => by
  have h2 := h.2 i hi
  unfold wpOp at h2
  unfold wpOpIn
  cases ho : ops[i]? with
  | none =>
   rw [ho] at h2
   exact any_round hd hlo fuel _ a w h2
  | some o =>
   rw [ho] at h2
   dsimp only at h2 ⊢
   by_cases hw : Region.wanted o (yielded ops a.tmps) = true
   ·rw [if_pos hw] at h2 ⊢
    rcases h2 with h2 | h2
    ·exact Oper.wpIn_mono (fun a w h => any_round hd hlo fuel _ a w h) (oper_round (noDefer_at hd i o ho) h2)
    ·exact absurd h2.2 hlo
   ·rw [if_neg hw] at h2 ⊢
    exact ⟨fun _ _ => trivial, any_round hd hlo fuel _ _ w h2⟩⟩
theorem round_held {S : World → Prop} {id : Nat} {a : Act} {w : World} (hm : P.follows .mixedOrders = true) (hd : noDefer ops = true) (hlo : ¬ LetsOut Q) (hS : S w.drew)
  (h : S w.drew → wpAnyH P .any ops Q S ops.size (Array.replicate ops.size false) a w.drew) : (Code.region id ops true).wpIn (Fence.wide.inRound l) n P Q a w :=
 wpIn_region_any hm (any_round hd hlo _ _ _ _ (wpAny_of_held _ _ _ _ (h hS)))
end
end Go.Proofs.YtkflicifngohcaaGreatDoor

namespace Go.Proofs.YtkflicifngohcaaGreatDoor
open Go.RowKit Go.Shelf
attribute [local go_sem] Oper.semAt_some
attribute [local go_sem] bits_and_u64 bits_or_u64 bits_xor_u64 bits_andNot_u64 wrap_u64 bv_add bv_neg bv_sub bv_mul
set_option maxRecDepth 100000
theorem monoIn {n : Nat} {P : Program} {f : FuncId} {args : Array Value} {w : World} {R R' : Ending → World → Prop} (h : Calls P f args w R) (hr : ∀ e w', R e w' → R' e w') : CallsIn Fence.wide n P f args w R' := callsIn_wide.2 (h.mono hr)
def gvF (V : Nat → BitVec 64) (idx : BitVec 64) : Nat → BitVec 64
 | 0 => 0#64
 | k + 1 => gvF V idx k ||| (V k &&& eqM (BitVec.ofNat 64 k) idx)
theorem gvF_eq (V : Nat → BitVec 64) (idx : BitVec 64) (k : Nat) (hk : k ≤ 18446744073709551616) : gvF V idx k = if idx.toNat < k then V idx.toNat else 0#64 := by
 induction k with
 | zero => rfl
 | succ k ih =>
  show gvF V idx k ||| (V k &&& eqM (BitVec.ofNat 64 k) idx) = _
  rw [ih (by omega)]
  unfold eqM
  by_cases h : BitVec.ofNat 64 k = idx
  ·have h2 : idx.toNat = k := by rw [← h, BitVec.toNat_ofNat, Nat.mod_eq_of_lt (by omega)]
   rw [decide_eq_true h, msk_true, BitVec.and_allOnes, if_neg (by omega), if_pos (by omega), h2]
   simp
  ·have h2 : idx.toNat ≠ k := fun e => h (by apply BitVec.eq_of_toNat_eq; rw [BitVec.toNat_ofNat, Nat.mod_eq_of_lt (by omega), e])
   rw [decide_eq_false h, msk_false, BitVec.and_zero, BitVec.or_zero]
   by_cases h3 : idx.toNat < k
   ·rw [if_pos h3, if_pos (by omega)]
   ·rw [if_neg h3, if_neg (by omega)]
section
variable {w : World} {F : Nat → Prop} {p : Nat} {C : List (BitVec 64)} {E : List Ev}
def gB (s p base n : Nat) (idx v : BitVec 64) : Bks := [(s + 1, 41, #[.int .u64 (n64 v)]), (s, 41, #[.int .u64 (n64 idx)]), (s + 1 + 1, 36, #[.pointer (some ⟨p, 0, none⟩)]), (s + 1 + 1 + 1, 3, #[.int .i64 (base : Int)]), (s + 1 + 1 + 1 + 1, 3, #[.int .i64 (n : Int)])]
theorem gB_put {w W : World} {F : Nat → Prop} {s base n : Nat} {idx v : BitVec 64} (h : Wk w F W (gB s p base n idx v) p C E) (v' : BitVec 64) : Wk w F (W.setCell ⟨s + 1, 0, none⟩ (.int .u64 (n64 v'))).drew (gB s p base n idx v') p C E :=
 (h.put 0 (.int .u64 (n64 v'))).off (Off.drew (Off.refl _ _))
set_option maxHeartbeats 4000000 in
theorem get_ok (h : Ar w F p C E) (base n : Nat) (idx : BitVec 64) (hz : lkE C.length E.length base n ((1 : Nat) : Int) = 0) :
  Calls Tryz.prog 48 #[.pointer (some ⟨p, 0, none⟩), .int .i64 (base : Int), .int .i64 (n : Int), .int .u64 (n64 idx)] w fun e w' => e = .returned (.tuple #[.int .u64 (n64 (gvF (fun i => cl C (base + i)) idx n)), .int .i64 0]) ∧ ArTo w F p C (ldE base E n) w' := by
 obtain ⟨g1, g2, g3, g4, g5⟩ := lkE_zero hz
 have hn2 := h.n2
 have HZ := hID hz
 have HW2 := ((Wk.start h).push 41 #[.int .u64 (n64 idx)]).push 41 #[.int .u64 0]
 obtain ⟨Fx, hFx⟩ := HW2.ar
 have HC := hID (lcheck_any hFx base n 1 (by decide))
 have HW := hID HW2
 have G5 := hID g5
 clear h hz hFx HW2 g5
 refine (callsIn_wide (n := 4)).1 ?_
 refine callsIn_of_wp_marks Tryz.func48 rfl trivial ?_ rfl
 simp only [Tryz.ntmps48, List.size_toArray, List.length_cons, List.length_nil, Nat.reduceAdd, Nat.reduceSub, Array.replicate_succ, Array.replicate_zero, List.push_toArray, List.append_toArray, List.nil_append, List.cons_append]
 gi_wp2_with fail
 refine ⟨trivial, ?_⟩
 refine monoIn (R := fun e w' => e = .returned (.int .i64 0) ∧ _ = w') (by have := HC.out; rwa [HZ.out] at this) ?_
 rintro e w' ⟨rfl, rfl⟩
 gi_wp2_with fail
 refine ⟨trivial, ?_⟩
 refine monoIn (all_any p (base : Int) (n : Int) _) ?_
 rintro e w' ⟨rfl, rfl⟩
 have HW5 := ((HW.out.push 36 #[.pointer (some ⟨p, 0, none⟩)]).push 3 #[.int .i64 (base : Int)]).push 3 #[.int .i64 (n : Int)]
 clear HC HZ HW
 simp only [World.size_alloc] at HW5
 gi_wp2_with fail
 have hs0 : (((((w.alloc (.cells #[.int .u64 (n64 idx)] 41)).alloc (.cells #[.int .u64 0] 41)).alloc (.cells #[.pointer (some ⟨p, 0, none⟩)] 36)).alloc (.cells #[.int .i64 (base : Int)] 3)).alloc (.cells #[.int .i64 (n : Int)] 3)).heap.size = w.heap.size + 5 := by simp
 generalize ((((w.alloc (.cells #[.int .u64 (n64 idx)] 41)).alloc (.cells #[.int .u64 0] 41)).alloc (.cells #[.pointer (some ⟨p, 0, none⟩)] 36)).alloc (.cells #[.int .i64 (base : Int)] 3)).alloc (.cells #[.int .i64 (n : Int)] 3) = W0 at *
 have HS := hID hs0
 have HW0 : Hid (Wk w F W0 (gB w.heap.size p base n idx (gvF (fun i => cl C (base + i)) idx 0)) p C (ldE base E 0)) := hID (HW5.sub (fun x hx => by unfold gB at hx; simp at hx ⊢; rcases hx with rfl | rfl | rfl | rfl | rfl <;> simp [gvF, n64]) (by unfold gB; simp; omega))
 clear HW5 hs0
 obtain ⟨s, hs⟩ : ∃ s, w.heap.size = s := ⟨_, rfl⟩
 have HSS := hID hs
 rw [hs] at HW0 ⊢
 clear hs
 apply range_eff (α := Nat × BitVec 64) (n := 4) (by decide) (gf := 134) (lb := #[.pointer (some ⟨s + 1 + 1 + 1 + 1, 0, none⟩), .pointer (some ⟨s + 1 + 1, 0, none⟩), .pointer (some ⟨s + 1 + 1 + 1, 0, none⟩)]) rfl (enters_of Tryz.func134 (by kernel_rfl) rfl) (fun _ => rfl)
  (fun pre W => Wk w F W (gB s p base n idx (gvF (fun i => cl C (base + i)) idx pre.length)) p C (ldE base E pre.length))
  (fun pre x W => x.1 = pre.length ∧ x.1 < n ∧ x.2 = cl C (base + x.1) ∧ Wk w F W (gB s p base n idx (gvF (fun i => cl C (base + i)) idx x.1)) p C (ldE base E (x.1 + 1)))
  (wk_own (by rw [HS.out]; omega) _ _ _ _) (fun x s1 W W' row hh hg hr => ⟨hh.1, hh.2.1, hh.2.2.1, hh.2.2.2.turn hg (fun r e => ⟨Nat.le_trans (by rw [HS.out]; omega) (hr r e).1, (hr r e).2⟩)⟩) HW0.out
  (all_drives (4 - 1) (by decide) p base n (s + 1 + 1 + 1 + 1) (s + 1 + 1) (s + 1 + 1 + 1) W0.heap.size (by omega) (fun i => cl C (base + i))
   (fun k W => Wk w F W (gB s p base n idx (gvF (fun i => cl C (base + i)) idx k)) p C (ldE base E k)) (fun k W => Wk w F W (gB s p base n idx (gvF (fun i => cl C (base + i)) idx k)) p C (ldE base E (k + 1)))
   (fun k W hk => ⟨(hk.blk (t := 3) (cs := #[.int .i64 (n : Int)]) (by unfold gB; simp)).cell 0, (hk.blk (t := 36) (cs := #[.pointer (some ⟨p, 0, none⟩)]) (by unfold gB; simp)).cell 0, (hk.blk (t := 3) (cs := #[.int .i64 (base : Int)]) (by unfold gB; simp)).cell 0⟩)
   (fun k W hlt hk => (hk.callO (e0 := .returned (.tuple #[.int .u64 (n64 (cl C (base + k))), .int .i64 0])) (C2 := C) (E2 := ldE base E (k + 1)) (fun w1 F1 ha => by
    have := load_ok ha ((base : Int) + (k : Int)) (by omega) (by omega) (by rw [length_ldE]; have := G5.out; omega)
    rw [show ((base : Int) + (k : Int)).toNat = base + k by omega] at this
    exact this))))
 case hassign =>
  intro l x W K hK
  gi_wp2
  exact hK
 case hbody =>
  rintro l pre ⟨i, v⟩ W ⟨hi, hlt, hv, hk⟩
  dsimp only at hi hlt hv hk
  subst hi hv
  have hmx : Tryz.prog.follows .mixedOrders = true := by kernel_rfl
  have HK := hID hk
  have hb8 := hk.blk (b := s + 1) (t := 41) (cs := #[.int .u64 (n64 (gvF (fun i => cl C (base + i)) idx pre.length))]) (by unfold gB; simp)
  have c8 : W.cell? ⟨s + 1, 0, none⟩ = some (.int .u64 (n64 (gvF (fun i => cl C (base + i)) idx pre.length))) := hb8.cell 0
  have f8 := hb8.frozen 0
  have c7 : W.cell? ⟨s, 0, none⟩ = some (.int .u64 (n64 idx)) := (hk.blk (b := s) (t := 41) (cs := #[.int .u64 (n64 idx)]) (by unfold gB; simp)).cell 0
  clear hk hb8
  dsimp only
  gi_wp2_with fail
  refine round_held (S := fun W => W.cell? ⟨s, 0, none⟩ = some (.int .u64 (n64 idx)) ∧ W.frozen? ⟨s + 1, 0, none⟩ = false) hmx (by kernel_rfl) (fun ⟨_, _, h⟩ => h) ⟨c7, f8⟩ (fun hHeld => ?_)
  refine wpAnyH_take (i := 1) (v := ?v0) rfl (by kernel_rfl) (by kernel_rfl) (by kernel_rfl) (fun _ _ _ h => h) (Or.inl ⟨by rfl, ?h0⟩) (by assumption) ?r0
  case h0 => (intro w hSw; (try dsimp only at hSw); go_simp <;> with_reducible rfl)
  try simp only [Act.put, List.setIfInBounds_toArray, List.set_cons_zero, List.set_cons_succ]
  refine wpAnyH_take (i := 2) (v := ?v1) rfl (by kernel_rfl) (by kernel_rfl) (by kernel_rfl) (fun _ _ _ h => h) (Or.inl ⟨by rfl, ?h1⟩) (by assumption) ?r1
  case h1 => (intro w hSw; (try dsimp only at hSw); go_simp <;> with_reducible rfl)
  try simp only [Act.put, List.setIfInBounds_toArray, List.set_cons_zero, List.set_cons_succ]
  refine wpAnyH_take (i := 3) (v := ?v2) rfl (by kernel_rfl) (by kernel_rfl) (by kernel_rfl) (fun _ _ _ h => h) (Or.inl ⟨by rfl, ?h2⟩) (by assumption) ?r2
  case h2 => (intro w hSw; (try dsimp only at hSw); go_simp <;> with_reducible rfl)
  try simp only [Act.put, List.setIfInBounds_toArray, List.set_cons_zero, List.set_cons_succ]
  refine wpAnyH_ready (rs := [0, 4]) (by kernel_rfl) (by simp) ?_
  refine AllReadyH.cons rfl (fun K hK => ?s3) ?m3
  case s3 =>
   go_simp
   refine hK.out _ _ ?_ (fun hHeld => ?_)
   ·first | with_reducible assumption | go_keep
   clear hK K
   try simp only [Act.put, List.setIfInBounds_toArray, List.set_cons_zero, List.set_cons_succ]
   refine wpAnyH_ready (rs := [4]) (by kernel_rfl) (by simp) ?_
   refine AllReadyH.cons rfl (fun K hK => ?s4) ?m4
   case s4 =>
    go_simp
    refine (lat_any pre.length (by omega) idx _).mono ?_
    rintro e w' ⟨rfl, rfl⟩
    go_simp
    refine hK.out _ _ ?_ (fun hHeld => ?_)
    ·first | with_reducible assumption | go_keep
    clear hK K
    try simp only [Act.put, List.setIfInBounds_toArray, List.set_cons_zero, List.set_cons_succ]
    refine wpAnyH_take (i := 5) (v := ?v5) rfl (by kernel_rfl) (by kernel_rfl) (by kernel_rfl) (fun _ _ _ h => h) (Or.inl ⟨by rfl, ?h5⟩) (by assumption) ?r5
    case h5 => (intro w hSw; (try dsimp only at hSw); go_simp <;> with_reducible rfl)
    try simp only [Act.put, List.setIfInBounds_toArray, List.set_cons_zero, List.set_cons_succ]
    refine wpAnyH_take (i := 6) (v := ?v6) rfl (by kernel_rfl) (by kernel_rfl) (by kernel_rfl) (fun _ _ _ h => h) (Or.inl ⟨by rfl, ?h6⟩) (by assumption) ?r6
    case h6 => (intro w hSw; (try dsimp only at hSw); go_simp <;> with_reducible rfl)
    try simp only [Act.put, List.setIfInBounds_toArray, List.set_cons_zero, List.set_cons_succ]
    refine wpAnyH_ready (rs := [7]) (by kernel_rfl) (by simp) ?_
    refine AllReadyH.cons rfl (fun K hK => ?s7) ?m7
    case s7 =>
     go_simp
     refine hK.out _ _ ?_ (fun hHeld => ?_)
     ·first | with_reducible assumption | go_keep
     clear hK K
     try simp only [Act.put, List.setIfInBounds_toArray, List.set_cons_zero, List.set_cons_succ]
     refine wpAnyH_done (by kernel_rfl) ?_ _
     gi_wp2
     exact ⟨(KeepsOthers.setCell _ _ _).trans (KeepsOthers.drew _), by rw [List.length_append]; exact gB_put HK.out _⟩
    exact AllReadyH.nil
   exact AllReadyH.nil
  refine AllReadyH.cons rfl (fun K hK => ?s8) ?m8
  case s8 =>
   go_simp
   refine (lat_any pre.length (by omega) idx _).mono ?_
   rintro e w' ⟨rfl, rfl⟩
   go_simp
   refine hK.out _ _ ?_ (fun hHeld => ?_)
   ·first | with_reducible assumption | go_keep
   clear hK K
   try simp only [Act.put, List.setIfInBounds_toArray, List.set_cons_zero, List.set_cons_succ]
   refine wpAnyH_take (i := 5) (v := ?v9) rfl (by kernel_rfl) (by kernel_rfl) (by kernel_rfl) (fun _ _ _ h => h) (Or.inl ⟨by rfl, ?h9⟩) (by assumption) ?r9
   case h9 => (intro w hSw; (try dsimp only at hSw); go_simp <;> with_reducible rfl)
   try simp only [Act.put, List.setIfInBounds_toArray, List.set_cons_zero, List.set_cons_succ]
   refine wpAnyH_ready (rs := [0]) (by kernel_rfl) (by simp) ?_
   refine AllReadyH.cons rfl (fun K hK => ?s10) ?m10
   case s10 =>
    go_simp
    refine hK.out _ _ ?_ (fun hHeld => ?_)
    ·first | with_reducible assumption | go_keep
    clear hK K
    try simp only [Act.put, List.setIfInBounds_toArray, List.set_cons_zero, List.set_cons_succ]
    refine wpAnyH_take (i := 6) (v := ?v11) rfl (by kernel_rfl) (by kernel_rfl) (by kernel_rfl) (fun _ _ _ h => h) (Or.inl ⟨by rfl, ?h11⟩) (by assumption) ?r11
    case h11 => (intro w hSw; (try dsimp only at hSw); go_simp <;> with_reducible rfl)
    try simp only [Act.put, List.setIfInBounds_toArray, List.set_cons_zero, List.set_cons_succ]
    refine wpAnyH_ready (rs := [7]) (by kernel_rfl) (by simp) ?_
    refine AllReadyH.cons rfl (fun K hK => ?s12) ?m12
    case s12 =>
     go_simp
     refine hK.out _ _ ?_ (fun hHeld => ?_)
     ·first | with_reducible assumption | go_keep
     clear hK K
     try simp only [Act.put, List.setIfInBounds_toArray, List.set_cons_zero, List.set_cons_succ]
     refine wpAnyH_done (by kernel_rfl) ?_ _
     gi_wp2
     exact ⟨(KeepsOthers.setCell _ _ _).trans (KeepsOthers.drew _), by rw [List.length_append]; exact gB_put HK.out _⟩
    exact AllReadyH.nil
   exact AllReadyH.nil
  exact AllReadyH.nil
 case hdone =>
  rintro D xs W hD hxs hi hK
  rw [hxs] at hi
  have HI := hID hi
  have hb8 := hi.blk (b := s + 1) (t := 41) (cs := #[.int .u64 (n64 (gvF (fun i => cl C (base + i)) idx n))]) (by unfold gB; simp)
  have c8 : W.cell? ⟨s + 1, 0, none⟩ = some (.int .u64 (n64 (gvF (fun i => cl C (base + i)) idx n))) := hb8.cell 0
  have f8 := hb8.frozen 0
  have HD := hID hK
  clear hi hb8 hK hxs
  gi_wp2_with fail
  have hP := HI.out.put 0 (.int .u64 (n64 (gvF (fun i => cl C (base + i)) idx n)))
  have hK' := (KeepsOthers.setCell W ⟨s + 1, 0, none⟩ (.int .u64 (n64 (gvF (fun i => cl C (base + i)) idx n)))).same D _ HD.out rfl
  have hU := hP.unmark (o' := .deferred none) (by have := HS.out; omega) hK' rfl
  have hc := (hU.blk (List.mem_cons_self ..)).cell 0
  refine ⟨by simp, .inl ⟨_, _, rfl, run_takeDeferred hK', ?_⟩⟩
  refine ⟨.tuple #[.int .u64 (n64 (gvF (fun i => cl C (base + i)) idx n)), .int .i64 0], ?_, rfl, hU.done⟩
  simp [results, Tryz.f48, go_sem, hc]
end
end Go.Proofs.YtkflicifngohcaaGreatDoor

namespace Go.Proofs.YtkflicifngohcaaGreatDoor
open Go.RowKit
attribute [local go_sem] bits_and_u64 bits_or_u64 bits_xor_u64 bits_andNot_u64 wrap_u64 bv_add bv_neg bv_sub bv_mul
set_option maxRecDepth 100000
theorem n64_nat (m : Nat) (h : m < 18446744073709551616) : n64 (BitVec.ofNat 64 m) = (m : Int) := by unfold n64; rw [BitVec.toNat_ofNat, Nat.mod_eq_of_lt h]
theorem n64_bvN (N : Nat) (h : N < 18446744073709551616) : n64 (bv (N : Int)) = (N : Int) := by rw [show bv (N : Int) = BitVec.ofNat 64 N from BitVec.ofInt_natCast ..]; exact n64_nat N h
def ldL (C : List (BitVec 64)) (base k : Nat) : List (BitVec 64) := (List.range k).map fun i => cl C (base + i)
theorem length_ldL (C : List (BitVec 64)) (base k : Nat) : (ldL C base k).length = k := by simp [ldL]
theorem ldL_succ (C : List (BitVec 64)) (base k : Nat) : u64s (ldL C base k) ++ [.int .u64 (n64 (cl C (base + k)))] = u64s (ldL C base (k + 1)) := by unfold ldL u64s; rw [List.range_succ]; simp
def LdAt (w : World) (F : Nat → Prop) (r : Nat) (C : List (BitVec 64)) (E : List Ev) (base k : Nat) (v : Value) (w' : World) : Prop :=
 ∃ F1, Rf w' F1 r C (ldE base E k) ∧ (∀ j, F1 j → Grow F w w' j) ∧ Off F w w' ∧ w'.ownsRow w.heap.size 41 1 v k (u64s (ldL C base k)) ∧ ∀ g, v.ownBlock = some g → ¬ F1 g
theorem own_off {w w' : World} {F1 : Nat → Prop} {base size n : Nat} {e : TypeId} {v : Value} {xs : List Value} (h : w.ownsRow base e size v n xs) (o : Off F1 w w') (hx : ∀ g, v.ownBlock = some g → ¬ F1 g) : w'.ownsRow base e size v n xs := by
 refine ⟨h.1, ?_⟩
 rcases h.2 with hn | ⟨g, cap, cur, rfl, hb, hgg, rest⟩
 ·exact .inl hn
 ·refine .inr ⟨g, cap, cur, rfl, hb, ?_, rest⟩
  rw [o.block g (Array.getElem?_eq_some_iff.1 hgg).1 (hx g (by simp [Value.ownBlock]))]
  exact hgg
theorem cell_one_ld (w : World) (x : Value) (t : TypeId) : ∀ j u, [x][j]? = some u → (w.alloc (.cells #[x] t)).cell? ((⟨w.heap.size, 0, none⟩ : Addr).add j) = some u := by
 intro j u hu
 rw [add_addr, Nat.zero_add, World.cell?_alloc_new]
 simpa using hu
section
variable {w : World} {F : Nat → Prop} {r : Nat} {C : List (BitVec 64)} {E : List Ev}
set_option maxHeartbeats 1000000 in
theorem rtable_any (h : Rf w F r C E) (base n : Int) (s : Nat) (hs : s ≤ 2) :
  Calls Tryz.prog 105 #[.pointer (some ⟨r, 0, none⟩), .int .i64 base, .int .i64 n, .int .i64 (s : Int)] w fun e w' => e = .returned (.int .i64 (lkE C.length E.length base n s)) ∧ w = w' := by
 have H := hID h
 clear h
 by_cases n1 : n < 1
 ·have HF := hID (show lkE C.length E.length base n s = 7 by unfold lkE; rw [if_pos (.inl n1)])
  go_enter Tryz.func105, Tryz.ntmps105
  go_wp2_with fail
  go_ret
  exact ⟨by rw [HF.out]; rfl, rfl⟩
 by_cases n2 : 4096 < n
 ·have HF := hID (show lkE C.length E.length base n s = 7 by unfold lkE; rw [if_pos (.inr n2)])
  go_enter Tryz.func105, Tryz.ntmps105
  go_wp2_with fail
  go_ret
  exact ⟨by rw [HF.out]; rfl, rfl⟩
 have hn : ¬ (n < 1 ∨ 4096 < n) := by omega
 by_cases hb : hasE C.length base n = 0
 ·have HB := hID hb
  have HF := hID (show lkE C.length E.length base n s = roomE E.length ((s : Int) * n) by unfold lkE; rw [if_neg hn, if_pos hb])
  have m1 : 0 ≤ (s : Int) * n := Int.mul_nonneg (by omega) (by omega)
  have m2 : (s : Int) * n ≤ 2 * n := Int.mul_le_mul_of_nonneg_right (by omega) (by omega)
  clear hb hn
  go_enter Tryz.func105, Tryz.ntmps105
  go_wp2_with fail
  refine Calls.mono (R := fun e w' => e = .returned (.int .i64 0) ∧ w = w') (by have := rhas_any H.out base n; rwa [HB.out] at this) ?_
  rintro e w' ⟨rfl, rfl⟩
  go_wp2_with fail
  refine (rroom_any H.out ((s : Int) * n)).mono ?_
  rintro e w' ⟨rfl, rfl⟩
  go_wp2_with fail
  go_ret
  exact ⟨by rw [HF.out]; rfl, rfl⟩
 ·have HF := hID (show lkE C.length E.length base n s = hasE C.length base n by unfold lkE; rw [if_neg hn, if_neg hb])
  have hq : (hasE C.length base n == 0) = false := by rw [beq_eq_false_iff_ne]; exact hb
  clear hb hn
  go_enter Tryz.func105, Tryz.ntmps105
  go_wp2_with fail
  refine (rhas_any H.out base n).mono ?_
  rintro e w' ⟨rfl, rfl⟩
  go_wp2_with fail
  go_ret
  exact ⟨by rw [HF.out]; rfl, rfl⟩
set_option maxHeartbeats 1500000 in
theorem loaded_ok (h : Rf w F r C E) (base n : Nat) (h2 : base + n ≤ C.length) (hE : E.length + n ≤ 8388608) :
  Calls Tryz.prog 106 #[.pointer (some ⟨r, 0, none⟩), .int .i64 (base : Int), .int .i64 (n : Int)] w fun e w' => ∃ v, e = .returned v ∧ LdAt w F r C E base n v w' := by
 obtain ⟨i0, hi, hz0, hz1, hz2⟩ := info_parts Tryz.infoU
 have hn2 := h.n2
 have H0 : Hid (LdAt w F r C E base 0 (.slice none 0 0) w) := hID ⟨F, h, fun j hj => .inl hj, Off.refl _ _, World.ownsRow_nil _ _ _ _, fun g hg => by simp [Value.ownBlock] at hg⟩
 clear h
 go_enter Tryz.func106, Tryz.ntmps106
 go_wp2_with fail
 go_loopw [7, 8] (fun v i wr => ∃ k : Nat, k ≤ n ∧ i = .int .i64 k ∧ ∃ u, v = u ∧ LdAt w F r C E base k u wr) (fun _ i _ => n - (intOf i).toNat)
 case atStart => exact ⟨0, Nat.zero_le _, rfl, _, rfl, H0.out⟩
 case round =>
  obtain ⟨k, hk, rfl, u, rfl, hld⟩ := hrel
  have HLD := hID hld
  clear hld
  by_cases hlt : k < n
  ·obtain ⟨F1, ha, hs, ho, hw, hx⟩ := HLD.out
   have hb1 : (base : Int) + (k : Int) ≤ 65536 := by omega
   have hb2 : 0 ≤ (base : Int) + (k : Int) := by omega
   have HL := hID (rload_ok ha ((base : Int) + (k : Int)) (by omega) (by omega) (by rw [length_ldE]; omega))
   have HF1 := hID hs
   have HO := hID ho
   have HW := hID hw
   have HX := hID hx
   have HA := hID ha
   clear ha hs ho hw hx
   go_wp2_with fail
   refine HL.out.mono ?_
   rintro e w1 ⟨rfl, ha1, ho1⟩
   rw [show ((base : Int) + (k : Int)).toNat = base + k by omega] at ha1 ⊢
   have O1 : Hid (Off F w w1) := hID ⟨ho1.os.trans HO.out.os, ho1.tape.trans HO.out.tape, ho1.output.trans HO.out.output, Nat.le_trans HO.out.size ho1.size, fun i hi hn => (ho1.block i (Nat.lt_of_lt_of_le hi HO.out.size) (fun hf1 => by rcases HF1.out i hf1 with h | h; exact hn h; omega)).trans (HO.out.block i hi hn)⟩
   have W1 := hID (own_off HW.out ho1 HX.out)
   have HX1 := hID (fun g hg (hf : Grow F1 wr w1 g) => hf.elim (HX.out g hg) (fun h => by have := (HW.out.lt g hg).2; omega))
   have HA1 := hID ha1
   have HG1 : Hid (∀ j, Grow F1 wr w1 j → Grow F w w1 j) := hID (fun j hj => Grow.join HO.out.size ho1.size j (hj.elim (fun h => .inl (HF1.out j h)) (fun h => .inr h)))
   clear ha1 ho1 HL HW HX HA HF1
   go_wp2_with (at_builtin; refine wpList_append_own_at _ rfl _ _ 23 rfl w.heap.size 41 i0 (.int .u64 0) 1 8 Tryz.underlying23 hi hz0 hz1 hz2 rfl (by decide) u7 k (u64s (ldL C base k)) rfl (W1.out.alloc _) ⟨w1.heap.size, 0, none⟩ 1 1 [.int .u64 (n64 (cl C (base + k)))] rfl rfl ?c1 ?c2 ?c3 ?c4 ?c5 ?_)
   case c1 => exact cell_one_ld _ _ _
   case c2 => intro u hu; simp at hu; subst hu; rfl
   case c3 => unfold maxLen; omega
   case c4 => omega
   case c5 => have := O1.out.size; simp; omega
   intro v' w2 hown' hgrow hnil hat2
   rw [ldL_succ] at hown'
   have HN := hID hown'
   have HG := hID hgrow
   have HT := hID hat2
   clear hown' hgrow hnil hat2
   have o12 : Off (fun j => u7.ownBlock = some j) w1 w2 := Off.grown (Off.alloc (Off.refl _ _) _) HG.out (fun j hj => .inl hj)
   have hsz := o12.size
   have HR : Hid (LdAt w F r C E base (k + 1) v' w2) := hID ⟨Grow F1 wr w1, HA1.out.keep o12 (fun j hj hg => HX1.out j hg hj), fun j hj => (HG1.out j hj).elim .inl (fun h => .inr ⟨h.1, Nat.lt_of_lt_of_le h.2 hsz⟩), Off.grown (Off.alloc O1.out _) HG.out (fun j hj => .inr (W1.out.lt j hj).1), HN.out, fun g hg hf => by
    have hl := HA1.out.lt g hf
    rcases HT.out with h | h
    ·exact HX1.out g (h ▸ hg) hf
    ·rw [h] at hg; injection hg with hg; omega⟩
   clear o12 hsz HG HN HT HG1 HA1 HX1 W1 O1
   go_wp2_with fail
   go_roundw
   case rel => exact ⟨k + 1, by omega, by go_num, _, rfl, HR.out⟩
   case measure => simp [intOf]; omega
  ·obtain rfl : n = k := by omega
   go_wp2
   go_ret
   exact ⟨_, rfl, HLD.out⟩
theorem LdAt.row {base n : Nat} {v : Value} {w' : World} (h : LdAt w F r C E base n v w') (hn : 0 < n) : ∃ g cap, v = .slice (some ⟨g, 0, none⟩) n cap ∧ n ≤ cap ∧ w.heap.size ≤ g ∧ g < w'.heap.size ∧ ∀ j, j < n → w'.cell? ⟨g, j, none⟩ = some (.int .u64 (n64 (cl C (base + j)))) := by
 obtain ⟨F1, ha, hs, ho, hw, hx⟩ := h
 have hcells := fun (g : Nat) (hg : v.ownBlock = some g) (j : Nat) (u : Value) => hw.cells hg j u
 have hlt := hw.lt
 rcases hw.2 with ⟨rfl, h0⟩ | ⟨g, cap, cur, rfl, hb, hg, hle, _⟩
 ·omega
 ·refine ⟨g, cap, rfl, hle, hb, (hlt g rfl).2, fun j hj => ?_⟩
  have hlen : j < (ldL C base n).length := by rw [length_ldL]; exact hj
  have := hcells g rfl j _ (getElem_u64s (ldL C base n) j hlen)
  rw [add_addr, Nat.zero_add] at this
  rw [this]
  unfold ldL cl
  simp [hj]
theorem LdAt.to {base n : Nat} {v : Value} {w' : World} (h : LdAt w F r C E base n v w') (h0 : Rf w F r C E) : RfTo w F r C (ldE base E n) w' := by
 obtain ⟨F1, ha, hs, ho, hw, hx⟩ := h
 exact ⟨ha.mono hs (Grow.lt h0.lt ho.size), ho⟩
set_option maxHeartbeats 1000000 in
theorem rget_ok (h : Rf w F r C E) (base n : Nat) (idx : BitVec 64) (hz : lkE C.length E.length base n ((1 : Nat) : Int) = 0) :
  Calls Tryz.prog 69 #[.pointer (some ⟨r, 0, none⟩), .int .i64 (base : Int), .int .i64 (n : Int), .int .u64 (n64 idx)] w fun e w' => e = .returned (.tuple #[.int .u64 (n64 (if idx.toNat < n then cl C (base + idx.toNat) else 0#64)), .int .i64 0]) ∧ RfTo w F r C (ldE base E n) w' := by
 obtain ⟨g1, g2, g3, g4, g5⟩ := lkE_zero hz
 have hn2 := h.n2
 have HC := hID (rtable_any h base n 1 (by decide))
 have HZ := hID hz
 have HA := hID h
 have HL := hID (loaded_ok h base n (by omega) (by omega))
 have hNN : n64 (bv (n : Int)) = (n : Int) := n64_bvN n (by omega)
 obtain ⟨j, hj⟩ : ∃ j : Nat, idx.toNat = j := ⟨_, rfl⟩
 have hjj : n64 idx = (j : Int) := by unfold n64; rw [hj]
 have hjl := idx.isLt
 rw [hj] at hjl ⊢
 rw [hjj]
 clear h hz g5 hj hjj
 by_cases hi : j < n
 ·have d1 : decide ((n : Int) ≤ (j : Int)) = false := decide_eq_false (by omega)
  have d2 : decide (n ≤ j) = false := decide_eq_false (by omega)
  rw [if_pos hi]
  go_enter Tryz.func69, Tryz.ntmps69
  go_wp2_with fail
  refine Calls.mono (R := fun e w' => e = .returned (.int .i64 0) ∧ w = w') (by have := HC.out; rwa [HZ.out] at this) ?_
  rintro e w' ⟨rfl, rfl⟩
  go_wp2_with fail
  refine HL.out.mono ?_
  rintro e w1 ⟨v, rfl, hld⟩
  obtain ⟨g, cap, rfl, hcp, hg1, hg2, hcells⟩ := hld.row (by omega)
  have HTo := hID (hld.to HA.out)
  have hcell := hcells j hi
  clear hld hcells hg1 hg2 HC HL
  go_wp2_with fail
  go_ret2
  exact ⟨rfl, HTo.out⟩
 ·have d1 : decide ((n : Int) ≤ (j : Int)) = true := decide_eq_true (by omega)
  have d2 : decide (n ≤ j) = true := decide_eq_true (by omega)
  rw [if_neg hi]
  go_enter Tryz.func69, Tryz.ntmps69
  go_wp2_with fail
  refine Calls.mono (R := fun e w' => e = .returned (.int .i64 0) ∧ w = w') (by have := HC.out; rwa [HZ.out] at this) ?_
  rintro e w' ⟨rfl, rfl⟩
  go_wp2_with fail
  refine HL.out.mono ?_
  rintro e w1 ⟨v, rfl, hld⟩
  have HTo := hID (hld.to HA.out)
  clear hld HC HL
  go_wp2_with fail
  go_ret2
  exact ⟨rfl, HTo.out⟩
end
end Go.Proofs.YtkflicifngohcaaGreatDoor
