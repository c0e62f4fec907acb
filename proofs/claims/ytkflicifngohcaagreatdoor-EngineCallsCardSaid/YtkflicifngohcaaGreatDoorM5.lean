/-
 Since and Events of an arena, dragnetlaw07.SameEvents.
-/
import Derived.Test.YtkflicifngohcaaGreatDoorM4
import Derived.BigQuiet
import Derived.Deep.QuietTactic
import Derived.Test.YtkflicifngohcaaGreatDoorM3
set_option linter.unusedVariables false
set_option linter.unusedSimpArgs false
namespace Go.Proofs.YtkflicifngohcaaGreatDoor
open Go.RowKit
set_option maxRecDepth 100000
theorem NewE.rd {w w' : World} {E : List Ev} {v : Value} (h : w'.ownsRow w.heap.size 105 2 v E.length (evs E)) : Rd w' (fun k => w.heap.size ≤ k ∧ k < w'.heap.size) 2 v E.length (evs E) := Rd.own h fun k hk => h.lt k hk
section
variable {w : World} {F : Nat → Prop} {p : Nat} {C : List (BitVec 64)} {E : List Ev}
set_option maxHeartbeats 400000 in
theorem since_ok (h : Ar w F p C E) (s : Nat) (hs : s ≤ E.length) :
  Calls Tryz.prog 34 #[.pointer (some ⟨p, 0, none⟩), .int .i64 s] w (NewE2 w (E.drop s)) := by
 have HN := hID (none_ok h)
 have HF := hID (from_ok h s hs)
 have c1 : w.cell? ⟨p, 1, none⟩ = some (.int .i64 (E.length : Int)) := by
  obtain ⟨cb, pv, ps, rg, _, h⟩ := h
  exact h.top.cell 1
 clear h
 go_enter Tryz.func34, Tryz.ntmps34
 go_wp2_with fail
 refine HN.out.mono ?_
 rintro e w' ⟨rfl, rfl⟩
 go_wp2_with fail
 refine HF.out.mono ?_
 rintro e w1 ⟨v, rfl, h1, h2⟩
 have H1 := hID h1
 have H2 := hID h2
 clear h1 h2
 go_wp2
 go_ret2
 exact ⟨_, rfl, H1.out, H2.out⟩
theorem events_ok (h : Ar w F p C E) : Calls Tryz.prog 66 #[.pointer (some ⟨p, 0, none⟩)] w (NewE w E) := by
 have HF := hID (since_ok h 0 (Nat.zero_le _))
 clear h
 go_enter Tryz.func66, Tryz.ntmps66
 go_wp2_with fail
 refine HF.out.mono ?_
 rintro e w1 ⟨v, rfl, h1, h2⟩
 have H1 := hID h1
 have H2 := hID h2
 clear h1 h2
 go_wp2
 go_ret
 exact ⟨_, rfl, H1.out, H2.out⟩
end
def sameEB (A B : List Ev) : Bool := decide (A = B)
theorem evs_at (E : List Ev) (k : Nat) (h : k < E.length) : (evs E)[2 * k]? = some (.int .i32 ((evAt E k).1 : Int)) ∧ (evs E)[2 * k + 1]? = some (.int .i32 ((evAt E k).2 : Int)) := by
 induction E generalizing k with
 | nil => simp at h
 | cons e E ih =>
  cases k with
  | zero => exact ⟨rfl, rfl⟩
  | succ k =>
   obtain ⟨h1, h2⟩ := ih k (by simpa using h)
   have e1 : evs (e :: E) = .int .i32 (e.1 : Int) :: .int .i32 (e.2 : Int) :: evs E := by simp [evs]
   have e2 : evAt (e :: E) (k + 1) = evAt E k := by simp [evAt]
   rw [e1, e2]
   exact ⟨h1, h2⟩
theorem evs_take_succ {A B : List Ev} {k : Nat} (h : A.take k = B.take k) (ha : k < A.length) (hb : k < B.length) (hx : evAt A k = evAt B k) : A.take (k + 1) = B.take (k + 1) := by
 rw [List.take_succ_eq_append_getElem ha, List.take_succ_eq_append_getElem hb, h]
 simp [evAt, List.getD, ha, hb] at hx
 rw [hx]
set_option maxHeartbeats 400000 in
theorem sameEvents_some (w : World) (b o c b2 o2 c2 n : Nat) (A B : List Ev) (ha : A.length = n) (hb : B.length = n) (hn : n ≤ maxLen)
  (hca : ∀ j u, (evs A)[j]? = some u → w.cell? ⟨b, o + j, none⟩ = some u) (hcb : ∀ j u, (evs B)[j]? = some u → w.cell? ⟨b2, o2 + j, none⟩ = some u) :
  Calls Tryz.prog 35 #[.slice (some ⟨b, o, none⟩) n c, .slice (some ⟨b2, o2, none⟩) n c2] w (BoolNew (sameEB A B) w) := by
 have HA := hID ha
 have HB := hID hb
 have HCA := hID hca
 have HCB := hID hcb
 clear ha hb hca hcb
 unfold maxLen at hn
 go_enter Tryz.func35, Tryz.ntmps35
 go_wp2
 go_loopw [5] (fun i wr => ∃ k : Nat, k ≤ n ∧ i = .int .i64 k ∧ Off Nob w wr ∧ (∀ ad, wr.cell? ad = w.cell? ad) ∧ A.take k = B.take k) (fun i _ => n - (intOf i).toNat)
 case atStart => exact ⟨0, Nat.zero_le _, rfl, Off.refl _ _, fun _ => rfl, rfl⟩
 case round =>
  obtain ⟨k, hk, rfl, ho, hcl, htk⟩ := hrel
  have HO := hID ho
  have HT := hID htk
  have HX := hID hcl
  by_cases hlt : k < n
  ·have hka : k < A.length := by have := HA.out; omega
   have hkb : k < B.length := by have := HB.out; omega
   have hc1 : wr.cell? ⟨b, o + k * 2, none⟩ = some (.int .i32 ((evAt A k).1 : Int)) := by rw [hcl, Nat.mul_comm]; exact HCA.out _ _ (evs_at A k hka).1
   have hc2 : wr.cell? ⟨b, o + k * 2 + 1, none⟩ = some (.int .i32 ((evAt A k).2 : Int)) := by rw [hcl, Nat.mul_comm, Nat.add_assoc]; exact HCA.out _ _ (evs_at A k hka).2
   have hc3 : wr.cell? ⟨b2, o2 + k * 2, none⟩ = some (.int .i32 ((evAt B k).1 : Int)) := by rw [hcl, Nat.mul_comm]; exact HCB.out _ _ (evs_at B k hkb).1
   have hc4 : wr.cell? ⟨b2, o2 + k * 2 + 1, none⟩ = some (.int .i32 ((evAt B k).2 : Int)) := by rw [hcl, Nat.mul_comm, Nat.add_assoc]; exact HCB.out _ _ (evs_at B k hkb).2
   clear ho htk hcl
   by_cases hx : evAt A k = evAt B k
   ·have HQ := hID (evs_take_succ HT.out hka hkb hx)
    rw [← hx] at hc3 hc4
    clear hx
    revert hc1 hc2 hc3 hc4
    generalize ((evAt A k).1 : Int) = a1
    generalize ((evAt A k).2 : Int) = a2
    intro hc1 hc2 hc3 hc4
    go_wp2
    go_quiet (fail)
    go_wp2
    go_roundw
    case rel => exact ⟨k + 1, by omega, by go_num, HO.out.drewN _, fun ad => HX.out ad, HQ.out⟩
    case measure => simp [intOf]; omega
   ·have HF : Hid (sameEB A B = false) := by
     unfold sameEB
     rw [decide_eq_false_iff_not]
     exact fun h => hx (by rw [h])
    by_cases hx1 : (evAt A k).1 = (evAt B k).1
    ·have hx2 : (evAt A k).2 ≠ (evAt B k).2 := fun h => hx (Prod.ext hx1 h)
     have hq : (((evAt A k).2 : Int) == ((evAt B k).2 : Int)) = false := by rw [beq_eq_false_iff_ne]; omega
     rw [← hx1] at hc3
     clear hx hx1 hx2
     revert hc1 hc2 hc3 hc4 hq
     generalize ((evAt A k).1 : Int) = a1
     generalize ((evAt A k).2 : Int) = a2
     generalize ((evAt B k).2 : Int) = a3
     intro hc1 hc2 hc3 hc4 hq
     go_wp2
     go_quiet (fail)
     go_wp2
     go_ret
     exact ⟨by rw [HF.out]; rfl, HO.out.drewN _⟩
    ·have hq : (((evAt A k).1 : Int) == ((evAt B k).1 : Int)) = false := by rw [beq_eq_false_iff_ne]; omega
     clear hx hx1
     revert hc1 hc2 hc3 hc4 hq
     generalize ((evAt A k).1 : Int) = a1
     generalize ((evAt A k).2 : Int) = a2
     generalize ((evAt B k).1 : Int) = a3
     generalize ((evAt B k).2 : Int) = a4
     intro hc1 hc2 hc3 hc4 hq
     go_wp2
     go_quiet (fail)
     go_wp2
     go_ret
     exact ⟨by rw [HF.out]; rfl, HO.out.drewN _⟩
  ·clear ho htk hcl
   have HF : Hid (sameEB A B = true) := by
    unfold sameEB
    rw [decide_eq_true_iff]
    have h1 := HT.out
    rwa [List.take_of_length_le (by have := HA.out; omega), List.take_of_length_le (by have := HB.out; omega)] at h1
   go_wp2
   go_ret
   exact ⟨by rw [HF.out]; rfl, HO.out⟩
theorem sameEvents_len (w : World) (X Y : Option Addr) (n m c d : Nat) (h : n ≠ m) :
  Calls Tryz.prog 35 #[.slice X n c, .slice Y m d] w (BoolNew false w) := by
 have hq : ((n : Int) != (m : Int)) = true := by rw [bne_iff_ne]; omega
 go_enter Tryz.func35, Tryz.ntmps35
 go_wp2
 go_ret
 exact ⟨rfl, Off.refl _ _⟩
theorem sameEvents_zero (w : World) (X Y : Option Addr) (c d : Nat) :
  Calls Tryz.prog 35 #[.slice X 0 c, .slice Y 0 d] w (BoolNew true w) := by
 go_enter Tryz.func35, Tryz.ntmps35
 go_wp2
 refine wp_loop_rounds 1 ?_
 rw [rounds_succ]
 go_wp2_with fail
 go_ret
 exact ⟨rfl, Off.refl _ _⟩
theorem sameEvents_any {w : World} {F G : Nat → Prop} {v u : Value} {n m : Nat} {A B : List Ev} (ha : Rd w F 2 v n (evs A)) (hb : Rd w G 2 u m (evs B)) :
  Calls Tryz.prog 35 #[v, u] w (BoolNew (sameEB A B) w) := by
 obtain ⟨X, c, rfl, hm1, hl1, hc1⟩ := ha
 obtain ⟨Y, d, rfl, hm2, hl2, hc2⟩ := hb
 rw [length_evs] at hl1 hl2
 by_cases hnm : n = m
 ·subst hnm
  rcases Nat.eq_zero_or_pos n with h0 | h0
  ·subst h0
   have e1 : A = [] := List.eq_nil_of_length_eq_zero (by omega)
   have e2 : B = [] := List.eq_nil_of_length_eq_zero (by omega)
   subst e1 e2
   exact sameEvents_zero w X Y c d
  ·obtain ⟨b, o, rfl, _, hb, hx⟩ := hc1 h0
   obtain ⟨b2, o2, rfl, _, hb2, hx2⟩ := hc2 h0
   exact sameEvents_some w b o c b2 o2 d n A B (by omega) (by omega) hm1 hx hx2
 ·have : sameEB A B = false := by
   unfold sameEB
   rw [decide_eq_false_iff_not]
   intro h
   subst h
   omega
  rw [this]
  exact sameEvents_len w X Y n m c d hnm
end Go.Proofs.YtkflicifngohcaaGreatDoor

namespace Go.Proofs.YtkflicifngohcaaGreatDoor
open Go.RowKit
set_option maxRecDepth 100000
section
variable {w : World} {F : Nat → Prop} {r : Nat} {C : List (BitVec 64)} {E : List Ev}
set_option maxHeartbeats 400000 in
theorem rhas_any (h : Rf w F r C E) (x k : Int) :
  Calls Tryz.prog 102 #[.pointer (some ⟨r, 0, none⟩), .int .i64 x, .int .i64 k] w fun e w' => e = .returned (.int .i64 (hasE C.length x k)) ∧ w = w' := by
 have HN := hID (rnone_ok h)
 have h2 := h.n2
 obtain ⟨cb, ev, rg, h⟩ := h
 have c0 := h.top.cell 0
 simp only [List.getElem?_toArray, List.getElem?_cons_zero] at c0
 clear h
 generalize C.length = n at *
 by_cases h1 : x < 0
 ·go_enter Tryz.func102, Tryz.ntmps102
  go_wp2_with (go_at_call 103; refine HN.out.mono ?_; rintro e w' ⟨rfl, rfl⟩)
  go_ret
  exact ⟨ret_int (by unfold hasE; rw [if_pos (by omega)]), rfl⟩
 by_cases h4 : k < 0
 ·go_enter Tryz.func102, Tryz.ntmps102
  go_wp2_with (go_at_call 103; refine HN.out.mono ?_; rintro e w' ⟨rfl, rfl⟩)
  go_ret
  exact ⟨ret_int (by unfold hasE; rw [if_pos (by omega)]), rfl⟩
 by_cases h3 : (n : Int) < x
 ·go_enter Tryz.func102, Tryz.ntmps102
  go_wp2_with (go_at_call 103; refine HN.out.mono ?_; rintro e w' ⟨rfl, rfl⟩)
  go_ret
  exact ⟨ret_int (by unfold hasE; rw [if_pos (by omega)]), rfl⟩
 by_cases h5 : (n : Int) - x < k
 ·go_enter Tryz.func102, Tryz.ntmps102
  go_wp2_with (go_at_call 103; refine HN.out.mono ?_; rintro e w' ⟨rfl, rfl⟩)
  go_ret
  exact ⟨ret_int (by unfold hasE; rw [if_pos (by omega)]), rfl⟩
 ·go_enter Tryz.func102, Tryz.ntmps102
  go_wp2_with (go_at_call 103; refine HN.out.mono ?_; rintro e w' ⟨rfl, rfl⟩)
  go_ret
  exact ⟨ret_int (by unfold hasE; rw [if_neg (by omega)]), rfl⟩
set_option maxHeartbeats 400000 in
theorem rroom_any (h : Rf w F r C E) (s : Int) :
  Calls Tryz.prog 62 #[.pointer (some ⟨r, 0, none⟩), .int .i64 s] w fun e w' => e = .returned (.int .i64 (roomE E.length s)) ∧ w = w' := by
 have HN := hID (rnone_ok h)
 have h2 := h.e2
 obtain ⟨cb, ev, rg, h⟩ := h
 obtain ⟨A, c, hev⟩ := h.form
 subst hev
 have c2 := h.top.cell 2
 simp only [List.getElem?_toArray, List.getElem?_cons_succ, List.getElem?_cons_zero] at c2
 clear h
 generalize E.length = n at *
 by_cases h1 : s < 0
 ·go_enter Tryz.func62, Tryz.ntmps62
  go_wp2_with (go_at_call 103; refine HN.out.mono ?_; rintro e w' ⟨rfl, rfl⟩)
  go_ret
  exact ⟨ret_int (by unfold roomE; rw [if_pos (by omega)]), rfl⟩
 by_cases h3 : 8388608 - (n : Int) < s
 ·go_enter Tryz.func62, Tryz.ntmps62
  go_wp2_with (go_at_call 103; refine HN.out.mono ?_; rintro e w' ⟨rfl, rfl⟩)
  go_ret
  exact ⟨ret_int (by unfold roomE; rw [if_neg (by omega), if_pos (by omega)]), rfl⟩
 ·go_enter Tryz.func62, Tryz.ntmps62
  go_wp2_with (go_at_call 103; refine HN.out.mono ?_; rintro e w' ⟨rfl, rfl⟩)
  go_ret
  exact ⟨ret_int (by unfold roomE; rw [if_neg (by omega), if_neg (by omega)]), rfl⟩
set_option maxHeartbeats 400000 in
theorem rload_ok (h : Rf w F r C E) (x : Int) (h0 : 0 ≤ x) (h1 : x < C.length) (he : E.length < 8388608) :
  Calls Tryz.prog 70 #[.pointer (some ⟨r, 0, none⟩), .int .i64 x] w fun e w' => e = .returned (.tuple #[.int .u64 (n64 (cl C x.toNat)), .int .i64 0]) ∧ RfTo w F r C (E ++ [(1, x.toNat)]) w' := by
 have HS := hID (rstep_ok h 1 (by decide) x h0 h1 he)
 obtain ⟨x, rfl⟩ := Int.eq_ofNat_of_zero_le h0
 go_enter Tryz.func70, Tryz.ntmps70
 go_wp2_with fail
 refine HS.out.mono ?_
 rintro e w1 ⟨rfl, hw⟩
 have HW := hID hw
 obtain ⟨⟨cb, ev, rg, h⟩, ho⟩ := hw
 have c0 := h.top.cell 0
 have hx : x < C.length := by omega
 have cx := h.cel.cell x
 rw [List.getElem?_toArray, getElem_u64s _ _ hx] at cx
 simp only [List.getElem?_toArray, List.getElem?_cons_zero] at c0
 clear h ho
 go_wp2
 go_ret2
 exact ⟨rfl, HW.out⟩
set_option maxHeartbeats 400000 in
theorem rcells_ok (h : Rf w F r C E) : Calls Tryz.prog 65 #[.pointer (some ⟨r, 0, none⟩)] w (NewU w C) := by
 obtain ⟨i0, hi, hz0, hz1, hz2⟩ := info_parts Tryz.infoU
 have HN := hID (rnone_ok h)
 have h2 := h.n2
 obtain ⟨cb, ev, rg, h⟩ := h
 have hcb := h.cel.lt
 have HC := hID h.cel
 have hlt := h.top.lt
 have c0 := h.top.cell 0
 simp only [List.getElem?_toArray, List.getElem?_cons_zero] at c0
 clear h
 go_enter Tryz.func65, Tryz.ntmps65
 go_wp2_with fail
 refine HN.out.mono ?_
 rintro e w' ⟨rfl, rfl⟩
 have c0' : (w.alloc (.cells #[] 41)).cell? ⟨r, 0, none⟩ = some (.slice (some ⟨cb, 0, none⟩) C.length C.length) := by rw [World.cell?_alloc_lt _ _ _ hlt]; exact c0
 go_wp2_with (at_builtin; refine wpList_append_own_at _ rfl _ _ 23 rfl w.heap.size 41 i0 (.int .u64 0) 1 8 Tryz.underlying23 hi hz0 hz1 hz2 rfl (by decide) (.slice (some ⟨w.heap.size, 0, none⟩) 0 0) 0 [] rfl ?c0 ⟨cb, 0, none⟩ C.length C.length (u64s C) rfl ?c6 ?c1 ?c2 ?c3 ?c4 ?c5 ?_)
 case c0 => exact World.ownsRow_made w #[] 0 (Nat.le_refl _) (Nat.zero_le _) rfl
 case c6 => rw [length_u64s]; omega
 case c1 => intro j u hu; rw [add_addr, World.cell?_alloc_lt _ _ _ hcb, Nat.zero_add, HC.out.cell]; simpa using hu
 case c2 => exact u64s_one C
 case c3 => unfold maxLen; omega
 case c4 => omega
 case c5 => simp
 intro v' w1 hown' hgrow hnil hat
 have HR : Hid (w1.ownsRow w.heap.size 41 1 v' C.length (u64s C)) := hown'
 have HO : Hid (Off Nob w w1) := Off.grown (Off.alloc (Off.refl _ _) _) hgrow (fun k hk => by simp [Value.ownBlock] at hk; right; omega)
 clear hown' hgrow hnil hat
 go_wp2
 go_ret
 exact ⟨_, rfl, HR.out, HO.out⟩
end
end Go.Proofs.YtkflicifngohcaaGreatDoor
