/-
  The walk of dragnetlaw24.NetworkPacks.
-/
import Derived.Test.YtlefjlclhmapaaaAwake24
import Derived.Test.YtlefjlclhmapaaaNetRel
import Derived.Test.YtlefjlclhmapaaaNetPacked
import Derived.Test.YtlefjlclhmapaaaNetRouteErr
import Derived.BigQuiet
import Derived.Deep.QuietTactic
namespace Go.Proofs.Ytlefjlclhmapaaa
open Go.RowKit
set_option linter.unusedVariables false
set_option maxRecDepth 100000
/-- An arena beside the slots and their distances. -/
def PkA (w : World) (g1 c1 g2 c2 : Nat) (A : List Sl) (D : List Nat) (n p : Nat) (C : List (BitVec 64)) (E : List Ev) (W : World) : Prop :=
  W.ownsRow w.heap.size 41 3 (.slice (some ⟨g1, 0, none⟩) n c1) n (slC A) ∧ W.ownsRow w.heap.size 3 1 (.slice (some ⟨g2, 0, none⟩) n c2) n (inC D) ∧ Off Nob w W ∧ ∃ F, Ar W F p C E ∧ (∀ k, F k → w.heap.size ≤ k) ∧ ¬ F g1 ∧ ¬ F g2
section
variable {w W : World} {g1 c1 g2 c2 n p : Nat} {A : List Sl} {D : List Nat} {C : List (BitVec 64)} {E : List Ev}
theorem PkA.off (h : PkA w g1 c1 g2 c2 A D n p C E W) {W' : World} (o : Off Nob W W') : PkA w g1 c1 g2 c2 A D n p C E W' := by
  obtain ⟨h1, h2, h3, F, h4, h5, h6, h7⟩ := h
  exact ⟨own_off0 h1 o, own_off0 h2 o, h3.also o, F, h4.keep o (fun _ _ hn => hn), h5, h6, h7⟩
theorem PkA.call (h : PkA w g1 c1 g2 c2 A D n p C E W) {P : Program} {f : FuncId} {xs : Array Value} {e0 : Ending} {C2 : List (BitVec 64)} {E2 : List Ev}
    (hc : ∀ w F, Ar w F p C E → Calls P f xs w fun e w' => e = e0 ∧ ArTo w F p C2 E2 w') : Calls P f xs W fun e w' => e = e0 ∧ PkA w g1 c1 g2 c2 A D n p C2 E2 w' := by
  obtain ⟨h1, h2, h3, F, h4, h5, h6, h7⟩ := h
  refine (hc W F h4).mono fun e w' ⟨he, a3, o3⟩ => ⟨he, ?_, ?_, h3.own o3 h5, _, a3, Grow.from_ h5 h3.size, fun h => h.elim h6 (fun h => by have := (h1.lt g1 rfl).2; omega), fun h => h.elim h7 (fun h => by have := (h2.lt g2 rfl).2; omega)⟩
  · exact own_to h1 (fun g hg => o3.block g (h1.lt g hg).2 (by have e : g1 = g := by simpa [Value.ownBlock] using hg
                                                               rw [← e]; exact h6))
  · exact own_to h2 (fun g hg => o3.block g (h2.lt g hg).2 (by have e : g2 = g := by simpa [Value.ownBlock] using hg
                                                               rw [← e]; exact h7))
theorem PkA.ar (h : PkA w g1 c1 g2 c2 A D n p C E W) : ∃ F, Ar W F p C E := by obtain ⟨h1, h2, h3, F, h4, _⟩ := h; exact ⟨F, h4⟩
end
/-- The cells behind k slots. -/
def PkC (A : List Sl) (D : List Nat) (n k : Nat) (C : List (BitVec 64)) : Prop := C.length = 4 * n ∧ ∀ i, i < k → cl C (3 * i) = (sl A i).1 ∧ cl C (3 * i + 1) = (sl A i).2.1 ∧ cl C (3 * i + 2) = (sl A i).2.2 ∧ cl C (3 * n + i) = BitVec.ofNat 64 (D.getD i 0)
theorem PkC.step {A : List Sl} {D : List Nat} {n k : Nat} {C : List (BitVec 64)} (h : PkC A D n k C) (hk : k < n) : PkC A D n (k + 1) ((((C.set (3 * k) (sl A k).1).set (3 * k + 1) (sl A k).2.1).set (3 * k + 2) (sl A k).2.2).set (3 * n + k) (BitVec.ofNat 64 (D.getD k 0))) := by
  obtain ⟨h1, h2⟩ := h
  refine ⟨by simpa using h1, fun i hi => ?_⟩
  have key : ∀ x, cl ((((C.set (3 * k) (sl A k).1).set (3 * k + 1) (sl A k).2.1).set (3 * k + 2) (sl A k).2.2).set (3 * n + k) (BitVec.ofNat 64 (D.getD k 0))) x = if x = 3 * n + k then BitVec.ofNat 64 (D.getD k 0) else if x = 3 * k + 2 then (sl A k).2.2 else if x = 3 * k + 1 then (sl A k).2.1 else if x = 3 * k then (sl A k).1 else cl C x := fun x => by
    rw [cl_set _ _ _ _ (by simp; omega), cl_set _ _ _ _ (by simp; omega), cl_set _ _ _ _ (by simp; omega), cl_set _ _ _ _ (by omega)]
  rw [key, key, key, key]
  by_cases e : i = k
  · rw [e]
    rw [if_neg (show ¬ 3 * k = 3 * n + k by omega), if_neg (show ¬ 3 * k = 3 * k + 2 by omega), if_neg (show ¬ 3 * k = 3 * k + 1 by omega), if_pos rfl]
    rw [if_neg (show ¬ 3 * k + 1 = 3 * n + k by omega), if_neg (show ¬ 3 * k + 1 = 3 * k + 2 by omega), if_pos rfl]
    rw [if_neg (show ¬ 3 * k + 2 = 3 * n + k by omega), if_pos rfl, if_pos rfl]
    exact ⟨rfl, rfl, rfl, rfl⟩
  · have far : ∀ x, x < 3 * k ∨ (3 * n ≤ x ∧ x < 3 * n + k) → (if x = 3 * n + k then BitVec.ofNat 64 (D.getD k 0) else if x = 3 * k + 2 then (sl A k).2.2 else if x = 3 * k + 1 then (sl A k).2.1 else if x = 3 * k then (sl A k).1 else cl C x) = cl C x := fun x hx => by
      rw [if_neg (by omega), if_neg (by omega), if_neg (by omega), if_neg (by omega)]
    rw [far _ (by omega), far _ (by omega), far _ (by omega), far _ (by omega)]
    exact h2 i (by omega)
set_option maxHeartbeats 16000000 in
theorem packs_some (w : World) (b o n c : Nat) (l : List Bool) (hl : l.length = n) (hn1 : 1 ≤ n) (hn : n ≤ 288) (hR : Rd w (Old w) 1 (.slice (some ⟨b, o, none⟩) n c) n (boolsV l)) (hb : b < w.heap.size) (hc : ∀ j, j < n → w.cell? ⟨b, o + j, none⟩ = some (.bool (l.getD j false))) :
    Calls Try.prog 6 #[.slice (some ⟨b, o, none⟩) n c] w (BoolNew true w) := by
  have HP := Lib.hid (packed_ok w b o n c l hl hn1 hn hR hb hc)
  have HC := Lib.hid hc
  have HL := Lib.hid hl
  clear hR hc hl
  have hd0 : decide ((n : Int) < 1) = false := by simp; omega
  have hd1 : decide ((288 : Int) < (n : Int)) = false := by simp; omega
  go_enter Try.func6, Try.ntmps6
  go_wp2_with fail
  refine HP.out.mono ?_
  rintro e w1 ⟨g1, g2, c2, rfl, h1, h2, o1⟩
  obtain ⟨A, hA⟩ : ∃ A, pkT l n n = A := ⟨_, rfl⟩
  obtain ⟨D, hD⟩ : ∃ D, farN l n = D := ⟨_, rfl⟩
  have hAl : A.length = n := by rw [← hA]; exact pkT_len _ _ _
  have hDl : D.length = n := by rw [← hD]; exact farN_len _ _
  have hDb : ∀ i, D.getD i 0 ≤ i := by rw [← hD]; exact farN_bd l n
  have HX := Lib.hid (packs_of l n HL.out hn1 hn)
  rw [hA] at h1 HX
  rw [hD] at h2 HX
  have HAD := Lib.hid (And.intro hA hD)
  have P1 := Lib.hid (And.intro h1 (And.intro h2 o1))
  clear h1 h2 o1 HP hA hD
  have HAl := Lib.hid hAl
  have HDl := Lib.hid hDl
  have HDb := Lib.hid hDb
  clear hAl hDl hDb hd0 hd1
  go_wp2_with fail
  refine Calls.mono (R := fun e w' => ∃ p, e = .returned (.tuple #[.pointer (some ⟨p, 0, none⟩), .int .i64 0]) ∧ ∃ F, Ar w' F p (List.replicate (4 * n) 0) [] ∧ Off Nob w1 w' ∧ ∀ k, F k → w1.heap.size ≤ k) (by have := new_ok (4 * n) w1 (by omega) (by omega); rwa [show ((4 * n : Nat) : Int) = 4 * (n : Int) by omega] at this) ?_
  rintro e w2 ⟨p, rfl, F, ha, ho, hF⟩
  have Q2 : Hid (PkA w g1 n g2 c2 A D n p (List.replicate (4 * n) 0) [] w2) := by
    obtain ⟨h1, h2, o1⟩ := P1.out
    refine Lib.hid ⟨own_off0 h1 ho, own_off0 h2 ho, o1.also ho, F, ha, fun k hk => Nat.le_trans o1.size (hF k hk), fun h => ?_, fun h => ?_⟩
    · have := hF _ h; have := (h1.lt g1 rfl).2; omega
    · have := hF _ h; have := (h2.lt g2 rfl).2; omega
  clear ha ho hF P1
  go_wp2_with fail
  go_loopw [8] (fun i wr => ∃ k : Nat, k ≤ n ∧ i = .int .i64 (k : Int) ∧ ∃ C E, PkA w g1 n g2 c2 A D n p C E wr ∧ PkC A D n k C ∧ E.length = 4 * k) (fun i _ => n - (intOf i).toNat)
  case atStart => exact ⟨0, Nat.zero_le _, rfl, _, _, Q2.out, ⟨by simp, fun i hi => absurd hi (by omega)⟩, rfl⟩
  case round =>
    obtain ⟨k, hk, rfl, C, E, hrel, hC, hE⟩ := hrel
    clear Q2
    by_cases hlt : k < n
    · have T0 := Lib.hid hrel
      have hCl := hC.1
      have CC := Lib.hid (hC.step hlt)
      clear hC hrel
      have HCELL : ∀ (W : World) (C : List (BitVec 64)) (E : List Ev), PkA w g1 n g2 c2 A D n p C E W → W.cell? ⟨g1, k * 3, none⟩ = some (.int .u64 (n64 (sl A k).1)) ∧ W.cell? ⟨g1, k * 3 + 1, none⟩ = some (.int .u64 (n64 (sl A k).2.1)) ∧ W.cell? ⟨g1, k * 3 + 2, none⟩ = some (.int .u64 (n64 (sl A k).2.2)) ∧ W.cell? ⟨g2, k, none⟩ = some (.int .i64 ((D.getD k 0 : Nat) : Int)) := fun W C E h => by
        obtain ⟨h1, h2, _⟩ := h
        obtain ⟨a0, a1, a2⟩ := slC_at A k (by rw [HAl.out]; exact hlt)
        rw [← h1.cellAt _ (by omega)] at a0 a1 a2
        exact ⟨a0, a1, a2, (h2.cellAt k (by omega)).trans (inC_at D k (by rw [HDl.out]; exact hlt))⟩
      have KC := Lib.hid HCELL
      clear HCELL
      obtain ⟨x0, hx0⟩ : ∃ x, (sl A k).1 = x := ⟨_, rfl⟩
      obtain ⟨x1, hx1⟩ : ∃ x, (sl A k).2.1 = x := ⟨_, rfl⟩
      obtain ⟨x2, hx2⟩ : ∃ x, (sl A k).2.2 = x := ⟨_, rfl⟩
      have hd288 := HDb.out k
      obtain ⟨dk, hdk⟩ : ∃ d, D.getD k 0 = d := ⟨_, rfl⟩
      rw [hx0, hx1, hx2, hdk] at KC CC
      rw [hdk] at hd288
      clear hx0 hx1 hx2 hdk
      obtain ⟨a0, a1, a2, a3⟩ := KC.out _ _ _ T0.out
      go_wp2_with fail
      refine Calls.mono ((T0.out.call (fun w F h => store_ok h (3 * (k : Int)) x0 (by omega) (by (try simp only [List.length_set]); omega) (by (try simp only [List.length_append, List.length_cons, List.length_nil]); omega)))) ?_
      rintro e v1 ⟨rfl, hv1⟩
      have T1 := Lib.hid hv1
      clear hv1 T0 a0 a1 a2 a3
      obtain ⟨a0, a1, a2, a3⟩ := KC.out _ _ _ T1.out
      go_wp2_with fail
      refine Calls.mono ((T1.out.call (fun w F h => store_ok h (3 * (k : Int) + 1) x1 (by omega) (by (try simp only [List.length_set]); omega) (by (try simp only [List.length_append, List.length_cons, List.length_nil]); omega)))) ?_
      rintro e v2 ⟨rfl, hv2⟩
      have T2 := Lib.hid hv2
      clear hv2 T1 a0 a1 a2 a3
      obtain ⟨a0, a1, a2, a3⟩ := KC.out _ _ _ T2.out
      go_wp2_with fail
      refine Calls.mono ((T2.out.call (fun w F h => store_ok h (3 * (k : Int) + 2) x2 (by omega) (by (try simp only [List.length_set]); omega) (by (try simp only [List.length_append, List.length_cons, List.length_nil]); omega)))) ?_
      rintro e v3 ⟨rfl, hv3⟩
      have T3 := Lib.hid hv3
      clear hv3 T2 a0 a1 a2 a3
      obtain ⟨a0, a1, a2, a3⟩ := KC.out _ _ _ T3.out
      go_wp2_with fail
      have hdk : n64 (BitVec.ofNat 64 dk) = (dk : Int) := by unfold n64; simp; omega
      have h4 := T3.out.call (fun w F h => store_ok h (3 * (n : Int) + (k : Int)) (BitVec.ofNat 64 dk) (by omega) (by simp only [List.length_set]; omega) (by simp only [List.length_append, List.length_cons, List.length_nil]; omega))
      rw [hdk] at h4
      refine h4.mono ?_
      clear h4
      rintro e v4 ⟨rfl, hv4⟩
      have T4 := Lib.hid hv4
      clear hv4 T3 a0 a1 a2 a3
      have t0 : (3 * (k : Int)).toNat = 3 * k := by omega
      have t1 : (3 * (k : Int) + 1).toNat = 3 * k + 1 := by omega
      have t2 : (3 * (k : Int) + 2).toNat = 3 * k + 2 := by omega
      have t3 : (3 * (n : Int) + (k : Int)).toNat = 3 * n + k := by omega
      rw [t0, t1, t2, t3] at T4
      clear t0 t1 t2 t3
      go_wp2_with fail
      go_roundw
      case rel => exact ⟨k + 1, hlt, rfl, _, _, T4.out, CC.out, by simp; omega⟩
      case measure => simp [intOf]; omega
    · obtain rfl : k = n := by omega
      have T0 := Lib.hid hrel
      obtain ⟨hCl, hCC⟩ := hC
      obtain ⟨l1, l2, l3⟩ := moves_le hn1 hn
      have hz : rtE C.length E.length ((0 : Nat) : Int) (k : Int) ((3 * k : Nat) : Int) = 0 := by
        have e1 : hasE (4 * k) ((0 : Nat) : Int) (3 * (k : Int)) = 0 := by unfold hasE; rw [if_neg (by omega)]
        have e2 : hasE (4 * k) ((3 * k : Nat) : Int) (k : Int) = 0 := by unfold hasE; rw [if_neg (by omega)]
        have e3 : roomE (4 * k) ((16 * (moves k).length : Nat) : Int) = 0 := by unfold roomE; rw [if_neg (by omega), if_neg (by omega)]
        unfold rtE
        rw [Int.toNat_natCast, hCl, hE, if_neg (by omega), e1, if_pos rfl, e2, if_pos rfl, if_neg (by omega), e3]
      have RC : Hid (RelC k (rtL 0 (3 * k) (C, E) (moves k)).1 (apL A D (moves k))) := Lib.hid (relC_route (c := (C, E)) ⟨by show 4 * k ≤ C.length; omega, HAl.out, HDl.out, fun i => by
        by_cases h : i < k
        · have := HDb.out i; show D.getD i 0 ≤ 288; omega
        · show D.getD i 0 ≤ 288; simp [List.getD, List.getElem?_eq_none (show D.length ≤ i by rw [HDl.out]; omega)], fun i hi => hCC i hi⟩)
      have RL : Hid ((rtL 0 (3 * k) (C, E) (moves k)).1.length = 4 * k ∧ (rtL 0 (3 * k) (C, E) (moves k)).2.length = 4 * k + 16 * (moves k).length) := Lib.hid (by
        obtain ⟨a, b⟩ := rtL_len 0 (3 * k) (C, E) (moves k)
        exact ⟨a.trans hCl, by rw [b]; show E.length + _ = _; rw [hE]⟩)
      have HR : Hid (∀ w F, Ar w F p C E → Calls Try.prog 25 #[.pointer (some ⟨p, 0, none⟩), .int .i64 0, .int .i64 (k : Int), .int .i64 (3 * (k : Int))] w fun e w' => e = .returned (.int .i64 0) ∧ ArTo w F p (rtL 0 (3 * k) (C, E) (moves k)).1 (rtL 0 (3 * k) (C, E) (moves k)).2 w') := Lib.hid (fun w F h => by
        have := nroute_ok h 0 k (3 * k) hz
        rwa [show ((3 * k : Nat) : Int) = 3 * (k : Int) by omega, show ((0 : Nat) : Int) = 0 from rfl] at this)
      have HS : Hid (∀ w, Calls Try.prog 11 #[.int .i64 (k : Int)] w fun e w' => e = .returned (.tuple #[.int .i64 (16 * ((moves k).length : Int)), .int .i64 0]) ∧ w = w') := Lib.hid (fun w => by
        have := nsteps_ok k hn1 hn w
        rwa [show ((16 * (moves k).length : Nat) : Int) = 16 * ((moves k).length : Int) by omega] at this)
      have HAP : Hid (∀ w C E W, PkA w g1 k g2 c2 A D k p C E W → Calls Try.prog 17 #[.slice (some ⟨g1, 0, none⟩) k k, .slice (some ⟨g2, 0, none⟩) k c2] W fun e w' => ∃ g cap, e = .returned (.tuple #[.slice (some ⟨g, 0, none⟩) k cap, .int .i64 0]) ∧ k ≤ cap ∧ w'.ownsRow W.heap.size 41 3 (.slice (some ⟨g, 0, none⟩) k cap) k (slC (apL A D (moves k)).1) ∧ Off Nob W w') := Lib.hid (fun w C E W h => napply_ok k g1 0 k g2 0 c2 A D HAl.out HDl.out hn1 hn W (h.1.lt g1 rfl).2 (h.2.1.lt g2 rfl).2 (fun j u hj => by
          rw [Nat.zero_add, h.1.cellAt j (by have := (List.getElem?_eq_some_iff.1 hj).1; rw [slC_len, HAl.out] at this; exact this)]; exact hj) (fun j u hj => by
          rw [Nat.zero_add, h.2.1.cellAt j (by have := (List.getElem?_eq_some_iff.1 hj).1; rw [inC_len, HDl.out] at this; omega)]; exact hj) (fun i _ => HDb.out i))
      clear hz hCC hrel
      revert RC RL HR HS HAP HX
      generalize (rtL 0 (3 * k) (C, E) (moves k)).1 = C2
      generalize (rtL 0 (3 * k) (C, E) (moves k)).2 = E2
      generalize apL A D (moves k) = RR
      obtain ⟨M, hM⟩ : ∃ M, (moves k).length = M := ⟨_, rfl⟩
      rw [hM] at l1 l2 l3 ⊢
      clear hM
      intro HX RC RL HR HS HAP
      clear l1 l2
      go_wp2_with fail
      obtain ⟨F1, ha1⟩ := T0.out.ar
      have HST := Lib.hid (steps_any ha1)
      rw [hE] at HST
      clear ha1
      refine HST.out.mono ?_
      rintro e v1 ⟨rfl, rfl⟩
      clear HST
      go_wp2_with fail
      refine (T0.out.call HR.out).mono ?_
      rintro e v2 ⟨rfl, h2⟩
      have T2 := Lib.hid h2
      clear h2 T0 HR
      go_wp2_with fail
      refine (HS.out _).mono ?_
      rintro e v3 ⟨rfl, rfl⟩
      go_wp2_with fail
      obtain ⟨F3, ha3⟩ := T2.out.ar
      have HCE := Lib.hid (cells_ok ha3)
      clear ha3
      refine HCE.out.mono ?_
      rintro e v4 ⟨vc, rfl, hv4, o4⟩
      rw [RL.out.1] at hv4
      have T4 := Lib.hid (T2.out.off o4)
      have V4 := Lib.hid (Rd.own hv4 (F := fun _ => True) (fun _ _ => trivial))
      have hv4' := Lib.hid hv4
      clear hv4 o4 HCE T2
      go_wp2_with fail
      refine (HAP.out _ _ _ _ T4.out).mono ?_
      rintro e v5 ⟨g5, c5, rfl, hc5, h5, o5⟩
      have T5 := Lib.hid (T4.out.off o5)
      have W5 := Lib.hid h5
      have V5 := Lib.hid (own_off0 hv4'.out o5)
      clear h5 o5 T4 V4 hv4' HAP
      obtain ⟨g6, c6, rfl⟩ : ∃ g c, vc = .slice (some ⟨g, 0, none⟩) (4 * k) c := by
        rcases id V5.out.2 with ⟨_, h0⟩ | ⟨g, cap, cur, hv, _⟩
        · omega
        · exact ⟨g, cap, hv⟩
      obtain ⟨F5, ha5⟩ := T5.out.ar
      have HST := Lib.hid (steps_any ha5)
      rw [RL.out.2] at HST
      clear ha5
      have q1 : (((4 * k + 16 * M : Nat) : Int) != 4 * (k : Int) + 16 * (M : Int)) = false := by simp
      rw [show ((4 * k + 16 * M : Nat) : Int) = 4 * (k : Int) + 16 * (M : Int) by omega] at HST
      clear q1
      go_wp2_with (refine HST.out.mono ?_; rintro e v6 ⟨rfl, rfl⟩)
      go_loopw [16, 17] (fun m i wr => ∃ j : Nat, j ≤ k ∧ i = .int .i64 (j : Int) ∧ m = .int .i64 (rk l j : Int) ∧ Off Nob v5 wr) (fun _ i _ => k - (intOf i).toNat)
      case atStart => exact ⟨0, Nat.zero_le _, rfl, by rw [rk_zero]; rfl, Off.refl _ _⟩
      case round =>
        obtain ⟨j, hj, rfl, rfl, ho5⟩ := hrel
        have OO := Lib.hid ho5
        have T6 := Lib.hid (T5.out.off ho5)
        have W6 := Lib.hid (own_off0 W5.out ho5)
        clear ho5
        by_cases hlt2 : j < k
        · have hcell : wr.cell? ⟨b, o + j, none⟩ = some (.bool (l.getD j false)) := (T6.out.2.2.1.cell_old hb _).trans (HC.out j hlt2)
          have hrs := rk_succ l j (by rw [HL.out]; exact hlt2)
          have hrl := rk_le l j
          cases hbt : l.getD j false <;> rw [hbt] at hcell hrs
          · rw [if_neg (by decide)] at hrs
            have HRS := Lib.hid hrs
            clear hrs hbt
            go_wp2_with fail
            go_roundw
            case rel => exact ⟨j + 1, hlt2, rfl, by rw [HRS.out]; rfl, OO.out⟩
            case measure => simp [intOf]; omega
          · rw [if_pos rfl] at hrs
            have HRS := Lib.hid hrs
            have he := HX.out.2.1 j hlt2 hbt
            obtain ⟨a0, a1, a2⟩ := slC_at A j (by rw [HAl.out]; exact hlt2)
            rw [← T6.out.1.cellAt _ (by omega)] at a0 a1 a2
            obtain ⟨z0, z1, z2⟩ := slC_at RR.1 (rk l j) (by rw [HX.out.1]; omega)
            rw [← W6.out.cellAt _ (by omega), he] at z0 z1 z2
            clear hrs hbt he
            go_wp2_with fail
            go_quiet (fail)
            go_wp2_with fail
            go_roundw
            case rel => exact ⟨j + 1, hlt2, rfl, by rw [HRS.out]; go_num, OO.out.drewN _⟩
            case measure => simp [intOf]; omega
        · obtain rfl : j = k := by omega
          go_wp2_with fail
          have hrkl := rk_le l j
          obtain ⟨r, hr⟩ : ∃ r, rk l j = r := ⟨_, rfl⟩
          have HZ := HX.out.2.2
          rw [hr] at HZ hrkl ⊢
          have HZZ := Lib.hid HZ
          clear HZ hr hlt2 hj
          go_loopw [18] (fun i wq => ∃ q : Nat, q ≤ j ∧ i = .int .i64 (q : Int) ∧ Off Nob v5 wq) (fun i _ => j - (intOf i).toNat)
          case atStart => exact ⟨0, Nat.zero_le _, rfl, OO.out⟩
          case round =>
            obtain ⟨q, hq, rfl, ho7⟩ := hrel
            have O7 := Lib.hid ho7
            have W7 := Lib.hid (own_off0 W5.out ho7)
            have V7 := Lib.hid (own_off0 V5.out ho7)
            clear ho7 OO T6 W6
            by_cases hq2 : q < j
            · obtain ⟨y0, y1, y2, _⟩ := RC.out.2.2.2.2 q hq2
              obtain ⟨z0, z1, z2⟩ := slC_at RR.1 q (by rw [HX.out.1]; exact hq2)
              rw [← W7.out.cellAt _ (by omega)] at z0 z1 z2
              have CL : ∀ i, i < 4 * j → wr.cell? ⟨g6, i, none⟩ = some (.int .u64 (n64 (cl C2 i))) := fun i hi => (V7.out.cellAt i (by omega)).trans (getElem_u64s C2 i (by rw [RL.out.1]; exact hi))
              have m0 := CL (3 * q) (by omega)
              have m1 := CL (3 * q + 1) (by omega)
              have m2 := CL (3 * q + 2) (by omega)
              rw [y0] at m0
              rw [y1] at m1
              rw [y2] at m2
              clear CL y0 y1 y2
              have hzz := HZZ.out q hq2
              by_cases hge : r ≤ q
              · have hd : decide ((r : Int) ≤ (q : Int)) = true := decide_eq_true (by omega)
                rw [hzz hge] at z0 z1 z2 m0 m1 m2
                clear hzz
                replace z0 : wr.cell? ⟨g5, q * 3, none⟩ = some (.int .u64 0) := z0
                replace z1 : wr.cell? ⟨g5, q * 3 + 1, none⟩ = some (.int .u64 0) := z1
                replace z2 : wr.cell? ⟨g5, q * 3 + 2, none⟩ = some (.int .u64 0) := z2
                replace m0 : wr.cell? ⟨g6, 3 * q, none⟩ = some (.int .u64 0) := m0
                replace m1 : wr.cell? ⟨g6, 3 * q + 1, none⟩ = some (.int .u64 0) := m1
                replace m2 : wr.cell? ⟨g6, 3 * q + 2, none⟩ = some (.int .u64 0) := m2
                go_wp2_with fail
                go_quiet (fail)
                go_wp2_with fail
                go_roundw
                case rel => exact ⟨q + 1, hq2, rfl, O7.out.drewN _⟩
                case measure => simp [intOf]; omega
              · have hd : decide ((r : Int) ≤ (q : Int)) = false := decide_eq_false (by omega)
                clear hzz
                obtain ⟨x0, hx0⟩ : ∃ x, (sl RR.1 q).1 = x := ⟨_, rfl⟩
                obtain ⟨x1, hx1⟩ : ∃ x, (sl RR.1 q).2.1 = x := ⟨_, rfl⟩
                obtain ⟨x2, hx2⟩ : ∃ x, (sl RR.1 q).2.2 = x := ⟨_, rfl⟩
                rw [hx0] at z0 m0
                rw [hx1] at z1 m1
                rw [hx2] at z2 m2
                clear hx0 hx1 hx2
                go_wp2_with fail
                go_quiet (fail)
                go_wp2_with fail
                go_roundw
                case rel => exact ⟨q + 1, hq2, rfl, O7.out.drewN _⟩
                case measure => simp [intOf]; omega
            · obtain rfl : q = j := by omega
              go_wp2_with fail
              refine (awake_ok _).mono ?_
              rintro e v8 ⟨rfl, o8⟩
              have O8 := Lib.hid ((T5.out.2.2.1.also O7.out).also o8)
              clear o8
              go_wp2
              go_ret
              exact ⟨rfl, O8.out⟩
theorem packs_out {w : World} (A : Option Addr) (n c : Nat) (h : n < 1 ∨ 288 < n) (hm : n ≤ maxLen) : Calls Try.prog 6 #[.slice A n c] w (BoolNew true w) := by
  unfold maxLen at hm
  go_enter Try.func6, Try.ntmps6
  rcases h with h | h
  · have hd0 : decide ((n : Int) < 1) = true := by simp; omega
    go_wp2_with fail
    refine (awake_ok _).mono ?_
    rintro e w4 ⟨rfl, h4⟩
    have H4 := Lib.hid h4
    clear h4
    go_wp2
    go_ret
    exact ⟨rfl, H4.out⟩
  · have hd0 : decide ((n : Int) < 1) = false := by simp; omega
    have hd1 : decide ((288 : Int) < (n : Int)) = true := by simp; omega
    go_wp2_with fail
    refine (awake_ok _).mono ?_
    rintro e w4 ⟨rfl, h4⟩
    have H4 := Lib.hid h4
    clear h4
    go_wp2
    go_ret
    exact ⟨rfl, H4.out⟩
theorem networkPacks_walk {w : World} {v : Value} {n : Nat} {l : List Bool} (h : Rd w (Old w) 1 v n (boolsV l)) : Calls Try.prog 6 #[v] w (BoolNew true w) := by
  have hl : l.length = n := by obtain ⟨_, _, _, _, hl, _⟩ := h; rw [boolsV, List.length_map] at hl; omega
  obtain ⟨A, c, rfl, hm, hc⟩ := h.form
  by_cases g : n < 1 ∨ 288 < n
  · exact packs_out _ _ _ g hm
  · obtain ⟨b, o, rfl, hb, hx⟩ := hc (by omega)
    exact packs_some w b o n c l hl (by omega) (by omega) h hb (fun j hj => hx j _ (by simp [boolsV, List.getD, List.getElem?_eq_getElem (show j < l.length by omega)]))
end Go.Proofs.Ytlefjlclhmapaaa
