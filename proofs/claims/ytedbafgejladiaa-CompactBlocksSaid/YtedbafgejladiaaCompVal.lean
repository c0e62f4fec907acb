import Derived.Test.YtedbafgejladiaaComp
import Derived.Test.YtedbafgejladiaaConcat
import Derived.Test.YtedbafgejladiaaSlRd
import Derived.Test.YtedbafgejladiaaSlErr2
import Derived.Test.YtedbafgejladiaaOneRow
import Derived.Test.YtedbafgejladiaaSlLaw
import Derived.Test.YtedbafgejladiaaCompFirst
/-
  compact.Of: what Compact leaves of rows of slots.
-/
namespace Go.Proofs.Ytedbafgejladiaa
open Go.RowKit
set_option linter.unusedVariables false
set_option linter.unusedSimpArgs false
set_option maxRecDepth 100000
theorem own_rdC {W : World} {base n h c : Nat} {t : TypeId} {L : List Sl} (ho : W.ownsRow base t 3 (.slice (some ⟨h, 0, none⟩) n c) n (slC L)) : ∃ cs, base ≤ h ∧ Blk W h t cs ∧ ∀ (j : Nat) (u : Value), (slC L)[j]? = some u → cs[j]? = some u := by
  rcases ho.2 with ⟨h1, _⟩ | ⟨g, cap, cur, hv, hg, hh, hc, hr⟩
  · cases h1
  · injection hv with hv1
    injection hv1 with hv1
    injection hv1 with hv1
    subst hv1
    refine ⟨cur, hg, hh, fun j u hu => ?_⟩
    obtain ⟨_, _, ht⟩ := hr
    rw [← ht] at hu
    rw [List.getElem?_take] at hu
    split at hu
    · simpa using hu
    · cases hu
section
variable {w0 w W : World} {bs : Bks} {p n h c : Nat} {C : List (BitVec 64)} {E : List Ev} {t : TypeId} {cs : Array Value} {L : List Sl}
theorem One.withList (h1 : One w0 w bs p C E) (o : Off Nob w W) (ho : W.ownsRow w.heap.size t 3 (.slice (some ⟨h, 0, none⟩) n c) n (slC L)) : ∃ cs, One w0 W ((h, t, cs) :: bs) p C E ∧ ∀ (j : Nat) (u : Value), (slC L)[j]? = some u → cs[j]? = some u := by
  obtain ⟨cs, hb, hk, hx⟩ := own_rdC ho
  obtain ⟨F, ha, ho2, hf, hbs⟩ := h1
  refine ⟨cs, ⟨F, ha.keep o (fun _ _ h => h), ho2.also o, hf, fun x hx2 => ?_⟩, hx⟩
  rcases List.mem_cons.1 hx2 with rfl | hx2
  · exact ⟨hk, fun hq => by have h9 := ha.lt _ hq; have h10 : h < w.heap.size := h9; omega⟩
  · exact ⟨(hbs x hx2).1.to (o.block _ (hbs x hx2).1.lt (fun h => h)), (hbs x hx2).2⟩
theorem One.writeC (h1 : One w0 w bs p C E) (hm : (h, t, cs) ∈ bs) (hr : ∀ (j : Nat) (u : Value), (slC L)[j]? = some u → cs[j]? = some u) (hL : L.length = n) (c base : Nat) (hz : ckS C.length E.length base n = 0) :
    Calls Try.prog 9 #[.pointer (some ⟨p, 0, none⟩), .int .i64 (base : Int), .slice (some ⟨h, 0, none⟩) n c] w fun e w' => e = .returned (.int .i64 0) ∧ One w0 w' bs p (wrS base (sl L) (C, E) n).1 (wrS base (sl L) (C, E) n).2 := by
  have hb := h1.blk hm
  obtain ⟨F, ha, ho, hf, hbs⟩ := h1
  refine (write_ok ha base n h 0 c L hL hb.lt (hbs _ hm).2 (fun j u hu => by rw [Nat.zero_add, hb.cell]; exact hr j u hu) hz).mono fun e w' ⟨he, a3, o3⟩ => ⟨he, _, a3, ho.own o3 hf, Grow.from_ hf ho.size, fun x hx => ?_⟩
  obtain ⟨g1, g2⟩ := hbs x hx
  exact ⟨g1.to (o3.block _ g1.lt g2), fun h => h.elim g2 (fun h => by have := g1.lt; omega)⟩
end
/-- What Of leaves: the cells and steps behind Write, and behind Compact. -/
def ofW (L : List Sl) (a b : Nat) : SlSt := wrS 0 (sl L) (List.replicate (4 * (a + b) + 2) 0, []) (a + b)
def ofKK (L : List Sl) (a b : Nat) : CpS := cpK 0 (3 * ((a : Int) + (b : Int))) (4 * ((a : Int) + (b : Int))) (4 * ((a : Int) + (b : Int)) + 1) a b (ofW L a b).1 (ofW L a b).2 6
def ofLst (L : List Sl) (a b : Nat) : List Sl := rdL 0 (ofKK L a b).1 (a + b)
def ofDr (L : List Sl) (a b : Nat) : BitVec 64 := cl (ofKK L a b).1 (4 * (a + b))
theorem ofW_len (L : List Sl) (a b : Nat) : (ofW L a b).1.length = 4 * (a + b) + 2 ∧ (ofW L a b).2.length = 3 * (a + b) := by
  obtain ⟨h1, h2⟩ := wrS_len 0 (sl L) (List.replicate (4 * (a + b) + 2) (0 : BitVec 64), []) (a + b)
  refine ⟨h1.trans (by simp), h2.trans (by simp)⟩
theorem of_ok (L : List Sl) (a b : Nat) (h1 : 1 ≤ a) (h2 : a ≤ 32) (h3 : 1 ≤ b) (h4 : b ≤ 256) : CpOk (ofW L a b).1.length (ofW L a b).2.length 0 (3 * ((a : Int) + (b : Int))) (4 * ((a : Int) + (b : Int))) (4 * ((a : Int) + (b : Int)) + 1) a b := by
  obtain ⟨l1, l2⟩ := ofW_len L a b
  have hc := cpN_le (a := a + b) (by omega) (by omega)
  refine ⟨h1, h2, h3, h4, by omega, ?_, by omega, ?_, by omega, ?_, by omega, ?_, by omega, ?_⟩
  all_goals first | (rw [l1]; push_cast; omega) | (rw [l2]; omega)
theorem of_cpE (L : List Sl) (a b : Nat) (h1 : 1 ≤ a) (h2 : a ≤ 32) (h3 : 1 ≤ b) (h4 : b ≤ 256) : cpE (ofW L a b).1.length (ofW L a b).2.length 0 (3 * ((a : Int) + (b : Int))) (4 * ((a : Int) + (b : Int))) (4 * ((a : Int) + (b : Int)) + 1) a b = 0 := by
  obtain ⟨l1, l2⟩ := ofW_len L a b
  have hc := cpN_le (a := a + b) (by omega) (by omega)
  unfold cpE
  rw [if_neg (by omega)]
  have e0 : hasL (ofW L a b).1.length (cpL 0 (3 * ((a : Int) + (b : Int))) (4 * ((a : Int) + (b : Int))) (4 * ((a : Int) + (b : Int)) + 1) a b) = 0 := by
    rw [l1]
    have q1 : hasE (4 * (a + b) + 2) 0 (3 * ((a : Int) + (b : Int))) = 0 := by unfold hasE; rw [if_neg (by omega)]
    have q2 : hasE (4 * (a + b) + 2) (3 * ((a : Int) + (b : Int))) ((a : Int) + (b : Int)) = 0 := by unfold hasE; rw [if_neg (by omega)]
    have q3 : hasE (4 * (a + b) + 2) (4 * ((a : Int) + (b : Int))) 1 = 0 := by unfold hasE; rw [if_neg (by omega)]
    have q4 : hasE (4 * (a + b) + 2) (4 * ((a : Int) + (b : Int)) + 1) 1 = 0 := by unfold hasE; rw [if_neg (by omega)]
    simp only [cpL, hasL, q1, q2, q3, q4, if_true]
  rw [e0, if_pos rfl]
  have e1 : meL (cpL 0 (3 * ((a : Int) + (b : Int))) (4 * ((a : Int) + (b : Int))) (4 * ((a : Int) + (b : Int)) + 1) a b) = false := by
    refine meL_no _ (fun i hi => ?_)
    have hi4 : i = 0 ∨ i = 1 ∨ i = 2 ∨ i = 3 := by simp [cpL] at hi; omega
    rcases hi4 with rfl | rfl | rfl | rfl
    all_goals
      simp only [anyM, cpL, pt, meB, List.getD_cons_zero, List.getD_cons_succ, List.take_zero, List.take_succ_cons, List.any_nil, List.any_cons, Bool.or_false, Bool.or_eq_false_iff, Bool.and_eq_false_iff, decide_eq_false_iff_not]
      try omega
  rw [e1]
  simp only [Bool.false_eq_true, if_false]
  unfold roomE
  rw [show ((a : Int) + (b : Int)).toNat = a + b by omega, if_neg (by omega), if_neg (by rw [l2]; omega)]
theorem ofKK_len (L : List Sl) (a b : Nat) (h1 : 1 ≤ a) (h2 : a ≤ 32) (h3 : 1 ≤ b) (h4 : b ≤ 256) : (ofKK L a b).1.length = 4 * (a + b) + 2 ∧ (ofKK L a b).2.1.length ≤ 8000000 := by
  obtain ⟨l1, l2⟩ := ofW_len L a b
  have hc := cpN_le (a := a + b) (by omega) (by omega)
  obtain ⟨m1, m2⟩ := cpK_len (of_ok L a b h1 h2 h3 h4) 6 (by omega)
  refine ⟨m1.trans l1, ?_⟩
  show (cpK _ _ _ _ _ _ _ _ 6).2.1.length ≤ _
  rw [m2, l2]
  simp only [cpV]
  unfold cpN at hc
  omega
def CofP (w : World) (L : List Sl) (a b : Nat) (e : Ending) (w' : World) : Prop :=
  ∃ g, e = .returned (.tuple #[.slice (some ⟨g, 0, none⟩) (a + b) (a + b), .int .i64 (wrap64 (n64 (ofDr L a b))), .int .i64 0]) ∧ Blk w' g 47 (slC (ofLst L a b)).toArray ∧ Off Nob w w'
set_option maxHeartbeats 4000000 in
theorem cof_ok {w : World} {F G : Nat → Prop} {v0 v1 : Value} {a b : Nat} {A B : List Sl} (hA : Rd w F 3 v0 a (slC A)) (hB : Rd w G 3 v1 b (slC B)) (h1 : 1 ≤ a) (h2 : a ≤ 32) (h3 : 1 ≤ b) (h4 : b ≤ 256) :
    Calls Try.prog 23 #[v0, v1] w (CofP w (A ++ B) a b) := by
  have lA : A.length = a := by obtain ⟨_, _, _, _, hl, _⟩ := hA; rw [slC_len] at hl; omega
  have lB : B.length = b := by obtain ⟨_, _, _, _, hl, _⟩ := hB; rw [slC_len] at hl; omega
  have HC := Lib.hid (fun W (o : Off Nob w W) => concat_ok (hA.keep o (fun k _ h => h)) (hB.keep o (fun k _ h => h)) h1 h3 (by omega))
  have HLL : Hid ((A ++ B).length = a + b) := Lib.hid (by rw [List.length_append, lA, lB])
  obtain ⟨A0, c0, rfl, _⟩ := hA
  obtain ⟨A1, c1, rfl, _⟩ := hB
  have HLDk := ofKK_len (A ++ B) a b h1 h2 h3 h4
  have HQ : Hid (ckS (List.replicate (4 * (a + b) + 2) (0 : BitVec 64)).length ([] : List Ev).length (0 : Nat) (a + b : Nat) = 0) := Lib.hid (ckS_ok (by simp; omega))
  have HCP : Hid (∀ W F p, Ar W F p (ofW (A ++ B) a b).1 (ofW (A ++ B) a b).2 → Calls Try.prog 12 #[.pointer (some ⟨p, 0, none⟩), .agg #[.int .i64 0, .int .i64 (3 * ((a : Int) + (b : Int))), .int .i64 (4 * ((a : Int) + (b : Int))), .int .i64 (4 * ((a : Int) + (b : Int)) + 1)], .int .i64 (a : Int), .int .i64 (b : Int)] W fun e w' => e = .returned (.int .i64 0) ∧ ArTo W F p (ofKK (A ++ B) a b).1 (ofKK (A ++ B) a b).2.1 w') := Lib.hid (fun W F p ha => ccompact_ok ha 0 _ _ _ a b (of_ok (A ++ B) a b h1 h2 h3 h4) (of_cpE (A ++ B) a b h1 h2 h3 h4))
  have HLD : Hid (∀ W F p, Ar W F p (ofKK (A ++ B) a b).1 (ofKK (A ++ B) a b).2.1 → Calls Try.prog 47 #[.pointer (some ⟨p, 0, none⟩), .int .i64 (4 * ((a : Int) + (b : Int)))] W fun e w' => e = .returned (.tuple #[.int .u64 (n64 (ofDr (A ++ B) a b)), .int .i64 0]) ∧ ArTo W F p (ofKK (A ++ B) a b).1 ((ofKK (A ++ B) a b).2.1 ++ [(1, 4 * (a + b))]) w') := Lib.hid (fun W F p ha => by
    have := load_ok ha (4 * ((a : Int) + (b : Int))) (by omega) (by omega) (by omega)
    rwa [show (4 * ((a : Int) + (b : Int))).toNat = 4 * (a + b) by omega] at this)
  have HRD : Hid (∀ W F p, Ar W F p (ofKK (A ++ B) a b).1 ((ofKK (A ++ B) a b).2.1 ++ [(1, 4 * (a + b))]) → Calls Try.prog 14 #[.pointer (some ⟨p, 0, none⟩), .int .i64 0, .int .i64 ((a : Int) + (b : Int))] W fun e w' => ∃ g, e = .returned (.tuple #[.slice (some ⟨g, 0, none⟩) (a + b) (a + b), .int .i64 0]) ∧ Wk W F w' [(g, 47, (slC (ofLst (A ++ B) a b)).toArray)] p (ofKK (A ++ B) a b).1 (rdE 0 ((ofKK (A ++ B) a b).2.1 ++ [(1, 4 * (a + b))]) (a + b))) := Lib.hid (fun W F p ha => by
    have := read_ok ha 0 (a + b) (ckS_ok (by simp; omega))
    unfold ofLst
    simpa using this)
  have HST := Lib.hid (fun w => csteps_ok a b h1 h2 h3 h4 w)
  clear lA lB
  go_enter Try.func23, Try.ntmps23
  go_wp2_with fail
  refine (HST.out _).mono ?_
  rintro e w' ⟨rfl, rfl⟩
  go_wp2_with fail
  refine Calls.mono (R := fun e w' => ∃ p, e = .returned (.tuple #[.pointer (some ⟨p, 0, none⟩), .int .i64 0]) ∧ One w w' [] p (List.replicate (4 * (a + b) + 2) 0) []) (by
    have := new_ok (4 * (a + b) + 2) w (by omega) (by omega)
    rw [show ((4 * (a + b) + 2 : Nat) : Int) = 4 * ((a : Int) + (b : Int)) + 2 by push_cast; rfl] at this
    exact this.mono fun e w' ⟨p, he, F, ha, ho, hf⟩ => ⟨p, he, F, ha, ho, hf, fun x hx => by cases hx⟩) ?_
  rintro e w1 ⟨p, rfl, u1⟩
  have U1 := Lib.hid u1
  clear u1
  go_wp2_with fail
  refine (HC.out _ (U1.out.oldR.alloc _) _ (Blk.new _ _ _)).mono ?_
  rintro e w2 ⟨h, c, rfl, ho, o2⟩
  obtain ⟨cs, u2, hx⟩ := (U1.out.push 27 #[.slice A0 a c0, .slice A1 b c1]).withList o2 ho
  have U2 := Lib.hid u2
  have HX := Lib.hid hx
  clear ho o2 u2 hx
  go_wp2_with fail
  refine Calls.mono (R := fun e w' => e = .returned (.int .i64 0) ∧ One w w' _ p (ofW (A ++ B) a b).1 (ofW (A ++ B) a b).2) (U2.out.writeC (List.mem_cons_self) HX.out HLL.out c 0 HQ.out) ?_
  rintro e w3 ⟨rfl, u3⟩
  have U3 := Lib.hid u3
  clear u3
  go_wp2_with fail
  refine Calls.mono (R := fun e w' => e = .returned (.int .i64 0) ∧ One w w' _ p (ofKK (A ++ B) a b).1 (ofKK (A ++ B) a b).2.1) (U3.out.call (fun W F ha => HCP.out W F p ha)) ?_
  rintro e w4 ⟨rfl, u4⟩
  have U4 := Lib.hid u4
  clear u4
  go_wp2_with fail
  refine Calls.mono (R := fun e w' => e = .returned (.tuple #[.int .u64 (n64 (ofDr (A ++ B) a b)), .int .i64 0]) ∧ One w w' _ p (ofKK (A ++ B) a b).1 ((ofKK (A ++ B) a b).2.1 ++ [(1, 4 * (a + b))])) (U4.out.call (fun W F ha => HLD.out W F p ha)) ?_
  rintro e w5 ⟨rfl, u5⟩
  have U5 := Lib.hid u5
  clear u5
  go_wp2_with fail
  refine Calls.mono (R := _) (U5.out.row (fun F ha => HRD.out _ F p ha)) ?_
  rintro e w6 ⟨g, rfl, u6⟩
  have U6 := Lib.hid u6
  clear u6
  go_wp2_with fail
  refine bodyPost_ret (v := .tuple #[.slice (some ⟨g, 0, none⟩) (a + b) (a + b), .int .i64 (wrap64 (n64 (ofDr (A ++ B) a b))), .int .i64 0]) (by simp [results, Try.f23, go_sem]) rfl ⟨g, rfl, U6.out.blk (List.mem_cons_self), U6.out.oldR⟩
theorem cof_bad {w : World} {F G : Nat → Prop} {v0 v1 : Value} {a b : Nat} {A B : List Sl} (hA : Rd w F 3 v0 a (slC A)) (hB : Rd w G 3 v1 b (slC B)) (hn : a < 1 ∨ 32 < a ∨ b < 1 ∨ 256 < b) :
    Calls Try.prog 23 #[v0, v1] w fun e w' => e = .returned (.tuple #[.slice none 0 0, .int .i64 0, .int .i64 7]) ∧ w = w' := by
  obtain ⟨A0, c0, rfl, ha, _⟩ := hA
  obtain ⟨A1, c1, rfl, hb, _⟩ := hB
  unfold maxLen at ha hb
  have HST := Lib.hid (fun w => csteps_bad (a : Int) (b : Int) (by omega) w)
  clear ha hb
  go_enter Try.func23, Try.ntmps23
  go_wp2_with fail
  refine (HST.out _).mono ?_
  rintro e w' ⟨rfl, rfl⟩
  go_wp2_with fail
  exact bodyPost_ret (v := .tuple #[.slice none 0 0, .int .i64 0, .int .i64 7]) (by simp [results, Try.f23, go_sem]) rfl ⟨rfl, rfl⟩
end Go.Proofs.Ytedbafgejladiaa

/-
  dragnetlaw25.valid: slots that are valid or not.
-/
namespace Go.Proofs.Ytedbafgejladiaa
open Go.RowKit
set_option linter.unusedVariables false
set_option linter.unusedSimpArgs false
set_option maxRecDepth 100000
theorem own_keep {w W : World} {base n size : Nat} {t : TypeId} {v : Value} {L : List Value} (h : w.ownsRow base t size v n L) (o : Off Nob w W) : W.ownsRow base t size v n L := own_to h (fun g hg => o.block g (h.lt g hg).2 (fun h => h))
def VaI (base : Nat) (w : World) (g : Nat) (A : List Sl) (n : Nat) (W : World) : Prop := W.ownsRow base 47 3 (.slice (some ⟨g, 0, none⟩) n n) n (slC A) ∧ Off Nob w W
theorem VaI.put {base : Nat} {w W : World} {g : Nat} {A : List Sl} {n : Nat} (h : VaI base w g A n W) (hb : w.heap.size ≤ base) (k : Nat) (x : Sl) : VaI base w g (A.set k x) n (W.setCells g (k * 3) [.int .u64 (n64 x.1), .int .u64 (n64 x.2.1), .int .u64 (n64 x.2.2)]) := by
  obtain ⟨i3, i5⟩ := h
  have hw := Nat.le_trans hb (i3.lt g rfl).1
  show VaI base w g (A.set k x) n (((W.setCell ⟨g, k * 3, none⟩ (.int .u64 (n64 x.1))).setCell ⟨g, k * 3 + 1, none⟩ (.int .u64 (n64 x.2.1))).setCell ⟨g, k * 3 + 1 + 1, none⟩ (.int .u64 (n64 x.2.2)))
  refine ⟨?_, ((i5.put (p := ⟨g, _, none⟩) (.inr hw) _).put (p := ⟨g, _, none⟩) (.inr hw) _).put (p := ⟨g, _, none⟩) (.inr hw) _⟩
  have := (((i3.stored (k * 3) (.int .u64 (n64 x.1))).1.stored (k * 3 + 1) (.int .u64 (n64 x.2.1))).1.stored (k * 3 + 2) (.int .u64 (n64 x.2.2))).1
  rw [slC_set] at this
  exact this
set_option maxHeartbeats 4000000 in
theorem cvalid_ok (w : World) (b o n c : Nat) (l : List Bool) (f : Nat) (hl : l.length = n) (hn1 : 1 ≤ n) (hn : n ≤ 300) (hf : f ≤ 300) (hb : b < w.heap.size) (hc : ∀ j, j < n → w.cell? ⟨b, o + j, none⟩ = some (.bool (l.getD j false))) :
    Calls Try.prog 7 #[.slice (some ⟨b, o, none⟩) n c, .int .i64 (f : Int)] w fun e w' => ∃ g, e = .returned (.slice (some ⟨g, 0, none⟩) n n) ∧ w'.ownsRow w.heap.size 47 3 (.slice (some ⟨g, 0, none⟩) n n) n (slC (vaT l f n n)) ∧ Off Nob w w' := by
  obtain ⟨i0, hi, hz0, hz1, hz2⟩ := info_parts Try.infoSl
  have HC := Lib.hid hc
  clear hc
  go_enter Try.func7, Try.ntmps7
  go_wp2_with (at_make; refine wpList_make_full _ rfl _ _ 27 rfl w.heap.size 47 i0 (.agg #[.int .u64 0, .int .u64 0, .int .u64 0]) 3 Try.underlying27 hi hz0 hz1 .i64 .i64 _ _ n rfl rfl rfl rfl (by rw [hz2]; omega) (by unfold maxLen; omega) (Nat.le_refl _) ?_; intro w2 hown2 hgrow2)
  have PK : Hid (VaI w.heap.size w w.heap.size (vaT l f n 0) n w2) := by
    refine Lib.hid ⟨?_, Off.grown (Off.refl _ _) hgrow2 (fun k hk => by cases hk)⟩
    rw [show (madeCells (Value.agg #[.int .u64 0, .int .u64 0, .int .u64 0]).cells (n * 3)).toList = slC (List.replicate n (0#64, 0#64, 0#64)) from made_slots n] at hown2
    rw [vaT_zero]
    exact hown2
  have HB : Hid (w.heap.size ≤ w.heap.size) := Lib.hid (Nat.le_refl _)
  clear hown2 hgrow2 hi hz0 hz1 hz2
  revert PK HB
  generalize hbase : w.heap.size = base
  rw [hbase] at hb
  intro PK HB
  have HS := Lib.hid hbase
  clear hbase
  go_loopw [6] (fun i wr => ∃ k : Nat, k ≤ n ∧ i = .int .i64 (k : Int) ∧ VaI base w base (vaT l f n k) n wr) (fun i _ => n - (intOf i).toNat)
  case atStart => exact ⟨0, Nat.zero_le _, rfl, PK.out⟩
  case round =>
    obtain ⟨k, hk, rfl, hrel⟩ := hrel
    have T0 := Lib.hid hrel
    clear hrel PK
    by_cases hlt : k < n
    · have hcell : wr.cell? ⟨b, o + k, none⟩ = some (.bool (l.getD k false)) := (T0.out.2.cell_old (by rw [HS.out]; exact hb) _).trans (HC.out k hlt)
      cases hbt : l.getD k false <;> rw [hbt] at hcell
      · have HBB := Lib.hid (vaT_no l f n k hbt)
        clear hbt
        go_wp2_with fail
        go_roundw
        case rel => exact ⟨k + 1, hlt, rfl, by rw [HBB.out]; exact T0.out⟩
        case measure => simp [intOf]; omega
      · have HBB := Lib.hid (vaT_yes l f n k hlt hbt)
        clear hbt
        obtain ⟨a0, a1, a2⟩ := slC_at (vaT l f n k) k (by rw [vaT_len]; exact hlt)
        rw [← T0.out.1.cellAt _ (by omega)] at a0 a1 a2
        have f0 := T0.out.1.frozenAt (k * 3)
        have f1 := T0.out.1.frozenAt (k * 3 + 1)
        have f2 := T0.out.1.frozenAt (k * 3 + 2)
        have T1 := Lib.hid (T0.out.put (by rw [HS.out]; exact Nat.le_refl _) k (BitVec.ofNat 64 18446744073709551615, BitVec.ofNat 64 (f + k), BitVec.ofNat 64 (k % 16)))
        rw [← HBB.out] at T1
        clear T0 HBB
        go_wp2_with fail
        go_roundw
        case rel =>
          refine ⟨k + 1, hlt, rfl, ?_⟩
          have := T1.out
          rw [show n64 (BitVec.ofNat 64 18446744073709551615, BitVec.ofNat 64 (f + k), BitVec.ofNat 64 (k % 16)).1 = 18446744073709551615 by rfl, show n64 (BitVec.ofNat 64 18446744073709551615, BitVec.ofNat 64 (f + k), BitVec.ofNat 64 (k % 16)).2.1 = (f : Int) + (k : Int) by unfold n64; simp; omega, show n64 (BitVec.ofNat 64 18446744073709551615, BitVec.ofNat 64 (f + k), BitVec.ofNat 64 (k % 16)).2.2 = (k : Int) % 16 by unfold n64; simp; omega] at this
          exact this
        case measure => simp [intOf]; omega
    · obtain rfl : k = n := by omega
      go_wp2_with fail
      go_ret
      refine ⟨base, rfl, ?_, T0.out.2⟩
      rw [HS.out]
      exact T0.out.1
end Go.Proofs.Ytedbafgejladiaa

