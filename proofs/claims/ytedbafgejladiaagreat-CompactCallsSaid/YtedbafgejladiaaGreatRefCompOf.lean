import Derived.Test.YtedbafgejladiaaGreatCompOf
import Derived.Test.YtedbafgejladiaaGreatRefComp
import Derived.Test.YtedbafgejladiaaGreatSlOf
/-
  dragnetref25.Of: the specification of Of.
-/
namespace Go.Proofs.YtedbafgejladiaaGreat
open Go.RowKit
set_option linter.unusedVariables false
set_option linter.unusedSimpArgs false
set_option maxRecDepth 100000
theorem nil_ok_some (b o n c : Nat) : NilOk (.slice (some ⟨b, o, none⟩) n c) := fun _ _ h => by cases h
def RCofP (w : World) (L : List Sl) (a b : Nat) (e : Ending) (w' : World) : Prop :=
  ∃ v G, e = .returned (.tuple #[v, .int .i64 (wrap64 (n64 (ofDr L a b))), .int .i64 0]) ∧ Rd w' G 3 v (a + b) (slC (ofLst L a b)) ∧ Off Nob w w'
theorem rwrite_WkR {w0 W : World} {r h n : Nat} {C : List (BitVec 64)} {E : List Ev} {L : List Sl} (c base : Nat) (hl : L.length = n) (hw : WkR w0 Nob W [] r C E) (hz : ckS C.length E.length base n = 0) {W2 : World} (hn : 0 < n)
    (ho : W2.ownsRow W.heap.size 46 3 (.slice (some ⟨h, 0, none⟩) n c) n (slC L)) (o2 : Off Nob W W2) :
    Calls Tryz.prog 24 #[.pointer (some ⟨r, 0, none⟩), .int .i64 (base : Int), .slice (some ⟨h, 0, none⟩) n c] W2 fun e w' => e = .returned (.int .i64 0) ∧ WkR w0 Nob w' [] r (wrS base (sl L) (C, E) n).1 (wrS base (sl L) (C, E) n).2 := by
  obtain ⟨F1, ha, hf, hoo, hl0, hb, hnd⟩ := hw
  have hr := Rd.own ho (F := fun k => k = h) (fun k hk => by injection hk with hk; exact hk.symm)
  obtain ⟨b1, o1, c1, he, hlt, hc⟩ := hr.at_ hn
  injection he with he1 he2 he3
  injection he1 with he1
  injection he1 with e1 e2 e3
  subst e1 e2 he3
  have hF : ¬ F1 h := fun hk => by have := ha.lt _ hk; have := (ho.lt h rfl).1; omega
  refine (rwrite_ok (ha.keep o2 (fun _ _ h => h)) base n h 0 c L hl hlt hF hc hz).mono fun e w' ⟨he, a3, o3⟩ => ⟨he, _, a3, fun k hk => ?_, ?_, hl0, fun x hx => (by cases hx), List.nodup_nil⟩
  · rcases hk with hk | hk
    · exact hf k hk
    · exact .inr (Nat.le_trans hoo.size (Nat.le_trans o2.size hk.1))
  · exact (Off.also hoo o2).own o3 (fun k hk => (hf k hk).elim (fun h => h.elim) id)
set_option maxHeartbeats 4000000 in
theorem rcof_ok {w : World} {F G : Nat → Prop} {v0 v1 : Value} {a b : Nat} {A B : List Sl} (hA : Rd w F 3 v0 a (slC A)) (hB : Rd w G 3 v1 b (slC B)) (h1 : 1 ≤ a) (h2 : a ≤ 32) (h3 : 1 ≤ b) (h4 : b ≤ 256) :
    Calls Tryz.prog 7 #[v0, v1] w (RCofP w (A ++ B) a b) := by
  have lA : A.length = a := by obtain ⟨_, _, _, _, hl, _⟩ := hA; rw [slC_len] at hl; omega
  have lB : B.length = b := by obtain ⟨_, _, _, _, hl, _⟩ := hB; rw [slC_len] at hl; omega
  obtain ⟨is0, his, hsz0, hsz1, hsz2⟩ := info_parts Tryz.infoSl
  have HLL : Hid ((A ++ B).length = a + b) := Lib.hid (by rw [List.length_append, lA, lB])
  have HKA := Lib.hid (fun W (o : Off Nob w W) => hA.keep o (fun k _ h => h))
  have HKB := Lib.hid (fun W (o : Off Nob w W) => hB.keep o (fun k _ h => h))
  obtain ⟨b0, o0, c0, rfl, _⟩ := hA.at_ (by omega)
  obtain ⟨b1, o1, c1, rfl, _⟩ := hB.at_ (by omega)
  have HLDk := ofKK_len (A ++ B) a b h1 h2 h3 h4
  have HQ : Hid (ckS (List.replicate (4 * (a + b) + 2) (0 : BitVec 64)).length ([] : List Ev).length (0 : Nat) (a + b : Nat) = 0) := Lib.hid (ckS_ok (by simp; omega))
  have HRT := Lib.hid (fun w => rright_ok (a : Int) (b : Int) (by omega) w)
  have HNW : Hid (∀ W, Calls Tryz.prog 23 #[.int .i64 (4 * ((a : Int) + (b : Int)) + 2)] W fun e w' => ∃ p, e = .returned (.tuple #[.pointer (some ⟨p, 0, none⟩), .int .i64 0]) ∧ WkR W Nob w' [] p (List.replicate (4 * (a + b) + 2) 0) []) := Lib.hid (fun W => by
    have := rnew_ok (4 * (a + b) + 2) W (by omega) (by omega)
    rw [show ((4 * (a + b) + 2 : Nat) : Int) = 4 * ((a : Int) + (b : Int)) + 2 by push_cast; rfl] at this
    exact this.mono fun e w' ⟨p, he, F, ha, ho, hf⟩ => ⟨p, he, F, ha, fun k hk => .inr (hf k hk), ho, fun k hk => hk.elim, fun x hx => (by cases hx), List.nodup_nil⟩)
  have HCP : Hid (∀ W F p, Rf W F p (ofW (A ++ B) a b).1 (ofW (A ++ B) a b).2 → Calls Tryz.prog 13 #[.pointer (some ⟨p, 0, none⟩), .agg #[.int .i64 0, .int .i64 (3 * ((a : Int) + (b : Int))), .int .i64 (4 * ((a : Int) + (b : Int))), .int .i64 (4 * ((a : Int) + (b : Int)) + 1)], .int .i64 (a : Int), .int .i64 (b : Int)] W fun e w' => e = .returned (.int .i64 0) ∧ RfTo W F p (ofKK (A ++ B) a b).1 (ofKK (A ++ B) a b).2.1 w') := Lib.hid (fun W F p ha => rccompact_ok ha 0 _ _ _ a b (of_ok (A ++ B) a b h1 h2 h3 h4) (of_cpE (A ++ B) a b h1 h2 h3 h4))
  have HLD : Hid (∀ W F p, Rf W F p (ofKK (A ++ B) a b).1 (rdE 0 (ofKK (A ++ B) a b).2.1 (a + b)) → Calls Tryz.prog 26 #[.pointer (some ⟨p, 0, none⟩), .int .i64 (4 * ((a : Int) + (b : Int)))] W fun e w' => e = .returned (.tuple #[.int .u64 (n64 (ofDr (A ++ B) a b)), .int .i64 0]) ∧ RfTo W F p (ofKK (A ++ B) a b).1 (rdE 0 (ofKK (A ++ B) a b).2.1 (a + b) ++ [(1, 4 * (a + b))]) w') := Lib.hid (fun W F p ha => by
    have := rload_ok ha (4 * ((a : Int) + (b : Int))) (by omega) (by omega) (by rw [rdE_len]; omega)
    rwa [show (4 * ((a : Int) + (b : Int))).toNat = 4 * (a + b) by omega] at this)
  have HRD : Hid (∀ W F p, Rf W F p (ofKK (A ++ B) a b).1 (ofKK (A ++ B) a b).2.1 → Calls Tryz.prog 25 #[.pointer (some ⟨p, 0, none⟩), .int .i64 0, .int .i64 ((a : Int) + (b : Int))] W fun e w' => ∃ v, e = .returned (.tuple #[v, .int .i64 0]) ∧ RdI W F p (ofKK (A ++ B) a b).1 (ofKK (A ++ B) a b).2.1 0 (a + b) v w') := Lib.hid (fun W F p ha => by
    have := rread_ok ha 0 (a + b) (ckS_ok (by simp; omega))
    simpa using this)
  clear lA lB hA hB
  go_enter Tryz.func7, Tryz.ntmps7
  go_wp2_with fail
  refine (HRT.out _).mono ?_
  rintro e w' ⟨rfl, rfl⟩
  go_wp2_with fail
  refine (HNW.out _).mono ?_
  rintro e w1 ⟨p, rfl, u1⟩
  have U1 := Lib.hid u1
  have O1 : Hid (Off Nob w w1) := Lib.hid (by obtain ⟨F1, ha, hf, ho, _⟩ := u1; exact ho)
  clear u1
  go_wp2_with (at_builtin; refine wpList_append_rd rfl _ _ 22 rfl w1.heap.size 46 is0 (.agg #[.int .u64 0, .int .u64 0, .int .u64 0]) 3 24 Tryz.underlying22 his hsz0 hsz1 hsz2 rfl (by decide) w1.heap.size 0 0 [] rfl ?c0 _ a (slC A) rfl (HKA.out _ (O1.out.alloc _)) (nil_ok_some _ _ _ _) (slC_one _) ?c3 ?c4 ?c5 ?_)
  case c0 => exact World.ownsRow_made w1 #[] 0 (Nat.le_refl _) (Nat.zero_le _) rfl
  case c3 => unfold maxLen; omega
  case c4 => omega
  case c5 => simp
  intro g1 cap1 w2 ho1 hg1 ha1
  have O2 : Hid (Off Nob w1 w2) := Lib.hid (Off.grown (Off.alloc (Off.refl _ _) _) hg1 (fun k hk => .inr (by injection hk with hk; omega)))
  have W2 := Lib.hid ho1
  clear hg1 ha1 ho1
  go_wp2_with (at_builtin; refine wpList_append_rd rfl _ _ 22 rfl w1.heap.size 46 is0 (.agg #[.int .u64 0, .int .u64 0, .int .u64 0]) 3 24 Tryz.underlying22 his hsz0 hsz1 hsz2 rfl (by decide) g1 a cap1 (slC A) rfl W2.out _ b (slC B) rfl (HKB.out _ (O1.out.also O2.out)) (nil_ok_some _ _ _ _) (slC_one _) ?c3 ?c4 ?c5 ?_)
  case c3 => unfold maxLen; omega
  case c4 => omega
  case c5 => exact O2.out.size
  intro g2 cap2 w3 ho1 hg1 ha1
  have O3 : Hid (Off Nob w1 w3) := Lib.hid (Off.grown O2.out hg1 (fun k hk => .inr (by injection hk with hk; subst hk; exact (W2.out.lt g1 rfl).1)))
  rw [← slC_append] at ho1
  have W3 := Lib.hid ho1
  clear hg1 ha1 ho1 W2
  go_wp2_with fail
  refine Calls.mono (R := fun e w' => e = .returned (.int .i64 0) ∧ WkR w Nob w' [] p (ofW (A ++ B) a b).1 (ofW (A ++ B) a b).2) (rwrite_WkR cap2 0 HLL.out U1.out HQ.out (by omega) W3.out O3.out) ?_
  rintro e w4 ⟨rfl, u4⟩
  have U4 := Lib.hid u4
  clear u4
  go_wp2_with fail
  refine Calls.mono (R := fun e w' => e = .returned (.int .i64 0) ∧ WkR w Nob w' [] p (ofKK (A ++ B) a b).1 (ofKK (A ++ B) a b).2.1) (U4.out.call (fun W F ha => HCP.out W F p ha)) ?_
  rintro e w5 ⟨rfl, u5⟩
  have U5 := Lib.hid u5
  clear u5
  go_wp2_with fail
  obtain ⟨F5, r5, f5, o5, _⟩ := U5.out
  refine (HRD.out _ F5 p r5).mono ?_
  rintro e w6 ⟨v, rfl, hv⟩
  obtain ⟨A6, c6, rfl⟩ := hv.form
  obtain ⟨F6, r6, f6, o6, l6, ow6, n6⟩ := hv
  have g5 : ∀ k, F5 k → w.heap.size ≤ k := fun k hk => (f5 k hk).elim (fun h => h.elim) id
  have R6 := Lib.hid r6
  have RD6 := Lib.hid (Rd.own ow6 (F := fun k => (Value.slice A6 (a + b) c6).ownBlock = some k) (fun k hk => hk))
  have O6 : Hid (Off Nob w w6) := Lib.hid (o5.own o6 g5)
  have N6 : Hid (∀ k, F6 k → w.heap.size ≤ k) := Lib.hid (fun k hk => (f6 k hk).elim (g5 k) (fun h => Nat.le_trans o5.size h))
  have NN6 := Lib.hid n6
  clear r5 f5 o5 r6 f6 o6 l6 ow6 n6 g5
  go_wp2_with fail
  refine (HLD.out _ F6 p R6.out).mono ?_
  rintro e w7 ⟨rfl, r7, o7⟩
  have R7 : Hid (RCofP w (A ++ B) a b (.returned (.tuple #[.slice A6 (a + b) c6, .int .i64 (wrap64 (n64 (ofDr (A ++ B) a b))), .int .i64 0])) w7) := Lib.hid ⟨_, _, rfl, RD6.out.keep o7 (fun k hk => NN6.out k hk), O6.out.own o7 N6.out⟩
  clear r7 o7
  go_wp2_with fail
  exact bodyPost_ret (v := .tuple #[.slice A6 (a + b) c6, .int .i64 (wrap64 (n64 (ofDr (A ++ B) a b))), .int .i64 0]) (by simp [results, Tryz.f7, go_sem]) rfl R7.out
theorem rcof_bad {w : World} {F G : Nat → Prop} {v0 v1 : Value} {a b : Nat} {A B : List Sl} (hA : Rd w F 3 v0 a (slC A)) (hB : Rd w G 3 v1 b (slC B)) (hn : a < 1 ∨ 32 < a ∨ b < 1 ∨ 256 < b) :
    Calls Tryz.prog 7 #[v0, v1] w fun e w' => e = .returned (.tuple #[.slice none 0 0, .int .i64 0, .int .i64 7]) ∧ w = w' := by
  obtain ⟨A0, c0, rfl, ha, _⟩ := hA
  obtain ⟨A1, c1, rfl, hb, _⟩ := hB
  unfold maxLen at ha hb
  have HST := Lib.hid (fun w => rright_bad (a : Int) (b : Int) (by omega) w)
  clear ha hb
  go_enter Tryz.func7, Tryz.ntmps7
  go_wp2_with fail
  refine (HST.out _).mono ?_
  rintro e w' ⟨rfl, rfl⟩
  go_wp2_with fail
  exact bodyPost_ret (v := .tuple #[.slice none 0 0, .int .i64 0, .int .i64 7]) (by simp [results, Tryz.f7, go_sem]) rfl ⟨rfl, rfl⟩
end Go.Proofs.YtedbafgejladiaaGreat

