/-
 ShiftandCuts: Feed of the first bytes, and then of the others, against Feed of all.
-/
import Derived.Test.YtlgjaefcfnndhaaGreatDoorM42
import Derived.Test.YtlgjaefcfnndhaaGreatDoorM43
import Derived.Test.YtlgjaefcfnndhaaGreatDoorM36
import Derived.Test.YtlgjaefcfnndhaaGreatDoorMGoD
import Derived.Deep.Upon
set_option linter.unusedVariables false
set_option linter.unusedSimpArgs false
set_option maxHeartbeats 16000000
set_option maxRecDepth 100000
namespace Go.Proofs.YtlgjaefcfnndhaaGreatDoor
open Go.RowKit Go.Conc Go.Pip Go.Ride
noncomputable def qel : Code := Tryz.f6.body.getD .skip
noncomputable def qgk : Code := match qel with | .seq _ (.seq _ r) => r | _ => .skip
noncomputable def qgl : Code := match qgk with | .seq _ (.seq _ (.seq _ r)) => r | _ => .skip
noncomputable def qik : Code := match qgl with | .seq _ r => r | _ => .skip
noncomputable def qqj : Code := match qik with | .seq _ r => r | _ => .skip
theorem Rd.cut {w : World} {F : Nat → Prop} {A : Option Addr} {n c : Nat} {L : List Nat} (h : Rd w F 1 (.slice A n c) n (qa0 L)) (k m : Nat) (hk : k + m ≤ n) (A2 : Option Addr) (c2 : Nat) (hA : 0 < m → A2 = A.map (·.add k)) : Rd w F 1 (.slice A2 m c2) m (qa0 ((L.drop k).take m)) := by
 obtain ⟨A', c', he, hm, hl, hc⟩ := h
 cases he
 have hl2 : L.length = n := by unfold qa0 at hl; simpa using hl
 refine ⟨_, _, rfl, by omega, by unfold qa0; simp; omega, fun hn => ?_⟩
 obtain ⟨b, o, rfl, hf, hb, hx⟩ := hc (by omega)
 refine ⟨b, o + k, by rw [hA hn, Option.map_some, qam], hf, hb, fun j u hu => ?_⟩
 rw [Nat.add_assoc]
 refine hx (k + j) u ?_
 unfold qa0 at hu ⊢
 rw [List.map_take, List.map_drop] at hu
 have hj : j < m := by
  have := (List.getElem?_eq_some_iff.1 hu).1
  rw [List.length_take] at this
  omega
 rw [List.getElem?_take, if_pos hj, List.getElem?_drop] at hu
 exact hu
theorem qoc (w : World) : (sizeOf (Tryz.prog.elem 45)).run Tryz.prog w = .ok 1 w := by kernel_rfl
theorem qz3 (A : Option Addr) (n c k : Nat) (hk : k ≤ n) (hn : n ≤ c) : ∃ A2, (k ≠ 0 → A2 = A.map (·.add 0)) ∧ ∀ w : World, (Instr.slice 45 (.slice A n c) none (some (.int .i64 (k : Int))) none).run Tryz.prog w = .ok (.slice A2 k c) w := by
 refine ⟨if c = 0 then A else A.map (·.add (0 * 1)), fun h => by rw [if_neg (by omega)], fun w => ?_⟩
 rw [run_slice_h w 45 A n c Tryz.underlying45 .i64 (k : Int) (by omega) (by omega)]
 rw [qoc]
 simp only [Result.andThen, Int.toNat_natCast]
 rfl
theorem qz4 (A : Option Addr) (n c k : Nat) (hk : k ≤ n) (hn : n ≤ c) : ∃ A2, (k < n → A2 = A.map (·.add k)) ∧ ∀ w : World, (Instr.slice 45 (.slice A n c) (some (.int .i64 (k : Int))) none none).run Tryz.prog w = .ok (.slice A2 (n - k) (c - k)) w := by
 refine ⟨if c = k then A else A.map (·.add (k * 1)), fun h => by rw [if_neg (by omega), Nat.mul_one], fun w => ?_⟩
 rw [run_slice_l w 45 A n c Tryz.underlying45 .i64 (k : Int) (by omega) (by omega)]
 rw [qoc]
 simp only [Result.andThen, Int.toNat_natCast]
 rfl
theorem put2_off (V : World) (y : Nat) (a b : Value) : Off (fun j => j = y) V ((V.setCell ⟨y, 0, none⟩ a).setCell ⟨y, 1, none⟩ b) := Off.put (F := fun j => j = y) (Off.put (F := fun j => j = y) oRf (.inl rfl) _) (.inl rfl) _
section
variable {P : Program} {F : Goroutine → World → Prop} {ops : Array Oper} {md : Region.Mode} {S : World → Prop} {b : Frame} {k : List Item} {cs : List Frame}
theorem qod {fuel : Nat} {listed : Array Bool} {a : Act} {w : World} (i j : Nat) (hr : Region.ready md ops listed = [i, j])
  (hi : gOp P ops i (fun a' w' => S w' ∧ gAny P F md ops b k cs S fuel (listed.setIfInBounds i true) a' w') a w) (hj : gOp P ops j (fun a' w' => S w' ∧ gAny P F md ops b k cs S fuel (listed.setIfInBounds j true) a' w') a w) : gAny P F md ops b k cs S (fuel + 1) listed a w :=
 ⟨fun h0 => absurd (hr ▸ h0) (by simp), fun x hx => by
  rw [hr] at hx
  rcases List.mem_cons.1 hx with rfl | hx
  ·exact hi
  ·obtain rfl := List.mem_singleton.1 hx
   exact hj⟩
theorem qb2 {fuel : Nat} {listed : Array Bool} {a : Act} {w : World} (i : Nat) (hr : Region.ready md ops listed = [i])
  (hi : gOp P ops i (fun a' w' => S w' ∧ gAny P F md ops b k cs S fuel (listed.setIfInBounds i true) a' w') a w) : gAny P F md ops b k cs S (fuel + 1) listed a w :=
 ⟨fun h0 => absurd (hr ▸ h0) (by simp), fun x hx => by
  rw [hr] at hx
  obtain rfl := List.mem_singleton.1 hx
  exact hi⟩
theorem qg9 {i : Nat} {a : Act} {w : World} {K : Act → World → Prop} {o : Oper} {f : FuncId} {args : Array Value} {R : Value → World → Prop} (hc : CallsG P f args w R) (ho : ops[i]? = some o) (hw : Region.wanted o (yielded ops a.tmps) = true)
  (he : ∀ V, (execOp a.eval o).run P V = .ok (.enter f args) V) (h : ∀ v w2, R v w2 → ∀ V, SameW w2 V → K (a.put o.dst v) V) : gOp P ops i K a w := .inr ⟨o, f, args, R, ho, hw, he, hc, h⟩
theorem qem {i : Nat} {a : Act} {w : World} {K : Act → World → Prop} {o : Oper} (ho : ops[i]? = some o)
  (h : ∀ K' : Act → World → Prop, Shut (∀ a w, K a w → K' a w) → if Region.wanted o (yielded ops a.tmps) = true then Oper.wp P o a w K' (QN fun _ _ => False) else K' (a.put o.dst undef) w) : gOp P ops i K a w := .inl (wpOp_step ho h)
theorem qkl (ps : List (Int × Int)) : ∀ y ∈ qas ps, y.oneCell' = true := by
 intro y hy
 unfold qas at hy
 obtain ⟨p, _, h⟩ := List.mem_flatMap.1 hy
 simp only [List.mem_cons, List.mem_nil_iff, or_false] at h
 rcases h with rfl | rfl <;> rfl
theorem qmm (a b : List (Int × Int)) : qas (a ++ b) = qas a ++ qas b := by simp [qas]
theorem qoe {F : Nat → Prop} (w : World) (base : Nat) {v u : Value} {n m : Nat} {xs news : List Value} (oW : w.ownsRow base 85 2 v n xs) (hu : Rd w F 2 u m news) (h1 : ∀ y ∈ news, y.oneCell' = true) (hb : n + m ≤ 1000000) (hbase : base ≤ w.heap.size) :
  ∃ v' w', (Builtin.append_ #[46, 46] 46 #[v, u]).run Tryz.prog w = .ok v' w' ∧ w'.ownsRow base 85 2 v' (n + m) (xs ++ news) ∧ w.grownBy w' v.ownBlock := by
 obtain ⟨i_h, h_h, z_h, s_h, b_h⟩ := info_parts Tryz.infoH
 obtain ⟨A, c, rfl, hm, hl, hc⟩ := hu
 cases A with
 | some ad =>
  obtain ⟨v', w', h2, h3, h4, _⟩ := run_append_own_at (P := Tryz.prog) w base 46 46 85 i_h zHit 2 16 Tryz.underlying46 h_h z_h s_h b_h rfl (by decide) v n xs oW ad m c news hl (fun j y hy => by
   have hm0 : 0 < m := by
    have := (List.getElem?_eq_some_iff.1 hy).1
    omega
   obtain ⟨b, o, he, _, _, hx⟩ := hc hm0
   injection he with he
   subst he
   rw [qam]
   exact hx j y hy) h1 (by unfold maxLen; omega) (by omega) hbase
  exact ⟨v', w', h2, h3, h4⟩
 | none =>
  have hm0 : m = 0 := by
   rcases Nat.eq_zero_or_pos m with h | h
   ·exact h
   ·obtain ⟨b, o, he, _⟩ := hc h
    cases he
  subst hm0
  have hn : news = [] := List.eq_nil_of_length_eq_zero (by omega)
  subst hn
  obtain ⟨A, k, rfl, hnk⟩ : ∃ A k, v = .slice A n k ∧ n ≤ k := by
   rcases oW.2 with ⟨rfl, rfl⟩ | ⟨g, cap, cur, rfl, _, _, hle, _⟩
   ·exact ⟨none, 0, rfl, Nat.le_refl _⟩
   ·exact ⟨_, _, rfl, hle⟩
  refine ⟨_, w, run_append_nothing (P := Tryz.prog) w 46 46 46 85 i_h Tryz.underlying46 h_h A n k hnk (.slice none 0 c) ⟨.inl ⟨_, Tryz.underlying46⟩, fun w' => by simp [Builtin.lenOf], by simp [Builtin.firstCells], by simp [Builtin.firstCells], by simp, fun _ h => by cases h⟩, by simpa using oW, ⟨rfl, rfl, rfl, Nat.le_refl _, fun _ _ _ => rfl⟩⟩
theorem qkm {Q : Exit → Act → World → Prop} {rest : List Oper} {o : Oper} {a : Act} (w : World) (hw : Region.wanted o (yielded ops a.tmps) = true) (s x : Operand) (t : TypeId) (ho : o.op = .call { callee := .builtin .append, args := #[s, x], argTypes := #[t, t] }) {vs vx : Value} (hs : a.eval s = vs) (hx : a.eval x = vx) {v' : Value} {w' : World}
  (hr : (Builtin.append_ #[t, t] o.type #[vs, vx]).run P w = .ok v' w') (h : wpList P ops Q rest (a.put o.dst v') w') : wpList P ops Q (o :: rest) a w := by
 unfold wpList
 rw [if_pos hw]
 exact .inl (Lib.wp_append_run w s x t t ho vs vx hs hx v' w' hr h)
end
theorem cuts9 {w w1 : World} (hZ : TzT w1) (hl0 : Lies w w1) {sB xB : Nat} {AI AT AS AF AX bp : Option Addr} {ci ct cs cf cx bcap L k W : Nat} {ids : List Int} {wd : Int} {T S F : List Nat} {cut : Int} {Y Z : List Nat} {az : Int} {ps qs : List (Int × Int)} {A1 A2 : Option Addr} {n2 c2 : Nat} (hs : Blk w1 sB 25 #[.slice AI ids.length ci, .int .i64 wd, .slice AT T.length ct, .slice AS S.length cs, .slice AF F.length cf]) (hx : Blk w1 xB 27 #[.slice AX W cx, .int .i64 0]) (hZl : Z.length ≤ 4096) (hpq : ps.length + qs.length ≤ 1000000) {b : Frame} (hbf : b.fn = 6) (hbn : b.kind = .normal) (HF3 : ∀ V, Lies w1 V → CallsG Tryz.prog 24 #[.agg #[.slice AI ids.length ci, .int .i64 wd, .slice AT T.length ct, .slice AS S.length cs, .slice AF F.length cf], .agg #[.slice AX W cx, .int .i64 0], .slice bp L bcap] V (qc6 V Z az (ps ++ qs) 0)) {W1 : World} {yB zB : Nat} {VP VQ : Value} {AZ : Option Addr} {nz cz : Nat} (hl1 : Lies w1 W1) (hz : Blk W1 zB 27 #[.slice AZ nz cz, .int .i64 az]) (hzr : Rd W1 (fun _ => True) 1 (.slice AZ nz cz) nz (qab Z)) (hnz : Z.length = nz) (hpr : Rd W1 (fun _ => True) 2 VP ps.length (qas ps)) (hqr : Rd W1 (fun _ => True) 2 VQ qs.length (qas qs)) (u18 u19 u20 u21 u22 u23 u24 u25 u26 u27 u28 u29 u30 u31 u32 u33 u34 u35 u36 u37 u38 u39 u40 u41 u42 u43 u44 u45 u46 u47 u48 u49 u50 u51 u52 u53 u54 u55 u56 u57 u58 u59 : Value) :
  Go0 Tryz.prog (AtRet Tryz.prog (fun v w' => v = .bool true ∧ Lies w w')) (G (b.at ⟨#[.agg #[.slice AI ids.length ci, .int .i64 wd, .slice AT T.length ct, .slice AS S.length cs, .slice AF F.length cf], .slice bp L bcap, .int .u8 cut, .pointer (some ⟨sB, 0, none⟩), undef, undef, .bool false, .pointer (some ⟨xB, 0, none⟩), .int .i64 0, .int .i64 (k : Int), .pointer (some ⟨yB, 0, none⟩), VP, .pointer (some ⟨zB, 0, none⟩), VQ, .int .i64 0, undef, undef, undef, u18, u19, u20, u21, u22, u23, u24, u25, u26, u27, u28, u29, u30, u31, u32, u33, u34, u35, u36, u37, u38, u39, u40, u41, u42, u43, u44, u45, u46, u47, u48, u49, u50, u51, u52, u53, u54, u55, u56, u57, u58, u59, undef, undef, undef, undef, undef, undef, undef, undef, undef, undef, undef, undef, undef, undef, undef, undef, undef, undef, undef, undef, undef, undef, undef, undef, undef, undef, undef, undef, undef, undef, undef, undef, undef, undef, undef], []⟩ [.code qqj]) []) W1 := by
 obtain ⟨AP, cp, rfl, -⟩ := hpr.form
 obtain ⟨AQ, cq, rfl, -⟩ := hqr.form
 have HS := hID (hl1.blk hs)
 have HX := hID (hl1.blk hx)
 have HZB := hID hz
 have HZR := hID hzr
 have HPR := hID hpr
 have HQR := hID hqr
 have HL := hID hl1
 have HL0 := hID hl0
 have HTZ := hID hZ
 have HZL := hID hZl
 have HPQ := hID hpq
 have HF := hID HF3
 clear hs hx hz hzr hpr hqr hl1 hl0 hZ hZl hpq HF3
 obtain ⟨np, hnp⟩ : ∃ np, ps.length = np := ⟨_, rfl⟩
 obtain ⟨nq, hnq⟩ : ∃ nq, qs.length = nq := ⟨_, rfl⟩
 have HN := hID (And.intro hnp (And.intro hnq hnz))
 rw [hnp] at HPR
 rw [hnq] at HQR
 rw [hnp, hnq] at HPQ
 rw [hnp, hnq]
 clear hnp hnq hnz
 simp only [qqj, qik, qgl, qgk, qel, Tryz.f6, Option.getD_some]
 -- Feed of all
 refine Go0.seq mild (Go0.region_call mild [_, _, _] _ _ rfl fun Q hQ V2 hV => ?_)
 have l := Lies.same hV
 have HL4 := hID (HL.out.trans l)
 have c0 := (l.blk HS.out).cell 0
 have c1 := (l.blk HS.out).cell 1
 have c2 := (l.blk HS.out).cell 2
 have c3 := (l.blk HS.out).cell 3
 have c4 := (l.blk HS.out).cell 4
 have x0 := (l.blk HX.out).cell 0
 have x1 := (l.blk HX.out).cell 1
 have HZ4 := hID (l.blk HZB.out)
 have HR4 := hID (l.rd HZR.out)
 have HP4 := hID (l.rd HPR.out)
 have HQ4 := hID (l.rd HQR.out)
 have HQ := hID hQ
 clear hQ hV l HL HS HX HZB HZR HPR HQR W1
 go_wp2_with fail
 refine HQ.out _ _ ⟨by rfl, _, _, _, fun V => ?_, HF.out _ HL4.out, ?_⟩
 ·simp [go_sem]
 clear HQ
 rintro v w5 ⟨u, out, rfl, hu, hout, l5⟩ Q hQ V5 hV
 obtain ⟨Au, cu, rfl, -⟩ := hu.form
 obtain ⟨Ao, co, rfl, -⟩ := hout.form
 have l := l5.trans (Lies.same hV)
 have HL5 := hID (HL4.out.trans l)
 have HZ5 := hID (l.blk HZ4.out)
 have HR5 := hID (l.rd HR4.out)
 have HP5 := hID (l.rd HP4.out)
 have HQ5 := hID (l.rd HQ4.out)
 have HU5 := hID ((Lies.same hV).rd hu.any)
 have HO5 := hID ((Lies.same hV).rd hout.any)
 have HQ := hID hQ
 clear hu hout l5 hV hQ l c0 c1 c2 c3 c4 x0 x1 HL4 HZ4 HR4 HP4 HQ4 HF
 rw [List.length_append, HN.out.1, HN.out.2.1] at HO5 ⊢
 rw [HN.out.2.2] at HU5 ⊢
 go_wp2_with fail
 refine HQ.out _ _ ?_
 clear HQ
 have la := (Lies.refl V5).alloc (.cells #[.slice Au nz cu, .int .i64 az] 27)
 have HL := hID (HL5.out.trans la)
 have HZB := hID (la.blk HZ5.out)
 have HZR := hID (la.rd HR5.out)
 have HPR := hID (la.rd HP5.out)
 have HQR := hID (la.rd HQ5.out)
 have HUR := hID (la.rd HU5.out)
 have HOR := hID (la.rd HO5.out)
 have HUB := hID (Blk.new V5 27 #[.slice Au nz cu, .int .i64 az])
 clear la HL5 HZ5 HR5 HP5 HQ5 HU5 HO5
 revert HL HZB HZR HPR HQR HUR HOR HUB
 generalize V5.heap.size = wB
 generalize V5.alloc _ = W6
 intro HL HZB HZR HPR HQR HUR HOR HUB
 -- they are the same; the examples
 refine Go0.seq mild (Go0.region_call mild [_, _, _, _, _, _, _, _, _, _, _, _, _, _, _, _, _, _, _, _, _, _, _, _, _] _ _ rfl fun Q hQ V2 hV => ?_)
 have l := Lies.same hV
 have HL4 := hID (HL.out.trans l)
 have HSA := hID (qyk Z HZL.out az V2 _ _ (by rw [HN.out.2.2]; exact l.rd HZR.out) (by rw [HN.out.2.2]; exact l.rd HUR.out))
 have z0 := (l.blk HZB.out).cell 0
 have z1 := (l.blk HZB.out).cell 1
 have y0 := (l.blk HUB.out).cell 0
 have y1 := (l.blk HUB.out).cell 1
 have HP4 := hID (l.rd HPR.out)
 have HQ4 := hID (l.rd HQR.out)
 have HO4 := hID (l.rd HOR.out)
 have HQ := hID hQ
 clear hQ hV l HL HZB HZR HPR HQR HUR HOR HUB W6
 go_wp2_with fail
 refine HSA.out.mono ?_
 rintro e w5 ⟨rfl, o1⟩
 have l := Lies.of' o1
 have HL5 := hID (HL4.out.trans l)
 have HP5 := hID (l.rd HP4.out)
 have HQ5 := hID (l.rd HQ4.out)
 have HO5 := hID (l.rd HO4.out)
 clear o1 l z0 z1 y0 y1 HSA HL4 HP4 HQ4 HO4
 have o6 := Off.alloc (Off.refl Nob w5) (.cells #[] 85)
 obtain ⟨v7, w7, r7, own7, g7⟩ := qoe (w5.alloc (.cells #[] 85)) w5.heap.size (World.ownsRow_made w5 #[] 0 (Nat.le_refl _) (by decide) rfl) ((Lies.of' o6).rd HP5.out) (qkl ps) (by have := HPQ.out; omega) o6.size
 have o7 : Off Nob w5 w7 := Off.grown o6 g7 (fun k hk => by injection hk with hk; rw [← hk]; exact .inr (Nat.le_refl _))
 obtain ⟨v8, w8, r8, own8, g8⟩ := qoe w7 w5.heap.size own7 ((Lies.of' o7).rd HQ5.out) (qkl qs) (by have := HPQ.out; omega) o7.size
 have o8 : Off Nob w5 w8 := Off.grown o7 g8 (fun k hk => .inr (own7.lt k hk).1)
 rw [Nat.zero_add, List.nil_append] at own8
 have HR7 := hID r7
 have HR8 := hID r8
 have HSH := hID (qn7 (ps ++ qs) (by rw [List.length_append, HN.out.1, HN.out.2.1]; exact HPQ.out) w8 v8 (.slice Ao (np + nq) co) (by rw [List.length_append, HN.out.1, HN.out.2.1, qmm]; exact Rd.own own8 (fun _ _ => trivial)) (by rw [List.length_append, HN.out.1, HN.out.2.1]; exact (Lies.of' o8).rd HO5.out))
 have HL8 := hID (HL5.out.trans (Lies.of' o8))
 clear r7 r8 own7 own8 g7 g8 o6 o7 o8 HP5 HQ5 HO5 HL5
 go_wp2_with (first | (at_builtin; refine qkm _ (by rfl) _ _ _ rfl rfl rfl HR7.out ?_) | (at_builtin; refine qkm _ (by rfl) _ _ _ rfl rfl rfl HR8.out ?_) | fail)
 refine HSH.out.mono ?_
 rintro e w9 ⟨rfl, o1⟩
 have HL10 := hID (HL8.out.trans (Lies.of' o1))
 clear o1 HSH HL8 HR7 HR8
 go_wp2_with fail
 refine HQ.out _ _ ⟨by rfl, _, _, _, fun V => ?_, qlg _ (HL10.out.tz HTZ.out), ?_⟩
 ·simp [go_sem]
 clear HQ
 rintro v w7 ⟨rfl, l5⟩ Q hQ V5 hV
 have HL11 := hID ((HL10.out.trans l5).trans (Lies.same hV))
 have HQ := hID hQ
 clear hQ hV l5
 go_wp2_with fail
 refine HQ.out _ _ ?_
 refine Go0.ret mild ?_
 exact qlh hbn rfl (by rw [hbf]; exact Tryz.func6) (by rw [hbf]; kernel_rfl) rfl rfl (HL0.out.trans HL11.out)
theorem cuts8 {w w1 : World} (hZ : TzT w1) (hl0 : Lies w w1) {sB xB : Nat} {AI AT AS AF AX bp : Option Addr} {ci ct cs cf cx bcap L k W : Nat} {ids : List Int} {wd : Int} {T S F : List Nat} {cut : Int} {Y Z : List Nat} {az : Int} {ps qs : List (Int × Int)} {A1 A2 : Option Addr} {n2 c2 : Nat} (hs : Blk w1 sB 25 #[.slice AI ids.length ci, .int .i64 wd, .slice AT T.length ct, .slice AS S.length cs, .slice AF F.length cf]) (hx : Blk w1 xB 27 #[.slice AX W cx, .int .i64 0]) (hZl : Z.length ≤ 4096) (hpq : ps.length + qs.length ≤ 1000000) {b : Frame} (hbf : b.fn = 6) (hbn : b.kind = .normal) (HF2 : ∀ V u, Lies w1 V → Rd V (fun _ => True) 1 u Y.length (qab Y) → CallsG Tryz.prog 24 #[.agg #[.slice AI ids.length ci, .int .i64 wd, .slice AT T.length ct, .slice AS S.length cs, .slice AF F.length cf], .agg #[u, .int .i64 (k : Int)], .slice A2 n2 c2] V (qc6 V Z az qs 0)) (HF3 : ∀ V, Lies w1 V → CallsG Tryz.prog 24 #[.agg #[.slice AI ids.length ci, .int .i64 wd, .slice AT T.length ct, .slice AS S.length cs, .slice AF F.length cf], .agg #[.slice AX W cx, .int .i64 0], .slice bp L bcap] V (qc6 V Z az (ps ++ qs) 0)) (hsl2 : ∀ w : World, (Instr.slice 45 (.slice bp L bcap) (some (.int .i64 (k : Int))) none none).run Tryz.prog w = .ok (.slice A2 n2 c2) w) {W1 : World} {yB : Nat} {VP : Value} {AY : Option Addr} {ny cy : Nat} (hy : Blk W1 yB 27 #[.slice AY ny cy, .int .i64 (k : Int)]) (hyr : Rd W1 (fun _ => True) 1 (.slice AY ny cy) ny (qab Y)) (hny : Y.length = ny) (hpr : Rd W1 (fun _ => True) 2 VP ps.length (qas ps)) (hl1 : Lies w1 W1) (u18 u19 u20 u21 u22 u23 u24 u25 u26 u27 u28 u29 u30 u31 u32 u33 u34 u35 u36 u37 u38 u39 u40 u41 u42 u43 u44 u45 u46 u47 u48 u49 : Value) :
  Go0 Tryz.prog (AtRet Tryz.prog (fun v w' => v = .bool true ∧ Lies w w')) (G (b.at ⟨#[.agg #[.slice AI ids.length ci, .int .i64 wd, .slice AT T.length ct, .slice AS S.length cs, .slice AF F.length cf], .slice bp L bcap, .int .u8 cut, .pointer (some ⟨sB, 0, none⟩), undef, undef, .bool false, .pointer (some ⟨xB, 0, none⟩), .int .i64 0, .int .i64 (k : Int), .pointer (some ⟨yB, 0, none⟩), VP, undef, undef, undef, undef, undef, undef, u18, u19, u20, u21, u22, u23, u24, u25, u26, u27, u28, u29, u30, u31, u32, u33, u34, u35, u36, u37, u38, u39, u40, u41, u42, u43, u44, u45, u46, u47, u48, u49, undef, undef, undef, undef, undef, undef, undef, undef, undef, undef, undef, undef, undef, undef, undef, undef, undef, undef, undef, undef, undef, undef, undef, undef, undef, undef, undef, undef, undef, undef, undef, undef, undef, undef, undef, undef, undef, undef, undef, undef, undef, undef, undef, undef, undef], []⟩ [.code qik]) []) W1 := by
 have HSB := hID hs
 have HXB := hID hx
 have HTZ := hID hZ
 have HL00 := hID hl0
 have HZL := hID hZl
 have HPQ := hID hpq
 skip
 have HF2 := hID HF2
 have HF3 := hID HF3
 have HLW := hID hl1
 have HYB := hID hy
 have HYR := hID hyr
 have HPR := hID hpr
 obtain ⟨nz, hnz⟩ : ∃ nz, Z.length = nz := ⟨_, rfl⟩
 have HN := hID (And.intro hny hnz)
 clear hy hyr hpr hny hnz
 clear hs hx hZ hl0 hZl hpq hl1
 simp only [qik, qgl, qgk, qel, Tryz.f6, Option.getD_some]
 refine Go0.seq mild (Go0.region_any mild (S := fun Wq => (Wq.cell? ⟨sB, 0, none⟩ = some (.slice AI ids.length ci) ∧ Wq.cell? ⟨sB, 1, none⟩ = some (.int .i64 wd) ∧ Wq.cell? ⟨sB, 2, none⟩ = some (.slice AT T.length ct) ∧ Wq.cell? ⟨sB, 3, none⟩ = some (.slice AS S.length cs) ∧ Wq.cell? ⟨sB, 4, none⟩ = some (.slice AF F.length cf)) ∧ Wq.cell? ⟨yB, 0, none⟩ = some (.slice AY ny cy) ∧ Wq.cell? ⟨yB, 1, none⟩ = some (.int .i64 (k : Int))) (by kernel_rfl) fun V1 hV => ?_)
 have l := Lies.same hV
 have HL1 := hID (HLW.out.trans l)
 have HB1 := hID (l.blk HYB.out)
 have HR1 := hID (l.rd HYR.out)
 have HP1 := hID (l.rd HPR.out)
 have hHeld : (fun Wq => (Wq.cell? ⟨sB, 0, none⟩ = some (.slice AI ids.length ci) ∧ Wq.cell? ⟨sB, 1, none⟩ = some (.int .i64 wd) ∧ Wq.cell? ⟨sB, 2, none⟩ = some (.slice AT T.length ct) ∧ Wq.cell? ⟨sB, 3, none⟩ = some (.slice AS S.length cs) ∧ Wq.cell? ⟨sB, 4, none⟩ = some (.slice AF F.length cf)) ∧ Wq.cell? ⟨yB, 0, none⟩ = some (.slice AY ny cy) ∧ Wq.cell? ⟨yB, 1, none⟩ = some (.int .i64 (k : Int))) V1 := ⟨⟨(HL1.out.blk HSB.out).cell 0, (HL1.out.blk HSB.out).cell 1, (HL1.out.blk HSB.out).cell 2, (HL1.out.blk HSB.out).cell 3, (HL1.out.blk HSB.out).cell 4⟩, HB1.out.cell 0, HB1.out.cell 1⟩
 refine ⟨hHeld, ?_⟩
 clear hV l HLW HYB HYR HPR W1
 try simp only [Act.put, qL]
 refine tkG 0 ?_
 try simp only [Act.put, qL]
 refine tkG 1 ?_
 try simp only [Act.put, qL]
 refine tkG 2 ?_
 try simp only [Act.put, qL]
 refine tkG 3 ?_
 try simp only [Act.put, qL]
 refine tkG 4 ?_
 try simp only [Act.put, qL]
 refine qod 5 10 (by kernel_rfl) ?_ ?_
 ·refine qg9 (HF2.out V1 (.slice AY ny cy) HL1.out (by rw [HN.out.1]; exact HR1.out)) rfl rfl (fun V => ?_) ?_
  ·simp [go_sem]
  rintro v w5 ⟨u, out, rfl, hu, hout, l5⟩ V5 hV5
  obtain ⟨Au, cu, rfl, -⟩ := hu.form
  obtain ⟨Ao, co, rfl, -⟩ := hout.form
  have l := l5.trans (Lies.same hV5)
  have HL5 := hID (HL1.out.trans l)
  have HB5 := hID (l.blk HB1.out)
  have HP5 := hID (l.rd HP1.out)
  have HU5 := hID ((Lies.same hV5).rd hu.any)
  have HO5 := hID ((Lies.same hV5).rd hout.any)
  clear hHeld
  have hHeld : (fun Wq => (Wq.cell? ⟨sB, 0, none⟩ = some (.slice AI ids.length ci) ∧ Wq.cell? ⟨sB, 1, none⟩ = some (.int .i64 wd) ∧ Wq.cell? ⟨sB, 2, none⟩ = some (.slice AT T.length ct) ∧ Wq.cell? ⟨sB, 3, none⟩ = some (.slice AS S.length cs) ∧ Wq.cell? ⟨sB, 4, none⟩ = some (.slice AF F.length cf)) ∧ Wq.cell? ⟨yB, 0, none⟩ = some (.slice AY ny cy) ∧ Wq.cell? ⟨yB, 1, none⟩ = some (.int .i64 (k : Int))) V5 := ⟨⟨(HL5.out.blk HSB.out).cell 0, (HL5.out.blk HSB.out).cell 1, (HL5.out.blk HSB.out).cell 2, (HL5.out.blk HSB.out).cell 3, (HL5.out.blk HSB.out).cell 4⟩, HB5.out.cell 0, HB5.out.cell 1⟩
  refine ⟨hHeld, ?_⟩
  clear hu hout l5 hV5 l w5 HL1 HB1 HR1 HP1
  rw [HN.out.2]
  rw [HN.out.2] at HU5
  try simp only [Act.put, qL]
  refine tkG 6 ?_
  try simp only [Act.put, qL]
  refine tkG 7 ?_
  try simp only [Act.put, qL]
  refine tkG 8 ?_
  try simp only [Act.put, qL]
  refine tkG 9 ?_
  try simp only [Act.put, qL]
  refine qb2 10 (by kernel_rfl) (qem rfl fun K hK => ?_)
  have HK := hID hK
  clear hK
  go_simp
  have la := (Lies.refl V5).alloc (.cells #[.slice none 0 0, .int .i64 0] 27)
  have HL6 := hID (HL5.out.trans la)
  have HB6 := hID (la.blk HB5.out)
  have HNB := hID (Blk.new V5 27 #[.slice none 0 0, .int .i64 0])
  have HU6 := hID (la.rd (HU5.out.below.mono (G := (fun k => k ≠ V5.heap.size)) (fun k hk => by omega)))
  have HO6 := hID (la.rd (HO5.out.below.mono (G := (fun k => k ≠ V5.heap.size)) (fun k hk => by omega)))
  have HP6 := hID (la.rd (HP5.out.below.mono (G := (fun k => k ≠ V5.heap.size)) (fun k hk => by omega)))
  have HNL : Hid (w1.heap.size ≤ V5.heap.size) := hID HL5.out.size
  have HNE : Hid (yB ≠ V5.heap.size) := hID (Nat.ne_of_lt HB5.out.lt)
  clear la hHeld HL5 HB5 HU5 HO5 HP5
  revert HL6 HB6 HNB HU6 HO6 HNL HNE HP6 HK
  generalize V5.heap.size = zB
  generalize V5.alloc _ = V6
  intro HK HL6 HB6 HNB HU6 HO6 HP6 HNL HNE
  have hHeld : (fun Wq => (Wq.cell? ⟨sB, 0, none⟩ = some (.slice AI ids.length ci) ∧ Wq.cell? ⟨sB, 1, none⟩ = some (.int .i64 wd) ∧ Wq.cell? ⟨sB, 2, none⟩ = some (.slice AT T.length ct) ∧ Wq.cell? ⟨sB, 3, none⟩ = some (.slice AS S.length cs) ∧ Wq.cell? ⟨sB, 4, none⟩ = some (.slice AF F.length cf)) ∧ Wq.cell? ⟨yB, 0, none⟩ = some (.slice AY ny cy) ∧ Wq.cell? ⟨yB, 1, none⟩ = some (.int .i64 (k : Int))) V6 := ⟨⟨(HL6.out.blk HSB.out).cell 0, (HL6.out.blk HSB.out).cell 1, (HL6.out.blk HSB.out).cell 2, (HL6.out.blk HSB.out).cell 3, (HL6.out.blk HSB.out).cell 4⟩, HB6.out.cell 0, HB6.out.cell 1⟩
  refine HK.out.out _ _ ⟨hHeld, ?_⟩
  clear HK K
  try simp only [Act.put, qL]
  refine qb2 11 (by kernel_rfl) (qem rfl fun K hK => ?_)
  have HK := hID hK
  clear hK
  have z0 := HNB.out.cell 0
  have z1 := HNB.out.cell 1
  have f0 := HNB.out.frozen 0
  have f1 := HNB.out.frozen 1
  go_simp
  clear z0 z1 f0 f1
  have HL9 : Hid (Lies w1 ((V6.setCell ⟨zB, 0, none⟩ (.slice Au nz cu)).setCell ⟨zB, 1, none⟩ (.int .i64 az))) := hID ((HL6.out.put (p := ⟨zB, 0, none⟩) HNL.out _).put (p := ⟨zB, 1, none⟩) HNL.out _)
  have HN9 : Hid (Blk ((V6.setCell ⟨zB, 0, none⟩ (.slice Au nz cu)).setCell ⟨zB, 1, none⟩ (.int .i64 az)) zB 27 #[.slice Au nz cu, .int .i64 az]) := hID ((HNB.out.put 0 _).put 1 _)
  have HB9 : Hid (Blk ((V6.setCell ⟨zB, 0, none⟩ (.slice Au nz cu)).setCell ⟨zB, 1, none⟩ (.int .i64 az)) yB 27 #[(.slice AY ny cy), (.int .i64 (k : Int))]) := hID ((HB6.out.far HNE.out _).far HNE.out _)
  have HU9 := hID ((HU6.out.keep (put2_off V6 zB (.slice Au nz cu) (.int .i64 az)) (fun k hk he => hk he)).any)
  have HO9 := hID ((HO6.out.keep (put2_off V6 zB (.slice Au nz cu) (.int .i64 az)) (fun k hk he => hk he)).any)
  have HP9 := hID ((HP6.out.keep (put2_off V6 zB (.slice Au nz cu) (.int .i64 az)) (fun k hk he => hk he)).any)
  clear hHeld
  have hHeld : (fun Wq => (Wq.cell? ⟨sB, 0, none⟩ = some (.slice AI ids.length ci) ∧ Wq.cell? ⟨sB, 1, none⟩ = some (.int .i64 wd) ∧ Wq.cell? ⟨sB, 2, none⟩ = some (.slice AT T.length ct) ∧ Wq.cell? ⟨sB, 3, none⟩ = some (.slice AS S.length cs) ∧ Wq.cell? ⟨sB, 4, none⟩ = some (.slice AF F.length cf)) ∧ Wq.cell? ⟨yB, 0, none⟩ = some (.slice AY ny cy) ∧ Wq.cell? ⟨yB, 1, none⟩ = some (.int .i64 (k : Int))) ((V6.setCell ⟨zB, 0, none⟩ (.slice Au nz cu)).setCell ⟨zB, 1, none⟩ (.int .i64 az)) := ⟨⟨(HL9.out.blk HSB.out).cell 0, (HL9.out.blk HSB.out).cell 1, (HL9.out.blk HSB.out).cell 2, (HL9.out.blk HSB.out).cell 3, (HL9.out.blk HSB.out).cell 4⟩, HB9.out.cell 0, HB9.out.cell 1⟩
  refine HK.out.out _ _ ⟨hHeld, ?_⟩
  clear HK K HL6 HB6 HU6 HO6 HNB HP6
  try simp only [Act.put, qL]
  refine tkG 12 ?_
  try simp only [Act.put, qL]
  refine tkG 13 ?_
  try simp only [Act.put, qL]
  refine gAny_done (by kernel_rfl) ?_
  exact cuts9 (Y := Y) (A1 := none) (A2 := none) (n2 := 0) (c2 := 0) HTZ.out HL00.out HSB.out HXB.out HZL.out HPQ.out hbf hbn HF3.out HL9.out HN9.out HU9.out HN.out.2 HP9.out HO9.out _ _ _ _ _ _ _ _ _ _ _ _ _ _ _ _ _ _ _ _ _ _ _ _ _ _ _ _ _ _ _ _ _ _ _ _ _ _ _ _ _ _
 ·refine qem rfl fun K hK => ?_
  have HK := hID hK
  clear hK
  go_simp
  have la := (Lies.refl V1).alloc (.cells #[.slice none 0 0, .int .i64 0] 27)
  have HL3 := hID (HL1.out.trans la)
  have HB3 := hID (la.blk HB1.out)
  have HR3 := hID (la.rd HR1.out)
  have HNB3 := hID (Blk.new V1 27 #[.slice none 0 0, .int .i64 0])
  have HP3 := hID (la.rd (HP1.out.below.mono (G := (fun k => k ≠ V1.heap.size)) (fun k hk => by omega)))
  have HNL : Hid (w1.heap.size ≤ V1.heap.size) := hID HL1.out.size
  have HNE : Hid (yB ≠ V1.heap.size) := hID (Nat.ne_of_lt HB1.out.lt)
  clear la hHeld HL1 HB1 HR1 HP1
  revert HL3 HB3 HNB3 HR3 HNL HNE HP3 HK
  generalize V1.heap.size = zB
  generalize V1.alloc _ = V3
  intro HK HL3 HB3 HR3 HNB3 HP3 HNL HNE
  have hHeld : (fun Wq => (Wq.cell? ⟨sB, 0, none⟩ = some (.slice AI ids.length ci) ∧ Wq.cell? ⟨sB, 1, none⟩ = some (.int .i64 wd) ∧ Wq.cell? ⟨sB, 2, none⟩ = some (.slice AT T.length ct) ∧ Wq.cell? ⟨sB, 3, none⟩ = some (.slice AS S.length cs) ∧ Wq.cell? ⟨sB, 4, none⟩ = some (.slice AF F.length cf)) ∧ Wq.cell? ⟨yB, 0, none⟩ = some (.slice AY ny cy) ∧ Wq.cell? ⟨yB, 1, none⟩ = some (.int .i64 (k : Int))) V3 := ⟨⟨(HL3.out.blk HSB.out).cell 0, (HL3.out.blk HSB.out).cell 1, (HL3.out.blk HSB.out).cell 2, (HL3.out.blk HSB.out).cell 3, (HL3.out.blk HSB.out).cell 4⟩, HB3.out.cell 0, HB3.out.cell 1⟩
  refine HK.out.out _ _ ⟨hHeld, ?_⟩
  clear HK K
  try simp only [Act.put, qL]
  refine qb2 5 (by kernel_rfl) ?_
  refine qg9 (HF2.out V3 (.slice AY ny cy) HL3.out (by rw [HN.out.1]; exact HR3.out)) rfl rfl (fun V => ?_) ?_
  ·simp [go_sem]
  rintro v w5 ⟨u, out, rfl, hu, hout, l5⟩ V6 hV5
  obtain ⟨Au, cu, rfl, -⟩ := hu.form
  obtain ⟨Ao, co, rfl, -⟩ := hout.form
  have l := l5.trans (Lies.same hV5)
  have HL6 := hID (HL3.out.trans l)
  have HB6 := hID (l.blk HB3.out)
  have HP6 := hID (l.rd HP3.out)
  have HNB := hID (l.blk HNB3.out)
  have hlt := HNB3.out.lt
  have HU6 := hID ((Lies.same hV5).rd (hu.mono (G := fun k => k ≠ zB) (fun k hk => by omega)))
  have HO6 := hID ((Lies.same hV5).rd (hout.mono (G := fun k => k ≠ zB) (fun k hk => by omega)))
  clear hHeld hlt
  have hHeld : (fun Wq => (Wq.cell? ⟨sB, 0, none⟩ = some (.slice AI ids.length ci) ∧ Wq.cell? ⟨sB, 1, none⟩ = some (.int .i64 wd) ∧ Wq.cell? ⟨sB, 2, none⟩ = some (.slice AT T.length ct) ∧ Wq.cell? ⟨sB, 3, none⟩ = some (.slice AS S.length cs) ∧ Wq.cell? ⟨sB, 4, none⟩ = some (.slice AF F.length cf)) ∧ Wq.cell? ⟨yB, 0, none⟩ = some (.slice AY ny cy) ∧ Wq.cell? ⟨yB, 1, none⟩ = some (.int .i64 (k : Int))) V6 := ⟨⟨(HL6.out.blk HSB.out).cell 0, (HL6.out.blk HSB.out).cell 1, (HL6.out.blk HSB.out).cell 2, (HL6.out.blk HSB.out).cell 3, (HL6.out.blk HSB.out).cell 4⟩, HB6.out.cell 0, HB6.out.cell 1⟩
  refine ⟨hHeld, ?_⟩
  clear hu hout l5 hV5 l w5 HL3 HB3 HR3 HNB3 HP3
  rw [HN.out.2]
  rw [HN.out.2] at HU6
  try simp only [Act.put, qL]
  refine tkG 6 ?_
  try simp only [Act.put, qL]
  refine tkG 7 ?_
  try simp only [Act.put, qL]
  refine tkG 8 ?_
  try simp only [Act.put, qL]
  refine tkG 9 ?_
  try simp only [Act.put, qL]
  refine qb2 11 (by kernel_rfl) (qem rfl fun K hK => ?_)
  have HK := hID hK
  clear hK
  have z0 := HNB.out.cell 0
  have z1 := HNB.out.cell 1
  have f0 := HNB.out.frozen 0
  have f1 := HNB.out.frozen 1
  go_simp
  clear z0 z1 f0 f1
  have HL9 : Hid (Lies w1 ((V6.setCell ⟨zB, 0, none⟩ (.slice Au nz cu)).setCell ⟨zB, 1, none⟩ (.int .i64 az))) := hID ((HL6.out.put (p := ⟨zB, 0, none⟩) HNL.out _).put (p := ⟨zB, 1, none⟩) HNL.out _)
  have HN9 : Hid (Blk ((V6.setCell ⟨zB, 0, none⟩ (.slice Au nz cu)).setCell ⟨zB, 1, none⟩ (.int .i64 az)) zB 27 #[.slice Au nz cu, .int .i64 az]) := hID ((HNB.out.put 0 _).put 1 _)
  have HB9 : Hid (Blk ((V6.setCell ⟨zB, 0, none⟩ (.slice Au nz cu)).setCell ⟨zB, 1, none⟩ (.int .i64 az)) yB 27 #[(.slice AY ny cy), (.int .i64 (k : Int))]) := hID ((HB6.out.far HNE.out _).far HNE.out _)
  have HU9 := hID ((HU6.out.keep (put2_off V6 zB (.slice Au nz cu) (.int .i64 az)) (fun k hk he => hk he)).any)
  have HO9 := hID ((HO6.out.keep (put2_off V6 zB (.slice Au nz cu) (.int .i64 az)) (fun k hk he => hk he)).any)
  have HP9 := hID ((HP6.out.keep (put2_off V6 zB (.slice Au nz cu) (.int .i64 az)) (fun k hk he => hk he)).any)
  clear hHeld
  have hHeld : (fun Wq => (Wq.cell? ⟨sB, 0, none⟩ = some (.slice AI ids.length ci) ∧ Wq.cell? ⟨sB, 1, none⟩ = some (.int .i64 wd) ∧ Wq.cell? ⟨sB, 2, none⟩ = some (.slice AT T.length ct) ∧ Wq.cell? ⟨sB, 3, none⟩ = some (.slice AS S.length cs) ∧ Wq.cell? ⟨sB, 4, none⟩ = some (.slice AF F.length cf)) ∧ Wq.cell? ⟨yB, 0, none⟩ = some (.slice AY ny cy) ∧ Wq.cell? ⟨yB, 1, none⟩ = some (.int .i64 (k : Int))) ((V6.setCell ⟨zB, 0, none⟩ (.slice Au nz cu)).setCell ⟨zB, 1, none⟩ (.int .i64 az)) := ⟨⟨(HL9.out.blk HSB.out).cell 0, (HL9.out.blk HSB.out).cell 1, (HL9.out.blk HSB.out).cell 2, (HL9.out.blk HSB.out).cell 3, (HL9.out.blk HSB.out).cell 4⟩, HB9.out.cell 0, HB9.out.cell 1⟩
  refine HK.out.out _ _ ⟨hHeld, ?_⟩
  clear HK K HL6 HB6 HU6 HO6 HNB HP6
  try simp only [Act.put, qL]
  refine tkG 12 ?_
  try simp only [Act.put, qL]
  refine tkG 13 ?_
  try simp only [Act.put, qL]
  refine gAny_done (by kernel_rfl) ?_
  exact cuts9 (Y := Y) (A1 := none) (A2 := none) (n2 := 0) (c2 := 0) HTZ.out HL00.out HSB.out HXB.out HZL.out HPQ.out hbf hbn HF3.out HL9.out HN9.out HU9.out HN.out.2 HP9.out HO9.out _ _ _ _ _ _ _ _ _ _ _ _ _ _ _ _ _ _ _ _ _ _ _ _ _ _ _ _ _ _ _ _ _ _ _ _ _ _ _ _ _ _
theorem cuts7 {w w1 : World} (hZ : TzT w1) (hl0 : Lies w w1) {sB xB : Nat} {AI AT AS AF AX bp : Option Addr} {ci ct cs cf cx bcap L k W : Nat} {ids : List Int} {wd : Int} {T S F : List Nat} {cut : Int} {Y Z : List Nat} {az : Int} {ps qs : List (Int × Int)} {A1 A2 : Option Addr} {n2 c2 : Nat} (hs : Blk w1 sB 25 #[.slice AI ids.length ci, .int .i64 wd, .slice AT T.length ct, .slice AS S.length cs, .slice AF F.length cf]) (hx : Blk w1 xB 27 #[.slice AX W cx, .int .i64 0]) (hZl : Z.length ≤ 4096) (hpq : ps.length + qs.length ≤ 1000000) {b : Frame} (hbf : b.fn = 6) (hbn : b.kind = .normal) (HF1 : ∀ V, Lies w1 V → CallsG Tryz.prog 24 #[.agg #[.slice AI ids.length ci, .int .i64 wd, .slice AT T.length ct, .slice AS S.length cs, .slice AF F.length cf], .agg #[.slice AX W cx, .int .i64 0], .slice A1 k bcap] V (qc6 V Y (k : Int) ps 0)) (HF2 : ∀ V u, Lies w1 V → Rd V (fun _ => True) 1 u Y.length (qab Y) → CallsG Tryz.prog 24 #[.agg #[.slice AI ids.length ci, .int .i64 wd, .slice AT T.length ct, .slice AS S.length cs, .slice AF F.length cf], .agg #[u, .int .i64 (k : Int)], .slice A2 n2 c2] V (qc6 V Z az qs 0)) (HF3 : ∀ V, Lies w1 V → CallsG Tryz.prog 24 #[.agg #[.slice AI ids.length ci, .int .i64 wd, .slice AT T.length ct, .slice AS S.length cs, .slice AF F.length cf], .agg #[.slice AX W cx, .int .i64 0], .slice bp L bcap] V (qc6 V Z az (ps ++ qs) 0)) (hsl1 : ∀ w : World, (Instr.slice 45 (.slice bp L bcap) none (some (.int .i64 (k : Int))) none).run Tryz.prog w = .ok (.slice A1 k bcap) w) (hsl2 : ∀ w : World, (Instr.slice 45 (.slice bp L bcap) (some (.int .i64 (k : Int))) none none).run Tryz.prog w = .ok (.slice A2 n2 c2) w) {W1 : World} (hl1 : Lies w1 W1) (u18 u19 u20 u21 u22 u23 u24 u25 u26 u27 u28 u29 u30 u31 u32 u33 u34 u35 u36 u37 u38 u39 : Value) :
  Go0 Tryz.prog (AtRet Tryz.prog (fun v w' => v = .bool true ∧ Lies w w')) (G (b.at ⟨#[.agg #[.slice AI ids.length ci, .int .i64 wd, .slice AT T.length ct, .slice AS S.length cs, .slice AF F.length cf], .slice bp L bcap, .int .u8 cut, .pointer (some ⟨sB, 0, none⟩), undef, undef, .bool false, .pointer (some ⟨xB, 0, none⟩), .int .i64 0, .int .i64 (k : Int), undef, undef, undef, undef, undef, undef, undef, undef, u18, u19, u20, u21, u22, u23, u24, u25, u26, u27, u28, u29, u30, u31, u32, u33, u34, u35, u36, u37, u38, u39, undef, undef, undef, undef, undef, undef, undef, undef, undef, undef, undef, undef, undef, undef, undef, undef, undef, undef, undef, undef, undef, undef, undef, undef, undef, undef, undef, undef, undef, undef, undef, undef, undef, undef, undef, undef, undef, undef, undef, undef, undef, undef, undef, undef, undef, undef, undef, undef, undef, undef, undef, undef, undef, undef, undef], []⟩ [.code qgl]) []) W1 := by
 have HSB := hID hs
 have HXB := hID hx
 have HTZ := hID hZ
 have HL00 := hID hl0
 have HZL := hID hZl
 have HPQ := hID hpq
 have HF1 := hID HF1
 have HF2 := hID HF2
 have HF3 := hID HF3
 have HLW := hID hl1
 obtain ⟨ny, hny⟩ : ∃ ny, Y.length = ny := ⟨_, rfl⟩
 have HN := hID hny
 clear hny
 clear hs hx hZ hl0 hZl hpq hl1
 simp only [qgl, qgk, qel, Tryz.f6, Option.getD_some]
 refine Go0.seq mild (Go0.region_any mild (S := fun Wq => (Wq.cell? ⟨sB, 0, none⟩ = some (.slice AI ids.length ci) ∧ Wq.cell? ⟨sB, 1, none⟩ = some (.int .i64 wd) ∧ Wq.cell? ⟨sB, 2, none⟩ = some (.slice AT T.length ct) ∧ Wq.cell? ⟨sB, 3, none⟩ = some (.slice AS S.length cs) ∧ Wq.cell? ⟨sB, 4, none⟩ = some (.slice AF F.length cf)) ∧ Wq.cell? ⟨xB, 0, none⟩ = some (.slice AX W cx) ∧ Wq.cell? ⟨xB, 1, none⟩ = some (.int .i64 0)) (by kernel_rfl) fun V1 hV => ?_)
 have l := Lies.same hV
 have HL1 := hID (HLW.out.trans l)
 have HB1 := hID ((HLW.out.trans l).blk HXB.out)
 have HR1 := hID trivial
 have hHeld : (fun Wq => (Wq.cell? ⟨sB, 0, none⟩ = some (.slice AI ids.length ci) ∧ Wq.cell? ⟨sB, 1, none⟩ = some (.int .i64 wd) ∧ Wq.cell? ⟨sB, 2, none⟩ = some (.slice AT T.length ct) ∧ Wq.cell? ⟨sB, 3, none⟩ = some (.slice AS S.length cs) ∧ Wq.cell? ⟨sB, 4, none⟩ = some (.slice AF F.length cf)) ∧ Wq.cell? ⟨xB, 0, none⟩ = some (.slice AX W cx) ∧ Wq.cell? ⟨xB, 1, none⟩ = some (.int .i64 0)) V1 := ⟨⟨(HL1.out.blk HSB.out).cell 0, (HL1.out.blk HSB.out).cell 1, (HL1.out.blk HSB.out).cell 2, (HL1.out.blk HSB.out).cell 3, (HL1.out.blk HSB.out).cell 4⟩, HB1.out.cell 0, HB1.out.cell 1⟩
 refine ⟨hHeld, ?_⟩
 clear hV l HLW W1
 try simp only [Act.put, qL]
 refine tkG 0 ?_
 try simp only [Act.put, qL]
 refine tkG 1 ?_
 try simp only [Act.put, qL]
 refine tkG 2 ?_
 try simp only [Act.put, qL]
 refine tkG 3 ?_
 try simp only [Act.put, qL]
 refine tkG 4 ?_
 try simp only [Act.put, qL]
 refine qod 5 10 (by kernel_rfl) ?_ ?_
 ·refine qg9 (HF1.out V1 HL1.out) rfl rfl (fun V => ?_) ?_
  ·simp [go_sem]
  rintro v w5 ⟨u, out, rfl, hu, hout, l5⟩ V5 hV5
  obtain ⟨Au, cu, rfl, -⟩ := hu.form
  obtain ⟨Ao, co, rfl, -⟩ := hout.form
  have l := l5.trans (Lies.same hV5)
  have HL5 := hID (HL1.out.trans l)
  have HB5 := hID (l.blk HB1.out)
  have HU5 := hID ((Lies.same hV5).rd hu.any)
  have HO5 := hID ((Lies.same hV5).rd hout.any)
  clear hHeld
  have hHeld : (fun Wq => (Wq.cell? ⟨sB, 0, none⟩ = some (.slice AI ids.length ci) ∧ Wq.cell? ⟨sB, 1, none⟩ = some (.int .i64 wd) ∧ Wq.cell? ⟨sB, 2, none⟩ = some (.slice AT T.length ct) ∧ Wq.cell? ⟨sB, 3, none⟩ = some (.slice AS S.length cs) ∧ Wq.cell? ⟨sB, 4, none⟩ = some (.slice AF F.length cf)) ∧ Wq.cell? ⟨xB, 0, none⟩ = some (.slice AX W cx) ∧ Wq.cell? ⟨xB, 1, none⟩ = some (.int .i64 0)) V5 := ⟨⟨(HL5.out.blk HSB.out).cell 0, (HL5.out.blk HSB.out).cell 1, (HL5.out.blk HSB.out).cell 2, (HL5.out.blk HSB.out).cell 3, (HL5.out.blk HSB.out).cell 4⟩, HB5.out.cell 0, HB5.out.cell 1⟩
  refine ⟨hHeld, ?_⟩
  clear hu hout l5 hV5 l w5 HL1 HB1 HR1 
  rw [HN.out]
  rw [HN.out] at HU5
  try simp only [Act.put, qL]
  refine tkG 6 ?_
  try simp only [Act.put, qL]
  refine tkG 7 ?_
  try simp only [Act.put, qL]
  refine tkG 8 ?_
  try simp only [Act.put, qL]
  refine tkG 9 ?_
  try simp only [Act.put, qL]
  refine qb2 10 (by kernel_rfl) (qem rfl fun K hK => ?_)
  have HK := hID hK
  clear hK
  go_simp
  have la := (Lies.refl V5).alloc (.cells #[.slice none 0 0, .int .i64 0] 27)
  have HL6 := hID (HL5.out.trans la)
  have HB6 := hID (la.blk HB5.out)
  have HNB := hID (Blk.new V5 27 #[.slice none 0 0, .int .i64 0])
  have HU6 := hID (la.rd (HU5.out.below.mono (G := (fun k => k ≠ V5.heap.size)) (fun k hk => by omega)))
  have HO6 := hID (la.rd (HO5.out.below.mono (G := (fun k => k ≠ V5.heap.size)) (fun k hk => by omega)))
  have HNL : Hid (w1.heap.size ≤ V5.heap.size) := hID HL5.out.size
  have HNE : Hid (xB ≠ V5.heap.size) := hID (Nat.ne_of_lt HB5.out.lt)
  clear la hHeld HL5 HB5 HU5 HO5 
  revert HL6 HB6 HNB HU6 HO6 HNL HNE  HK
  generalize V5.heap.size = yB
  generalize V5.alloc _ = V6
  intro HK HL6 HB6 HNB HU6 HO6  HNL HNE
  have hHeld : (fun Wq => (Wq.cell? ⟨sB, 0, none⟩ = some (.slice AI ids.length ci) ∧ Wq.cell? ⟨sB, 1, none⟩ = some (.int .i64 wd) ∧ Wq.cell? ⟨sB, 2, none⟩ = some (.slice AT T.length ct) ∧ Wq.cell? ⟨sB, 3, none⟩ = some (.slice AS S.length cs) ∧ Wq.cell? ⟨sB, 4, none⟩ = some (.slice AF F.length cf)) ∧ Wq.cell? ⟨xB, 0, none⟩ = some (.slice AX W cx) ∧ Wq.cell? ⟨xB, 1, none⟩ = some (.int .i64 0)) V6 := ⟨⟨(HL6.out.blk HSB.out).cell 0, (HL6.out.blk HSB.out).cell 1, (HL6.out.blk HSB.out).cell 2, (HL6.out.blk HSB.out).cell 3, (HL6.out.blk HSB.out).cell 4⟩, HB6.out.cell 0, HB6.out.cell 1⟩
  refine HK.out.out _ _ ⟨hHeld, ?_⟩
  clear HK K
  try simp only [Act.put, qL]
  refine qb2 11 (by kernel_rfl) (qem rfl fun K hK => ?_)
  have HK := hID hK
  clear hK
  have z0 := HNB.out.cell 0
  have z1 := HNB.out.cell 1
  have f0 := HNB.out.frozen 0
  have f1 := HNB.out.frozen 1
  go_simp
  clear z0 z1 f0 f1
  have HL9 : Hid (Lies w1 ((V6.setCell ⟨yB, 0, none⟩ (.slice Au ny cu)).setCell ⟨yB, 1, none⟩ (.int .i64 (k : Int)))) := hID ((HL6.out.put (p := ⟨yB, 0, none⟩) HNL.out _).put (p := ⟨yB, 1, none⟩) HNL.out _)
  have HN9 : Hid (Blk ((V6.setCell ⟨yB, 0, none⟩ (.slice Au ny cu)).setCell ⟨yB, 1, none⟩ (.int .i64 (k : Int))) yB 27 #[.slice Au ny cu, .int .i64 (k : Int)]) := hID ((HNB.out.put 0 _).put 1 _)
  have HB9 : Hid (Blk ((V6.setCell ⟨yB, 0, none⟩ (.slice Au ny cu)).setCell ⟨yB, 1, none⟩ (.int .i64 (k : Int))) xB 27 #[(.slice AX W cx), (.int .i64 0)]) := hID ((HB6.out.far HNE.out _).far HNE.out _)
  have HU9 := hID ((HU6.out.keep (put2_off V6 yB (.slice Au ny cu) (.int .i64 (k : Int))) (fun k hk he => hk he)).any)
  have HO9 := hID ((HO6.out.keep (put2_off V6 yB (.slice Au ny cu) (.int .i64 (k : Int))) (fun k hk he => hk he)).any)
  clear hHeld
  have hHeld : (fun Wq => (Wq.cell? ⟨sB, 0, none⟩ = some (.slice AI ids.length ci) ∧ Wq.cell? ⟨sB, 1, none⟩ = some (.int .i64 wd) ∧ Wq.cell? ⟨sB, 2, none⟩ = some (.slice AT T.length ct) ∧ Wq.cell? ⟨sB, 3, none⟩ = some (.slice AS S.length cs) ∧ Wq.cell? ⟨sB, 4, none⟩ = some (.slice AF F.length cf)) ∧ Wq.cell? ⟨xB, 0, none⟩ = some (.slice AX W cx) ∧ Wq.cell? ⟨xB, 1, none⟩ = some (.int .i64 0)) ((V6.setCell ⟨yB, 0, none⟩ (.slice Au ny cu)).setCell ⟨yB, 1, none⟩ (.int .i64 (k : Int))) := ⟨⟨(HL9.out.blk HSB.out).cell 0, (HL9.out.blk HSB.out).cell 1, (HL9.out.blk HSB.out).cell 2, (HL9.out.blk HSB.out).cell 3, (HL9.out.blk HSB.out).cell 4⟩, HB9.out.cell 0, HB9.out.cell 1⟩
  refine HK.out.out _ _ ⟨hHeld, ?_⟩
  clear HK K HL6 HB6 HU6 HO6 HNB 
  try simp only [Act.put, qL]
  refine tkG 12 ?_
  try simp only [Act.put, qL]
  refine tkG 13 ?_
  try simp only [Act.put, qL]
  refine gAny_done (by kernel_rfl) ?_
  exact cuts8 (A1 := none) HTZ.out HL00.out HSB.out HXB.out HZL.out HPQ.out hbf hbn HF2.out HF3.out hsl2 HN9.out HU9.out HN.out HO9.out HL9.out _ _ _ _ _ _ _ _ _ _ _ _ _ _ _ _ _ _ _ _ _ _ _ _ _ _ _ _ _ _ _ _
 ·refine qem rfl fun K hK => ?_
  have HK := hID hK
  clear hK
  go_simp
  have la := (Lies.refl V1).alloc (.cells #[.slice none 0 0, .int .i64 0] 27)
  have HL3 := hID (HL1.out.trans la)
  have HB3 := hID (la.blk HB1.out)
  have HR3 := hID trivial
  have HNB3 := hID (Blk.new V1 27 #[.slice none 0 0, .int .i64 0])
  have HNL : Hid (w1.heap.size ≤ V1.heap.size) := hID HL1.out.size
  have HNE : Hid (xB ≠ V1.heap.size) := hID (Nat.ne_of_lt HB1.out.lt)
  clear la hHeld HL1 HB1 HR1 
  revert HL3 HB3 HNB3 HNL HNE  HK
  generalize V1.heap.size = yB
  generalize V1.alloc _ = V3
  intro HK HL3 HB3 HNB3  HNL HNE
  have hHeld : (fun Wq => (Wq.cell? ⟨sB, 0, none⟩ = some (.slice AI ids.length ci) ∧ Wq.cell? ⟨sB, 1, none⟩ = some (.int .i64 wd) ∧ Wq.cell? ⟨sB, 2, none⟩ = some (.slice AT T.length ct) ∧ Wq.cell? ⟨sB, 3, none⟩ = some (.slice AS S.length cs) ∧ Wq.cell? ⟨sB, 4, none⟩ = some (.slice AF F.length cf)) ∧ Wq.cell? ⟨xB, 0, none⟩ = some (.slice AX W cx) ∧ Wq.cell? ⟨xB, 1, none⟩ = some (.int .i64 0)) V3 := ⟨⟨(HL3.out.blk HSB.out).cell 0, (HL3.out.blk HSB.out).cell 1, (HL3.out.blk HSB.out).cell 2, (HL3.out.blk HSB.out).cell 3, (HL3.out.blk HSB.out).cell 4⟩, HB3.out.cell 0, HB3.out.cell 1⟩
  refine HK.out.out _ _ ⟨hHeld, ?_⟩
  clear HK K
  try simp only [Act.put, qL]
  refine qb2 5 (by kernel_rfl) ?_
  refine qg9 (HF1.out V3 HL3.out) rfl rfl (fun V => ?_) ?_
  ·simp [go_sem]
  rintro v w5 ⟨u, out, rfl, hu, hout, l5⟩ V6 hV5
  obtain ⟨Au, cu, rfl, -⟩ := hu.form
  obtain ⟨Ao, co, rfl, -⟩ := hout.form
  have l := l5.trans (Lies.same hV5)
  have HL6 := hID (HL3.out.trans l)
  have HB6 := hID (l.blk HB3.out)
  have HNB := hID (l.blk HNB3.out)
  have hlt := HNB3.out.lt
  have HU6 := hID ((Lies.same hV5).rd (hu.mono (G := fun k => k ≠ yB) (fun k hk => by omega)))
  have HO6 := hID ((Lies.same hV5).rd (hout.mono (G := fun k => k ≠ yB) (fun k hk => by omega)))
  clear hHeld hlt
  have hHeld : (fun Wq => (Wq.cell? ⟨sB, 0, none⟩ = some (.slice AI ids.length ci) ∧ Wq.cell? ⟨sB, 1, none⟩ = some (.int .i64 wd) ∧ Wq.cell? ⟨sB, 2, none⟩ = some (.slice AT T.length ct) ∧ Wq.cell? ⟨sB, 3, none⟩ = some (.slice AS S.length cs) ∧ Wq.cell? ⟨sB, 4, none⟩ = some (.slice AF F.length cf)) ∧ Wq.cell? ⟨xB, 0, none⟩ = some (.slice AX W cx) ∧ Wq.cell? ⟨xB, 1, none⟩ = some (.int .i64 0)) V6 := ⟨⟨(HL6.out.blk HSB.out).cell 0, (HL6.out.blk HSB.out).cell 1, (HL6.out.blk HSB.out).cell 2, (HL6.out.blk HSB.out).cell 3, (HL6.out.blk HSB.out).cell 4⟩, HB6.out.cell 0, HB6.out.cell 1⟩
  refine ⟨hHeld, ?_⟩
  clear hu hout l5 hV5 l w5 HL3 HB3 HR3 HNB3 
  rw [HN.out]
  rw [HN.out] at HU6
  try simp only [Act.put, qL]
  refine tkG 6 ?_
  try simp only [Act.put, qL]
  refine tkG 7 ?_
  try simp only [Act.put, qL]
  refine tkG 8 ?_
  try simp only [Act.put, qL]
  refine tkG 9 ?_
  try simp only [Act.put, qL]
  refine qb2 11 (by kernel_rfl) (qem rfl fun K hK => ?_)
  have HK := hID hK
  clear hK
  have z0 := HNB.out.cell 0
  have z1 := HNB.out.cell 1
  have f0 := HNB.out.frozen 0
  have f1 := HNB.out.frozen 1
  go_simp
  clear z0 z1 f0 f1
  have HL9 : Hid (Lies w1 ((V6.setCell ⟨yB, 0, none⟩ (.slice Au ny cu)).setCell ⟨yB, 1, none⟩ (.int .i64 (k : Int)))) := hID ((HL6.out.put (p := ⟨yB, 0, none⟩) HNL.out _).put (p := ⟨yB, 1, none⟩) HNL.out _)
  have HN9 : Hid (Blk ((V6.setCell ⟨yB, 0, none⟩ (.slice Au ny cu)).setCell ⟨yB, 1, none⟩ (.int .i64 (k : Int))) yB 27 #[.slice Au ny cu, .int .i64 (k : Int)]) := hID ((HNB.out.put 0 _).put 1 _)
  have HB9 : Hid (Blk ((V6.setCell ⟨yB, 0, none⟩ (.slice Au ny cu)).setCell ⟨yB, 1, none⟩ (.int .i64 (k : Int))) xB 27 #[(.slice AX W cx), (.int .i64 0)]) := hID ((HB6.out.far HNE.out _).far HNE.out _)
  have HU9 := hID ((HU6.out.keep (put2_off V6 yB (.slice Au ny cu) (.int .i64 (k : Int))) (fun k hk he => hk he)).any)
  have HO9 := hID ((HO6.out.keep (put2_off V6 yB (.slice Au ny cu) (.int .i64 (k : Int))) (fun k hk he => hk he)).any)
  clear hHeld
  have hHeld : (fun Wq => (Wq.cell? ⟨sB, 0, none⟩ = some (.slice AI ids.length ci) ∧ Wq.cell? ⟨sB, 1, none⟩ = some (.int .i64 wd) ∧ Wq.cell? ⟨sB, 2, none⟩ = some (.slice AT T.length ct) ∧ Wq.cell? ⟨sB, 3, none⟩ = some (.slice AS S.length cs) ∧ Wq.cell? ⟨sB, 4, none⟩ = some (.slice AF F.length cf)) ∧ Wq.cell? ⟨xB, 0, none⟩ = some (.slice AX W cx) ∧ Wq.cell? ⟨xB, 1, none⟩ = some (.int .i64 0)) ((V6.setCell ⟨yB, 0, none⟩ (.slice Au ny cu)).setCell ⟨yB, 1, none⟩ (.int .i64 (k : Int))) := ⟨⟨(HL9.out.blk HSB.out).cell 0, (HL9.out.blk HSB.out).cell 1, (HL9.out.blk HSB.out).cell 2, (HL9.out.blk HSB.out).cell 3, (HL9.out.blk HSB.out).cell 4⟩, HB9.out.cell 0, HB9.out.cell 1⟩
  refine HK.out.out _ _ ⟨hHeld, ?_⟩
  clear HK K HL6 HB6 HU6 HO6 HNB 
  try simp only [Act.put, qL]
  refine tkG 12 ?_
  try simp only [Act.put, qL]
  refine tkG 13 ?_
  try simp only [Act.put, qL]
  refine gAny_done (by kernel_rfl) ?_
  exact cuts8 (A1 := none) HTZ.out HL00.out HSB.out HXB.out HZL.out HPQ.out hbf hbn HF2.out HF3.out hsl2 HN9.out HU9.out HN.out HO9.out HL9.out _ _ _ _ _ _ _ _ _ _ _ _ _ _ _ _ _ _ _ _ _ _ _ _ _ _ _ _ _ _ _ _
theorem quz {w : World} (hZ : TzT w) {VI VT VS VF : Value} {ids : List Int} {wd : Int} {T S F : List Nat} (ho : OSet w VI VT VS VF ids wd T S F) {BV : Value} {B : List Nat} (hb : Rd w (Old w) 1 BV B.length (qa0 B)) (hb8 : ∀ z ∈ B, z < 256) (hcb : CapOk BV) {cut : Nat} (hc8 : cut < 256) (hlim : ids.length ≤ 20 ∧ T.length ≤ 1100 ∧ S.length ≤ 10 ∧ F.length ≤ 100) (hB60 : B.length ≤ 60) {w1 : World} {b : Frame} (hbf : b.fn = 6) (hbn : b.kind = .normal) {sB : Nat} (hl : Lies w w1) (hs : Blk w1 sB 25 #[VI, .int .i64 wd, VT, VS, VF]) (u18 u19 u20 u21 u22 u23 u24 : Value) :
  Go0 Tryz.prog (AtRet Tryz.prog (fun v w' => v = .bool true ∧ Lies w w')) (G (b.at ⟨#[.agg #[VI, .int .i64 wd, VT, VS, VF], BV, .int .u8 (cut : Int), .pointer (some ⟨sB, 0, none⟩), undef, undef, .bool false, undef, undef, undef, undef, undef, undef, undef, undef, undef, undef, undef, u18, u19, u20, u21, u22, u23, u24, undef, undef, undef, undef, undef, undef, undef, undef, undef, undef, undef, undef, undef, undef, undef, undef, undef, undef, undef, undef, undef, undef, undef, undef, undef, undef, undef, undef, undef, undef, undef, undef, undef, undef, undef, undef, undef, undef, undef, undef, undef, undef, undef, undef, undef, undef, undef, undef, undef, undef, undef, undef, undef, undef, undef, undef, undef, undef, undef, undef, undef, undef, undef, undef, undef, undef, undef, undef, undef, undef], []⟩ [.code qgk]) []) w1 := by
 obtain ⟨AI, ci, rfl, _⟩ := ho.i.form
 obtain ⟨AT, ct, rfl, _⟩ := ho.t.form
 obtain ⟨AS, cs, rfl, _⟩ := ho.s.form
 obtain ⟨AF, cf, rfl, _⟩ := ho.f.form
 obtain ⟨bp, bcap, rfl, hbm, _⟩ := hb.form
 have HCB := hID (hcb _ _ _ rfl)
 have hset : ∀ V, Lies w V → SetV V (.slice AI ids.length ci) (.slice AT T.length ct) (.slice AS S.length cs) (.slice AF F.length cf) ids wd T S F := fun V l => l.set (ho.setV oRf (by omega) (by omega) (by omega) (by omega))
 have HSET := hID hset
 have HZ := hID hZ
 have HB8 := hID hb8
 have HBR := hID hb
 have HB60 := hID hB60
 have HC8 := hID hc8
 have HHS := hID hs
 have HL0 := hID hl
 have HTL := hID hlim
 clear hset hZ hb8 hb hB60 hc8 hs hl ho hlim hcb hbm
 obtain ⟨ny, hny⟩ : ∃ ny, (qah ids wd T S F).length = ny := ⟨_, rfl⟩
 have HNY := hID hny
 clear hny
 simp only [qgk, qel, Tryz.f6, Option.getD_some]
 -- Start
 refine Go0.seq mild (Go0.wpQ mild fun Q hQ V2 hV => ?_)
 have l := Lies.same hV
 have HL2 := hID (HL0.out.trans l)
 have HS2 := hID (l.blk HHS.out)
 have HQ := hID hQ
 have c0 := HS2.out.cell 0
 have c1 := HS2.out.cell 1
 have c2 := HS2.out.cell 2
 have c3 := HS2.out.cell 3
 have c4 := HS2.out.cell 4
 clear hQ hV l HHS HL0
 go_wp2_with fail
 refine (qdq ids wd T S F V2 _ _ _ _ (HSET.out V2 HL2.out) (HL2.out.tz HZ.out)).mono ?_
 rintro e u5 ⟨u, rfl, hu, l5⟩
 obtain ⟨AX, cx, rfl, -⟩ := hu.form
 rw [HNY.out]
 rw [HNY.out] at hu
 have la := (Lies.refl u5).alloc (.cells #[.slice AX ny cx, .int .i64 0] 27)
 have HL := hID ((HL2.out.trans l5).trans la)
 have HS := hID ((l5.trans la).blk HS2.out)
 have HU := hID (la.rd hu.any)
 have HX := hID (Blk.new u5 27 #[.slice AX ny cx, .int .i64 0])
 clear hu l5 la c0 c1 c2 c3 c4 HL2 HS2
 go_wp2_with fail
 refine HQ.out _ _ _ ?_
 clear HQ
 show Go0 _ _ _ _
 revert HL HS HU HX
 generalize u5.heap.size = xB
 generalize u5.alloc _ = u6
 intro HL HS HU HX
 by_cases e0 : qag ids wd T S F = 0
 case neg =>
  have dd : (qag ids wd T S F != 0) = true := by simpa using e0
  refine Go0.seq mild (Go0.seq mild (Go0.wpQ mild fun Q hQ V3 hV => ?_))
  have HQ := hID hQ
  have HL3 := hID (HL.out.trans (Lies.same hV))
  clear hQ hV e0
  go_wp2_with fail
  refine HQ.out _ _ _ ?_
  show Go0 _ _ _ _
  refine Go0.cond mild (t := true) rfl ?_
  exact qbp (HL3.out.tz HZ.out) HL3.out hbn rfl (by rw [hbf]; exact Tryz.func6) (by rw [hbf]; kernel_rfl) rfl rfl rfl rfl rfl rfl rfl (by simp) (by simp)
 case pos =>
  rw [e0]
  have HE := hID e0
  clear e0
  refine Go0.seq mild (Go0.seq mild (Go0.wpQ mild fun Q hQ V3 hV => ?_))
  have HQ := hID hQ
  have l := Lies.same hV
  have HL3 := hID (HL.out.trans l)
  have HS3 := hID (l.blk HS.out)
  have HU3 := hID (l.rd HU.out)
  have HX3 := hID (l.blk HX.out)
  clear hQ hV l HL HS HU HX
  go_wp2_with fail
  refine HQ.out _ _ _ ?_
  clear HQ
  show Go0 _ _ _ _
  refine Go0.cond mild (t := false) rfl (Go0.skip mild ?_)
  refine Go0.seq mild (Go0.wpQ mild fun Q hQ V4 hV => ?_)
  have HQ := hID hQ
  have l := Lies.same hV
  have HL4 := hID (HL3.out.trans l)
  have HS4 := hID (l.blk HS3.out)
  have HU4 := hID (l.rd HU3.out)
  have HX4 := hID (l.blk HX3.out)
  clear hQ hV l HL3 HS3 HU3 HX3
  obtain ⟨L, hL⟩ : ∃ L, B.length = L := ⟨_, rfl⟩
  have hL60 : L ≤ 60 := by have := HB60.out; omega
  have w1_ : IntKind.i64.wrap ((cut : Int)) = cut := by rw [IntKind.wrap_i64]; have := HC8.out; omega
  have w2_ : IntKind.i64.wrap ((L : Int) + 1) = (L : Int) + 1 := by rw [IntKind.wrap_i64]; omega
  obtain ⟨k, hk⟩ : ∃ k, cut % (L + 1) = k := ⟨_, rfl⟩
  have hkl : k ≤ L := by have := Nat.mod_lt cut (show 0 < L + 1 by omega); omega
  have w3_ : (cut : Int).tmod ((L : Int) + 1) = (k : Int) := by rw [← hk, Int.tmod_eq_emod_of_nonneg (by omega)]; push_cast; rfl
  have hne : ((L : Int) + 1 == 0) = false := by simp; omega
  have HLL := hID hL
  rw [hL]
  clear hL
  go_wp2_with fail
  refine HQ.out _ _ _ ?_
  show Go0 _ _ _ _
  clear HQ w1_ w2_ w3_ hne
  have he0 := HE.out
  obtain ⟨W, rfl, hW1, hW4, hSl, hFl, hTl, l, hl0, hp, _⟩ := qdr he0
  obtain ⟨g0, g1, g2⟩ := qf6 he0
  rw [Int.toNat_natCast] at g1 g2
  have hsv := HSET.out V4 HL4.out
  have hny : ny = W := by rw [← HNY.out, g1]
  have hX64 : ∀ x ∈ qah ids (W : Int) T S F, x < 18446744073709551616 := by rw [g2]; intro x hx; rw [List.eq_of_mem_replicate hx]; decide
  have htk : (B.take k).length = k := by rw [List.length_take, HLL.out]; omega
  have hdr : (B.drop k).length = L - k := by rw [List.length_drop, HLL.out]
  have htb : ∀ z ∈ B.take k, z < 256 := fun z hz => HB8.out z (List.mem_of_mem_take hz)
  have hdb : ∀ z ∈ B.drop k, z < 256 := fun z hz => HB8.out z (List.mem_of_mem_drop hz)
  have hbr : Rd V4 (Old w) 1 (.slice bp L bcap) L (qa0 B) := by have := HL4.out.rd HBR.out; rwa [HLL.out] at this
  have hcap : L ≤ bcap := by have := HCB.out; rwa [HLL.out] at this
  obtain ⟨A1, hA1, hsl1⟩ := qz3 bp L bcap k hkl hcap
  obtain ⟨A2, hA2, hsl2⟩ := qz4 bp L bcap k hkl hcap
  have hr1 : Rd V4 (Old w) 1 (.slice A1 k bcap) (B.take k).length (qa0 (B.take k)) := by
   have h := hbr.cut 0 k (by omega) A1 bcap (fun h => hA1 (by omega))
   rw [htk]
   simpa using h
  have hr2 : Rd V4 (Old w) 1 (.slice A2 (L - k) (bcap - k)) (B.drop k).length (qa0 (B.drop k)) := by
   have h := hbr.cut k (L - k) (by omega) A2 (bcap - k) (fun h => hA2 (by omega))
   rw [hdr]
   rwa [List.take_of_length_le (by rw [hdr]; exact Nat.le_refl _)] at h
  have r1 : fdErr ids W T S F (qah ids (W : Int) T S F) 0 (B.take k).length = 0 := by unfold fdErr; rw [g0, if_neg (by simp), if_neg (by omega), if_neg (by omega)]
  have r3 : fdErr ids W T S F (qah ids (W : Int) T S F) 0 B.length = 0 := by unfold fdErr; rw [g0, if_neg (by simp), if_neg (by rw [HLL.out]; omega), if_neg (by rw [HLL.out]; omega)]
  have hck := qsw g0 hX64 hsv.t64 htb (by rw [htk]; omega)
  have r2 : fdErr ids W T S F (qan T S (qah ids (W : Int) T S F).length (B.take k) (qah ids (W : Int) T S F)) (0 + ((B.take k).length : Int)) (B.drop k).length = 0 := by unfold fdErr; rw [hck, if_neg (by simp), if_neg (by omega), if_neg (by omega)]
  have a1 : atV (B.take k) 0 = 0 + ((B.take k).length : Int) := qoa _ 0 (by decide) (by omega)
  have hY64 := qdk (S := S) (W := W) hsv.t64 (B.take k) _ hX64
  have ylen : (qan T S (qah ids (W : Int) T S F).length (B.take k) (qah ids (W : Int) T S F)).length = W := by rw [qbf _ _ _ _ _ rfl, g1]
  have F1 : ∀ V, Lies V4 V → _ := fun V m => qcu ids W T S F (qah ids (W : Int) T S F) (B.take k) 0 V _ _ _ _ (.slice AX ny cx) _ hX64 (m.set hsv) ((HL4.out.trans m).tz HZ.out) (by rw [HNY.out]; exact m.rd HU4.out) htb (m.rd hr1.any)
  have F3 : ∀ V, Lies V4 V → _ := fun V m => qcu ids W T S F (qah ids (W : Int) T S F) B 0 V _ _ _ _ (.slice AX ny cx) (.slice bp L bcap) hX64 (m.set hsv) ((HL4.out.trans m).tz HZ.out) (by rw [HNY.out]; exact m.rd HU4.out) HB8.out (by rw [HLL.out]; exact m.rd hbr.any)
  have F2 : ∀ V u, Lies V4 V → Rd V (fun _ => True) 1 u (qan T S (qah ids (W : Int) T S F).length (B.take k) (qah ids (W : Int) T S F)).length (qab (qan T S (qah ids (W : Int) T S F).length (B.take k) (qah ids (W : Int) T S F))) → _ := fun V u m hu => qcu ids W T S F _ (B.drop k) (0 + ((B.take k).length : Int)) V _ _ _ _ u _ (by rw [g1]; exact hY64) (m.set hsv) ((HL4.out.trans m).tz HZ.out) hu hdb (m.rd hr2.any)
  unfold fdRow fdAt qdh at F1 F2 F3
  rw [r1] at F1
  rw [r2] at F2
  rw [r3] at F3
  simp only [if_true] at F1 F2 F3
  rw [a1, htk, Int.zero_add] at F1
  rw [htk, Int.zero_add] at F2
  rw [ylen, g1] at F2
  rw [g1] at F1 F3
  have e1 : qan T S W B (qah ids (W : Int) T S F) = qan T S W (B.drop k) (qan T S W (B.take k) (qah ids (W : Int) T S F)) := by rw [← qhf, List.take_append_drop]
  have e2 : qa8 T S F W ids.length B (qah ids (W : Int) T S F) 0 = qa8 T S F W ids.length (B.take k) (qah ids (W : Int) T S F) 0 ++ qa8 T S F W ids.length (B.drop k) (qan T S W (B.take k) (qah ids (W : Int) T S F)) (k : Int) := by
   have e := qgj T S F W ids.length (B.take k) (B.drop k) (qah ids (W : Int) T S F) 0
   rwa [List.take_append_drop, a1, htk, Int.zero_add] at e
  have e3 : atV B 0 = atV (B.drop k) (k : Int) := by
   have e := qkk (B.take k) (B.drop k) 0
   rwa [List.take_append_drop, a1, htk, Int.zero_add] at e
  rw [e1, e2, e3] at F3
  have m1 := qeu T S F W ids.length (B.take k) (qah ids (W : Int) T S F) 0
  have m2 := qeu T S F W ids.length (B.drop k) (qan T S W (B.take k) (qah ids (W : Int) T S F)) (k : Int)
  have hi20 := HTL.out.1
  have m3 : (B.take k).length * ids.length ≤ 60 * 20 := Nat.mul_le_mul (by omega) hi20
  have m4 : (B.drop k).length * ids.length ≤ 60 * 20 := Nat.mul_le_mul (by omega) hi20
  subst hny
  have hzl : (qan T S ny (B.drop k) (qan T S ny (B.take k) (qah ids (ny : Int) T S F))).length ≤ 4096 := by
   rw [qbf T S ny _ _ (qbf T S ny _ _ g1)]
   omega
  exact cuts7 (HL4.out.tz HZ.out) HL4.out HS4.out HX4.out hzl (by omega) hbf hbn F1 (fun V u m hu => F2 V u m (by rwa [qbf T S ny _ _ g1] at hu)) F3 hsl1 hsl2 (Lies.refl _) _ _ _ _ _ _ _ _ _ _ _ _ _ _ _ _ _ _ _ _ _ _
theorem shiftandCuts_walk {w : World} (hZ : TzT w) {VI VT VS VF : Value} {ids : List Int} {wd : Int} {T S F : List Nat} (ho : OSet w VI VT VS VF ids wd T S F) {BV : Value} {B : List Nat} (hb : Rd w (Old w) 1 BV B.length (qa0 B)) (hb8 : ∀ z ∈ B, z < 256) (hcb : CapOk BV) {cut : Nat} (hc8 : cut < 256) : qe1 6 #[.agg #[VI, .int .i64 wd, VT, VS, VF], BV, .int .u8 (cut : Int)] w := by
 obtain ⟨AI, ci, rfl, _⟩ := ho.i.form
 obtain ⟨AT, ct, rfl, _⟩ := ho.t.form
 obtain ⟨AS, cs, rfl, _⟩ := ho.s.form
 obtain ⟨AF, cf, rfl, _⟩ := ho.f.form
 obtain ⟨bp, bcap, rfl, _⟩ := hb.form
 have HZ := hID hZ
 have HO := hID ho
 have HBY := hID hb
 have HB8 := hID hb8
 have HCB := hID hcb
 have HC8 := hID hc8
 clear hZ ho hb hb8 hcb hc8
 have hen : Frame.enter Tryz.prog 6 #[.agg #[.slice AI ids.length ci, .int .i64 wd, .slice AT T.length ct, .slice AS S.length cs, .slice AF F.length cf], .slice bp B.length bcap, .int .u8 (cut : Int)] .normal = (base 6).at ⟨#[.agg #[.slice AI ids.length ci, .int .i64 wd, .slice AT T.length ct, .slice AS S.length cs, .slice AF F.length cf], .slice bp B.length bcap, .int .u8 (cut : Int), undef, undef, undef, undef, undef, undef, undef, undef, undef, undef, undef, undef, undef, undef, undef, undef, undef, undef, undef, undef, undef, undef, undef, undef, undef, undef, undef, undef, undef, undef, undef, undef, undef, undef, undef, undef, undef, undef, undef, undef, undef, undef, undef, undef, undef, undef, undef, undef, undef, undef, undef, undef, undef, undef, undef, undef, undef, undef, undef, undef, undef, undef, undef, undef, undef, undef, undef, undef, undef, undef, undef, undef, undef, undef, undef, undef, undef, undef, undef, undef, undef, undef, undef, undef, undef, undef, undef, undef, undef, undef, undef, undef], []⟩ [.code qel] := by
  have h := enter_at (P := Tryz.prog) #[.agg #[.slice AI ids.length ci, .int .i64 wd, .slice AT T.length ct, .slice AS S.length cs, .slice AF F.length cf], .slice bp B.length bcap, .int .u8 (cut : Int)] Tryz.func6 (c := qel) rfl
  simp only [Tryz.ntmps6, List.size_toArray, List.length_cons, List.length_nil, Nat.reduceAdd, Nat.reduceSub, Array.replicate_succ, Array.replicate_zero, List.push_toArray, List.append_toArray, List.nil_append, List.cons_append] at h
  exact h
 unfold qe1
 rw [hen]
 generalize hbb : base 6 = b
 have hbf : b.fn = 6 := by rw [← hbb]; rfl
 have hbn : b.kind = .normal := by rw [← hbb]; rfl
 clear hen hbb
 simp only [qel, Tryz.f6, Option.getD_some]
 -- the box
 refine Go0.seq mild (Go0.wpQ mild fun Q hQ V hV => ?_)
 have HQ := hID hQ
 have HL := hID ((Lies.same hV).alloc (.cells #[.slice AI ids.length ci, .int .i64 wd, .slice AT T.length ct, .slice AS S.length cs, .slice AF F.length cf] 25))
 have HS := hID (Blk.new V 25 #[.slice AI ids.length ci, .int .i64 wd, .slice AT T.length ct, .slice AS S.length cs, .slice AF F.length cf])
 clear hQ hV
 go_wp2_with fail
 refine HQ.out _ _ _ ?_
 clear HQ
 show Go0 _ _ _ _
 revert HL HS
 generalize V.heap.size = sB
 generalize World.alloc V _ = u0
 intro HL HS
 -- what is left out
 refine Go0.seq mild (Go0.seq mild (Go0.wpQ mild fun Q hQ V hV => ?_))
 have HQ := hID hQ
 have l := Lies.same hV
 replace HL := hID (HL.out.trans l)
 replace HS := hID (l.blk HS.out)
 clear hQ hV l u0
 have c0 := HS.out.cell 0
 have c1 := HS.out.cell 1
 have c2 := HS.out.cell 2
 have c3 := HS.out.cell 3
 have c4 := HS.out.cell 4
 go_wp2_with fail
 refine (qjl AI AT AS AF ids.length T.length S.length F.length ci ct cs cf wd V).mono ?_
 rintro e u1 ⟨⟨q, rfl, hq⟩, o1⟩
 have l := Lies.of' o1
 replace HL := hID (HL.out.trans l)
 replace HS := hID (l.blk HS.out)
 have HQL := hID hq
 clear hq o1 l c0 c1 c2 c3 c4
 cases q
 case true =>
  go_wp2_with fail
  refine HQ.out _ _ _ ?_
  show Go0 _ _ _ _
  refine Go0.cond mild (t := true) rfl ?_
  exact qbp (HL.out.tz HZ.out) HL.out hbn rfl (by rw [hbf]; exact Tryz.func6) (by rw [hbf]; kernel_rfl) rfl rfl rfl rfl rfl rfl rfl (by simp) (by simp)
 case false =>
  have HLIM := hID (HQL.out rfl)
  by_cases h60 : 60 < B.length
  ·have d1 : decide ((60 : Int) < (B.length : Int)) = true := dcT
   have d1n : decide (60 < B.length) = true := decide_eq_true h60
   go_wp2_with fail
   refine HQ.out _ _ _ ?_
   show Go0 _ _ _ _
   refine Go0.cond mild (t := true) rfl ?_
   exact qbp (HL.out.tz HZ.out) HL.out hbn rfl (by rw [hbf]; exact Tryz.func6) (by rw [hbf]; kernel_rfl) rfl rfl rfl rfl rfl rfl rfl (by simp) (by simp)
  ·have d1 : decide ((60 : Int) < (B.length : Int)) = false := dcF
   have d1n : decide (60 < B.length) = false := decide_eq_false h60
   go_wp2_with fail
   refine HQ.out _ _ _ ?_
   show Go0 _ _ _ _
   refine Go0.cond mild (t := false) rfl (Go0.skip mild ?_)
   exact quz HZ.out HO.out HBY.out HB8.out HCB.out HC8.out HLIM.out (by omega) hbf hbn HL.out HS.out _ _ _ _ _ _ _
end Go.Proofs.YtlgjaefcfnndhaaGreatDoor
