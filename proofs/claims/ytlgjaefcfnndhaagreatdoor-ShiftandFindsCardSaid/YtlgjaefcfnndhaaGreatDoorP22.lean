/-
 shiftand's watch, in company: what it sends.
-/
import Derived.Test.YtlgjaefcfnndhaaGreatDoorP20
import Derived.Test.YtlgjaefcfnndhaaGreatDoorP21
import Derived.Test.YtlgjaefcfnndhaaGreatDoorP11
set_option linter.unusedVariables false
set_option linter.unusedSimpArgs false
set_option maxHeartbeats 16000000
set_option maxRecDepth 100000
namespace Go.Proofs.YtlgjaefcfnndhaaGreatDoor
section
open Go.RowKit Go.Conc Go.Pip
noncomputable def wBot : Frame := { (default : Frame) with fn := Tryz.prog.funcs.size, defers := [], mode := .panicking [goexitEntry] }
noncomputable def wFr : Frame := { (default : Frame) with fn := 54, kind := .deferred }
noncomputable def wBody : Code := Tryz.f54.body.getD .skip
noncomputable def wR11 : Code := match wBody with | .seq _ (.seq _ r) => r | _ => .skip
noncomputable def wL1 : Code := match wBody with | .seq _ (.seq (.seq _ (.block _ (.loop c))) _) => c | _ => .skip
noncomputable def wR10 : Code := match wL1 with | .seq _ (.seq _ (.seq _ r)) => r | _ => .skip
noncomputable def wL2 : Code := match wL1 with | .seq _ (.seq _ (.seq (.block _ (.seq _ (.seq _ (.seq _ (.block _ (.loop c)))))) _)) => c | _ => .skip
noncomputable def wR9 : Code := match wL2 with | .seq _ (.seq _ (.seq _ r)) => r | _ => .skip
noncomputable def wOps8 : Array Oper := match wL2 with | .seq _ (.seq _ (.seq (.block _ (.seq _ (.region _ ops _))) _)) => ops | _ => #[]
noncomputable def q26 : Array Oper := match wR11 with | .region _ ops _ => ops | _ => #[]
def hitV (at_ : Int) (r : Nat) : Value := .agg #[.int .i64 at_, .int .i64 (r : Int)]
def qev (T S F : List Nat) (W n : Nat) : List Nat → List Nat → Int → List Value
 | [], _, _ => []
 | b :: bs, X, at_ => (hitsN F (rdTo W T S X b W) W n).map (hitV (IntKind.i64.wrap (at_ + 1))) ++ qev T S F W n bs (rdTo W T S X b W) (IntKind.i64.wrap (at_ + 1))
def qat (T S : List Nat) (W : Nat) : List Nat → List Nat → List Nat
 | [], X => X
 | b :: bs, X => qat T S W bs (rdTo W T S X b W)
def atV : List Nat → Int → Int
 | [], a => a
 | _ :: bs, a => atV bs (IntKind.i64.wrap (a + 1))
theorem qdz (W : Nat) (T S X : List Nat) (b j : Nat) : (rdTo W T S X b j).length = W := by simp [rdTo]
theorem qlj {W : Nat} {T S X : List Nat} {b j : Nat} (hX : ∀ x ∈ X, x < 18446744073709551616) (hT : ∀ x ∈ T, x < 18446744073709551616) : ∀ x ∈ rdTo W T S X b j, x < 18446744073709551616 := by
 intro x hx
 simp only [rdTo, List.mem_map] at hx
 obtain ⟨i, _, rfl⟩ := hx
 split
 ·unfold nxN
  exact Nat.lt_of_le_of_lt Nat.and_le_right (qbp hT _)
 ·exact qbp hX _
variable {K : Cfg}
theorem qzm {w0 : World} {aB rB rcap : Nat} (g : Geo K w0.heap.size aB rB) {VT VS VF : Value} {vi : Option Addr} {vic n W : Nat} {X : List Nat} {at_ : Int} {bp : Option Addr} {bcap ib : Nat} (B : List Nat) (vs : List Value) (hs : List Nat) (hsl : hs.length ≤ 65536)
  (hnext : ∃ m, ∀ (v3 v4 v5 v7 v8 v9 v10 v11 v12 v16 v17 v18 v19 v20 v21 v22 v23 v24 v25 v26 v27 v28 v29 v30 v31 v32 v33 v34 v35 v36 v37 v38 : Value) (out : Value) (xs : List Value) (w : World), HitW K w0 aB rB rcap (.slice vi n vic) VT VS VF W X at_ out xs w →
   Goes Tryz.prog false (SuffB K) (DB K) (StopB K Tryz.prog vs) m (G (wFr.at ⟨#[.pointer (some ⟨aB, 0, none⟩), .slice bp B.length bcap, .chan (some K.c), v3, v4, v5, .func (.func 48) #[.pointer (some ⟨aB, 0, none⟩)] #[], v7, v8, v9, v10, v11, v12, .slice bp B.length bcap, .int .i64 (B.length : Int), .int .i64 (ib : Int), v16, v17, v18, v19, v20, v21, v22, v23, v24, v25, v26, v27, v28, v29, v30, v31, v32, v33, v34, v35, v36, v37, v38], []⟩ [.code wR10, .inLoop wL1, .inBlock 0, .code wR11]) [wBot]) w) :
  ∀ (rs pre : List Nat), hs = pre ++ rs → ∃ m, ∀ (v3 v4 v5 v7 v8 v9 v10 v11 v12 v16 v17 v18 v19 v20 v21 v22 v26 v27 v28 v29 v30 v31 v32 v33 v34 v35 v36 v37 v38 : Value) (out : Value) (w : World), HitW K w0 aB rB rcap (.slice vi n vic) VT VS VF W X at_ out (qa8 hs) w →
   Goes Tryz.prog false (SuffB K) (DB K) (StopB K Tryz.prog (rs.map (hitV at_) ++ vs)) m (G (wFr.at ⟨#[.pointer (some ⟨aB, 0, none⟩), .slice bp B.length bcap, .chan (some K.c), v3, v4, v5, .func (.func 48) #[.pointer (some ⟨aB, 0, none⟩)] #[], v7, v8, v9, v10, v11, v12, .slice bp B.length bcap, .int .i64 (B.length : Int), .int .i64 (ib : Int), v16, v17, v18, v19, v20, v21, v22, out, .int .i64 (hs.length : Int), .int .i64 (pre.length : Int), v26, v27, v28, v29, v30, v31, v32, v33, v34, v35, v36, v37, v38], []⟩ [.code wL2, .inLoop wL2, .inBlock 2, .inBlock 1, .code wR10, .inLoop wL1, .inBlock 0, .code wR11]) [wBot]) w := by
 have evs1 : ∀ (w' : World) (es : Array Event), (∀ e ∈ es, EvB K w' e) → DB K w' w' es := fun w' es h => ⟨SuffA.refl _, rfl, h⟩
 intro rs
 induction rs with
 | nil =>
  intro pre hpre
  obtain ⟨m, hm⟩ := hnext
  have hlen : (hs.length : Int) = (pre.length : Int) := by rw [hpre]; simp
  co_apply Exists.intro
  intro v3 v4 v5 v7 v8 v9 v10 v11 v12 v16 v17 v18 v19 v20 v21 v22 v26 v27 v28 v29 v30 v31 v32 v33 v34 v35 v36 v37 v38 out w hF
  simp only [wL2, wL1, wBody, Tryz.f54, Option.getD_some]
  co_apply qbk qaa
  co_apply qay qaa
  simp only [List.size_toArray, List.length_cons, List.length_nil, Nat.reduceAdd, Nat.zero_add, List.range, List.range.loop]
  co_apply gs_op rfl (by rfl) (by decide)
  intro _ hR K' hK
  replace hF := HitW.rely g hF hR
  clear hR
  (skip)
  go_simp
  refine hK _ _ ⟨?_, ?_⟩
  ·(co_quiet qaa)
  clear hK K'
  try walk_nrm
  co_apply qbx qaa
  co_apply qbk qaa
  co_apply qgb qaa (t := false) (by simp [Act.eval, hlen])
  simp only [if_false, Bool.false_eq_true, reduceIte]
  co_apply qqu qaa rfl
  co_apply qgt qaa
  simp only [wL1, wBody, Tryz.f54, Option.getD_some] at hm
  exact hm _ _ _ _ _ _ _ _ _ _ _ _ _ _ _ _ _ _ _ _ _ _ _ _ _ _ _ _ _ _ _ _ _ _ _ hF
 | cons r rs ih =>
  intro pre hpre
  obtain ⟨m, hm⟩ := ih (pre ++ [r]) (by rw [hpre]; simp)
  have hlen : (pre.length : Int) < (hs.length : Int) := by rw [hpre]; simp; omega
  have hget : (qa8 hs)[pre.length]? = some (.int .i64 (r : Int)) := by rw [hpre]; simp [qa8]
  have hpl1 : (pre ++ [r]).length = pre.length + 1 := by simp
  rw [hpl1] at hm
  have E9 : IntKind.i64.wrap ((pre.length : Int) + 1) = (pre.length : Int) + 1 := by rw [IntKind.wrap_i64]; omega
  generalize pre.length = pl at hm hlen hget E9 ⊢
  clear ih hnext hpre hpl1
  have hrl : (qa8 hs).length = hs.length := by simp [qa8]
  co_apply Exists.intro
  intro v3 v4 v5 v7 v8 v9 v10 v11 v12 v16 v17 v18 v19 v20 v21 v22 v26 v27 v28 v29 v30 v31 v32 v33 v34 v35 v36 v37 v38 out w hF
  rcases hF.own.2 with ⟨_, h0⟩ | ⟨gb, gcap, cur, rfl, hgL, _⟩
  ·exfalso; omega
  have q6 : ∀ {out : Value} {xs : List Value} (w' : World), HitW K w0 aB rB rcap (.slice vi n vic) VT VS VF W X at_ out xs w' → w'.cell? ⟨aB, 6, none⟩ = some (.int .i64 at_) := fun w' h => (h.au.au.cell 6).trans rfl
  have qh : ∀ (w' : World), HitW K w0 aB rB rcap (.slice vi n vic) VT VS VF W X at_ (.slice (some ⟨gb, 0, none⟩) (qa8 hs).length gcap) (qa8 hs) w' → w'.cell? ⟨gb, pl, none⟩ = some (.int .i64 (r : Int)) := fun w' h => by
   have := h.own.cells (g := gb) rfl _ _ hget
   simpa only [Addr.add_lit, Nat.zero_add] using this
  simp only [wL2, wL1, wBody, Tryz.f54, Option.getD_some]
  co_apply qbk qaa
  co_apply qay qaa
  simp only [List.size_toArray, List.length_cons, List.length_nil, Nat.reduceAdd, Nat.zero_add, List.range, List.range.loop]
  co_apply gs_op rfl (by rfl) (by decide)
  intro _ hR K' hK
  replace hF := HitW.rely g hF hR
  clear hR
  (skip)
  go_simp
  refine hK _ _ ⟨?_, ?_⟩
  ·(co_quiet qaa)
  clear hK K'
  try walk_nrm
  co_apply qbx qaa
  co_apply qbk qaa
  co_apply qgb qaa (t := true) (by simp [Act.eval, hlen])
  simp only [if_true]
  co_apply qlh qaa
  co_apply qbk qaa
  co_apply qdy qaa
  co_apply qbk qaa
  co_apply qay qaa
  simp only [List.size_toArray, List.length_cons, List.length_nil, Nat.reduceAdd, Nat.zero_add, List.range, List.range.loop]
  co_apply gs_op rfl (by rfl) (by decide)
  intro _ hR K' hK
  replace hF := HitW.rely g hF hR
  clear hR
  (have hjl : (pl : Int) < (hs.length : Int) := hlen)
  go_simp
  refine hK _ _ ⟨?_, ?_⟩
  ·(co_still qaa)
  clear hK K'
  try walk_nrm
  co_apply gs_op rfl (by rfl) (by decide)
  intro _ hR K' hK
  replace hF := HitW.rely g hF hR
  clear hR
  (have hc := qh _ hF)
  go_simp
  refine hK _ _ ⟨?_, ?_⟩
  ·(refine evs1 _ _ ?_; co_evs (exact qn7 rfl (qc8 (by rw [g.hit]; decide) hF.own _ rfl).2 (hF.own.lt _ rfl).2))
  clear hK K'
  try walk_nrm
  clear hc
  co_apply gs_op rfl (by rfl) (by decide)
  intro _ hR K' hK
  replace hF := HitW.rely g hF hR
  clear hR
  (skip)
  go_simp
  refine hK _ _ ⟨?_, ?_⟩
  ·(co_quiet qaa)
  clear hK K'
  try walk_nrm
  co_apply qbx qaa
  co_apply qay qaa
  simp only [List.size_toArray, List.length_cons, List.length_nil, Nat.reduceAdd, Nat.zero_add, List.range, List.range.loop]
  co_apply gs_op rfl (by rfl) (by decide)
  intro _ hR K' hK
  replace hF := HitW.rely g hF hR
  clear hR
  (skip)
  go_simp
  refine hK _ _ ⟨?_, ?_⟩
  ·(co_quiet qaa)
  clear hK K'
  try walk_nrm
  co_apply gs_op rfl (by rfl) (by decide)
  intro _ hR K' hK
  replace hF := HitW.rely g hF hR
  clear hR
  (skip)
  go_simp
  refine hK _ _ ⟨?_, ?_⟩
  ·(co_quiet qaa)
  clear hK K'
  try walk_nrm
  co_apply gs_op rfl (by rfl) (by decide)
  intro _ hR K' hK
  replace hF := HitW.rely g hF hR
  clear hR
  (skip)
  go_simp
  refine hK _ _ ⟨?_, ?_⟩
  ·(co_still qaa)
  clear hK K'
  try walk_nrm
  co_apply gs_op rfl (by rfl) (by decide)
  intro _ hR K' hK
  replace hF := HitW.rely g hF hR
  clear hR
  (skip)
  go_simp
  refine hK _ _ ⟨?_, ?_⟩
  ·(co_still qaa)
  clear hK K'
  try walk_nrm
  co_apply gs_op rfl (by rfl) (by decide)
  intro _ hR K' hK
  replace hF := HitW.rely g hF hR
  clear hR
  (have hc := q6 _ hF)
  go_simp
  refine hK _ _ ⟨?_, ?_⟩
  ·(refine evs1 _ _ ?_; co_evs (exact qbf _ _ g.aL (by have := hF.au.au.lt; simpa using this)))
  clear hK K'
  try walk_nrm
  clear hc
  co_apply gs_op rfl (by rfl) (by decide)
  intro _ hR K' hK
  replace hF := HitW.rely g hF hR
  clear hR
  (skip)
  go_simp
  refine hK _ _ ⟨?_, ?_⟩
  ·(co_quiet qaa)
  clear hK K'
  try walk_nrm
  co_apply gs_op rfl (by rfl) (by decide)
  intro _ hR K' hK
  replace hF := HitW.rely g hF hR
  clear hR
  (skip)
  go_simp
  refine hK _ _ ⟨?_, ?_⟩
  ·(co_still qaa)
  clear hK K'
  try walk_nrm
  -- the send
  refine Goes.stop (n := 0) fun w₁ h₁ => ?_
  refine ⟨rfl, _, .tuple #[], _, stepG_comm (cases := #[scase K.c (hitV at_ r) (.tuple #[])]) (blocking := true) (shape := .send) (w' := w₁) rfl (by rfl) (by decide) (by simp [execOp, scase, Act.eval, hitV]), ?_, ?_⟩
  ·intro e he
   simp [listed, execOp, seen] at he
  intro w₂ h₂
  replace hF := HitW.rely g (HitW.rely g hF h₁) h₂
  clear h₁ h₂
  refine (Pip.sends_iff K Tryz.prog _ _ _).2 ?_
  co_apply Exists.intro
  rw [served_G]
  simp only [Option.bind, List.getElem?_toArray, List.getElem?_cons_succ, List.getElem?_cons_zero, Act.put]
  co_apply qbx qaa
  co_apply qgt qaa
  co_apply qay qaa
  simp only [List.size_toArray, List.length_cons, List.length_nil, Nat.reduceAdd, Nat.zero_add, List.range, List.range.loop]
  co_apply gs_op rfl (by rfl) (by decide)
  intro _ hR K' hK
  replace hF := HitW.rely g hF hR
  clear hR
  (skip)
  go_simp
  refine hK _ _ ⟨?_, ?_⟩
  ·(co_still qaa)
  clear hK K'
  try walk_nrm
  co_apply gs_op rfl (by rfl) (by decide)
  intro _ hR K' hK
  replace hF := HitW.rely g hF hR
  clear hR
  (skip)
  go_simp
  refine hK _ _ ⟨?_, ?_⟩
  ·(co_quiet qaa)
  clear hK K'
  try walk_nrm
  co_apply qbx qaa
  co_apply qhv qaa
  simp only [wL2, wL1, wBody, Tryz.f54, Option.getD_some] at hm
  exact hm _ _ _ _ _ _ _ _ _ _ _ _ _ _ _ _ _ _ _ _ _ _ _ _ _ _ _ _ _ _ _ (by rw [hrl] at hF; exact hF)
theorem qzn (a : Act) (ops : Array Oper) (hd : a.defers = []) : QuitsIn Tryz.prog 4 (G (wFr.at a [.inRegion ops []]) [wBot]) := by
 refine .inr ⟨rfl, _, fun w => stepG_region_end, ?_⟩
 refine .inr ⟨rfl, _, fun w => stepG_end, ?_⟩
 refine .inr ⟨rfl, G wBot [], fun w => ?_, ?_⟩
 ·simp [G, stepG, unwind, doReturn, results, Frame.at, hd, wFr, wBot, Tryz.func54, Tryz.f54, seen, GStep.after, goexitEntry]
 refine .inr ⟨rfl, { G wBot [] with status := .finished }, fun w => ?_, rfl⟩
 simp [G, stepG, unwind, wBot, goexitEntry, Frame.catches]
 rfl
theorem qzo {w0 : World} {aB rB rcap : Nat} (g : Geo K w0.heap.size aB rB) {VT VS VF : Value} {vi : Option Addr} {vic n W : Nat} {bp : Option Addr} {bcap : Nat} (B T S F : List Nat) (hB256 : ∀ b ∈ B, b < 256) (hBl : B.length ≤ 65536)
  (hbp : 0 < B.length → ∃ bb bo, bp = some ⟨bb, bo, none⟩ ∧ bb < w0.heap.size ∧ ∀ w : World, (∀ c, c < w0.heap.size → w.heap[c]? = w0.heap[c]?) → ∀ j, j < B.length → w.cell? ⟨bb, bo + j, none⟩ = some (.int .u8 ((B.getD j 0 : Nat) : Int)))
  (hW : 1 ≤ W) (hW4 : W ≤ 4) (hn : 1 ≤ n) (hnL : n ≤ 65536) (hT : T.length = 256 * W) (hS : S.length = W) (hFl : F.length = n * W)
  (hvt : Rd w0 (fun _ => True) 1 VT T.length (qab T)) (hvs : Rd w0 (fun _ => True) 1 VS S.length (qab S)) (hvf : Rd w0 (fun _ => True) 1 VF F.length (qab F)) (hT64 : ∀ x ∈ T, x < 18446744073709551616) (hS64 : ∀ x ∈ S, x < 18446744073709551616) (hF64 : ∀ x ∈ F, x < 18446744073709551616) :
  ∀ (bs pre X : List Nat) (at_ : Int), B = pre ++ bs → X.length = W → (∀ x ∈ X, x < 18446744073709551616) → (∀ w, AutW w0 K.Low aB rB rcap (.slice vi n vic) VT VS VF W (qat T S W bs X) (atV bs at_) w → K.J w) →
  ∃ m, ∀ (v3 v4 v5 v7 v8 v9 v10 v11 v12 v16 v17 v18 v19 v20 v21 v22 v23 v24 v25 v26 v27 v28 v29 v30 v31 v32 v33 v34 v35 v36 v37 v38 : Value) (out : Value) (xs : List Value) (w : World), HitW K w0 aB rB rcap (.slice vi n vic) VT VS VF W X at_ out xs w →
   Goes Tryz.prog false (SuffB K) (DB K) (StopB K Tryz.prog (qev T S F W n bs X at_)) m (G (wFr.at ⟨#[.pointer (some ⟨aB, 0, none⟩), .slice bp B.length bcap, .chan (some K.c), v3, v4, v5, .func (.func 48) #[.pointer (some ⟨aB, 0, none⟩)] #[], v7, v8, v9, v10, v11, v12, .slice bp B.length bcap, .int .i64 (B.length : Int), .int .i64 (pre.length : Int), v16, v17, v18, v19, v20, v21, v22, v23, v24, v25, v26, v27, v28, v29, v30, v31, v32, v33, v34, v35, v36, v37, v38], []⟩ [.code wL1, .inLoop wL1, .inBlock 0, .code wR11]) [wBot]) w := by
 have evs1 : ∀ (w' : World) (es : Array Event), (∀ e ∈ es, EvB K w' e) → DB K w' w' es := fun w' es h => ⟨SuffA.refl _, rfl, h⟩
 intro bs
 induction bs with
 | nil =>
  intro pre X at_ hpre hXl hX64 hJ
  have hlen : (B.length : Int) = (pre.length : Int) := by rw [hpre]; simp
  clear hpre
  co_apply Exists.intro
  intro v3 v4 v5 v7 v8 v9 v10 v11 v12 v16 v17 v18 v19 v20 v21 v22 v23 v24 v25 v26 v27 v28 v29 v30 v31 v32 v33 v34 v35 v36 v37 v38 out xs w hF
  simp only [wL1, wR11, wBody, Tryz.f54, Option.getD_some]
  co_apply qbk qaa
  co_apply qay qaa
  simp only [List.size_toArray, List.length_cons, List.length_nil, Nat.reduceAdd, Nat.zero_add, List.range, List.range.loop]
  co_apply gs_op rfl (by rfl) (by decide)
  intro _ hR K' hK
  replace hF := HitW.rely g hF hR
  clear hR
  (skip)
  go_simp
  refine hK _ _ ⟨?_, ?_⟩
  ·(co_quiet qaa)
  clear hK K'
  try walk_nrm
  co_apply qbx qaa
  co_apply qbk qaa
  co_apply qgb qaa (t := false) (by simp [Act.eval, hlen])
  simp only [if_false, Bool.false_eq_true, reduceIte]
  co_apply qqu qaa rfl
  co_apply qay qaa
  simp only [List.size_toArray, List.length_cons, List.length_nil, Nat.reduceAdd, Nat.zero_add, List.range, List.range.loop]
  co_apply gs_op rfl (by rfl) (by decide)
  intro _ hR K' hK
  replace hF := HitW.rely g hF hR
  clear hR
  (skip)
  go_simp
  refine hK _ _ ⟨?_, ?_⟩
  ·(co_quiet qaa)
  clear hK K'
  try walk_nrm
  -- the close
  refine Goes.stop (n := 0) fun w₁ h₁ => ?_
  replace hF := HitW.rely g hF h₁
  clear h₁
  refine qsm (n := 4) rfl (by rfl) (by decide) (by simp [mayWake, G, Frame.at]) (fun buf s r tm hc => ?_) (fun buf s r tm hc => ?_) (qzn _ _ rfl) (hJ _ hF.au)
  ·have hr := run_close_open (P := Tryz.prog) #[146] 0 hc
   simp [go_sem, hr, World.setChan]
  ·have he := events_close_open (P := Tryz.prog) (es := #[]) #[146] 0 hc
   unfold listed
   rw [show (execOp _ _).events Tryz.prog w₁ #[] = #[⟨.obj K.c, false, true⟩, ⟨.obj K.c, true, true⟩] by simp [go_sem, he]]
   exact seen_eq (by simp [wFr, Tryz.func54, Tryz.f54]) (by simp)
 | cons b bs ih =>
  intro pre X at_ hpre hXl hX64 hJ
  have hBp : 0 < B.length := by rw [hpre, List.length_append, List.length_cons]; omega
  obtain ⟨bb, bo, rfl, hbb, HB⟩ := hbp hBp
  have hb256 : b < 256 := hB256 b (by rw [hpre]; simp)
  obtain ⟨m, hm⟩ := ih (pre ++ [b]) (rdTo W T S X b W) (IntKind.i64.wrap (at_ + 1)) (by rw [hpre]; simp) (qdz ..) (qlj hX64 hT64) hJ
  have hlen : (pre.length : Int) < (B.length : Int) := by rw [hpre]; simp; omega
  have hget : B.getD pre.length 0 = b := by rw [hpre]; simp [gDe]
  have hpl1 : (pre ++ [b]).length = pre.length + 1 := by simp
  rw [hpl1] at hm
  have E9 : IntKind.i64.wrap ((pre.length : Int) + 1) = (pre.length : Int) + 1 := by rw [IntKind.wrap_i64]; omega
  have hbc : ∀ {X : List Nat} {at_ : Int} {out : Value} {xs : List Value} (w' : World), HitW K w0 aB rB rcap (.slice vi n vic) VT VS VF W X at_ out xs w' → w'.cell? ⟨bb, bo + pre.length, none⟩ = some (.int .u8 (b : Int)) := fun w' h => by
   rw [← hget]; exact HB w' h.au.low pre.length (by omega)
  have hbL : bb < K.Low := by have := g.a0; have := g.aL; omega
  generalize pre.length = pl at hm hlen hget E9 hbc ⊢
  clear ih hpre hpl1 HB hget
  have hnx : ∃ m, ∀ (v3 v4 v5 v7 v8 v9 v10 v11 v12 v16 v17 v18 v19 v20 v21 v22 v23 v24 v25 v26 v27 v28 v29 v30 v31 v32 v33 v34 v35 v36 v37 v38 : Value) (out : Value) (xs : List Value) (w : World), HitW K w0 aB rB rcap (.slice vi n vic) VT VS VF W (rdTo W T S X b W) (IntKind.i64.wrap (at_ + 1)) out xs w →
    Goes Tryz.prog false (SuffB K) (DB K) (StopB K Tryz.prog (qev T S F W n bs (rdTo W T S X b W) (IntKind.i64.wrap (at_ + 1)))) m (G (wFr.at ⟨#[.pointer (some ⟨aB, 0, none⟩), .slice (some ⟨bb, bo, none⟩) B.length bcap, .chan (some K.c), v3, v4, v5, .func (.func 48) #[.pointer (some ⟨aB, 0, none⟩)] #[], v7, v8, v9, v10, v11, v12, .slice (some ⟨bb, bo, none⟩) B.length bcap, .int .i64 (B.length : Int), .int .i64 (pl : Int), v16, v17, v18, v19, v20, v21, v22, v23, v24, v25, v26, v27, v28, v29, v30, v31, v32, v33, v34, v35, v36, v37, v38], []⟩ [.code wR10, .inLoop wL1, .inBlock 0, .code wR11]) [wBot]) w := by
   co_apply Exists.intro
   intro v3 v4 v5 v7 v8 v9 v10 v11 v12 v16 v17 v18 v19 v20 v21 v22 v23 v24 v25 v26 v27 v28 v29 v30 v31 v32 v33 v34 v35 v36 v37 v38 out xs w hF
   simp only [wR10, wL1, wR11, wBody, Tryz.f54, Option.getD_some]
   co_apply qay qaa
   simp only [List.size_toArray, List.length_cons, List.length_nil, Nat.reduceAdd, Nat.zero_add, List.range, List.range.loop]
   co_apply gs_op rfl (by rfl) (by decide)
   intro _ hR K' hK
   replace hF := HitW.rely g hF hR
   clear hR
   (skip)
   go_simp
   refine hK _ _ ⟨?_, ?_⟩
   ·(co_still qaa)
   clear hK K'
   try walk_nrm
   co_apply gs_op rfl (by rfl) (by decide)
   intro _ hR K' hK
   replace hF := HitW.rely g hF hR
   clear hR
   (skip)
   go_simp
   refine hK _ _ ⟨?_, ?_⟩
   ·(co_quiet qaa)
   clear hK K'
   try walk_nrm
   co_apply qbx qaa
   co_apply qhv qaa
   simp only [wL1, wR11, wBody, Tryz.f54, Option.getD_some] at hm
   exact hm _ _ _ _ _ _ _ _ _ _ _ _ _ _ _ _ _ _ _ _ _ _ _ _ _ _ _ _ _ _ _ _ _ _ _ hF
  obtain ⟨m2, hm2⟩ := qzm g (ib := pl) (bp := some ⟨bb, bo, none⟩) (bcap := bcap) B _ (hitsN F (rdTo W T S X b W) W n) (Nat.le_trans (qfm ..) hnL) hnx (hitsN F (rdTo W T S X b W) W n) [] rfl
  clear hm hnx
  obtain ⟨kr, hkr⟩ := qu0 (rcap := rcap) (L := K.Low) g (.slice vi n vic) VT VS VF W T S hW hW4 hT hS hvt hvs hT64 hS64 b hb256
  obtain ⟨kh, hkh⟩ := qu1 (rcap := rcap) g (.slice vi n vic) VT VS VF W n F hW hW4 hn hnL hFl ⟨_, _, rfl⟩ hvf hF64
  co_apply Exists.intro
  intro v3 v4 v5 v7 v8 v9 v10 v11 v12 v16 v17 v18 v19 v20 v21 v22 v23 v24 v25 v26 v27 v28 v29 v30 v31 v32 v33 v34 v35 v36 v37 v38 out xs w hF
  simp only [wL1, wR11, wBody, Tryz.f54, Option.getD_some]
  co_apply qbk qaa
  co_apply qay qaa
  simp only [List.size_toArray, List.length_cons, List.length_nil, Nat.reduceAdd, Nat.zero_add, List.range, List.range.loop]
  co_apply gs_op rfl (by rfl) (by decide)
  intro _ hR K' hK
  replace hF := HitW.rely g hF hR
  clear hR
  (skip)
  go_simp
  refine hK _ _ ⟨?_, ?_⟩
  ·(co_quiet qaa)
  clear hK K'
  try walk_nrm
  co_apply qbx qaa
  co_apply qbk qaa
  co_apply qgb qaa (t := true) (by simp [Act.eval, hlen])
  simp only [if_true]
  co_apply qlh qaa
  co_apply qbk qaa
  co_apply qdy qaa
  co_apply qbk qaa
  co_apply qay qaa
  simp only [List.size_toArray, List.length_cons, List.length_nil, Nat.reduceAdd, Nat.zero_add, List.range, List.range.loop]
  co_apply gs_op rfl (by rfl) (by decide)
  intro _ hR K' hK
  replace hF := HitW.rely g hF hR
  clear hR
  (have hjl : (pl : Int) < (B.length : Int) := hlen)
  go_simp
  refine hK _ _ ⟨?_, ?_⟩
  ·(co_still qaa)
  clear hK K'
  try walk_nrm
  co_apply gs_op rfl (by rfl) (by decide)
  intro _ hR K' hK
  replace hF := HitW.rely g hF hR
  clear hR
  (have hc := hbc _ hF)
  go_simp
  refine hK _ _ ⟨?_, ?_⟩
  ·(refine evs1 _ _ ?_; co_evs (exact qbf _ _ hbL (by have := hF.au.size; simp; omega)))
  clear hK K'
  try walk_nrm
  clear hc
  co_apply gs_op rfl (by rfl) (by decide)
  intro _ hR K' hK
  replace hF := HitW.rely g hF hR
  clear hR
  (skip)
  go_simp
  refine hK _ _ ⟨?_, ?_⟩
  ·(co_quiet qaa)
  clear hK K'
  try walk_nrm
  co_apply qbx qaa
  co_apply qbk qaa
  co_apply qay qaa
  simp only [List.size_toArray, List.length_cons, List.length_nil, Nat.reduceAdd, Nat.zero_add, List.range, List.range.loop]
  co_apply gs_op rfl (by rfl) (by decide)
  intro _ hR K' hK
  replace hF := HitW.rely g hF hR
  clear hR
  (skip)
  go_simp
  refine hK _ _ ⟨?_, ?_⟩
  ·(co_quiet qaa)
  clear hK K'
  try walk_nrm
  co_apply gs_op rfl (by rfl) (by decide)
  intro _ hR K' hK
  replace hF := HitW.rely g hF hR
  clear hR
  (skip)
  go_simp
  refine hK _ _ ⟨?_, ?_⟩
  ·(co_quiet qaa)
  clear hK K'
  try walk_nrm
  -- read
  co_apply qn9 qaa (f := 48) (args := #[.pointer (some ⟨aB, 0, none⟩), .int .u8 (b : Int)]) rfl (by rfl) (by decide) (by intro w; simp [execOp, Act.eval, go_sem]) (by intro w; simp [execOp, Act.eval, go_sem, callFunc, Tryz.func48, Tryz.f48]) (hkr _ _ _ hXl hX64 hF.au)
  intro v w' hp
  obtain ⟨rfl, hA⟩ := hp
  clear hF
  have hF : HitW K w0 aB rB rcap (.slice vi n vic) VT VS VF W (rdTo W T S X b W) (IntKind.i64.wrap (at_ + 1)) (.slice none 0 0) [] w' := ⟨hA, hA.big, World.ownsRow_nil _ _ _ _⟩
  clear hA
  try walk_nrm
  co_apply qbx qaa
  co_apply qbk qaa
  co_apply qay qaa
  simp only [List.size_toArray, List.length_cons, List.length_nil, Nat.reduceAdd, Nat.zero_add, List.range, List.range.loop]
  co_apply gs_op rfl (by rfl) (by decide)
  intro _ hR K' hK
  replace hF := HitW.rely g hF hR
  clear hR
  (skip)
  go_simp
  refine hK _ _ ⟨?_, ?_⟩
  ·(co_quiet qaa)
  clear hK K'
  try walk_nrm
  -- hits
  co_apply qn9 qaa (f := 51) (args := #[.pointer (some ⟨aB, 0, none⟩)]) rfl (by rfl) (by decide) (by intro w; simp [execOp, Act.eval, go_sem]) (by intro w; simp [execOp, Act.eval, go_sem, callFunc, Tryz.func51, Tryz.f51]) (hkh _ _ _ (qdz ..) (qlj hX64 hT64) hF.low hF.au)
  intro hv w' hp
  clear hF
  have hF := hp
  clear hp
  obtain ⟨hA, hcap, rfl⟩ : ∃ A c, hv = .slice A (hitsN F (rdTo W T S X b W) W n).length c := by
   have hrl : (qa8 (hitsN F (rdTo W T S X b W) W n)).length = (hitsN F (rdTo W T S X b W) W n).length := by simp [qa8]
   rcases hF.own.2 with ⟨rfl, h0⟩ | ⟨gb, gcap, cur, rfl, _⟩
   ·exact ⟨none, 0, by rw [← hrl, h0]⟩
   ·exact ⟨_, _, by rw [hrl]⟩
  try walk_nrm
  co_apply gs_op rfl (by rfl) (by decide)
  intro _ hR K' hK
  replace hF := HitW.rely g hF hR
  clear hR
  (skip)
  go_simp
  refine hK _ _ ⟨?_, ?_⟩
  ·(co_quiet qaa)
  clear hK K'
  try walk_nrm
  co_apply gs_op rfl (by rfl) (by decide)
  intro _ hR K' hK
  replace hF := HitW.rely g hF hR
  clear hR
  (skip)
  go_simp
  refine hK _ _ ⟨?_, ?_⟩
  ·(co_quiet qaa)
  clear hK K'
  try walk_nrm
  co_apply qbx qaa
  co_apply qdy qaa
  co_apply qli qaa
  simp only [wR10, wL2, wL1, wR11, wBody, Tryz.f54, Option.getD_some] at hm2
  exact hm2 _ _ _ _ _ _ _ _ _ _ _ _ _ _ _ _ _ _ _ _ _ _ _ _ _ _ _ _ _ _ _ hF
def wCall (aB c : Nat) (bp : Option Addr) (L bcap : Nat) : Deferred := { target := .fn (.func 54) #[], args := #[.pointer (some ⟨aB, 0, none⟩), .slice bp L bcap, .chan (some c)] }
theorem q1g {aB c : Nat} {bp : Option Addr} {L bcap : Nat} (w : World) : stepG Tryz.prog false (born Tryz.prog (wCall aB c bp L bcap)) w =
  .go (G (wFr.at ⟨#[.pointer (some ⟨aB, 0, none⟩), .slice bp L bcap, .chan (some c), undef, undef, undef, undef, undef, undef, undef, undef, undef, undef, undef, undef, undef, undef, undef, undef, undef, undef, undef, undef, undef, undef, undef, undef, undef, undef, undef, undef, undef, undef, undef, undef, undef, undef, undef, undef], []⟩ [.code wBody]) [wBot]) w #[] := by
 have h := qu2 (P := Tryz.prog) (main := false) (args := #[.pointer (some ⟨aB, 0, none⟩), .slice bp L bcap, .chan (some c)]) Tryz.func54 rfl (c := wBody) rfl w
 simp only [Tryz.ntmps54, List.size_toArray, List.length_cons, List.length_nil, Nat.reduceAdd, Nat.reduceSub, Array.replicate_succ, Array.replicate_zero, List.push_toArray, List.append_toArray, List.nil_append, List.cons_append] at h
 exact h
theorem qzp {w0 : World} {aB rB rcap : Nat} (g : Geo K w0.heap.size aB rB) {VT VS VF : Value} {vi : Option Addr} {vic n W : Nat} {bp : Option Addr} {bcap : Nat} (B T S F : List Nat) (hB256 : ∀ b ∈ B, b < 256) (hBl : B.length ≤ 65536)
  (hbp : 0 < B.length → ∃ bb bo, bp = some ⟨bb, bo, none⟩ ∧ bb < w0.heap.size ∧ ∀ w : World, (∀ c, c < w0.heap.size → w.heap[c]? = w0.heap[c]?) → ∀ j, j < B.length → w.cell? ⟨bb, bo + j, none⟩ = some (.int .u8 ((B.getD j 0 : Nat) : Int)))
  (hW : 1 ≤ W) (hW4 : W ≤ 4) (hn : 1 ≤ n) (hnL : n ≤ 65536) (hT : T.length = 256 * W) (hS : S.length = W) (hFl : F.length = n * W)
  (hvt : Rd w0 (fun _ => True) 1 VT T.length (qab T)) (hvs : Rd w0 (fun _ => True) 1 VS S.length (qab S)) (hvf : Rd w0 (fun _ => True) 1 VF F.length (qab F)) (hT64 : ∀ x ∈ T, x < 18446744073709551616) (hS64 : ∀ x ∈ S, x < 18446744073709551616) (hF64 : ∀ x ∈ F, x < 18446744073709551616) (X : List Nat) (at_ : Int) (hXl : X.length = W) (hX64 : ∀ x ∈ X, x < 18446744073709551616) (hJ : ∀ w, AutW w0 K.Low aB rB rcap (.slice vi n vic) VT VS VF W (qat T S W B X) (atV B at_) w → K.J w)
  (w : World) (hA : AutW w0 K.Low aB rB rcap (.slice vi n vic) VT VS VF W X at_ w) : Sends K Tryz.prog (qev T S F W n B X at_) (born Tryz.prog (wCall aB K.c bp B.length bcap)) w := by
 obtain ⟨m, hm⟩ := qzo (rcap := rcap) (bcap := bcap) g B T S F hB256 hBl hbp hW hW4 hn hnL hT hS hFl hvt hvs hvf hT64 hS64 hF64 B [] X at_ rfl hXl hX64 hJ
 have hF : HitW K w0 aB rB rcap (.slice vi n vic) VT VS VF W X at_ (.slice none 0 0) [] w := ⟨hA, hA.big, World.ownsRow_nil _ _ _ _⟩
 clear hA
 refine (Pip.sends_iff K Tryz.prog _ _ _).2 ?_
 co_apply Exists.intro
 co_apply Goes.step rfl
 intro w₁ h₁
 rw [q1g]
 refine ⟨Terms.idle qaa _, ?_⟩
 replace hF := HitW.rely g hF h₁
 clear h₁
 simp only [wL1, wR11, wBody, Tryz.f54, Option.getD_some]
 co_apply qbk qaa
 co_apply qay qaa
 simp only [List.size_toArray, List.length_cons, List.length_nil, Nat.reduceAdd, Nat.zero_add, List.range, List.range.loop]
 co_apply gs_op rfl (by rfl) (by decide)
 intro _ hR K' hK
 replace hF := HitW.rely g hF hR
 clear hR
 (skip)
 go_simp
 refine hK _ _ ⟨?_, ?_⟩
 ·(co_quiet qaa)
 clear hK K'
 try walk_nrm
 co_apply gs_op rfl (by rfl) (by decide)
 intro _ hR K' hK
 replace hF := HitW.rely g hF hR
 clear hR
 (skip)
 go_simp
 refine hK _ _ ⟨?_, ?_⟩
 ·(co_quiet qaa)
 clear hK K'
 try walk_nrm
 co_apply gs_op rfl (by rfl) (by decide)
 intro _ hR K' hK
 replace hF := HitW.rely g hF hR
 clear hR
 (skip)
 go_simp
 refine hK _ _ ⟨?_, ?_⟩
 ·(co_quiet qaa)
 clear hK K'
 try walk_nrm
 co_apply qbx qaa
 co_apply qbk qaa
 co_apply qbk qaa
 co_apply qay qaa
 simp only [List.size_toArray, List.length_cons, List.length_nil, Nat.reduceAdd, Nat.zero_add, List.range, List.range.loop]
 co_apply gs_op rfl (by rfl) (by decide)
 intro _ hR K' hK
 replace hF := HitW.rely g hF hR
 clear hR
 (skip)
 go_simp
 refine hK _ _ ⟨?_, ?_⟩
 ·(co_quiet qaa)
 clear hK K'
 try walk_nrm
 co_apply gs_op rfl (by rfl) (by decide)
 intro _ hR K' hK
 replace hF := HitW.rely g hF hR
 clear hR
 (skip)
 go_simp
 refine hK _ _ ⟨?_, ?_⟩
 ·(co_quiet qaa)
 clear hK K'
 try walk_nrm
 co_apply gs_op rfl (by rfl) (by decide)
 intro _ hR K' hK
 replace hF := HitW.rely g hF hR
 clear hR
 (skip)
 go_simp
 refine hK _ _ ⟨?_, ?_⟩
 ·(co_quiet qaa)
 clear hK K'
 try walk_nrm
 co_apply qbx qaa
 co_apply qdy qaa
 co_apply qli qaa
 simp only [wL1, wR11, wBody, Tryz.f54, Option.getD_some] at hm
 exact hm _ _ _ _ _ _ _ _ _ _ _ _ _ _ _ _ _ _ _ _ _ _ _ _ _ _ _ _ _ _ _ _ _ _ _ hF
end
section
open Go.RowKit Go.Conc Go.Pip
noncomputable def fBody : Code := Tryz.f24.body.getD .skip
noncomputable def fTail : Code := match fBody with | .seq _ (.seq _ (.seq _ (.seq _ (.seq _ (.seq _ r))))) => r | _ => .skip
noncomputable def fL : Code := match fTail with | .seq (.seq _ (.block _ (.loop c))) _ => c | _ => .skip
noncomputable def fR15 : Code := match fTail with | .seq _ r => r | _ => .skip
noncomputable def qoa : Array Oper := match fL with | .seq (.region _ ops _) _ => ops | _ => #[]
noncomputable def fL2 : Code := match fL with | .seq _ r => r | _ => .skip
def hitP (p : Int × Int) : Value := .agg #[.int .i64 p.1, .int .i64 p.2]
def qa9 (ps : List (Int × Int)) : List Value := ps.flatMap fun p => [.int .i64 p.1, .int .i64 p.2]
def zHit : Value := .agg #[.int .i64 0, .int .i64 0]
theorem Tryz.infoH : (Tryz.prog.info? 85).map (fun i => (i.zero, i.size, i.bytes)) = some (some zHit, 2, 16) := by kernel_rfl
structure FeW (K : Cfg) (wf : World) (out : Value) (ps : List (Int × Int)) (w : World) : Prop where
 ty : K.ty = 85
 os : w.os = wf.os
 output : w.output = wf.output
 big : K.Low ≤ w.heap.size
 low : ∀ b, b < K.Low → b ≠ K.c → ¬ K.Wr b → w.heap[b]? = wf.heap[b]?
 own : w.ownsRow K.Low 85 2 out ps.length (qa9 ps)
variable {K : Cfg} {wf w w₁ : World} {out : Value} {ps : List (Int × Int)}
theorem FeW.rely (h : FeW K wf out ps w) (r : SuffA K w w₁) : FeW K wf out ps w₁ :=
 ⟨h.ty, r.os.trans h.os, r.output.trans h.output, Nat.le_trans h.big r.size, fun b h1 h2 h3 => (r.low b h1 h2 h3).trans (h.low b h1 h2 h3), by have := h.own; rw [← h.ty] at this ⊢; exact ownsA this r⟩
structure FeN (K : Cfg) (wf : World) (out : Value) (ps : List (Int × Int)) (nb : Nat) (u v : Value) (w : World) : Prop where
 fe : FeW K wf out ps w
 new : Blk w nb 85 #[u, v]
 lo : K.Low ≤ nb
 ne : ∀ g, out.ownBlock = some g → g ≠ nb
theorem FeN.hit {nb : Nat} {u v : Value} (h : FeN K wf out ps nb u v w) : isHit K w nb := ⟨_, _, by rw [h.fe.ty]; exact h.new⟩
theorem FeN.rely {nb : Nat} {u v : Value} (h : FeN K wf out ps nb u v w) (r : SuffA K w w₁) : FeN K wf out ps nb u v w₁ := ⟨h.fe.rely r, h.new.to (r.own nb h.new.lt h.lo h.hit), h.lo, h.ne⟩
theorem FeW.own_ (h : FeW K wf out ps w) {out' : Value} {ps' : List (Int × Int)} {row : Option Nat} (hg : w.grownBy w₁ row) (hrow : ∀ k, row = some k → K.Low ≤ k) (ho : w₁.ownsRow K.Low 85 2 out' ps'.length (qa9 ps')) : FeW K wf out' ps' w₁ :=
 ⟨h.ty, hg.os.trans h.os, hg.output.trans h.output, Nat.le_trans h.big hg.size, fun b h1 h2 h3 => (hg.block b (Nat.lt_of_lt_of_le h1 h.big) (fun e => by have := hrow b e.symm; omega)).trans (h.low b h1 h2 h3), ho⟩
theorem qob {e : TypeId} {size n : Nat} {v : Value} {xs : List Value} {p : Addr} (u : Value) (h : w.ownsRow K.Low e size v n xs) (hne : ∀ g, v.ownBlock = some g → g ≠ p.block) : (w.setCell p u).ownsRow K.Low e size v n xs := by
 refine ⟨h.1, h.2.imp id ?_⟩
 rintro ⟨g, cap, cur, rfl, hb, hg, x⟩
 exact ⟨g, cap, cur, rfl, hb, (Below.heap_setCell w p u g (hne g rfl)).trans hg, x⟩
theorem FeN.fill {nb : Nat} {u v : Value} (h : FeN K wf out ps nb u v w) (u' v' : Value) : FeN K wf out ps nb u' v' ((w.setCell ⟨nb, 0, none⟩ u').setCell ⟨nb, 1, none⟩ v') := by
 refine ⟨⟨h.fe.ty, h.fe.os, h.fe.output, by simpa using h.fe.big, fun b h1 h2 h3 => ?_, qob _ (qob _ h.fe.own h.ne) h.ne⟩, ?_, h.lo, h.ne⟩
 ·have := h.lo
  rw [Below.heap_setCell _ _ _ _ (by simp; omega), Below.heap_setCell _ _ _ _ (by simp; omega)]
  exact h.fe.low b h1 h2 h3
 ·simpa using (h.new.put 0 u').put 1 v'
theorem FeN.fill_d {nb : Nat} {u v : Value} (h : FeN K wf out ps nb u v w) (u' v' : Value) : SuffB K w ((w.setCell ⟨nb, 0, none⟩ u').setCell ⟨nb, 1, none⟩ v') :=
 SuffB.trans (ql2 (p := ⟨nb, 0, none⟩) h.lo h.hit _) (ql2 (p := ⟨nb, 1, none⟩) h.lo ((ql1 _ _ _).2 h.hit) _)
theorem FeN.fill_c {nb : Nat} {u v : Value} (h : FeN K wf out ps nb u v w) (u' v' : Value) : ((w.setCell ⟨nb, 0, none⟩ u').setCell ⟨nb, 1, none⟩ v').heap[K.c]? = w.heap[K.c]? := by
 have := h.lo
 have := K.cLow
 rw [Below.heap_setCell _ _ _ _ (by simp; omega), Below.heap_setCell _ _ _ _ (by simp; omega)]
theorem FeN.ev {nb : Nat} {u v : Value} (h : FeN K wf out ps nb u v w) {e : Event} {i : Nat} (he : e.loc = .cell ⟨nb, i, none⟩) : EvA K w e := qn8 he h.lo h.hit h.new.lt
def FinF (K : Cfg) (b : Frame) (k : List Item) (cs : List Frame) (wf : World) (u6 u10 : Value) (ps : List (Int × Int)) (g : Goroutine) (w : World) : Prop :=
 ∃ (v0 v1 v2 v3 v4 v5 v8 v9 v11 v12 v13 v14 v15 v16 v17 v18 v19 v20 v21 v22 v23 v24 v25 v26 v27 v28 v29 v30 v31 v32 v33 v34 v35 v36 v37 v38 v39 v42 v43 v44 v45 v46 v47 v48 v49 v50 out x : Value), x = .tuple #[zHit, .bool false] ∧ FeW K wf out ps w ∧ g = G (b.at ⟨#[v0, v1, v2, v3, v4, v5, u6, out, v8, v9, u10, v11, v12, v13, v14, v15, v16, v17, v18, v19, v20, v21, v22, v23, v24, v25, v26, v27, v28, v29, v30, v31, v32, v33, v34, v35, v36, v37, v38, v39, .chan (some K.c), x, v42, v43, v44, v45, v46, v47, v48, v49, v50], []⟩ (.inRegion qoa [1] :: .code fL2 :: .inLoop fL :: .inBlock 1 :: .code fR15 :: k)) cs
theorem qzq {b : Frame} (hbf : b.fn = 24) (hbk : b.kind ≠ .early) (k : List Item) (cs : List Frame) (u6 u10 : Value) : ∀ (vs done : List (Int × Int)), done.length + vs.length ≤ 1099511627776 →
  ∃ m, ∀ (v0 v1 v2 v3 v4 v5 v8 v9 v11 v12 v13 v14 v15 v16 v17 v18 v19 v20 v21 v22 v23 v24 v25 v26 v27 v28 v29 v30 v31 v32 v33 v34 v35 v36 v37 v38 v39 v41 v42 v43 v44 v45 v46 v47 v48 v49 v50 out : Value) (w : World), FeW K wf out done w →
   Goes Tryz.prog true (SuffA K) (DA K) (StopA K Tryz.prog zHit (FinF K b k cs wf u6 u10 (done ++ vs)) (vs.map hitP)) m (G (b.at ⟨#[v0, v1, v2, v3, v4, v5, u6, out, v8, v9, u10, v11, v12, v13, v14, v15, v16, v17, v18, v19, v20, v21, v22, v23, v24, v25, v26, v27, v28, v29, v30, v31, v32, v33, v34, v35, v36, v37, v38, v39, .chan (some K.c), v41, v42, v43, v44, v45, v46, v47, v48, v49, v50], []⟩ (.code fL :: .inLoop fL :: .inBlock 1 :: .code fR15 :: k)) cs) w := by
 intro vs
 induction vs with
 | nil =>
  intro done hlen
  co_apply Exists.intro
  intro v0 v1 v2 v3 v4 v5 v8 v9 v11 v12 v13 v14 v15 v16 v17 v18 v19 v20 v21 v22 v23 v24 v25 v26 v27 v28 v29 v30 v31 v32 v33 v34 v35 v36 v37 v38 v39 v41 v42 v43 v44 v45 v46 v47 v48 v49 v50 out w hF
  simp only [fL, fR15, fTail, fBody, Tryz.f24, Option.getD_some]
  co_apply qbk qa4
  co_apply qay qa4
  simp only [List.size_toArray, List.length_cons, List.length_nil, Nat.reduceAdd, Nat.zero_add, List.range, List.range.loop]
  refine Goes.stop (n := 0) fun w₁ h₁ => ?_
  replace hF := FeW.rely hF h₁
  clear h₁
  refine ⟨rfl, _, stepG_comm (cases := #[rcase K.c zHit]) (blocking := true) (shape := .recv true) (w' := w₁) rfl (by rfl) hbk (by simp [go_sem]; simp [rcase, zHit]), ?_, ?_⟩
  ·intro e he
   rw [listed_nil (by simp [go_sem])] at he; simp at he
  intro w₂ h₂
  replace hF := FeW.rely hF h₂
  rw [core_G, served_G]
  simp only [Option.bind, List.getElem?_toArray, List.getElem?_cons_succ, List.getElem?_cons_zero, Act.put]
  exact ⟨_, _, _, _, _, _, _, _, _, _, _, _, _, _, _, _, _, _, _, _, _, _, _, _, _, _, _, _, _, _, _, _, _, _, _, _, _, _, _, _, _, _, _, _, _, _, _, _, rfl, by simpa using hF, rfl⟩
 | cons p vs ih =>
  intro done hlen
  obtain ⟨m, hm⟩ := ih (done ++ [p]) (by simp at hlen ⊢; omega)
  co_apply Exists.intro
  intro v0 v1 v2 v3 v4 v5 v8 v9 v11 v12 v13 v14 v15 v16 v17 v18 v19 v20 v21 v22 v23 v24 v25 v26 v27 v28 v29 v30 v31 v32 v33 v34 v35 v36 v37 v38 v39 v41 v42 v43 v44 v45 v46 v47 v48 v49 v50 out w hF
  simp only [fL, fR15, fTail, fBody, Tryz.f24, Option.getD_some]
  co_apply qbk qa4
  co_apply qay qa4
  simp only [List.size_toArray, List.length_cons, List.length_nil, Nat.reduceAdd, Nat.zero_add, List.range, List.range.loop]
  refine Goes.stop (n := 0) fun w₁ h₁ => ?_
  replace hF := FeW.rely hF h₁
  clear h₁
  refine ⟨rfl, _, stepG_comm (cases := #[rcase K.c zHit]) (blocking := true) (shape := .recv true) (w' := w₁) rfl (by rfl) hbk (by simp [go_sem]; simp [rcase, zHit]), ?_, ?_⟩
  ·intro e he
   rw [listed_nil (by simp [go_sem])] at he; simp at he
  intro w₂ h₂
  replace hF := FeW.rely hF h₂
  clear h₂
  refine (Pip.recvs_iff K Tryz.prog _ _ _ _ _).2 ?_
  co_apply Exists.intro
  rw [core_G, served_G]
  simp only [Option.bind, List.getElem?_toArray, List.getElem?_cons_succ, List.getElem?_cons_zero, Act.put, hitP]
  obtain ⟨pa, pr⟩ := p
  co_apply gs_op rfl (by rfl) hbk
  intro _ hR K' hK
  replace hF := FeW.rely hF hR
  clear hR
  (skip)
  go_simp
  refine hK _ _ ⟨?_, ?_⟩
  ·(co_quiet qa4)
  clear hK K'
  try walk_nrm
  co_apply qbx qa4
  co_apply qbk qa4
  co_apply qgb qa4 (t := true) (by simp [Act.eval])
  simp only [if_true]
  co_apply qlh qa4
  co_apply qdy qa4
  co_apply qbk qa4
  co_apply qay qa4
  simp only [List.size_toArray, List.length_cons, List.length_nil, Nat.reduceAdd, Nat.zero_add, List.range, List.range.loop]
  co_apply gs_op rfl (by rfl) hbk
  intro _ hR K' hK
  replace hF := FeW.rely hF hR
  clear hR
  (skip)
  go_simp
  refine hK _ _ ⟨?_, ?_⟩
  ·(co_quiet qa4)
  clear hK K'
  try walk_nrm
  -- a new block
  co_apply gs_op rfl (by rfl) hbk
  intro w₃ hR K' hK
  replace hF := FeW.rely hF hR
  clear hR
  go_simp
  refine hK _ _ ⟨⟨qiy _, qlf hF.big _, ?_⟩, ?_⟩
  ·co_evs (skip)
  clear hK K'
  try walk_nrm
  have hN : FeN K wf out done w₃.heap.size (.int .i64 0) (.int .i64 0) (w₃.alloc (.cells #[.int .i64 0, .int .i64 0] 85)) :=
   ⟨hF.own_ (qc1 w₃ _) (fun _ h => by cases h) (hF.own.alloc _), Blk.new _ _ _, hF.big, fun g hg => Nat.ne_of_lt (hF.own.lt g hg).2⟩
  clear hF
  generalize w₃.heap.size = nb at hN ⊢
  generalize World.alloc w₃ _ = w₄ at hN ⊢
  -- it is filled
  co_apply gs_op rfl (by rfl) hbk
  intro w₅ hR K' hK
  replace hN := FeN.rely hN hR
  clear hR
  have c0 : w₅.cell? ⟨nb, 0, none⟩ = some (.int .i64 0) := (hN.new.cell 0).trans rfl
  have c1 : w₅.cell? ⟨nb, 1, none⟩ = some (.int .i64 0) := (hN.new.cell 1).trans rfl
  have z0 := hN.new.frozen 0
  have z1 := hN.new.frozen 1
  go_simp
  try (unfold stored; go_simp)
  refine hK _ _ ⟨⟨hN.fill_d _ _, hN.fill_c _ _, fun e he => ?_⟩, ?_⟩
  ·have hm := mem_listed he
   simp [go_sem, *] at hm
   rcases hm with rfl | rfl
   ·exact (hN.fill _ _).ev rfl
   ·exact (hN.fill _ _).ev rfl
  clear hK K' c0 c1 z0 z1
  try walk_nrm
  replace hN := hN.fill (.int .i64 pa) (.int .i64 pr)
  generalize World.setCell (World.setCell w₅ _ _) _ _ = w₆ at hN ⊢
  co_apply qbx qa4
  co_apply qay qa4
  simp only [List.size_toArray, List.length_cons, List.length_nil, Nat.reduceAdd, Nat.zero_add, List.range, List.range.loop]
  co_apply gs_op rfl (by rfl) hbk
  intro _ hR K' hK
  replace hN := FeN.rely hN hR
  clear hR
  (skip)
  go_simp
  refine hK _ _ ⟨?_, ?_⟩
  ·(co_quiet qa4)
  clear hK K'
  try walk_nrm
  -- it is read
  co_apply gs_op rfl (by rfl) hbk
  intro w₇ hR K' hK
  replace hN := FeN.rely hN hR
  clear hR
  have c0 : w₇.cell? ⟨nb, 0, none⟩ = some (.int .i64 pa) := (hN.new.cell 0).trans rfl
  have c1 : w₇.cell? ⟨nb, 1, none⟩ = some (.int .i64 pr) := (hN.new.cell 1).trans rfl
  go_simp
  refine hK _ _ ⟨⟨SuffB.refl _, rfl, fun e he => ?_⟩, ?_⟩
  ·have hm := mem_listed he
   simp [go_sem, *] at hm
   rcases hm with rfl | rfl
   ·exact hN.ev rfl
   ·exact hN.ev rfl
  clear hK K' c0 c1
  try walk_nrm
  -- a row of one
  co_apply gs_op rfl (by rfl) hbk
  intro w₈ hR K' hK
  replace hN := FeN.rely hN hR
  clear hR
  go_simp
  refine hK _ _ ⟨⟨qiy _, qlf hN.fe.big _, ?_⟩, ?_⟩
  ·co_evs (skip)
  clear hK K'
  try walk_nrm
  have hM : FeN K wf out done w₈.heap.size (.int .i64 pa) (.int .i64 pr) (w₈.alloc (.cells #[.int .i64 pa, .int .i64 pr] 85)) :=
   ⟨hN.fe.own_ (qc1 w₈ _) (fun _ h => by cases h) (hN.fe.own.alloc _), Blk.new _ _ _, hN.fe.big, fun g hg => Nat.ne_of_lt (hN.fe.own.lt g hg).2⟩
  clear hN
  generalize w₈.heap.size = n2 at hM ⊢
  generalize World.alloc w₈ _ = w₉ at hM ⊢
  -- append
  co_apply gs_op rfl (by rfl) hbk
  intro w₃ hR K' hK
  replace hM := FeN.rely hM hR
  clear hR
  obtain ⟨i0, hi0, hz0, hz1, hz2⟩ := info_parts Tryz.infoH
  have hu : Tryz.prog.underlying 46 = some (.slice 85) := by first | rfl | kernel_rfl
  have hnews : ∀ j u, [Value.int .i64 pa, Value.int .i64 pr][j]? = some u → w₃.cell? ((⟨n2, 0, none⟩ : Addr).add j) = some u := by
   intro j u hj
   rw [Addr.add_lit, Nat.zero_add, hM.new.cell j]
   simpa using hj
  have h1 : ∀ u ∈ [Value.int .i64 pa, Value.int .i64 pr], u.oneCell' = true := by intro u hu; simp at hu; rcases hu with rfl | rfl <;> rfl
  have hdl : done.length + 1 ≤ 1099511627776 := by simp at hlen; omega
  have h63 : done.length + 1 ≤ maxLen := by simp only [maxLen]; omega
  obtain ⟨out', w₄, hr, hown', gW, _⟩ := run_append_own (P := Tryz.prog) w₃ K.Low 46 46 85 i0 zHit 2 16 hu hi0 hz0 hz1 hz2 rfl (by decide) out _ _ hM.fe.own ⟨n2, 0, none⟩ 1 1 [.int .i64 pa, .int .i64 pr] rfl hnews h1 h63 (by omega) hM.fe.big
  have hkinds := qhu (P := Tryz.prog) K.Low 46 46 85 i0 zHit 2 16 hu hi0 hz0 hz1 hz2 out out' _ _ hM.fe.own ⟨n2, 0, none⟩ 1 1 [.int .i64 pa, .int .i64 pr] rfl hnews h1 h63 (by omega) hr K.ty
  have hevs := events_append_where (P := Tryz.prog) w₃ K.Low 46 46 85 i0 zHit 2 16 hu hi0 hz0 hz1 hz2 out _ _ hM.fe.own ⟨n2, 0, none⟩ 1 1 [.int .i64 pa, .int .i64 pr] rfl hnews h1 h63 (by omega)
  have hoh : ∀ g, out.ownBlock = some g → K.Low ≤ g ∧ isHit K w₃ g := qxn (by have := hM.fe.own; rw [← hM.fe.ty] at this; exact this)
  refine uponK_append (.tmp 44) (.tmp 46) 46 rfl rfl rfl hr (hK _ _ ⟨⟨qiw gW hkinds hoh, qn6 gW hM.fe.big (fun b hb => (hoh b hb).1), fun e he => ?_⟩, ?_⟩)
  ·have hm := mem_listed he
   rw [events_append_op (.tmp 44) (.tmp 46) 46 rfl rfl rfl] at hm
   rcases hevs e hm with ⟨ad, h2, h3⟩ | ⟨mk, rfl, hnm⟩
   ·rcases h3 with ⟨_, h3⟩ | h3
    ·exact qn8 h2 (by rw [h3]; exact hM.lo) (by rw [h3]; exact (hkinds n2 hM.new.lt).2 hM.hit) (by rw [h3]; exact Nat.lt_of_lt_of_le hM.new.lt gW.size)
    ·exact qn8 h2 (hoh _ h3.symm).1 ((hkinds _ (hM.fe.own.lt _ h3.symm).2).2 (hoh _ h3.symm).2) (Nat.lt_of_lt_of_le (hM.fe.own.lt _ h3.symm).2 gW.size)
   ·exact qxo hnm
  clear hK K'
  have hF : FeW K wf out' (done ++ [(pa, pr)]) w₄ := hM.fe.own_ gW (fun b hb => (hoh b hb).1) (by
   have e : qa9 (done ++ [(pa, pr)]) = qa9 done ++ [.int .i64 pa, .int .i64 pr] := by simp [qa9]
   rw [e]; simpa using hown')
  clear hM hr hown' gW hkinds hevs hnews hoh
  try walk_nrm
  co_apply gs_op rfl (by rfl) hbk
  intro _ hR K' hK
  replace hF := FeW.rely hF hR
  clear hR
  (skip)
  go_simp
  refine hK _ _ ⟨?_, ?_⟩
  ·(co_quiet qa4)
  clear hK K'
  try walk_nrm
  co_apply qbx qa4
  co_apply qgt qa4
  co_apply qhv qa4
  simp only [fL, fR15, fTail, fBody, Tryz.f24, Option.getD_some] at hm
  have e : done ++ [(pa, pr)] ++ vs = done ++ (pa, pr) :: vs := by simp
  rw [e] at hm
  exact hm _ _ _ _ _ _ _ _ _ _ _ _ _ _ _ _ _ _ _ _ _ _ _ _ _ _ _ _ _ _ _ _ _ _ _ _ _ _ _ _ _ _ _ _ _ _ _ _ _ hF
noncomputable def fOps10 : Array Oper := match fBody with | .seq _ (.seq _ (.seq _ (.seq _ (.seq _ (.seq (.region _ ops _) _))))) => ops | _ => #[]
noncomputable def qkh : Code := match fBody with | .seq _ (.seq _ (.seq _ (.seq _ (.seq _ (.seq _ r))))) => r | _ => .skip
theorem qzr {b : Frame} (hbf : b.fn = 24) (hbk : b.kind ≠ .early) (k : List Item) (cs : List Frame) (u6 u10 : Value) (vs : List (Int × Int)) (hl : vs.length ≤ 1099511627776) (v0 v1 v2 v3 v4 v5 v8 v9 v12 v13 v14 v15 v16 v17 v18 v19 v20 v21 v22 v23 v24 v25 v26 v27 v28 v29 v30 v31 v32 v33 v34 v35 v36 v37 v38 v39 v40 v41 v42 v43 v44 v45 v46 v47 v48 v49 v50 : Value) (w : World) (hF : FeW K wf (.slice none 0 0) [] w) :
  Recvs K Tryz.prog zHit (FinF K b k cs wf u6 u10 vs) (vs.map hitP) (G (b.at ⟨#[v0, v1, v2, v3, v4, v5, u6, .slice none 0 0, v8, v9, u10, .chan (some K.c), v12, v13, v14, v15, v16, v17, v18, v19, v20, v21, v22, v23, v24, v25, v26, v27, v28, v29, v30, v31, v32, v33, v34, v35, v36, v37, v38, v39, v40, v41, v42, v43, v44, v45, v46, v47, v48, v49, v50], []⟩ (.inRegion fOps10 [] :: .code qkh :: k)) cs) w := by
 obtain ⟨m, hm⟩ := qzq (K := K) (wf := wf) hbf hbk k cs u6 u10 vs [] (by simpa using hl)
 simp only [List.nil_append] at hm
 refine (Pip.recvs_iff K Tryz.prog _ _ _ _ _).2 ?_
 co_apply Exists.intro
 simp only [qkh, fL, fR15, fTail, fBody, Tryz.f24, Option.getD_some]
 co_apply qbx qa4
 co_apply qbk qa4
 co_apply qbk qa4
 co_apply qay qa4
 simp only [List.size_toArray, List.length_cons, List.length_nil, Nat.reduceAdd, Nat.zero_add, List.range, List.range.loop]
 co_apply gs_op rfl (by rfl) hbk
 intro _ hR K' hK
 replace hF := FeW.rely hF hR
 clear hR
 (skip)
 go_simp
 refine hK _ _ ⟨?_, ?_⟩
 ·(co_quiet qa4)
 clear hK K'
 try walk_nrm
 co_apply qbx qa4
 co_apply qdy qa4
 co_apply qli qa4
 simp only [fL, fR15, fTail, fBody, Tryz.f24, Option.getD_some] at hm
 exact hm _ _ _ _ _ _ _ _ _ _ _ _ _ _ _ _ _ _ _ _ _ _ _ _ _ _ _ _ _ _ _ _ _ _ _ _ _ _ _ _ _ _ _ _ _ _ _ _ _ hF
end
section
open Go.RowKit Go.Conc Go.Pip Go.Ride
def qa3 (T S F : List Nat) (W n : Nat) : List Nat → List Nat → Int → List (Int × Int)
 | [], _, _ => []
 | b :: bs, X, at_ => (hitsN F (rdTo W T S X b W) W n).map (fun (r : Nat) => (IntKind.i64.wrap (at_ + 1), (r : Int))) ++ qa3 T S F W n bs (rdTo W T S X b W) (IntKind.i64.wrap (at_ + 1))
theorem qiz (T S F : List Nat) (W n : Nat) : ∀ (bs X : List Nat) (at_ : Int), qev T S F W n bs X at_ = (qa3 T S F W n bs X at_).map hitP
 | [], _, _ => rfl
 | b :: bs, X, at_ => by
  simp only [qev, qa3, List.map_append, List.map_map, qiz T S F W n bs]
  rfl
theorem qki (T S F : List Nat) (W n : Nat) : ∀ (bs X : List Nat) (at_ : Int), (qa3 T S F W n bs X at_).length ≤ bs.length * n
 | [], _, _ => by simp [qa3]
 | b :: bs, X, at_ => by
  have h1 := qki T S F W n bs (rdTo W T S X b W) (IntKind.i64.wrap (at_ + 1))
  have h2 := qfm F (rdTo W T S X b W) W n
  simp only [qa3, List.length_append, List.length_map, List.length_cons, Nat.succ_mul]
  omega
def feK (w0 : World) (cB Low aB rB rcap : Nat) (VI VT VS VF : Value) (W : Nat) (X : List Nat) (at_ : Int) (h : cB < Low) : Cfg :=
 { c := cB, cap := 16, Low := Low, ty := 85, Wr := fun b => b = aB ∨ b = rB, J := fun w => AutW w0 Low aB rB rcap VI VT VS VF W X at_ w, cLow := h, pos := by decide }
theorem q1j {w0 w : World} {aB rB rcap cB Low : Nat} (hcL : cB < Low) (hLow : Low = w.heap.size) (ha0 : w0.heap.size ≤ aB) (hr0 : w0.heap.size ≤ rB) (hc0 : w0.heap.size ≤ cB) (haL : aB < Low) (hrL : rB < Low) (har : aB ≠ rB) (hac : aB ≠ cB) (hrc : rB ≠ cB)
  {VT VS VF : Value} {vi : Option Addr} {vic n W : Nat} {bp : Option Addr} {bcap : Nat} (B T S F : List Nat) (hB256 : ∀ b ∈ B, b < 256) (hBl : B.length ≤ 65536)
  (hbp : 0 < B.length → ∃ bb bo, bp = some ⟨bb, bo, none⟩ ∧ bb < w0.heap.size ∧ ∀ w : World, (∀ c, c < w0.heap.size → w.heap[c]? = w0.heap[c]?) → ∀ j, j < B.length → w.cell? ⟨bb, bo + j, none⟩ = some (.int .u8 ((B.getD j 0 : Nat) : Int)))
  (hW : 1 ≤ W) (hW4 : W ≤ 4) (hn : 1 ≤ n) (hnL : n ≤ 65536) (hT : T.length = 256 * W) (hS : S.length = W) (hFl : F.length = n * W)
  (hvt : Rd w0 (fun _ => True) 1 VT T.length (qab T)) (hvs : Rd w0 (fun _ => True) 1 VS S.length (qab S)) (hvf : Rd w0 (fun _ => True) 1 VF F.length (qab F)) (hT64 : ∀ x ∈ T, x < 18446744073709551616) (hS64 : ∀ x ∈ S, x < 18446744073709551616) (hF64 : ∀ x ∈ F, x < 18446744073709551616)
  (X : List Nat) (at_ : Int) (hXl : X.length = W) (hX64 : ∀ x ∈ X, x < 18446744073709551616) (hA : AutW w0 Low aB rB rcap (.slice vi n vic) VT VS VF W X at_ w) {tm : Bool} (hch : w.heap[cB]? = some (.chan 16 #[] false 0 0 tm))
  {b : Frame} (hbf : b.fn = 24) (hbk : b.kind ≠ .early) (k : List Item) (cs : List Frame) (u6 u10 : Value) (v0 v1 v2 v3 v4 v5 v8 v9 v12 v13 v14 v15 v16 v17 v18 v19 v20 v21 v22 v23 v24 v25 v26 v27 v28 v29 v30 v31 v32 v33 v34 v35 v36 v40 v41 v42 v43 v44 v45 v46 v47 v48 v49 v50 : Value) {Fin : Goroutine → World → Prop}
  (hF : ∀ g' w', FinF (feK w0 cB Low aB rB rcap (.slice vi n vic) VT VS VF W (qat T S W B X) (atV B at_) hcL) b k cs w u6 u10 (qa3 T S F W n B X at_) g' w' → AutW w0 Low aB rB rcap (.slice vi n vic) VT VS VF W (qat T S W B X) (atV B at_) w' → okG g' ∧ Go0 Tryz.prog Fin g' w') :
  Go0 Tryz.prog Fin (G (b.at ⟨#[v0, v1, v2, v3, v4, v5, u6, .slice none 0 0, v8, v9, u10, .chan (some cB), v12, v13, v14, v15, v16, v17, v18, v19, v20, v21, v22, v23, v24, v25, v26, v27, v28, v29, v30, v31, v32, v33, v34, v35, v36, .pointer (some ⟨aB, 0, none⟩), .slice bp B.length bcap, .chan (some cB), v40, v41, v42, v43, v44, v45, v46, v47, v48, v49, v50], []⟩ (.inRegion fOps10 [3] :: .code qkh :: k)) cs) w := by
 have g : Geo (feK w0 cB Low aB rB rcap (.slice vi n vic) VT VS VF W (qat T S W B X) (atV B at_) hcL) w0.heap.size aB rB :=
  ⟨ha0, hr0, hc0, haL, hrL, har, hac, hrc, .inl rfl, .inr rfl, fun x hx => hx.elim (fun e => e ▸ ha0) (fun e => e ▸ hr0), rfl⟩
 have hlen : (qa3 T S F W n B X at_).length ≤ 1099511627776 := by
  have h := qki T S F W n B X at_
  have h2 : B.length * n ≤ 65536 * 65536 := Nat.mul_le_mul hBl hnL
  omega
 refine Go0.fork (K := feK w0 cB Low aB rB rcap (.slice vi n vic) VT VS VF W (qat T S W B X) (atV B at_) hcL) (z := zHit) (vs := (qa3 T S F W n B X at_).map hitP) (child := born Tryz.prog (wCall aB cB bp B.length bcap)) (tm := tm) (fun τ d => ?_) hch (fun τ d => qzr hbf hbk k cs u6 u10 _ hlen v0 v1 v2 v3 v4 v5 v8 v9 v12 v13 v14 v15 v16 v17 v18 v19 v20 v21 v22 v23 v24 v25 v26 v27 v28 v29 v30 v31 v32 v33 v34 v35 v36 (.pointer (some ⟨aB, 0, none⟩)) (.slice bp B.length bcap) (.chan (some cB)) v40 v41 v42 v43 v44 v45 v46 v47 v48 v49 v50 (Ride.re w τ d) ?_) (fun τ d => ?_) (fun x y h r => h.rely g r) hF
 ·simp only [fOps10, fBody, Tryz.f24, Option.getD_some]
  rw [stepG_spawn (d := wCall aB cB bp B.length bcap) (w' := Ride.re w τ d) (f := .func 54) (c := #[]) rfl (by rfl) hbk (by simp [go_sem, wCall]) rfl]
  rw [listed_nil (by simp [go_sem])]
  rfl
 ·exact ⟨rfl, rfl, rfl, by show Low ≤ _; rw [hLow]; exact Nat.le_refl _, fun _ _ _ _ => rfl, World.ownsRow_nil _ _ _ _⟩
 ·rw [← qiz]
  exact qzp g B T S F hB256 hBl hbp hW hW4 hn hnL hT hS hFl hvt hvs hvf hT64 hS64 hF64 X at_ hXl hX64 (fun _ h => h) (Ride.re w τ d) (hA.re τ d)
end
end Go.Proofs.YtlgjaefcfnndhaaGreatDoor
