/-
  shiftand's hits, in company: the rules that are hit.
-/
import Derived.Test.YtlgjaefcfnndhaaGreatDoorP18
import Derived.Test.YtlgjaefcfnndhaaGreatDoorP19
set_option linter.unusedVariables false
set_option linter.unusedSimpArgs false
set_option maxHeartbeats 16000000
set_option maxRecDepth 100000
namespace Go.Proofs.YtlgjaefcfnndhaaGreatDoor
open Go.RowKit Go.Conc Go.Pip

def metN (F X : List Nat) (W i : Nat) : Nat → Nat
  | 0 => 0
  | j + 1 => metN F X W i j ||| (X.getD j 0 &&& F.getD (i * W + j) 0)
theorem qqt {F X : List Nat} (hX : ∀ x ∈ X, x < 18446744073709551616) (W i : Nat) : ∀ j, metN F X W i j < 18446744073709551616
  | 0 => by simp [metN]
  | j + 1 => by
    unfold metN
    exact Nat.or_lt_two_pow (n := 64) (qqt hX W i j) (Nat.lt_of_le_of_lt Nat.and_le_left (qbp hX _))
def hitsN (F X : List Nat) (W : Nat) : Nat → List Nat
  | 0 => []
  | i + 1 => hitsN F X W i ++ if metN F X W i W = 0 then [] else [i]
theorem qfm (F X : List Nat) (W : Nat) : ∀ i, (hitsN F X W i).length ≤ i
  | 0 => by simp [hitsN]
  | i + 1 => by
    have := qfm F X W i
    unfold hitsN
    split <;> simp <;> omega
def qa8 (l : List Nat) : List Value := l.map fun (i : Nat) => .int .i64 (i : Int)

structure HitW (K : Cfg) (w0 : World) (aB rB rcap : Nat) (VI VT VS VF : Value) (W : Nat) (X : List Nat) (at_ : Int) (out : Value) (xs : List Value) (w : World) : Prop where
  au : AutW w0 K.Low aB rB rcap VI VT VS VF W X at_ w
  low : K.Low ≤ w.heap.size
  own : w.ownsRow K.Low 3 1 out xs.length xs
variable {K : Cfg}
theorem HitW.rely {w0 w w₁ : World} {aB rB rcap : Nat} {VI VT VS VF : Value} {W : Nat} {X : List Nat} {at_ : Int} {out : Value} {xs : List Value} (g : Geo K w0.heap.size aB rB) (h : HitW K w0 aB rB rcap VI VT VS VF W X at_ out xs w) (r : SuffB K w w₁) : HitW K w0 aB rB rcap VI VT VS VF W X at_ out xs w₁ :=
  ⟨h.au.rely g r, Nat.le_trans h.low r.size, ownsB (by rw [g.hit]; decide) h.own r⟩
structure HitN (K : Cfg) (w0 : World) (aB rB rcap : Nat) (VI VT VS VF : Value) (W : Nat) (X : List Nat) (at_ : Int) (out : Value) (xs : List Value) (nb : Nat) (u : Value) (w : World) : Prop where
  hw : HitW K w0 aB rB rcap VI VT VS VF W X at_ out xs w
  new : Blk w nb 3 #[u]
  lo : K.Low ≤ nb
theorem HitN.rely {w0 w w₁ : World} {aB rB rcap : Nat} {VI VT VS VF : Value} {W : Nat} {X : List Nat} {at_ : Int} {out : Value} {xs : List Value} {nb : Nat} {u : Value} (g : Geo K w0.heap.size aB rB) (h : HitN K w0 aB rB rcap VI VT VS VF W X at_ out xs nb u w) (r : SuffB K w w₁) : HitN K w0 aB rB rcap VI VT VS VF W X at_ out xs nb u w₁ :=
  ⟨h.hw.rely g r, h.new.to (r.keep nb h.new.lt (by have := K.cLow; have := h.lo; omega) (.inr (qlg (by rw [g.hit]; decide) h.new))), h.lo⟩
theorem AutW.own {w0 w w₁ : World} {aB rB rcap : Nat} {VI VT VS VF : Value} {W : Nat} {X : List Nat} {at_ : Int} (g : Geo K w0.heap.size aB rB) (h : AutW w0 K.Low aB rB rcap VI VT VS VF W X at_ w) {row : Option Nat} (hg : w.grownBy w₁ row) (hrow : ∀ k, row = some k → K.Low ≤ k) : AutW w0 K.Low aB rB rcap VI VT VS VF W X at_ w₁ := by
  obtain ⟨cur, h1, h2⟩ := h.row
  have ne : ∀ b, b < K.Low → some b ≠ row := fun b hb e => by have := hrow b e.symm; omega
  exact ⟨hg.os.trans h.os, hg.output.trans h.output, Nat.le_trans h.size hg.size, Nat.le_trans h.big hg.size,
    fun b hb => (hg.block b (Nat.lt_of_lt_of_le hb h.size) (ne b (by have := g.a0; have := g.aL; omega))).trans (h.low b hb),
    h.au.to (hg.block aB h.au.lt (ne _ g.aL)), cur, h1.to (hg.block rB h1.lt (ne _ g.rL)), h2⟩

def HoInv (K : Cfg) (w0 : World) (aB rB rcap : Nat) (VI VT VS VF : Value) (W n : Nat) (F X : List Nat) (at_ : Int) (a : Act) (w : World) : Prop :=
  ∃ (i : Nat) (out v1 v3 v4 v5 v6 v7 v8 v9 v10 v11 v14 v15 v16 v17 v18 v19 v20 v21 v22 v23 v24 v25 v26 v27 v28 v29 v30 v31 v32 v33 v34 v35 v36 v37 v38 v39 v40 v41 v42 v43 v44 v45 v46 v47 v48 v49 v50 v51 v52 v53 v54 : Value), i ≤ n ∧ HitW K w0 aB rB rcap VI VT VS VF W X at_ out (qa8 (hitsN F X W i)) w ∧ a = { tmps := #[.pointer (some ⟨aB, 0, none⟩), v1, out, v3, v4, v5, v6, v7, v8, v9, v10, v11, .int .i64 (n : Int), .int .i64 (i : Int), v14, v15, v16, v17, v18, v19, v20, v21, v22, v23, v24, v25, v26, v27, v28, v29, v30, v31, v32, v33, v34, v35, v36, v37, v38, v39, v40, v41, v42, v43, v44, v45, v46, v47, v48, v49, v50, v51, v52, v53, v54], defers := [] }
def HoMu (n : Nat) (a : Act) (_ : World) : Nat := match a.tmps.getD 13 undef with | .int _ j => n - j.toNat | _ => 0
def HiInv (K : Cfg) (w0 : World) (aB rB rcap : Nat) (VI VT VS VF : Value) (W n : Nat) (F X : List Nat) (at_ : Int) (i : Nat) (out : Value) (a : Act) (w : World) : Prop :=
  ∃ (j m : Nat) (v1 v5 v6 v7 v8 v9 v10 v11 v14 v15 v16 v17 v18 v22 v23 v24 v25 v26 v27 v28 v29 v30 v31 v32 v33 v34 v35 v36 v37 v38 v39 v40 v41 v42 v43 v44 v45 v46 v47 v48 v49 v50 v51 v52 v53 v54 : Value), j ≤ W ∧ metN F X W i j = m ∧ HitW K w0 aB rB rcap VI VT VS VF W X at_ out (qa8 (hitsN F X W i)) w ∧ a = { tmps := #[.pointer (some ⟨aB, 0, none⟩), v1, out, .int .i64 (i : Int), .int .u64 (m : Int), v5, v6, v7, v8, v9, v10, v11, .int .i64 (n : Int), .int .i64 (i : Int), v14, v15, v16, v17, v18, .slice (some ⟨rB, 0, none⟩) W rcap, .int .i64 (W : Int), .int .i64 (j : Int), v22, v23, v24, v25, v26, v27, v28, v29, v30, v31, v32, v33, v34, v35, v36, v37, v38, v39, v40, v41, v42, v43, v44, v45, v46, v47, v48, v49, v50, v51, v52, v53, v54], defers := [] }
def HiMu (W : Nat) (a : Act) (_ : World) : Nat := match a.tmps.getD 21 undef with | .int _ j => W - j.toNat | _ => 0

theorem qu1 {main : Bool} {w0 : World} {aB rB rcap : Nat} (g : Geo K w0.heap.size aB rB) (VI VT VS VF : Value) (W n : Nat) (F : List Nat) (hW : 1 ≤ W) (hW4 : W ≤ 4) (hn : 1 ≤ n) (hnL : n ≤ 65536) (hFl : F.length = n * W)
    (hvi : ∃ x c, VI = .slice x n c) (hvf : Rd w0 (fun _ => True) 1 VF F.length (qab F)) (hF64 : ∀ x ∈ F, x < 18446744073709551616) : ∃ k, ∀ (X : List Nat) (at_ : Int) (w : World), X.length = W → (∀ x ∈ X, x < 18446744073709551616) → K.Low ≤ w.heap.size → AutW w0 K.Low aB rB rcap VI VT VS VF W X at_ w →
    CallsC Tryz.prog main (SuffB K) (DB K) 51 #[.pointer (some ⟨aB, 0, none⟩)] k w fun v w' => HitW K w0 aB rB rcap VI VT VS VF W X at_ v (qa8 (hitsN F X W n)) w' := by
  have hF0 : 0 < F.length := by rw [hFl]; exact Nat.mul_pos hn hW
  obtain ⟨fb, fo, fc, rfl, hfb, HF⟩ := qjk hvf hF0 rfl
  obtain ⟨vi, vic, rfl⟩ := hvi
  have hfL : fb < K.Low := by have := g.a0; have := g.aL; omega
  co_apply Exists.intro
  intro X at_ w hX hX64 hlow hF
  replace hF : HitW K w0 aB rB rcap (.slice vi n vic) VT VS (.slice (some ⟨fb, fo, none⟩) F.length fc) W X at_ (.slice none 0 0) (qa8 (hitsN F X W 0)) w := ⟨hF, hlow, by simpa [qa8, hitsN] using World.ownsRow_nil w K.Low 3 1⟩
  clear hlow
  co_apply callsC_of_wpC Tryz.func51 (by rfl) rfl
  simp only [Tryz.ntmps51, List.size_toArray, List.length_cons, List.length_nil, Nat.reduceAdd, Nat.reduceSub, Array.replicate_succ, Array.replicate_zero, List.push_toArray, List.append_toArray, List.nil_append, List.cons_append]
  have q0 : ∀ {out : Value} {xs : List Value} (w' : World), HitW K w0 aB rB rcap (.slice vi n vic) VT VS (.slice (some ⟨fb, fo, none⟩) F.length fc) W X at_ out xs w' → w'.cell? ⟨aB, 0, none⟩ = some (.slice vi n vic) := fun w' h => (h.au.au.cell 0).trans rfl
  have q1 : ∀ {out : Value} {xs : List Value} (w' : World), HitW K w0 aB rB rcap (.slice vi n vic) VT VS (.slice (some ⟨fb, fo, none⟩) F.length fc) W X at_ out xs w' → w'.cell? ⟨aB, 1, none⟩ = some (.int .i64 (W : Int)) := fun w' h => (h.au.au.cell 1).trans rfl
  have q4 : ∀ {out : Value} {xs : List Value} (w' : World), HitW K w0 aB rB rcap (.slice vi n vic) VT VS (.slice (some ⟨fb, fo, none⟩) F.length fc) W X at_ out xs w' → w'.cell? ⟨aB, 4, none⟩ = some (.slice (some ⟨fb, fo, none⟩) F.length fc) := fun w' h => (h.au.au.cell 4).trans rfl
  have q5 : ∀ {out : Value} {xs : List Value} (w' : World), HitW K w0 aB rB rcap (.slice vi n vic) VT VS (.slice (some ⟨fb, fo, none⟩) F.length fc) W X at_ out xs w' → w'.cell? ⟨aB, 5, none⟩ = some (.slice (some ⟨rB, 0, none⟩) W rcap) := fun w' h => (h.au.au.cell 5).trans rfl
  have qrow : ∀ {out : Value} {xs : List Value} (w' : World) (j : Nat), HitW K w0 aB rB rcap (.slice vi n vic) VT VS (.slice (some ⟨fb, fo, none⟩) F.length fc) W X at_ out xs w' → j < W → w'.cell? ⟨rB, j, none⟩ = some (.int .u64 ((X.getD j 0 : Nat) : Int)) := fun w' j h hj => by
    obtain ⟨cur, h1, h2⟩ := h.au.row
    exact (h1.cell j).trans (h2 j hj)
  have qf : ∀ {out : Value} {xs : List Value} (w' : World) (ix : Nat), HitW K w0 aB rB rcap (.slice vi n vic) VT VS (.slice (some ⟨fb, fo, none⟩) F.length fc) W X at_ out xs w' → ix < F.length → w'.cell? ⟨fb, fo + ix, none⟩ = some (.int .u64 ((F.getD ix 0 : Nat) : Int)) := fun w' ix h hi => HF w' h.au.low ix hi
  have evs1 : ∀ (w' : World) (es : Array Event), (∀ e ∈ es, EvB K w' e) → DB K w' w' es := fun w' es h => ⟨SuffA.refl _, rfl, h⟩
  co_stmt qaa (HitW.rely g) hF (co_quiet qaa)
  co_apply wpC_seq qaa
  co_apply wpC_seq qaa
  co_reg qaa
  co_op (HitW.rely g) hF (co_quiet qaa)
  co_opw (HitW.rely g) hF (skip) (co_still qaa)
  co_opw (HitW.rely g) hF (skip) (co_still qaa)
  co_opw (HitW.rely g) hF (skip) (co_still qaa)
  co_opw (HitW.rely g) hF (have hc := q0 _ hF) (refine evs1 _ _ ?_; co_evs (exact qbf _ _ g.aL (by have := hF.au.au.lt; simpa using this)))
  clear hc
  co_op (HitW.rely g) hF (co_quiet qaa)
  co_op (HitW.rely g) hF (co_quiet qaa)
  co_apply opsC_nil qaa
  co_then
  co_ctl qaa
  co_apply wpC_loop qaa (HoInv K w0 aB rB rcap (.slice vi n vic) VT VS (.slice (some ⟨fb, fo, none⟩) F.length fc) W n F X at_) (HoMu n) _ n
  · refine ⟨0, _, _, _, _, _, _, _, _, _, _, _, _, _, _, _, _, _, _, _, _, _, _, _, _, _, _, _, _, _, _, _, _, _, _, _, _, _, _, _, _, _, _, _, _, _, _, _, _, _, _, _, _, Nat.zero_le _, hF, rfl⟩
  · simp [HoMu]
  · rintro a w ⟨i, out, v1, v3, v4, v5, v6, v7, v8, v9, v10, v11, v14, v15, v16, v17, v18, v19, v20, v21, v22, v23, v24, v25, v26, v27, v28, v29, v30, v31, v32, v33, v34, v35, v36, v37, v38, v39, v40, v41, v42, v43, v44, v45, v46, v47, v48, v49, v50, v51, v52, v53, v54, hi, hF, rfl⟩
    co_apply wpC_seq qaa
    co_reg qaa
    co_op (HitW.rely g) hF (co_quiet qaa)
    co_apply opsC_nil qaa
    co_then
    co_apply wpC_seq qaa
    co_split qaa (decide ((i : Int) < (n : Int)))
    · intro hlt
      have hin : i < n := by have := of_decide_eq_true hlt; omega
      clear hlt
      co_apply wpC_skip qaa
      co_then
      co_apply wpC_seq qaa
      co_apply wpC_block qaa
      co_apply wpC_seq qaa
      co_reg qaa
      co_op (HitW.rely g) hF (co_quiet qaa)
      co_op (HitW.rely g) hF (co_quiet qaa)
      co_apply opsC_nil qaa
      co_then
      co_apply wpC_seq qaa
      co_reg qaa
      co_op (HitW.rely g) hF (co_quiet qaa)
      co_apply opsC_nil qaa
      co_then
      co_apply wpC_seq qaa
      co_apply wpC_seq qaa
      co_reg qaa
      co_op (HitW.rely g) hF (co_quiet qaa)
      co_opw (HitW.rely g) hF (skip) (co_still qaa)
      co_opw (HitW.rely g) hF (skip) (co_still qaa)
      co_opw (HitW.rely g) hF (have hc := q5 _ hF) (refine evs1 _ _ ?_; co_evs (exact qbf _ _ g.aL (by have := hF.au.au.lt; simpa using this)))
      clear hc
      co_op (HitW.rely g) hF (co_quiet qaa)
      co_op (HitW.rely g) hF (co_quiet qaa)
      co_apply opsC_nil qaa
      co_then
      co_ctl qaa
      co_apply wpC_loop qaa (HiInv K w0 aB rB rcap (.slice vi n vic) VT VS (.slice (some ⟨fb, fo, none⟩) F.length fc) W n F X at_ i out) (HiMu W) _ W
      · refine ⟨0, 0, _, _, _, _, _, _, _, _, _, _, _, _, _, _, _, _, _, _, _, _, _, _, _, _, _, _, _, _, _, _, _, _, _, _, _, _, _, _, _, _, _, _, _, _, _, _, Nat.zero_le _, rfl, hF, rfl⟩
      · simp [HiMu]
      · rintro a w ⟨j, m, v1, v5, v6, v7, v8, v9, v10, v11, v14, v15, v16, v17, v18, v22, v23, v24, v25, v26, v27, v28, v29, v30, v31, v32, v33, v34, v35, v36, v37, v38, v39, v40, v41, v42, v43, v44, v45, v46, v47, v48, v49, v50, v51, v52, v53, v54, hj, hm, hF, rfl⟩
        co_apply wpC_seq qaa
        co_reg qaa
        co_op (HitW.rely g) hF (co_quiet qaa)
        co_apply opsC_nil qaa
        co_then
        co_apply wpC_seq qaa
        co_split qaa (decide ((j : Int) < (W : Int)))
        · intro hlt
          have hjW : j < W := by have := of_decide_eq_true hlt; omega
          clear hlt
          co_apply wpC_skip qaa
          co_then
          co_apply wpC_seq qaa
          co_apply wpC_block qaa
          obtain ⟨xj, hxj⟩ : ∃ x : Nat, x = X.getD j 0 := ⟨_, rfl⟩
          obtain ⟨fj, hfj⟩ : ∃ x : Nat, x = F.getD (i * W + j) 0 := ⟨_, rfl⟩
          have bx : xj < 18446744073709551616 := by rw [hxj]; exact qbp hX64 _
          have bf : fj < 18446744073709551616 := by rw [hfj]; exact qbp hF64 _
          have bm : m < 18446744073709551616 := by rw [← hm]; exact qqt hX64 _ _ _
          obtain ⟨y1, hy1⟩ : ∃ y : Nat, y = xj &&& fj := ⟨_, rfl⟩
          have b1 : y1 < 18446744073709551616 := by rw [hy1]; exact Nat.lt_of_le_of_lt Nat.and_le_left bx
          obtain ⟨y2, hy2⟩ : ∃ y : Nat, y = m ||| y1 := ⟨_, rfl⟩
          have hres : metN F X W i (j + 1) = y2 := by unfold metN; rw [hm, hy2, hy1, hxj, hfj]
          have E1 : bits .and .u64 (xj : Int) (fj : Int) = (y1 : Int) := by rw [u64_and_nat _ _ bx bf, hy1]
          have E2 : bits .or .u64 (m : Int) (y1 : Int) = (y2 : Int) := by rw [u64_or_nat _ _ bm b1, hy2]
          obtain ⟨iw, hiw⟩ : ∃ x : Nat, x = i * W := ⟨_, rfl⟩
          have hiwL : iw + W ≤ n * W := by rw [hiw, ← Nat.succ_mul]; exact Nat.mul_le_mul_right _ hin
          have hnW : n * W ≤ 262144 := by have := Nat.mul_le_mul hnL hW4; omega
          have E3 : IntKind.i64.wrap ((i : Int) * (W : Int)) = (iw : Int) := by rw [hiw, IntKind.wrap_i64]; have : (i : Int) * (W : Int) = ((i * W : Nat) : Int) := by simp
                                                                                rw [this, ← hiw]; omega
          obtain ⟨ix, hix⟩ : ∃ x : Nat, x = iw + j := ⟨_, rfl⟩
          have E4 : IntKind.i64.wrap ((iw : Int) + (j : Int)) = (ix : Int) := by rw [IntKind.wrap_i64]; omega
          have hixL : ix < F.length := by rw [hFl]; omega
          have E9 : IntKind.i64.wrap ((j : Int) + 1) = (j : Int) + 1 := by rw [IntKind.wrap_i64]; omega
          have qx : ∀ {out : Value} {xs : List Value} (w' : World), HitW K w0 aB rB rcap (.slice vi n vic) VT VS (.slice (some ⟨fb, fo, none⟩) F.length fc) W X at_ out xs w' → w'.cell? ⟨rB, j, none⟩ = some (.int .u64 (xj : Int)) := fun w' h => by rw [hxj]; exact qrow w' j h hjW
          have qy : ∀ {out : Value} {xs : List Value} (w' : World), HitW K w0 aB rB rcap (.slice vi n vic) VT VS (.slice (some ⟨fb, fo, none⟩) F.length fc) W X at_ out xs w' → w'.cell? ⟨fb, fo + ix, none⟩ = some (.int .u64 (fj : Int)) := fun w' h => by
            rw [hfj, ← hiw, ← hix]; exact qf w' ix h hixL
          clear hxj hfj hy1 hy2 hm hix hiw
          co_apply wpC_seq qaa
          co_reg qaa
          co_op (HitW.rely g) hF (co_quiet qaa)
          co_opw (HitW.rely g) hF (have hjj : (j : Int) < (W : Int) := by omega) (co_still qaa)
          co_opw (HitW.rely g) hF (have hc := qx _ hF) (refine evs1 _ _ ?_; co_evs (exact qbf _ _ g.rL (by have := hF.au.row.choose_spec.1.lt; simpa using this)))
          clear hc
          co_op (HitW.rely g) hF (co_quiet qaa)
          co_op (HitW.rely g) hF (co_quiet qaa)
          co_apply opsC_nil qaa
          co_then
          -- region 8: the orders that the tape may pick
          co_apply wpC_region_held qaa drawB (S := (HitW K w0 aB rB rcap (.slice vi n vic) VT VS (.slice (some ⟨fb, fo, none⟩) F.length fc) W X at_ out (qa8 (hitsN F X W i)))) (by first | kernel_rfl | rfl)
          intro w₂ hR
          replace hF := HitW.rely g (HitW.rely g hF hR) (qnl _)
          clear hR
          simp only [List.size_toArray, List.length_cons, List.length_nil, Nat.reduceAdd, Nat.zero_add]
          generalize ({ w₂ with drawn := w₂.drawn + 1 } : World) = w₃ at hF ⊢
          co_take 0 qaa (HitW.rely g) hF hw (skip) (co_quiet qaa)
          co_take 1 qaa (HitW.rely g) hF hw (skip) (co_quiet qaa)
          co_take 2 qaa (HitW.rely g) hF hw (skip) (co_quiet qaa)
          co_take 3 qaa (HitW.rely g) hF hw (skip) (co_still qaa)
          co_take 4 qaa (HitW.rely g) hF hw (skip) (co_still qaa)
          co_take 5 qaa (HitW.rely g) hF hw (skip) (co_still qaa)
          co_take 6 qaa (HitW.rely g) hF hw (have hc := q4 _ hw) (refine evs1 _ _ ?_; co_evs (exact qbf _ _ g.aL (by have := hw.au.au.lt; simpa using this)))
          co_take 7 qaa (HitW.rely g) hF hw (skip) (co_quiet qaa)
          co_take 8 qaa (HitW.rely g) hF hw (skip) (co_quiet qaa)
          co_take 9 qaa (HitW.rely g) hF hw (skip) (co_still qaa)
          co_take 10 qaa (HitW.rely g) hF hw (skip) (co_still qaa)
          co_take 11 qaa (HitW.rely g) hF hw (skip) (co_still qaa)
          co_take 12 qaa (HitW.rely g) hF hw (have hc := q1 _ hw) (refine evs1 _ _ ?_; co_evs (exact qbf _ _ g.aL (by have := hw.au.au.lt; simpa using this)))
          co_take 13 qaa (HitW.rely g) hF hw (skip) (co_quiet qaa)
          co_take 14 qaa (HitW.rely g) hF hw (skip) (co_quiet qaa)
          co_take 15 qaa (HitW.rely g) hF hw (skip) (co_quiet qaa)
          co_take 16 qaa (HitW.rely g) hF hw (have hixI : (ix : Int) < (n : Int) * (W : Int) := by have h := hixL; rw [hFl] at h; exact_mod_cast h) (co_still qaa)
          co_take 17 qaa (HitW.rely g) hF hw (have hc := qy _ hw) (refine evs1 _ _ ?_; co_evs (exact qbf _ _ hfL (by have := hw.au.size; simp; omega)))
          co_take 18 qaa (HitW.rely g) hF hw (skip) (co_quiet qaa)
          co_take 19 qaa (HitW.rely g) hF hw (skip) (co_quiet qaa)
          co_take 20 qaa (HitW.rely g) hF hw (skip) (co_quiet qaa)
          co_done
          co_reg qaa
          co_opw (HitW.rely g) hF (skip) (co_still qaa)
          co_op (HitW.rely g) hF (co_quiet qaa)
          co_apply opsC_nil qaa
          co_then
          refine ⟨⟨j + 1, y2, _, _, _, _, _, _, _, _, _, _, _, _, _, _, _, _, _, _, _, _, _, _, _, _, _, _, _, _, _, _, _, _, _, _, _, _, _, _, _, _, _, _, _, _, _, _, by omega, hres, hF, rfl⟩, ?_⟩
          simp [HiMu]
          omega
        · intro hlt
          have hjW : j = W := by have := of_decide_eq_false hlt; omega
          clear hlt
          rw [hjW] at hm
          have E9 : IntKind.i64.wrap ((i : Int) + 1) = (i : Int) + 1 := by rw [IntKind.wrap_i64]; omega
          co_apply wpC_exit qaa
          co_then
          -- region 10
          co_apply wpC_seq qaa
          co_reg qaa
          co_op (HitW.rely g) hF (co_quiet qaa)
          co_op (HitW.rely g) hF (co_quiet qaa)
          co_apply opsC_nil qaa
          co_then
          co_split qaa ((m : Int) != 0)
          · intro hne
            have hm0 : m ≠ 0 := by intro h; rw [h] at hne; simp at hne
            clear hne
            co_reg qaa
            co_op (HitW.rely g) hF (co_quiet qaa)
            co_op (HitW.rely g) hF (co_quiet qaa)
            -- buildSlice: a new block of one cell
            co_apply opsC_cons_k rfl (by rfl)
            intro w₁ hR K' hK
            replace hF := HitW.rely g hF hR
            clear hR
            go_simp
            refine hK _ _ ⟨⟨qpy hF.low _, qlf hF.low _, ?_⟩, ?_⟩
            · co_evs (skip)
            clear hK K'
            have hN : HitN K w0 aB rB rcap (.slice vi n vic) VT VS (.slice (some ⟨fb, fo, none⟩) F.length fc) W X at_ out (qa8 (hitsN F X W i)) w₁.heap.size (.int .i64 (i : Int)) (w₁.alloc (.cells #[.int .i64 (i : Int)] 3)) :=
              ⟨⟨hF.au.own g (qc1 w₁ _) (fun _ h => by cases h), Nat.le_trans hF.low (by simp), hF.own.alloc _⟩, Blk.new _ _ _, hF.low⟩
            clear hF
            generalize w₁.heap.size = nb at hN ⊢
            generalize World.alloc w₁ _ = w₂ at hN ⊢
            try walk_nrm
            -- append
            co_apply opsC_cons_k rfl (by rfl)
            intro w₃ hR K' hK
            replace hN := HitN.rely g hN hR
            clear hR
            obtain ⟨i0, hi0, hz0, hz1, hz2⟩ := info_parts Tryz.infoI'
            have hu : Tryz.prog.underlying 22 = some (.slice 3) := by first | rfl | kernel_rfl
            have hnews : ∀ j u, [Value.int .i64 (i : Int)][j]? = some u → w₃.cell? ((⟨nb, 0, none⟩ : Addr).add j) = some u := by
              intro j u hj
              match j, hj with
              | 0, hj => simp at hj; subst hj; simpa [Addr.add] using hN.new.cell 0
            have h1 : ∀ u ∈ [Value.int .i64 (i : Int)], u.oneCell' = true := by intro u hu; simp at hu; subst hu; rfl
            have hll : (qa8 (hitsN F X W i)).length ≤ 65536 := by simp only [qa8, List.length_map]; have := qfm F X W i; omega
            have h63 : (qa8 (hitsN F X W i)).length + 1 ≤ maxLen := by simp only [maxLen]; omega
            obtain ⟨out', w₄, hr, hown', gW, _⟩ := run_append_own (P := Tryz.prog) w₃ K.Low 22 22 3 i0 (.int .i64 0) 1 8 hu hi0 hz0 hz1 hz2 rfl (by decide) out _ _ hN.hw.own ⟨nb, 0, none⟩ 1 1 [.int .i64 (i : Int)] rfl hnews h1 h63 (by omega) hN.hw.low
            have hkinds := qhu (P := Tryz.prog) K.Low 22 22 3 i0 (.int .i64 0) 1 8 hu hi0 hz0 hz1 hz2 out out' _ _ hN.hw.own ⟨nb, 0, none⟩ 1 1 [.int .i64 (i : Int)] rfl hnews h1 h63 (by omega) hr K.ty
            have hevs := events_append_where (P := Tryz.prog) w₃ K.Low 22 22 3 i0 (.int .i64 0) 1 8 hu hi0 hz0 hz1 hz2 out _ _ hN.hw.own ⟨nb, 0, none⟩ 1 1 [.int .i64 (i : Int)] rfl hnews h1 h63 (by omega)
            have hn85 : (3 : TypeId) ≠ K.ty := by rw [g.hit]; decide
            refine uponK_append (.tmp 49) (.tmp 51) 22 rfl rfl rfl hr (hK _ _ ⟨⟨qiv gW hN.hw.low hkinds (qc8 hn85 hN.hw.own), qn6 gW hN.hw.low (fun b hb => (qc8 hn85 hN.hw.own b hb).1), fun e he => ?_⟩, ?_⟩)
            · have hm := mem_listed he
              rw [events_append_op (.tmp 49) (.tmp 51) 22 rfl rfl rfl] at hm
              rcases hevs e hm with ⟨ad, h2, h3⟩ | ⟨mk, rfl, hnm⟩
              · rcases h3 with ⟨_, h3⟩ | h3
                · exact qn7 h2 (by rw [h3]; exact mt (hkinds nb hN.new.lt).1 (qlg hn85 hN.new)) (by rw [h3]; exact Nat.lt_of_lt_of_le hN.new.lt gW.size)
                · exact qn7 h2 (mt (hkinds _ (hN.hw.own.lt _ h3.symm).2).1 (qc8 hn85 hN.hw.own _ h3.symm).2) (Nat.lt_of_lt_of_le (hN.hw.own.lt _ h3.symm).2 gW.size)
              · exact qxp hnm
            clear hK K'
            have hF : HitW K w0 aB rB rcap (.slice vi n vic) VT VS (.slice (some ⟨fb, fo, none⟩) F.length fc) W X at_ out' (qa8 (hitsN F X W (i + 1))) w₄ :=
              ⟨hN.hw.au.own g gW (fun b hb => (qc8 hn85 hN.hw.own b hb).1), Nat.le_trans hN.hw.low gW.size, by
                have e : qa8 (hitsN F X W (i + 1)) = qa8 (hitsN F X W i) ++ [.int .i64 (i : Int)] := by rw [hitsN, hm, if_neg hm0]; simp [qa8]
                rw [e]; simpa using hown'⟩
            clear hN hr hown' gW hkinds hevs hnews
            try walk_nrm
            co_op (HitW.rely g) hF (co_quiet qaa)
            co_apply opsC_nil qaa
            co_then
            co_reg qaa
            co_opw (HitW.rely g) hF (skip) (co_still qaa)
            co_op (HitW.rely g) hF (co_quiet qaa)
            co_apply opsC_nil qaa
            co_then
            refine ⟨⟨i + 1, out', _, _, _, _, _, _, _, _, _, _, _, _, _, _, _, _, _, _, _, _, _, _, _, _, _, _, _, _, _, _, _, _, _, _, _, _, _, _, _, _, _, _, _, _, _, _, _, _, _, _, _, by omega, hF, rfl⟩, ?_⟩
            simp [HoMu]
            omega
          · intro hne
            have hm0 : m = 0 := by simpa using hne
            clear hne
            co_apply wpC_skip qaa
            co_then
            have e : hitsN F X W (i + 1) = hitsN F X W i := by rw [hitsN, hm, if_pos hm0, List.append_nil]
            rw [← e] at hF
            clear e
            co_reg qaa
            co_opw (HitW.rely g) hF (skip) (co_still qaa)
            co_op (HitW.rely g) hF (co_quiet qaa)
            co_apply opsC_nil qaa
            co_then
            refine ⟨⟨i + 1, out, _, _, _, _, _, _, _, _, _, _, _, _, _, _, _, _, _, _, _, _, _, _, _, _, _, _, _, _, _, _, _, _, _, _, _, _, _, _, _, _, _, _, _, _, _, _, _, _, _, _, _, by omega, hF, rfl⟩, ?_⟩
            simp [HoMu]
            omega
    · intro hlt
      have hin : i = n := by have := of_decide_eq_false hlt; omega
      clear hlt
      co_apply wpC_exit qaa
      co_then
      co_apply wpC_seq qaa
      co_reg qaa
      co_op (HitW.rely g) hF (co_quiet qaa)
      co_op (HitW.rely g) hF (co_quiet qaa)
      co_apply opsC_nil qaa
      co_then
      co_ctl qaa
      subst hin
      exact ⟨rfl, out, resultsC_tmp (t := 2) (by rfl) _, hF⟩
end Go.Proofs.YtlgjaefcfnndhaaGreatDoor
