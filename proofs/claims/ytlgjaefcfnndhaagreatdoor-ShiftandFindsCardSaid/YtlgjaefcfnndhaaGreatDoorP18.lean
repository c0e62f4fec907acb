/-
 shiftand's read, in company: it reads a byte.
-/
import Derived.Test.YtlgjaefcfnndhaaGreatDoorP11
import Derived.Test.YtlgjaefcfnndhaaGreatDoorP17
import Derived.Laws.BitsAllLaws
set_option linter.unusedVariables false
set_option linter.unusedSimpArgs false
set_option maxHeartbeats 16000000
set_option maxRecDepth 100000
namespace Go.Proofs.YtlgjaefcfnndhaaGreatDoor
open Go.RowKit Go.Conc Go.Pip
def cyN (X : List Nat) (j : Nat) : Nat := if j = 0 then 0 else X.getD (j - 1) 0 / 9223372036854775808
theorem q1f {X : List Nat} (h : ∀ x ∈ X, x < 18446744073709551616) (j : Nat) : cyN X j < 18446744073709551616 := by
 unfold cyN
 split
 ·omega
 ·exact Nat.lt_of_le_of_lt (Nat.div_le_self _ _) (qbp h _)
def nxN (T S X : List Nat) (b j : Nat) : Nat := (((X.getD j 0 * 2) % 18446744073709551616 ||| cyN X j) ||| S.getD j 0) &&& T.getD (256 * j + b) 0
def rdTo (W : Nat) (T S X : List Nat) (b j : Nat) : List Nat := (List.range W).map fun i => if i < j then nxN T S X b i else X.getD i 0
theorem qe4 {W : Nat} {T S X : List Nat} {b j i : Nat} (h : i < W) : (rdTo W T S X b j).getD i 0 = if i < j then nxN T S X b i else X.getD i 0 := by
 unfold rdTo
 simp [gDe, h]
def RdInv (w0 : World) (L : Nat) (aB rB rcap : Nat) (VI VT VS VF : Value) (W : Nat) (T S X : List Nat) (at_ : Int) (b : Nat) (a : Act) (w : World) : Prop :=
 ∃ (j cj : Nat) (v2 v3 v5 v6 v7 v8 v9 v10 v14 v15 v16 v17 v18 v19 v20 v21 v22 v23 v24 v25 v26 v27 v28 v29 v30 v31 v32 v33 v34 v35 v36 v37 v38 v39 v40 v41 v42 v43 v44 v45 v46 v47 v48 v49 v50 v51 v52 v53 v54 v55 v56 v57 v58 v59 v60 : Value), j ≤ W ∧ cyN X j = cj ∧ AutW w0 L aB rB rcap VI VT VS VF W (rdTo W T S X b j) at_ w ∧ a = { tmps := #[.pointer (some ⟨aB, 0, none⟩), .int .u8 (b : Int), v2, v3, .int .u64 (cj : Int), v5, v6, v7, v8, v9, v10, .slice (some ⟨rB, 0, none⟩) W rcap, .int .i64 (W : Int), .int .i64 (j : Int), v14, v15, v16, v17, v18, v19, v20, v21, v22, v23, v24, v25, v26, v27, v28, v29, v30, v31, v32, v33, v34, v35, v36, v37, v38, v39, v40, v41, v42, v43, v44, v45, v46, v47, v48, v49, v50, v51, v52, v53, v54, v55, v56, v57, v58, v59, v60], defers := [] }
def RdMu (W : Nat) (a : Act) (_ : World) : Nat := match a.tmps.getD 13 undef with | .int _ j => W - j.toNat | _ => 0
theorem qjk {w0 : World} {F : Nat → Prop} {L : List Nat} {v : Value} {n : Nat} (h : Rd w0 F 1 v n (qab L)) (hn : 0 < n) (hl : n = L.length) :
  ∃ b o c, v = .slice (some ⟨b, o, none⟩) n c ∧ b < w0.heap.size ∧ ∀ w : World, (∀ b, b < w0.heap.size → w.heap[b]? = w0.heap[b]?) → ∀ j, j < n → w.cell? ⟨b, o + j, none⟩ = some (.int .u64 ((L.getD j 0 : Nat) : Int)) := by
 obtain ⟨A, c, rfl, _, hx⟩ := h.form
 obtain ⟨b, o, rfl, hb, hc⟩ := hx hn
 refine ⟨b, o, c, rfl, hb, fun w hw j hj => ?_⟩
 have e : w.cell? ⟨b, o + j, none⟩ = w0.cell? ⟨b, o + j, none⟩ := by unfold World.cell?; simp only [hw b hb]
 rw [e]
 refine hc j _ ?_
 subst hl
 simp [qab, gDe, hj]
theorem AutW.same {w0 w : World} {L aB rB rcap : Nat} {VI VT VS VF : Value} {W : Nat} {X X' : List Nat} {at_ : Int} (h : AutW w0 L aB rB rcap VI VT VS VF W X at_ w) (he : ∀ i, i < W → X'.getD i 0 = X.getD i 0) : AutW w0 L aB rB rcap VI VT VS VF W X' at_ w := by
 obtain ⟨cur, h1, h2⟩ := h.row
 exact ⟨h.os, h.output, h.size, h.big, h.low, h.au, cur, h1, fun j hj => by rw [he j hj]; exact h2 j hj⟩
def AutX (w0 : World) (L : Nat) (aB rB rcap : Nat) (VI VT VS VF : Value) (W : Nat) (at_ : Int) (w : World) : Prop := ∃ X, AutW w0 L aB rB rcap VI VT VS VF W X at_ w
theorem AutX.rely {K : Cfg} {w0 w w₁ : World} {L aB rB rcap : Nat} {VI VT VS VF : Value} {W : Nat} {at_ : Int} (g : Geo K w0.heap.size aB rB) (h : AutX w0 L aB rB rcap VI VT VS VF W at_ w) (r : SuffB K w w₁) : AutX w0 L aB rB rcap VI VT VS VF W at_ w₁ := ⟨_, h.choose_spec.rely g r⟩
variable {K : Cfg}
theorem opC_k {P : Program} {R : World → World → Prop} {D : World → World → Array Event → Prop} {fn : FuncId} {ops : Array Oper} {i : Nat} {o : Oper} {Q : Act → World → Prop} {a : Act} {w : World} (ho : ops[i]? = some o) (hw : Region.wanted o (yielded ops a.tmps) = true)
  (h : ∀ w₁, R w w₁ → ∀ K : Act → World → Prop, (∀ a' w', D w₁ w' (listed P fn a o w₁) ∧ Q a' w' → K a' w') → uponK o a K ((execOp a.eval o).run P w₁)) : OpC P R D fn ops i Q a w := by
 unfold OpC
 simp only [ho, hw, if_true]
 exact fun w₁ h₁ => h w₁ h₁ _ fun _ _ x => x
theorem AutW.put {w0 w : World} {L aB rB rcap : Nat} {VI VT VS VF : Value} {W : Nat} {T S X : List Nat} {at_ : Int} {b j : Nat} (hn : w0.heap.size ≤ rB) (hne : aB ≠ rB) (h : AutW w0 L aB rB rcap VI VT VS VF W (rdTo W T S X b j) at_ w) :
  AutW w0 L aB rB rcap VI VT VS VF W (rdTo W T S X b (j + 1)) at_ (w.setCell ⟨rB, j, none⟩ (.int .u64 ((nxN T S X b j : Nat) : Int))) := by
 obtain ⟨cur, h1, h2⟩ := h.row
 refine ⟨h.os, h.output, by simpa using h.size, by simpa using h.big, fun c hc => (Below.heap_setCell _ _ _ _ (by simp; omega)).trans (h.low c hc), h.au.far hne _, _, h1.put _ _, fun i hi => ?_⟩
 rw [qe4 hi, Array.getElem?_setIfInBounds]
 have := h2 i hi
 rw [qe4 hi] at this
 split
 ·rename_i e; subst e
  have hl : j < cur.size := by
   rcases Nat.lt_or_ge j cur.size with hl | hl
   ·exact hl
   ·simp [Array.getElem?_eq_none hl] at this
  simp [hl]
 ·rename_i e
  rw [this]
  by_cases hij : i < j
  ·rw [if_pos hij, if_pos (by omega)]
  ·rw [if_neg hij, if_neg (by omega)]
theorem AutW.putAt {w0 w : World} {L aB rB rcap : Nat} {VI VT VS VF : Value} {W : Nat} {X : List Nat} {at_ : Int} (hn : w0.heap.size ≤ aB) (hne : aB ≠ rB) (h : AutW w0 L aB rB rcap VI VT VS VF W X at_ w) (at' : Int) :
  AutW w0 L aB rB rcap VI VT VS VF W X at' (w.setCell ⟨aB, 6, none⟩ (.int .i64 at')) := by
 obtain ⟨cur, h1, h2⟩ := h.row
 exact ⟨h.os, h.output, by simpa using h.size, by simpa using h.big, fun c hc => (Below.heap_setCell _ _ _ _ (by simp; omega)).trans (h.low c hc), by simpa using h.au.put 6 (.int .i64 at'), cur, h1.far (fun e => hne e.symm) _, h2⟩
theorem qu0 {main : Bool} {w0 : World} {L aB rB rcap : Nat} (g : Geo K w0.heap.size aB rB) (VI VT VS VF : Value) (W : Nat) (T S : List Nat) (hW : 1 ≤ W) (hW4 : W ≤ 4) (hT : T.length = 256 * W) (hS : S.length = W)
  (hvt : Rd w0 (fun _ => True) 1 VT T.length (qab T)) (hvs : Rd w0 (fun _ => True) 1 VS S.length (qab S)) (hT64 : ∀ x ∈ T, x < 18446744073709551616) (hS64 : ∀ x ∈ S, x < 18446744073709551616) (b : Nat) (hb : b < 256) : ∃ k, ∀ (X : List Nat) (at_ : Int) (w : World), X.length = W → (∀ x ∈ X, x < 18446744073709551616) → AutW w0 L aB rB rcap VI VT VS VF W X at_ w →
  CallsC Tryz.prog main (SuffB K) (DB K) 48 #[.pointer (some ⟨aB, 0, none⟩), .int .u8 (b : Int)] k w fun v w' => v = .tuple #[] ∧ AutW w0 L aB rB rcap VI VT VS VF W (rdTo W T S X b W) (IntKind.i64.wrap (at_ + 1)) w' := by
 obtain ⟨sb, so, sc, rfl, hsb, HS⟩ := qjk hvs (by omega) rfl
 obtain ⟨tb, to, tc, rfl, htb, HT⟩ := qjk hvt (by omega) rfl
 have hsL : sb < K.Low := by have := g.a0; have := g.aL; omega
 have htL : tb < K.Low := by have := g.a0; have := g.aL; omega
 co_apply Exists.intro
 intro X at_ w hX hX64 hF
 co_apply callsC_of_wpC Tryz.func48 (by rfl) rfl
 simp only [Tryz.ntmps48, List.size_toArray, List.length_cons, List.length_nil, Nat.reduceAdd, Nat.reduceSub, Array.replicate_succ, Array.replicate_zero, List.push_toArray, List.append_toArray, List.nil_append, List.cons_append]
 co_stmt qaa (AutW.rely g) hF (co_quiet qaa)
 have q5 : ∀ {VT VS : Value} {X : List Nat} (w' : World), AutW w0 L aB rB rcap VI VT VS VF W X at_ w' → w'.cell? ⟨aB, 5, none⟩ = some (.slice (some ⟨rB, 0, none⟩) W rcap) := fun w' h => (h.au.cell 5).trans rfl
 have q2 : ∀ {VT VS : Value} {X : List Nat} (w' : World), AutW w0 L aB rB rcap VI VT VS VF W X at_ w' → w'.cell? ⟨aB, 2, none⟩ = some VT := fun w' h => (h.au.cell 2).trans rfl
 have q3 : ∀ {VT VS : Value} {X : List Nat} (w' : World), AutW w0 L aB rB rcap VI VT VS VF W X at_ w' → w'.cell? ⟨aB, 3, none⟩ = some VS := fun w' h => (h.au.cell 3).trans rfl
 have qrow : ∀ {VT VS : Value} {X : List Nat} (w' : World) (i : Nat), AutW w0 L aB rB rcap VI VT VS VF W X at_ w' → i < W → w'.cell? ⟨rB, i, none⟩ = some (.int .u64 ((X.getD i 0 : Nat) : Int)) := fun w' i h hi => by
  obtain ⟨cur, h1, h2⟩ := h.row
  exact (h1.cell i).trans (h2 i hi)
 have evs1 : ∀ (w' : World) (es : Array Event), (∀ e ∈ es, EvB K w' e) → DB K w' w' es := fun w' es h => ⟨SuffA.refl _, rfl, h⟩
 co_apply wpC_seq qaa
 co_apply wpC_seq qaa
 co_reg qaa
 co_op (AutW.rely g) hF (co_quiet qaa)
 co_opw (AutW.rely g) hF (skip) (co_still qaa)
 co_opw (AutW.rely g) hF (skip) (co_still qaa)
 co_opw (AutW.rely g) hF (have hc := q5 _ hF) (refine evs1 _ _ ?_; co_evs (exact qbf _ _ g.aL (by have := hF.au.lt; simpa using this)))
 clear hc
 co_op (AutW.rely g) hF (co_quiet qaa)
 co_op (AutW.rely g) hF (co_quiet qaa)
 co_apply opsC_nil qaa
 co_then
 co_ctl qaa
 co_apply wpC_loop qaa (RdInv w0 L aB rB rcap VI (.slice (some ⟨tb, to, none⟩) T.length tc) (.slice (some ⟨sb, so, none⟩) S.length sc) VF W T S X at_ b) (RdMu W) _ W
 ·refine ⟨0, 0, _, _, _, _, _, _, _, _, _, _, _, _, _, _, _, _, _, _, _, _, _, _, _, _, _, _, _, _, _, _, _, _, _, _, _, _, _, _, _, _, _, _, _, _, _, _, _, _, _, _, _, _, _, _, _, Nat.zero_le _, rfl, hF.same (fun i hi => by rw [qe4 hi]; simp), rfl⟩
 ·simp [RdMu]
 ·rintro a w ⟨j, cj, v2, v3, v5, v6, v7, v8, v9, v10, v14, v15, v16, v17, v18, v19, v20, v21, v22, v23, v24, v25, v26, v27, v28, v29, v30, v31, v32, v33, v34, v35, v36, v37, v38, v39, v40, v41, v42, v43, v44, v45, v46, v47, v48, v49, v50, v51, v52, v53, v54, v55, v56, v57, v58, v59, v60, hj, hcj, hF, rfl⟩
  co_apply wpC_seq qaa
  co_reg qaa
  co_op (AutW.rely g) hF (co_quiet qaa)
  co_apply opsC_nil qaa
  co_then
  co_apply wpC_seq qaa
  co_split qaa (decide ((j : Int) < (W : Int)))
  ·intro hlt
   have hjW : j < W := by have := of_decide_eq_true hlt; omega
   clear hlt
   co_apply wpC_skip qaa
   co_then
   co_apply wpC_seq qaa
   co_apply wpC_block qaa
   co_apply wpC_seq qaa
   co_reg qaa
   obtain ⟨xj, hxj⟩ : ∃ x : Nat, x = X.getD j 0 := ⟨_, rfl⟩
   obtain ⟨sj, hsj⟩ : ∃ x : Nat, x = S.getD j 0 := ⟨_, rfl⟩
   obtain ⟨tj, htj⟩ : ∃ x : Nat, x = T.getD (256 * j + b) 0 := ⟨_, rfl⟩
   have bx : xj < 18446744073709551616 := by rw [hxj]; exact qbp hX64 _
   have bs : sj < 18446744073709551616 := by rw [hsj]; exact qbp hS64 _
   have bt : tj < 18446744073709551616 := by rw [htj]; exact qbp hT64 _
   have bc : cj < 18446744073709551616 := by rw [← hcj]; exact q1f hX64 _
   obtain ⟨y1, hy1⟩ : ∃ y : Nat, y = xj * 2 % 18446744073709551616 := ⟨_, rfl⟩
   have b1 : y1 < 18446744073709551616 := by omega
   obtain ⟨y2, hy2⟩ : ∃ y : Nat, y = y1 ||| cj := ⟨_, rfl⟩
   have b2 : y2 < 18446744073709551616 := by rw [hy2]; exact Nat.or_lt_two_pow (n := 64) b1 bc
   obtain ⟨y3, hy3⟩ : ∃ y : Nat, y = y2 ||| sj := ⟨_, rfl⟩
   have b3 : y3 < 18446744073709551616 := by rw [hy3]; exact Nat.or_lt_two_pow (n := 64) b2 bs
   obtain ⟨y4, hy4⟩ : ∃ y : Nat, y = y3 &&& tj := ⟨_, rfl⟩
   obtain ⟨cn, hcn⟩ : ∃ y : Nat, y = xj / 9223372036854775808 := ⟨_, rfl⟩
   have E1 : IntKind.u64.wrap ((xj : Int) * 2) = (y1 : Int) := by rw [IntKind.wrap_u64]; omega
   have E2 : bits .or .u64 (y1 : Int) (cj : Int) = (y2 : Int) := by rw [u64_or_nat _ _ b1 bc, hy2]
   have E3 : bits .or .u64 (y2 : Int) (sj : Int) = (y3 : Int) := by rw [u64_or_nat _ _ b2 bs, hy3]
   have E4 : bits .and .u64 (y3 : Int) (tj : Int) = (y4 : Int) := by rw [u64_and_nat _ _ b3 bt, hy4]
   have E5 : (xj : Int) / 9223372036854775808 = (cn : Int) := by omega
   obtain ⟨ix, hix⟩ : ∃ i : Nat, i = 256 * j + b := ⟨_, rfl⟩
   have E6 : IntKind.i64.wrap ((b : Nat) : Int) = (b : Int) := by rw [IntKind.wrap_i64]; omega
   have E7 : IntKind.i64.wrap (256 * (j : Int)) = 256 * (j : Int) := by rw [IntKind.wrap_i64]; omega
   have E8 : IntKind.i64.wrap (256 * (j : Int) + (b : Int)) = (ix : Int) := by rw [IntKind.wrap_i64]; omega
   have hixW : ix < 256 * W := by omega
   have hres : y4 = nxN T S X b j := by unfold nxN; rw [hy4, hy3, hy2, hy1, hxj, hcj, hsj, htj]
   have hcn' : cn = cyN X (j + 1) := by unfold cyN; rw [if_neg (by omega), hcn, hxj]; rfl
   have qx : ∀ w', AutW w0 L aB rB rcap VI (.slice (some ⟨tb, to, none⟩) T.length tc) (.slice (some ⟨sb, so, none⟩) S.length sc) VF W (rdTo W T S X b j) at_ w' → w'.cell? ⟨rB, j, none⟩ = some (.int .u64 (xj : Int)) := fun w' h => by
    have := qrow w' j h hjW
    rw [qe4 hjW, if_neg (by omega), ← hxj] at this
    exact this
   have qs : ∀ w' {X' : List Nat}, AutW w0 L aB rB rcap VI (.slice (some ⟨tb, to, none⟩) T.length tc) (.slice (some ⟨sb, so, none⟩) S.length sc) VF W X' at_ w' → w'.cell? ⟨sb, so + j, none⟩ = some (.int .u64 (sj : Int)) := fun w' X' h => by
    rw [hsj]; exact HS w' h.low j (by omega)
   have qt : ∀ w' {X' : List Nat}, AutW w0 L aB rB rcap VI (.slice (some ⟨tb, to, none⟩) T.length tc) (.slice (some ⟨sb, so, none⟩) S.length sc) VF W X' at_ w' → w'.cell? ⟨tb, to + ix, none⟩ = some (.int .u64 (tj : Int)) := fun w' X' h => by
    rw [htj, hix]; exact HT w' h.low (256 * j + b) (by omega)
   have hlx : S.length = W := hS
   clear hxj hsj htj hy1 hy2 hy3 hy4 hcn hcj hix
   co_op (AutW.rely g) hF (co_quiet qaa)
   co_opw (AutW.rely g) hF (have hjj : (j : Int) < (W : Int) := by omega) (co_still qaa)
   co_opw (AutW.rely g) hF (have hc := qx _ hF) (refine evs1 _ _ ?_; co_evs (exact qbf _ _ g.rL (by have := hF.row.choose_spec.1.lt; simpa using this)))
   clear hc
   co_op (AutW.rely g) hF (co_quiet qaa)
   co_op (AutW.rely g) hF (co_quiet qaa)
   co_apply opsC_nil qaa
   co_then
   -- region 4
   co_apply wpC_seq qaa
   co_reg qaa
   co_op (AutW.rely g) hF (co_quiet qaa)
   co_opw (AutW.rely g) hF (skip) (co_quiet qaa)
   co_op (AutW.rely g) hF (co_quiet qaa)
   co_opw (AutW.rely g) hF (skip) (co_quiet qaa)
   co_op (AutW.rely g) hF (co_quiet qaa)
   co_opw (AutW.rely g) hF (skip) (co_still qaa)
   co_opw (AutW.rely g) hF (skip) (co_still qaa)
   co_opw (AutW.rely g) hF (skip) (co_still qaa)
   co_opw (AutW.rely g) hF (have hc := q3 _ hF) (refine evs1 _ _ ?_; co_evs (exact qbf _ _ g.aL (by have := hF.au.lt; simpa using this)))
   clear hc
   co_op (AutW.rely g) hF (co_quiet qaa)
   co_opw (AutW.rely g) hF (have hjj : (j : Int) < (S.length : Int) := by omega) (co_still qaa)
   co_opw (AutW.rely g) hF (have hc := qs _ hF) (refine evs1 _ _ ?_; co_evs (exact qbf _ _ hsL (by have := hF.size; simp; omega)))
   clear hc
   co_opw (AutW.rely g) hF (skip) (co_quiet qaa)
   co_op (AutW.rely g) hF (co_quiet qaa)
   co_apply opsC_nil qaa
   co_then
   -- region 5
   co_apply wpC_seq qaa
   co_reg qaa
   co_op (AutW.rely g) hF (co_quiet qaa)
   co_opw (AutW.rely g) hF (skip) (co_quiet qaa)
   co_op (AutW.rely g) hF (co_quiet qaa)
   co_apply opsC_nil qaa
   co_then
   -- region 6: the orders that the tape may pick
   co_apply wpC_region_held qaa drawB (S := (AutX w0 L aB rB rcap VI (.slice (some ⟨tb, to, none⟩) T.length tc) (.slice (some ⟨sb, so, none⟩) S.length sc) VF W at_)) (by first | kernel_rfl | rfl)
   intro w₂ hR
   replace hF := AutW.rely g (AutW.rely g hF hR) (qnl _)
   clear hR
   simp only [List.size_toArray, List.length_cons, List.length_nil, Nat.reduceAdd, Nat.zero_add]
   generalize ({ w₂ with drawn := w₂.drawn + 1 } : World) = w₃ at hF ⊢
   have hX' : (AutX w0 L aB rB rcap VI (.slice (some ⟨tb, to, none⟩) T.length tc) (.slice (some ⟨sb, so, none⟩) S.length sc) VF W at_) w₃ := ⟨_, hF⟩
   co_take 0 qaa (AutX.rely g) hX' hw (skip) (co_quiet qaa)
   co_take 1 qaa (AutX.rely g) hX' hw (skip) (co_still qaa)
   co_take 2 qaa (AutX.rely g) hX' hw (skip) (co_still qaa)
   co_take 3 qaa (AutX.rely g) hX' hw (have hc := q5 _ hw.choose_spec) (refine evs1 _ _ ?_; co_evs (exact qbf _ _ g.aL (by have := hw.choose_spec.au.lt; simpa using this)))
   co_take 4 qaa (AutX.rely g) hX' hw (skip) (co_quiet qaa)
   co_take 5 qaa (AutX.rely g) hX' hw (skip) (co_quiet qaa)
   co_take 6 qaa (AutX.rely g) hX' hw (skip) (co_quiet qaa)
   co_take 7 qaa (AutX.rely g) hX' hw (skip) (co_still qaa)
   co_take 8 qaa (AutX.rely g) hX' hw (skip) (co_still qaa)
   co_take 9 qaa (AutX.rely g) hX' hw (skip) (co_still qaa)
   co_take 10 qaa (AutX.rely g) hX' hw (have hc := q2 _ hw.choose_spec) (refine evs1 _ _ ?_; co_evs (exact qbf _ _ g.aL (by have := hw.choose_spec.au.lt; simpa using this)))
   co_take 11 qaa (AutX.rely g) hX' hw (skip) (co_quiet qaa)
   co_take 12 qaa (AutX.rely g) hX' hw (skip) (co_quiet qaa)
   co_take 13 qaa (AutX.rely g) hX' hw (skip) (co_quiet qaa)
   co_take 14 qaa (AutX.rely g) hX' hw (skip) (rw [listed_nil (by first | (simp [go_sem]; done) | (simp [go_sem]; go_simp; done) | (simp [go_sem, convert]; done) | (simp [go_sem, convert, Program.typeAt]; done))]; exact Terms.idle qaa _)
   co_take 15 qaa (AutX.rely g) hX' hw (skip) (co_quiet qaa)
   co_take 16 qaa (AutX.rely g) hX' hw (have hixI : (ix : Int) < 256 * (W : Int) := by omega) (co_still qaa)
   co_take 17 qaa (AutX.rely g) hX' hw (have hc := qt _ hw.choose_spec) (refine evs1 _ _ ?_; co_evs (exact qbf _ _ htL (by have := hw.choose_spec.size; simp; omega)))
   co_take 18 qaa (AutX.rely g) hX' hw (skip) (co_quiet qaa)
   co_take 19 qaa (AutX.rely g) hX' hw (have hjj : (j : Int) < (W : Int) := by omega) (co_still qaa)
   co_applyP anyCH_all (rs := [20]) (by first | kernel_rfl | decide +kernel) (by simp)
   intro i hi
   simp only [List.mem_singleton] at hi
   subst hi
   co_applyP opC_k rfl (by first | kernel_rfl | rfl)
   intro w₄ hR K' hK
   replace hF := AutW.rely g hF hR
   clear hR
   have hc := qx _ hF
   have hfz : w₄.frozen? ⟨rB, j, none⟩ = false := hF.row.choose_spec.1.frozen j
   go_simp
   try (unfold stored; go_simp)
   have hP := AutW.put g.r0 g.ar hF
   refine hK _ _ ⟨⟨qlu g.wr g.rL _, Below.heap_setCell _ _ _ _ (fun e => g.rc e.symm), ?_⟩, ?_, ?_⟩
   ·co_evs (exact qbf _ _ g.rL (by have := hF.row.choose_spec.1.lt; simpa using this))
   ·exact ⟨_, hP⟩
   clear hK K' hc hfz hX'
   generalize World.setCell w₄ _ _ = w₅ at hP ⊢
   replace hF := hP
   clear hP
   try walk_nrm
   co_done
   -- region 7
   have E9 : IntKind.i64.wrap ((j : Int) + 1) = (j : Int) + 1 := by rw [IntKind.wrap_i64]; omega
   co_reg qaa
   co_opw (AutW.rely g) hF (skip) (co_still qaa)
   co_op (AutW.rely g) hF (co_quiet qaa)
   co_apply opsC_nil qaa
   co_then
   refine ⟨⟨j + 1, cyN X (j + 1), _, _, _, _, _, _, _, _, _, _, _, _, _, _, _, _, _, _, _, _, _, _, _, _, _, _, _, _, _, _, _, _, _, _, _, _, _, _, _, _, _, _, _, _, _, _, _, _, _, _, _, _, _, _, _, by omega, rfl, hF, rfl⟩, ?_⟩
   simp [RdMu]
   omega
  ·intro hlt
   have hjW : j = W := by have := of_decide_eq_false hlt; omega
   clear hlt
   co_apply wpC_exit qaa
   co_then
   co_reg qaa
   have q6 : ∀ {VT VS : Value} {X : List Nat} (w' : World), AutW w0 L aB rB rcap VI VT VS VF W X at_ w' → w'.cell? ⟨aB, 6, none⟩ = some (.int .i64 at_) := fun w' h => (h.au.cell 6).trans rfl
   co_op (AutW.rely g) hF (co_quiet qaa)
   co_opw (AutW.rely g) hF (skip) (co_still qaa)
   co_opw (AutW.rely g) hF (skip) (co_still qaa)
   co_opw (AutW.rely g) hF (have hc := q6 _ hF) (refine evs1 _ _ ?_; co_evs (exact qbf _ _ g.aL (by have := hF.au.lt; simpa using this)))
   clear hc
   co_op (AutW.rely g) hF (co_quiet qaa)
   co_opw (AutW.rely g) hF (skip) (co_still qaa)
   co_opw (AutW.rely g) hF (skip) (co_still qaa)
   co_opw (AutW.rely g) hF (have hc := q6 _ hF; have hfz := hF.au.frozen 6) (refine ⟨qlu g.wa g.aL _, Below.heap_setCell _ _ _ _ (fun e => g.ac e.symm), ?_⟩; co_evs (exact qbf _ _ g.aL (by have := hF.au.lt; simpa using this)))
   replace hF := hF.putAt g.a0 g.ar (IntKind.i64.wrap (at_ + 1))
   co_apply opsC_nil qaa
   subst hjW
   exact ⟨rfl, _, resultsC_none (by rfl) _, rfl, hF⟩
end Go.Proofs.YtlgjaefcfnndhaaGreatDoor
