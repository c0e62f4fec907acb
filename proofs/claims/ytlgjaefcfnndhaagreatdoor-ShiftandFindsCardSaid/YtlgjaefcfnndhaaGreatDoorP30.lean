/-
 The pieces of shiftand's Feed ahead of its go statement.
-/
import Derived.Test.YtlgjaefcfnndhaaGreatDoorP22
import Derived.Test.YtlgjaefcfnndhaaGreatDoorP29
set_option linter.unusedVariables false
set_option linter.unusedSimpArgs false
set_option maxHeartbeats 16000000
set_option maxRecDepth 100000
namespace Go.Proofs.YtlgjaefcfnndhaaGreatDoor
section
open Go.RowKit Go.Conc Go.Pip Go.Ride
noncomputable def fR8 : Code := match fBody with | .seq _ (.seq _ (.seq _ (.seq r _))) => r | _ => .skip
theorem qzy (W : Nat) (hW : 1 ≤ W) (hW4 : W ≤ 4096) (Wd : Int) (X : List Nat) (hX : X.length = W) (at_ : Int) (w : World) (VI VT VS VF XV : Value) (hxv : Rd w (fun _ => True) 1 XV W (qab X)) (sB xB : Nat)
  (hs : Blk w sB 25 #[VI, .int .i64 Wd, VT, VS, VF]) (hx : Blk w xB 27 #[XV, .int .i64 at_]) (v0 v1 v2 v5 v6 v7 v8 v9 v10 v11 v12 v13 v14 v15 v16 v17 v18 v19 v20 v21 v22 v23 v24 v25 v26 v27 v28 v29 v30 v31 v32 v33 v34 v35 v36 v37 v38 v39 v40 v41 v42 v43 v44 v45 v46 v47 v48 v49 v50 : Value)
  (Q : Exit → Act → World → Prop) (hQ : ∀ aB rB cap cur w', Blk w' aB 138 #[VI, .int .i64 Wd, VT, VS, VF, .slice (some ⟨rB, 0, none⟩) W cap, .int .i64 at_] → Blk w' rB 71 cur → (∀ j, j < W → cur[j]? = some (.int .u64 ((X.getD j 0 : Nat) : Int))) → w.heap.size ≤ aB → w.heap.size ≤ rB → aB ≠ rB → Off Nob w w' →
   Q .normal ⟨#[v0, v1, v2, .pointer (some ⟨sB, 0, none⟩), .pointer (some ⟨xB, 0, none⟩), v5, v6, v7, v8, v9, .pointer (some ⟨aB, 0, none⟩), v11, v12, v13, v14, v15, v16, v17, v18, v19, v20, v21, v22, v23, v24, v25, v26, v27, v28, v29, v30, v31, v32, .agg #[VI, .int .i64 Wd, VT, VS, VF], .agg #[XV, .int .i64 at_], .pointer (some ⟨aB, 0, none⟩), v36, v37, v38, v39, v40, v41, v42, v43, v44, v45, v46, v47, v48, v49, v50], []⟩ w') : fR8.wp Tryz.prog Q ⟨#[v0, v1, v2, .pointer (some ⟨sB, 0, none⟩), .pointer (some ⟨xB, 0, none⟩), v5, v6, v7, v8, v9, v10, v11, v12, v13, v14, v15, v16, v17, v18, v19, v20, v21, v22, v23, v24, v25, v26, v27, v28, v29, v30, v31, v32, v33, v34, v35, v36, v37, v38, v39, v40, v41, v42, v43, v44, v45, v46, v47, v48, v49, v50], []⟩ w := by
 have c0 := hs.cell 0
 have c1 := hs.cell 1
 have c2 := hs.cell 2
 have c3 := hs.cell 3
 have c4 := hs.cell 4
 have x0 := hx.cell 0
 have x1 := hx.cell 1
 clear hs hx
 simp only [fR8, fBody, Tryz.f24, Option.getD_some]
 go_wp2_with fail
 refine (n_of W hW hW4 Wd X hX at_ w VI VT VS VF XV hxv).mono ?_
 rintro e w1 ⟨aB, rB, cap, cur, rfl, h1, h2, h3, h4, h5, h6, h7⟩
 go_wp2_with fail
 exact hQ aB rB cap cur w1 h1 h2 h3 (by omega) (by omega) h6 h7
noncomputable def fR9 : Code := match fBody with | .seq _ (.seq _ (.seq _ (.seq _ (.seq r _)))) => r | _ => .skip
theorem qzz (w : World) (v0 v1 v2 v3 v4 v5 v6 v7 v8 v9 v10 v11 v12 v13 v14 v15 v16 v17 v18 v19 v20 v21 v22 v23 v24 v25 v26 v27 v28 v29 v30 v31 v32 v33 v34 v35 v36 v37 v38 v39 v40 v41 v42 v43 v44 v45 v46 v47 v48 v49 v50 : Value)
  (Q : Exit → Act → World → Prop) (hQ : Q .normal ⟨#[v0, v1, v2, v3, v4, v5, v6, v7, v8, v9, v10, .chan (some w.heap.size), v12, v13, v14, v15, v16, v17, v18, v19, v20, v21, v22, v23, v24, v25, v26, v27, v28, v29, v30, v31, v32, v33, v34, v35, .chan (some w.heap.size), v37, v38, v39, v40, v41, v42, v43, v44, v45, v46, v47, v48, v49, v50], []⟩ (w.alloc (.chan 16 #[] false 0 0 false))) : fR9.wp Tryz.prog Q ⟨#[v0, v1, v2, v3, v4, v5, v6, v7, v8, v9, v10, v11, v12, v13, v14, v15, v16, v17, v18, v19, v20, v21, v22, v23, v24, v25, v26, v27, v28, v29, v30, v31, v32, v33, v34, v35, v36, v37, v38, v39, v40, v41, v42, v43, v44, v45, v46, v47, v48, v49, v50], []⟩ w := by
 simp only [fR9, fBody, Tryz.f24, Option.getD_some]
 have hmk : ∀ w : World, (Instr.makeChan 96 (.int .i64 16)).run Tryz.prog w = .ok (.chan (some w.heap.size)) (w.alloc (.chan 16 #[] false 0 0 false)) := fun w => by
  simp [Instr.makeChan, go_sem]
  have h : Tryz.t85.bytes = 16 := rfl
  rw [h]
  decide
 go_wp2_with fail
 exact hQ
noncomputable def fR0 : Code := match fBody with | .seq r _ => r | _ => .skip
def feW0 (w : World) (VI VT VS VF XV : Value) (Wd at_ : Int) : World := ((w.alloc (.cells #[VI, .int .i64 Wd, VT, VS, VF] 25)).alloc (.cells #[XV, .int .i64 at_] 27)).alloc (.cells #[.slice none 0 0, .int .i64 0] 27)
theorem qz0 (w : World) (VI VT VS VF bv : Value) (A : Option Addr) (n c : Nat) (Wd at_ : Int)
  (Q : Exit → Act → World → Prop) (hQ : Q .normal ⟨#[.agg #[VI, .int .i64 Wd, VT, VS, VF], .agg #[.slice A n c, .int .i64 at_], bv, .pointer (some ⟨w.heap.size, 0, none⟩), .pointer (some ⟨w.heap.size + 1, 0, none⟩), undef, .pointer (some ⟨w.heap.size + 2, 0, none⟩), .slice none 0 0, .int .i64 0, undef, undef, undef, undef, undef, undef, undef, undef, undef, undef, undef, undef, undef, undef, undef, undef, undef, undef, undef, undef, undef, undef, undef, undef, undef, undef, undef, undef, undef, undef, undef, undef, undef, undef, undef, undef, undef, undef, undef, undef, undef, undef], []⟩ (feW0 w VI VT VS VF (.slice A n c) Wd at_)) : fR0.wp Tryz.prog Q ⟨#[.agg #[VI, .int .i64 Wd, VT, VS, VF], .agg #[.slice A n c, .int .i64 at_], bv, undef, undef, undef, undef, undef, undef, undef, undef, undef, undef, undef, undef, undef, undef, undef, undef, undef, undef, undef, undef, undef, undef, undef, undef, undef, undef, undef, undef, undef, undef, undef, undef, undef, undef, undef, undef, undef, undef, undef, undef, undef, undef, undef, undef, undef, undef, undef, undef], []⟩ w := by
 simp only [fR0, fBody, Tryz.f24, Option.getD_some]
 unfold feW0 at hQ
 go_wp2_with fail
 exact hQ
noncomputable def fA1 : Code := match fBody with | .seq _ (.seq r _) => r | _ => .skip
theorem qz1 (ids : List Int) (Wd : Int) (T S F X : List Nat) (hX64 : ∀ x ∈ X, x < 18446744073709551616) (at_ : Int) (w0 w : World) (VI VT VS VF XV : Value) (h0 : shErr ids Wd T S F X at_ = 0) (hsv : SetV w VI VT VS VF ids Wd T S F) (hZ : TzT w) (hxv : Rd w (fun _ => True) 1 XV X.length (qab X)) (sB xB : Nat)
  (hs : Blk w sB 25 #[VI, .int .i64 Wd, VT, VS, VF]) (hx : Blk w xB 27 #[XV, .int .i64 at_]) (v0 v1 v2 v5 v6 v7 v8 v9 v10 v11 v12 v13 v14 v15 v16 v17 v18 v19 v20 v21 v22 v23 v24 v25 v26 v27 v28 v29 v30 v31 v32 v33 v34 v35 v36 v37 v38 v39 v40 v41 v42 v43 v44 v45 v46 v47 v48 v49 v50 : Value)
  (Q : Exit → Act → World → Prop) (hQ : ∀ w', Off Nob w w' → Q .normal ⟨#[v0, v1, v2, .pointer (some ⟨sB, 0, none⟩), .pointer (some ⟨xB, 0, none⟩), v5, v6, v7, v8, .int .i64 0, v10, v11, v12, .agg #[VI, .int .i64 Wd, VT, VS, VF], .agg #[XV, .int .i64 at_], .int .i64 0, .int .i64 0, .bool false, v18, v19, v20, v21, v22, v23, v24, v25, v26, v27, v28, v29, v30, v31, v32, v33, v34, v35, v36, v37, v38, v39, v40, v41, v42, v43, v44, v45, v46, v47, v48, v49, v50], []⟩ w') : fA1.wp Tryz.prog Q ⟨#[v0, v1, v2, .pointer (some ⟨sB, 0, none⟩), .pointer (some ⟨xB, 0, none⟩), v5, v6, v7, v8, v9, v10, v11, v12, v13, v14, v15, v16, v17, v18, v19, v20, v21, v22, v23, v24, v25, v26, v27, v28, v29, v30, v31, v32, v33, v34, v35, v36, v37, v38, v39, v40, v41, v42, v43, v44, v45, v46, v47, v48, v49, v50], []⟩ w := by
 have c0 := hs.cell 0
 have c1 := hs.cell 1
 have c2 := hs.cell 2
 have c3 := hs.cell 3
 have c4 := hs.cell 4
 have x0 := hx.cell 0
 have x1 := hx.cell 1
 clear hs hx
 simp only [fA1, fBody, Tryz.f24, Option.getD_some]
 go_wp2_with fail
 refine (qe5 ids Wd T S F X hX64 at_ w VI VT VS VF XV hsv hZ hxv).mono ?_
 rintro e w1 ⟨rfl, o1⟩
 rw [h0]
 go_wp2_with fail
 exact o1
noncomputable def fB1 : Code := match fBody with | .seq _ (.seq _ (.seq r _)) => r | _ => .skip
theorem qz2 (L bcap : Nat) (bp : Option Addr) (hL : L ≤ 4096) (at_ : Int) (ha : 0 ≤ at_) (hat : at_ + (L : Int) ≤ 1000000000) (w : World) (XV : Value) (xB : Nat) (hx : Blk w xB 27 #[XV, .int .i64 at_]) (v0 v1 v3 v5 v6 v7 v8 v9 v10 v11 v12 v13 v14 v15 v16 v17 v18 v19 v20 v21 v22 v23 v24 v25 v26 v27 v28 v29 v30 v31 v32 v33 v34 v35 v36 v37 v38 v39 v40 v41 v42 v43 v44 v45 v46 v47 v48 v49 v50 : Value)
  (Q : Exit → Act → World → Prop) (hQ : Q .normal ⟨#[v0, v1, .slice bp L bcap, v3, .pointer (some ⟨xB, 0, none⟩), v5, v6, v7, v8, v9, v10, v11, v12, v13, v14, v15, v16, v17, v18, v19, .bool false, .slice bp L bcap, .int .i64 (L : Int), .bool false, v24, .bool false, .pointer (some ⟨xB, 1, none⟩), .int .i64 at_, .slice bp L bcap, .int .i64 (L : Int), .int .i64 (at_ + (L : Int)), .bool false, v32, v33, v34, v35, v36, v37, v38, v39, v40, v41, v42, v43, v44, v45, v46, v47, v48, v49, v50], []⟩ w) : fB1.wp Tryz.prog Q ⟨#[v0, v1, .slice bp L bcap, v3, .pointer (some ⟨xB, 0, none⟩), v5, v6, v7, v8, v9, v10, v11, v12, v13, v14, v15, v16, v17, v18, v19, v20, v21, v22, v23, v24, v25, v26, v27, v28, v29, v30, v31, v32, v33, v34, v35, v36, v37, v38, v39, v40, v41, v42, v43, v44, v45, v46, v47, v48, v49, v50], []⟩ w := by
 have x1 : w.cell? ⟨xB, 1, none⟩ = some (.int .i64 at_) := hx.cell 1
 have d1 : decide ((4096 : Int) < (L : Int)) = false := dcF
 have hwr : IntKind.i64.wrap (at_ + (L : Int)) = at_ + (L : Int) := by rw [IntKind.wrap_i64]; omega
 have d2 : decide ((1000000000 : Int) < at_ + (L : Int)) = false := dcF
 clear hx
 simp only [fB1, fBody, Tryz.f24, Option.getD_some]
 go_wp2_with fail
 exact hQ
end
section
open Go.RowKit Go.Conc Go.Pip Go.Ride
structure Lies (w w' : World) : Prop where
 os : w'.os = w.os
 output : w'.output = w.output
 size : w.heap.size ≤ w'.heap.size
 block : ∀ k, k < w.heap.size → w'.heap[k]? = w.heap[k]?
section
variable {w w' w2 : World}
theorem Lies.refl (w : World) : Lies w w := ⟨rfl, rfl, Nat.le_refl _, fun _ _ => rfl⟩
theorem Lies.of {τ : Nat → Question → Nat} {d : Nat} (o : Off Nob (Ride.re w τ d) w') : Lies w w' := ⟨o.os, o.output, o.size, fun k hk => o.block k hk id⟩
theorem Lies.of' (o : Off Nob w w') : Lies w w' := ⟨o.os, o.output, o.size, fun k hk => o.block k hk id⟩
theorem Lies.trans (h : Lies w w') (k : Lies w' w2) : Lies w w2 := ⟨k.os.trans h.os, k.output.trans h.output, Nat.le_trans h.size k.size, fun i hi => (k.block i (Nat.lt_of_lt_of_le hi h.size)).trans (h.block i hi)⟩
theorem Lies.off (h : Lies w w') : Off Nob (Ride.re w w'.tape w'.drawn) w' := ⟨h.os, rfl, h.output, h.size, fun k hk _ => h.block k hk⟩
theorem Lies.re (h : Lies w w') (τ : Nat → Question → Nat) (d : Nat) : Lies w (Ride.re w' τ d) := ⟨h.os, h.output, h.size, h.block⟩
theorem Lies.reI (w : World) (τ : Nat → Question → Nat) (d : Nat) : Lies w (Ride.re w τ d) := (Lies.refl w).re τ d
theorem Lies.blk {g : Nat} {t : TypeId} {cs : Array Value} (h : Lies w w') (b : Blk w g t cs) : Blk w' g t cs := b.to (h.block _ b.lt)
theorem Lies.rd {F : Nat → Prop} {sz n : Nat} {v : Value} {xs : List Value} (h : Lies w w') (r : Rd w F sz v n xs) : Rd w' F sz v n xs := Rd.keep (w := Ride.re w w'.tape w'.drawn) r h.off (fun _ _ h => h)
theorem Lies.set {VI VT VS VF : Value} {ids : List Int} {Wd : Int} {T S F : List Nat} (h : Lies w w') (s : SetV w VI VT VS VF ids Wd T S F) : SetV w' VI VT VS VF ids Wd T S F :=
 ⟨h.rd s.i, h.rd s.t, h.rd s.s, h.rd s.f, s.ct, s.cf, s.i64, s.w64, s.t64, s.s64, s.f64, s.il, s.tl, s.sl, s.fl⟩
theorem Lies.tz (h : Lies w w') (z : TzT w) : TzT w' := qbq (w := Ride.re w w'.tape w'.drawn) z h.off
theorem Lies.alloc (h : Lies w w') (o : Obj) : Lies w (w'.alloc o) := ⟨h.os, h.output, by have := h.size; simp; omega, fun k hk => (Below.heap_alloc _ _ _ (Nat.lt_of_lt_of_le hk h.size)).trans (h.block k hk)⟩
theorem Lies.put (h : Lies w w') {p : Addr} (hp : w.heap.size ≤ p.block) (u : Value) : Lies w (w'.setCell p u) := ⟨h.os, h.output, by simpa using h.size, fun k hk => (Below.heap_setCell _ _ _ _ (by omega)).trans (h.block k hk)⟩
end
theorem _root_.Go.Ride.Go0.wpL {P : Program} (hM : Mild P) {Fin : Goroutine → World → Prop} {c : Code} {a : Act} {b : Frame} {k : List Item} {cs : List Frame} {w : World} (h : ∀ τ d, c.wp P (Lands P Fin b k cs) a (Ride.re w τ d)) : Go0 P Fin (G (b.at a (.code c :: k)) cs) w := Go0.wp hM h (fun _ _ _ h => h)
theorem _root_.Go.Ride.Go0.with_ok {P : Program} {Fin : Goroutine → World → Prop} {g : Goroutine} {w : World} (h : okG g → Go0 P Fin g w) : Go0 P Fin g w := fun hk => h hk hk
theorem qe6 {ids : List Int} {Wd : Int} {T S F X : List Nat} {at_ : Int} (h : shErr ids Wd T S F X at_ = 0) : qan ids Wd T S F = 0 ∧ (X.length : Int) = Wd ∧ (∀ f ∈ onesN X, f < qdb ids Wd.toNat T S F) ∧ 0 ≤ at_ ∧ at_ ≤ 1000000000 := by
 unfold shErr at h
 split at h
 ·rename_i h1; exact absurd h h1
 ·rename_i h1
  split at h
  ·exact absurd h (by decide)
  ·rename_i h2
   split at h
   ·exact absurd h (by decide)
   ·rename_i h3
    split at h
    ·exact absurd h (by decide)
    ·rename_i h4
     refine ⟨by omega, by omega, fun f hf => ?_, by omega, by omega⟩
     rcases Nat.lt_or_ge f (qdb ids Wd.toNat T S F) with h5 | h5
     ·exact h5
     ·exact absurd (List.any_eq_true.2 ⟨f, hf, dT h5⟩) h3
theorem qer (T S : List Nat) (W : Nat) : ∀ (B X : List Nat), X.length = W → (qat T S W B X).length = W
 | [], X, h => h
 | b :: bs, X, h => qer T S W bs _ (qdz _ _ _ _ _ _)
end
end Go.Proofs.YtlgjaefcfnndhaaGreatDoor
