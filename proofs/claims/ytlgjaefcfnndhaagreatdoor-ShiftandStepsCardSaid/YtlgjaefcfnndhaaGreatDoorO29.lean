/-
 dragnetref18.Build at the example.
-/
import Derived.Test.YtlgjaefcfnndhaaGreatDoorO25
import Derived.Test.YtlgjaefcfnndhaaGreatDoorO9
import Derived.Deep.DeepCutAuto
set_option linter.unusedVariables false
set_option linter.unusedSimpArgs false
set_option maxHeartbeats 16000000
set_option maxRecDepth 100000
namespace Go.Proofs.YtlgjaefcfnndhaaGreatDoor
open Go.RowKit
theorem Tryz.infoLs : (Tryz.prog.info? 100).map (fun i => (i.zero, i.size, i.bytes)) = some (some (.slice none 0 0), 1, 24) := by kernel_rfl
theorem Tryz.infoTs : (Tryz.prog.info? 25).map (·.size) = some 5 := by kernel_rfl
def rowB (b : Nat) : Int := if b = 97 then 5 else if b = 98 then 6 else 0
def tabV (k : Nat) : List Value := (List.range 256).map fun j => .int .u64 (if j < k then rowB j else 0)
theorem qca : tabV 0 = List.replicate 256 (.int .u64 0) := by
 unfold tabV
 apply List.ext_getElem
 ·rw [List.length_map, List.length_range, List.length_replicate]
 ·intro i h1 h2
  rw [List.getElem_replicate, List.getElem_map, if_neg (Nat.not_lt_zero _)]
theorem qid (k j : Nat) (hj : j < 256) : (tabV k)[j]? = some (.int .u64 (if j < k then rowB j else 0)) := by simp [tabV, hj]
theorem qjd (k : Nat) : (tabV k).length = 256 := by simp [tabV]
theorem qwc (k : Nat) (hk : k < 256) : (tabV k).set k (.int .u64 (rowB k)) = tabV (k + 1) := by
 apply List.ext_getElem?
 intro j
 rw [List.getElem?_set]
 by_cases hj : j < 256
 ·rw [qid _ _ hj, qid _ _ hj]
  by_cases e : k = j
  ·rw [if_pos e, if_pos (by rw [qjd]; exact hk), e, if_pos (by omega)]
  ·rw [if_neg e]
   by_cases g : j < k
   ·rw [if_pos g, if_pos (by omega)]
   ·rw [if_neg g, if_neg (by omega)]
 ·rw [List.getElem?_eq_none (by rw [qjd]; omega), if_neg (by omega), List.getElem?_eq_none (by rw [qjd]; omega)]
theorem qcv : (madeCells (Value.int .u64 0).cells (256 * 1)).toList = List.replicate 256 (.int .u64 0) := by
 rw [Nat.mul_one]
 show (madeCells #[.int .u64 0] 256).toList = _
 rw [toList_madeCells_one]
theorem qxz : ∀ b : Fin 256, hasB 0 8589934592 0 0 b.val = decide (b.val = 97) ∧ hasB 0 17179869184 0 0 b.val = decide (b.val = 98) ∧ hasB 0 25769803776 0 0 b.val = (decide (b.val = 97) || decide (b.val = 98)) := by decide +kernel
theorem qr0 (w : World) (v rv l0 l1 ma mb : Value) (hv : Rd w (fun _ => True) 3 v 2 ln_ab) (hr : Rd w (fun _ => True) 1 rv 2 [l0, l1]) (h0 : Rd w (fun _ => True) 1 l0 1 [ma]) (h1 : Rd w (fun _ => True) 1 l1 1 [mb]) (ha : Rd w (fun _ => True) 4 ma 2 se_a) (hb : Rd w (fun _ => True) 4 mb 1 se_b) (bt : Nat) (hbt : bt < 256) :
  Calls Tryz.prog 60 #[.agg #[.int .i64 1, v], rv, .int .u8 (bt : Int)] w (fun e w' => ∃ u, e = .returned (.tuple #[u, .int .i64 0]) ∧ Rd w' (fun _ => True) 1 u 1 [.int .u64 (rowB bt)] ∧ Off Nob w w') := by
 obtain ⟨q0, q1, q2⟩ := qxz ⟨bt, hbt⟩
 dsimp only at q0 q1 q2
 unfold rowB
 by_cases e1 : bt = 97
 ·rw [if_pos e1]
  exact qjc true false true 5 (.inl ⟨rfl, rfl, rfl, rfl⟩) w v rv l0 l1 ma mb hv hr h0 h1 ha hb bt hbt (by rw [q0]; exact dT e1) (by rw [q1]; exact dcF) (by rw [q2, dT e1]; rfl)
 ·rw [if_neg e1]
  by_cases e2 : bt = 98
  ·rw [if_pos e2]
   exact qjc false true true 6 (.inr (.inl ⟨rfl, rfl, rfl, rfl⟩)) w v rv l0 l1 ma mb hv hr h0 h1 ha hb bt hbt (by rw [q0]; exact dF e1) (by rw [q1]; exact dT e2) (by rw [q2, dT e2, Bool.or_true])
  ·rw [if_neg e2]
   exact qjc false false false 0 (.inr (.inr ⟨rfl, rfl, rfl, rfl⟩)) w v rv l0 l1 ma mb hv hr h0 h1 ha hb bt hbt (by rw [q0]; exact dF e1) (by rw [q1]; exact dF e2) (by rw [q2, dF e1, dF e2]; rfl)
theorem qbr {P : Program} (w : World) {o : Oper} {a : Act} {K : Act → World → Prop} {Q : Exit → Act → World → Prop} (l c : Operand) (t : TypeId) (hop : o.op = Op.makeSlice t l c)
  (base : Nat) (e : TypeId) (i : TypeInfo) (z : Value) (size : Nat) (h1 : P.underlying t = some (.slice e)) (h2 : P.info? e = some i) (h3 : i.zero = some z) (h4 : i.size = size)
  (kl kc : IntKind) (L C : Int) (n : Nat) (hl : a.eval l = .int kl L) (hc : a.eval c = .int kc C) (hL : L = (n : Int)) (hC : C = (n : Int)) (b2 : i.bytes * n ≤ 281474976710656) (b3 : n ≤ maxLen) (b4 : base ≤ w.heap.size)
  (hK : ∀ w', w'.ownsRow base e size (.slice (some ⟨w.heap.size, 0, none⟩) n n) n (madeCells z.cells (n * size)).toList → w.grownBy w' none → K (a.put o.dst (.slice (some ⟨w.heap.size, 0, none⟩) n n)) w') :
  Oper.wp P o a w K Q := by
 obtain ⟨w', hrun, r1, r2⟩ := run_make_full (P := P) w base t e i z size h1 h2 h3 h4 kl kc n b2 b3 b4
 subst hL
 subst hC
 unfold Oper.wp
 simp [execOp, hop, hl, hc, hrun, Result.andThen]
 exact hK w' r1 r2
theorem qbs {w : World} {base base2 : Nat} {e t : TypeId} {size size2 n m g c g2 c2 : Nat} {xs ys : List Value} (h : w.ownsRow base e size (.slice (some ⟨g, 0, none⟩) n c) n xs) (h2 : w.ownsRow base2 t size2 (.slice (some ⟨g2, 0, none⟩) m c2) m ys) (ne : t ≠ e) : g ≠ g2 := by
 rcases h2.2 with ⟨hx, _⟩ | ⟨g', cap, cur, hv, _, hh, _⟩
 ·cases hx
 ·injection hv with hv1
  injection hv1 with hv1
  injection hv1 with hv1
  subst hv1
  exact qam h (show Blk w g2 t cur from hh) ne
theorem qt7 {w : World} {a b : Nat} {t u : TypeId} {cs ds : Array Value} (h : Blk w a t cs) (k : Blk w b u ds) (ne : t ≠ u) : a ≠ b := by
 rintro rfl
 unfold Blk at h k
 rw [h] at k
 injection k with k
 injection k with _ k
 exact ne k
theorem qgy {W : World} {g : Nat} {t : TypeId} {a b c d e : Value} (h : Blk W g t #[a, b, c, d, e]) (x y z u v : Value) : Blk (W.setCells g 0 [x, y, z, u, v]) g t #[x, y, z, u, v] := by
 show Blk (((((W.setCell ⟨g, 0, none⟩ x).setCell ⟨g, 0 + 1, none⟩ y).setCell ⟨g, 0 + 1 + 1, none⟩ z).setCell ⟨g, 0 + 1 + 1 + 1, none⟩ u).setCell ⟨g, 0 + 1 + 1 + 1 + 1, none⟩ v) g t #[x, y, z, u, v]
 exact ((((h.put 0 x).put 1 y).put 2 z).put 3 u).put 4 v
theorem qr1 {W : World} {g : Nat} {t : TypeId} {a b c d e : Value} (h : Blk W g t #[a, b, c, d, e]) : W.there g 0 5 := fun j hj => by
 rw [Nat.zero_add]
 refine ⟨?_, h.frozen _⟩
 rw [h.cell]
 have : j = 0 ∨ j = 1 ∨ j = 2 ∨ j = 3 ∨ j = 4 := by omega
 rcases this with rfl | rfl | rfl | rfl | rfl <;> rfl
theorem qb3 {W : World} {base g n c k size : Nat} {e : TypeId} {xs : List Value} (h : W.ownsRow base e size (.slice (some ⟨g, 0, none⟩) n c) n xs) (ne : g ≠ k) (o : Nat) (vs : List Value) : (W.setCells k o vs).ownsRow base e size (.slice (some ⟨g, 0, none⟩) n c) n xs := by
 induction vs generalizing W o with
 | nil => exact h
 | cons v vs ih =>
  refine ih (qao h (fun x hx => ?_)) (o + 1)
  have e : g = x := by simpa [Value.ownBlock] using hx
  subst e
  rw [Below.heap_setCell _ ⟨k, o, none⟩ _ _ ne]
def BuildI (w : World) (pb : Nat) (LV st fi : Value) (tab : List Value) (tb gi ci gt : Nat) (W : World) : Prop :=
 Off Nob w W ∧ Blk W pb 62 #[.int .i64 1, LV] ∧ Blk W tb 25 #[.slice (some ⟨gi, 0, none⟩) (0 + 2) ci, .int .i64 1, .slice (some ⟨gt, 0, none⟩) 256 256, st, fi] ∧ W.ownsRow w.heap.size 3 1 (.slice (some ⟨gi, 0, none⟩) (0 + 2) ci) (0 + 2) ([] ++ [.int .i64 5, .int .i64 9]) ∧ W.ownsRow w.heap.size 71 1 (.slice (some ⟨gt, 0, none⟩) 256 256) 256 tab ∧ w.heap.size ≤ tb
theorem qpq (W : World) (g : Nat) (o : Nat) (vs : List Value) : Off (fun k => k = g) W (W.setCells g o vs) := by
 have : ∀ (vs : List Value) (W' : World) (o : Nat), Off (fun k => k = g) W W' → Off (fun k => k = g) W (W'.setCells g o vs) := by
  intro vs
  induction vs with
  | nil => exact fun W' o h => h
  | cons v vs ih => exact fun W' o h => ih _ _ (h.put (p := ⟨g, o, none⟩) (.inl rfl) v)
 exact this vs W o oRf
theorem qom {W : World} {b i g k : Nat} {v x : Value} (h : W.cell? ⟨b, i, none⟩ = some v) (ne : b ≠ g) : (W.setCell ⟨g, k, none⟩ x).cell? ⟨b, i, none⟩ = some v := by
 have := World.rangeAt_setCells_apart (w := W) (b' := b) (o' := i) (cs := [v]) (fun j u hu => by
  match j, hu with
  | 0, hu => simp at hu; subst hu; exact h) g k [x] (.inl ne)
 exact this 0 v rfl
theorem BuildI.off {z0 W W' : World} {pb tb gi ci gt : Nat} {LV st fi : Value} {tab : List Value} (h : BuildI z0 pb LV st fi tab tb gi ci gt W) (o : Off Nob W W') : BuildI z0 pb LV st fi tab tb gi ci gt W' := by
 obtain ⟨h1, h2, h3, h4, h5, h6⟩ := h
 exact ⟨h1.also o, h2.to (o.block _ h2.lt (fun h => h)), h3.to (o.block _ h3.lt (fun h => h)), qao h4 (fun g hg => o.block _ (h4.lt g hg).2 (fun h => h)), qao h5 (fun g hg => o.block _ (h5.lt g hg).2 (fun h => h)), h6⟩
theorem BuildI.ne {z0 W : World} {pb tb gi ci gt : Nat} {LV st fi : Value} {tab : List Value} (h : BuildI z0 pb LV st fi tab tb gi ci gt W) : gi ≠ tb ∧ gt ≠ tb ∧ pb ≠ tb ∧ gi ≠ gt ∧ pb ≠ gt := by
 obtain ⟨h1, h2, h3, h4, h5, h6⟩ := h
 exact ⟨qam h4 h3 (by decide), qam h5 h3 (by decide), qt7 h2 h3 (by decide), qbs h4 h5 (by decide), Ne.symm (qam h5 h2 (by decide))⟩
theorem BuildI.put3 {z0 W : World} {pb tb gi ci gt : Nat} {LV st fi : Value} {tab : List Value} (h : BuildI z0 pb LV st fi tab tb gi ci gt W) (v : Value) : BuildI z0 pb LV v fi tab tb gi ci gt (W.setCell ⟨tb, 3, none⟩ v) := by
 obtain ⟨e1, e2, e3, _⟩ := h.ne
 obtain ⟨h1, h2, h3, h4, h5, h6⟩ := h
 exact ⟨h1.put (p := ⟨tb, 3, none⟩) (.inr h6) _, h2.far (p := ⟨tb, 3, none⟩) e3 _, h3.put 3 v, qb3 h4 e1 3 [v], qb3 h5 e2 3 [v], h6⟩
theorem BuildI.put4 {z0 W : World} {pb tb gi ci gt : Nat} {LV st fi : Value} {tab : List Value} (h : BuildI z0 pb LV st fi tab tb gi ci gt W) (v : Value) : BuildI z0 pb LV st v tab tb gi ci gt (W.setCell ⟨tb, 4, none⟩ v) := by
 obtain ⟨e1, e2, e3, _⟩ := h.ne
 obtain ⟨h1, h2, h3, h4, h5, h6⟩ := h
 exact ⟨h1.put (p := ⟨tb, 4, none⟩) (.inr h6) _, h2.far (p := ⟨tb, 4, none⟩) e3 _, h3.put 4 v, qb3 h4 e1 4 [v], qb3 h5 e2 4 [v], h6⟩
theorem BuildI.putT {z0 W : World} {pb tb gi ci gt : Nat} {LV st fi : Value} {tab : List Value} (h : BuildI z0 pb LV st fi tab tb gi ci gt W) (k : Nat) (v : Value) : BuildI z0 pb LV st fi (tab.set k v) tb gi ci gt (W.setCell ⟨gt, k, none⟩ v) := by
 obtain ⟨e1, e2, e3, e4, e5⟩ := h.ne
 obtain ⟨h1, h2, h3, h4, h5, h6⟩ := h
 exact ⟨h1.put (p := ⟨gt, k, none⟩) (.inr (h5.lt gt rfl).1) _, h2.far (p := ⟨gt, k, none⟩) e5 _, h3.far (p := ⟨gt, k, none⟩) (Ne.symm e2) _, qb3 h4 e4 k [v], (h5.stored k v).1, h6⟩
theorem BuildI.other {z0 W W' : World} {pb tb gi ci gt gf : Nat} {LV st fi : Value} {tab : List Value} (h : BuildI z0 pb LV st fi tab tb gi ci gt W) (o : Off (fun k => k = gf) W W') (hf : z0.heap.size ≤ gf) (n1 : pb ≠ gf) (n2 : tb ≠ gf) (n3 : gi ≠ gf) (n4 : gt ≠ gf) : BuildI z0 pb LV st fi tab tb gi ci gt W' := by
 obtain ⟨h1, h2, h3, h4, h5, h6⟩ := h
 refine ⟨h1.own o (fun k hk => by rw [hk]; exact hf), h2.to (o.block _ h2.lt n1), h3.to (o.block _ h3.lt n2), qao h4 (fun g hg => o.block _ (h4.lt g hg).2 (fun e => ?_)), qao h5 (fun g hg => o.block _ (h5.lt g hg).2 (fun e => ?_)), h6⟩
 ·have e2 : gi = g := by simpa [Value.ownBlock] using hg
  exact n3 (e2.trans e)
 ·have e2 : gt = g := by simpa [Value.ownBlock] using hg
  exact n4 (e2.trans e)
theorem Rd.neq {z0 W : World} {pb tb gi ci gt n : Nat} {LV st fi v : Value} {x : Int} {xs : List Int} {F : Nat → Prop} (h : Rd W F 1 v n (.int .u64 (x + 1) :: xs.map (Value.int .u64))) (hx : 0 ≤ x) (hB : BuildI z0 pb LV st fi (tabV 0) tb gi ci gt W) : Rd W (fun k => k ≠ gt) 1 v n (.int .u64 (x + 1) :: xs.map (Value.int .u64)) := by
 obtain ⟨A, c, rfl, hm, hl, hc⟩ := h
 refine ⟨A, c, rfl, hm, hl, fun hn => ?_⟩
 obtain ⟨b, o, rfl, _, hb, hx2⟩ := hc hn
 refine ⟨b, o, rfl, ?_, hb, hx2⟩
 rintro rfl
 have c0 := hx2 0 _ rfl
 rw [Nat.add_zero] at c0
 have h5 := hB.2.2.2.2.1
 by_cases ho : o < 256
 ·rw [h5.cellAt o (by omega), qid 0 o ho] at c0
  simp at c0
  omega
 ·rcases h5.2 with ⟨hq, _⟩ | ⟨g', cap, cur, hv, _, hh, _, _, hs, _⟩
  ·cases hq
  ·injection hv with hv1 hv2 hv3
   injection hv1 with hv1
   injection hv1 with hv1
   subst hv1
   have : W.cell? ⟨b, o, none⟩ = cur[o]? := (show Blk W b _ cur from hh).cell o
   rw [this, Array.getElem?_eq_none (by omega)] at c0
   cases c0
theorem Rd.below {w : World} {F : Nat → Prop} {size n : Nat} {v : Value} {xs : List Value} (h : Rd w F size v n xs) : Rd w (fun k => k < w.heap.size) size v n xs := by
 obtain ⟨A, c, rfl, hm, hl, hc⟩ := h
 refine ⟨A, c, rfl, hm, hl, fun hn => ?_⟩
 obtain ⟨b, o, rfl, _, hb, hx⟩ := hc hn
 exact ⟨b, o, rfl, hb, hb, hx⟩
theorem Rd.below2 {w : World} {F : Nat → Prop} {size n : Nat} {v : Value} {xs : List Value} (h : Rd w F size v n xs) : Rd w (fun k => F k ∧ k < w.heap.size) size v n xs := by
 obtain ⟨A, c, rfl, hm, hl, hc⟩ := h
 refine ⟨A, c, rfl, hm, hl, fun hn => ?_⟩
 obtain ⟨b, o, rfl, hf, hb, hx⟩ := hc hn
 exact ⟨b, o, rfl, ⟨hf, hb⟩, hb, hx⟩
def qzk (w : World) (e : Ending) (w' : World) : Prop :=
 ∃ ids tab st fi, e = .returned (.tuple #[.agg #[ids, .int .i64 1, tab, st, fi], .int .i64 0, .int .i64 0]) ∧ Rd w' (fun k => w.heap.size ≤ k) 1 ids 2 [.int .i64 5, .int .i64 9] ∧ Rd w' (fun k => w.heap.size ≤ k) 1 tab 256 (tabV 256) ∧ Rd w' (fun k => w.heap.size ≤ k) 1 st 1 [.int .u64 5] ∧ Rd w' (fun k => w.heap.size ≤ k) 1 fi 2 [.int .u64 2, .int .u64 4] ∧ CapOk tab ∧ CapOk fi ∧ Off Nob w w'
theorem qwd (w : World) (vi vl pa pv : Value) (hi : Rd w (fun _ => True) 1 vi 2 [.int .i64 5, .int .i64 9]) (hl : Rd w (fun _ => True) 1 vl 2 [pa, pv]) (ha : Rd w (fun _ => True) 7 pa 2 pa_a) (hb : Rd w (fun _ => True) 7 pv 1 pa_b) :
  Calls Tryz.prog 29 #[vi, vl] w (qzk w) := by
 obtain ⟨i_lines, h_lines, z_lines, s_lines, b_lines⟩ := info_parts Tryz.infoLs
 obtain ⟨i_int, h_int, z_int, s_int, b_int⟩ := info_parts Tryz.infoI'
 obtain ⟨i_u64, h_u64, z_u64, s_u64, b_u64⟩ := info_parts Tryz.infoU64
 have HL0 := hID hl
 have HA := hID ha
 have HB := hID hb
 obtain ⟨b, o, c, rfl, hc⟩ := hi.cellsT (by decide)
 obtain ⟨b2, o2, c2, rfl, hc2⟩ := hl.cellsT (by decide)
 have HL := HL0
 have HC := hID hc
 have GC : Hid (∀ W, Off Nob w W → W.cell? ⟨b, o, none⟩ = some (.int .i64 5) ∧ W.cell? ⟨b, o + 1, none⟩ = some (.int .i64 9) ∧ W.cell? ⟨b2, o2, none⟩ = some pa ∧ W.cell? ⟨b2, o2 + 1, none⟩ = some pv) := hID (fun W ho => ⟨hc W ho 0 _ rfl, hc W ho 1 _ rfl, hc2 W ho 0 _ rfl, hc2 W ho 1 _ rfl⟩)
 clear hc hc2 hi hl ha hb HL0
 go_enter Tryz.func29, Tryz.ntmps29
 go_wp2_with fail
 have X0 : Hid (Off Nob w ((w.alloc (.cells #[.slice none 0 0, .int .i64 0, .slice none 0 0, .slice none 0 0, .slice none 0 0] 25)).alloc (.cells #[.slice none 0 0, .int .i64 0, .slice none 0 0, .slice none 0 0, .slice none 0 0] 25))) := hID (oAl (oAl oRf _) _)
 have R0 : Hid (Blk ((w.alloc (.cells #[.slice none 0 0, .int .i64 0, .slice none 0 0, .slice none 0 0, .slice none 0 0] 25)).alloc (.cells #[.slice none 0 0, .int .i64 0, .slice none 0 0, .slice none 0 0, .slice none 0 0] 25)) w.heap.size 25 #[.slice none 0 0, .int .i64 0, .slice none 0 0, .slice none 0 0, .slice none 0 0]) := hID ((Blk.new _ _ _).alloc _)
 revert X0 R0
 generalize ((w.alloc (.cells #[.slice none 0 0, .int .i64 0, .slice none 0 0, .slice none 0 0, .slice none 0 0] 25)).alloc (.cells #[.slice none 0 0, .int .i64 0, .slice none 0 0, .slice none 0 0, .slice none 0 0] 25)) = w0
 intro X0 R0
 obtain ⟨c0, c1, d0, d1⟩ := GC.out _ X0.out
 go_wp2_with fail
 refine wp_loop_rounds 3 ?_
 rw [rounds_succ]
 go_wp2_with fail
 go_quiet (fail)
 have X1 := hID (X0.out.drewN nq)
 have R1 : Hid (Blk (w0.drewN nq) w.heap.size 25 #[.slice none 0 0, .int .i64 0, .slice none 0 0, .slice none 0 0, .slice none 0 0]) := hID (R0.out.to rfl)
 clear X0 R0
 clear c0 c1 d0 d1
 generalize w0.drewN nq = w1 at *
 obtain ⟨c0, c1, d0, d1⟩ := GC.out _ X1.out
 go_wp2_with fail
 rw [rounds_succ]
 go_wp2_with fail
 go_quiet (fail)
 have X2 := hID (X1.out.drewN nq)
 have R2 : Hid (Blk (w1.drewN nq) w.heap.size 25 #[.slice none 0 0, .int .i64 0, .slice none 0 0, .slice none 0 0, .slice none 0 0]) := hID (R1.out.to rfl)
 clear X1 R1
 clear c0 c1 d0 d1
 generalize w1.drewN nq = w2 at *
 obtain ⟨c0, c1, d0, d1⟩ := GC.out _ X2.out
 go_wp2_with fail
 rw [rounds_succ]
 go_wp2_with fail
 refine (qza _ _ _ _ (HL.out.keepT X2.out) (HA.out.keepT X2.out) (HB.out.keepT X2.out)).mono ?_
 rintro e w3 ⟨rfl, o1⟩
 have X3 := hID (X2.out.also o1)
 have R3 := hID (R2.out.to (o1.block _ R2.out.lt (fun h => h)))
 clear R2
 clear o1 X2
 clear c0 c1 d0 d1
 obtain ⟨c0, c1, d0, d1⟩ := GC.out _ X3.out
 go_wp2_with fail
 refine wp_loop_rounds 3 ?_
 rw [rounds_succ]
 go_wp2_with fail
 refine (qra _ _ (HA.out.keepT X3.out)).mono ?_
 rintro e w4 ⟨u1, m1, rfl, hu1, ⟨A1, k1, rfl⟩, hm1, o1⟩
 have X4 := hID (X3.out.also o1)
 obtain ⟨hu1, hm1, o1⟩ := id (And.intro hu1 (And.intro hm1 o1))
 obtain ⟨AU1, cu1, rfl, _⟩ := hu1.form
 have HU1 := hID hu1.below
 have HM1 := hID hm1.below
 clear hu1 hm1
 have R4 := hID (R3.out.to (o1.block _ R3.out.lt (fun h => h)))
 clear R3
 clear o1 X3
 clear c0 c1 d0 d1
 obtain ⟨c0, c1, d0, d1⟩ := GC.out _ X4.out
 go_wp2_with (at_builtin; refine @wpList_append_lies _ _ _ _ _ _ _ rfl _ _ 99 rfl w.heap.size 100 i_lines (.slice none 0 0) 1 24 Tryz.underlying99 h_lines z_lines s_lines b_lines rfl (by decide) (.slice none 0 0) (0) ([]) rfl ((OwnL.nilAt X4.out 100 1).1.alloc _) ⟨w4.heap.size, 0, none⟩ 1 1 [.slice AU1 1 cu1] rfl rfl ?c1 (by intro u hu; simp at hu; subst hu; rfl) (by decide) (by decide) (by decide) (by have := (OwnL.nilAt X4.out 100 1).2.size; simp; omega) _ rfl ?_)
 case c1 => exact qai _ [.slice AU1 1 cu1] _
 intro g5 cap5 w5 oW gW hat hlt
 have GLT0 : Hid (g5 < w5.heap.size) := hID hlt
 have OW5 := hID ((OwnL.nilAt X4.out 100 1).grown (oAl (Off.refl Nob w4) (.cells #[.slice AU1 1 cu1] 100)) oW gW)
 have X5 := hID OW5.out.2
 have oo : Off Nob w4 w5 := Off.grown (oAl oRf _) gW (fun k hk => by cases hk)
 have R5 := hID (R4.out.to (oo.block _ R4.out.lt (fun h => h)))
 have HU1' := hID (HU1.out.keep oo (fun _ _ h => h))
 have HM1' := hID (HM1.out.keep oo (fun _ _ h => h))
 have KG : Hid (w4.heap.size ≤ g5) := hID (by
  rcases hat with h | h
  ·cases h
  ·rw [h]; simp)
 clear HU1 HM1 R4 oo oW gW hat hlt X4
 clear c0 c1 d0 d1
 obtain ⟨c0, c1, d0, d1⟩ := GC.out _ X5.out
 go_wp2_with fail
 rw [rounds_succ]
 go_wp2_with fail
 refine (qrb _ _ (HB.out.keepT X5.out)).mono ?_
 rintro e w6 ⟨u2, m2, rfl, hu2, ⟨A2, k2, rfl⟩, hm2, o1⟩
 have X6 := hID (X5.out.also o1)
 obtain ⟨hu2, hm2, o1⟩ := id (And.intro hu2 (And.intro hm2 o1))
 obtain ⟨AU2, cu2, rfl, _⟩ := hu2.form
 have HU2 := hID hu2
 have HM2 := hID hm2
 clear hu2 hm2
 have HU1 := hID (HU1'.out.keep o1 (fun _ _ h => h))
 have HM1 := hID (HM1'.out.keep o1 (fun _ _ h => h))
 clear HU1' HM1'
 have OW5' := hID (OW5.out.off o1)
 clear OW5
 have OW5 := OW5'
 clear OW5'
 have GLT : Hid (g5 < w5.heap.size) := hID GLT0.out
 have R6 := hID (R5.out.to (o1.block _ R5.out.lt (fun h => h)))
 clear R5
 clear o1 X5
 clear c0 c1 d0 d1
 obtain ⟨c0, c1, d0, d1⟩ := GC.out _ X6.out
 go_wp2_with (at_builtin; refine @wpList_append_lies _ _ _ _ _ _ _ rfl _ _ 99 rfl w.heap.size 100 i_lines (.slice none 0 0) 1 24 Tryz.underlying99 h_lines z_lines s_lines b_lines rfl (by decide) (.slice (some ⟨g5, 0, none⟩) (0 + 1) cap5) (0 + 1) ([] ++ [.slice AU1 1 cu1]) rfl (OW5.out.1.alloc _) ⟨w6.heap.size, 0, none⟩ 1 1 [.slice AU2 1 cu2] rfl rfl ?c1 (by intro u hu; simp at hu; subst hu; rfl) (by decide) (by decide) (by decide) (by have := OW5.out.2.size; simp; omega) _ rfl ?_)
 case c1 => exact qai _ [.slice AU2 1 cu2] _
 intro g7 cap7 w7 oW gW hat hlt
 have OW7 := hID (OW5.out.grown (oAl (Off.refl Nob w6) (.cells #[.slice AU2 1 cu2] 100)) oW gW)
 have X7 := hID OW7.out.2
 have oo : Off (fun k => k = g5) w6 w7 := Off.grown (oAl oRf _) gW (fun k hk => .inl (by injection hk with hk; exact hk.symm))
 have R7 := hID (R6.out.to (oo.block _ R6.out.lt (fun e => qam OW5.out.1 R6.out (by decide) e.symm)))
 have K1 := KG.out
 have K2 := GLT.out
 have HU1' := hID (Rd.any (HU1.out.keep oo (fun k hk e => by have hk2 : k < w4.heap.size := hk; omega)))
 have HM1' := hID (Rd.any (HM1.out.keep oo (fun k hk e => by have hk2 : k < w4.heap.size := hk; omega)))
 have HU2' := hID (Rd.any (HU2.out.keep oo (fun k hk e => by have hk2 : w5.heap.size ≤ k := hk; omega)))
 have HM2' := hID (Rd.any (HM2.out.keep oo (fun k hk e => by have hk2 : w5.heap.size ≤ k := hk; omega)))
 clear HU1 HM1 HU2 HM2 R6 oo K1 K2 KG GLT GLT0 oW gW hat hlt X6 OW5
 clear c0 c1 d0 d1
 obtain ⟨c0, c1, d0, d1⟩ := GC.out _ X7.out
 go_wp2_with fail
 rw [rounds_succ]
 clear c0 c1 d0 d1
 have HLS := hID OW7.out.rd
 obtain ⟨c0, c1, d0, d1⟩ := GC.out _ X7.out
 go_wp2_with fail
 refine (qpp _ _ _ _ _ _ _ _ HLS.out HU1'.out HU2'.out).mono ?_
 rintro e w8 ⟨lv, rfl, hr, o1⟩
 have X8 := hID (X7.out.also o1)
 obtain ⟨hr, o1⟩ := id (And.intro hr o1)
 obtain ⟨ALV, clv, rfl, _⟩ := hr.form
 have HLV := hID hr
 clear hr
 have HLS' := hID (HLS.out.keepT o1)
 have HU1 := hID (HU1'.out.keepT o1)
 have HM1 := hID (HM1'.out.keepT o1)
 have HU2 := hID (HU2'.out.keepT o1)
 have HM2 := hID (HM2'.out.keepT o1)
 clear HU1' HM1' HU2' HM2' HLS
 have R8 := hID (R7.out.to (o1.block _ R7.out.lt (fun h => h)))
 clear R7
 clear o1 X7
 clear c0 c1 d0 d1
 obtain ⟨c0, c1, d0, d1⟩ := GC.out _ X8.out
 go_wp2_with fail
 have P0 : Hid (Blk (w8.alloc (.cells #[.int .i64 1, .slice ALV 2 clv] 62)) w8.heap.size 62 #[.int .i64 1, .slice ALV 2 clv]) := hID (Blk.new _ _ _)
 have PG0 : Hid (w.heap.size ≤ w8.heap.size) := hID X8.out.size
 have XX0 : Hid (Off Nob w (w8.alloc (.cells #[.int .i64 1, .slice ALV 2 clv] 62))) := hID (X8.out.alloc _)
 have OZ : Off Nob w8 (w8.alloc (.cells #[.int .i64 1, .slice ALV 2 clv] 62)) := oAl oRf _
 have RZ := hID (R8.out.alloc (.cells #[.int .i64 1, .slice ALV 2 clv] 62))
 have LV0 := hID (HLV.out.keepT OZ)
 have LS0 := hID (HLS'.out.keepT OZ)
 have U10 := hID (HU1.out.keepT OZ)
 have M10 := hID (HM1.out.keepT OZ)
 have U20 := hID (HU2.out.keepT OZ)
 have M20 := hID (HM2.out.keepT OZ)
 clear HLV HLS' HU1 HM1 HU2 HM2 OZ X8 R8 OW7 c0 c1 d0 d1
 revert P0 PG0 XX0 RZ LV0 LS0 U10 M10 U20 M20
 generalize (w8.alloc (.cells #[.int .i64 1, .slice ALV 2 clv] 62)) = z0
 obtain ⟨pb, hpb⟩ : ∃ B, w8.heap.size = B := ⟨_, rfl⟩
 rw [hpb]
 clear hpb
 intro P0 PG XX0 RZ LV0 LS0 U10 M10 U20 M20
 obtain ⟨c0, c1, d0, d1⟩ := GC.out _ XX0.out
 have SS0 : z0.cell? ⟨pb, 0, none⟩ = some (.int .i64 1) := P0.out.cell 0
 go_cut [16] (fun s wx => ∃ tb gi ci gt : Nat, s = .pointer (some ⟨tb, 0, none⟩) ∧ BuildI z0 pb (.slice ALV 2 clv) (.slice none 0 0) (.slice none 0 0) (tabV 0) tb gi ci gt wx)
 case first =>
  refine wp_region_held_drew (S := fun W => W.cell? ⟨pb, 0, none⟩ = some (.int .i64 1)) (by kernel_rfl) SS0 (fun hHeld => ?_)
  have P0' := hID (P0.out.to (show z0.drew.heap[pb]? = z0.heap[pb]? from rfl))
  have X0 : Hid (Off Nob z0 z0.drew) := hID (Off.drew oRf)
  clear P0
  have P0 := P0'
  clear P0' RZ LV0 LS0 U10 M10 U20 M20 c0 c1 d0 d1 SS0
  revert P0 X0 hHeld
  generalize z0.drew = y0
  intro hHeld X0 P0
  refine tkH 1 ?_
  refine tkH 3 ?_
  refine tkH 4 ?_
  refine tkH 5 ?_
  refine tkH 6 ?_
  refine tkH 7 ?_
  refine wpAnyH_ready (rs := [0, 8, 10]) (by kernel_rfl) (by simp) ?_
  refine AllReadyH.cons rfl (fun K hK => ?s6) ?m6
  case' s6 =>
   go_simp
   have X1 := hID (X0.out.also (oAl (Off.refl Nob y0) (.cells #[] 3)))
   have P1 := hID (P0.out.to (((oAl (Off.refl Nob y0) (.cells #[] 3))).block _ P0.out.lt (fun h => h)))
   have OB1 : Hid (OwnL z0 (y0.alloc (.cells #[] 3)) 3 1 (.slice (some ⟨y0.heap.size, 0, none⟩) 0 0) 0 []) := hID ⟨World.ownsRow_made y0 #[] 0 X0.out.size (by decide) rfl, X1.out⟩
   revert X1 P1 OB1
   generalize (y0.alloc (.cells #[] 3)) = y1
   intro X1 P1 OB1
   obtain ⟨B, hB⟩ : ∃ B, y0.heap.size = B := ⟨_, rfl⟩
   rw [hB] at OB1 ⊢
   clear hB
   have SS1 : y1.cell? ⟨pb, 0, none⟩ = some (.int .i64 1) := P1.out.cell 0
   refine hK.out _ _ ?_ (fun hHeld => ?_)
   ·first | exact SS1 | go_keep
   clear hK K
   try simp only [Act.put, qL]
   refine wpAnyH_ready (rs := [2, 8, 10]) (by kernel_rfl) (by simp) ?_
   refine AllReadyH.cons rfl (fun K hK => ?s7) ?m7
   case' s7 =>
    refine wp_append_lies _ _ _ 22 rfl z0.heap.size 3 i_int (.int .i64 0) 1 8 Tryz.underlying22 h_int z_int s_int b_int rfl (by decide) (.slice (some ⟨B, 0, none⟩) 0 0) 0 [] rfl OB1.out.1 ⟨b, o, none⟩ 2 c [.int .i64 5, .int .i64 9] rfl rfl ?c1 (by decide) (by decide) (by decide) (by decide) X1.out.size _ rfl ?_
    case c1 => intro j u hj; rw [qaj]; exact HC.out _ (XX0.out.also X1.out) j u hj
    intro gi ci y2 oW gW hat hlt
    have OI2 : Hid (OwnL z0 y2 3 1 (.slice (some ⟨gi, 0, none⟩) (0 + 2) ci) (0 + 2) ([] ++ [.int .i64 5, .int .i64 9])) := hID (OB1.out.grown oRf oW gW)
    have X2 := hID OI2.out.2
    have oo : Off (fun k => k = B) y1 y2 := Off.grown oRf gW (fun k hk => .inl (by injection hk with hk; exact hk.symm))
    have P2 := hID (P1.out.to (oo.block _ P1.out.lt (fun e => qam OB1.out.1 P1.out (by decide) e.symm)))
    clear oW gW hat hlt oo
    have SS2 : y2.cell? ⟨pb, 0, none⟩ = some (.int .i64 1) := P2.out.cell 0
    refine hK.out _ _ ?_ (fun hHeld => ?_)
    ·first | exact SS2 | go_keep
    clear hK K
    try simp only [Act.put, qL]
    refine wpAnyH_ready (rs := [8, 10]) (by kernel_rfl) (by simp) ?_
    refine AllReadyH.cons rfl (fun K hK => ?s8) ?m8
    case' s8 =>
     refine qbr y2 _ _ 23 rfl z0.heap.size 71 i_u64 (.int .u64 0) 1 Tryz.underlying23 h_u64 z_u64 s_u64 .i64 .i64 _ _ 256 rfl rfl rfl rfl (by rw [b_u64]; decide) (by decide) X2.out.size ?_
     intro y3 oW gW
     have oo : Off Nob y2 y3 := Off.grown oRf gW (fun k hk => by cases hk)
     have X3 := hID (X2.out.also oo)
     have P3 := hID (P2.out.to ((oo).block _ P2.out.lt (fun h => h)))
     have OI3 := hID (OI2.out.off (oo))
     have OT3 : Hid (OwnL z0 y3 71 1 (.slice (some ⟨y2.heap.size, 0, none⟩) 256 256) 256 (tabV 0)) := hID ⟨by rw [qca, ← qcv]; exact oW, X3.out⟩
     clear oW gW oo
     obtain ⟨gt, hgt⟩ : ∃ B, y2.heap.size = B := ⟨_, rfl⟩
     rw [hgt] at OT3 ⊢
     clear hgt
     have SS3 : y3.cell? ⟨pb, 0, none⟩ = some (.int .i64 1) := P3.out.cell 0
     refine hK.out _ _ ?_ (fun hHeld => ?_)
     ·first | exact SS3 | go_keep
     clear hK K
     try simp only [Act.put, qL]
     refine tkH 9 ?_
     refine wpAnyH_ready (rs := [10]) (by kernel_rfl) (by simp) ?_
     refine AllReadyH.cons rfl (fun K hK => ?s10) ?m10
     case' s10 =>
      go_simp
      have X4 := hID (X3.out.also (oAl (Off.refl Nob y3) (.cells #[.slice none 0 0, .int .i64 0, .slice none 0 0, .slice none 0 0, .slice none 0 0] 25)))
      have P4 := hID (P3.out.to (((oAl (Off.refl Nob y3) (.cells #[.slice none 0 0, .int .i64 0, .slice none 0 0, .slice none 0 0, .slice none 0 0] 25))).block _ P3.out.lt (fun h => h)))
      have OI4 := hID (OI3.out.off ((oAl (Off.refl Nob y3) (.cells #[.slice none 0 0, .int .i64 0, .slice none 0 0, .slice none 0 0, .slice none 0 0] 25))))
      have OT4 := hID (OT3.out.off ((oAl (Off.refl Nob y3) (.cells #[.slice none 0 0, .int .i64 0, .slice none 0 0, .slice none 0 0, .slice none 0 0] 25))))
      have BT4 : Hid (Blk (y3.alloc (.cells #[.slice none 0 0, .int .i64 0, .slice none 0 0, .slice none 0 0, .slice none 0 0] 25)) y3.heap.size 25 #[.slice none 0 0, .int .i64 0, .slice none 0 0, .slice none 0 0, .slice none 0 0]) := hID (Blk.new _ _ _)
      revert X4 P4 OI4 OT4 BT4
      generalize (y3.alloc (.cells #[.slice none 0 0, .int .i64 0, .slice none 0 0, .slice none 0 0, .slice none 0 0] 25)) = y4
      intro X4 P4 OI4 OT4 BT4
      have tge : z0.heap.size ≤ y3.heap.size := X3.out.size
      obtain ⟨tb, htb⟩ : ∃ B, y3.heap.size = B := ⟨_, rfl⟩
      rw [htb] at BT4 tge ⊢
      clear htb
      have TGE := hID tge
      clear tge
      have SS4 : y4.cell? ⟨pb, 0, none⟩ = some (.int .i64 1) := P4.out.cell 0
      refine hK.out _ _ ?_ (fun hHeld => ?_)
      ·first | exact SS4 | go_keep
      clear hK K
      try simp only [Act.put, qL]
     case' m10 =>
      exact AllReadyH.nil
    case' m8 =>
     refine AllReadyH.cons rfl (fun K hK => ?s11) ?m11
     case' s11 =>
      go_simp
      have X3 := hID (X2.out.also (oAl (Off.refl Nob y2) (.cells #[.slice none 0 0, .int .i64 0, .slice none 0 0, .slice none 0 0, .slice none 0 0] 25)))
      have P3 := hID (P2.out.to (((oAl (Off.refl Nob y2) (.cells #[.slice none 0 0, .int .i64 0, .slice none 0 0, .slice none 0 0, .slice none 0 0] 25))).block _ P2.out.lt (fun h => h)))
      have OI3 := hID (OI2.out.off ((oAl (Off.refl Nob y2) (.cells #[.slice none 0 0, .int .i64 0, .slice none 0 0, .slice none 0 0, .slice none 0 0] 25))))
      have BT3 : Hid (Blk (y2.alloc (.cells #[.slice none 0 0, .int .i64 0, .slice none 0 0, .slice none 0 0, .slice none 0 0] 25)) y2.heap.size 25 #[.slice none 0 0, .int .i64 0, .slice none 0 0, .slice none 0 0, .slice none 0 0]) := hID (Blk.new _ _ _)
      revert X3 P3 OI3 BT3
      generalize (y2.alloc (.cells #[.slice none 0 0, .int .i64 0, .slice none 0 0, .slice none 0 0, .slice none 0 0] 25)) = y3
      intro X3 P3 OI3 BT3
      have tge : z0.heap.size ≤ y2.heap.size := X2.out.size
      obtain ⟨tb, htb⟩ : ∃ B, y2.heap.size = B := ⟨_, rfl⟩
      rw [htb] at BT3 tge ⊢
      clear htb
      have TGE := hID tge
      clear tge
      have SS3 : y3.cell? ⟨pb, 0, none⟩ = some (.int .i64 1) := P3.out.cell 0
      refine hK.out _ _ ?_ (fun hHeld => ?_)
      ·first | exact SS3 | go_keep
      clear hK K
      try simp only [Act.put, qL]
      refine wpAnyH_ready (rs := [8]) (by kernel_rfl) (by simp) ?_
      refine AllReadyH.cons rfl (fun K hK => ?s12) ?m12
      case' s12 =>
       refine qbr y3 _ _ 23 rfl z0.heap.size 71 i_u64 (.int .u64 0) 1 Tryz.underlying23 h_u64 z_u64 s_u64 .i64 .i64 _ _ 256 rfl rfl rfl rfl (by rw [b_u64]; decide) (by decide) X3.out.size ?_
       intro y4 oW gW
       have oo : Off Nob y3 y4 := Off.grown oRf gW (fun k hk => by cases hk)
       have X4 := hID (X3.out.also oo)
       have P4 := hID (P3.out.to ((oo).block _ P3.out.lt (fun h => h)))
       have OI4 := hID (OI3.out.off (oo))
       have BT4 := hID (BT3.out.to ((oo).block _ BT3.out.lt (fun h => h)))
       have OT4 : Hid (OwnL z0 y4 71 1 (.slice (some ⟨y3.heap.size, 0, none⟩) 256 256) 256 (tabV 0)) := hID ⟨by rw [qca, ← qcv]; exact oW, X4.out⟩
       clear oW gW oo
       obtain ⟨gt, hgt⟩ : ∃ B, y3.heap.size = B := ⟨_, rfl⟩
       rw [hgt] at OT4 ⊢
       clear hgt
       have SS4 : y4.cell? ⟨pb, 0, none⟩ = some (.int .i64 1) := P4.out.cell 0
       refine hK.out _ _ ?_ (fun hHeld => ?_)
       ·first | exact SS4 | go_keep
       clear hK K
       try simp only [Act.put, qL]
       refine tkH 9 ?_
      case' m12 =>
       exact AllReadyH.nil
     case' m11 =>
      exact AllReadyH.nil
   case' m7 =>
    refine AllReadyH.cons rfl (fun K hK => ?s14) ?m14
    case' s14 =>
     refine qbr y1 _ _ 23 rfl z0.heap.size 71 i_u64 (.int .u64 0) 1 Tryz.underlying23 h_u64 z_u64 s_u64 .i64 .i64 _ _ 256 rfl rfl rfl rfl (by rw [b_u64]; decide) (by decide) X1.out.size ?_
     intro y2 oW gW
     have oo : Off Nob y1 y2 := Off.grown oRf gW (fun k hk => by cases hk)
     have X2 := hID (X1.out.also oo)
     have P2 := hID (P1.out.to ((oo).block _ P1.out.lt (fun h => h)))
     have OB2 := hID (OB1.out.off (oo))
     have OT2 : Hid (OwnL z0 y2 71 1 (.slice (some ⟨y1.heap.size, 0, none⟩) 256 256) 256 (tabV 0)) := hID ⟨by rw [qca, ← qcv]; exact oW, X2.out⟩
     clear oW gW oo
     obtain ⟨gt, hgt⟩ : ∃ B, y1.heap.size = B := ⟨_, rfl⟩
     rw [hgt] at OT2 ⊢
     clear hgt
     have SS2 : y2.cell? ⟨pb, 0, none⟩ = some (.int .i64 1) := P2.out.cell 0
     refine hK.out _ _ ?_ (fun hHeld => ?_)
     ·first | exact SS2 | go_keep
     clear hK K
     try simp only [Act.put, qL]
     refine wpAnyH_ready (rs := [2, 10]) (by kernel_rfl) (by simp) ?_
     refine AllReadyH.cons rfl (fun K hK => ?s15) ?m15
     case' s15 =>
      refine wp_append_lies _ _ _ 22 rfl z0.heap.size 3 i_int (.int .i64 0) 1 8 Tryz.underlying22 h_int z_int s_int b_int rfl (by decide) (.slice (some ⟨B, 0, none⟩) 0 0) 0 [] rfl OB2.out.1 ⟨b, o, none⟩ 2 c [.int .i64 5, .int .i64 9] rfl rfl ?c1 (by decide) (by decide) (by decide) (by decide) X2.out.size _ rfl ?_
      case c1 => intro j u hj; rw [qaj]; exact HC.out _ (XX0.out.also X2.out) j u hj
      intro gi ci y3 oW gW hat hlt
      have OI3 : Hid (OwnL z0 y3 3 1 (.slice (some ⟨gi, 0, none⟩) (0 + 2) ci) (0 + 2) ([] ++ [.int .i64 5, .int .i64 9])) := hID (OB2.out.grown oRf oW gW)
      have X3 := hID OI3.out.2
      have oo : Off (fun k => k = B) y2 y3 := Off.grown oRf gW (fun k hk => .inl (by injection hk with hk; exact hk.symm))
      have P3 := hID (P2.out.to (oo.block _ P2.out.lt (fun e => qam OB2.out.1 P2.out (by decide) e.symm)))
      have OT3 : Hid (OwnL z0 y3 71 1 (.slice (some ⟨gt, 0, none⟩) 256 256) 256 (tabV 0)) := hID ⟨qao OT2.out.1 (fun g hg => oo.block _ (OT2.out.1.lt g hg).2 (fun e => qbs OB2.out.1 OT2.out.1 (by decide) (((by simpa [Value.ownBlock] using hg : gt = g).trans e).symm))), X3.out⟩
      clear oW gW hat hlt oo
      have SS3 : y3.cell? ⟨pb, 0, none⟩ = some (.int .i64 1) := P3.out.cell 0
      refine hK.out _ _ ?_ (fun hHeld => ?_)
      ·first | exact SS3 | go_keep
      clear hK K
      try simp only [Act.put, qL]
      refine tkH 9 ?_
      refine wpAnyH_ready (rs := [10]) (by kernel_rfl) (by simp) ?_
      refine AllReadyH.cons rfl (fun K hK => ?s17) ?m17
      case' s17 =>
       go_simp
       have X4 := hID (X3.out.also (oAl (Off.refl Nob y3) (.cells #[.slice none 0 0, .int .i64 0, .slice none 0 0, .slice none 0 0, .slice none 0 0] 25)))
       have P4 := hID (P3.out.to (((oAl (Off.refl Nob y3) (.cells #[.slice none 0 0, .int .i64 0, .slice none 0 0, .slice none 0 0, .slice none 0 0] 25))).block _ P3.out.lt (fun h => h)))
       have OI4 := hID (OI3.out.off ((oAl (Off.refl Nob y3) (.cells #[.slice none 0 0, .int .i64 0, .slice none 0 0, .slice none 0 0, .slice none 0 0] 25))))
       have OT4 := hID (OT3.out.off ((oAl (Off.refl Nob y3) (.cells #[.slice none 0 0, .int .i64 0, .slice none 0 0, .slice none 0 0, .slice none 0 0] 25))))
       have BT4 : Hid (Blk (y3.alloc (.cells #[.slice none 0 0, .int .i64 0, .slice none 0 0, .slice none 0 0, .slice none 0 0] 25)) y3.heap.size 25 #[.slice none 0 0, .int .i64 0, .slice none 0 0, .slice none 0 0, .slice none 0 0]) := hID (Blk.new _ _ _)
       revert X4 P4 OI4 OT4 BT4
       generalize (y3.alloc (.cells #[.slice none 0 0, .int .i64 0, .slice none 0 0, .slice none 0 0, .slice none 0 0] 25)) = y4
       intro X4 P4 OI4 OT4 BT4
       have tge : z0.heap.size ≤ y3.heap.size := X3.out.size
       obtain ⟨tb, htb⟩ : ∃ B, y3.heap.size = B := ⟨_, rfl⟩
       rw [htb] at BT4 tge ⊢
       clear htb
       have TGE := hID tge
       clear tge
       have SS4 : y4.cell? ⟨pb, 0, none⟩ = some (.int .i64 1) := P4.out.cell 0
       refine hK.out _ _ ?_ (fun hHeld => ?_)
       ·first | exact SS4 | go_keep
       clear hK K
       try simp only [Act.put, qL]
      case' m17 =>
       exact AllReadyH.nil
     case' m15 =>
      refine AllReadyH.cons rfl (fun K hK => ?s18) ?m18
      case' s18 =>
       go_simp
       have X3 := hID (X2.out.also (oAl (Off.refl Nob y2) (.cells #[.slice none 0 0, .int .i64 0, .slice none 0 0, .slice none 0 0, .slice none 0 0] 25)))
       have P3 := hID (P2.out.to (((oAl (Off.refl Nob y2) (.cells #[.slice none 0 0, .int .i64 0, .slice none 0 0, .slice none 0 0, .slice none 0 0] 25))).block _ P2.out.lt (fun h => h)))
       have OB3 := hID (OB2.out.off ((oAl (Off.refl Nob y2) (.cells #[.slice none 0 0, .int .i64 0, .slice none 0 0, .slice none 0 0, .slice none 0 0] 25))))
       have OT3 := hID (OT2.out.off ((oAl (Off.refl Nob y2) (.cells #[.slice none 0 0, .int .i64 0, .slice none 0 0, .slice none 0 0, .slice none 0 0] 25))))
       have BT3 : Hid (Blk (y2.alloc (.cells #[.slice none 0 0, .int .i64 0, .slice none 0 0, .slice none 0 0, .slice none 0 0] 25)) y2.heap.size 25 #[.slice none 0 0, .int .i64 0, .slice none 0 0, .slice none 0 0, .slice none 0 0]) := hID (Blk.new _ _ _)
       revert X3 P3 OB3 OT3 BT3
       generalize (y2.alloc (.cells #[.slice none 0 0, .int .i64 0, .slice none 0 0, .slice none 0 0, .slice none 0 0] 25)) = y3
       intro X3 P3 OB3 OT3 BT3
       have tge : z0.heap.size ≤ y2.heap.size := X2.out.size
       obtain ⟨tb, htb⟩ : ∃ B, y2.heap.size = B := ⟨_, rfl⟩
       rw [htb] at BT3 tge ⊢
       clear htb
       have TGE := hID tge
       clear tge
       have SS3 : y3.cell? ⟨pb, 0, none⟩ = some (.int .i64 1) := P3.out.cell 0
       refine hK.out _ _ ?_ (fun hHeld => ?_)
       ·first | exact SS3 | go_keep
       clear hK K
       try simp only [Act.put, qL]
       refine wpAnyH_ready (rs := [2]) (by kernel_rfl) (by simp) ?_
       refine AllReadyH.cons rfl (fun K hK => ?s19) ?m19
       case' s19 =>
        refine wp_append_lies _ _ _ 22 rfl z0.heap.size 3 i_int (.int .i64 0) 1 8 Tryz.underlying22 h_int z_int s_int b_int rfl (by decide) (.slice (some ⟨B, 0, none⟩) 0 0) 0 [] rfl OB3.out.1 ⟨b, o, none⟩ 2 c [.int .i64 5, .int .i64 9] rfl rfl ?c1 (by decide) (by decide) (by decide) (by decide) X3.out.size _ rfl ?_
        case c1 => intro j u hj; rw [qaj]; exact HC.out _ (XX0.out.also X3.out) j u hj
        intro gi ci y4 oW gW hat hlt
        have OI4 : Hid (OwnL z0 y4 3 1 (.slice (some ⟨gi, 0, none⟩) (0 + 2) ci) (0 + 2) ([] ++ [.int .i64 5, .int .i64 9])) := hID (OB3.out.grown oRf oW gW)
        have X4 := hID OI4.out.2
        have oo : Off (fun k => k = B) y3 y4 := Off.grown oRf gW (fun k hk => .inl (by injection hk with hk; exact hk.symm))
        have P4 := hID (P3.out.to (oo.block _ P3.out.lt (fun e => qam OB3.out.1 P3.out (by decide) e.symm)))
        have OT4 : Hid (OwnL z0 y4 71 1 (.slice (some ⟨gt, 0, none⟩) 256 256) 256 (tabV 0)) := hID ⟨qao OT3.out.1 (fun g hg => oo.block _ (OT3.out.1.lt g hg).2 (fun e => qbs OB3.out.1 OT3.out.1 (by decide) (((by simpa [Value.ownBlock] using hg : gt = g).trans e).symm))), X4.out⟩
        have BT4 := hID (BT3.out.to (oo.block _ BT3.out.lt (fun e => qam OB3.out.1 BT3.out (by decide) e.symm)))
        clear oW gW hat hlt oo
        have SS4 : y4.cell? ⟨pb, 0, none⟩ = some (.int .i64 1) := P4.out.cell 0
        refine hK.out _ _ ?_ (fun hHeld => ?_)
        ·first | exact SS4 | go_keep
        clear hK K
        try simp only [Act.put, qL]
        refine tkH 9 ?_
       case' m19 =>
        exact AllReadyH.nil
      case' m18 =>
       exact AllReadyH.nil
    case' m14 =>
     refine AllReadyH.cons rfl (fun K hK => ?s21) ?m21
     case' s21 =>
      go_simp
      have X2 := hID (X1.out.also (oAl (Off.refl Nob y1) (.cells #[.slice none 0 0, .int .i64 0, .slice none 0 0, .slice none 0 0, .slice none 0 0] 25)))
      have P2 := hID (P1.out.to (((oAl (Off.refl Nob y1) (.cells #[.slice none 0 0, .int .i64 0, .slice none 0 0, .slice none 0 0, .slice none 0 0] 25))).block _ P1.out.lt (fun h => h)))
      have OB2 := hID (OB1.out.off ((oAl (Off.refl Nob y1) (.cells #[.slice none 0 0, .int .i64 0, .slice none 0 0, .slice none 0 0, .slice none 0 0] 25))))
      have BT2 : Hid (Blk (y1.alloc (.cells #[.slice none 0 0, .int .i64 0, .slice none 0 0, .slice none 0 0, .slice none 0 0] 25)) y1.heap.size 25 #[.slice none 0 0, .int .i64 0, .slice none 0 0, .slice none 0 0, .slice none 0 0]) := hID (Blk.new _ _ _)
      revert X2 P2 OB2 BT2
      generalize (y1.alloc (.cells #[.slice none 0 0, .int .i64 0, .slice none 0 0, .slice none 0 0, .slice none 0 0] 25)) = y2
      intro X2 P2 OB2 BT2
      have tge : z0.heap.size ≤ y1.heap.size := X1.out.size
      obtain ⟨tb, htb⟩ : ∃ B, y1.heap.size = B := ⟨_, rfl⟩
      rw [htb] at BT2 tge ⊢
      clear htb
      have TGE := hID tge
      clear tge
      have SS2 : y2.cell? ⟨pb, 0, none⟩ = some (.int .i64 1) := P2.out.cell 0
      refine hK.out _ _ ?_ (fun hHeld => ?_)
      ·first | exact SS2 | go_keep
      clear hK K
      try simp only [Act.put, qL]
      refine wpAnyH_ready (rs := [2, 8]) (by kernel_rfl) (by simp) ?_
      refine AllReadyH.cons rfl (fun K hK => ?s22) ?m22
      case' s22 =>
       refine wp_append_lies _ _ _ 22 rfl z0.heap.size 3 i_int (.int .i64 0) 1 8 Tryz.underlying22 h_int z_int s_int b_int rfl (by decide) (.slice (some ⟨B, 0, none⟩) 0 0) 0 [] rfl OB2.out.1 ⟨b, o, none⟩ 2 c [.int .i64 5, .int .i64 9] rfl rfl ?c1 (by decide) (by decide) (by decide) (by decide) X2.out.size _ rfl ?_
       case c1 => intro j u hj; rw [qaj]; exact HC.out _ (XX0.out.also X2.out) j u hj
       intro gi ci y3 oW gW hat hlt
       have OI3 : Hid (OwnL z0 y3 3 1 (.slice (some ⟨gi, 0, none⟩) (0 + 2) ci) (0 + 2) ([] ++ [.int .i64 5, .int .i64 9])) := hID (OB2.out.grown oRf oW gW)
       have X3 := hID OI3.out.2
       have oo : Off (fun k => k = B) y2 y3 := Off.grown oRf gW (fun k hk => .inl (by injection hk with hk; exact hk.symm))
       have P3 := hID (P2.out.to (oo.block _ P2.out.lt (fun e => qam OB2.out.1 P2.out (by decide) e.symm)))
       have BT3 := hID (BT2.out.to (oo.block _ BT2.out.lt (fun e => qam OB2.out.1 BT2.out (by decide) e.symm)))
       clear oW gW hat hlt oo
       have SS3 : y3.cell? ⟨pb, 0, none⟩ = some (.int .i64 1) := P3.out.cell 0
       refine hK.out _ _ ?_ (fun hHeld => ?_)
       ·first | exact SS3 | go_keep
       clear hK K
       try simp only [Act.put, qL]
       refine wpAnyH_ready (rs := [8]) (by kernel_rfl) (by simp) ?_
       refine AllReadyH.cons rfl (fun K hK => ?s23) ?m23
       case' s23 =>
        refine qbr y3 _ _ 23 rfl z0.heap.size 71 i_u64 (.int .u64 0) 1 Tryz.underlying23 h_u64 z_u64 s_u64 .i64 .i64 _ _ 256 rfl rfl rfl rfl (by rw [b_u64]; decide) (by decide) X3.out.size ?_
        intro y4 oW gW
        have oo : Off Nob y3 y4 := Off.grown oRf gW (fun k hk => by cases hk)
        have X4 := hID (X3.out.also oo)
        have P4 := hID (P3.out.to ((oo).block _ P3.out.lt (fun h => h)))
        have OI4 := hID (OI3.out.off (oo))
        have BT4 := hID (BT3.out.to ((oo).block _ BT3.out.lt (fun h => h)))
        have OT4 : Hid (OwnL z0 y4 71 1 (.slice (some ⟨y3.heap.size, 0, none⟩) 256 256) 256 (tabV 0)) := hID ⟨by rw [qca, ← qcv]; exact oW, X4.out⟩
        clear oW gW oo
        obtain ⟨gt, hgt⟩ : ∃ B, y3.heap.size = B := ⟨_, rfl⟩
        rw [hgt] at OT4 ⊢
        clear hgt
        have SS4 : y4.cell? ⟨pb, 0, none⟩ = some (.int .i64 1) := P4.out.cell 0
        refine hK.out _ _ ?_ (fun hHeld => ?_)
        ·first | exact SS4 | go_keep
        clear hK K
        try simp only [Act.put, qL]
        refine tkH 9 ?_
       case' m23 =>
        exact AllReadyH.nil
      case' m22 =>
       refine AllReadyH.cons rfl (fun K hK => ?s25) ?m25
       case' s25 =>
        refine qbr y2 _ _ 23 rfl z0.heap.size 71 i_u64 (.int .u64 0) 1 Tryz.underlying23 h_u64 z_u64 s_u64 .i64 .i64 _ _ 256 rfl rfl rfl rfl (by rw [b_u64]; decide) (by decide) X2.out.size ?_
        intro y3 oW gW
        have oo : Off Nob y2 y3 := Off.grown oRf gW (fun k hk => by cases hk)
        have X3 := hID (X2.out.also oo)
        have P3 := hID (P2.out.to ((oo).block _ P2.out.lt (fun h => h)))
        have OB3 := hID (OB2.out.off (oo))
        have BT3 := hID (BT2.out.to ((oo).block _ BT2.out.lt (fun h => h)))
        have OT3 : Hid (OwnL z0 y3 71 1 (.slice (some ⟨y2.heap.size, 0, none⟩) 256 256) 256 (tabV 0)) := hID ⟨by rw [qca, ← qcv]; exact oW, X3.out⟩
        clear oW gW oo
        obtain ⟨gt, hgt⟩ : ∃ B, y2.heap.size = B := ⟨_, rfl⟩
        rw [hgt] at OT3 ⊢
        clear hgt
        have SS3 : y3.cell? ⟨pb, 0, none⟩ = some (.int .i64 1) := P3.out.cell 0
        refine hK.out _ _ ?_ (fun hHeld => ?_)
        ·first | exact SS3 | go_keep
        clear hK K
        try simp only [Act.put, qL]
        refine wpAnyH_ready (rs := [2]) (by kernel_rfl) (by simp) ?_
        refine AllReadyH.cons rfl (fun K hK => ?s26) ?m26
        case' s26 =>
         refine wp_append_lies _ _ _ 22 rfl z0.heap.size 3 i_int (.int .i64 0) 1 8 Tryz.underlying22 h_int z_int s_int b_int rfl (by decide) (.slice (some ⟨B, 0, none⟩) 0 0) 0 [] rfl OB3.out.1 ⟨b, o, none⟩ 2 c [.int .i64 5, .int .i64 9] rfl rfl ?c1 (by decide) (by decide) (by decide) (by decide) X3.out.size _ rfl ?_
         case c1 => intro j u hj; rw [qaj]; exact HC.out _ (XX0.out.also X3.out) j u hj
         intro gi ci y4 oW gW hat hlt
         have OI4 : Hid (OwnL z0 y4 3 1 (.slice (some ⟨gi, 0, none⟩) (0 + 2) ci) (0 + 2) ([] ++ [.int .i64 5, .int .i64 9])) := hID (OB3.out.grown oRf oW gW)
         have X4 := hID OI4.out.2
         have oo : Off (fun k => k = B) y3 y4 := Off.grown oRf gW (fun k hk => .inl (by injection hk with hk; exact hk.symm))
         have P4 := hID (P3.out.to (oo.block _ P3.out.lt (fun e => qam OB3.out.1 P3.out (by decide) e.symm)))
         have OT4 : Hid (OwnL z0 y4 71 1 (.slice (some ⟨gt, 0, none⟩) 256 256) 256 (tabV 0)) := hID ⟨qao OT3.out.1 (fun g hg => oo.block _ (OT3.out.1.lt g hg).2 (fun e => qbs OB3.out.1 OT3.out.1 (by decide) (((by simpa [Value.ownBlock] using hg : gt = g).trans e).symm))), X4.out⟩
         have BT4 := hID (BT3.out.to (oo.block _ BT3.out.lt (fun e => qam OB3.out.1 BT3.out (by decide) e.symm)))
         clear oW gW hat hlt oo
         have SS4 : y4.cell? ⟨pb, 0, none⟩ = some (.int .i64 1) := P4.out.cell 0
         refine hK.out _ _ ?_ (fun hHeld => ?_)
         ·first | exact SS4 | go_keep
         clear hK K
         try simp only [Act.put, qL]
         refine tkH 9 ?_
        case' m26 =>
         exact AllReadyH.nil
       case' m25 =>
        exact AllReadyH.nil
     case' m21 =>
      exact AllReadyH.nil
  case' m6 =>
   refine AllReadyH.cons rfl (fun K hK => ?s28) ?m28
   case' s28 =>
    refine qbr y0 _ _ 23 rfl z0.heap.size 71 i_u64 (.int .u64 0) 1 Tryz.underlying23 h_u64 z_u64 s_u64 .i64 .i64 _ _ 256 rfl rfl rfl rfl (by rw [b_u64]; decide) (by decide) X0.out.size ?_
    intro y1 oW gW
    have oo : Off Nob y0 y1 := Off.grown oRf gW (fun k hk => by cases hk)
    have X1 := hID (X0.out.also oo)
    have P1 := hID (P0.out.to ((oo).block _ P0.out.lt (fun h => h)))
    have OT1 : Hid (OwnL z0 y1 71 1 (.slice (some ⟨y0.heap.size, 0, none⟩) 256 256) 256 (tabV 0)) := hID ⟨by rw [qca, ← qcv]; exact oW, X1.out⟩
    clear oW gW oo
    obtain ⟨gt, hgt⟩ : ∃ B, y0.heap.size = B := ⟨_, rfl⟩
    rw [hgt] at OT1 ⊢
    clear hgt
    have SS1 : y1.cell? ⟨pb, 0, none⟩ = some (.int .i64 1) := P1.out.cell 0
    refine hK.out _ _ ?_ (fun hHeld => ?_)
    ·first | exact SS1 | go_keep
    clear hK K
    try simp only [Act.put, qL]
    refine wpAnyH_ready (rs := [0, 10]) (by kernel_rfl) (by simp) ?_
    refine AllReadyH.cons rfl (fun K hK => ?s29) ?m29
    case' s29 =>
     go_simp
     have X2 := hID (X1.out.also (oAl (Off.refl Nob y1) (.cells #[] 3)))
     have P2 := hID (P1.out.to (((oAl (Off.refl Nob y1) (.cells #[] 3))).block _ P1.out.lt (fun h => h)))
     have OT2 := hID (OT1.out.off ((oAl (Off.refl Nob y1) (.cells #[] 3))))
     have OB2 : Hid (OwnL z0 (y1.alloc (.cells #[] 3)) 3 1 (.slice (some ⟨y1.heap.size, 0, none⟩) 0 0) 0 []) := hID ⟨World.ownsRow_made y1 #[] 0 X1.out.size (by decide) rfl, X2.out⟩
     revert X2 P2 OT2 OB2
     generalize (y1.alloc (.cells #[] 3)) = y2
     intro X2 P2 OT2 OB2
     obtain ⟨B, hB⟩ : ∃ B, y1.heap.size = B := ⟨_, rfl⟩
     rw [hB] at OB2 ⊢
     clear hB
     have SS2 : y2.cell? ⟨pb, 0, none⟩ = some (.int .i64 1) := P2.out.cell 0
     refine hK.out _ _ ?_ (fun hHeld => ?_)
     ·first | exact SS2 | go_keep
     clear hK K
     try simp only [Act.put, qL]
     refine wpAnyH_ready (rs := [2, 10]) (by kernel_rfl) (by simp) ?_
     refine AllReadyH.cons rfl (fun K hK => ?s30) ?m30
     case' s30 =>
      refine wp_append_lies _ _ _ 22 rfl z0.heap.size 3 i_int (.int .i64 0) 1 8 Tryz.underlying22 h_int z_int s_int b_int rfl (by decide) (.slice (some ⟨B, 0, none⟩) 0 0) 0 [] rfl OB2.out.1 ⟨b, o, none⟩ 2 c [.int .i64 5, .int .i64 9] rfl rfl ?c1 (by decide) (by decide) (by decide) (by decide) X2.out.size _ rfl ?_
      case c1 => intro j u hj; rw [qaj]; exact HC.out _ (XX0.out.also X2.out) j u hj
      intro gi ci y3 oW gW hat hlt
      have OI3 : Hid (OwnL z0 y3 3 1 (.slice (some ⟨gi, 0, none⟩) (0 + 2) ci) (0 + 2) ([] ++ [.int .i64 5, .int .i64 9])) := hID (OB2.out.grown oRf oW gW)
      have X3 := hID OI3.out.2
      have oo : Off (fun k => k = B) y2 y3 := Off.grown oRf gW (fun k hk => .inl (by injection hk with hk; exact hk.symm))
      have P3 := hID (P2.out.to (oo.block _ P2.out.lt (fun e => qam OB2.out.1 P2.out (by decide) e.symm)))
      have OT3 : Hid (OwnL z0 y3 71 1 (.slice (some ⟨gt, 0, none⟩) 256 256) 256 (tabV 0)) := hID ⟨qao OT2.out.1 (fun g hg => oo.block _ (OT2.out.1.lt g hg).2 (fun e => qbs OB2.out.1 OT2.out.1 (by decide) (((by simpa [Value.ownBlock] using hg : gt = g).trans e).symm))), X3.out⟩
      clear oW gW hat hlt oo
      have SS3 : y3.cell? ⟨pb, 0, none⟩ = some (.int .i64 1) := P3.out.cell 0
      refine hK.out _ _ ?_ (fun hHeld => ?_)
      ·first | exact SS3 | go_keep
      clear hK K
      try simp only [Act.put, qL]
      refine tkH 9 ?_
      refine wpAnyH_ready (rs := [10]) (by kernel_rfl) (by simp) ?_
      refine AllReadyH.cons rfl (fun K hK => ?s32) ?m32
      case' s32 =>
       go_simp
       have X4 := hID (X3.out.also (oAl (Off.refl Nob y3) (.cells #[.slice none 0 0, .int .i64 0, .slice none 0 0, .slice none 0 0, .slice none 0 0] 25)))
       have P4 := hID (P3.out.to (((oAl (Off.refl Nob y3) (.cells #[.slice none 0 0, .int .i64 0, .slice none 0 0, .slice none 0 0, .slice none 0 0] 25))).block _ P3.out.lt (fun h => h)))
       have OI4 := hID (OI3.out.off ((oAl (Off.refl Nob y3) (.cells #[.slice none 0 0, .int .i64 0, .slice none 0 0, .slice none 0 0, .slice none 0 0] 25))))
       have OT4 := hID (OT3.out.off ((oAl (Off.refl Nob y3) (.cells #[.slice none 0 0, .int .i64 0, .slice none 0 0, .slice none 0 0, .slice none 0 0] 25))))
       have BT4 : Hid (Blk (y3.alloc (.cells #[.slice none 0 0, .int .i64 0, .slice none 0 0, .slice none 0 0, .slice none 0 0] 25)) y3.heap.size 25 #[.slice none 0 0, .int .i64 0, .slice none 0 0, .slice none 0 0, .slice none 0 0]) := hID (Blk.new _ _ _)
       revert X4 P4 OI4 OT4 BT4
       generalize (y3.alloc (.cells #[.slice none 0 0, .int .i64 0, .slice none 0 0, .slice none 0 0, .slice none 0 0] 25)) = y4
       intro X4 P4 OI4 OT4 BT4
       have tge : z0.heap.size ≤ y3.heap.size := X3.out.size
       obtain ⟨tb, htb⟩ : ∃ B, y3.heap.size = B := ⟨_, rfl⟩
       rw [htb] at BT4 tge ⊢
       clear htb
       have TGE := hID tge
       clear tge
       have SS4 : y4.cell? ⟨pb, 0, none⟩ = some (.int .i64 1) := P4.out.cell 0
       refine hK.out _ _ ?_ (fun hHeld => ?_)
       ·first | exact SS4 | go_keep
       clear hK K
       try simp only [Act.put, qL]
      case' m32 =>
       exact AllReadyH.nil
     case' m30 =>
      refine AllReadyH.cons rfl (fun K hK => ?s33) ?m33
      case' s33 =>
       go_simp
       have X3 := hID (X2.out.also (oAl (Off.refl Nob y2) (.cells #[.slice none 0 0, .int .i64 0, .slice none 0 0, .slice none 0 0, .slice none 0 0] 25)))
       have P3 := hID (P2.out.to (((oAl (Off.refl Nob y2) (.cells #[.slice none 0 0, .int .i64 0, .slice none 0 0, .slice none 0 0, .slice none 0 0] 25))).block _ P2.out.lt (fun h => h)))
       have OB3 := hID (OB2.out.off ((oAl (Off.refl Nob y2) (.cells #[.slice none 0 0, .int .i64 0, .slice none 0 0, .slice none 0 0, .slice none 0 0] 25))))
       have OT3 := hID (OT2.out.off ((oAl (Off.refl Nob y2) (.cells #[.slice none 0 0, .int .i64 0, .slice none 0 0, .slice none 0 0, .slice none 0 0] 25))))
       have BT3 : Hid (Blk (y2.alloc (.cells #[.slice none 0 0, .int .i64 0, .slice none 0 0, .slice none 0 0, .slice none 0 0] 25)) y2.heap.size 25 #[.slice none 0 0, .int .i64 0, .slice none 0 0, .slice none 0 0, .slice none 0 0]) := hID (Blk.new _ _ _)
       revert X3 P3 OB3 OT3 BT3
       generalize (y2.alloc (.cells #[.slice none 0 0, .int .i64 0, .slice none 0 0, .slice none 0 0, .slice none 0 0] 25)) = y3
       intro X3 P3 OB3 OT3 BT3
       have tge : z0.heap.size ≤ y2.heap.size := X2.out.size
       obtain ⟨tb, htb⟩ : ∃ B, y2.heap.size = B := ⟨_, rfl⟩
       rw [htb] at BT3 tge ⊢
       clear htb
       have TGE := hID tge
       clear tge
       have SS3 : y3.cell? ⟨pb, 0, none⟩ = some (.int .i64 1) := P3.out.cell 0
       refine hK.out _ _ ?_ (fun hHeld => ?_)
       ·first | exact SS3 | go_keep
       clear hK K
       try simp only [Act.put, qL]
       refine wpAnyH_ready (rs := [2]) (by kernel_rfl) (by simp) ?_
       refine AllReadyH.cons rfl (fun K hK => ?s34) ?m34
       case' s34 =>
        refine wp_append_lies _ _ _ 22 rfl z0.heap.size 3 i_int (.int .i64 0) 1 8 Tryz.underlying22 h_int z_int s_int b_int rfl (by decide) (.slice (some ⟨B, 0, none⟩) 0 0) 0 [] rfl OB3.out.1 ⟨b, o, none⟩ 2 c [.int .i64 5, .int .i64 9] rfl rfl ?c1 (by decide) (by decide) (by decide) (by decide) X3.out.size _ rfl ?_
        case c1 => intro j u hj; rw [qaj]; exact HC.out _ (XX0.out.also X3.out) j u hj
        intro gi ci y4 oW gW hat hlt
        have OI4 : Hid (OwnL z0 y4 3 1 (.slice (some ⟨gi, 0, none⟩) (0 + 2) ci) (0 + 2) ([] ++ [.int .i64 5, .int .i64 9])) := hID (OB3.out.grown oRf oW gW)
        have X4 := hID OI4.out.2
        have oo : Off (fun k => k = B) y3 y4 := Off.grown oRf gW (fun k hk => .inl (by injection hk with hk; exact hk.symm))
        have P4 := hID (P3.out.to (oo.block _ P3.out.lt (fun e => qam OB3.out.1 P3.out (by decide) e.symm)))
        have OT4 : Hid (OwnL z0 y4 71 1 (.slice (some ⟨gt, 0, none⟩) 256 256) 256 (tabV 0)) := hID ⟨qao OT3.out.1 (fun g hg => oo.block _ (OT3.out.1.lt g hg).2 (fun e => qbs OB3.out.1 OT3.out.1 (by decide) (((by simpa [Value.ownBlock] using hg : gt = g).trans e).symm))), X4.out⟩
        have BT4 := hID (BT3.out.to (oo.block _ BT3.out.lt (fun e => qam OB3.out.1 BT3.out (by decide) e.symm)))
        clear oW gW hat hlt oo
        have SS4 : y4.cell? ⟨pb, 0, none⟩ = some (.int .i64 1) := P4.out.cell 0
        refine hK.out _ _ ?_ (fun hHeld => ?_)
        ·first | exact SS4 | go_keep
        clear hK K
        try simp only [Act.put, qL]
        refine tkH 9 ?_
       case' m34 =>
        exact AllReadyH.nil
      case' m33 =>
       exact AllReadyH.nil
    case' m29 =>
     refine AllReadyH.cons rfl (fun K hK => ?s36) ?m36
     case' s36 =>
      go_simp
      have X2 := hID (X1.out.also (oAl (Off.refl Nob y1) (.cells #[.slice none 0 0, .int .i64 0, .slice none 0 0, .slice none 0 0, .slice none 0 0] 25)))
      have P2 := hID (P1.out.to (((oAl (Off.refl Nob y1) (.cells #[.slice none 0 0, .int .i64 0, .slice none 0 0, .slice none 0 0, .slice none 0 0] 25))).block _ P1.out.lt (fun h => h)))
      have OT2 := hID (OT1.out.off ((oAl (Off.refl Nob y1) (.cells #[.slice none 0 0, .int .i64 0, .slice none 0 0, .slice none 0 0, .slice none 0 0] 25))))
      have BT2 : Hid (Blk (y1.alloc (.cells #[.slice none 0 0, .int .i64 0, .slice none 0 0, .slice none 0 0, .slice none 0 0] 25)) y1.heap.size 25 #[.slice none 0 0, .int .i64 0, .slice none 0 0, .slice none 0 0, .slice none 0 0]) := hID (Blk.new _ _ _)
      revert X2 P2 OT2 BT2
      generalize (y1.alloc (.cells #[.slice none 0 0, .int .i64 0, .slice none 0 0, .slice none 0 0, .slice none 0 0] 25)) = y2
      intro X2 P2 OT2 BT2
      have tge : z0.heap.size ≤ y1.heap.size := X1.out.size
      obtain ⟨tb, htb⟩ : ∃ B, y1.heap.size = B := ⟨_, rfl⟩
      rw [htb] at BT2 tge ⊢
      clear htb
      have TGE := hID tge
      clear tge
      have SS2 : y2.cell? ⟨pb, 0, none⟩ = some (.int .i64 1) := P2.out.cell 0
      refine hK.out _ _ ?_ (fun hHeld => ?_)
      ·first | exact SS2 | go_keep
      clear hK K
      try simp only [Act.put, qL]
      refine wpAnyH_ready (rs := [0]) (by kernel_rfl) (by simp) ?_
      refine AllReadyH.cons rfl (fun K hK => ?s37) ?m37
      case' s37 =>
       go_simp
       have X3 := hID (X2.out.also (oAl (Off.refl Nob y2) (.cells #[] 3)))
       have P3 := hID (P2.out.to (((oAl (Off.refl Nob y2) (.cells #[] 3))).block _ P2.out.lt (fun h => h)))
       have OT3 := hID (OT2.out.off ((oAl (Off.refl Nob y2) (.cells #[] 3))))
       have BT3 := hID (BT2.out.to (((oAl (Off.refl Nob y2) (.cells #[] 3))).block _ BT2.out.lt (fun h => h)))
       have OB3 : Hid (OwnL z0 (y2.alloc (.cells #[] 3)) 3 1 (.slice (some ⟨y2.heap.size, 0, none⟩) 0 0) 0 []) := hID ⟨World.ownsRow_made y2 #[] 0 X2.out.size (by decide) rfl, X3.out⟩
       revert X3 P3 OT3 BT3 OB3
       generalize (y2.alloc (.cells #[] 3)) = y3
       intro X3 P3 OT3 BT3 OB3
       obtain ⟨B, hB⟩ : ∃ B, y2.heap.size = B := ⟨_, rfl⟩
       rw [hB] at OB3 ⊢
       clear hB
       have SS3 : y3.cell? ⟨pb, 0, none⟩ = some (.int .i64 1) := P3.out.cell 0
       refine hK.out _ _ ?_ (fun hHeld => ?_)
       ·first | exact SS3 | go_keep
       clear hK K
       try simp only [Act.put, qL]
       refine wpAnyH_ready (rs := [2]) (by kernel_rfl) (by simp) ?_
       refine AllReadyH.cons rfl (fun K hK => ?s38) ?m38
       case' s38 =>
        refine wp_append_lies _ _ _ 22 rfl z0.heap.size 3 i_int (.int .i64 0) 1 8 Tryz.underlying22 h_int z_int s_int b_int rfl (by decide) (.slice (some ⟨B, 0, none⟩) 0 0) 0 [] rfl OB3.out.1 ⟨b, o, none⟩ 2 c [.int .i64 5, .int .i64 9] rfl rfl ?c1 (by decide) (by decide) (by decide) (by decide) X3.out.size _ rfl ?_
        case c1 => intro j u hj; rw [qaj]; exact HC.out _ (XX0.out.also X3.out) j u hj
        intro gi ci y4 oW gW hat hlt
        have OI4 : Hid (OwnL z0 y4 3 1 (.slice (some ⟨gi, 0, none⟩) (0 + 2) ci) (0 + 2) ([] ++ [.int .i64 5, .int .i64 9])) := hID (OB3.out.grown oRf oW gW)
        have X4 := hID OI4.out.2
        have oo : Off (fun k => k = B) y3 y4 := Off.grown oRf gW (fun k hk => .inl (by injection hk with hk; exact hk.symm))
        have P4 := hID (P3.out.to (oo.block _ P3.out.lt (fun e => qam OB3.out.1 P3.out (by decide) e.symm)))
        have OT4 : Hid (OwnL z0 y4 71 1 (.slice (some ⟨gt, 0, none⟩) 256 256) 256 (tabV 0)) := hID ⟨qao OT3.out.1 (fun g hg => oo.block _ (OT3.out.1.lt g hg).2 (fun e => qbs OB3.out.1 OT3.out.1 (by decide) (((by simpa [Value.ownBlock] using hg : gt = g).trans e).symm))), X4.out⟩
        have BT4 := hID (BT3.out.to (oo.block _ BT3.out.lt (fun e => qam OB3.out.1 BT3.out (by decide) e.symm)))
        clear oW gW hat hlt oo
        have SS4 : y4.cell? ⟨pb, 0, none⟩ = some (.int .i64 1) := P4.out.cell 0
        refine hK.out _ _ ?_ (fun hHeld => ?_)
        ·first | exact SS4 | go_keep
        clear hK K
        try simp only [Act.put, qL]
        refine tkH 9 ?_
       case' m38 =>
        exact AllReadyH.nil
      case' m37 =>
       exact AllReadyH.nil
     case' m36 =>
      exact AllReadyH.nil
   case' m28 =>
    refine AllReadyH.cons rfl (fun K hK => ?s40) ?m40
    case' s40 =>
     go_simp
     have X1 := hID (X0.out.also (oAl (Off.refl Nob y0) (.cells #[.slice none 0 0, .int .i64 0, .slice none 0 0, .slice none 0 0, .slice none 0 0] 25)))
     have P1 := hID (P0.out.to (((oAl (Off.refl Nob y0) (.cells #[.slice none 0 0, .int .i64 0, .slice none 0 0, .slice none 0 0, .slice none 0 0] 25))).block _ P0.out.lt (fun h => h)))
     have BT1 : Hid (Blk (y0.alloc (.cells #[.slice none 0 0, .int .i64 0, .slice none 0 0, .slice none 0 0, .slice none 0 0] 25)) y0.heap.size 25 #[.slice none 0 0, .int .i64 0, .slice none 0 0, .slice none 0 0, .slice none 0 0]) := hID (Blk.new _ _ _)
     revert X1 P1 BT1
     generalize (y0.alloc (.cells #[.slice none 0 0, .int .i64 0, .slice none 0 0, .slice none 0 0, .slice none 0 0] 25)) = y1
     intro X1 P1 BT1
     have tge : z0.heap.size ≤ y0.heap.size := X0.out.size
     obtain ⟨tb, htb⟩ : ∃ B, y0.heap.size = B := ⟨_, rfl⟩
     rw [htb] at BT1 tge ⊢
     clear htb
     have TGE := hID tge
     clear tge
     have SS1 : y1.cell? ⟨pb, 0, none⟩ = some (.int .i64 1) := P1.out.cell 0
     refine hK.out _ _ ?_ (fun hHeld => ?_)
     ·first | exact SS1 | go_keep
     clear hK K
     try simp only [Act.put, qL]
     refine wpAnyH_ready (rs := [0, 8]) (by kernel_rfl) (by simp) ?_
     refine AllReadyH.cons rfl (fun K hK => ?s41) ?m41
     case' s41 =>
      go_simp
      have X2 := hID (X1.out.also (oAl (Off.refl Nob y1) (.cells #[] 3)))
      have P2 := hID (P1.out.to (((oAl (Off.refl Nob y1) (.cells #[] 3))).block _ P1.out.lt (fun h => h)))
      have BT2 := hID (BT1.out.to (((oAl (Off.refl Nob y1) (.cells #[] 3))).block _ BT1.out.lt (fun h => h)))
      have OB2 : Hid (OwnL z0 (y1.alloc (.cells #[] 3)) 3 1 (.slice (some ⟨y1.heap.size, 0, none⟩) 0 0) 0 []) := hID ⟨World.ownsRow_made y1 #[] 0 X1.out.size (by decide) rfl, X2.out⟩
      revert X2 P2 BT2 OB2
      generalize (y1.alloc (.cells #[] 3)) = y2
      intro X2 P2 BT2 OB2
      obtain ⟨B, hB⟩ : ∃ B, y1.heap.size = B := ⟨_, rfl⟩
      rw [hB] at OB2 ⊢
      clear hB
      have SS2 : y2.cell? ⟨pb, 0, none⟩ = some (.int .i64 1) := P2.out.cell 0
      refine hK.out _ _ ?_ (fun hHeld => ?_)
      ·first | exact SS2 | go_keep
      clear hK K
      try simp only [Act.put, qL]
      refine wpAnyH_ready (rs := [2, 8]) (by kernel_rfl) (by simp) ?_
      refine AllReadyH.cons rfl (fun K hK => ?s42) ?m42
      case' s42 =>
       refine wp_append_lies _ _ _ 22 rfl z0.heap.size 3 i_int (.int .i64 0) 1 8 Tryz.underlying22 h_int z_int s_int b_int rfl (by decide) (.slice (some ⟨B, 0, none⟩) 0 0) 0 [] rfl OB2.out.1 ⟨b, o, none⟩ 2 c [.int .i64 5, .int .i64 9] rfl rfl ?c1 (by decide) (by decide) (by decide) (by decide) X2.out.size _ rfl ?_
       case c1 => intro j u hj; rw [qaj]; exact HC.out _ (XX0.out.also X2.out) j u hj
       intro gi ci y3 oW gW hat hlt
       have OI3 : Hid (OwnL z0 y3 3 1 (.slice (some ⟨gi, 0, none⟩) (0 + 2) ci) (0 + 2) ([] ++ [.int .i64 5, .int .i64 9])) := hID (OB2.out.grown oRf oW gW)
       have X3 := hID OI3.out.2
       have oo : Off (fun k => k = B) y2 y3 := Off.grown oRf gW (fun k hk => .inl (by injection hk with hk; exact hk.symm))
       have P3 := hID (P2.out.to (oo.block _ P2.out.lt (fun e => qam OB2.out.1 P2.out (by decide) e.symm)))
       have BT3 := hID (BT2.out.to (oo.block _ BT2.out.lt (fun e => qam OB2.out.1 BT2.out (by decide) e.symm)))
       clear oW gW hat hlt oo
       have SS3 : y3.cell? ⟨pb, 0, none⟩ = some (.int .i64 1) := P3.out.cell 0
       refine hK.out _ _ ?_ (fun hHeld => ?_)
       ·first | exact SS3 | go_keep
       clear hK K
       try simp only [Act.put, qL]
       refine wpAnyH_ready (rs := [8]) (by kernel_rfl) (by simp) ?_
       refine AllReadyH.cons rfl (fun K hK => ?s43) ?m43
       case' s43 =>
        refine qbr y3 _ _ 23 rfl z0.heap.size 71 i_u64 (.int .u64 0) 1 Tryz.underlying23 h_u64 z_u64 s_u64 .i64 .i64 _ _ 256 rfl rfl rfl rfl (by rw [b_u64]; decide) (by decide) X3.out.size ?_
        intro y4 oW gW
        have oo : Off Nob y3 y4 := Off.grown oRf gW (fun k hk => by cases hk)
        have X4 := hID (X3.out.also oo)
        have P4 := hID (P3.out.to ((oo).block _ P3.out.lt (fun h => h)))
        have OI4 := hID (OI3.out.off (oo))
        have BT4 := hID (BT3.out.to ((oo).block _ BT3.out.lt (fun h => h)))
        have OT4 : Hid (OwnL z0 y4 71 1 (.slice (some ⟨y3.heap.size, 0, none⟩) 256 256) 256 (tabV 0)) := hID ⟨by rw [qca, ← qcv]; exact oW, X4.out⟩
        clear oW gW oo
        obtain ⟨gt, hgt⟩ : ∃ B, y3.heap.size = B := ⟨_, rfl⟩
        rw [hgt] at OT4 ⊢
        clear hgt
        have SS4 : y4.cell? ⟨pb, 0, none⟩ = some (.int .i64 1) := P4.out.cell 0
        refine hK.out _ _ ?_ (fun hHeld => ?_)
        ·first | exact SS4 | go_keep
        clear hK K
        try simp only [Act.put, qL]
        refine tkH 9 ?_
       case' m43 =>
        exact AllReadyH.nil
      case' m42 =>
       refine AllReadyH.cons rfl (fun K hK => ?s45) ?m45
       case' s45 =>
        refine qbr y2 _ _ 23 rfl z0.heap.size 71 i_u64 (.int .u64 0) 1 Tryz.underlying23 h_u64 z_u64 s_u64 .i64 .i64 _ _ 256 rfl rfl rfl rfl (by rw [b_u64]; decide) (by decide) X2.out.size ?_
        intro y3 oW gW
        have oo : Off Nob y2 y3 := Off.grown oRf gW (fun k hk => by cases hk)
        have X3 := hID (X2.out.also oo)
        have P3 := hID (P2.out.to ((oo).block _ P2.out.lt (fun h => h)))
        have OB3 := hID (OB2.out.off (oo))
        have BT3 := hID (BT2.out.to ((oo).block _ BT2.out.lt (fun h => h)))
        have OT3 : Hid (OwnL z0 y3 71 1 (.slice (some ⟨y2.heap.size, 0, none⟩) 256 256) 256 (tabV 0)) := hID ⟨by rw [qca, ← qcv]; exact oW, X3.out⟩
        clear oW gW oo
        obtain ⟨gt, hgt⟩ : ∃ B, y2.heap.size = B := ⟨_, rfl⟩
        rw [hgt] at OT3 ⊢
        clear hgt
        have SS3 : y3.cell? ⟨pb, 0, none⟩ = some (.int .i64 1) := P3.out.cell 0
        refine hK.out _ _ ?_ (fun hHeld => ?_)
        ·first | exact SS3 | go_keep
        clear hK K
        try simp only [Act.put, qL]
        refine wpAnyH_ready (rs := [2]) (by kernel_rfl) (by simp) ?_
        refine AllReadyH.cons rfl (fun K hK => ?s46) ?m46
        case' s46 =>
         refine wp_append_lies _ _ _ 22 rfl z0.heap.size 3 i_int (.int .i64 0) 1 8 Tryz.underlying22 h_int z_int s_int b_int rfl (by decide) (.slice (some ⟨B, 0, none⟩) 0 0) 0 [] rfl OB3.out.1 ⟨b, o, none⟩ 2 c [.int .i64 5, .int .i64 9] rfl rfl ?c1 (by decide) (by decide) (by decide) (by decide) X3.out.size _ rfl ?_
         case c1 => intro j u hj; rw [qaj]; exact HC.out _ (XX0.out.also X3.out) j u hj
         intro gi ci y4 oW gW hat hlt
         have OI4 : Hid (OwnL z0 y4 3 1 (.slice (some ⟨gi, 0, none⟩) (0 + 2) ci) (0 + 2) ([] ++ [.int .i64 5, .int .i64 9])) := hID (OB3.out.grown oRf oW gW)
         have X4 := hID OI4.out.2
         have oo : Off (fun k => k = B) y3 y4 := Off.grown oRf gW (fun k hk => .inl (by injection hk with hk; exact hk.symm))
         have P4 := hID (P3.out.to (oo.block _ P3.out.lt (fun e => qam OB3.out.1 P3.out (by decide) e.symm)))
         have OT4 : Hid (OwnL z0 y4 71 1 (.slice (some ⟨gt, 0, none⟩) 256 256) 256 (tabV 0)) := hID ⟨qao OT3.out.1 (fun g hg => oo.block _ (OT3.out.1.lt g hg).2 (fun e => qbs OB3.out.1 OT3.out.1 (by decide) (((by simpa [Value.ownBlock] using hg : gt = g).trans e).symm))), X4.out⟩
         have BT4 := hID (BT3.out.to (oo.block _ BT3.out.lt (fun e => qam OB3.out.1 BT3.out (by decide) e.symm)))
         clear oW gW hat hlt oo
         have SS4 : y4.cell? ⟨pb, 0, none⟩ = some (.int .i64 1) := P4.out.cell 0
         refine hK.out _ _ ?_ (fun hHeld => ?_)
         ·first | exact SS4 | go_keep
         clear hK K
         try simp only [Act.put, qL]
         refine tkH 9 ?_
        case' m46 =>
         exact AllReadyH.nil
       case' m45 =>
        exact AllReadyH.nil
     case' m41 =>
      refine AllReadyH.cons rfl (fun K hK => ?s48) ?m48
      case' s48 =>
       refine qbr y1 _ _ 23 rfl z0.heap.size 71 i_u64 (.int .u64 0) 1 Tryz.underlying23 h_u64 z_u64 s_u64 .i64 .i64 _ _ 256 rfl rfl rfl rfl (by rw [b_u64]; decide) (by decide) X1.out.size ?_
       intro y2 oW gW
       have oo : Off Nob y1 y2 := Off.grown oRf gW (fun k hk => by cases hk)
       have X2 := hID (X1.out.also oo)
       have P2 := hID (P1.out.to ((oo).block _ P1.out.lt (fun h => h)))
       have BT2 := hID (BT1.out.to ((oo).block _ BT1.out.lt (fun h => h)))
       have OT2 : Hid (OwnL z0 y2 71 1 (.slice (some ⟨y1.heap.size, 0, none⟩) 256 256) 256 (tabV 0)) := hID ⟨by rw [qca, ← qcv]; exact oW, X2.out⟩
       clear oW gW oo
       obtain ⟨gt, hgt⟩ : ∃ B, y1.heap.size = B := ⟨_, rfl⟩
       rw [hgt] at OT2 ⊢
       clear hgt
       have SS2 : y2.cell? ⟨pb, 0, none⟩ = some (.int .i64 1) := P2.out.cell 0
       refine hK.out _ _ ?_ (fun hHeld => ?_)
       ·first | exact SS2 | go_keep
       clear hK K
       try simp only [Act.put, qL]
       refine wpAnyH_ready (rs := [0]) (by kernel_rfl) (by simp) ?_
       refine AllReadyH.cons rfl (fun K hK => ?s49) ?m49
       case' s49 =>
        go_simp
        have X3 := hID (X2.out.also (oAl (Off.refl Nob y2) (.cells #[] 3)))
        have P3 := hID (P2.out.to (((oAl (Off.refl Nob y2) (.cells #[] 3))).block _ P2.out.lt (fun h => h)))
        have OT3 := hID (OT2.out.off ((oAl (Off.refl Nob y2) (.cells #[] 3))))
        have BT3 := hID (BT2.out.to (((oAl (Off.refl Nob y2) (.cells #[] 3))).block _ BT2.out.lt (fun h => h)))
        have OB3 : Hid (OwnL z0 (y2.alloc (.cells #[] 3)) 3 1 (.slice (some ⟨y2.heap.size, 0, none⟩) 0 0) 0 []) := hID ⟨World.ownsRow_made y2 #[] 0 X2.out.size (by decide) rfl, X3.out⟩
        revert X3 P3 OT3 BT3 OB3
        generalize (y2.alloc (.cells #[] 3)) = y3
        intro X3 P3 OT3 BT3 OB3
        obtain ⟨B, hB⟩ : ∃ B, y2.heap.size = B := ⟨_, rfl⟩
        rw [hB] at OB3 ⊢
        clear hB
        have SS3 : y3.cell? ⟨pb, 0, none⟩ = some (.int .i64 1) := P3.out.cell 0
        refine hK.out _ _ ?_ (fun hHeld => ?_)
        ·first | exact SS3 | go_keep
        clear hK K
        try simp only [Act.put, qL]
        refine wpAnyH_ready (rs := [2]) (by kernel_rfl) (by simp) ?_
        refine AllReadyH.cons rfl (fun K hK => ?s50) ?m50
        case' s50 =>
         refine wp_append_lies _ _ _ 22 rfl z0.heap.size 3 i_int (.int .i64 0) 1 8 Tryz.underlying22 h_int z_int s_int b_int rfl (by decide) (.slice (some ⟨B, 0, none⟩) 0 0) 0 [] rfl OB3.out.1 ⟨b, o, none⟩ 2 c [.int .i64 5, .int .i64 9] rfl rfl ?c1 (by decide) (by decide) (by decide) (by decide) X3.out.size _ rfl ?_
         case c1 => intro j u hj; rw [qaj]; exact HC.out _ (XX0.out.also X3.out) j u hj
         intro gi ci y4 oW gW hat hlt
         have OI4 : Hid (OwnL z0 y4 3 1 (.slice (some ⟨gi, 0, none⟩) (0 + 2) ci) (0 + 2) ([] ++ [.int .i64 5, .int .i64 9])) := hID (OB3.out.grown oRf oW gW)
         have X4 := hID OI4.out.2
         have oo : Off (fun k => k = B) y3 y4 := Off.grown oRf gW (fun k hk => .inl (by injection hk with hk; exact hk.symm))
         have P4 := hID (P3.out.to (oo.block _ P3.out.lt (fun e => qam OB3.out.1 P3.out (by decide) e.symm)))
         have OT4 : Hid (OwnL z0 y4 71 1 (.slice (some ⟨gt, 0, none⟩) 256 256) 256 (tabV 0)) := hID ⟨qao OT3.out.1 (fun g hg => oo.block _ (OT3.out.1.lt g hg).2 (fun e => qbs OB3.out.1 OT3.out.1 (by decide) (((by simpa [Value.ownBlock] using hg : gt = g).trans e).symm))), X4.out⟩
         have BT4 := hID (BT3.out.to (oo.block _ BT3.out.lt (fun e => qam OB3.out.1 BT3.out (by decide) e.symm)))
         clear oW gW hat hlt oo
         have SS4 : y4.cell? ⟨pb, 0, none⟩ = some (.int .i64 1) := P4.out.cell 0
         refine hK.out _ _ ?_ (fun hHeld => ?_)
         ·first | exact SS4 | go_keep
         clear hK K
         try simp only [Act.put, qL]
         refine tkH 9 ?_
        case' m50 =>
         exact AllReadyH.nil
       case' m49 =>
        exact AllReadyH.nil
      case' m48 =>
       exact AllReadyH.nil
    case' m40 =>
     exact AllReadyH.nil
  all_goals
   refine wpAnyH_ready (rs := [11]) (by kernel_rfl) (by simp) ?_
   refine AllReadyH.cons rfl (fun K hK => ?_) AllReadyH.nil
   refine wp_store_mid 25 _ _ rfl tb 0 #[.slice (some ⟨gi, 0, none⟩) (0 + 2) ci, .int .i64 1, .slice (some ⟨gt, 0, none⟩) 256 256, .slice none 0 0, .slice none 0 0] rfl rfl (qr1 BT4.out) Tryz.infoTs (by simp [Value.oneCell']) ?_
   have e1 : gi ≠ tb := qam OI4.out.1 BT4.out (by decide)
   have e2 : gt ≠ tb := qam OT4.out.1 BT4.out (by decide)
   have e3 : pb ≠ tb := qt7 P4.out BT4.out (by decide)
   have CUT : Hid (BuildI z0 pb (.slice ALV 2 clv) (.slice none 0 0) (.slice none 0 0) (tabV 0) tb gi ci gt (y4.setCells tb 0 [.slice (some ⟨gi, 0, none⟩) (0 + 2) ci, .int .i64 1, .slice (some ⟨gt, 0, none⟩) 256 256, .slice none 0 0, .slice none 0 0])) := hID ⟨qay X4.out TGE.out _ _, qdy P4.out e3 _ _, qgy BT4.out _ _ _ _ _, qb3 OI4.out.1 e1 _ _, qb3 OT4.out.1 e2 _ _, TGE.out⟩
   have SS5 : (y4.setCells tb 0 [.slice (some ⟨gi, 0, none⟩) (0 + 2) ci, .int .i64 1, .slice (some ⟨gt, 0, none⟩) 256 256, .slice none 0 0, .slice none 0 0]).cell? ⟨pb, 0, none⟩ = some (.int .i64 1) := CUT.out.2.1.cell 0
   refine hK.out _ _ ?_ (fun hHeld => ?_)
   ·first | exact SS5 | go_keep
   clear hK K
   try simp only [Act.put, qL]
   refine wpAnyH_done (by kernel_rfl) ?_ _
   go_wp2_with fail
   go_meet
   exact ⟨_, _, _, _, rfl, CUT.out⟩
 case rest =>
  obtain ⟨tb, gi, ci, gt, rfl, hB⟩ := hcut
  have OZ := hB.1
  have RLT := hID RZ.out.lt
  have TGE := hID hB.2.2.2.2.2
  have NE := hID hB.ne
  have GT0 := hID (hB.2.2.2.2.1.lt gt rfl)
  have GI0 := hID (hB.2.2.2.1.lt gi rfl)
  have TB0 := hID hB.2.2.1.lt
  have PB0 := hID P0.out.lt
  have LV1 := hID (LV0.out.below.keep OZ (fun _ _ h => h))
  have LS1 := hID (LS0.out.below.keep OZ (fun _ _ h => h))
  have UA1 := hID (U10.out.below.keep OZ (fun _ _ h => h))
  have MA1 := hID (M10.out.below.keep OZ (fun _ _ h => h))
  have UB1 := hID (U20.out.below.keep OZ (fun _ _ h => h))
  have MB1 := hID (M20.out.below.keep OZ (fun _ _ h => h))
  have RR1 := hID (RZ.out.to (OZ.block _ RZ.out.lt (fun h => h)))
  have B1 := hID hB
  clear hB OZ LV0 LS0 U10 M10 U20 M20 RZ P0 SS0 c0 c1 d0 d1
  have p0 := B1.out.2.1.cell 0
  have p1 := B1.out.2.1.cell 1
  simp only [qG] at p0 p1
  go_wp2_with fail
  refine (qrz _ _ LV1.out.any).mono ?_
  rintro e y2 ⟨u, rfl, hr, o1⟩
  have NN : Hid (tb < wc.heap.size ∧ gt < wc.heap.size ∧ gi < wc.heap.size ∧ pb < wc.heap.size ∧ wc.heap.size ≤ y2.heap.size) := hID ⟨TB0.out, GT0.out.2, GI0.out.2, B1.out.2.1.lt, o1.size⟩
  have hr2 := hr.below2
  obtain ⟨As, cs, rfl, _⟩ := hr.form
  have ST2 : Hid (Rd y2 (fun k => wc.heap.size ≤ k ∧ k < y2.heap.size) 1 (.slice As 1 cs) 1 [.int .u64 5]) := hID hr2
  clear hr hr2 p0 p1
  have B2 := hID (B1.out.off o1)
  have RR2 := hID (RR1.out.to (o1.block _ RR1.out.lt (fun h => h)))
  have LV2 := hID (LV1.out.keep o1 (fun _ _ h => h))
  have LS2 := hID (LS1.out.keep o1 (fun _ _ h => h))
  have UA2 := hID (UA1.out.keep o1 (fun _ _ h => h))
  have MA2 := hID (MA1.out.keep o1 (fun _ _ h => h))
  have UB2 := hID (UB1.out.keep o1 (fun _ _ h => h))
  have MB2 := hID (MB1.out.keep o1 (fun _ _ h => h))
  clear B1 RR1 LV1 LS1 UA1 MA1 UB1 MB1
  clear o1
  revert NN ST2
  obtain ⟨N1, hN1⟩ : ∃ N, wc.heap.size = N := ⟨_, rfl⟩
  obtain ⟨N2, hN2⟩ : ∃ N, y2.heap.size = N := ⟨_, rfl⟩
  have N2E : Hid (y2.heap.size = N2) := hID hN2
  rw [hN1, hN2]
  clear hN1 hN2
  intro NN ST2
  have q0 := B2.out.2.2.1.cell 0
  have q1 := B2.out.2.2.1.cell 1
  have q2 := B2.out.2.2.1.cell 2
  have q3 := B2.out.2.2.1.cell 3
  have q4 := B2.out.2.2.1.cell 4
  simp only [qG] at q0 q1 q2 q3 q4
  have f3 := B2.out.2.2.1.frozen 3
  have f4 := B2.out.2.2.1.frozen 4
  have o3 : Off (fun k => k = tb) y2 (y2.setCell ⟨tb, 3, none⟩ (.slice As 1 cs)) := Off.put (F := fun k => k = tb) (p := ⟨tb, 3, none⟩) oRf (Or.inl (Eq.refl tb)) _
  have B3 := hID (B2.out.put3 (.slice As 1 cs))
  have RR3 := hID (RR2.out.to (o3.block _ RR2.out.lt (fun h => by have h2 : w.heap.size = tb := h; have := RLT.out; have := TGE.out; have := GT0.out;  omega)))
  have LV3 := hID (LV2.out.keep o3 (fun k hk h => by have h2 : k = tb := h; have hk2 : k < z0.heap.size := hk; have := TGE.out; have := GT0.out;  omega))
  have LS3 := hID (LS2.out.keep o3 (fun k hk h => by have h2 : k = tb := h; have hk2 : k < z0.heap.size := hk; have := TGE.out; have := GT0.out;  omega))
  have UA3 := hID (UA2.out.keep o3 (fun k hk h => by have h2 : k = tb := h; have hk2 : k < z0.heap.size := hk; have := TGE.out; have := GT0.out;  omega))
  have MA3 := hID (MA2.out.keep o3 (fun k hk h => by have h2 : k = tb := h; have hk2 : k < z0.heap.size := hk; have := TGE.out; have := GT0.out;  omega))
  have UB3 := hID (UB2.out.keep o3 (fun k hk h => by have h2 : k = tb := h; have hk2 : k < z0.heap.size := hk; have := TGE.out; have := GT0.out;  omega))
  have MB3 := hID (MB2.out.keep o3 (fun k hk h => by have h2 : k = tb := h; have hk2 : k < z0.heap.size := hk; have := TGE.out; have := GT0.out;  omega))
  have ST3 := hID (ST2.out.keep o3 (fun k hk h => by have h2 : k = tb := h; have hk2 : N1 ≤ k ∧ k < N2 := hk; have := NN.out;  omega))
  clear B2 RR2 LV2 LS2 UA2 MA2 UB2 MB2 ST2
  clear o3
  have SZ3 : Hid (N2 ≤ (y2.setCell ⟨tb, 3, none⟩ (.slice As 1 cs)).heap.size) := hID (by have := N2E.out; simp; omega)
  go_wp2_with fail
  revert B3 RR3 LV3 LS3 UA3 MA3 UB3 MB3 ST3 SZ3
  generalize (y2.setCell ⟨tb, 3, none⟩ (.slice As 1 cs)) = y3
  intro B3 RR3 LV3 LS3 UA3 MA3 UB3 MB3 ST3 SZ3
  clear q0 q1 q2 q3 q4 f3 f4 N2E
  refine wp_loop_rounds 3 ?_
  rw [rounds_succ]
  have p0 := B3.out.2.1.cell 0
  have p1 := B3.out.2.1.cell 1
  simp only [qG] at p0 p1
  go_wp2_with fail
  refine (qt4 _ _ LV3.out.any).mono ?_
  rintro e y4 ⟨u, rfl, hr, o1⟩
  obtain ⟨bu, ou, cu, rfl, hcu⟩ := hr.cellsT (by decide)
  have HCU := hID hcu
  clear hr hcu p0 p1
  have SZ4 : Hid (N2 ≤ y4.heap.size) := hID (Nat.le_trans SZ3.out o1.size)
  have B4 := hID (B3.out.off o1)
  have RR4 := hID (RR3.out.to (o1.block _ RR3.out.lt (fun h => h)))
  have LV4 := hID (LV3.out.keep o1 (fun _ _ h => h))
  have LS4 := hID (LS3.out.keep o1 (fun _ _ h => h))
  have UA4 := hID (UA3.out.keep o1 (fun _ _ h => h))
  have MA4 := hID (MA3.out.keep o1 (fun _ _ h => h))
  have UB4 := hID (UB3.out.keep o1 (fun _ _ h => h))
  have MB4 := hID (MB3.out.keep o1 (fun _ _ h => h))
  have ST4 := hID (ST3.out.keep o1 (fun _ _ h => h))
  clear B3 RR3 LV3 LS3 UA3 MA3 UB3 MB3 ST3
  clear o1 SZ3
  have q0 := B4.out.2.2.1.cell 0
  have q1 := B4.out.2.2.1.cell 1
  have q2 := B4.out.2.2.1.cell 2
  have q3 := B4.out.2.2.1.cell 3
  have q4 := B4.out.2.2.1.cell 4
  simp only [qG] at q0 q1 q2 q3 q4
  have f3 := B4.out.2.2.1.frozen 3
  have f4 := B4.out.2.2.1.frozen 4
  go_wp2_with (at_builtin; refine @wpList_append_lies _ _ _ _ _ _ _ rfl _ _ 23 rfl z0.heap.size 71 i_u64 (.int .u64 0) 1 8 Tryz.underlying23 h_u64 z_u64 s_u64 b_u64 rfl (by decide) (.slice none 0 0) 0 [] rfl (OwnL.nilAt B4.out.1 71 1).1 ⟨bu, ou, none⟩ 1 cu [.int .u64 2] rfl rfl ?c1 (by decide) (by decide) (by decide) (by decide) B4.out.1.size _ rfl ?_)
  case c1 => intro j u hj; rw [qaj]; exact HCU.out _ oRf j u hj
  intro gf1 cap1 y5 oW gW hat hlt
  have GF1 : Hid (N2 ≤ gf1) := hID (by
   rcases hat with h | h
   ·cases h
   ·have := SZ4.out; rw [h]; omega)
  have GFL : Hid (gf1 < y5.heap.size) := hID hlt
  have oo : Off Nob y4 y5 := Off.grown oRf gW (fun k hk => by cases hk)
  have SZ5 : Hid (N2 ≤ y5.heap.size) := hID (Nat.le_trans SZ4.out oo.size)
  have FIN := hID ((OwnL.nilAt B4.out.1 71 1).grown oRf oW gW)
  have B5 := hID (B4.out.off oo)
  have RR5 := hID (RR4.out.to (oo.block _ RR4.out.lt (fun h => h)))
  have LV5 := hID (LV4.out.keep oo (fun _ _ h => h))
  have LS5 := hID (LS4.out.keep oo (fun _ _ h => h))
  have UA5 := hID (UA4.out.keep oo (fun _ _ h => h))
  have MA5 := hID (MA4.out.keep oo (fun _ _ h => h))
  have UB5 := hID (UB4.out.keep oo (fun _ _ h => h))
  have MB5 := hID (MB4.out.keep oo (fun _ _ h => h))
  have ST5 := hID (ST4.out.keep oo (fun _ _ h => h))
  clear B4 RR4 LV4 LS4 UA4 MA4 UB4 MB4 ST4
  have FI5 := FIN
  clear FIN oo oW gW hat hlt SZ4 HCU q0 q1 q2 q3 q4 f3 f4
  have q0 := B5.out.2.2.1.cell 0
  have q1 := B5.out.2.2.1.cell 1
  have q2 := B5.out.2.2.1.cell 2
  have q3 := B5.out.2.2.1.cell 3
  have q4 := B5.out.2.2.1.cell 4
  simp only [qG] at q0 q1 q2 q3 q4
  have f3 := B5.out.2.2.1.frozen 3
  have f4 := B5.out.2.2.1.frozen 4
  have ne4 : gf1 ≠ tb := qam FI5.out.1 B5.out.2.2.1 (by decide)
  have o3 : Off (fun k => k = tb) y5 (y5.setCell ⟨tb, 4, none⟩ (.slice (some ⟨gf1, 0, none⟩) (0 + 1) cap1)) := Off.put (F := fun k => k = tb) (p := ⟨tb, 4, none⟩) oRf (Or.inl (Eq.refl tb)) _
  have OF : Hid (Off Nob z0 (y5.setCell ⟨tb, 4, none⟩ (.slice (some ⟨gf1, 0, none⟩) (0 + 1) cap1))) := hID (B5.out.1.put (p := ⟨tb, 4, none⟩) (.inr TGE.out) _)
  have B6 := hID (B5.out.put4 (.slice (some ⟨gf1, 0, none⟩) (0 + 1) cap1))
  have RR6 := hID (RR5.out.to (o3.block _ RR5.out.lt (fun h => by have h2 : w.heap.size = tb := h; have := RLT.out; have := TGE.out; have := GT0.out;  omega)))
  have LV6 := hID (LV5.out.keep o3 (fun k hk h => by have h2 : k = tb := h; have hk2 : k < z0.heap.size := hk; have := TGE.out; have := GT0.out;  omega))
  have LS6 := hID (LS5.out.keep o3 (fun k hk h => by have h2 : k = tb := h; have hk2 : k < z0.heap.size := hk; have := TGE.out; have := GT0.out;  omega))
  have UA6 := hID (UA5.out.keep o3 (fun k hk h => by have h2 : k = tb := h; have hk2 : k < z0.heap.size := hk; have := TGE.out; have := GT0.out;  omega))
  have MA6 := hID (MA5.out.keep o3 (fun k hk h => by have h2 : k = tb := h; have hk2 : k < z0.heap.size := hk; have := TGE.out; have := GT0.out;  omega))
  have UB6 := hID (UB5.out.keep o3 (fun k hk h => by have h2 : k = tb := h; have hk2 : k < z0.heap.size := hk; have := TGE.out; have := GT0.out;  omega))
  have MB6 := hID (MB5.out.keep o3 (fun k hk h => by have h2 : k = tb := h; have hk2 : k < z0.heap.size := hk; have := TGE.out; have := GT0.out;  omega))
  have ST6 := hID (ST5.out.keep o3 (fun k hk h => by have h2 : k = tb := h; have hk2 : N1 ≤ k ∧ k < N2 := hk; have := NN.out;  omega))
  have FI6 := (hID ⟨qb3 FI5.out.1 ne4 4 [_], OF.out⟩ : Hid (OwnL z0 (y5.setCell ⟨tb, 4, none⟩ (.slice (some ⟨gf1, 0, none⟩) (0 + 1) cap1)) 71 1 (.slice (some ⟨gf1, 0, none⟩) (0 + 1) cap1) (0 + 1) ([] ++ [.int .u64 2])))
  clear B5 RR5 LV5 LS5 UA5 MA5 UB5 MB5 ST5 FI5
  have SZ6 : Hid (N2 ≤ (y5.setCell ⟨tb, 4, none⟩ (.slice (some ⟨gf1, 0, none⟩) (0 + 1) cap1)).heap.size) := hID (by have := SZ5.out; simp; omega)
  have GFLX : Hid (gf1 < (y5.setCell ⟨tb, 4, none⟩ (.slice (some ⟨gf1, 0, none⟩) (0 + 1) cap1)).heap.size) := hID (by have := GFL.out; simp; omega)
  clear o3 OF ne4 SZ5 GFL
  go_wp2_with fail
  revert B6 RR6 LV6 LS6 UA6 MA6 UB6 MB6 ST6 FI6 SZ6 GFLX
  generalize (y5.setCell ⟨tb, 4, none⟩ (.slice (some ⟨gf1, 0, none⟩) (0 + 1) cap1)) = y6
  intro B6 RR6 LV6 LS6 UA6 MA6 UB6 MB6 ST6 FI6 SZ6 GFLX
  have GFL := GFLX
  clear GFLX
  clear q0 q1 q2 q3 q4 f3 f4
  rw [rounds_succ]
  have p0 := B6.out.2.1.cell 0
  have p1 := B6.out.2.1.cell 1
  simp only [qG] at p0 p1
  go_wp2_with fail
  refine (qt5 _ _ LV6.out.any).mono ?_
  rintro e y7 ⟨u, rfl, hr, o1⟩
  obtain ⟨bu, ou, cu, rfl, hcu⟩ := hr.cellsT (by decide)
  have HCU := hID hcu
  clear hr hcu p0 p1
  have SZ7 : Hid (N2 ≤ y7.heap.size) := hID (Nat.le_trans SZ6.out o1.size)
  have GFL7 : Hid (gf1 < y7.heap.size) := hID (Nat.lt_of_lt_of_le GFL.out o1.size)
  have B7 := hID (B6.out.off o1)
  have RR7 := hID (RR6.out.to (o1.block _ RR6.out.lt (fun h => h)))
  have LV7 := hID (LV6.out.keep o1 (fun _ _ h => h))
  have LS7 := hID (LS6.out.keep o1 (fun _ _ h => h))
  have UA7 := hID (UA6.out.keep o1 (fun _ _ h => h))
  have MA7 := hID (MA6.out.keep o1 (fun _ _ h => h))
  have UB7 := hID (UB6.out.keep o1 (fun _ _ h => h))
  have MB7 := hID (MB6.out.keep o1 (fun _ _ h => h))
  have ST7 := hID (ST6.out.keep o1 (fun _ _ h => h))
  have FI7 := hID (FI6.out.off o1)
  clear B6 RR6 LV6 LS6 UA6 MA6 UB6 MB6 ST6 FI6
  clear o1 SZ6
  have q0 := B7.out.2.2.1.cell 0
  have q1 := B7.out.2.2.1.cell 1
  have q2 := B7.out.2.2.1.cell 2
  have q3 := B7.out.2.2.1.cell 3
  have q4 := B7.out.2.2.1.cell 4
  simp only [qG] at q0 q1 q2 q3 q4
  have f3 := B7.out.2.2.1.frozen 3
  have f4 := B7.out.2.2.1.frozen 4
  go_wp2_with (at_builtin; refine @wpList_append_lies _ _ _ _ _ _ _ rfl _ _ 23 rfl z0.heap.size 71 i_u64 (.int .u64 0) 1 8 Tryz.underlying23 h_u64 z_u64 s_u64 b_u64 rfl (by decide) (.slice (some ⟨gf1, 0, none⟩) (0 + 1) cap1) (0 + 1) ([] ++ [.int .u64 2]) rfl FI7.out.1 ⟨bu, ou, none⟩ 1 cu [.int .u64 4] rfl rfl ?c1 (by decide) (by decide) (by decide) (by decide) B7.out.1.size _ rfl ?_)
  case c1 => intro j u hj; rw [qaj]; exact HCU.out _ oRf j u hj
  intro gf2 cap2 y8 oW gW hat hlt
  have oo : Off (fun k => k = gf1) y7 y8 := Off.grown oRf gW (fun k hk => .inl (by injection hk with hk; exact hk.symm))
  have GF2 : Hid (gt ≠ gf2) := hID (by
   rcases hat with h | h
   ·have h2 : gf1 = gf2 := by injection h
    have := GF1.out; have := NN.out; omega
   ·have := SZ7.out; have := NN.out; rw [h]; omega)
  have SZ8 : Hid (N2 ≤ y8.heap.size) := hID (Nat.le_trans SZ7.out oo.size)
  have B8 := hID (B7.out.other oo (by have := GF1.out; have := NN.out; have := TGE.out; omega) (by have := GF1.out; have := NN.out; omega) (by have := GF1.out; have := NN.out; omega) (by have := GF1.out; have := NN.out; omega) (by have := GF1.out; have := NN.out; omega))
  have RR8 := hID (RR7.out.to (oo.block _ RR7.out.lt (fun h => by have h2 : w.heap.size = gf1 := h; have := RLT.out; have := TGE.out; have := GT0.out; have := GF1.out; have := NN.out; omega)))
  have LV8 := hID (LV7.out.keep oo (fun k hk h => by have h2 : k = gf1 := h; have hk2 : k < z0.heap.size := hk; have := TGE.out; have := GT0.out; have := GF1.out; have := NN.out; omega))
  have LS8 := hID (LS7.out.keep oo (fun k hk h => by have h2 : k = gf1 := h; have hk2 : k < z0.heap.size := hk; have := TGE.out; have := GT0.out; have := GF1.out; have := NN.out; omega))
  have UA8 := hID (UA7.out.keep oo (fun k hk h => by have h2 : k = gf1 := h; have hk2 : k < z0.heap.size := hk; have := TGE.out; have := GT0.out; have := GF1.out; have := NN.out; omega))
  have MA8 := hID (MA7.out.keep oo (fun k hk h => by have h2 : k = gf1 := h; have hk2 : k < z0.heap.size := hk; have := TGE.out; have := GT0.out; have := GF1.out; have := NN.out; omega))
  have UB8 := hID (UB7.out.keep oo (fun k hk h => by have h2 : k = gf1 := h; have hk2 : k < z0.heap.size := hk; have := TGE.out; have := GT0.out; have := GF1.out; have := NN.out; omega))
  have MB8 := hID (MB7.out.keep oo (fun k hk h => by have h2 : k = gf1 := h; have hk2 : k < z0.heap.size := hk; have := TGE.out; have := GT0.out; have := GF1.out; have := NN.out; omega))
  have ST8 := hID (ST7.out.keep oo (fun k hk h => by have h2 : k = gf1 := h; have hk2 : N1 ≤ k ∧ k < N2 := hk; have := NN.out; have := GF1.out; have := NN.out; omega))
  have FI8 := hID (FI7.out.grown oRf oW gW)
  clear B7 RR7 LV7 LS7 UA7 MA7 UB7 MB7 ST7 FI7
  clear oo oW gW hat hlt SZ7 HCU GFL7 q0 q1 q2 q3 q4 f3 f4
  have q0 := B8.out.2.2.1.cell 0
  have q1 := B8.out.2.2.1.cell 1
  have q2 := B8.out.2.2.1.cell 2
  have q3 := B8.out.2.2.1.cell 3
  have q4 := B8.out.2.2.1.cell 4
  simp only [qG] at q0 q1 q2 q3 q4
  have f3 := B8.out.2.2.1.frozen 3
  have f4 := B8.out.2.2.1.frozen 4
  have ne4 : gf2 ≠ tb := qam FI8.out.1 B8.out.2.2.1 (by decide)
  have o3 : Off (fun k => k = tb) y8 (y8.setCell ⟨tb, 4, none⟩ (.slice (some ⟨gf2, 0, none⟩) ((0 + 1) + 1) cap2)) := Off.put (F := fun k => k = tb) (p := ⟨tb, 4, none⟩) oRf (Or.inl (Eq.refl tb)) _
  have OF : Hid (Off Nob z0 (y8.setCell ⟨tb, 4, none⟩ (.slice (some ⟨gf2, 0, none⟩) ((0 + 1) + 1) cap2))) := hID (B8.out.1.put (p := ⟨tb, 4, none⟩) (.inr TGE.out) _)
  have B9 := hID (B8.out.put4 (.slice (some ⟨gf2, 0, none⟩) ((0 + 1) + 1) cap2))
  have RR9 := hID (RR8.out.to (o3.block _ RR8.out.lt (fun h => by have h2 : w.heap.size = tb := h; have := RLT.out; have := TGE.out; have := GT0.out;  omega)))
  have LV9 := hID (LV8.out.keep o3 (fun k hk h => by have h2 : k = tb := h; have hk2 : k < z0.heap.size := hk; have := TGE.out; have := GT0.out;  omega))
  have LS9 := hID (LS8.out.keep o3 (fun k hk h => by have h2 : k = tb := h; have hk2 : k < z0.heap.size := hk; have := TGE.out; have := GT0.out;  omega))
  have UA9 := hID (UA8.out.keep o3 (fun k hk h => by have h2 : k = tb := h; have hk2 : k < z0.heap.size := hk; have := TGE.out; have := GT0.out;  omega))
  have MA9 := hID (MA8.out.keep o3 (fun k hk h => by have h2 : k = tb := h; have hk2 : k < z0.heap.size := hk; have := TGE.out; have := GT0.out;  omega))
  have UB9 := hID (UB8.out.keep o3 (fun k hk h => by have h2 : k = tb := h; have hk2 : k < z0.heap.size := hk; have := TGE.out; have := GT0.out;  omega))
  have MB9 := hID (MB8.out.keep o3 (fun k hk h => by have h2 : k = tb := h; have hk2 : k < z0.heap.size := hk; have := TGE.out; have := GT0.out;  omega))
  have ST9 := hID (ST8.out.keep o3 (fun k hk h => by have h2 : k = tb := h; have hk2 : N1 ≤ k ∧ k < N2 := hk; have := NN.out;  omega))
  have FI9 := (hID ⟨qb3 FI8.out.1 ne4 4 [_], OF.out⟩ : Hid (OwnL z0 (y8.setCell ⟨tb, 4, none⟩ (.slice (some ⟨gf2, 0, none⟩) ((0 + 1) + 1) cap2)) 71 1 (.slice (some ⟨gf2, 0, none⟩) ((0 + 1) + 1) cap2) ((0 + 1) + 1) (([] ++ [.int .u64 2]) ++ [.int .u64 4])))
  clear B8 RR8 LV8 LS8 UA8 MA8 UB8 MB8 ST8 FI8
  have SZ9 : Hid (N2 ≤ (y8.setCell ⟨tb, 4, none⟩ (.slice (some ⟨gf2, 0, none⟩) ((0 + 1) + 1) cap2)).heap.size) := hID (by have := SZ8.out; simp; omega)
  clear o3 OF ne4 SZ8
  go_wp2_with fail
  revert B9 RR9 LV9 LS9 UA9 MA9 UB9 MB9 ST9 FI9 SZ9
  generalize (y8.setCell ⟨tb, 4, none⟩ (.slice (some ⟨gf2, 0, none⟩) ((0 + 1) + 1) cap2)) = y9
  intro B9 RR9 LV9 LS9 UA9 MA9 UB9 MB9 ST9 FI9 SZ9
  clear q0 q1 q2 q3 q4 f3 f4
  rw [rounds_succ]
  go_wp2_with fail
  have J0 : Hid (BuildI z0 pb (.slice ALV 2 clv) (.slice As 1 cs) (.slice (some ⟨gf2, 0, none⟩) (0 + 1 + 1) cap2) (tabV 0) tb gi ci gt y9 ∧ Blk y9 w.heap.size 25 #[.slice none 0 0, .int .i64 0, .slice none 0 0, .slice none 0 0, .slice none 0 0] ∧ (Rd y9 (fun k => k < z0.heap.size) 3 (.slice ALV 2 clv) 2 ln_ab) ∧ (Rd y9 (fun k => k < z0.heap.size) 1 (.slice (some ⟨g7, 0, none⟩) (0 + 1 + 1) cap7) 2 [.slice AU1 1 cu1, .slice AU2 1 cu2]) ∧ (Rd y9 (fun k => k < z0.heap.size) 1 (.slice AU1 1 cu1) 1 [.slice A1 2 k1]) ∧ (Rd y9 (fun k => k < z0.heap.size) 4 (.slice A1 2 k1) 2 se_a) ∧ (Rd y9 (fun k => k < z0.heap.size) 1 (.slice AU2 1 cu2) 1 [.slice A2 1 k2]) ∧ (Rd y9 (fun k => k < z0.heap.size) 4 (.slice A2 1 k2) 1 se_b) ∧ Rd y9 (fun k => N1 ≤ k ∧ k < N2) 1 (.slice As 1 cs) 1 [.int .u64 5] ∧ OwnL z0 y9 71 1 (.slice (some ⟨gf2, 0, none⟩) (0 + 1 + 1) cap2) (0 + 1 + 1) (([] ++ [.int .u64 2]) ++ [.int .u64 4])) := hID ⟨B9.out, RR9.out, LV9.out, LS9.out, UA9.out, MA9.out, UB9.out, MB9.out, ST9.out, FI9.out⟩
  clear B9 RR9 LV9 LS9 UA9 MA9 UB9 MB9 ST9 FI9
  go_loopw [20] (fun iv wr => ∃ k : Nat, k ≤ 256 ∧ iv = .int .i64 (k : Int) ∧ BuildI z0 pb (.slice ALV 2 clv) (.slice As 1 cs) (.slice (some ⟨gf2, 0, none⟩) (0 + 1 + 1) cap2) (tabV k) tb gi ci gt wr ∧ Blk wr w.heap.size 25 #[.slice none 0 0, .int .i64 0, .slice none 0 0, .slice none 0 0, .slice none 0 0] ∧ (Rd wr (fun k => k < z0.heap.size) 3 (.slice ALV 2 clv) 2 ln_ab) ∧ (Rd wr (fun k => k < z0.heap.size) 1 (.slice (some ⟨g7, 0, none⟩) (0 + 1 + 1) cap7) 2 [.slice AU1 1 cu1, .slice AU2 1 cu2]) ∧ (Rd wr (fun k => k < z0.heap.size) 1 (.slice AU1 1 cu1) 1 [.slice A1 2 k1]) ∧ (Rd wr (fun k => k < z0.heap.size) 4 (.slice A1 2 k1) 2 se_a) ∧ (Rd wr (fun k => k < z0.heap.size) 1 (.slice AU2 1 cu2) 1 [.slice A2 1 k2]) ∧ (Rd wr (fun k => k < z0.heap.size) 4 (.slice A2 1 k2) 1 se_b) ∧ Rd wr (fun k => N1 ≤ k ∧ k < N2) 1 (.slice As 1 cs) 1 [.int .u64 5] ∧ OwnL z0 wr 71 1 (.slice (some ⟨gf2, 0, none⟩) (0 + 1 + 1) cap2) (0 + 1 + 1) (([] ++ [.int .u64 2]) ++ [.int .u64 4])) (fun iv _ => 256 - (intOf iv).toNat)
  case atStart => exact ⟨0, Nat.zero_le _, rfl, J0.out⟩
  case round =>
   obtain ⟨k, hk, rfl, hrel⟩ := hrel
   obtain ⟨hb, hr0, hlv, hls, hua, hma, hub, hmb, hst, hfi⟩ := hrel
   have B1 := hID hb
   have RR1 := hID hr0
   have LV1 := hID hlv
   have LS1 := hID hls
   have UA1 := hID hua
   have MA1 := hID hma
   have UB1 := hID hub
   have MB1 := hID hmb
   have ST1 := hID hst
   have FI1 := hID hfi
   clear hb hr0 hlv hls hua hma hub hmb hst hfi J0
   by_cases hlt : k < 256
   ·have p0 := B1.out.2.1.cell 0
    have p1 := B1.out.2.1.cell 1
    simp only [qG] at p0 p1
    go_wp2_with fail
    refine (qr0 _ _ _ _ _ _ _ LV1.out.any LS1.out.any UA1.out.any UB1.out.any MA1.out.any MB1.out.any k hlt).mono ?_
    rintro e y1 ⟨u, rfl, hr, o1⟩
    obtain ⟨bu, ou, cu, rfl, hcu⟩ := hr.cellsT (by decide)
    have HCU := hID hcu
    clear hr hcu p0 p1
    have B2 := hID (B1.out.off o1)
    have RR2 := hID (RR1.out.to (o1.block _ RR1.out.lt (fun h => h)))
    have LV2 := hID (LV1.out.keep o1 (fun _ _ h => h))
    have LS2 := hID (LS1.out.keep o1 (fun _ _ h => h))
    have UA2 := hID (UA1.out.keep o1 (fun _ _ h => h))
    have MA2 := hID (MA1.out.keep o1 (fun _ _ h => h))
    have UB2 := hID (UB1.out.keep o1 (fun _ _ h => h))
    have MB2 := hID (MB1.out.keep o1 (fun _ _ h => h))
    have ST2 := hID (ST1.out.keep o1 (fun _ _ h => h))
    have FI2 := hID (FI1.out.off o1)
    clear o1 B1 RR1 LV1 LS1 UA1 MA1 UB1 MB1 ST1 FI1
    have p0 := B2.out.2.1.cell 0
    have p1 := B2.out.2.1.cell 1
    simp only [qG] at p0 p1
    go_wp2_with fail
    refine wp_loop_rounds 2 ?_
    rw [rounds_succ]
    go_wp2_with fail
    have q2 := B2.out.2.2.1.cell 2
    simp only [qG] at q2
    have d0 := HCU.out _ oRf 0 _ rfl
    simp only [Nat.add_zero] at d0
    have hw0 : IntKind.i64.wrap 0 = 0 := rfl
    have hwk : IntKind.i64.wrap (k : Int) = (k : Int) := IntWalk.i64_in _ (by omega)
    have th : y1.there gt k 1 := fun j hj => by
     have : j = 0 := by omega
     subst this
     exact ⟨by rw [Nat.add_zero, B2.out.2.2.2.2.1.cellAt k (by omega), qid k k hlt]; rfl, B2.out.2.2.2.2.1.frozenAt _⟩
    refine wp_region_held_drew (S := fun W => W.cell? ⟨tb, 2, none⟩ = some (.slice (some ⟨gt, 0, none⟩) 256 256) ∧ W.there gt k 1) (by kernel_rfl) ⟨q2, th⟩ (fun hHeld => ?_)
    refine tkH 0 ?_
    refine tkH 1 ?_
    refine tkH 2 ?_
    refine tkH 3 ?_
    refine tkH 4 ?_
    refine tkH 5 ?_
    refine tkH 6 ?_
    refine tkH 7 ?_
    refine tkH 8 ?_
    refine wpAnyH_ready (rs := [9]) (by kernel_rfl) (by simp) ?_
    refine AllReadyH.cons rfl (fun K hK => ?s909) ?m909
    case s909 =>
     go_simp
     refine hK.out _ _ ?_ (fun hHeld => ?_)
     ·first | exact hHeld | go_keep
     clear hK K
     try simp only [Act.put, qL]
     refine tkH 10 ?_
     refine wpAnyH_ready (rs := [11]) (by kernel_rfl) (by simp) ?_
     refine AllReadyH.cons rfl (fun K hK => ?s911) ?m911
     case s911 =>
      obtain ⟨yy, hyy⟩ := Option.isSome_iff_exists.1 (hHeld.2 0 (by decide)).1
      have hff := (hHeld.2 0 (by decide)).2
      simp only [Nat.add_zero] at hyy hff
      go_simp
      refine hK.out _ _ ?_ (fun hHeld => ?_)
      ·first | exact ⟨(qom hHeld.1 (Ne.symm (B2.out.ne).2.1)), World.there_setCells hHeld.2 gt k [_]⟩ | go_keep
      clear hK K
      try simp only [Act.put, qL]
      refine wpAnyH_done (by kernel_rfl) ?_ _
      have B3' := hID ((B2.out.putT k (.int .u64 (rowB k))).off (Off.drew oRf))
      rw [qwc k hlt] at B3'
      have oG : Off (fun k => k = gt) y1 ((y1.setCell ⟨gt, k, none⟩ (.int .u64 (rowB k))).drew) := (Off.put (F := fun k => k = gt) (p := ⟨gt, k, none⟩) oRf (Or.inl (Eq.refl gt)) _).drew
      have gz := (B2.out.2.2.2.2.1.lt gt rfl).1
      have RR3 := hID (RR2.out.to (oG.block _ RR2.out.lt (fun h => by have h2 : w.heap.size = gt := h; have := RLT.out; omega)))
      have LV3 := hID (LV2.out.keep oG (fun k hk h => by have h2 : k = gt := h; have hk2 : k < z0.heap.size := hk; omega))
      have LS3 := hID (LS2.out.keep oG (fun k hk h => by have h2 : k = gt := h; have hk2 : k < z0.heap.size := hk; omega))
      have UA3 := hID (UA2.out.keep oG (fun k hk h => by have h2 : k = gt := h; have hk2 : k < z0.heap.size := hk; omega))
      have MA3 := hID (MA2.out.keep oG (fun k hk h => by have h2 : k = gt := h; have hk2 : k < z0.heap.size := hk; omega))
      have UB3 := hID (UB2.out.keep oG (fun k hk h => by have h2 : k = gt := h; have hk2 : k < z0.heap.size := hk; omega))
      have MB3 := hID (MB2.out.keep oG (fun k hk h => by have h2 : k = gt := h; have hk2 : k < z0.heap.size := hk; omega))
      have ST3 := hID (ST2.out.keep oG (fun k hk h => by have h2 : k = gt := h; have hk2 : N1 ≤ k ∧ k < N2 := hk; have := NN.out; omega))
      have FI3 : Hid (OwnL z0 ((y1.setCell ⟨gt, k, none⟩ (.int .u64 (rowB k))).drew) 71 1 (.slice (some ⟨gf2, 0, none⟩) (0 + 1 + 1) cap2) (0 + 1 + 1) (([] ++ [.int .u64 2]) ++ [.int .u64 4])) := hID ⟨qao (qb3 FI2.out.1 (Ne.symm GF2.out) k [_]) (fun _ _ => rfl), B3'.out.1⟩
      clear gz oG hHeld th q2 d0 p0 p1
      have p0 := B3'.out.2.1.cell 0
      have p1 := B3'.out.2.1.cell 1
      simp only [qG] at p0 p1
      go_wp2_with fail
      rw [rounds_succ]
      go_wp2_with fail
      go_roundw
      case rel => exact ⟨k + 1, by omega, by go_num, B3'.out, RR3.out, LV3.out, LS3.out, UA3.out, MA3.out, UB3.out, MB3.out, ST3.out, FI3.out⟩
      case measure => simp [intOf]; omega
     exact AllReadyH.nil
    exact AllReadyH.nil
   ·obtain rfl : k = 256 := by omega
    have q0 := B1.out.2.2.1.cell 0
    have q1 := B1.out.2.2.1.cell 1
    have q2 := B1.out.2.2.1.cell 2
    have q3 := B1.out.2.2.1.cell 3
    have q4 := B1.out.2.2.1.cell 4
    simp only [qG] at q0 q1 q2 q3 q4
    have r0 := RR1.out.cell 0
    have r1 := RR1.out.cell 1
    have r2 := RR1.out.cell 2
    have r3 := RR1.out.cell 3
    have r4 := RR1.out.cell 4
    simp only [qG] at r0 r1 r2 r3 r4
    have f0 := RR1.out.frozen 0
    have f1 := RR1.out.frozen 1
    have f2 := RR1.out.frozen 2
    have f3 := RR1.out.frozen 3
    have f4 := RR1.out.frozen 4
    have RB := hID (qgy RR1.out (.slice (some ⟨gi, 0, none⟩) (0 + 2) ci) (.int .i64 1) (.slice (some ⟨gt, 0, none⟩) 256 256) (.slice As 1 cs) (.slice (some ⟨gf2, 0, none⟩) (0 + 1 + 1) cap2))
    have RO := hID (qay (XX0.out.also B1.out.1) (Nat.le_refl _) 0 [.slice (some ⟨gi, 0, none⟩) (0 + 2) ci, .int .i64 1, .slice (some ⟨gt, 0, none⟩) 256 256, .slice As 1 cs, .slice (some ⟨gf2, 0, none⟩) (0 + 1 + 1) cap2])
    have oF : Off (fun k => k = w.heap.size) wr (wr.setCells w.heap.size 0 [.slice (some ⟨gi, 0, none⟩) (0 + 2) ci, .int .i64 1, .slice (some ⟨gt, 0, none⟩) 256 256, .slice As 1 cs, .slice (some ⟨gf2, 0, none⟩) (0 + 1 + 1) cap2]) := qpq wr w.heap.size 0 _
    have n1 : gi ≠ w.heap.size := by have := GI0.out; have := (B1.out.2.2.2.1.lt gi rfl).1; have := RLT.out; omega
    have n2 : gt ≠ w.heap.size := by have := (B1.out.2.2.2.2.1.lt gt rfl).1; have := RLT.out; omega
    have n3 : gf2 ≠ w.heap.size := by have := (FI1.out.1.lt gf2 rfl).1; have := RLT.out; omega
    have KKI := qb3 B1.out.2.2.2.1 n1 0 [.slice (some ⟨gi, 0, none⟩) (0 + 2) ci, .int .i64 1, .slice (some ⟨gt, 0, none⟩) 256 256, .slice As 1 cs, .slice (some ⟨gf2, 0, none⟩) (0 + 1 + 1) cap2]
    have KI : Hid (Rd (wr.setCells w.heap.size 0 [.slice (some ⟨gi, 0, none⟩) (0 + 2) ci, .int .i64 1, .slice (some ⟨gt, 0, none⟩) 256 256, .slice As 1 cs, .slice (some ⟨gf2, 0, none⟩) (0 + 1 + 1) cap2]) (fun k => w.heap.size ≤ k) 1 (.slice (some ⟨gi, 0, none⟩) (0 + 2) ci) (0 + 2) ([] ++ [.int .i64 5, .int .i64 9])) := hID (Rd.own KKI (fun k hk => Nat.le_trans XX0.out.size (KKI.lt k hk).1))
    clear KKI
    have KKT := qb3 B1.out.2.2.2.2.1 n2 0 [.slice (some ⟨gi, 0, none⟩) (0 + 2) ci, .int .i64 1, .slice (some ⟨gt, 0, none⟩) 256 256, .slice As 1 cs, .slice (some ⟨gf2, 0, none⟩) (0 + 1 + 1) cap2]
    have KT : Hid (Rd (wr.setCells w.heap.size 0 [.slice (some ⟨gi, 0, none⟩) (0 + 2) ci, .int .i64 1, .slice (some ⟨gt, 0, none⟩) 256 256, .slice As 1 cs, .slice (some ⟨gf2, 0, none⟩) (0 + 1 + 1) cap2]) (fun k => w.heap.size ≤ k) 1 (.slice (some ⟨gt, 0, none⟩) 256 256) 256 (tabV 256)) := hID (Rd.own KKT (fun k hk => Nat.le_trans XX0.out.size (KKT.lt k hk).1))
    have KTC := hID (qlj KKT)
    clear KKT
    have KKF := qb3 FI1.out.1 n3 0 [.slice (some ⟨gi, 0, none⟩) (0 + 2) ci, .int .i64 1, .slice (some ⟨gt, 0, none⟩) 256 256, .slice As 1 cs, .slice (some ⟨gf2, 0, none⟩) (0 + 1 + 1) cap2]
    have KF : Hid (Rd (wr.setCells w.heap.size 0 [.slice (some ⟨gi, 0, none⟩) (0 + 2) ci, .int .i64 1, .slice (some ⟨gt, 0, none⟩) 256 256, .slice As 1 cs, .slice (some ⟨gf2, 0, none⟩) (0 + 1 + 1) cap2]) (fun k => w.heap.size ≤ k) 1 (.slice (some ⟨gf2, 0, none⟩) (0 + 1 + 1) cap2) (0 + 1 + 1) (([] ++ [.int .u64 2]) ++ [.int .u64 4])) := hID (Rd.own KKF (fun k hk => Nat.le_trans XX0.out.size (KKF.lt k hk).1))
    have KFC := hID (qlj KKF)
    clear KKF
    have KS := hID (Rd.mono (G := fun k => w.heap.size ≤ k) (ST1.out.keep oF (fun k hk h => by have h2 : k = w.heap.size := h; have hk2 : N1 ≤ k ∧ k < N2 := hk; have := NN.out; have := TGE.out; have := RLT.out; omega)) (fun k hk => by have hk2 : N1 ≤ k ∧ k < N2 := hk; have := NN.out; have := TGE.out; have := RLT.out; omega))
    clear oF n1 n2 n3 B1 ST1 FI1 LV1 LS1 UA1 MA1 UB1 MB1
    go_wp2_with fail
    exact bodyPost_ret (qa1 rfl _ _ _ _ _ (0, 0) _ rfl RB.out Tryz.underlying25 rfl Tryz.infoTs) rfl ⟨_, _, _, _, rfl, KI.out, KT.out, KS.out, KF.out, KTC.out, KFC.out, RO.out⟩
end Go.Proofs.YtlgjaefcfnndhaaGreatDoor
