/-
 dragnetref18.Build at the example.
-/
import Derived.Test.YtlgjaefcfnndhaaGreatDoorP24
import Derived.Test.YtlgjaefcfnndhaaGreatDoorP9
import Derived.Deep.DeepCutAuto
import Derived.Test.YtlgjaefcfnndhaaGreatDoorP25
import Derived.Test.YtlgjaefcfnndhaaGreatDoorP26
import Derived.Test.YtlgjaefcfnndhaaGreatDoorP16
import Derived.WalkMore
import Derived.Laws.Bits64b
import Derived.Test.YtlgjaefcfnndhaaGreatDoorP17
import Derived.Deep.RegionHeld3
set_option linter.unusedVariables false
set_option linter.unusedSimpArgs false
set_option maxHeartbeats 16000000
set_option maxRecDepth 100000
namespace Go.Proofs.YtlgjaefcfnndhaaGreatDoor
section
open Go.RowKit
theorem Tryz.infoTs : (Tryz.prog.info? 25).map (·.size) = some 5 := by kernel_rfl
def rowB (b : Nat) : Int := if b = 97 then 5 else if b = 98 then 6 else 0
def tabV (k : Nat) : List Value := (List.range 256).map fun j => .int .u64 (if j < k then rowB j else 0)
theorem qbw {P : Program} (w : World) {o : Oper} {a : Act} {K : Act → World → Prop} {Q : Exit → Act → World → Prop} (l c : Operand) (t : TypeId) (hop : o.op = Op.makeSlice t l c)
  (base : Nat) (e : TypeId) (i : TypeInfo) (z : Value) (size : Nat) (h1 : P.underlying t = some (.slice e)) (h2 : P.info? e = some i) (h3 : i.zero = some z) (h4 : i.size = size)
  (kl kc : IntKind) (L C : Int) (n : Nat) (hl : a.eval l = .int kl L) (hc : a.eval c = .int kc C) (hL : L = (n : Int)) (hC : C = (n : Int)) (b2 : i.bytes * n ≤ 281474976710656) (b3 : n ≤ maxLen) (b4 : base ≤ w.heap.size)
  (hK : ∀ w', w'.ownsRow base e size (.slice (some ⟨w.heap.size, 0, none⟩) n n) n (madeCells z.cells (n * size)).toList → w.grownBy w' none → K (a.put o.dst (.slice (some ⟨w.heap.size, 0, none⟩) n n)) w') :
  Oper.wp P o a w K Q := by
 obtain ⟨w', hrun, r1, r2⟩ := run_make_full (P := P) w base t e i z size h1 h2 h3 h4 kl kc n b2 b3 b4
 subst hL
 subst hC
 unfold Oper.wp
 simp [execOp, hop, hl, hc, hrun, Result.andThen]
 exact hK w' r1 r2
theorem qeo {w : World} {base base2 : Nat} {e t : TypeId} {size size2 n m g c g2 c2 : Nat} {xs ys : List Value} (h : w.ownsRow base e size (.slice (some ⟨g, 0, none⟩) n c) n xs) (h2 : w.ownsRow base2 t size2 (.slice (some ⟨g2, 0, none⟩) m c2) m ys) (ne : t ≠ e) : g ≠ g2 := by
 rcases h2.2 with ⟨hx, _⟩ | ⟨g', cap, cur, hv, _, hh, _⟩
 ·cases hx
 ·injection hv with hv1
  injection hv1 with hv1
  injection hv1 with hv1
  subst hv1
  exact qda h (show Blk w g2 t cur from hh) ne
theorem qva {w : World} {a b : Nat} {t u : TypeId} {cs ds : Array Value} (h : Blk w a t cs) (k : Blk w b u ds) (ne : t ≠ u) : a ≠ b := by
 rintro rfl
 unfold Blk at h k
 rw [h] at k
 injection k with k
 injection k with _ k
 exact ne k
theorem qep {W : World} {g : Nat} {t : TypeId} {a b c d e : Value} (h : Blk W g t #[a, b, c, d, e]) (x y z u v : Value) : Blk (W.setCells g 0 [x, y, z, u, v]) g t #[x, y, z, u, v] := by
 show Blk (((((W.setCell ⟨g, 0, none⟩ x).setCell ⟨g, 0 + 1, none⟩ y).setCell ⟨g, 0 + 1 + 1, none⟩ z).setCell ⟨g, 0 + 1 + 1 + 1, none⟩ u).setCell ⟨g, 0 + 1 + 1 + 1 + 1, none⟩ v) g t #[x, y, z, u, v]
 exact ((((h.put 0 x).put 1 y).put 2 z).put 3 u).put 4 v
theorem qs7 {W : World} {g : Nat} {t : TypeId} {a b c d e : Value} (h : Blk W g t #[a, b, c, d, e]) : W.there g 0 5 := fun j hj => by
 rw [Nat.zero_add]
 refine ⟨?_, h.frozen _⟩
 rw [h.cell]
 have : j = 0 ∨ j = 1 ∨ j = 2 ∨ j = 3 ∨ j = 4 := by omega
 rcases this with rfl | rfl | rfl | rfl | rfl <;> rfl
theorem qcp {W : World} {base g n c k size : Nat} {e : TypeId} {xs : List Value} (h : W.ownsRow base e size (.slice (some ⟨g, 0, none⟩) n c) n xs) (ne : g ≠ k) (o : Nat) (vs : List Value) : (W.setCells k o vs).ownsRow base e size (.slice (some ⟨g, 0, none⟩) n c) n xs := by
 induction vs generalizing W o with
 | nil => exact h
 | cons v vs ih =>
  refine ih (qas h (fun x hx => ?_)) (o + 1)
  have e : g = x := by simpa [Value.ownBlock] using hx
  subst e
  rw [Below.heap_setCell _ ⟨k, o, none⟩ _ _ ne]
theorem qqw (W : World) (g : Nat) (o : Nat) (vs : List Value) : Off (fun k => k = g) W (W.setCells g o vs) := by
 have : ∀ (vs : List Value) (W' : World) (o : Nat), Off (fun k => k = g) W W' → Off (fun k => k = g) W (W'.setCells g o vs) := by
  intro vs
  induction vs with
  | nil => exact fun W' o h => h
  | cons v vs ih => exact fun W' o h => ih _ _ (h.put (p := ⟨g, o, none⟩) (.inl rfl) v)
 exact this vs W o oRf
theorem qp0 {W : World} {b i g k : Nat} {v x : Value} (h : W.cell? ⟨b, i, none⟩ = some v) (ne : b ≠ g) : (W.setCell ⟨g, k, none⟩ x).cell? ⟨b, i, none⟩ = some v := by
 have := World.rangeAt_setCells_apart (w := W) (b' := b) (o' := i) (cs := [v]) (fun j u hu => by
  match j, hu with
  | 0, hu => simp at hu; subst hu; exact h) g k [x] (.inl ne)
 exact this 0 v rfl
theorem Rd.below {w : World} {F : Nat → Prop} {size n : Nat} {v : Value} {xs : List Value} (h : Rd w F size v n xs) : Rd w (fun k => k < w.heap.size) size v n xs := by
 obtain ⟨A, c, rfl, hm, hl, hc⟩ := h
 refine ⟨A, c, rfl, hm, hl, fun hn => ?_⟩
 obtain ⟨b, o, rfl, _, hb, hx⟩ := hc hn
 exact ⟨b, o, rfl, hb, hb, hx⟩
theorem Rd.below2 {w : World} {F : Nat → Prop} {size n : Nat} {v : Value} {xs : List Value} (h : Rd w F size v n xs) : Rd w (fun k => F k ∧ k < w.heap.size) size v n xs := by
 obtain ⟨A, c, rfl, hm, hl, hc⟩ := h
 refine ⟨A, c, rfl, hm, hl, fun hn => ?_⟩
 obtain ⟨b, o, rfl, hf, hb, hx⟩ := hc hn
 exact ⟨b, o, rfl, ⟨hf, hb⟩, hb, hx⟩
def q1p (w : World) (e : Ending) (w' : World) : Prop :=
 ∃ ids tab st fi, e = .returned (.tuple #[.agg #[ids, .int .i64 1, tab, st, fi], .int .i64 0, .int .i64 0]) ∧ Rd w' (fun k => w.heap.size ≤ k) 1 ids 2 [.int .i64 5, .int .i64 9] ∧ Rd w' (fun k => w.heap.size ≤ k) 1 tab 256 (tabV 256) ∧ Rd w' (fun k => w.heap.size ≤ k) 1 st 1 [.int .u64 5] ∧ Rd w' (fun k => w.heap.size ≤ k) 1 fi 2 [.int .u64 2, .int .u64 4] ∧ CapOk tab ∧ CapOk fi ∧ Off Nob w w'
end
section
open Go.RowKit
theorem qi0 {w : World} {v : Value} {L : List Nat} (hv : Rd w (fun _ => True) 1 v L.length (qab L)) : ∃ A c, v = .slice A L.length c ∧ ∀ W', Off Nob w W' → ∀ k, k < L.length → ∃ b o, A = some ⟨b, o, none⟩ ∧ W'.cell? ⟨b, o + k, none⟩ = some (.int .u64 ((L.getD k 0 : Nat) : Int)) := by
 obtain ⟨A, c, rfl, _, hcell⟩ := hv.form
 refine ⟨A, c, rfl, fun W' ho k hk => ?_⟩
 obtain ⟨b, o, rfl, hlt, hc⟩ := hcell (by omega)
 exact ⟨b, o, rfl, by rw [ho.cell_old hlt]; exact hc k _ (qdq hk)⟩
theorem qu8 {A B : List Nat} {k : Nat} (h : A.take k = B.take k) (ha : k < A.length) (hb : k < B.length) (hx : A.getD k 0 = B.getD k 0) : A.take (k + 1) = B.take (k + 1) := by
 rw [List.take_succ_eq_append_getElem ha, List.take_succ_eq_append_getElem hb, h]
 simp only [gDe, gEe ha, gEe hb, Option.getD_some] at hx
 rw [hx]
theorem q1o (X Y : List Nat) (hX : X.length ≤ 4096) (hY : Y.length ≤ 4096) (w : World) (u v : Value) (hu : Rd w (fun _ => True) 1 u X.length (qab X)) (hv : Rd w (fun _ => True) 1 v Y.length (qab Y)) :
  Calls Tryz.prog 37 #[u, v] w (RetV w (.bool (decide (X = Y)))) := by
 obtain ⟨A, ca, rfl, hca⟩ := qi0 hu
 obtain ⟨B, cb, rfl, hcb⟩ := qi0 hv
 have HCA := hID hca
 have HCB := hID hcb
 obtain ⟨res, hres⟩ : ∃ res, decide (X = Y) = res := ⟨_, rfl⟩
 have HR := hID hres
 rw [hres]
 obtain ⟨n, hn⟩ : ∃ n, X.length = n := ⟨_, rfl⟩
 obtain ⟨m, hm⟩ : ∃ m, Y.length = m := ⟨_, rfl⟩
 have HN := hID hn
 have HM := hID hm
 rw [hn] at HCA hX ⊢
 rw [hm] at HCB hY ⊢
 clear hca hcb hu hv hres hn hm
 go_enter Tryz.func37, Tryz.ntmps37
 go_wp2
 go_loopw [5] (fun i wr => ∃ k : Nat, k ≤ n ∧ k ≤ m ∧ i = .int .i64 k ∧ Off Nob w wr ∧ X.take k = Y.take k) (fun i _ => n - (intOf i).toNat)
 case atStart => exact ⟨0, Nat.zero_le _, Nat.zero_le _, rfl, Off.refl _ _, rfl⟩
 case round =>
  obtain ⟨k, hk1, hk2, rfl, ho, htk⟩ := hrel
  have HO := hID ho
  have HT := hID htk
  clear ho htk
  by_cases h1 : k < n
  ·have d1 : decide ((k : Int) < (n : Int)) = true := dcT
   by_cases h2 : k < m
   ·have d2 : decide ((k : Int) < (m : Int)) = true := dcT
    obtain ⟨b, o, rfl, c1⟩ := HCA.out wr HO.out k h1
    obtain ⟨b2, o2, rfl, c2⟩ := HCB.out wr HO.out k h2
    have HK := hID (fun h => qu8 (k := k) HT.out (by rw [HN.out]; exact h1) (by rw [HM.out]; exact h2) h)
    have HZ := hID (fun (h : X.getD k 0 ≠ Y.getD k 0) => show res = false by rw [← HR.out]; exact dF (fun e => h (by rw [e])))
    obtain ⟨x, hx⟩ : ∃ x, X.getD k 0 = x := ⟨_, rfl⟩
    obtain ⟨y, hy⟩ : ∃ y, Y.getD k 0 = y := ⟨_, rfl⟩
    rw [hx] at c1 HK HZ
    rw [hy] at c2 HK HZ
    clear hx hy
    by_cases hxy : x = y
    ·have d3 : ((x : Int) != (y : Int)) = false := by rw [hxy]; simp
     have HQ := hID (HK.out hxy)
     clear hxy
     go_wp2_with fail
     go_quiet (fail)
     go_wp2_with fail
     go_roundw
     case rel => exact ⟨k + 1, by omega, by omega, by go_num, HO.out.drewN _, HQ.out⟩
     case measure => simp [intOf]; omega
    ·have d3 : ((x : Int) != (y : Int)) = true := by rw [bne_iff_ne]; omega
     have HQ := hID (HZ.out hxy)
     clear hxy
     go_wp2_with fail
     go_quiet (fail)
     go_wp2_with fail
     go_ret
     exact ⟨by rw [HQ.out]; rfl, HO.out.drewN _⟩
   ·have d2 : decide ((k : Int) < (m : Int)) = false := dcF
    have d3 : ((n : Int) == (m : Int)) = false := by rw [beq_eq_false_iff_ne]; omega
    have HF : Hid (res = false) := hID (by rw [← HR.out]; exact dF (fun e => by have h3 := congrArg List.length e; rw [HN.out, HM.out] at h3; omega))
    go_wp2_with fail
    go_ret
    exact ⟨by rw [HF.out]; rfl, HO.out⟩
  ·have d1 : decide ((k : Int) < (n : Int)) = false := dcF
   by_cases h3 : n = m
   ·have d3 : ((n : Int) == (m : Int)) = true := by rw [beq_iff_eq]; omega
    have HF : Hid (res = true) := hID (by
     rw [← HR.out]
     refine dT ?_
     have h4 := HT.out
     rwa [List.take_of_length_le (by rw [HN.out]; omega), List.take_of_length_le (by rw [HM.out]; omega)] at h4)
    clear h3
    go_wp2_with fail
    go_ret
    exact ⟨by rw [HF.out]; rfl, HO.out⟩
   ·have d3 : ((n : Int) == (m : Int)) = false := by rw [beq_eq_false_iff_ne]; omega
    have HF : Hid (res = false) := hID (by rw [← HR.out]; exact dF (fun e => by have h4 := congrArg List.length e; rw [HN.out, HM.out] at h4; omega))
    clear h3
    go_wp2_with fail
    go_ret
    exact ⟨by rw [HF.out]; rfl, HO.out⟩
end
section
open Go.RowKit Go.Maps
theorem Tryz.infoPl : (Tryz.prog.info? 62).map (·.size) = some 2 := by kernel_rfl
theorem qbq {w W : World} (h : TzT w) (o : Off Nob w W) : TzT W := ⟨fun j hj => (o.cell_old h.2 _).trans (h.1 j hj), Nat.lt_of_lt_of_le h.2 o.size⟩
end
section
open Go.RowKit
theorem qvb {w W : World} {base n size : Nat} {t : TypeId} {v : Value} {L : List Value} (h : w.ownsRow base t size v n L) (o : Off Nob w W) : W.ownsRow base t size v n L := qas h (fun g hg => o.block g (h.lt g hg).2 (fun h => h))
theorem qs8 {F : List Nat} {W n i : Nat} (hF : F.length = n * W) (hi : i ≤ n) : topOf (prs F W i) ≤ 64 * W := qe3 (fun x hx => by
 obtain ⟨h1, h2⟩ := qcn (p := x.1) (s := x.2).1 hx
 have := (qal.1 h2).1
 rwa [qc6 hF (by omega)] at this)
theorem qlm {L : List Nat} {q : Nat} (h : q < L.length) : L.getD q 0 ∈ L := by
 rw [gDe, gEe h]
 exact List.getElem_mem h
structure Qst (w1 : World) (pb W : Nat) (v : Value) (acc : List Ln) (wr : World) : Prop where
 off : Off Nob w1 wr
 blk : Blk wr pb 62 #[.int .i64 W, v]
 own : wr.ownsRow (pb + 1) 43 3 v acc.length (lnV acc)
 lo : w1.heap.size ≤ pb
section
variable {w1 wr W' : World} {pb W : Nat} {v : Value} {acc : List Ln}
theorem Qst.form (h : Qst w1 pb W v acc wr) : ∃ A c, v = .slice A acc.length c := by
 rcases h.own.2 with ⟨rfl, h0⟩ | ⟨g, cap, cur, rfl, _⟩
 ·exact ⟨none, 0, by rw [h0]⟩
 ·exact ⟨_, cap, rfl⟩
theorem Qst.go (h : Qst w1 pb W v acc wr) (o : Off Nob wr W') : Qst w1 pb W v acc W' :=
 ⟨h.off.also o, h.blk.to (o.block _ h.blk.lt id), qvb h.own o, h.lo⟩
theorem Qst.gone (h : Qst w1 pb W v acc wr) (hg : wr.grownBy W' v.ownBlock) : Off Nob w1 W' ∧ Blk W' pb 62 #[.int .i64 W, v] := by
 have o : Off (fun k => v.ownBlock = some k) wr W' := Off.grown oRf hg (fun k hk => .inl hk)
 refine ⟨h.off.trans (o.mono fun k hk e => .inr ⟨?_, hk⟩), h.blk.to (o.block _ h.blk.lt (fun e => ?_))⟩
 ·have := (h.own.lt k e).1
  have := h.lo
  omega
 ·have := (h.own.lt _ e).1
  omega
theorem Qst.grow {v' : Value} {acc' : List Ln} (h : Qst w1 pb W v acc wr) (hg : wr.grownBy W' v.ownBlock) (hl : W'.ownsRow (pb + 1) 43 3 v' acc'.length (lnV acc')) : Qst w1 pb W v' acc' (W'.setCell ⟨pb, 1, none⟩ v') := by
 obtain ⟨o1, b1⟩ := h.gone hg
 have o2 := qcu W' ⟨pb, 1, none⟩ v'
 exact ⟨o1.trans (o2.mono fun k hk e => .inr ⟨by have := h.lo; simp at e; omega, hk⟩), b1.put 1 v', qas hl (fun g hg => o2.block g (hl.lt g hg).2 (by have := (hl.lt g hg).1; simp; omega)), h.lo⟩
end
theorem qzw {ss : List Nat} {k top : Nat} (h : k + 1 < ss.length) : (ss.drop (k + 1)).headD top = ss.getD (k + 1) 0 := by
 rw [List.drop_eq_getElem_cons h, gDe, gEe h]
 rfl
theorem qxt {ss : List Nat} {k top : Nat} (h : ¬ k + 1 < ss.length) : (ss.drop (k + 1)).headD top = top := by
 rw [List.drop_eq_nil_of_le (by omega)]
 rfl
theorem qvc {F : List Nat} {W n r p : Nat} (hr : r < n) (h : bitAt (finL F W r) p = true) (hb : ∀ s, s < r → bitAt (finL F W s) p = false) : ruleR F W n p = r := by
 unfold ruleR
 have : (List.range n).find? (fun r => bitAt (finL F W r) p) = some r := by
  rw [List.find?_eq_some_iff_getElem]
  refine ⟨h, r, by simpa using hr, by simp, fun j hj => ?_⟩
  have := hb j hj
  simp [this]
 rw [this]
 rfl
end
section
open Go.RowKit
def AscB (xs : List Int) : Bool := (List.range (xs.length - 1)).all (fun j => decide (xs.getD j 0 < xs.getD (j + 1) 0))
def qan (ids : List Int) (Wd : Int) (T S F : List Nat) : Int :=
 if ids.length = 0 then 6 else if 16 < ids.length then 3 else
 if ids.all (fun x => decide (1 ≤ x ∧ x ≤ 1000)) && decide (1 ≤ Wd ∧ Wd ≤ 4) then
  if AscB ids && decide (T.length = 256 * Wd.toNat ∧ S.length = Wd.toNat ∧ F.length = ids.length * Wd.toNat) && (planR F S T Wd.toNat ids.length).isSome then 0 else 6
 else 7
theorem qcr {ids : List Int} {Wd : Int} {T S F : List Nat} (h : qan ids Wd T S F = 0) : 1 ≤ ids.length ∧ ids.length ≤ 16 ∧ (∀ x ∈ ids, 1 ≤ x ∧ x ≤ 1000) ∧ (∃ W : Nat, Wd = (W : Int) ∧ 1 ≤ W ∧ W ≤ 4 ∧ T.length = 256 * W ∧ S.length = W ∧ F.length = ids.length * W ∧ (planR F S T W ids.length).isSome = true) ∧ AscB ids = true := by
 unfold qan at h
 split at h
 ·exact absurd h (by decide)
 ·split at h
  ·exact absurd h (by decide)
  ·split at h
   ·rename_i h3
    split at h
    ·rename_i h4
     simp only [Bool.and_eq_true, decide_eq_true_eq, List.all_eq_true] at h3 h4
     refine ⟨by omega, by omega, h3.1, ⟨Wd.toNat, by omega, by omega, by omega, h4.1.2.1, h4.1.2.2.1, h4.1.2.2.2, h4.2⟩, h4.1.1⟩
    ·exact absurd h (by decide)
   ·exact absurd h (by decide)
structure SetV (w : World) (VI VT VS VF : Value) (ids : List Int) (Wd : Int) (T S F : List Nat) : Prop where
 i : Rd w (fun _ => True) 1 VI ids.length (ids.map (Value.int .i64))
 t : Rd w (fun _ => True) 1 VT T.length (qab T)
 s : Rd w (fun _ => True) 1 VS S.length (qab S)
 f : Rd w (fun _ => True) 1 VF F.length (qab F)
 ct : CapOk VT
 cf : CapOk VF
 i64 : ∀ x ∈ ids, -9223372036854775808 ≤ x ∧ x ≤ 9223372036854775807
 w64 : -9223372036854775808 ≤ Wd ∧ Wd ≤ 9223372036854775807
 t64 : ∀ x ∈ T, x < 18446744073709551616
 s64 : ∀ x ∈ S, x < 18446744073709551616
 f64 : ∀ x ∈ F, x < 18446744073709551616
 il : ids.length ≤ 4096
 tl : T.length ≤ 4096
 sl : S.length ≤ 4096
 fl : F.length ≤ 4096
theorem SetV.keep {w w' : World} {VI VT VS VF : Value} {ids : List Int} {Wd : Int} {T S F : List Nat} (h : SetV w VI VT VS VF ids Wd T S F) (o : Off Nob w w') : SetV w' VI VT VS VF ids Wd T S F :=
 { h with i := h.i.keepT o, t := h.t.keepT o, s := h.s.keepT o, f := h.f.keepT o }
def RPl (ids : List Int) (Wd : Int) (T S F : List Nat) (w : World) (e : Ending) (w' : World) : Prop := ∃ (x : Int) (A : Option Addr) (k c : Nat), e = .returned (.tuple #[.agg #[.int .i64 x, .slice A k c], .int .i64 (qan ids Wd T S F)]) ∧ (qan ids Wd T S F = 0 → x = Wd ∧ ∃ l, planR F S T Wd.toNat ids.length = some l ∧ Rd w' (fun k => w.heap.size ≤ k) 3 (.slice A k c) l.length (lnV l)) ∧ Off Nob w w'
end
section
open Go.RowKit
theorem ql5 : ∀ (l : List Ln) (n : Nat), (∀ x ∈ l, 1 ≤ x.2.2) → n + l.length ≤ lnEnd n l
 | [], n, _ => Nat.le_refl _
 | x :: l, n, h => by
  have h1 := h x (List.mem_cons_self ..)
  have h2 := ql5 l (n + x.2.2) (fun y hy => h y (List.mem_cons_of_mem _ hy))
  simp only [lnEnd, List.length_cons]
  omega
theorem LnFacts.len {W : Nat} {l : List Ln} (h : LnFacts W l) : l.length ≤ 256 := by
 have := ql5 l 0 (fun x hx => (h.all x hx).2.1)
 have := h.e256
 omega
theorem qoe {F S T : List Nat} {W n : Nat} {l : List Ln} (h : planR F S T W n = some l) : qao W l = true ∧ topOf (prs F W n) ≤ lnEnd 0 l ∧ ∀ b, b < 256 → ∀ i, i < 64 * W → topOf (prs F W n) ≤ i → bitAt (qar T W b) i = false := by
 unfold planR at h
 split at h
 ·cases h
 ·rename_i l' hl
  split at h
  ·rename_i hc
   cases h
   simp only [Bool.and_eq_true, decide_eq_true_eq, List.all_eq_true, List.mem_range] at hc
   obtain ⟨⟨⟨⟨h1, h2⟩, h3⟩, h4⟩, h5⟩ := hc
   refine ⟨h1, qe3 (fun x hx => ?_), fun b hb i hi hti => ?_⟩
   ·obtain ⟨p, s⟩ := x
    obtain ⟨hs, hp⟩ := qcn.1 hx
    rw [← h4 s hs] at hp
    have hbit := (qal.1 hp).2
    rw [qdf (fun j hj => ?_)] at hbit
    ·obtain ⟨y, hy, he, _⟩ := qbe.1 (of_decide_eq_true hbit)
     have := (LnFacts.of h1).all y hy
     show p < _
     unfold qa5 at he
     omega
    ·obtain ⟨y, hy, he, _⟩ := qbe.1 hj
     have := (LnFacts.of h1).all y hy
     have := (LnFacts.of h1).e64
     unfold qa5 at he
     omega
   ·rw [← qji] at h5
    unfold tabOk at h5
    have h6 := List.all_eq_true.1 h5 i (List.mem_range.2 hi)
    rw [Bool.or_eq_true, decide_eq_true_eq, List.all_eq_true] at h6
    rcases h6 with h6 | h6
    ·omega
    ·have h7 := h6 b (List.mem_range.2 hb)
     rw [qei hi]
     simpa using h7
  ·cases h
theorem qxu {L : List Nat} {q : Nat} (h : q < L.length) : L.getD q 0 ∈ L := by
 rw [gDe, gEe h]
 exact List.getElem_mem h
def andX (W : Nat) (A B : List Nat) : List Nat := rowOf W (fun i => bitAt A i && bitAt B i)
theorem Tryz.infoSs : (Tryz.prog.info? 27).map (·.size) = some 2 := by kernel_rfl
def hitR (F : List Nat) (W : Nat) (X : List Nat) (r : Nat) : Bool := decide (0 < (onesN (andX W X (finL F W r))).length)
def qdr (F : List Nat) (W : Nat) (X : List Nat) (k : Nat) : List Nat := (List.range k).filter (hitR F W X)
theorem qs9 {F : List Nat} {W : Nat} {X : List Nat} {k : Nat} (h : hitR F W X k = true) : qdr F W X (k + 1) = qdr F W X k ++ [k] := by
 unfold qdr
 rw [List.range_succ, List.filter_append]
 simp [h]
theorem qvd {F : List Nat} {W : Nat} {X : List Nat} {k : Nat} (h : hitR F W X k = false) : qdr F W X (k + 1) = qdr F W X k := by
 unfold qdr
 rw [List.range_succ, List.filter_append]
 simp [h]
end
section
open Go.RowKit
end
end Go.Proofs.YtlgjaefcfnndhaaGreatDoor
