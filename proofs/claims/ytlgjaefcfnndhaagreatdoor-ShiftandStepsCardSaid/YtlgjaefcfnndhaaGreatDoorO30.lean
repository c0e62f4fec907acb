/-
 tables.plan at the set of the example.
-/
import Derived.Test.YtlgjaefcfnndhaaGreatDoorO28
import Derived.Test.YtlgjaefcfnndhaaGreatDoorO26
import Derived.Test.YtlgjaefcfnndhaaGreatDoorO17
import Derived.Test.YtlgjaefcfnndhaaGreatDoorO29
import Derived.WalkMore
import Derived.Laws.Bits64b
import Derived.Test.YtlgjaefcfnndhaaGreatDoorO27
set_option linter.unusedVariables false
set_option linter.unusedSimpArgs false
set_option maxHeartbeats 16000000
set_option maxRecDepth 100000
namespace Go.Proofs.YtlgjaefcfnndhaaGreatDoor
section
open Go.RowKit Go.Maps
theorem Tryz.infoPl : (Tryz.prog.info? 62).map (·.size) = some 2 := by kernel_rfl
theorem qa5 {w W : World} (h : TzT w) (o : Off Nob w W) : TzT W := ⟨fun j hj => (o.cell_old h.2 _).trans (h.1 j hj), Nat.lt_of_lt_of_le h.2 o.size⟩
end
section
open Go.RowKit
theorem qa7 {w W : World} {base n size : Nat} {t : TypeId} {v : Value} {L : List Value} (h : w.ownsRow base t size v n L) (o : Off Nob w W) : W.ownsRow base t size v n L := qao h (fun g hg => o.block g (h.lt g hg).2 (fun h => h))
theorem qgz {F : List Nat} {W n i : Nat} (hF : F.length = n * W) (hi : i ≤ n) : topOf (prs F W i) ≤ 64 * W := qgp (fun x hx => by
 obtain ⟨h1, h2⟩ := qdg (p := x.1) (s := x.2).1 hx
 have := (qaq.1 h2).1
 rwa [qct hF (by omega)] at this)
theorem qg0 {w : World} {v : Value} {L : List Nat} (hv : Rd w (fun _ => True) 1 v L.length (natsV L)) : ∃ A c, v = .slice A L.length c ∧ ∀ W', Off Nob w W' → ∀ k, k < L.length → ∃ b o, A = some ⟨b, o, none⟩ ∧ W'.cell? ⟨b, o + k, none⟩ = some (.int .i64 ((L.getD k 0 : Nat) : Int)) := by
 obtain ⟨A, c, rfl, _, hcell⟩ := hv.form
 refine ⟨A, c, rfl, fun W' ho k hk => ?_⟩
 obtain ⟨b, o, rfl, hlt, hc⟩ := hcell (by omega)
 exact ⟨b, o, rfl, by rw [ho.cell_old hlt]; exact hc k _ (qcq hk)⟩
theorem qd1 {L : List Nat} {q : Nat} (h : q < L.length) : L.getD q 0 ∈ L := by
 rw [gDe, gEe h]
 exact List.getElem_mem h
structure Qst (w1 : World) (pb W : Nat) (v : Value) (acc : List Ln) (wr : World) : Prop where
 off : Off Nob w1 wr
 blk : Blk wr pb 62 #[.int .i64 W, v]
 own : wr.ownsRow (pb + 1) 43 3 v acc.length (lnV acc)
 lo : w1.heap.size ≤ pb
section
variable {w1 wr W' : World} {pb W : Nat} {v : Value} {acc : List Ln}
theorem Qst.form (h : Qst w1 pb W v acc wr) : ∃ A c, v = .slice A acc.length c := by
 rcases h.own.2 with ⟨rfl, h0⟩ | ⟨g, cap, cur, rfl, _⟩
 ·exact ⟨none, 0, by rw [h0]⟩
 ·exact ⟨_, cap, rfl⟩
theorem Qst.go (h : Qst w1 pb W v acc wr) (o : Off Nob wr W') : Qst w1 pb W v acc W' :=
 ⟨h.off.also o, h.blk.to (o.block _ h.blk.lt id), qa7 h.own o, h.lo⟩
theorem Qst.rd (h : Qst w1 pb W v acc wr) : Rd wr (fun _ => True) 3 v acc.length (lnV acc) := Rd.own h.own (fun _ _ => trivial)
theorem Qst.gone (h : Qst w1 pb W v acc wr) (hg : wr.grownBy W' v.ownBlock) : Off Nob w1 W' ∧ Blk W' pb 62 #[.int .i64 W, v] := by
 have o : Off (fun k => v.ownBlock = some k) wr W' := Off.grown oRf hg (fun k hk => .inl hk)
 refine ⟨h.off.trans (o.mono fun k hk e => .inr ⟨?_, hk⟩), h.blk.to (o.block _ h.blk.lt (fun e => ?_))⟩
 ·have := (h.own.lt k e).1
  have := h.lo
  omega
 ·have := (h.own.lt _ e).1
  omega
theorem Qst.grow {v' : Value} {acc' : List Ln} (h : Qst w1 pb W v acc wr) (hg : wr.grownBy W' v.ownBlock) (hl : W'.ownsRow (pb + 1) 43 3 v' acc'.length (lnV acc')) : Qst w1 pb W v' acc' (W'.setCell ⟨pb, 1, none⟩ v') := by
 obtain ⟨o1, b1⟩ := h.gone hg
 have o2 := qck W' ⟨pb, 1, none⟩ v'
 exact ⟨o1.trans (o2.mono fun k hk e => .inr ⟨by have := h.lo; simp at e; omega, hk⟩), b1.put 1 v', qao hl (fun g hg => o2.block g (hl.lt g hg).2 (by have := (hl.lt g hg).1; simp; omega)), h.lo⟩
end
theorem qpr {F : List Nat} {W n top : Nat} {ss : List Nat} {k f e : Nat} {acc : List Ln} (hk : k < ss.length) (hf : ss.getD k 0 = f) (he : (ss.drop (k + 1)).headD top = e) (hlt : ¬ e ≤ f) (h : lnR F W n top ss = (lnR F W n top (ss.drop k)).map (acc ++ ·)) : lnR F W n top ss = (lnR F W n top (ss.drop (k + 1))).map ((acc ++ [(ruleR F W n (e - 1), f, e - f)]) ++ ·) := by
 rw [h]
 have : ss.drop k = f :: ss.drop (k + 1) := by
  rw [List.drop_eq_getElem_cons hk, ← hf, gDe, gEe hk]
  rfl
 rw [this, lnR, he, if_neg hlt, Option.map_map]
 congr 1
 funext x
 simp
theorem qnh {F : List Nat} {W n top : Nat} {ss : List Nat} {k f e : Nat} {acc : List Ln} (hk : k < ss.length) (hf : ss.getD k 0 = f) (he : (ss.drop (k + 1)).headD top = e) (hlt : e ≤ f) (h : lnR F W n top ss = (lnR F W n top (ss.drop k)).map (acc ++ ·)) : lnR F W n top ss = none := by
 rw [h]
 have : ss.drop k = f :: ss.drop (k + 1) := by
  rw [List.drop_eq_getElem_cons hk, ← hf, gDe, gEe hk]
  rfl
 rw [this, lnR, he, if_pos hlt]
 rfl
theorem qwe {F : List Nat} {W n top : Nat} {ss : List Nat} {acc : List Ln} (h : lnR F W n top ss = (lnR F W n top (ss.drop ss.length)).map (acc ++ ·)) : lnR F W n top ss = some acc := by
 rw [h, List.drop_length]
 simp [lnR]
theorem qps {ss : List Nat} {k top : Nat} (h : k + 1 < ss.length) : (ss.drop (k + 1)).headD top = ss.getD (k + 1) 0 := by
 rw [List.drop_eq_getElem_cons h, gDe, gEe h]
 rfl
theorem qni {ss : List Nat} {k top : Nat} (h : ¬ k + 1 < ss.length) : (ss.drop (k + 1)).headD top = top := by
 rw [List.drop_eq_nil_of_le (by omega)]
 rfl
theorem qll {F : List Nat} {W n r p : Nat} (hr : r < n) (h : bitAt (finL F W r) p = true) (hb : ∀ s, s < r → bitAt (finL F W s) p = false) : ruleR F W n p = r := by
 unfold ruleR
 have : (List.range n).find? (fun r => bitAt (finL F W r) p) = some r := by
  rw [List.find?_eq_some_iff_getElem]
  refine ⟨h, r, by simpa using hr, by simp, fun j hj => ?_⟩
  have := hb j hj
  simp [this]
 rw [this]
 rfl
theorem qnj {F : List Nat} {W n p : Nat} (hb : ∀ s, s < n → bitAt (finL F W s) p = false) : ruleR F W n p = n := by
 unfold ruleR
 have : (List.range n).find? (fun r => bitAt (finL F W r) p) = none := by
  rw [List.find?_eq_none]
  intro x hx
  have := hb x (by simpa using hx)
  simp [this]
 rw [this]
 rfl
theorem qwf (F : List Nat) (W i : Nat) : topOf (prs F W (i + 1)) = if (onesN (finL F W i)).length = 0 then topOf (prs F W i) else max (topOf (prs F W i)) ((onesN (finL F W i)).getD ((onesN (finL F W i)).length - 1) 0 + 1) := by
 have key : ∀ (l : List Nat) (m : Nat), l.Pairwise (· < ·) → (l.map (fun p => (p, i))).foldl (fun m x => max m (x.1 + 1)) m = if l.length = 0 then m else max m (l.getD (l.length - 1) 0 + 1) := by
  intro l
  induction l with
  | nil => intro m _; rfl
  | cons x l ih =>
   intro m hp
   obtain ⟨h1, h2⟩ := List.pairwise_cons.1 hp
   rw [List.map_cons, List.foldl_cons, ih _ h2]
   cases l with
   | nil => simp
   | cons y l =>
    have e : (x :: y :: l).getD ((x :: y :: l).length - 1) 0 = (y :: l).getD ((y :: l).length - 1) 0 := by simp
    rw [e, if_neg (by simp), if_neg (by simp)]
    have hx : x < (y :: l).getD ((y :: l).length - 1) 0 := h1 _ (by
     rw [gDe, gEe (by simp)]
     exact List.getElem_mem _)
    simp only
    omega
 unfold topOf
 rw [prs, List.foldl_append]
 exact key _ _ (qda _)
theorem qt8 {l : List Nat} (h : l.length ≠ 0) : l.getLastD 0 = l.getD (l.length - 1) 0 := by
 rw [List.getLastD_eq_getLast?, List.getLast?_eq_getElem?, gDe]
theorem qgb {F S T ss : List Nat} {W n top : Nat} (ht : topOf (prs F W n) = top) (hs : onesN S = ss) (h : lnR F W n top ss = none) : planR F S T W n = none := by
 unfold planR
 rw [ht, hs, h]
theorem qwg {F S T ss : List Nat} {W n top : Nat} {l : List Ln} (ht : topOf (prs F W n) = top) (hs : onesN S = ss) (h : lnR F W n top ss = some l) : planR F S T W n = if qak W l && decide (qbf l + 1 = n) && decide (ofN W (qbt l) = S) && (List.range n).all (fun r => decide (ofN W (endsN r l) = finL F W r)) && qed T W top then some l else none := by
 unfold planR
 rw [ht, hs, h]
def qe6 (T : List Nat) (W top b : Nat) : Bool := decide ((onesN (qan T W b)).getLastD 0 + (if (onesN (qan T W b)).isEmpty then 0 else 1) ≤ top)
theorem qwh {w : World} {base n size b i j : Nat} {t : TypeId} {v u u' : Value} {L : List Value} (h : w.ownsRow base t size v n L) (hb : b < base) : ((w.setCell ⟨b, i, none⟩ u).setCell ⟨b, j, none⟩ u').ownsRow base t size v n L := by
 have h1 := qao h (fun g hg => (qck w ⟨b, i, none⟩ u).block g (h.lt g hg).2 (by have := (h.lt g hg).1; simp; omega))
 exact qao h1 (fun g hg => (qck _ ⟨b, j, none⟩ u').block g (h1.lt g hg).2 (by have := (h1.lt g hg).1; simp; omega))
def RPlan (F S T : List Nat) (W n : Nat) (w : World) (e : Ending) (w' : World) : Prop := ∃ A k c b, e = .returned (.tuple #[.agg #[.int .i64 W, .slice A k c], .bool b]) ∧ (planR F S T W n = none ∧ b = false ∨ ∃ l, planR F S T W n = some l ∧ b = true ∧ Rd w' (fun k => w.heap.size ≤ k) 3 (.slice A k c) l.length (lnV l)) ∧ Off Nob w w'
theorem qzl (W : Nat) (h1 : 1 ≤ W) (h4 : W ≤ 4) (n : Nat) (hn1 : 1 ≤ n) (hn : n ≤ 16) (F S T : List Nat) (hF : F.length = n * W) (hS : S.length = W) (hT : T.length = 256 * W) (hf64 : ∀ x ∈ F, x < 18446744073709551616) (hs64 : ∀ x ∈ S, x < 18446744073709551616) (ht64 : ∀ x ∈ T, x < 18446744073709551616)
  (w : World) (AI : Option Addr) (ci : Nat) (VT VS VF : Value) (hVT : Rd w (fun _ => True) 1 VT T.length (qab T)) (hVS : Rd w (fun _ => True) 1 VS S.length (qab S)) (hVF : Rd w (fun _ => True) 1 VF F.length (qab F)) (hcF : CapOk VF) :
  Calls Tryz.prog 63 #[.agg #[.slice AI n ci, .int .i64 W, VT, VS, VF]] w (RPlan F S T W n w) := by
 obtain ⟨i_lane, h_lane, z_lane, s_lane, b_lane⟩ := info_parts Tryz.infoLa
 have HT := hID hVT
 have HS := hID hVS
 have HF := hID hVF
 have HCF := hID hcF
 have HLF := hID hF
 have HLS := hID hS
 have HLT := hID hT
 have H64 := hID (And.intro hf64 (And.intro hs64 ht64))
 obtain ⟨AT, ct, rfl, _⟩ := hVT.form
 obtain ⟨AS, cs, rfl, _⟩ := hVS.form
 obtain ⟨AF, cf, rfl, _⟩ := hVF.form
 have hFle : ∀ i, i < n → i * W + W ≤ F.length := fun i hi => by
  rw [HLF.out]
  have : (i + 1) * W ≤ n * W := Nat.mul_le_mul_right _ hi
  rwa [Nat.add_mul, Nat.one_mul] at this
 have hF1024 : F.length ≤ 1024 := by
  rw [HLF.out]
  have := Nat.mul_le_mul hn h4
  omega
 have HFIN := hID (fun (i : Nat) (hi : i < n) (W' : World) (o : Off Nob w W') => qwa (.slice AI n ci) (.slice AT T.length ct) (.slice AS S.length cs) W h1 h4 F i (hFle i hi) hF1024 W' _ (HF.out.keepT o) HCF.out)
 have HFL := hID (fun (i : Nat) (hi : i < n) => qct HLF.out hi)
 have HF6 := hID (fun (i : Nat) => show ∀ x ∈ finL F W i, x < 18446744073709551616 from fun x hx => H64.out.1 x (qgo hx))
 clear hVT hVS hVF hcF hF hS hT hf64 hs64 ht64 hFle hF1024
 go_enter Tryz.func63, Tryz.ntmps63
 have HB0 : Hid (Blk ((w.alloc (.cells #[.slice AI n ci, .int .i64 W, .slice AT T.length ct, .slice AS S.length cs, .slice AF F.length cf] 25)).alloc (.cells #[.int .i64 0, .slice none 0 0] 62)) w.heap.size 25 #[.slice AI n ci, .int .i64 W, .slice AT T.length ct, .slice AS S.length cs, .slice AF F.length cf] ∧ Blk ((w.alloc (.cells #[.slice AI n ci, .int .i64 W, .slice AT T.length ct, .slice AS S.length cs, .slice AF F.length cf] 25)).alloc (.cells #[.int .i64 0, .slice none 0 0] 62)) (w.heap.size + 1) 62 #[.int .i64 0, .slice none 0 0] ∧ Off Nob w ((w.alloc (.cells #[.slice AI n ci, .int .i64 W, .slice AT T.length ct, .slice AS S.length cs, .slice AF F.length cf] 25)).alloc (.cells #[.int .i64 0, .slice none 0 0] 62))) := hID ⟨(Blk.new _ _ _).alloc _, qal _ _ _ _, (oRf.alloc _).alloc _⟩
 go_wp2_with fail
 revert HB0
 generalize ((w.alloc (.cells #[.slice AI n ci, .int .i64 W, .slice AT T.length ct, .slice AS S.length cs, .slice AF F.length cf] 25)).alloc (.cells #[.int .i64 0, .slice none 0 0] 62)) = w0
 intro HB0
 have GC : Hid (∀ W', Off Nob w0 W' → W'.cell? ⟨w.heap.size, 0, none⟩ = some (.slice AI n ci) ∧ W'.cell? ⟨w.heap.size, 1, none⟩ = some (.int .i64 W) ∧ W'.cell? ⟨w.heap.size, 2, none⟩ = some (.slice AT T.length ct) ∧ W'.cell? ⟨w.heap.size, 3, none⟩ = some (.slice AS S.length cs) ∧ W'.cell? ⟨w.heap.size, 4, none⟩ = some (.slice AF F.length cf) ∧ W'.cell? ⟨w.heap.size + 1, 0, none⟩ = some (.int .i64 0) ∧ W'.cell? ⟨w.heap.size + 1, 1, none⟩ = some (.slice none 0 0) ∧ W'.frozen? ⟨w.heap.size + 1, 0, none⟩ = false ∧ W'.frozen? ⟨w.heap.size + 1, 1, none⟩ = false) := hID (fun W' ho => by
  have h := HB0.out.1.to (ho.block _ HB0.out.1.lt id)
  have k := HB0.out.2.1.to (ho.block _ HB0.out.2.1.lt id)
  exact ⟨h.cell 0, h.cell 1, h.cell 2, h.cell 3, h.cell 4, k.cell 0, k.cell 1, k.frozen 0, k.frozen 1⟩)
 go_loopw [4, 5] (fun x y wr => ∃ i : Nat, i ≤ n ∧ x = .int .i64 (topOf (prs F W i) : Int) ∧ y = .int .i64 (i : Int) ∧ Off Nob w0 wr) (fun _ y _ => n - (intOf y).toNat)
 case atStart => exact ⟨0, Nat.zero_le _, rfl, rfl, Off.refl _ _⟩
 case round =>
  obtain ⟨i, hi, rfl, rfl, ho⟩ := hrel
  have HO := hID ho
  clear ho
  obtain ⟨s0, s1, s2, s3, s4, q0, q1, f0, f1⟩ := GC.out _ HO.out
  by_cases hlt : i < n
  ·have d1 : decide ((i : Int) < (n : Int)) = true := dcT
   have HTS := hID (qwf F W i)
   have htb : topOf (prs F W i) ≤ 64 * W := qgz HLF.out hi
   go_wp2_with fail
   refine (HFIN.out i hlt _ (HB0.out.2.2.also HO.out)).mono ?_
   rintro e w1 ⟨u, rfl, hu⟩
   have HU := hID hu.rd
   have X1 := hID (HO.out.also hu.2)
   obtain ⟨Au, cu, rfl⟩ := hu.form
   clear hu
   have HON := hID (qf8 (finL F W i) (HF6.out i) (by rw [HFL.out i hlt]; omega) (by rw [HFL.out i hlt]; omega) w1 (.slice Au W cu) (by rw [HFL.out i hlt]; exact HU.out))
   go_wp2_with fail
   refine HON.out.mono ?_
   rintro e w2 ⟨v, rfl, hv⟩
   have X2 := hID (X1.out.also hv.2)
   obtain ⟨Av, cv, rfl, hcl⟩ := qg0 hv.rd
   have HCL := hID hcl
   have HLE := qcr (finL F W i)
   rw [HFL.out i hlt] at HLE
   have HL := hID hv.rd
   have HM := hID (fun p hp => (qaq (L := finL F W i) (p := p)).1 hp |>.1)
   rw [HFL.out i hlt] at HM
   clear hv hcl HL s0 s1 s2 s3 s4 q0 q1 f0 f1
   revert HTS HLE HM HCL htb
   generalize onesN (finL F W i) = L
   generalize topOf (prs F W i) = a
   intro HTS htb HCL HLE HM
   by_cases hz : L.length = 0
   ·have d2 : decide ((0 : Int) < (L.length : Int)) = false := dcF
    have d2n : decide (0 < L.length) = false := dcF
    have HTT := hID (show topOf (prs F W (i + 1)) = a by rw [HTS.out, if_pos hz])
    clear hz
    go_wp2_with fail
    go_roundw
    case rel => exact ⟨i + 1, hlt, by rw [HTT.out], by go_num, X2.out⟩
    case measure => simp [intOf]; omega
   ·have d2 : decide ((0 : Int) < (L.length : Int)) = true := dcT
    have d2n : decide (0 < L.length) = true := dcT
    have HTT := hID (show topOf (prs F W (i + 1)) = max a (L.getD (L.length - 1) 0 + 1) by rw [HTS.out, if_neg hz])
    obtain ⟨b, o, rfl, c0⟩ := HCL.out _ oRf (L.length - 1) (by omega)
    have hx : L.getD (L.length - 1) 0 < 64 * W := HM.out _ (qd1 (by omega))
    have hsub : (L.length : Int) - 1 = ((L.length - 1 : Nat) : Int) := by omega
    have hq : L.length - 1 < L.length := by omega
    obtain ⟨q, hqe⟩ : ∃ q, L.length - 1 = q := ⟨_, rfl⟩
    rw [hqe] at c0 hsub hq hx HTT
    obtain ⟨x, hxe⟩ : ∃ x, L.getD q 0 = x := ⟨_, rfl⟩
    rw [hxe] at c0 hx HTT
    obtain ⟨m, hm⟩ : ∃ m, max a (x + 1) = m := ⟨_, rfl⟩
    have hmx : max (a : Int) ((x : Int) + 1) = (m : Int) := by omega
    rw [hm] at HTT
    clear hqe hxe hz hm HTS HCL HM
    go_wp2_with fail
    go_roundw
    case rel => exact ⟨i + 1, hlt, by rw [HTT.out]; try rw [hmx], by go_num, X2.out⟩
    case measure => simp [intOf]; omega
  ·obtain rfl : n = i := by omega
   have htop := qgz HLF.out (Nat.le_refl n)
   have HTOP := hID htop
   obtain ⟨top, htope⟩ : ∃ top, topOf (prs F W n) = top := ⟨_, rfl⟩
   have HTOPE := hID htope
   rw [htope] at htop HTOP ⊢
   clear htope
   have HSO := hID (fun (W' : World) (o : Off Nob w W') => qf8 S H64.out.2.1 (by rw [HLS.out]; omega) (by rw [HLS.out]; omega) W' _ (HS.out.keepT o))
   have d1 : decide ((n : Int) < (n : Int)) = false := dcF
   go_wp2_with fail
   refine (HSO.out _ (HB0.out.2.2.also HO.out)).mono ?_
   rintro e w1 ⟨v, rfl, hv⟩
   have H1 := hID (HO.out.also hv.2)
   obtain ⟨Av, cv, rfl, hcl⟩ := qg0 hv.rd
   have HCL := hID hcl
   have HLE := qcr S
   rw [HLS.out] at HLE
   have HM := hID (fun p hp => (qaq (L := S) (p := p)).1 hp |>.1)
   rw [HLS.out] at HM
   clear hv hcl HSO s0 s1 s2 s3 s4 q0 q1 f0 f1
   obtain ⟨ss, hss⟩ : ∃ ss, onesN S = ss := ⟨_, rfl⟩
   have HSS := hID hss
   rw [hss] at HCL HLE HM ⊢
   clear hss
   obtain ⟨s0, s1, s2, s3, s4, q0, q1, f0, f1⟩ := GC.out _ H1.out
   go_wp2_with fail
   clear s0 s1 s2 s3 s4 q0 q1 f0 f1
   have Q0 : Hid (Qst w1 w1.heap.size W (.slice none 0 0) [] (w1.alloc (.cells #[.int .i64 W, .slice none 0 0] 62))) := hID ⟨oAl oRf _, Blk.new _ _ _, World.ownsRow_nil _ _ _ _, Nat.le_refl _⟩
   obtain ⟨pb, hpb⟩ : ∃ pb, w1.heap.size = pb := ⟨_, rfl⟩
   obtain ⟨wp, hwp⟩ : ∃ wp, w1.alloc (.cells #[.int .i64 W, .slice none 0 0] 62) = wp := ⟨_, rfl⟩
   rw [hpb, hwp] at Q0
   rw [hpb, hwp]
   clear hpb hwp
   go_loopw [11] (fun q wr => ∃ (k : Nat) (v : Value) (acc : List Ln), k ≤ ss.length ∧ q = .int .i64 (k : Int) ∧ acc.length = k ∧ Qst w1 pb W v acc wr ∧ lnR F W n top ss = (lnR F W n top (ss.drop k)).map (acc ++ ·)) (fun q _ => ss.length - (intOf q).toNat)
   case atStart => exact ⟨0, _, [], Nat.zero_le _, rfl, rfl, Q0.out, by simp⟩
   case round =>
    obtain ⟨k, v, acc, hk, rfl, hacc, hq, hln⟩ := hrel
    obtain ⟨AA, cq, rfl⟩ := hq.form
    rw [hacc] at hq
    have HQ := hID hq
    have HOW := hID (show wr.ownsRow (pb + 1) 43 3 (.slice AA k cq) k (lnV acc) from hacc ▸ hq.own)
    have HLN := hID hln
    have HAC := hID hacc
    clear hq hln hacc Q0
    obtain ⟨s0, s1, s2, s3, s4, q0, q1, f0, f1⟩ := GC.out _ (H1.out.also HQ.out.off)
    by_cases hlt : k < ss.length
    ·have d2 : decide ((k : Int) < (ss.length : Int)) = true := dcT
     obtain ⟨bs, os, rfl, c0⟩ := HCL.out _ HQ.out.off k hlt
     have hf64 : ss.getD k 0 < 64 * W := HM.out _ (qd1 hlt)
     obtain ⟨f, hf⟩ : ∃ f, ss.getD k 0 = f := ⟨_, rfl⟩
     have HFK := hID hf
     rw [hf] at c0 hf64
     clear hf
     by_cases hi1 : k + 1 < ss.length
     ·have d3 : decide ((k : Int) + 1 < (ss.length : Int)) = true := dcT
      obtain ⟨b2, o2, he2, c1⟩ := HCL.out _ HQ.out.off (k + 1) hi1
      obtain ⟨rfl, rfl⟩ : bs = b2 ∧ os = o2 := by simpa using he2
      have hcast : (k : Int) + 1 = ((k + 1 : Nat) : Int) := by omega
      have HEE := hID (qps (top := top) hi1)
      have HEB := hID (show ss.getD (k + 1) 0 ≤ 64 * W from Nat.le_of_lt (HM.out _ (qd1 hi1)))
      revert HEE HEB c1
      generalize ss.getD (k + 1) 0 = E
      intro c1 HEE HEB
      clear he2 hcast
      have hE256 : E ≤ 64 * W := HEB.out
      by_cases hle : E ≤ f
      ·have d4 : decide ((E : Int) ≤ (f : Int)) = true := dcT
       have HNO := hID (qgb (T := T) HTOPE.out HSS.out (qnh hlt HFK.out HEE.out hle HLN.out))
       have d4n : decide (E ≤ f) = true := dT hle
       have p0 := HQ.out.blk.cell 0
       have p1 := HQ.out.blk.cell 1
       simp only [qG] at p0 p1
       obtain ⟨s0, s1, s2, s3, s4, q0, q1, f0, f1⟩ := GC.out _ (H1.out.also HQ.out.off)
       have HRB := hID (HB0.out.2.1.to ((H1.out.also HQ.out.off).block _ HB0.out.2.1.lt id))
       go_wp2_with fail
       have XE := hID ((HRB.out.put 0 (.int .i64 W)).put 1 (.slice AA k cq))
       exact bodyPost_ret (qac rfl _ _ _ _ _ (0, 0) _ rfl XE.out Tryz.underlying62 rfl Tryz.infoPl) rfl ⟨_, _, _, _, rfl, .inl ⟨HNO.out, rfl⟩, ((HB0.out.2.2.also (H1.out.also HQ.out.off)).put (.inr (Nat.le_succ _)) _).put (.inr (Nat.le_succ _)) _⟩
      ·have d4 : decide ((E : Int) ≤ (f : Int)) = false := dcF
       have HLS2 := hID (qpr hlt HFK.out HEE.out hle HLN.out)
       obtain ⟨y, hy⟩ : ∃ y, E - 1 = y := ⟨_, rfl⟩
       obtain ⟨d, hd⟩ : ∃ d, E - f = d := ⟨_, rfl⟩
       rw [hy, hd] at HLS2
       have hE1 : (E : Int) - 1 = (y : Int) := by omega
       have hE2 : (E : Int) - (f : Int) = (d : Int) := by omega
       have hE3 : IntKind.i64.wrap ((E : Int) - (f : Int)) = (d : Int) := by rw [IntWalk.i64_in _ (by omega)]; exact hE2
       have hd64 : IntKind.i64.wrap (d : Int) = (d : Int) := IntWalk.i64_in _ (by omega)
       have hy64 : y < 64 * W := by omega
       have hd256 : d ≤ 256 := by omega
       have d4n : decide (E ≤ f) = false := dF hle
       clear hy hd
       go_wp2_with fail
       clear c0 c1 s0 s1 s2 s3 s4 q0 q1 f0 f1
       go_loopw [13] (fun p wq => ∃ r : Nat, r ≤ n ∧ p = .int .i64 (r : Int) ∧ Off Nob wr wq ∧ ∀ s, s < r → bitAt (finL F W s) y = false) (fun p _ => n - (intOf p).toNat)
       case atStart => exact ⟨0, Nat.zero_le _, rfl, Off.refl _ _, fun s hs => absurd hs (by omega)⟩
       case round =>
        obtain ⟨r, hr, rfl, hoq, hbits⟩ := hrel
        have Q := hID (HQ.out.go hoq)
        have OWA := hID (qa7 HOW.out hoq)
        have HOQ := hID hoq
        have HBT := hID hbits
        clear hoq hbits
        obtain ⟨s0, s1, s2, s3, s4, q0, q1, f0, f1⟩ := GC.out _ (H1.out.also Q.out.off)
        by_cases hrn : r < n
        ·have d5 : decide ((r : Int) < (n : Int)) = true := dcT
         go_wp2_with fail
         refine (HFIN.out r hrn _ (HB0.out.2.2.also (H1.out.also Q.out.off))).mono ?_
         rintro e v1 ⟨u, rfl, hu⟩
         have HU := hID hu.rd
         have Q1 := hID (Q.out.go hu.2)
         have HOQ1 := hID (HOQ.out.also hu.2)
         have OW1 := hID (qa7 OWA.out hu.2)
         obtain ⟨Au, cu, rfl⟩ := hu.form
         clear hu
         have HGB := hID (g_Get (finL F W r) (HF6.out r) y (by rw [HFL.out r hrn]; exact hy64) (by rw [HFL.out r hrn]; omega) v1 (.slice Au W cu) (by rw [HFL.out r hrn]; exact HU.out))
         go_wp2_with fail
         refine HGB.out.mono ?_
         rintro e v2 ⟨rfl, o2⟩
         have Q2 := hID (Q1.out.go o2)
         have HOQ2 := hID (HOQ1.out.also o2)
         have OW2 := hID (qa7 OW1.out o2)
         clear o2 Q Q1 HOQ HOQ1 OWA OW1 HU HGB s0 s1 s2 s3 s4 q0 q1 f0 f1
         cases hbt : bitAt (finL F W r) y
         ·have HB2 := hID (fun s (hs : s < r + 1) => show bitAt (finL F W s) y = false from if e : s = r then e ▸ hbt else HBT.out s (by omega))
          clear hbt
          go_wp2_with fail
          go_roundw
          case rel => exact ⟨r + 1, hrn, by go_num, HOQ2.out, HB2.out⟩
          case measure => simp [intOf]; omega
         ·have Q := Q2
          have OWA := OW2
          have HBY := hID hbt
          obtain ⟨wq, hwq⟩ : ∃ wq, v2 = wq := ⟨_, rfl⟩
          subst hwq
          clear hbt Q2 OW2
          have HRR := hID (qll hrn HBY.out HBT.out)
          have HCP := hID (And.intro (Q.out.blk.cell 1) (Q.out.blk.frozen 1))
          have p1 := Q.out.blk.cell 1
          have pf := Q.out.blk.frozen 1
          simp only [qG] at p1
          obtain ⟨bs', os', he, c0⟩ := HCL.out _ Q.out.off k hlt
          obtain ⟨rfl, rfl⟩ : bs = bs' ∧ os = os' := by simpa using he
          rw [HFK.out] at c0
          clear he
          go_wp2_with fail
          have pza : ((v2.alloc (.cells #[.int .i64 (r : Int), .int .i64 (f : Int), .int .i64 (d : Int)] 43)).drew).cell? ⟨pb, 1, none⟩ = some (.slice AA k cq) := (Q.out.go (Off.drew (oAl oRf _))).blk.cell 1
          refine wp_region_held_drew (S := (fun W' => W'.cell? ⟨bs, os + k, none⟩ = some (.int .i64 (f : Int)))) (by kernel_rfl) c0 (fun hHeld => ?_)
          refine tkH 0 ?_
          refine tkH 2 ?_
          refine tkH 3 ?_
          refine tkH 4 ?_
          refine tkH 5 ?_
          refine tkH 6 ?_
          refine tkH 7 ?_
          refine tkH 8 ?_
          refine tkH 9 ?_
          refine tkH 10 ?_
          refine tkH 11 ?_
          refine tkH 12 ?_
          refine tkH 13 ?_
          refine wpAnyH_ready (rs := [1, 14]) (by kernel_rfl) (by simp) ?_
          refine AllReadyH.cons rfl (fun K hK => ?s313) ?m313
          case s313 =>
           go_simp
           refine hK.out _ _ ?_ (fun hHeld => ?_)
           ·first | exact hHeld | go_keep
           clear hK K
           try simp only [Act.put, qL]
           refine wpAnyH_ready (rs := [14]) (by kernel_rfl) (by simp) ?_
           refine AllReadyH.cons rfl (fun K hK => ?s314) ?m314
           case s314 =>
            go_simp
            refine hK.out _ _ ?_ (fun hHeld => ?_)
            ·first | exact hHeld | go_keep
            clear hK K
            try simp only [Act.put, qL]
            refine wpAnyH_ready (rs := [15]) (by kernel_rfl) (by simp) ?_
            refine AllReadyH.cons rfl (fun K hK => ?s315) ?m315
            case s315 =>
             refine wp_append_lies _ _ _ 39 rfl (pb + 1) 43 i_lane (.agg #[.int .i64 0, .int .i64 0, .int .i64 0]) 3 24 Tryz.underlying39 h_lane z_lane s_lane b_lane rfl (by decide) (.slice AA k cq) k (lnV acc) rfl (by exact qa7 OWA.out (by repeat (first | exact Off.refl _ _ | apply Off.drew | apply oAl))) ⟨v2.heap.size, 0, none⟩ 1 1 [.int .i64 (r : Int), .int .i64 (f : Int), .int .i64 (d : Int)] rfl rfl (by exact qai v2 [.int .i64 (r : Int), .int .i64 (f : Int), .int .i64 (d : Int)] 43) (by intro u hu; simp at hu; rcases hu with rfl | rfl | rfl <;> rfl) (by decide) (by unfold maxLen; omega) (by omega) (by have := Q.out.blk.lt; simp; omega) _ rfl ?_
             intro g cap w4 oW gW hat hltg
             have QA : Hid (Off Nob w1 w4 ∧ Blk w4 pb 62 #[.int .i64 W, .slice AA k cq]) := hID (Qst.gone (Q.out.go (by repeat (first | exact Off.refl _ _ | apply Off.drew | apply oAl))) gW)
             have QN : Hid (Qst w1 pb W (.slice (some ⟨g, 0, none⟩) (k + 1) cap) (acc ++ [(r, f, d)]) (w4.setCell ⟨pb, 1, none⟩ (.slice (some ⟨g, 0, none⟩) (k + 1) cap))) := hID (Qst.grow (Q.out.go (by repeat (first | exact Off.refl _ _ | apply Off.drew | apply oAl))) gW (by rw [List.length_append, HAC.out, qb2]; exact oW))
             have z0 := QA.out.2.cell 1
             have zf := QA.out.2.frozen 1
             obtain ⟨b4, o4, he4, c4⟩ := HCL.out _ QA.out.1 k hlt
             obtain ⟨rfl, rfl⟩ : bs = b4 ∧ os = o4 := by simpa using he4
             obtain ⟨b5, o5, he5, c5⟩ := HCL.out _ QN.out.off k hlt
             obtain ⟨rfl, rfl⟩ : bs = b5 ∧ os = o5 := by simpa using he5
             rw [HFK.out] at c4 c5
             simp only [qG] at z0
             clear oW gW hat hltg he4 he5
             refine hK.out _ _ ?_ (fun hHeld => ?_)
             ·first | exact c4 | go_keep
             clear hK K
             try simp only [Act.put, qL]
             refine tkH 16 ?_
             refine wpAnyH_ready (rs := [17]) (by kernel_rfl) (by simp) ?_
             refine AllReadyH.cons rfl (fun K hK => ?s317) ?m317
             case s317 =>
              go_simp
              refine hK.out _ _ ?_ (fun hHeld => ?_)
              ·first | exact c5 | go_keep
              clear hK K
              try simp only [Act.put, qL]
              refine wpAnyH_done (by kernel_rfl) ?_ _
              clear hHeld c0 c4 c5 z0 zf p1 pf pza
              go_wp2_with fail
              go_roundw
              case rel => exact ⟨k + 1, _, _, hlt, by go_num, by rw [List.length_append, HAC.out]; rfl, QN.out, by rw [HLS2.out, HRR.out]⟩
              case measure => simp [intOf]; omega
             exact AllReadyH.nil
            exact AllReadyH.nil
           exact AllReadyH.nil
          refine AllReadyH.cons rfl (fun K hK => ?s318) ?m318
          case s318 =>
           go_simp
           refine hK.out _ _ ?_ (fun hHeld => ?_)
           ·first | exact hHeld | go_keep
           clear hK K
           try simp only [Act.put, qL]
           refine wpAnyH_ready (rs := [1]) (by kernel_rfl) (by simp) ?_
           refine AllReadyH.cons rfl (fun K hK => ?s319) ?m319
           case s319 =>
            go_simp
            refine hK.out _ _ ?_ (fun hHeld => ?_)
            ·first | exact hHeld | go_keep
            clear hK K
            try simp only [Act.put, qL]
            refine wpAnyH_ready (rs := [15]) (by kernel_rfl) (by simp) ?_
            refine AllReadyH.cons rfl (fun K hK => ?s320) ?m320
            case s320 =>
             refine wp_append_lies _ _ _ 39 rfl (pb + 1) 43 i_lane (.agg #[.int .i64 0, .int .i64 0, .int .i64 0]) 3 24 Tryz.underlying39 h_lane z_lane s_lane b_lane rfl (by decide) (.slice AA k cq) k (lnV acc) rfl (by exact qa7 OWA.out (by repeat (first | exact Off.refl _ _ | apply Off.drew | apply oAl))) ⟨v2.heap.size, 0, none⟩ 1 1 [.int .i64 (r : Int), .int .i64 (f : Int), .int .i64 (d : Int)] rfl rfl (by exact qai v2 [.int .i64 (r : Int), .int .i64 (f : Int), .int .i64 (d : Int)] 43) (by intro u hu; simp at hu; rcases hu with rfl | rfl | rfl <;> rfl) (by decide) (by unfold maxLen; omega) (by omega) (by have := Q.out.blk.lt; simp; omega) _ rfl ?_
             intro g cap w4 oW gW hat hltg
             have QA : Hid (Off Nob w1 w4 ∧ Blk w4 pb 62 #[.int .i64 W, .slice AA k cq]) := hID (Qst.gone (Q.out.go (by repeat (first | exact Off.refl _ _ | apply Off.drew | apply oAl))) gW)
             have QN : Hid (Qst w1 pb W (.slice (some ⟨g, 0, none⟩) (k + 1) cap) (acc ++ [(r, f, d)]) (w4.setCell ⟨pb, 1, none⟩ (.slice (some ⟨g, 0, none⟩) (k + 1) cap))) := hID (Qst.grow (Q.out.go (by repeat (first | exact Off.refl _ _ | apply Off.drew | apply oAl))) gW (by rw [List.length_append, HAC.out, qb2]; exact oW))
             have z0 := QA.out.2.cell 1
             have zf := QA.out.2.frozen 1
             obtain ⟨b4, o4, he4, c4⟩ := HCL.out _ QA.out.1 k hlt
             obtain ⟨rfl, rfl⟩ : bs = b4 ∧ os = o4 := by simpa using he4
             obtain ⟨b5, o5, he5, c5⟩ := HCL.out _ QN.out.off k hlt
             obtain ⟨rfl, rfl⟩ : bs = b5 ∧ os = o5 := by simpa using he5
             rw [HFK.out] at c4 c5
             simp only [qG] at z0
             clear oW gW hat hltg he4 he5
             refine hK.out _ _ ?_ (fun hHeld => ?_)
             ·first | exact c4 | go_keep
             clear hK K
             try simp only [Act.put, qL]
             refine tkH 16 ?_
             refine wpAnyH_ready (rs := [17]) (by kernel_rfl) (by simp) ?_
             refine AllReadyH.cons rfl (fun K hK => ?s322) ?m322
             case s322 =>
              go_simp
              refine hK.out _ _ ?_ (fun hHeld => ?_)
              ·first | exact c5 | go_keep
              clear hK K
              try simp only [Act.put, qL]
              refine wpAnyH_done (by kernel_rfl) ?_ _
              clear hHeld c0 c4 c5 z0 zf p1 pf pza
              go_wp2_with fail
              go_roundw
              case rel => exact ⟨k + 1, _, _, hlt, by go_num, by rw [List.length_append, HAC.out]; rfl, QN.out, by rw [HLS2.out, HRR.out]⟩
              case measure => simp [intOf]; omega
             exact AllReadyH.nil
            exact AllReadyH.nil
           exact AllReadyH.nil
          exact AllReadyH.nil
        ·obtain rfl : n = r := by omega
         have d5 : decide ((n : Int) < (n : Int)) = false := dcF
         have HRR := hID (qnj HBT.out)
         have HCP := hID (And.intro (Q.out.blk.cell 1) (Q.out.blk.frozen 1))
         have p1 := Q.out.blk.cell 1
         have pf := Q.out.blk.frozen 1
         simp only [qG] at p1
         obtain ⟨bs', os', he, c0⟩ := HCL.out _ Q.out.off k hlt
         obtain ⟨rfl, rfl⟩ : bs = bs' ∧ os = os' := by simpa using he
         rw [HFK.out] at c0
         clear he
         go_wp2_with fail
         have pza : ((wr.alloc (.cells #[.int .i64 (n : Int), .int .i64 (f : Int), .int .i64 (d : Int)] 43)).drew).cell? ⟨pb, 1, none⟩ = some (.slice AA k cq) := (Q.out.go (Off.drew (oAl oRf _))).blk.cell 1
         refine wp_region_held_drew (S := (fun W' => W'.cell? ⟨bs, os + k, none⟩ = some (.int .i64 (f : Int)))) (by kernel_rfl) c0 (fun hHeld => ?_)
         refine tkH 0 ?_
         refine tkH 2 ?_
         refine tkH 3 ?_
         refine tkH 4 ?_
         refine tkH 5 ?_
         refine tkH 6 ?_
         refine tkH 7 ?_
         refine tkH 8 ?_
         refine tkH 9 ?_
         refine tkH 10 ?_
         refine tkH 11 ?_
         refine tkH 12 ?_
         refine tkH 13 ?_
         refine wpAnyH_ready (rs := [1, 14]) (by kernel_rfl) (by simp) ?_
         refine AllReadyH.cons rfl (fun K hK => ?s413) ?m413
         case s413 =>
          go_simp
          refine hK.out _ _ ?_ (fun hHeld => ?_)
          ·first | exact hHeld | go_keep
          clear hK K
          try simp only [Act.put, qL]
          refine wpAnyH_ready (rs := [14]) (by kernel_rfl) (by simp) ?_
          refine AllReadyH.cons rfl (fun K hK => ?s414) ?m414
          case s414 =>
           go_simp
           refine hK.out _ _ ?_ (fun hHeld => ?_)
           ·first | exact hHeld | go_keep
           clear hK K
           try simp only [Act.put, qL]
           refine wpAnyH_ready (rs := [15]) (by kernel_rfl) (by simp) ?_
           refine AllReadyH.cons rfl (fun K hK => ?s415) ?m415
           case s415 =>
            refine wp_append_lies _ _ _ 39 rfl (pb + 1) 43 i_lane (.agg #[.int .i64 0, .int .i64 0, .int .i64 0]) 3 24 Tryz.underlying39 h_lane z_lane s_lane b_lane rfl (by decide) (.slice AA k cq) k (lnV acc) rfl (by exact qa7 OWA.out (by repeat (first | exact Off.refl _ _ | apply Off.drew | apply oAl))) ⟨wr.heap.size, 0, none⟩ 1 1 [.int .i64 (n : Int), .int .i64 (f : Int), .int .i64 (d : Int)] rfl rfl (by exact qai wr [.int .i64 (n : Int), .int .i64 (f : Int), .int .i64 (d : Int)] 43) (by intro u hu; simp at hu; rcases hu with rfl | rfl | rfl <;> rfl) (by decide) (by unfold maxLen; omega) (by omega) (by have := Q.out.blk.lt; simp; omega) _ rfl ?_
            intro g cap w4 oW gW hat hltg
            have QA : Hid (Off Nob w1 w4 ∧ Blk w4 pb 62 #[.int .i64 W, .slice AA k cq]) := hID (Qst.gone (Q.out.go (by repeat (first | exact Off.refl _ _ | apply Off.drew | apply oAl))) gW)
            have QN : Hid (Qst w1 pb W (.slice (some ⟨g, 0, none⟩) (k + 1) cap) (acc ++ [(n, f, d)]) (w4.setCell ⟨pb, 1, none⟩ (.slice (some ⟨g, 0, none⟩) (k + 1) cap))) := hID (Qst.grow (Q.out.go (by repeat (first | exact Off.refl _ _ | apply Off.drew | apply oAl))) gW (by rw [List.length_append, HAC.out, qb2]; exact oW))
            have z0 := QA.out.2.cell 1
            have zf := QA.out.2.frozen 1
            obtain ⟨b4, o4, he4, c4⟩ := HCL.out _ QA.out.1 k hlt
            obtain ⟨rfl, rfl⟩ : bs = b4 ∧ os = o4 := by simpa using he4
            obtain ⟨b5, o5, he5, c5⟩ := HCL.out _ QN.out.off k hlt
            obtain ⟨rfl, rfl⟩ : bs = b5 ∧ os = o5 := by simpa using he5
            rw [HFK.out] at c4 c5
            simp only [qG] at z0
            clear oW gW hat hltg he4 he5
            refine hK.out _ _ ?_ (fun hHeld => ?_)
            ·first | exact c4 | go_keep
            clear hK K
            try simp only [Act.put, qL]
            refine tkH 16 ?_
            refine wpAnyH_ready (rs := [17]) (by kernel_rfl) (by simp) ?_
            refine AllReadyH.cons rfl (fun K hK => ?s417) ?m417
            case s417 =>
             go_simp
             refine hK.out _ _ ?_ (fun hHeld => ?_)
             ·first | exact c5 | go_keep
             clear hK K
             try simp only [Act.put, qL]
             refine wpAnyH_done (by kernel_rfl) ?_ _
             clear hHeld c0 c4 c5 z0 zf p1 pf pza
             go_wp2_with fail
             go_roundw
             case rel => exact ⟨k + 1, _, _, hlt, by go_num, by rw [List.length_append, HAC.out]; rfl, QN.out, by rw [HLS2.out, HRR.out]⟩
             case measure => simp [intOf]; omega
            exact AllReadyH.nil
           exact AllReadyH.nil
          exact AllReadyH.nil
         refine AllReadyH.cons rfl (fun K hK => ?s418) ?m418
         case s418 =>
          go_simp
          refine hK.out _ _ ?_ (fun hHeld => ?_)
          ·first | exact hHeld | go_keep
          clear hK K
          try simp only [Act.put, qL]
          refine wpAnyH_ready (rs := [1]) (by kernel_rfl) (by simp) ?_
          refine AllReadyH.cons rfl (fun K hK => ?s419) ?m419
          case s419 =>
           go_simp
           refine hK.out _ _ ?_ (fun hHeld => ?_)
           ·first | exact hHeld | go_keep
           clear hK K
           try simp only [Act.put, qL]
           refine wpAnyH_ready (rs := [15]) (by kernel_rfl) (by simp) ?_
           refine AllReadyH.cons rfl (fun K hK => ?s420) ?m420
           case s420 =>
            refine wp_append_lies _ _ _ 39 rfl (pb + 1) 43 i_lane (.agg #[.int .i64 0, .int .i64 0, .int .i64 0]) 3 24 Tryz.underlying39 h_lane z_lane s_lane b_lane rfl (by decide) (.slice AA k cq) k (lnV acc) rfl (by exact qa7 OWA.out (by repeat (first | exact Off.refl _ _ | apply Off.drew | apply oAl))) ⟨wr.heap.size, 0, none⟩ 1 1 [.int .i64 (n : Int), .int .i64 (f : Int), .int .i64 (d : Int)] rfl rfl (by exact qai wr [.int .i64 (n : Int), .int .i64 (f : Int), .int .i64 (d : Int)] 43) (by intro u hu; simp at hu; rcases hu with rfl | rfl | rfl <;> rfl) (by decide) (by unfold maxLen; omega) (by omega) (by have := Q.out.blk.lt; simp; omega) _ rfl ?_
            intro g cap w4 oW gW hat hltg
            have QA : Hid (Off Nob w1 w4 ∧ Blk w4 pb 62 #[.int .i64 W, .slice AA k cq]) := hID (Qst.gone (Q.out.go (by repeat (first | exact Off.refl _ _ | apply Off.drew | apply oAl))) gW)
            have QN : Hid (Qst w1 pb W (.slice (some ⟨g, 0, none⟩) (k + 1) cap) (acc ++ [(n, f, d)]) (w4.setCell ⟨pb, 1, none⟩ (.slice (some ⟨g, 0, none⟩) (k + 1) cap))) := hID (Qst.grow (Q.out.go (by repeat (first | exact Off.refl _ _ | apply Off.drew | apply oAl))) gW (by rw [List.length_append, HAC.out, qb2]; exact oW))
            have z0 := QA.out.2.cell 1
            have zf := QA.out.2.frozen 1
            obtain ⟨b4, o4, he4, c4⟩ := HCL.out _ QA.out.1 k hlt
            obtain ⟨rfl, rfl⟩ : bs = b4 ∧ os = o4 := by simpa using he4
            obtain ⟨b5, o5, he5, c5⟩ := HCL.out _ QN.out.off k hlt
            obtain ⟨rfl, rfl⟩ : bs = b5 ∧ os = o5 := by simpa using he5
            rw [HFK.out] at c4 c5
            simp only [qG] at z0
            clear oW gW hat hltg he4 he5
            refine hK.out _ _ ?_ (fun hHeld => ?_)
            ·first | exact c4 | go_keep
            clear hK K
            try simp only [Act.put, qL]
            refine tkH 16 ?_
            refine wpAnyH_ready (rs := [17]) (by kernel_rfl) (by simp) ?_
            refine AllReadyH.cons rfl (fun K hK => ?s422) ?m422
            case s422 =>
             go_simp
             refine hK.out _ _ ?_ (fun hHeld => ?_)
             ·first | exact c5 | go_keep
             clear hK K
             try simp only [Act.put, qL]
             refine wpAnyH_done (by kernel_rfl) ?_ _
             clear hHeld c0 c4 c5 z0 zf p1 pf pza
             go_wp2_with fail
             go_roundw
             case rel => exact ⟨k + 1, _, _, hlt, by go_num, by rw [List.length_append, HAC.out]; rfl, QN.out, by rw [HLS2.out, HRR.out]⟩
             case measure => simp [intOf]; omega
            exact AllReadyH.nil
           exact AllReadyH.nil
          exact AllReadyH.nil
         exact AllReadyH.nil
     ·have d3 : decide ((k : Int) + 1 < (ss.length : Int)) = false := dcF
      have HEE := hID (qni (top := top) hi1)
      have HEB := hID htop
      have hE256 : top ≤ 64 * W := HEB.out
      by_cases hle : top ≤ f
      ·have d4 : decide ((top : Int) ≤ (f : Int)) = true := dcT
       have HNO := hID (qgb (T := T) HTOPE.out HSS.out (qnh hlt HFK.out HEE.out hle HLN.out))
       have d4n : decide (top ≤ f) = true := dT hle
       have p0 := HQ.out.blk.cell 0
       have p1 := HQ.out.blk.cell 1
       simp only [qG] at p0 p1
       obtain ⟨s0, s1, s2, s3, s4, q0, q1, f0, f1⟩ := GC.out _ (H1.out.also HQ.out.off)
       have HRB := hID (HB0.out.2.1.to ((H1.out.also HQ.out.off).block _ HB0.out.2.1.lt id))
       go_wp2_with fail
       have XE := hID ((HRB.out.put 0 (.int .i64 W)).put 1 (.slice AA k cq))
       exact bodyPost_ret (qac rfl _ _ _ _ _ (0, 0) _ rfl XE.out Tryz.underlying62 rfl Tryz.infoPl) rfl ⟨_, _, _, _, rfl, .inl ⟨HNO.out, rfl⟩, ((HB0.out.2.2.also (H1.out.also HQ.out.off)).put (.inr (Nat.le_succ _)) _).put (.inr (Nat.le_succ _)) _⟩
      ·have d4 : decide ((top : Int) ≤ (f : Int)) = false := dcF
       have HLS2 := hID (qpr hlt HFK.out HEE.out hle HLN.out)
       obtain ⟨y, hy⟩ : ∃ y, top - 1 = y := ⟨_, rfl⟩
       obtain ⟨d, hd⟩ : ∃ d, top - f = d := ⟨_, rfl⟩
       rw [hy, hd] at HLS2
       have hE1 : (top : Int) - 1 = (y : Int) := by omega
       have hE2 : (top : Int) - (f : Int) = (d : Int) := by omega
       have hE3 : IntKind.i64.wrap ((top : Int) - (f : Int)) = (d : Int) := by rw [IntWalk.i64_in _ (by omega)]; exact hE2
       have hd64 : IntKind.i64.wrap (d : Int) = (d : Int) := IntWalk.i64_in _ (by omega)
       have hy64 : y < 64 * W := by omega
       have hd256 : d ≤ 256 := by omega
       have d4n : decide (top ≤ f) = false := dF hle
       clear hy hd
       go_wp2_with fail
       clear c0 s0 s1 s2 s3 s4 q0 q1 f0 f1
       go_loopw [13] (fun p wq => ∃ r : Nat, r ≤ n ∧ p = .int .i64 (r : Int) ∧ Off Nob wr wq ∧ ∀ s, s < r → bitAt (finL F W s) y = false) (fun p _ => n - (intOf p).toNat)
       case atStart => exact ⟨0, Nat.zero_le _, rfl, Off.refl _ _, fun s hs => absurd hs (by omega)⟩
       case round =>
        obtain ⟨r, hr, rfl, hoq, hbits⟩ := hrel
        have Q := hID (HQ.out.go hoq)
        have OWA := hID (qa7 HOW.out hoq)
        have HOQ := hID hoq
        have HBT := hID hbits
        clear hoq hbits
        obtain ⟨s0, s1, s2, s3, s4, q0, q1, f0, f1⟩ := GC.out _ (H1.out.also Q.out.off)
        by_cases hrn : r < n
        ·have d5 : decide ((r : Int) < (n : Int)) = true := dcT
         go_wp2_with fail
         refine (HFIN.out r hrn _ (HB0.out.2.2.also (H1.out.also Q.out.off))).mono ?_
         rintro e v1 ⟨u, rfl, hu⟩
         have HU := hID hu.rd
         have Q1 := hID (Q.out.go hu.2)
         have HOQ1 := hID (HOQ.out.also hu.2)
         have OW1 := hID (qa7 OWA.out hu.2)
         obtain ⟨Au, cu, rfl⟩ := hu.form
         clear hu
         have HGB := hID (g_Get (finL F W r) (HF6.out r) y (by rw [HFL.out r hrn]; exact hy64) (by rw [HFL.out r hrn]; omega) v1 (.slice Au W cu) (by rw [HFL.out r hrn]; exact HU.out))
         go_wp2_with fail
         refine HGB.out.mono ?_
         rintro e v2 ⟨rfl, o2⟩
         have Q2 := hID (Q1.out.go o2)
         have HOQ2 := hID (HOQ1.out.also o2)
         have OW2 := hID (qa7 OW1.out o2)
         clear o2 Q Q1 HOQ HOQ1 OWA OW1 HU HGB s0 s1 s2 s3 s4 q0 q1 f0 f1
         cases hbt : bitAt (finL F W r) y
         ·have HB2 := hID (fun s (hs : s < r + 1) => show bitAt (finL F W s) y = false from if e : s = r then e ▸ hbt else HBT.out s (by omega))
          clear hbt
          go_wp2_with fail
          go_roundw
          case rel => exact ⟨r + 1, hrn, by go_num, HOQ2.out, HB2.out⟩
          case measure => simp [intOf]; omega
         ·have Q := Q2
          have OWA := OW2
          have HBY := hID hbt
          obtain ⟨wq, hwq⟩ : ∃ wq, v2 = wq := ⟨_, rfl⟩
          subst hwq
          clear hbt Q2 OW2
          have HRR := hID (qll hrn HBY.out HBT.out)
          have HCP := hID (And.intro (Q.out.blk.cell 1) (Q.out.blk.frozen 1))
          have p1 := Q.out.blk.cell 1
          have pf := Q.out.blk.frozen 1
          simp only [qG] at p1
          obtain ⟨bs', os', he, c0⟩ := HCL.out _ Q.out.off k hlt
          obtain ⟨rfl, rfl⟩ : bs = bs' ∧ os = os' := by simpa using he
          rw [HFK.out] at c0
          clear he
          go_wp2_with fail
          have pza : ((v2.alloc (.cells #[.int .i64 (r : Int), .int .i64 (f : Int), .int .i64 (d : Int)] 43)).drew).cell? ⟨pb, 1, none⟩ = some (.slice AA k cq) := (Q.out.go (Off.drew (oAl oRf _))).blk.cell 1
          refine wp_region_held_drew (S := (fun W' => W'.cell? ⟨bs, os + k, none⟩ = some (.int .i64 (f : Int)))) (by kernel_rfl) c0 (fun hHeld => ?_)
          refine tkH 0 ?_
          refine tkH 2 ?_
          refine tkH 3 ?_
          refine tkH 4 ?_
          refine tkH 5 ?_
          refine tkH 6 ?_
          refine tkH 7 ?_
          refine tkH 8 ?_
          refine tkH 9 ?_
          refine tkH 10 ?_
          refine tkH 11 ?_
          refine tkH 12 ?_
          refine tkH 13 ?_
          refine wpAnyH_ready (rs := [1, 14]) (by kernel_rfl) (by simp) ?_
          refine AllReadyH.cons rfl (fun K hK => ?s113) ?m113
          case s113 =>
           go_simp
           refine hK.out _ _ ?_ (fun hHeld => ?_)
           ·first | exact hHeld | go_keep
           clear hK K
           try simp only [Act.put, qL]
           refine wpAnyH_ready (rs := [14]) (by kernel_rfl) (by simp) ?_
           refine AllReadyH.cons rfl (fun K hK => ?s114) ?m114
           case s114 =>
            go_simp
            refine hK.out _ _ ?_ (fun hHeld => ?_)
            ·first | exact hHeld | go_keep
            clear hK K
            try simp only [Act.put, qL]
            refine wpAnyH_ready (rs := [15]) (by kernel_rfl) (by simp) ?_
            refine AllReadyH.cons rfl (fun K hK => ?s115) ?m115
            case s115 =>
             refine wp_append_lies _ _ _ 39 rfl (pb + 1) 43 i_lane (.agg #[.int .i64 0, .int .i64 0, .int .i64 0]) 3 24 Tryz.underlying39 h_lane z_lane s_lane b_lane rfl (by decide) (.slice AA k cq) k (lnV acc) rfl (by exact qa7 OWA.out (by repeat (first | exact Off.refl _ _ | apply Off.drew | apply oAl))) ⟨v2.heap.size, 0, none⟩ 1 1 [.int .i64 (r : Int), .int .i64 (f : Int), .int .i64 (d : Int)] rfl rfl (by exact qai v2 [.int .i64 (r : Int), .int .i64 (f : Int), .int .i64 (d : Int)] 43) (by intro u hu; simp at hu; rcases hu with rfl | rfl | rfl <;> rfl) (by decide) (by unfold maxLen; omega) (by omega) (by have := Q.out.blk.lt; simp; omega) _ rfl ?_
             intro g cap w4 oW gW hat hltg
             have QA : Hid (Off Nob w1 w4 ∧ Blk w4 pb 62 #[.int .i64 W, .slice AA k cq]) := hID (Qst.gone (Q.out.go (by repeat (first | exact Off.refl _ _ | apply Off.drew | apply oAl))) gW)
             have QN : Hid (Qst w1 pb W (.slice (some ⟨g, 0, none⟩) (k + 1) cap) (acc ++ [(r, f, d)]) (w4.setCell ⟨pb, 1, none⟩ (.slice (some ⟨g, 0, none⟩) (k + 1) cap))) := hID (Qst.grow (Q.out.go (by repeat (first | exact Off.refl _ _ | apply Off.drew | apply oAl))) gW (by rw [List.length_append, HAC.out, qb2]; exact oW))
             have z0 := QA.out.2.cell 1
             have zf := QA.out.2.frozen 1
             obtain ⟨b4, o4, he4, c4⟩ := HCL.out _ QA.out.1 k hlt
             obtain ⟨rfl, rfl⟩ : bs = b4 ∧ os = o4 := by simpa using he4
             obtain ⟨b5, o5, he5, c5⟩ := HCL.out _ QN.out.off k hlt
             obtain ⟨rfl, rfl⟩ : bs = b5 ∧ os = o5 := by simpa using he5
             rw [HFK.out] at c4 c5
             simp only [qG] at z0
             clear oW gW hat hltg he4 he5
             refine hK.out _ _ ?_ (fun hHeld => ?_)
             ·first | exact c4 | go_keep
             clear hK K
             try simp only [Act.put, qL]
             refine tkH 16 ?_
             refine wpAnyH_ready (rs := [17]) (by kernel_rfl) (by simp) ?_
             refine AllReadyH.cons rfl (fun K hK => ?s117) ?m117
             case s117 =>
              go_simp
              refine hK.out _ _ ?_ (fun hHeld => ?_)
              ·first | exact c5 | go_keep
              clear hK K
              try simp only [Act.put, qL]
              refine wpAnyH_done (by kernel_rfl) ?_ _
              clear hHeld c0 c4 c5 z0 zf p1 pf pza
              go_wp2_with fail
              go_roundw
              case rel => exact ⟨k + 1, _, _, hlt, by go_num, by rw [List.length_append, HAC.out]; rfl, QN.out, by rw [HLS2.out, HRR.out]⟩
              case measure => simp [intOf]; omega
             exact AllReadyH.nil
            exact AllReadyH.nil
           exact AllReadyH.nil
          refine AllReadyH.cons rfl (fun K hK => ?s118) ?m118
          case s118 =>
           go_simp
           refine hK.out _ _ ?_ (fun hHeld => ?_)
           ·first | exact hHeld | go_keep
           clear hK K
           try simp only [Act.put, qL]
           refine wpAnyH_ready (rs := [1]) (by kernel_rfl) (by simp) ?_
           refine AllReadyH.cons rfl (fun K hK => ?s119) ?m119
           case s119 =>
            go_simp
            refine hK.out _ _ ?_ (fun hHeld => ?_)
            ·first | exact hHeld | go_keep
            clear hK K
            try simp only [Act.put, qL]
            refine wpAnyH_ready (rs := [15]) (by kernel_rfl) (by simp) ?_
            refine AllReadyH.cons rfl (fun K hK => ?s120) ?m120
            case s120 =>
             refine wp_append_lies _ _ _ 39 rfl (pb + 1) 43 i_lane (.agg #[.int .i64 0, .int .i64 0, .int .i64 0]) 3 24 Tryz.underlying39 h_lane z_lane s_lane b_lane rfl (by decide) (.slice AA k cq) k (lnV acc) rfl (by exact qa7 OWA.out (by repeat (first | exact Off.refl _ _ | apply Off.drew | apply oAl))) ⟨v2.heap.size, 0, none⟩ 1 1 [.int .i64 (r : Int), .int .i64 (f : Int), .int .i64 (d : Int)] rfl rfl (by exact qai v2 [.int .i64 (r : Int), .int .i64 (f : Int), .int .i64 (d : Int)] 43) (by intro u hu; simp at hu; rcases hu with rfl | rfl | rfl <;> rfl) (by decide) (by unfold maxLen; omega) (by omega) (by have := Q.out.blk.lt; simp; omega) _ rfl ?_
             intro g cap w4 oW gW hat hltg
             have QA : Hid (Off Nob w1 w4 ∧ Blk w4 pb 62 #[.int .i64 W, .slice AA k cq]) := hID (Qst.gone (Q.out.go (by repeat (first | exact Off.refl _ _ | apply Off.drew | apply oAl))) gW)
             have QN : Hid (Qst w1 pb W (.slice (some ⟨g, 0, none⟩) (k + 1) cap) (acc ++ [(r, f, d)]) (w4.setCell ⟨pb, 1, none⟩ (.slice (some ⟨g, 0, none⟩) (k + 1) cap))) := hID (Qst.grow (Q.out.go (by repeat (first | exact Off.refl _ _ | apply Off.drew | apply oAl))) gW (by rw [List.length_append, HAC.out, qb2]; exact oW))
             have z0 := QA.out.2.cell 1
             have zf := QA.out.2.frozen 1
             obtain ⟨b4, o4, he4, c4⟩ := HCL.out _ QA.out.1 k hlt
             obtain ⟨rfl, rfl⟩ : bs = b4 ∧ os = o4 := by simpa using he4
             obtain ⟨b5, o5, he5, c5⟩ := HCL.out _ QN.out.off k hlt
             obtain ⟨rfl, rfl⟩ : bs = b5 ∧ os = o5 := by simpa using he5
             rw [HFK.out] at c4 c5
             simp only [qG] at z0
             clear oW gW hat hltg he4 he5
             refine hK.out _ _ ?_ (fun hHeld => ?_)
             ·first | exact c4 | go_keep
             clear hK K
             try simp only [Act.put, qL]
             refine tkH 16 ?_
             refine wpAnyH_ready (rs := [17]) (by kernel_rfl) (by simp) ?_
             refine AllReadyH.cons rfl (fun K hK => ?s122) ?m122
             case s122 =>
              go_simp
              refine hK.out _ _ ?_ (fun hHeld => ?_)
              ·first | exact c5 | go_keep
              clear hK K
              try simp only [Act.put, qL]
              refine wpAnyH_done (by kernel_rfl) ?_ _
              clear hHeld c0 c4 c5 z0 zf p1 pf pza
              go_wp2_with fail
              go_roundw
              case rel => exact ⟨k + 1, _, _, hlt, by go_num, by rw [List.length_append, HAC.out]; rfl, QN.out, by rw [HLS2.out, HRR.out]⟩
              case measure => simp [intOf]; omega
             exact AllReadyH.nil
            exact AllReadyH.nil
           exact AllReadyH.nil
          exact AllReadyH.nil
        ·obtain rfl : n = r := by omega
         have d5 : decide ((n : Int) < (n : Int)) = false := dcF
         have HRR := hID (qnj HBT.out)
         have HCP := hID (And.intro (Q.out.blk.cell 1) (Q.out.blk.frozen 1))
         have p1 := Q.out.blk.cell 1
         have pf := Q.out.blk.frozen 1
         simp only [qG] at p1
         obtain ⟨bs', os', he, c0⟩ := HCL.out _ Q.out.off k hlt
         obtain ⟨rfl, rfl⟩ : bs = bs' ∧ os = os' := by simpa using he
         rw [HFK.out] at c0
         clear he
         go_wp2_with fail
         have pza : ((wr.alloc (.cells #[.int .i64 (n : Int), .int .i64 (f : Int), .int .i64 (d : Int)] 43)).drew).cell? ⟨pb, 1, none⟩ = some (.slice AA k cq) := (Q.out.go (Off.drew (oAl oRf _))).blk.cell 1
         refine wp_region_held_drew (S := (fun W' => W'.cell? ⟨bs, os + k, none⟩ = some (.int .i64 (f : Int)))) (by kernel_rfl) c0 (fun hHeld => ?_)
         refine tkH 0 ?_
         refine tkH 2 ?_
         refine tkH 3 ?_
         refine tkH 4 ?_
         refine tkH 5 ?_
         refine tkH 6 ?_
         refine tkH 7 ?_
         refine tkH 8 ?_
         refine tkH 9 ?_
         refine tkH 10 ?_
         refine tkH 11 ?_
         refine tkH 12 ?_
         refine tkH 13 ?_
         refine wpAnyH_ready (rs := [1, 14]) (by kernel_rfl) (by simp) ?_
         refine AllReadyH.cons rfl (fun K hK => ?s213) ?m213
         case s213 =>
          go_simp
          refine hK.out _ _ ?_ (fun hHeld => ?_)
          ·first | exact hHeld | go_keep
          clear hK K
          try simp only [Act.put, qL]
          refine wpAnyH_ready (rs := [14]) (by kernel_rfl) (by simp) ?_
          refine AllReadyH.cons rfl (fun K hK => ?s214) ?m214
          case s214 =>
           go_simp
           refine hK.out _ _ ?_ (fun hHeld => ?_)
           ·first | exact hHeld | go_keep
           clear hK K
           try simp only [Act.put, qL]
           refine wpAnyH_ready (rs := [15]) (by kernel_rfl) (by simp) ?_
           refine AllReadyH.cons rfl (fun K hK => ?s215) ?m215
           case s215 =>
            refine wp_append_lies _ _ _ 39 rfl (pb + 1) 43 i_lane (.agg #[.int .i64 0, .int .i64 0, .int .i64 0]) 3 24 Tryz.underlying39 h_lane z_lane s_lane b_lane rfl (by decide) (.slice AA k cq) k (lnV acc) rfl (by exact qa7 OWA.out (by repeat (first | exact Off.refl _ _ | apply Off.drew | apply oAl))) ⟨wr.heap.size, 0, none⟩ 1 1 [.int .i64 (n : Int), .int .i64 (f : Int), .int .i64 (d : Int)] rfl rfl (by exact qai wr [.int .i64 (n : Int), .int .i64 (f : Int), .int .i64 (d : Int)] 43) (by intro u hu; simp at hu; rcases hu with rfl | rfl | rfl <;> rfl) (by decide) (by unfold maxLen; omega) (by omega) (by have := Q.out.blk.lt; simp; omega) _ rfl ?_
            intro g cap w4 oW gW hat hltg
            have QA : Hid (Off Nob w1 w4 ∧ Blk w4 pb 62 #[.int .i64 W, .slice AA k cq]) := hID (Qst.gone (Q.out.go (by repeat (first | exact Off.refl _ _ | apply Off.drew | apply oAl))) gW)
            have QN : Hid (Qst w1 pb W (.slice (some ⟨g, 0, none⟩) (k + 1) cap) (acc ++ [(n, f, d)]) (w4.setCell ⟨pb, 1, none⟩ (.slice (some ⟨g, 0, none⟩) (k + 1) cap))) := hID (Qst.grow (Q.out.go (by repeat (first | exact Off.refl _ _ | apply Off.drew | apply oAl))) gW (by rw [List.length_append, HAC.out, qb2]; exact oW))
            have z0 := QA.out.2.cell 1
            have zf := QA.out.2.frozen 1
            obtain ⟨b4, o4, he4, c4⟩ := HCL.out _ QA.out.1 k hlt
            obtain ⟨rfl, rfl⟩ : bs = b4 ∧ os = o4 := by simpa using he4
            obtain ⟨b5, o5, he5, c5⟩ := HCL.out _ QN.out.off k hlt
            obtain ⟨rfl, rfl⟩ : bs = b5 ∧ os = o5 := by simpa using he5
            rw [HFK.out] at c4 c5
            simp only [qG] at z0
            clear oW gW hat hltg he4 he5
            refine hK.out _ _ ?_ (fun hHeld => ?_)
            ·first | exact c4 | go_keep
            clear hK K
            try simp only [Act.put, qL]
            refine tkH 16 ?_
            refine wpAnyH_ready (rs := [17]) (by kernel_rfl) (by simp) ?_
            refine AllReadyH.cons rfl (fun K hK => ?s217) ?m217
            case s217 =>
             go_simp
             refine hK.out _ _ ?_ (fun hHeld => ?_)
             ·first | exact c5 | go_keep
             clear hK K
             try simp only [Act.put, qL]
             refine wpAnyH_done (by kernel_rfl) ?_ _
             clear hHeld c0 c4 c5 z0 zf p1 pf pza
             go_wp2_with fail
             go_roundw
             case rel => exact ⟨k + 1, _, _, hlt, by go_num, by rw [List.length_append, HAC.out]; rfl, QN.out, by rw [HLS2.out, HRR.out]⟩
             case measure => simp [intOf]; omega
            exact AllReadyH.nil
           exact AllReadyH.nil
          exact AllReadyH.nil
         refine AllReadyH.cons rfl (fun K hK => ?s218) ?m218
         case s218 =>
          go_simp
          refine hK.out _ _ ?_ (fun hHeld => ?_)
          ·first | exact hHeld | go_keep
          clear hK K
          try simp only [Act.put, qL]
          refine wpAnyH_ready (rs := [1]) (by kernel_rfl) (by simp) ?_
          refine AllReadyH.cons rfl (fun K hK => ?s219) ?m219
          case s219 =>
           go_simp
           refine hK.out _ _ ?_ (fun hHeld => ?_)
           ·first | exact hHeld | go_keep
           clear hK K
           try simp only [Act.put, qL]
           refine wpAnyH_ready (rs := [15]) (by kernel_rfl) (by simp) ?_
           refine AllReadyH.cons rfl (fun K hK => ?s220) ?m220
           case s220 =>
            refine wp_append_lies _ _ _ 39 rfl (pb + 1) 43 i_lane (.agg #[.int .i64 0, .int .i64 0, .int .i64 0]) 3 24 Tryz.underlying39 h_lane z_lane s_lane b_lane rfl (by decide) (.slice AA k cq) k (lnV acc) rfl (by exact qa7 OWA.out (by repeat (first | exact Off.refl _ _ | apply Off.drew | apply oAl))) ⟨wr.heap.size, 0, none⟩ 1 1 [.int .i64 (n : Int), .int .i64 (f : Int), .int .i64 (d : Int)] rfl rfl (by exact qai wr [.int .i64 (n : Int), .int .i64 (f : Int), .int .i64 (d : Int)] 43) (by intro u hu; simp at hu; rcases hu with rfl | rfl | rfl <;> rfl) (by decide) (by unfold maxLen; omega) (by omega) (by have := Q.out.blk.lt; simp; omega) _ rfl ?_
            intro g cap w4 oW gW hat hltg
            have QA : Hid (Off Nob w1 w4 ∧ Blk w4 pb 62 #[.int .i64 W, .slice AA k cq]) := hID (Qst.gone (Q.out.go (by repeat (first | exact Off.refl _ _ | apply Off.drew | apply oAl))) gW)
            have QN : Hid (Qst w1 pb W (.slice (some ⟨g, 0, none⟩) (k + 1) cap) (acc ++ [(n, f, d)]) (w4.setCell ⟨pb, 1, none⟩ (.slice (some ⟨g, 0, none⟩) (k + 1) cap))) := hID (Qst.grow (Q.out.go (by repeat (first | exact Off.refl _ _ | apply Off.drew | apply oAl))) gW (by rw [List.length_append, HAC.out, qb2]; exact oW))
            have z0 := QA.out.2.cell 1
            have zf := QA.out.2.frozen 1
            obtain ⟨b4, o4, he4, c4⟩ := HCL.out _ QA.out.1 k hlt
            obtain ⟨rfl, rfl⟩ : bs = b4 ∧ os = o4 := by simpa using he4
            obtain ⟨b5, o5, he5, c5⟩ := HCL.out _ QN.out.off k hlt
            obtain ⟨rfl, rfl⟩ : bs = b5 ∧ os = o5 := by simpa using he5
            rw [HFK.out] at c4 c5
            simp only [qG] at z0
            clear oW gW hat hltg he4 he5
            refine hK.out _ _ ?_ (fun hHeld => ?_)
            ·first | exact c4 | go_keep
            clear hK K
            try simp only [Act.put, qL]
            refine tkH 16 ?_
            refine wpAnyH_ready (rs := [17]) (by kernel_rfl) (by simp) ?_
            refine AllReadyH.cons rfl (fun K hK => ?s222) ?m222
            case s222 =>
             go_simp
             refine hK.out _ _ ?_ (fun hHeld => ?_)
             ·first | exact c5 | go_keep
             clear hK K
             try simp only [Act.put, qL]
             refine wpAnyH_done (by kernel_rfl) ?_ _
             clear hHeld c0 c4 c5 z0 zf p1 pf pza
             go_wp2_with fail
             go_roundw
             case rel => exact ⟨k + 1, _, _, hlt, by go_num, by rw [List.length_append, HAC.out]; rfl, QN.out, by rw [HLS2.out, HRR.out]⟩
             case measure => simp [intOf]; omega
            exact AllReadyH.nil
           exact AllReadyH.nil
          exact AllReadyH.nil
         exact AllReadyH.nil
    ·obtain rfl : ss.length = k := by omega
     have d2 : decide ((ss.length : Int) < (ss.length : Int)) = false := dcF
     have HLR := hID (qwe HLN.out)
     have HPR := hID (qwg (S := S) (T := T) HTOPE.out HSS.out HLR.out)
     have HRU := hID (fun (W' : World) (V : Value) (h : Rd W' (fun _ => True) 3 V ss.length (lnV acc)) => qt0 W h1 (by omega) acc (by rw [HAC.out]; omega) W' V (by rw [HAC.out]; exact h))
     have HST := hID (fun (hok : qak W acc = true) (W' : World) (V : Value) (h : Rd W' (fun _ => True) 3 V ss.length (lnV acc)) => qpo W h1 (by omega) acc hok (by rw [HAC.out]; omega) W' V (by rw [HAC.out]; exact h))
     have HEN := hID (fun (hok : qak W acc = true) (r : Nat) (hr : r ≤ qbf acc) (W' : World) (V : Value) (h : Rd W' (fun _ => True) 3 V ss.length (lnV acc)) => rends W h1 (by omega) acc hok (by rw [HAC.out]; omega) r hr W' V (by rw [HAC.out]; exact h))
     have HRD := hID (Rd.own (F := fun _ => True) HOW.out (fun _ _ => trivial))
     have p0 := HQ.out.blk.cell 0
     have p1 := HQ.out.blk.cell 1
     simp only [qG] at p0 p1
     go_wp2_with fail
     refine (HRU.out _ _ HRD.out).mono ?_
     rintro e v1 ⟨i, m, rfl, hres, o1⟩
     have Q1 := hID (HQ.out.go o1)
     have OW1 := hID (qa7 HOW.out o1)
     have RD1 := hID (HRD.out.keepT o1)
     clear o1 p0 p1 s0 s1 s2 s3 s4 q0 q1 f0 f1
     rcases hres with ⟨hok, hi, rfl⟩ | ⟨hno, hm⟩
     rotate_left
     ·have HN := hID (show planR F S T W n = none by rw [HPR.out, hno]; rfl)
      clear hno
      have p0 := Q1.out.blk.cell 0
      have p1 := Q1.out.blk.cell 1
      simp only [qG] at p0 p1
      obtain ⟨s0, s1, s2, s3, s4, q0, q1, f0, f1⟩ := GC.out _ (H1.out.also Q1.out.off)
      have HRB := hID (HB0.out.2.1.to ((H1.out.also Q1.out.off).block _ HB0.out.2.1.lt id))
      go_wp2_with fail
      have XE := hID ((HRB.out.put 0 (.int .i64 W)).put 1 (.slice AA ss.length cq))
      exact bodyPost_ret (qac rfl _ _ _ _ _ (0, 0) _ rfl XE.out Tryz.underlying62 rfl Tryz.infoPl) rfl ⟨_, _, _, _, rfl, .inl ⟨HN.out, rfl⟩, ((HB0.out.2.2.also (H1.out.also Q1.out.off)).put (.inr (Nat.le_succ _)) _).put (.inr (Nat.le_succ _)) _⟩
     have HOK := hID hok
     clear hok
     by_cases hmany : i = (n : Int)
     rotate_left
     ·have e1 : (i != (n : Int)) = true := by rw [bne_iff_ne]; exact hmany
      have HN := hID (show planR F S T W n = none by
       rw [HPR.out, HOK.out, dF (show ¬ qbf acc + 1 = n from fun h => hmany (by omega))]
       rfl)
      clear hi hmany
      have p0 := Q1.out.blk.cell 0
      have p1 := Q1.out.blk.cell 1
      simp only [qG] at p0 p1
      obtain ⟨s0, s1, s2, s3, s4, q0, q1, f0, f1⟩ := GC.out _ (H1.out.also Q1.out.off)
      have HRB := hID (HB0.out.2.1.to ((H1.out.also Q1.out.off).block _ HB0.out.2.1.lt id))
      go_wp2_with fail
      have XE := hID ((HRB.out.put 0 (.int .i64 W)).put 1 (.slice AA ss.length cq))
      exact bodyPost_ret (qac rfl _ _ _ _ _ (0, 0) _ rfl XE.out Tryz.underlying62 rfl Tryz.infoPl) rfl ⟨_, _, _, _, rfl, .inl ⟨HN.out, rfl⟩, ((HB0.out.2.2.also (H1.out.also Q1.out.off)).put (.inr (Nat.le_succ _)) _).put (.inr (Nat.le_succ _)) _⟩
     subst hmany
     have HLR1 : Hid (qbf acc + 1 = n) := hID (by omega)
     clear hi
     have e1 : ((n : Int) != (n : Int)) = false := by simp
     have p0 := Q1.out.blk.cell 0
     have p1 := Q1.out.blk.cell 1
     simp only [qG] at p0 p1
     obtain ⟨s0, s1, s2, s3, s4, q0, q1, f0, f1⟩ := GC.out _ (H1.out.also Q1.out.off)
     go_wp2_with fail
     refine (HST.out HOK.out _ _ RD1.out).mono ?_
     rintro e v2 ⟨u, rfl, hu, o1⟩
     have Q2 := hID (Q1.out.go o1)
     have RD2 := hID (RD1.out.keepT o1)
     have HU := hID hu.any
     obtain ⟨Au, cu, rfl, _⟩ := hu.form
     clear o1 hu p0 p1 s0 s1 s2 s3 s4 q0 q1 f0 f1
     obtain ⟨s0, s1, s2, s3, s4, q0, q1, f0, f1⟩ := GC.out _ (H1.out.also Q2.out.off)
     have HSM := hID (qng (ofN W (qbt acc)) S (by rw [qcm]; omega) (by rw [HLS.out]; omega) v2 (.slice Au W cu) (.slice AS S.length cs) (by rw [qcm]; exact HU.out) (HS.out.keepT (HB0.out.2.2.also (H1.out.also Q2.out.off))))
     go_wp2_with fail
     refine HSM.out.mono ?_
     rintro e v3 ⟨rfl, o1⟩
     have Q3 := hID (Q2.out.go o1)
     have RD3 := hID (RD2.out.keepT o1)
     clear o1 HSM HU s0 s1 s2 s3 s4 q0 q1 f0 f1
     by_cases hst : ofN W (qbt acc) = S
     rotate_left
     ·have HN := hID (show planR F S T W n = none by rw [HPR.out, dF hst]; simp)
      rw [dF hst]
      clear hst
      have p0 := Q3.out.blk.cell 0
      have p1 := Q3.out.blk.cell 1
      simp only [qG] at p0 p1
      obtain ⟨s0, s1, s2, s3, s4, q0, q1, f0, f1⟩ := GC.out _ (H1.out.also Q3.out.off)
      have HRB := hID (HB0.out.2.1.to ((H1.out.also Q3.out.off).block _ HB0.out.2.1.lt id))
      go_wp2_with fail
      have XE := hID ((HRB.out.put 0 (.int .i64 W)).put 1 (.slice AA ss.length cq))
      exact bodyPost_ret (qac rfl _ _ _ _ _ (0, 0) _ rfl XE.out Tryz.underlying62 rfl Tryz.infoPl) rfl ⟨_, _, _, _, rfl, .inl ⟨HN.out, rfl⟩, ((HB0.out.2.2.also (H1.out.also Q3.out.off)).put (.inr (Nat.le_succ _)) _).put (.inr (Nat.le_succ _)) _⟩
     rw [dT hst]
     have HSTT := hID hst
     clear hst
     go_wp2_with fail
     go_loopw [20] (fun q wr => ∃ r : Nat, r ≤ n ∧ q = .int .i64 (r : Int) ∧ Off Nob v3 wr ∧ ∀ s, s < r → ofN W (endsN s acc) = finL F W s) (fun q _ => n - (intOf q).toNat)
     case atStart => exact ⟨0, Nat.zero_le _, rfl, Off.refl _ _, fun s hs => absurd hs (by omega)⟩
     case round =>
      obtain ⟨r, hr, rfl, hoq, hends⟩ := hrel
      have Q := hID (Q3.out.go hoq)
      have RD := hID (RD3.out.keepT hoq)
      have HOQ := hID hoq
      have HEE := hID hends
      clear hoq hends
      have p0 := Q.out.blk.cell 0
      have p1 := Q.out.blk.cell 1
      simp only [qG] at p0 p1
      obtain ⟨s0, s1, s2, s3, s4, q0, q1, f0, f1⟩ := GC.out _ (H1.out.also Q.out.off)
      by_cases hrn : r < n
      ·have d5 : decide ((r : Int) < (n : Int)) = true := dcT
       go_wp2_with fail
       refine (HEN.out HOK.out r (by have := HLR1.out; omega) _ _ RD.out).mono ?_
       rintro e x1 ⟨u1, rfl, hu, o1⟩
       have QX := hID (Q.out.go o1)
       have OX := hID (HOQ.out.also o1)
       have HU1 := hID hu.any
       obtain ⟨A1, c1, rfl, _⟩ := hu.form
       clear o1 hu p0 p1 s0 s1 s2 s3 s4 q0 q1 f0 f1
       obtain ⟨s0, s1, s2, s3, s4, q0, q1, f0, f1⟩ := GC.out _ (H1.out.also QX.out.off)
       go_wp2_with fail
       refine (HFIN.out r hrn _ (HB0.out.2.2.also (H1.out.also QX.out.off))).mono ?_
       rintro e x2 ⟨u2, rfl, hu⟩
       have QY := hID (QX.out.go hu.2)
       have OY := hID (OX.out.also hu.2)
       have HU2 := hID hu.rd
       have HU3 := hID (HU1.out.keepT hu.2)
       obtain ⟨A2, c2, rfl⟩ := hu.form
       have HSM := hID (qng (ofN W (endsN r acc)) (finL F W r) (by rw [qcm]; omega) (by rw [HFL.out r hrn]; omega) x2 (.slice A1 W c1) (.slice A2 W c2) (by rw [qcm]; exact HU3.out) (by rw [HFL.out r hrn]; exact HU2.out))
       clear hu s0 s1 s2 s3 s4 q0 q1 f0 f1
       obtain ⟨s0, s1, s2, s3, s4, q0, q1, f0, f1⟩ := GC.out _ (H1.out.also QY.out.off)
       go_wp2_with fail
       refine HSM.out.mono ?_
       rintro e x3 ⟨rfl, o1⟩
       have QZ := hID (QY.out.go o1)
       have OZ := hID (OY.out.also o1)
       clear o1 HSM HU1 HU2 HU3 s0 s1 s2 s3 s4 q0 q1 f0 f1
       by_cases hsm : ofN W (endsN r acc) = finL F W r
       ·rw [dT hsm]
        have HE2 := hID (fun s (hs : s < r + 1) => show ofN W (endsN s acc) = finL F W s from if e : s = r then e ▸ hsm else HEE.out s (by omega))
        clear hsm
        go_wp2_with fail
        go_roundw
        case rel => exact ⟨r + 1, hrn, by go_num, OZ.out, HE2.out⟩
        case measure => simp [intOf]; omega
       ·have HN := hID (show planR F S T W n = none by
         rw [HPR.out, show (List.range n).all (fun r => decide (ofN W (endsN r acc) = finL F W r)) = false from by
          rw [List.all_eq_false]
          exact ⟨r, List.mem_range.2 hrn, by rw [dF hsm]; simp⟩]
         simp)
        rw [dF hsm]
        clear hsm
        have p0 := QZ.out.blk.cell 0
        have p1 := QZ.out.blk.cell 1
        simp only [qG] at p0 p1
        obtain ⟨s0, s1, s2, s3, s4, q0, q1, f0, f1⟩ := GC.out _ (H1.out.also QZ.out.off)
        have HRB := hID (HB0.out.2.1.to ((H1.out.also QZ.out.off).block _ HB0.out.2.1.lt id))
        go_wp2_with fail
        have XE := hID ((HRB.out.put 0 (.int .i64 W)).put 1 (.slice AA ss.length cq))
        exact bodyPost_ret (qac rfl _ _ _ _ _ (0, 0) _ rfl XE.out Tryz.underlying62 rfl Tryz.infoPl) rfl ⟨_, _, _, _, rfl, .inl ⟨HN.out, rfl⟩, ((HB0.out.2.2.also (H1.out.also QZ.out.off)).put (.inr (Nat.le_succ _)) _).put (.inr (Nat.le_succ _)) _⟩
      ·obtain rfl : n = r := by omega
       have d5 : decide ((n : Int) < (n : Int)) = false := dcF
       have HALL := hID (show (List.range n).all (fun r => decide (ofN W (endsN r acc) = finL F W r)) = true by
        rw [List.all_eq_true]
        intro r hr
        exact dT (HEE.out r (List.mem_range.1 hr)))
       go_wp2_with fail
       clear p0 p1 s0 s1 s2 s3 s4 q0 q1 f0 f1
       go_loopw [23] (fun q wq => ∃ b : Nat, b ≤ 256 ∧ q = .int .i64 (b : Int) ∧ Off Nob v3 wq ∧ ∀ s, s < b → qe6 T W top s = true) (fun q _ => 256 - (intOf q).toNat)
       case atStart => exact ⟨0, Nat.zero_le _, rfl, HOQ.out, fun s hs => absurd hs (by omega)⟩
       case round =>
        obtain ⟨b, hb, rfl, hoq, hbs⟩ := hrel
        have QB := hID (Q3.out.go hoq)
        have HOB := hID hoq
        have HBS := hID hbs
        clear hoq hbs
        obtain ⟨s0, s1, s2, s3, s4, q0, q1, f0, f1⟩ := GC.out _ (H1.out.also QB.out.off)
        by_cases hb2 : b < 256
        ·have d6 : decide ((b : Int) < 256) = true := dcT
         have hu8 : IntKind.u8.wrap (b : Int) = (b : Int) := IntWalk.u8_in _ (by omega)
         have HRW := hID (r_row (.slice AI n ci) (.slice AS S.length cs) (.slice AF F.length cf) W (by omega) T HLT.out b hb2 _ _ (HT.out.keepT (HB0.out.2.2.also (H1.out.also QB.out.off))))
         go_wp2_with fail
         refine HRW.out.mono ?_
         rintro e x1 ⟨u1, rfl, hu⟩
         have QX := hID (QB.out.go hu.2)
         have OX := hID (HOB.out.also hu.2)
         have HU1 := hID hu.rd
         obtain ⟨A1, c1, rfl⟩ := hu.form
         have HON := hID (qf8 (qan T W b) (fun x hx => by
          unfold qan at hx
          obtain ⟨k, _, rfl⟩ := List.mem_map.1 hx
          exact qbg H64.out.2.2 _) (by rw [qb8]; omega) (by rw [qb8]; omega) x1 (.slice A1 W c1) (by rw [qb8]; exact HU1.out))
         clear hu s0 s1 s2 s3 s4 q0 q1 f0 f1 HRW
         obtain ⟨s0, s1, s2, s3, s4, q0, q1, f0, f1⟩ := GC.out _ (H1.out.also QX.out.off)
         go_wp2_with fail
         refine HON.out.mono ?_
         rintro e x2 ⟨u2, rfl, hu⟩
         have QY := hID (QX.out.go hu.2)
         have OY := hID (OX.out.also hu.2)
         obtain ⟨A2, c2, rfl, hcl2⟩ := qg0 hu.rd
         have HC2 := hID hcl2
         have HLB : Hid (qe6 T W top b = decide ((onesN (qan T W b)).getLastD 0 + (if (onesN (qan T W b)).isEmpty then 0 else 1) ≤ top)) := hID rfl
         have hlb := qcr (qan T W b)
         rw [qb8] at hlb
         have HM2 := hID (fun p hp => (qaq (L := qan T W b) (p := p)).1 hp |>.1)
         rw [qb8] at HM2
         clear hu hcl2 HON HU1 s0 s1 s2 s3 s4 q0 q1 f0 f1
         revert HC2 HLB hlb HM2
         generalize onesN (qan T W b) = L
         intro HC2 HLB hlb HM2
         by_cases hz : L.length = 0
         ·have e2 : decide ((0 : Int) < (L.length : Int)) = false := dcF
          have e2n : decide (0 < L.length) = false := dcF
          have HLT2 := hID (show qe6 T W top b = true by rw [HLB.out, List.length_eq_zero_iff.1 hz]; simp)
          have HB2 := hID (fun s (hs : s < b + 1) => show qe6 T W top s = true from if e : s = b then e ▸ HLT2.out else HBS.out s (by omega))
          clear hz
          go_wp2_with fail
          go_roundw
          case rel => exact ⟨b + 1, hb2, by go_num, OY.out, HB2.out⟩
          case measure => simp [intOf]; omega
         ·have e2 : decide ((0 : Int) < (L.length : Int)) = true := dcT
          have e2n : decide (0 < L.length) = true := dcT
          obtain ⟨b2, o2, rfl, c0⟩ := HC2.out _ oRf (L.length - 1) (by omega)
          have hx : L.getD (L.length - 1) 0 < 64 * W := HM2.out _ (qd1 (by omega))
          have HLX := hID (show qe6 T W top b = decide (L.getD (L.length - 1) 0 < top) by
           rw [HLB.out, qt8 hz, show L.isEmpty = false from by cases L with | nil => simp at hz | cons _ _ => rfl]
           rfl)
          have hsub : (L.length : Int) - 1 = ((L.length - 1 : Nat) : Int) := by omega
          have hq : L.length - 1 < L.length := by omega
          obtain ⟨q, hqe⟩ : ∃ q, L.length - 1 = q := ⟨_, rfl⟩
          rw [hqe] at c0 hsub hq hx HLX
          obtain ⟨x, hxe⟩ : ∃ x, L.getD q 0 = x := ⟨_, rfl⟩
          rw [hxe] at c0 hx HLX
          clear hqe hxe hz HLB HC2 HM2
          by_cases hxt : x < top
          ·have e3 : decide ((top : Int) ≤ (x : Int)) = false := dcF
           have e3n : decide (top ≤ x) = false := dcF
           have HB2 := hID (fun s (hs : s < b + 1) => show qe6 T W top s = true from if e : s = b then e ▸ (by rw [HLX.out]; exact dT hxt) else HBS.out s (by omega))
           go_wp2_with fail
           go_roundw
           case rel => exact ⟨b + 1, hb2, by go_num, OY.out, HB2.out⟩
           case measure => simp [intOf]; omega
          ·have e3 : decide ((top : Int) ≤ (x : Int)) = true := dcT
           have e3n : decide (top ≤ x) = true := dcT
           have HN := hID (show planR F S T W n = none by
            rw [HPR.out, show qed T W top = false from by
             unfold qed
             rw [List.all_eq_false]
             exact ⟨b, List.mem_range.2 hb2, by have h6 := HLX.out; unfold qe6 at h6; rw [h6, dF hxt]; simp⟩]
            simp)
           have p0 := QY.out.blk.cell 0
           have p1 := QY.out.blk.cell 1
           simp only [qG] at p0 p1
           obtain ⟨s0, s1, s2, s3, s4, q0, q1, f0, f1⟩ := GC.out _ (H1.out.also QY.out.off)
           have HRB := hID (HB0.out.2.1.to ((H1.out.also QY.out.off).block _ HB0.out.2.1.lt id))
           go_wp2_with fail
           have XE := hID ((HRB.out.put 0 (.int .i64 W)).put 1 (.slice AA ss.length cq))
           exact bodyPost_ret (qac rfl _ _ _ _ _ (0, 0) _ rfl XE.out Tryz.underlying62 rfl Tryz.infoPl) rfl ⟨_, _, _, _, rfl, .inl ⟨HN.out, rfl⟩, ((HB0.out.2.2.also (H1.out.also QY.out.off)).put (.inr (Nat.le_succ _)) _).put (.inr (Nat.le_succ _)) _⟩
        ·obtain rfl : b = 256 := by omega
         have d6 : decide ((256 : Int) < 256) = false := rfl
         have HTB := hID (show qed T W top = true by
          unfold qed
          rw [List.all_eq_true]
          intro b hb
          exact HBS.out b (List.mem_range.1 hb))
         have HN := hID (show planR F S T W n = some acc by
          rw [HPR.out, HOK.out, dT HLR1.out, dT HSTT.out, HALL.out, HTB.out]
          rfl)
         have p0 := QB.out.blk.cell 0
         have p1 := QB.out.blk.cell 1
         simp only [qG] at p0 p1
         obtain ⟨s0, s1, s2, s3, s4, q0, q1, f0, f1⟩ := GC.out _ (H1.out.also QB.out.off)
         have HRB := hID (HB0.out.2.1.to ((H1.out.also QB.out.off).block _ HB0.out.2.1.lt id))
         go_wp2_with fail
         have XE := hID ((HRB.out.put 0 (.int .i64 W)).put 1 (.slice AA ss.length cq))
         exact bodyPost_ret (qac rfl _ _ _ _ _ (0, 0) _ rfl XE.out Tryz.underlying62 rfl Tryz.infoPl) rfl ⟨_, _, _, _, rfl, .inr ⟨acc, HN.out, rfl, Rd.own (qwh (b := w.heap.size + 1) QB.out.own (by have h1 := HB0.out.2.1.lt; have h2 := H1.out.size; have h3 := QB.out.lo; omega)) (fun k hk => by have h1 := HB0.out.2.1.lt; have h2 := H1.out.size; have h3 := QB.out.lo; have h4 := (QB.out.own.lt k hk).1; omega)⟩, ((HB0.out.2.2.also (H1.out.also QB.out.off)).put (.inr (Nat.le_succ _)) _).put (.inr (Nat.le_succ _)) _⟩
end
section
open Go.RowKit
end
end Go.Proofs.YtlgjaefcfnndhaaGreatDoor
