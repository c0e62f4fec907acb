/-
 dragnetref17.Find of a plan that is right; dragnetref20's Alive.
-/
import Derived.Test.YtlgjaefcfnndhaaGreatDoorM43
import Derived.Test.YtlgjaefcfnndhaaGreatDoorM39
import Derived.Test.YtlgjaefcfnndhaaGreatDoorM42
import Derived.Test.YtlgjaefcfnndhaaGreatDoorM48
import Derived.Test.YtlgjaefcfnndhaaGreatDoorMGoD
set_option linter.unusedVariables false
set_option linter.unusedSimpArgs false
set_option maxHeartbeats 16000000
set_option maxRecDepth 100000
namespace Go.Proofs.YtlgjaefcfnndhaaGreatDoor
section
open Go.RowKit
theorem qz5 (W : Nat) (h1 : 1 ≤ W) (hW : W ≤ 8) (l : List Ln) (hn : l.length ≤ 256) (hok : qal W l = true) (k : Nat) (hk : k < lnEnd 0 l) (w : World) (v : Value) (hv : Rd w (fun _ => True) 3 v l.length (lnV l)) :
  Calls Tryz.prog 34 #[.agg #[.int .i64 W, v], .int .i64 (k : Int)] w (RetV w (.tuple #[.int .i64 (laneI l k : Int), .int .i64 ((k - (l.getD (laneI l k) (0, 0, 0)).2.1 : Nat) : Int), .int .i64 0])) := by
 obtain ⟨A, c, rfl, _, hcell⟩ := hv.form
 have hz := (LnFacts.of hok).pos
 have he := (LnFacts.of hok).e256
 obtain ⟨b, o, rfl, hlt, hc⟩ := hcell hz
 have HC : Hid (∀ V, Off Nob w V → ∀ i, i < l.length → V.cell? ⟨b, o + i * 3 + 1, none⟩ = some (.int .i64 ((l.getD i (0, 0, 0)).2.1 : Int)) ∧ V.cell? ⟨b, o + i * 3 + 2, none⟩ = some (.int .i64 ((l.getD i (0, 0, 0)).2.2 : Int))) := hID (fun V oV i hi => by
  rw [oV.cell_old hlt, oV.cell_old hlt, Nat.add_assoc, Nat.add_assoc]
  exact ⟨hc _ _ (qc5 hi).2.1, hc _ _ (qc5 hi).2.2⟩)
 have hsp : laneI l k < l.length ∧ (l.getD (laneI l k) (0, 0, 0)).2.1 ≤ k ∧ k < (l.getD (laneI l k) (0, 0, 0)).2.1 + (l.getD (laneI l k) (0, 0, 0)).2.2 ∧ (∀ i, i < laneI l k → (l.getD i (0, 0, 0)).2.1 + (l.getD i (0, 0, 0)).2.2 ≤ k) := by
  have h := hok
  unfold qal at h
  simp only [Bool.and_eq_true] at h
  obtain ⟨q1, q2, q3, q4, q5, q6⟩ := qcv l 0 0 false k h.1.2 (Nat.zero_le _) hk
  exact ⟨q1, q2, q3, q6⟩
 have HALL := hID (fun (i : Nat) (hi : i < l.length) => show (l.getD i (0, 0, 0)).2.1 ≤ 256 ∧ (l.getD i (0, 0, 0)).2.2 ≤ 256 by
  have hm : l.getD i (0, 0, 0) ∈ l := by rw [List.getD_eq_getElem?_getD, List.getElem?_eq_getElem hi]; exact List.getElem_mem hi
  have := (LnFacts.of hok).all _ hm
  omega)
 have HSP := hID (fun (V : World) (oV : Off Nob w V) => qqc W h1 hW l (by omega) hok V _ (hv.keepT oV))
 obtain ⟨i, hi⟩ : ∃ i, laneI l k = i := ⟨_, rfl⟩
 rw [hi] at hsp
 rw [hi]
 have HI := hID hsp
 have hin := hsp.1
 obtain ⟨n, hn2⟩ : ∃ n, l.length = n := ⟨_, rfl⟩
 rw [hn2] at hn hz hin HSP HC HALL
 obtain ⟨sp, hsp2⟩ : ∃ sp, lnEnd 0 l = sp := ⟨_, rfl⟩
 rw [hsp2] at hk HSP he
 have hkb : k < 256 := by omega
 have e0 : decide ((k : Int) < 0) = false := dcF
 have e2 : decide ((sp : Int) ≤ (k : Int)) = false := dcF
 have e3 : decide (sp ≤ k) = false := dcF
 rw [show l.length = n from hn2]
 clear hv hcell hc hi hn2 hsp2 hok hlt hsp hk he
 go_enter Tryz.func34, Tryz.ntmps34
 have HB0 : Hid (Blk (w.alloc (.cells #[.int .i64 W, .slice (some ⟨b, o, none⟩) n c] 62)) w.heap.size 62 #[.int .i64 W, .slice (some ⟨b, o, none⟩) n c] ∧ Off Nob w (w.alloc (.cells #[.int .i64 W, .slice (some ⟨b, o, none⟩) n c] 62))) := hID ⟨Blk.new _ _ _, Off.alloc oRf _⟩
 go_wp2_with fail
 revert HB0
 generalize (w.alloc (.cells #[.int .i64 W, .slice (some ⟨b, o, none⟩) n c] 62)) = w0
 intro HB0
 have GC : Hid (∀ V, Off Nob w0 V → V.cell? ⟨w.heap.size, 0, none⟩ = some (.int .i64 W) ∧ V.cell? ⟨w.heap.size, 1, none⟩ = some (.slice (some ⟨b, o, none⟩) n c)) := hID (fun V ho => by
  have h := HB0.out.1.to (ho.block _ HB0.out.1.lt id)
  exact ⟨h.cell 0, h.cell 1⟩)
 obtain ⟨t0, t1⟩ := GC.out _ oRf
 go_wp2_with fail
 refine (HSP.out _ HB0.out.2).mono ?_
 rintro e w1 ⟨rfl, o1⟩
 have X1 := hID o1
 clear o1 t0 t1 HSP
 go_wp2_with fail
 go_loopw [9] (fun x wr => ∃ j : Nat, j ≤ i ∧ x = .int .i64 (j : Int) ∧ Off Nob w0 wr) (fun x _ => i - (intOf x).toNat)
 case atStart => exact ⟨0, Nat.zero_le _, rfl, X1.out⟩
 case round =>
  obtain ⟨j, hj, rfl, oj⟩ := hrel
  have OJ := hID oj
  clear oj
  obtain ⟨t0, t1⟩ := GC.out _ OJ.out
  have hjn : j < n := by omega
  obtain ⟨q1, q2⟩ := HC.out _ (HB0.out.2.also OJ.out) j hjn
  have hb := HALL.out j hjn
  have HLT := hID (fun (h : j < i) => HI.out.2.2.2 j h)
  have HEQ := hID (fun (h : j = i) => show (l.getD j (0, 0, 0)).2.1 ≤ k ∧ k < (l.getD j (0, 0, 0)).2.1 + (l.getD j (0, 0, 0)).2.2 by rw [h]; exact ⟨HI.out.2.1, HI.out.2.2.1⟩)
  obtain ⟨f, hf⟩ : ∃ f, (l.getD j (0, 0, 0)).2.1 = f := ⟨_, rfl⟩
  obtain ⟨d, hd⟩ : ∃ d, (l.getD j (0, 0, 0)).2.2 = d := ⟨_, rfl⟩
  have HF := hID hf
  rw [hf] at q1 hb HLT HEQ
  rw [hd] at q2 hb HLT HEQ
  clear hf hd
  obtain ⟨hf256, hd256⟩ := hb
  have hwr : IntKind.i64.wrap ((f : Int) + (d : Int)) = (f : Int) + (d : Int) := by rw [IntKind.wrap_i64]; omega
  by_cases hlt : j < i
  ·have d1 : decide ((f : Int) + (d : Int) ≤ (k : Int)) = true := decide_eq_true (by have := HLT.out hlt; omega)
   have d2 : decide (f + d ≤ k) = true := decide_eq_true (HLT.out hlt)
   have T0 : (wr.drew.cell? ⟨w.heap.size, 0, none⟩ = some (.int .i64 W) ∧ wr.drew.cell? ⟨w.heap.size, 1, none⟩ = some (.slice (some ⟨b, o, none⟩) n c)) := ⟨t0, t1⟩
   go_wp2_with fail
   go_quiet (fail)
   go_wp2_with fail
   go_roundw
   case rel => exact ⟨j + 1, hlt, by go_num, OJ.out.drewN _⟩
   case measure => simp [intOf]; omega
  ·obtain rfl : j = i := by omega
   obtain ⟨g1, g2⟩ := HEQ.out rfl
   have d1 : decide ((f : Int) + (d : Int) ≤ (k : Int)) = false := dcF
   have d2 : decide (f + d ≤ k) = false := dcF
   have hwk : IntKind.i64.wrap ((k : Int) - (f : Int)) = ((k - f : Nat) : Int) := by rw [IntKind.wrap_i64]; omega
   go_wp2_with fail
   go_quiet (fail)
   go_wp2_with fail
   go_quiet (fail)
   go_wp2_with fail
   go_ret3
   exact ⟨by rw [HF.out]; rfl, ((HB0.out.2.also OJ.out).drewN _).drewN _⟩
end
section
open Go.RowKit Go.Conc Go.Pip Go.Ride
noncomputable def qgm : Code := Tryz.f7.body.getD .skip
noncomputable def qkp : Code := match qgm with | .seq _ (.seq _ r) => r | _ => .skip
noncomputable def qqk : Code := match qkp with | .seq _ (.seq _ r) => r | _ => .skip
noncomputable def qql : Code := match qqk with | .seq _ (.seq _ r) => r | _ => .skip
noncomputable def qqm : Code := match qql with | .seq _ r => r | _ => .skip
noncomputable def poLoop : Code := match qqm with | .seq _ (.seq l _) => l | _ => .skip
theorem qsy {B : List Nat} {k : Nat} (h : k < B.length) : (qa0 B)[k]? = some (.int .u8 ((B.getD k 0 : Nat) : Int)) := by
 unfold qa0
 rw [List.getElem?_map, List.getElem?_eq_getElem h, List.getD_eq_getElem?_getD, List.getElem?_eq_getElem h]
 rfl
theorem ClsAt.put2 {V : World} {g n xB : Nat} {L : Nat → Q4} (h : ClsAt V g n L) (hne : g ≠ xB) (a b : Value) : ClsAt ((V.setCell ⟨xB, 0, none⟩ a).setCell ⟨xB, 1, none⟩ b) g n L := by
 refine ⟨by simpa using h.lt, fun q hq => ?_⟩
 have key : ∀ (j : Nat), ((V.setCell ⟨xB, 0, none⟩ a).setCell ⟨xB, 1, none⟩ b).cell? ⟨g, j, none⟩ = V.cell? ⟨g, j, none⟩ := fun j => by
  rw [World.cell?_setCell_far _ _ _ _ (Ne.symm hne), World.cell?_setCell_far _ _ _ _ (Ne.symm hne)]
 rw [key, key, key, key]
 exact h.c q hq
theorem put2_off (V : World) (y : Nat) (a b : Value) : Off (fun j => j = y) V ((V.setCell ⟨y, 0, none⟩ a).setCell ⟨y, 1, none⟩ b) := Off.put (F := fun j => j = y) (Off.put (F := fun j => j = y) oRf (.inl rfl) _) (.inl rfl) _
def wantK (T : List Nat) (W : Nat) (B : List Nat) (f p k : Nat) : Bool := decide (p < B.length) && (List.range k).all (fun j => bitAt (qaf T W (B.getD (B.length - 1 - p + j) 0)) (f + j))
theorem qkq (T : List Nat) (W : Nat) (B : List Nat) (f p k : Nat) : wantK T W B f p (k + 1) = (wantK T W B f p k && bitAt (qaf T W (B.getD (B.length - 1 - p + k) 0)) (f + k)) := by
 unfold wantK
 rw [List.range_succ, List.all_append, Bool.and_assoc]
 simp
theorem qkr {T : List Nat} {W : Nat} {B : List Nat} {f p k : Nat} (h : wantK T W B f p k = false) : ∀ m, k ≤ m → wantK T W B f p m = false
 | 0, hm => by
  have e : k = 0 := by omega
  rw [e] at h
  exact h
 | m + 1, hm => by
  by_cases e : k = m + 1
  ·subst e; exact h
  ·rw [qkq, qkr h m (by omega), Bool.false_and]
theorem qi4 (T : List Nat) (W f : Nat) : ∀ (R : List Nat) (p : Nat), p < R.length → qb8 T W f R p = (List.range (p + 1)).all (fun k => bitAt (qaf T W (R.getD (p - k) 0)) (f + k))
 | [], p, h => by simp at h
 | b :: R, 0, h => by simp [qb8]
 | b :: R, p + 1, h => by
  have ih := qi4 T W f R p (by simpa using h)
  rw [List.range_succ, List.all_append]
  simp only [qb8, ih]
  have e : (List.range (p + 1)).all (fun k => bitAt (qaf T W ((b :: R).getD (p + 1 - k) 0)) (f + k)) = (List.range (p + 1)).all (fun k => bitAt (qaf T W (R.getD (p - k) 0)) (f + k)) := by
   rw [Bool.eq_iff_iff, List.all_eq_true, List.all_eq_true]
   constructor
   ·intro h k hk
    have := h k hk
    have hk2 := List.mem_range.1 hk
    rwa [show p + 1 - k = (p - k) + 1 by omega, List.getD_cons_succ] at this
   ·intro h k hk
    have := h k hk
    have hk2 := List.mem_range.1 hk
    rwa [show p + 1 - k = (p - k) + 1 by omega, List.getD_cons_succ]
  rw [e, Bool.and_comm]
  simp
theorem qoh {T : List Nat} {W f p : Nat} {B : List Nat} (h : p < B.length) : qb8 T W f B.reverse p = wantK T W B f p (p + 1) := by
 rw [qi4 T W f B.reverse p (by rw [List.length_reverse]; exact h)]
 unfold wantK
 have d : decide (p < B.length) = true := decide_eq_true h
 rw [d, Bool.true_and, Bool.eq_iff_iff, List.all_eq_true, List.all_eq_true]
 have e : ∀ k, k ∈ List.range (p + 1) → B.reverse.getD (p - k) 0 = B.getD (B.length - 1 - p + k) 0 := fun k hk => by
  have hk2 := List.mem_range.1 hk
  rw [List.getD_eq_getElem?_getD, List.getD_eq_getElem?_getD, List.getElem?_reverse (by omega)]
  rw [show B.length - 1 - (p - k) = B.length - 1 - p + k by omega]
 constructor
 ·intro g k hk; rw [← e k hk]; exact g k hk
 ·intro g k hk; rw [e k hk]; exact g k hk
theorem qsz {T S F : List Nat} {W n : Nat} {l : List Ln} (h : PlanOk T S F W n l) (hSl : S.length = W) (hT64 : ∀ x ∈ T, x < 18446744073709551616) (B : List Nat) {i : Nat} (hi : i < lnEnd 0 l) :
  bitAt (qan T S W B (List.replicate W 0)) i = wantK T W B (l.getD (laneI l i) (0, 0, 0)).2.1 (i - (l.getD (laneI l i) (0, 0, 0)).2.1) (i - (l.getD (laneI l i) (0, 0, 0)).2.1 + 1) := by
 have hok : lnOk 0 0 false l = true := by
  have := h.ok
  unfold qal at this
  simp only [Bool.and_eq_true] at this
  exact this.1.2
 obtain ⟨q1, q2, q3, _⟩ := qcv l 0 0 false i hok (Nat.zero_le _) hi
 have hm := qfp q1
 obtain ⟨x, hx⟩ : ∃ x, l.getD (laneI l i) (0, 0, 0) = x := ⟨_, rfl⟩
 rw [hx] at q2 q3 hm ⊢
 obtain ⟨g1, g2, g3⟩ := h.lane hSl hm
 obtain ⟨p, rfl⟩ : ∃ p, i = x.2.1 + p := ⟨i - x.2.1, by omega⟩
 have ep : x.2.1 + p - x.2.1 = p := by omega
 rw [ep]
 have a := qfs hT64 g1 g2 g3 (List.replicate W 0) (fun y hy => by rw [List.eq_of_mem_replicate hy]; decide) B.reverse p (by omega)
 rw [List.reverse_reverse, List.length_reverse] at a
 rw [a]
 by_cases hp : p < B.length
 ·rw [if_pos hp, qoh hp]
 ·rw [if_neg hp]
  have z : bitAt (List.replicate W 0) (x.2.1 + p - B.length) = false := by
   unfold bitAt
   rw [List.getD_eq_getElem?_getD, List.getElem?_replicate]
   split <;> simp
  rw [z, Bool.false_and]
  unfold wantK
  have d : decide (p < B.length) = false := decide_eq_false hp
  rw [d, Bool.false_and]
theorem qw4 {T : List Nat} {W : Nat} {B : List Nat} {l : List Ln} {Y : List Nat} {n : Nat} (hw : 1 ≤ W ∧ W ≤ 4) (hok : qal W l = true) (hn : lnEnd 0 l = n) (hB : ∀ b ∈ B, b < 256) (hB40 : B.length ≤ 40) (hY : ∀ x ∈ Y, x < 18446744073709551616) (hYl : Y.length = W) {Lb : Nat} (hLb : B.length = Lb)
  (hst : ∀ i, i < n → bitAt Y i = wantK T W B (l.getD (laneI l i) (0, 0, 0)).2.1 (i - (l.getD (laneI l i) (0, 0, 0)).2.1) (i - (l.getD (laneI l i) (0, 0, 0)).2.1 + 1))
  (V : World) {pB xB g : Nat} {AP AY bp : Option Addr} {cp cy bcap : Nat} {at_ : Int} {L : Nat → Q4} (hp : Blk V pB 62 #[.int .i64 (W : Int), .slice AP l.length cp]) (hlr : Rd V (fun _ => True) 3 (.slice AP l.length cp) l.length (lnV l)) (hx : Blk V xB 27 #[.slice AY W cy, .int .i64 at_]) (hxr : Rd V (fun _ => True) 1 (.slice AY W cy) W (qab Y))
  (hbr : Rd V (fun _ => True) 1 (.slice bp Lb bcap) Lb (qa0 B)) (hcl : ClsAt V g n L) (hL : ∀ q, q < n → ∀ b, b < 256 → hasN (L q) b = bitAt (qaf T W b) q) (A0 A2 u3 u6 u8 u10 u11 u12 u13 u14 u15 u16 u17 u18 u19 u20 u21 u22 u23 u24 u25 u26 u27 u28 u29 u30 u31 u32 u33 u34 u35 u36 u37 u38 u39 u40 u41 u42 u43 u44 u45 u46 u47 u48 u49 u50 u51 u52 u53 u54 u55 u56 u57 u58 u59 : Value) :
  poLoop.wp Tryz.prog (QN fun a w => Off Nob V w ∧ a.defers = [] ∧ a.tmps.size = 123) ⟨#[A0, .slice bp Lb bcap, A2, u3, .bool false, .pointer (some ⟨pB, 0, none⟩), u6, .slice (some ⟨g, 0, none⟩) n n, u8, .pointer (some ⟨xB, 0, none⟩), u10, u11, u12, u13, u14, u15, u16, u17, u18, u19, u20, u21, u22, u23, u24, u25, u26, u27, u28, u29, u30, u31, u32, u33, u34, u35, u36, u37, u38, u39, u40, u41, u42, u43, u44, u45, u46, u47, u48, u49, u50, u51, u52, u53, u54, u55, u56, u57, u58, u59, undef, undef, undef, undef, undef, undef, undef, undef, undef, undef, undef, undef, undef, undef, undef, undef, undef, undef, undef, undef, undef, undef, undef, undef, undef, undef, undef, undef, undef, undef, undef, undef, undef, undef, undef, undef, undef, undef, undef, undef, undef, undef, undef, undef, undef, undef, undef, undef, undef, undef, undef, undef, undef, undef, undef, undef, undef, undef, undef, undef, undef, undef, undef], []⟩ V := by
 have lf := LnFacts.of hok
 have hn256 : n ≤ 256 := by rw [← hn]; exact lf.e256
 have HPB := hID (fun (W' : World) (o : Off Nob V W') => hp.to (o.block _ hp.lt id))
 have HXB := hID (fun (W' : World) (o : Off Nob V W') => hx.to (o.block _ hx.lt id))
 have HFD := hID (fun (k : Nat) (hk : k < n) (W' : World) (o : Off Nob V W') => qz5 W hw.1 (by omega) l lf.len hok k (by rw [hn]; exact hk) W' _ (hlr.keepT o))
 have HGT := hID (fun (i : Nat) (hi : i < n) (W' : World) (o : Off Nob V W') => g_Get Y hY i (by have := lf.e64; rw [hYl]; omega) (by omega) W' (.slice AY W cy) (by rw [hYl]; exact hxr.keepT o))
 have HST := hID hst
 have HSP : Hid (∀ i, i < n → laneI l i < l.length ∧ (l.getD (laneI l i) (0, 0, 0)).2.1 ≤ i) := hID (fun i hi => by
  unfold qal at hok
  simp only [Bool.and_eq_true] at hok
  obtain ⟨q1, q2, _⟩ := qcv l 0 0 false i hok.1.2 (Nat.zero_le _) (by rw [hn]; exact hi)
  exact ⟨q1, q2⟩)
 have HLR := hID hlr
 have HLEN := hID lf.len
 have HBR := hID hbr
 have HCL := hID hcl
 have HLP := hID hL
 have HBB := hID hB
 have HLB := hID hLb
 have hLb40 : Lb ≤ 40 := by omega
 have HL40 := hID hLb40
 clear lf hp hlr hx hxr hbr hcl hL hst hB hY hYl hw hn hok hB40 hLb
 simp only [poLoop, qqm, qql, qqk, qkp, qgm, Tryz.f7, Option.getD_some]
 go_wp2_with fail
 go_loopw [4, 11] (fun t q wr => ∃ i : Nat, i ≤ n ∧ t = .bool false ∧ q = .int .i64 (i : Int) ∧ Off Nob V wr) (fun _ q _ => n - (intOf q).toNat)
 case atStart => exact ⟨0, Nat.zero_le _, rfl, rfl, Off.refl _ _⟩
 case round =>
  obtain ⟨i, hi, rfl, rfl, ho⟩ := hrel
  have HO := hID ho
  clear ho
  by_cases hin : i < n
  ·have d1 : decide ((i : Int) < (n : Int)) = true := dcT
   have d1n : decide (i < n) = true := decide_eq_true hin
   have HIN := hID hin
   have p0 := (HPB.out wr HO.out).cell 0
   have p1 := (HPB.out wr HO.out).cell 1
   obtain ⟨hla, hfi⟩ := HSP.out i hin
   have hst := HST.out i hin
   obtain ⟨AL, cl, he, _, hca⟩ := qea HLR.out (by decide)
   injection he with he1 he2 he3
   subst he1 he3
   have HCA := hID hca
   have hfd := HFD.out i hin
   obtain ⟨e1, e2, e3⟩ := qc5 (l := l) hla
   have HE2 := hID e2
   have hll := HLEN.out
   clear e1 e3 hca he2 e2
   obtain ⟨la, hle⟩ : ∃ la, laneI l i = la := ⟨_, rfl⟩
   rw [hle] at hla hfi hst hfd HE2
   obtain ⟨f, hfe⟩ : ∃ f, (l.getD la (0, 0, 0)).2.1 = f := ⟨_, rfl⟩
   rw [hfe] at hfi hst hfd HE2
   clear hle hfe
   obtain ⟨p, hpe⟩ : ∃ p, i - f = p := ⟨_, rfl⟩
   rw [hpe] at hst hfd
   have hip : f + p = i := by omega
   have HIP := hID hip
   have HSTT := hID hst
   have HFF := hID hfd
   have HLA := hID hla
   obtain ⟨nl, hnl⟩ : ∃ nl, l.length = nl := ⟨_, rfl⟩
   rw [hnl] at hla hll HLA HPB HLR HCA
   have HNL := hID hnl
   rw [hnl] at p1 HFF
   have hp256 : p < 256 := by omega
   have hf256 : f < 256 := by omega
   clear hst hfd hpe hip hnl
   go_wp2_with fail
   refine (HFF.out wr HO.out).mono ?_
   rintro e w2 ⟨rfl, o2⟩
   have H2 := hID (HO.out.also o2)
   have q0 := (HPB.out w2 H2.out).cell 0
   have q1 := (HPB.out w2 H2.out).cell 1
   obtain ⟨bl, ol, rfl, hcc⟩ := HCA.out w2 H2.out (by omega)
   have q2 := hcc _ _ HE2.out
   rw [← Nat.add_assoc] at q2
   have dL : decide ((p : Int) < (Lb : Int)) = wantK T W B f p 0 := by
    unfold wantK
    rw [HLB.out]
    simp
   have dLn : decide (p < Lb) = wantK T W B f p 0 := by
    unfold wantK
    rw [HLB.out]
    simp
   clear o2 p0 p1 hcc HO HFF
   go_wp2_with fail
   clear q0 q1 q2 d1 d1n
   go_loopw [16, 17] (fun x y wq => ∃ k : Nat, k ≤ p + 1 ∧ x = .bool (wantK T W B f p k) ∧ y = .int .i64 (k : Int) ∧ Off Nob V wq) (fun _ y _ => p + 1 - (intOf y).toNat)
   case atStart => exact ⟨0, Nat.zero_le _, by first | rfl | rw [dL] | rw [dLn], rfl, H2.out⟩
   case round =>
    obtain ⟨k, hk, rfl, rfl, hoq⟩ := hrel
    have HQ := hID hoq
    clear hoq dL dLn H2
    have x0 := (HXB.out wr HQ.out).cell 0
    have x1 := (HXB.out wr HQ.out).cell 1
    by_cases hkp : k ≤ p
    ·have d2 : decide ((k : Int) ≤ (p : Int)) = true := dcT
     have d2n : decide (k ≤ p) = true := decide_eq_true hkp
     cases hwk : wantK T W B f p k
     ·have HBV : Hid (bitAt Y i = false) := hID (by rw [HSTT.out]; exact qkr hwk _ (by omega))
      clear hwk
      go_wp2_with fail
      refine (HGT.out i HIN.out wr HQ.out).mono ?_
      rintro e w5 ⟨rfl, o5⟩
      rw [HBV.out]
      have H5 := hID (HQ.out.also o5)
      have dd : (false != false) = false := by simp
      clear o5 x0 x1
      go_wp2_with fail
      go_roundw
      case rel => exact ⟨i + 1, HIN.out, rfl, by go_num, H5.out⟩
      case measure => have := HIN.out; simp [intOf]; omega
     ·have hpl : p < Lb := by
       unfold wantK at hwk
       rw [HLB.out] at hwk
       simp only [Bool.and_eq_true, decide_eq_true_eq] at hwk
       exact hwk.1
      obtain ⟨ix, hix⟩ : ∃ ix, f + k = ix := ⟨_, rfl⟩
      obtain ⟨l1, hl1⟩ : ∃ l1, Lb - 1 = l1 := ⟨_, rfl⟩
      obtain ⟨l2, hl2⟩ : ∃ l2, l1 - p = l2 := ⟨_, rfl⟩
      obtain ⟨mx, hmx⟩ : ∃ mx, l2 + k = mx := ⟨_, rfl⟩
      have hiL : i < n := HIN.out
      have hipp := HIP.out
      have hLB40 := HL40.out
      have E1 : IntKind.i64.wrap ((f : Int) + (k : Int)) = (ix : Int) := by rw [IntKind.wrap_i64]; omega
      have E2 : IntKind.i64.wrap ((Lb : Int) - 1) = (l1 : Int) := by rw [IntKind.wrap_i64]; omega
      have E3 : IntKind.i64.wrap ((l1 : Int) - (p : Int)) = (l2 : Int) := by rw [IntKind.wrap_i64]; omega
      have E4 : IntKind.i64.wrap ((l2 : Int) + (k : Int)) = (mx : Int) := by rw [IntKind.wrap_i64]; omega
      have hixn : ix < n := by omega
      have hmxl : mx < Lb := by omega
      obtain ⟨v, hv⟩ : ∃ v, B.getD mx 0 = v := ⟨_, rfl⟩
      have HV256 : Hid (v < 256) := hID (by
       rw [← hv, List.getD_eq_getElem?_getD, List.getElem?_eq_getElem (by rw [HLB.out]; exact hmxl)]
       exact HBB.out _ (List.getElem_mem _))
      obtain ⟨a, ha⟩ : ∃ a, L ix = a := ⟨_, rfl⟩
      have HBT : Hid (hasN a v = bitAt (qaf T W v) ix) := hID (by rw [← ha]; exact HLP.out ix hixn v HV256.out)
      have HWS : Hid (wantK T W B f p (k + 1) = bitAt (qaf T W v) ix) := hID (by
       rw [qkq, hwk, Bool.true_and, HLB.out, hl1, hl2, hmx, hv, hix])
      obtain ⟨bb, ob, cb, hee, hcc⟩ := HBR.out.cellsT (by omega)
      injection hee with hee1 hee2 hee3
      subst hee1
      have HCS : Hid (∀ V', Off Nob V V' → (fun Wq => (Wq.cell? ⟨g, ix * 4, none⟩ = some (.int .u64 ((a.1 : Nat) : Int)) ∧ Wq.cell? ⟨g, ix * 4 + 1, none⟩ = some (.int .u64 ((a.2.1 : Nat) : Int)) ∧ Wq.cell? ⟨g, ix * 4 + 2, none⟩ = some (.int .u64 ((a.2.2.1 : Nat) : Int)) ∧ Wq.cell? ⟨g, ix * 4 + 3, none⟩ = some (.int .u64 ((a.2.2.2 : Nat) : Int))) ∧ Wq.cell? ⟨bb, ob + mx, none⟩ = some (.int .u8 (v : Int))) V') := hID (fun V' o => by
       refine ⟨?_, hcc V' o mx _ ?_⟩
       ·have h := (HCL.out.go (Lies.of' o)).c ix hixn
        rw [ha] at h
        exact h
       ·rw [← hv]
        exact qsy (by rw [HLB.out]; exact hmxl))
      have HKP := hID hkp
      clear hcc hee2 hee3 hv ha hwk hix hl1 hl2 hmx hiL hipp hLB40 x0 x1 hkp
      go_wp2_with fail
      refine wp_region_held_drew (S := fun Wq => (Wq.cell? ⟨g, ix * 4, none⟩ = some (.int .u64 ((a.1 : Nat) : Int)) ∧ Wq.cell? ⟨g, ix * 4 + 1, none⟩ = some (.int .u64 ((a.2.1 : Nat) : Int)) ∧ Wq.cell? ⟨g, ix * 4 + 2, none⟩ = some (.int .u64 ((a.2.2.1 : Nat) : Int)) ∧ Wq.cell? ⟨g, ix * 4 + 3, none⟩ = some (.int .u64 ((a.2.2.2 : Nat) : Int))) ∧ Wq.cell? ⟨bb, ob + mx, none⟩ = some (.int .u8 (v : Int))) (by kernel_rfl) (HCS.out _ (HQ.out.also (Off.drew oRf))) (fun hHeld => ?_)
      have OA := hID (HQ.out.also (Off.drew (Off.refl Nob wr)))
      clear HQ
      revert OA hHeld
      generalize wr.drew = va
      intro hHeld OA
      refine tkH 0 ?_
      refine tkH 1 ?_
      refine tkH 2 ?_
      refine tkH 3 ?_
      refine tkH 4 ?_
      refine tkH 5 ?_
      refine tkH 6 ?_
      refine tkH 7 ?_
      refine tkH 8 ?_
      refine tkH 9 ?_
      refine tkH 10 ?_
      refine tkH 11 ?_
      refine tkH 12 ?_
      refine tkH 13 ?_
      refine tkH 14 ?_
      refine tkH 15 ?_
      refine wpAnyH_ready (rs := [16]) (by kernel_rfl) (by simp) ?_
      refine AllReadyH.cons rfl (fun K hK => ?s2016) ?m2016
      case s2016 =>
       go_simp
       refine (r_has a v HV256.out va).mono ?_
       rintro e vb ⟨rfl, o1⟩
       have OB := hID (OA.out.also o1)
       have T1 := hID (HCS.out _ OB.out)
       clear o1
       rw [HBT.out]
       go_simp
       refine hK.out _ _ ?_ (fun hHeld => ?_)
       ·first | exact T1.out | go_keep
       clear hK K
       try simp only [Act.put, qL]
       refine tkH 17 ?_
       refine wpAnyH_done (by kernel_rfl) ?_ _
       clear T1 OA hHeld
       go_wp2_with fail
       go_roundw
       case rel => exact ⟨k + 1, by have := HKP.out; omega, by rw [HWS.out], by go_num, OB.out⟩
       case measure => have := HKP.out; simp [intOf]; omega
      exact AllReadyH.nil
    ·obtain rfl : k = p + 1 := by omega
     have d2 : decide (((p + 1 : Nat) : Int) ≤ (p : Int)) = false := dcF
     have d2n : decide (p + 1 ≤ p) = false := dcF
     have d2c : decide ((p : Int) + 1 ≤ (p : Int)) = false := dcF
     rw [← HSTT.out]
     go_wp2_with fail
     refine (HGT.out i HIN.out wr HQ.out).mono ?_
     rintro e w5 ⟨rfl, o5⟩
     have H5 := hID (HQ.out.also o5)
     have dd : ((bitAt Y i) != (bitAt Y i)) = false := by simp
     clear o5 x0 x1
     go_wp2_with fail
     go_roundw
     case rel => exact ⟨i + 1, HIN.out, rfl, by go_num, H5.out⟩
     case measure => have := HIN.out; simp [intOf]; omega
  ·obtain rfl : i = n := by omega
   have d1 : decide ((i : Int) < (i : Int)) = false := by simp
   have d1n : decide (i < i) = false := by simp
   go_wp2_with fail
   exact ⟨HO.out, rfl, rfl⟩
end
end Go.Proofs.YtlgjaefcfnndhaaGreatDoor
