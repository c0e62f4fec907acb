/-
 dragnetref17.SameRow, dragnetref18.row and dragnetref18.finals, in general.
-/
import Derived.Test.YtlgjaefcfnndhaaGreatDoorO25
import Derived.Test.YtlgjaefcfnndhaaGreatDoorO26
set_option linter.unusedVariables false
set_option linter.unusedSimpArgs false
set_option maxHeartbeats 16000000
set_option maxRecDepth 100000
namespace Go.Proofs.YtlgjaefcfnndhaaGreatDoor
open Go.RowKit
theorem qd7 {w : World} {v : Value} {L : List Nat} (hv : Rd w (fun _ => True) 1 v L.length (qab L)) : ∃ A c, v = .slice A L.length c ∧ ∀ W', Off Nob w W' → ∀ k, k < L.length → ∃ b o, A = some ⟨b, o, none⟩ ∧ W'.cell? ⟨b, o + k, none⟩ = some (.int .u64 ((L.getD k 0 : Nat) : Int)) := by
 obtain ⟨A, c, rfl, _, hcell⟩ := hv.form
 refine ⟨A, c, rfl, fun W' ho k hk => ?_⟩
 obtain ⟨b, o, rfl, hlt, hc⟩ := hcell (by omega)
 exact ⟨b, o, rfl, by rw [ho.cell_old hlt]; exact hc k _ (qds hk)⟩
theorem qt2 {A B : List Nat} {k : Nat} (h : A.take k = B.take k) (ha : k < A.length) (hb : k < B.length) (hx : A.getD k 0 = B.getD k 0) : A.take (k + 1) = B.take (k + 1) := by
 rw [List.take_succ_eq_append_getElem ha, List.take_succ_eq_append_getElem hb, h]
 simp only [gDe, gEe ha, gEe hb, Option.getD_some] at hx
 rw [hx]
theorem qng (X Y : List Nat) (hX : X.length ≤ 4096) (hY : Y.length ≤ 4096) (w : World) (u v : Value) (hu : Rd w (fun _ => True) 1 u X.length (qab X)) (hv : Rd w (fun _ => True) 1 v Y.length (qab Y)) :
  Calls Tryz.prog 37 #[u, v] w (RetV w (.bool (decide (X = Y)))) := by
 obtain ⟨A, ca, rfl, hca⟩ := qd7 hu
 obtain ⟨B, cb, rfl, hcb⟩ := qd7 hv
 have HCA := hID hca
 have HCB := hID hcb
 obtain ⟨res, hres⟩ : ∃ res, decide (X = Y) = res := ⟨_, rfl⟩
 have HR := hID hres
 rw [hres]
 obtain ⟨n, hn⟩ : ∃ n, X.length = n := ⟨_, rfl⟩
 obtain ⟨m, hm⟩ : ∃ m, Y.length = m := ⟨_, rfl⟩
 have HN := hID hn
 have HM := hID hm
 rw [hn] at HCA hX ⊢
 rw [hm] at HCB hY ⊢
 clear hca hcb hu hv hres hn hm
 go_enter Tryz.func37, Tryz.ntmps37
 go_wp2
 go_loopw [5] (fun i wr => ∃ k : Nat, k ≤ n ∧ k ≤ m ∧ i = .int .i64 k ∧ Off Nob w wr ∧ X.take k = Y.take k) (fun i _ => n - (intOf i).toNat)
 case atStart => exact ⟨0, Nat.zero_le _, Nat.zero_le _, rfl, Off.refl _ _, rfl⟩
 case round =>
  obtain ⟨k, hk1, hk2, rfl, ho, htk⟩ := hrel
  have HO := hID ho
  have HT := hID htk
  clear ho htk
  by_cases h1 : k < n
  ·have d1 : decide ((k : Int) < (n : Int)) = true := dcT
   by_cases h2 : k < m
   ·have d2 : decide ((k : Int) < (m : Int)) = true := dcT
    obtain ⟨b, o, rfl, c1⟩ := HCA.out wr HO.out k h1
    obtain ⟨b2, o2, rfl, c2⟩ := HCB.out wr HO.out k h2
    have HK := hID (fun h => qt2 (k := k) HT.out (by rw [HN.out]; exact h1) (by rw [HM.out]; exact h2) h)
    have HZ := hID (fun (h : X.getD k 0 ≠ Y.getD k 0) => show res = false by rw [← HR.out]; exact dF (fun e => h (by rw [e])))
    obtain ⟨x, hx⟩ : ∃ x, X.getD k 0 = x := ⟨_, rfl⟩
    obtain ⟨y, hy⟩ : ∃ y, Y.getD k 0 = y := ⟨_, rfl⟩
    rw [hx] at c1 HK HZ
    rw [hy] at c2 HK HZ
    clear hx hy
    by_cases hxy : x = y
    ·have d3 : ((x : Int) != (y : Int)) = false := by rw [hxy]; simp
     have HQ := hID (HK.out hxy)
     clear hxy
     go_wp2_with fail
     go_quiet (fail)
     go_wp2_with fail
     go_roundw
     case rel => exact ⟨k + 1, by omega, by omega, by go_num, HO.out.drewN _, HQ.out⟩
     case measure => simp [intOf]; omega
    ·have d3 : ((x : Int) != (y : Int)) = true := by rw [bne_iff_ne]; omega
     have HQ := hID (HZ.out hxy)
     clear hxy
     go_wp2_with fail
     go_quiet (fail)
     go_wp2_with fail
     go_ret
     exact ⟨by rw [HQ.out]; rfl, HO.out.drewN _⟩
   ·have d2 : decide ((k : Int) < (m : Int)) = false := dcF
    have d3 : ((n : Int) == (m : Int)) = false := by rw [beq_eq_false_iff_ne]; omega
    have HF : Hid (res = false) := hID (by rw [← HR.out]; exact dF (fun e => by have h3 := congrArg List.length e; rw [HN.out, HM.out] at h3; omega))
    go_wp2_with fail
    go_ret
    exact ⟨by rw [HF.out]; rfl, HO.out⟩
  ·have d1 : decide ((k : Int) < (n : Int)) = false := dcF
   by_cases h3 : n = m
   ·have d3 : ((n : Int) == (m : Int)) = true := by rw [beq_iff_eq]; omega
    have HF : Hid (res = true) := hID (by
     rw [← HR.out]
     refine dT ?_
     have h4 := HT.out
     rwa [List.take_of_length_le (by rw [HN.out]; omega), List.take_of_length_le (by rw [HM.out]; omega)] at h4)
    clear h3
    go_wp2_with fail
    go_ret
    exact ⟨by rw [HF.out]; rfl, HO.out⟩
   ·have d3 : ((n : Int) == (m : Int)) = false := by rw [beq_eq_false_iff_ne]; omega
    have HF : Hid (res = false) := hID (by rw [← HR.out]; exact dF (fun e => by have h4 := congrArg List.length e; rw [HN.out, HM.out] at h4; omega))
    clear h3
    go_wp2_with fail
    go_ret
    exact ⟨by rw [HF.out]; rfl, HO.out⟩
theorem qiv (l : List Nat) (x : Nat) : qab (l ++ [x]) = qab l ++ [.int .u64 (x : Int)] := by simp [qab]
theorem qfv (T : List Nat) (W k b : Nat) : qan T (k + 1) b = qan T k b ++ [T.getD (256 * k + b) 0] := by
 unfold qan
 rw [List.range_succ, List.map_append]
 rfl
theorem r_row (VI VS VF : Value) (W : Nat) (hW : W ≤ 8) (T : List Nat) (hT : T.length = 256 * W) (b : Nat) (hb : b < 256) (w : World) (v : Value) (hv : Rd w (fun _ => True) 1 v T.length (qab T)) :
  Calls Tryz.prog 64 #[.agg #[VI, .int .i64 W, v, VS, VF], .int .u8 b] w (fun e w' => ∃ u, e = .returned u ∧ OwnL w w' 71 1 u W (qab (qan T W b))) := by
 obtain ⟨hi0, hi, hz0, hz1, hz2⟩ := info_parts Tryz.infoU64
 obtain ⟨AT, ct, rfl, hc⟩ := qd7 hv
 have HC := hID hc
 have HT := hID hT
 clear hc hv hT
 obtain ⟨N, hN⟩ : ∃ N, T.length = N := ⟨_, rfl⟩
 rw [hN] at HC HT ⊢
 clear hN
 go_enter Tryz.func64, Tryz.ntmps64
 have HB0 : Hid (Blk (w.alloc (.cells #[VI, .int .i64 W, .slice AT N ct, VS, VF] 25)) w.heap.size 25 #[VI, .int .i64 W, .slice AT N ct, VS, VF] ∧ Off Nob w (w.alloc (.cells #[VI, .int .i64 W, .slice AT N ct, VS, VF] 25))) := hID ⟨Blk.new _ _ _, oAl oRf _⟩
 go_wp2_with fail
 revert HB0
 generalize (w.alloc (.cells #[VI, .int .i64 W, .slice AT N ct, VS, VF] 25)) = w0
 intro HB0
 go_loopw [5, 6] (fun x y wr => ∃ k : Nat, k ≤ W ∧ y = .int .i64 (k : Int) ∧ OwnL w0 wr 71 1 x k (qab (qan T k b))) (fun _ y _ => W - (intOf y).toNat)
 case atStart => exact ⟨0, Nat.zero_le _, rfl, OwnL.nilAt oRf _ _⟩
 case round =>
  obtain ⟨k, hk, rfl, oW⟩ := hrel
  obtain ⟨AA, cq, rfl⟩ := oW.form
  have HO := hID oW
  clear oW
  have hblk := HB0.out.1.to (HO.out.2.block _ HB0.out.1.lt id)
  have t1 := hblk.cell 1
  have t2 := hblk.cell 2
  simp only [qG] at t1 t2
  clear hblk
  by_cases hlt : k < W
  ·have d1 : decide ((k : Int) < (W : Int)) = true := dcT
   obtain ⟨bt, ot, rfl, c0⟩ := HC.out _ (HB0.out.2.also HO.out.2) (256 * k + b) (by rw [HT.out]; omega)
   have HS := hID (qfv T k k b)
   have HS2 := hID (qfv T W k b)
   have hlen : 256 * k + b < N := by rw [HT.out]; omega
   revert c0 HS
   generalize T.getD (256 * k + b) 0 = x
   intro c0 HS
   obtain ⟨M, hM⟩ : ∃ M, qan T k b = M := ⟨_, rfl⟩
   rw [hM] at HO HS
   clear hM HS2
   have hw1 : IntKind.i64.wrap (256 * (k : Int)) = 256 * (k : Int) := IntWalk.i64_in _ (by omega)
   obtain ⟨q, hq⟩ : ∃ q, 256 * k + b = q := ⟨_, rfl⟩
   have hadd : 256 * (k : Int) + (b : Int) = (q : Int) := by omega
   have hw2 : IntKind.i64.wrap (256 * (k : Int) + (b : Int)) = (q : Int) := by rw [IntWalk.i64_in _ (by omega)]; exact hadd
   rw [hq] at c0 hlen
   clear hq
   go_wp2_with (at_builtin; refine @wpList_append_lies _ _ _ _ _ _ _ rfl _ _ 23 rfl w0.heap.size 71 hi0 (.int .u64 0) 1 8 Tryz.underlying23 hi hz0 hz1 hz2 rfl (by decide) (.slice AA k cq) k (qab M) rfl (HO.out.1.alloc _) ⟨wr.heap.size, 0, none⟩ 1 1 [.int .u64 (x : Int)] rfl rfl ?c1 (by intro u hu; simp at hu; subst hu; rfl) (by decide) (by unfold maxLen; omega) (by omega) (by have := HO.out.2.size; simp; omega) _ rfl ?_)
   case c1 => exact qb0 _ _ _
   intro g cap w4 oW gW hat hltg
   have O4 : Hid (OwnL w0 w4 71 1 (.slice (some ⟨g, 0, none⟩) (k + 1) cap) (k + 1) (qab (M ++ [x]))) := hID (by
    have := HO.out.grown (oAl oRf _) oW gW
    rw [qiv]
    exact this)
   clear oW gW hat hltg
   go_wp2_with fail
   go_roundw
   case rel => exact ⟨k + 1, hlt, by go_num, by rw [HS.out]; exact O4.out⟩
   case measure => simp [intOf]; omega
  ·obtain rfl : k = W := by omega
   have d1 : decide ((k : Int) < (k : Int)) = false := dcF
   go_wp2_with fail
   go_ret
   exact ⟨_, rfl, qia HB0.out.2.size HO.out.1, HB0.out.2.also HO.out.2⟩
theorem qgw (w : World) (a : Obj) (e : TypeId) : ((w.alloc a).alloc (.cells #[] e)).ownsRow w.heap.size e 1 (.slice (some ⟨w.heap.size + 1, 0, none⟩) 0 0) 0 [] := by
 have := World.ownsRow_made (e := e) (w.alloc a) #[] 0 (base := w.heap.size) (size := 1) (by simp) (by decide) rfl
 simpa using this
theorem qwa (VI VT VS : Value) (W : Nat) (h1 : 1 ≤ W) (h4 : W ≤ 4) (F : List Nat) (r : Nat) (hr : r * W + W ≤ F.length) (hF : F.length ≤ 1024) (w : World) (v : Value) (hv : Rd w (fun _ => True) 1 v F.length (qab F)) (hcp : CapOk v) :
  Calls Tryz.prog 96 #[.agg #[VI, .int .i64 W, VT, VS, v], .int .i64 r] w (fun e w' => ∃ u, e = .returned u ∧ OwnL w w' 71 1 u W (qab (finL F W r))) := by
 obtain ⟨i0, hi, hz0, hz1, hz2⟩ := info_parts Tryz.infoU64
 obtain ⟨b, o, c, rfl, hc⟩ := hv.cellsT (by omega)
 have hcap : F.length ≤ c := hcp _ _ _ rfl
 have HX : Hid ((qab (finL F W r)).length = W ∧ ∀ W', Off Nob w W' → ∀ j u, (qab (finL F W r))[j]? = some u → W'.cell? ⟨b, o + r * W + j, none⟩ = some u) := hID ⟨by rw [qj6]; unfold finL; simp; omega, fun W' ho j u hj => by
  have := hc W' ho (r * W + j) u (qdt hj)
  rw [← Nat.add_assoc] at this
  exact this⟩
 have HX1 := hID (qip (finL F W r))
 clear hcp hc hv
 obtain ⟨X, hX⟩ : ∃ X, qab (finL F W r) = X := ⟨_, rfl⟩
 rw [hX] at HX HX1 ⊢
 clear hX
 have hW : W = 1 ∨ W = 2 ∨ W = 3 ∨ W = 4 := by omega
 rcases hW with rfl | rfl | rfl | rfl
 all_goals clear h1 h4
 ·have hlen : r < F.length := by omega
  have hr0 : r ≤ 1024 := by omega
  have e1 : (F.length : Int) ≤ 1024 := by omega
  have e2 : (r : Int) + 1 ≤ F.length := by omega
  have e3 : (F.length : Int) ≤ c := by omega
  have e4 : r + 1 ≤ c := by omega
  have hmul : ((r : Int) + 1) * 1 = (r : Int) + 1 := by omega
  have hmul2 : ((r : Int) + 1) * 1 = ((r + 1 : Nat) : Int) := by omega
  have hsub : (r + 1 : Nat) - r = 1 := by omega
  go_enter Tryz.func96, Tryz.ntmps96
  go_wp2_with (at_builtin; (try rw [hsub]); refine @wpList_append_lies _ _ _ _ _ _ _ rfl _ _ 23 rfl w.heap.size 71 i0 (.int .u64 0) 1 8 Tryz.underlying23 hi hz0 hz1 hz2 rfl (by decide) (.slice (some ⟨w.heap.size + 1, 0, none⟩) 0 0) 0 [] rfl (qgw w _ _) ⟨b, o + r, none⟩ 1 (c - r) X rfl HX.out.1 ?c1 HX1.out (by decide) (by unfold maxLen; omega) (by omega) (by simp; omega) _ rfl ?_)
  case c1 => intro j u hj; rw [qaj]; have h5 := HX.out.2 _ (oAl (oAl (Off.refl Nob w) (.cells #[VI, .int .i64 1, VT, VS, .slice (some ⟨b, o, none⟩) F.length c] 25)) (.cells #[] 71)) j u hj; simpa using h5
  intro g cap w4 oW gW hat hltg
  have O4 : Hid (OwnL w w4 71 1 (.slice (some ⟨g, 0, none⟩) 1 cap) 1 X) := hID ⟨by simpa using oW, Off.grown (oAl (oAl oRf _) _) gW (fun k hk => by simp [Value.ownBlock] at hk; right; omega)⟩
  clear oW gW hat hltg
  go_wp2_with fail
  go_ret
  exact ⟨_, rfl, O4.out⟩
 ·have hlen : r * 2 < F.length := by omega
  have hr0 : r ≤ 1024 := by omega
  have e1 : (F.length : Int) ≤ 1024 := by omega
  have e2 : (r * 2 : Int) + 2 ≤ F.length := by omega
  have e3 : (F.length : Int) ≤ c := by omega
  have e4 : r * 2 + 2 ≤ c := by omega
  have hmul : ((r : Int) + 1) * 2 = (r * 2 : Int) + 2 := by omega
  have hmul2 : ((r : Int) + 1) * 2 = ((r * 2 + 2 : Nat) : Int) := by omega
  have hsub : (r * 2 + 2 : Nat) - r * 2 = 2 := by omega
  go_enter Tryz.func96, Tryz.ntmps96
  go_wp2_with (at_builtin; (try rw [hsub]); refine @wpList_append_lies _ _ _ _ _ _ _ rfl _ _ 23 rfl w.heap.size 71 i0 (.int .u64 0) 1 8 Tryz.underlying23 hi hz0 hz1 hz2 rfl (by decide) (.slice (some ⟨w.heap.size + 1, 0, none⟩) 0 0) 0 [] rfl (qgw w _ _) ⟨b, o + r * 2, none⟩ 2 (c - r * 2) X rfl HX.out.1 ?c1 HX1.out (by decide) (by unfold maxLen; omega) (by omega) (by simp; omega) _ rfl ?_)
  case c1 => intro j u hj; rw [qaj]; have h5 := HX.out.2 _ (oAl (oAl (Off.refl Nob w) (.cells #[VI, .int .i64 2, VT, VS, .slice (some ⟨b, o, none⟩) F.length c] 25)) (.cells #[] 71)) j u hj; simpa using h5
  intro g cap w4 oW gW hat hltg
  have O4 : Hid (OwnL w w4 71 1 (.slice (some ⟨g, 0, none⟩) 2 cap) 2 X) := hID ⟨by simpa using oW, Off.grown (oAl (oAl oRf _) _) gW (fun k hk => by simp [Value.ownBlock] at hk; right; omega)⟩
  clear oW gW hat hltg
  go_wp2_with fail
  go_ret
  exact ⟨_, rfl, O4.out⟩
 ·have hlen : r * 3 < F.length := by omega
  have hr0 : r ≤ 1024 := by omega
  have e1 : (F.length : Int) ≤ 1024 := by omega
  have e2 : (r * 3 : Int) + 3 ≤ F.length := by omega
  have e3 : (F.length : Int) ≤ c := by omega
  have e4 : r * 3 + 3 ≤ c := by omega
  have hmul : ((r : Int) + 1) * 3 = (r * 3 : Int) + 3 := by omega
  have hmul2 : ((r : Int) + 1) * 3 = ((r * 3 + 3 : Nat) : Int) := by omega
  have hsub : (r * 3 + 3 : Nat) - r * 3 = 3 := by omega
  go_enter Tryz.func96, Tryz.ntmps96
  go_wp2_with (at_builtin; (try rw [hsub]); refine @wpList_append_lies _ _ _ _ _ _ _ rfl _ _ 23 rfl w.heap.size 71 i0 (.int .u64 0) 1 8 Tryz.underlying23 hi hz0 hz1 hz2 rfl (by decide) (.slice (some ⟨w.heap.size + 1, 0, none⟩) 0 0) 0 [] rfl (qgw w _ _) ⟨b, o + r * 3, none⟩ 3 (c - r * 3) X rfl HX.out.1 ?c1 HX1.out (by decide) (by unfold maxLen; omega) (by omega) (by simp; omega) _ rfl ?_)
  case c1 => intro j u hj; rw [qaj]; have h5 := HX.out.2 _ (oAl (oAl (Off.refl Nob w) (.cells #[VI, .int .i64 3, VT, VS, .slice (some ⟨b, o, none⟩) F.length c] 25)) (.cells #[] 71)) j u hj; simpa using h5
  intro g cap w4 oW gW hat hltg
  have O4 : Hid (OwnL w w4 71 1 (.slice (some ⟨g, 0, none⟩) 3 cap) 3 X) := hID ⟨by simpa using oW, Off.grown (oAl (oAl oRf _) _) gW (fun k hk => by simp [Value.ownBlock] at hk; right; omega)⟩
  clear oW gW hat hltg
  go_wp2_with fail
  go_ret
  exact ⟨_, rfl, O4.out⟩
 ·have hlen : r * 4 < F.length := by omega
  have hr0 : r ≤ 1024 := by omega
  have e1 : (F.length : Int) ≤ 1024 := by omega
  have e2 : (r * 4 : Int) + 4 ≤ F.length := by omega
  have e3 : (F.length : Int) ≤ c := by omega
  have e4 : r * 4 + 4 ≤ c := by omega
  have hmul : ((r : Int) + 1) * 4 = (r * 4 : Int) + 4 := by omega
  have hmul2 : ((r : Int) + 1) * 4 = ((r * 4 + 4 : Nat) : Int) := by omega
  have hsub : (r * 4 + 4 : Nat) - r * 4 = 4 := by omega
  go_enter Tryz.func96, Tryz.ntmps96
  go_wp2_with (at_builtin; (try rw [hsub]); refine @wpList_append_lies _ _ _ _ _ _ _ rfl _ _ 23 rfl w.heap.size 71 i0 (.int .u64 0) 1 8 Tryz.underlying23 hi hz0 hz1 hz2 rfl (by decide) (.slice (some ⟨w.heap.size + 1, 0, none⟩) 0 0) 0 [] rfl (qgw w _ _) ⟨b, o + r * 4, none⟩ 4 (c - r * 4) X rfl HX.out.1 ?c1 HX1.out (by decide) (by unfold maxLen; omega) (by omega) (by simp; omega) _ rfl ?_)
  case c1 => intro j u hj; rw [qaj]; have h5 := HX.out.2 _ (oAl (oAl (Off.refl Nob w) (.cells #[VI, .int .i64 4, VT, VS, .slice (some ⟨b, o, none⟩) F.length c] 25)) (.cells #[] 71)) j u hj; simpa using h5
  intro g cap w4 oW gW hat hltg
  have O4 : Hid (OwnL w w4 71 1 (.slice (some ⟨g, 0, none⟩) 4 cap) 4 X) := hID ⟨by simpa using oW, Off.grown (oAl (oAl oRf _) _) gW (fun k hk => by simp [Value.ownBlock] at hk; right; omega)⟩
  clear oW gW hat hltg
  go_wp2_with fail
  go_ret
  exact ⟨_, rfl, O4.out⟩
end Go.Proofs.YtlgjaefcfnndhaaGreatDoor
