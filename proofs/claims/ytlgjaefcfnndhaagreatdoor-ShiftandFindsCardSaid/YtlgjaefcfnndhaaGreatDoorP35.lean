/-
 lanes.Find, of a plan that is right: over sort.Search of the library.
-/
import Derived.Test.YtlgjaefcfnndhaaGreatDoorP24
import Derived.Test.YtlgjaefcfnndhaaGreatDoorP27
import Derived.Shelf.SlSorted.Search
import Derived.Test.YtlgjaefcfnndhaaGreatDoorP33
set_option linter.unusedVariables false
set_option linter.unusedSimpArgs false
set_option maxHeartbeats 16000000
set_option maxRecDepth 100000
namespace Go.Proofs.YtlgjaefcfnndhaaGreatDoor
section
open Go.RowKit Go.Shelf Go.Lib Go.Sort
def Tryz.seRen : Ren := ⟨fun _ => 86, fun x => if x = 3 then 3 else if x = 4 then 4 else if x = 35 then 145 else if x = 38 then 139 else 0, fun _ => 0⟩
theorem Tryz.seLay : SlLaysO.n16 Tryz.prog Tryz.seRen where
 mixed := by kernel_rfl
 f16 := Tryz.func86
 t3 := by kernel_rfl
 a3 := fun w => by kernel_rfl
 z3 := fun w => by kernel_rfl
 v3 := fun w => by kernel_rfl
 t4 := by kernel_rfl
 a4 := fun w => by kernel_rfl
 z4 := fun w => by kernel_rfl
 v4 := fun w => by kernel_rfl
 t35 := by kernel_rfl
 a35 := fun w => by kernel_rfl
 z35 := fun w => by kernel_rfl
 v35 := fun w => by kernel_rfl
 t38 := by kernel_rfl
 a38 := fun w => by kernel_rfl
 z38 := fun w => by kernel_rfl
 v38 := fun w => by kernel_rfl
theorem qz6 (W : Nat) (l : List Ln) (k pB kB i : Nat) (hi : i < l.length) (hn : l.length ≤ 4096) (w : World) (b o c : Nat) (h0 : w.cell? ⟨pB, 1, none⟩ = some (.slice (some ⟨b, o, none⟩) l.length c)) (h1 : w.cell? ⟨kB, 0, none⟩ = some (.int .i64 (k : Int)))
  (hc : w.cell? ⟨b, o + i * 3 + 1, none⟩ = some (.int .i64 ((l.getD i (0, 0, 0)).2.1 : Int))) :
  Calls Tryz.prog 87 (#[.int .i64 (i : Int)] ++ #[.pointer (some ⟨pB, 0, none⟩), .pointer (some ⟨kB, 0, none⟩)]) w fun e w' => e = .returned (.bool (decide (k < (l.getD i (0, 0, 0)).2.1))) ∧ ∃ q, w' = w.drewN q := by
 obtain ⟨f, hf⟩ : ∃ f, (l.getD i (0, 0, 0)).2.1 = f := ⟨_, rfl⟩
 rw [hf] at hc ⊢
 obtain ⟨n, hn2⟩ : ∃ n, l.length = n := ⟨_, rfl⟩
 rw [hn2] at hi h0 hn
 clear hf hn2
 have hdec : decide (k < f) = decide ((k : Int) < (f : Int)) := by rw [decide_eq_decide]; omega
 rw [hdec]
 clear hdec
 go_enter Tryz.func87, Tryz.ntmps87
 go_wp2
 go_region
 all_goals go_wp2
 all_goals go_ret
 all_goals exact ⟨by first | rfl | simp, 1, rfl⟩
theorem q1v (W : Nat) (h1 : 1 ≤ W) (hW : W ≤ 8) (l : List Ln) (hn : l.length ≤ 4096) (hok : qao W l = true) (k : Nat) (hk : k < lnEnd 0 l) (w : World) (v : Value) (hv : Rd w (fun _ => True) 3 v l.length (lnV l)) :
  Calls Tryz.prog 53 #[.agg #[.int .i64 W, v], .int .i64 (k : Int)] w (RetV w (.tuple #[.int .i64 (laneI l k : Int), .int .i64 ((k - (l.getD (laneI l k) (0, 0, 0)).2.1 : Nat) : Int), .int .i64 0])) := by
 have HV := hID hv
 obtain ⟨A, c, rfl, _, hcell⟩ := hv.form
 have hz := (LnFacts.of hok).pos
 have he := (LnFacts.of hok).e256
 obtain ⟨b, o, rfl, hlt, hc⟩ := hcell hz
 have HC : Hid (∀ V, Off Nob w V → ∀ i, i < l.length → V.cell? ⟨b, o + i * 3 + 1, none⟩ = some (.int .i64 ((l.getD i (0, 0, 0)).2.1 : Int))) := hID (fun V oV i hi => by
  rw [oV.cell_old hlt, Nat.add_assoc]
  exact hc _ _ (qew hi).2.1)
 have hsp : laneI l k < l.length ∧ (l.getD (laneI l k) (0, 0, 0)).2.1 ≤ k := by
  have h := hok
  unfold qao at h
  simp only [Bool.and_eq_true] at h
  obtain ⟨q1, q2, _⟩ := qes l 0 0 false k h.1.2 (Nat.zero_le _) hk
  exact ⟨q1, q2⟩
 have HCNT := hID (qqb hok hk)
 have HMO := hID (qqc hok)
 have HSP := hID (fun (V : World) (oV : Off Nob w V) => qvi W h1 hW l hn hok V _ (hv.keepT oV))
 have HSC := hID (fun (pB kB : Nat) (V : World) (oV : Off Nob w V) (hp : V.cell? ⟨pB, 1, none⟩ = some (.slice (some ⟨b, o, none⟩) l.length c)) (hkk : V.cell? ⟨kB, 0, none⟩ = some (.int .i64 (k : Int))) =>
  Any.sort_Search Tryz.seLay 87 #[.pointer (some ⟨pB, 0, none⟩), .pointer (some ⟨kB, 0, none⟩)] l.length (fun i => decide (k < (l.getD i (0, 0, 0)).2.1)) V (fun args w => enters_of Tryz.func87 (by kernel_rfl) rfl args w) (by omega)
   (fun m os i hi => (qz6 W l k pB kB i hi hn _ b o c (cell_grown (World.block_lt_of_cell? _ _ hp) hp m os) (cell_grown (World.block_lt_of_cell? _ _ hkk) hkk m os) (cell_grown (World.block_lt_of_cell? _ _ (HC.out V oV i hi)) (HC.out V oV i hi) m os)).mono
    fun _ _ ⟨he, q, hq⟩ => ⟨he, q, #[], by rw [hq, grow_empty]⟩)
   (fun a b hab hb h => by
    have := HMO.out a b hab hb
    simp only [decide_eq_true_eq] at h ⊢
    omega))
 obtain ⟨i, hi⟩ : ∃ i, laneI l k = i := ⟨_, rfl⟩
 rw [hi] at hsp HCNT
 rw [hi]
 obtain ⟨f, hf⟩ : ∃ f, (l.getD i (0, 0, 0)).2.1 = f := ⟨_, rfl⟩
 have HCI : Hid (∀ V, Off Nob w V → V.cell? ⟨b, o + i * 3 + 1, none⟩ = some (.int .i64 (f : Int))) := hID (fun V oV => by rw [← hf]; exact HC.out V oV i hsp.1)
 rw [hf] at hsp
 rw [hf]
 obtain ⟨n, hn2⟩ : ∃ n, l.length = n := ⟨_, rfl⟩
 rw [hn2] at HSC HCNT hn hsp hz HSP
 obtain ⟨sp, hsp2⟩ : ∃ sp, lnEnd 0 l = sp := ⟨_, rfl⟩
 rw [hsp2] at hk HSP he
 obtain ⟨hin, hfk⟩ := hsp
 have hkb : k < 256 := by omega
 have HW : Hid (Off Nob w w) := hID oRf
 have hk' : k < sp := hk
 rw [show l.length = n from hn2]
 clear hv hcell hc hi hf hn2 hsp2 HC HMO hok HV hlt
 have HK := hID hk'
 have e1 : decide ((k : Int) < 0) = false := dcF
 have e2 : decide ((sp : Int) ≤ (k : Int)) = false := dcF
 have e3 : decide (sp ≤ k) = false := dcF
 clear hk hk' he
 go_enter Tryz.func53, Tryz.ntmps53
 have HB0 : Hid (Blk ((w.alloc (.cells #[.int .i64 W, .slice (some ⟨b, o, none⟩) n c] 62)).alloc (.cells #[.int .i64 (k : Int)] 3)) w.heap.size 62 #[.int .i64 W, .slice (some ⟨b, o, none⟩) n c] ∧ Blk ((w.alloc (.cells #[.int .i64 W, .slice (some ⟨b, o, none⟩) n c] 62)).alloc (.cells #[.int .i64 (k : Int)] 3)) (w.heap.size + 1) 3 #[.int .i64 (k : Int)] ∧ Off Nob w ((w.alloc (.cells #[.int .i64 W, .slice (some ⟨b, o, none⟩) n c] 62)).alloc (.cells #[.int .i64 (k : Int)] 3))) := hID ⟨(Blk.new _ _ _).alloc _, by have h := Blk.new (w.alloc (.cells #[.int .i64 W, .slice (some ⟨b, o, none⟩) n c] 62)) 3 #[.int .i64 (k : Int)]; simpa using h, oAl (oAl oRf _) _⟩
 go_wp2_with fail
 revert HB0
 generalize ((w.alloc (.cells #[.int .i64 W, .slice (some ⟨b, o, none⟩) n c] 62)).alloc (.cells #[.int .i64 (k : Int)] 3)) = w0
 intro HB0
 have GC : Hid (∀ V, Off Nob w0 V → V.cell? ⟨w.heap.size, 0, none⟩ = some (.int .i64 W) ∧ V.cell? ⟨w.heap.size, 1, none⟩ = some (.slice (some ⟨b, o, none⟩) n c) ∧ V.cell? ⟨w.heap.size + 1, 0, none⟩ = some (.int .i64 (k : Int))) := hID (fun V ho => by
  have h := HB0.out.1.to (ho.block _ HB0.out.1.lt id)
  have h2 := HB0.out.2.1.to (ho.block _ HB0.out.2.1.lt id)
  exact ⟨h.cell 0, h.cell 1, h2.cell 0⟩)
 obtain ⟨t0, t1, t2⟩ := GC.out _ oRf
 go_wp2_with fail
 refine (HSP.out _ HB0.out.2.2).mono ?_
 rintro e w1 ⟨rfl, o1⟩
 have X1 := hID o1
 clear o1 t0 t1 t2
 obtain ⟨t0, t1, t2⟩ := GC.out _ X1.out
 go_wp2_with fail
 refine Calls.mono (R := fun e w' => e = .returned (.int .i64 ((List.range n).countP (fun i => !decide (k < (l.getD i (0, 0, 0)).2.1)) : Nat)) ∧ ∃ q os, w' = grow (w1.drewN q) os) (HSC.out _ _ _ (HB0.out.2.2.also X1.out) t1 t2) ?_
 rintro e w2 ⟨rfl, q, os, hw2⟩
 have X2 : Hid (Off Nob w0 w2) := hID (X1.out.also (by rw [hw2]; exact Off.ofBelow (below_grown_sl _ _ q os (Nat.le_refl _))))
 clear hw2 t0 t1 t2
 rw [HCNT.out]
 obtain ⟨t0, t1, t2⟩ := GC.out _ X2.out
 have c1 := HCI.out _ (HB0.out.2.2.also X2.out)
 have hw1 : IntKind.i64.wrap (((i + 1 : Nat) : Int) - 1) = (i : Int) := by rw [IntKind.wrap_i64]; omega
 have hw2 : IntKind.i64.wrap ((k : Int) - (f : Int)) = ((k - f : Nat) : Int) := by rw [IntKind.wrap_i64]; omega
 go_wp2_with fail
 go_quiet (fail)
 go_wp2_with fail
 go_ret3
 exact ⟨rfl, (HB0.out.2.2.also X2.out).drewN _⟩
end
section
open Go.RowKit
def qvn (l : List Ln) (p : Nat) : Ln := ((l.getD (laneI l p) (0, 0, 0)).1, (l.getD (laneI l p) (0, 0, 0)).2.1, p - (l.getD (laneI l p) (0, 0, 0)).2.1 + 1)
def qdc (l : List Ln) (O : List Nat) : List Ln := O.map (qvn l)
def planL (ids : List Int) (W : Nat) (T S F : List Nat) : List Ln := (planR F S T W ids.length).getD []
def q1w (w : World) (L : List Ln) (er : Int) (e : Ending) (w' : World) : Prop := ∃ u, e = .returned (.tuple #[u, .int .i64 er]) ∧ Rd w' (fun k => w.heap.size ≤ k) 3 u L.length (lnV L) ∧ Lies w w'
theorem qtg (ids : List Int) (Wd : Int) (T S F X : List Nat) (at_ : Int) (w : World) (VI VT VS VF XV : Value)
  (h0 : shErr ids Wd T S F X at_ = 0) (hX64 : ∀ x ∈ X, x < 18446744073709551616) (hsv : SetV w VI VT VS VF ids Wd T S F) (hZ : TzT w) (hxv : Rd w (fun _ => True) 1 XV X.length (qab X)) :
  Calls Tryz.prog 22 #[.agg #[VI, .int .i64 Wd, VT, VS, VF], .agg #[XV, .int .i64 at_]] w (q1w w (qdc (planL ids X.length T S F) (onesN X)) 0) := by
 obtain ⟨ila, hla, lz0, lz1, lz2⟩ := info_parts Tryz.infoLa
 obtain ⟨AX, cx, rfl, _⟩ := hxv.form
 have HPP := hID (fun (V : World) (oV : Off Nob w V) => qoi ids Wd T S F V VI VT VS VF (hsv.keep oV) (qbq hZ oV))
 have HSV := hID hsv
 have HZ := hID hZ
 have HXV := hID hxv
 have HX64 := hID hX64
 have H0 := hID h0
 have HCK := hID (fun (V : World) (oV : Off Nob w V) => qe5 ids Wd T S F X hX64 at_ V VI VT VS VF (.slice AX X.length cx) (hsv.keep oV) (qbq hZ oV) (hxv.keepT oV))
 go_enter Tryz.func22, Tryz.ntmps22
 obtain ⟨w0, HW0, HB0, GC⟩ := box2 w VI VT VS VF (.slice AX X.length cx) Wd at_
 clear hsv hZ hxv hX64 h0
 go_wp2_with fail
 rw [HW0.out]
 clear HW0
 obtain ⟨c0, c1, c2, c3, c4, x0, x1⟩ := GC.out _ oRf
 go_wp2_with fail
 refine (HCK.out _ HB0.out.1).mono ?_
 rintro e w1 ⟨rfl, o1⟩
 have O1 := hID o1
 clear o1 c0 c1 c2 c3 c4 x0 x1 HCK
 obtain ⟨c0, c1, c2, c3, c4, x0, x1⟩ := GC.out _ O1.out
 rw [H0.out]
 obtain ⟨hse, hXW, hlow, ha0, ha1⟩ := qe6 H0.out
 obtain ⟨hi1, hi16, _, ⟨Wx, hWx, w1', w4', hlt, hls, hlf, hpl⟩, _⟩ := qcr hse
 obtain rfl : X.length = Wx := by omega
 have HSE := hID hse
 have HLOW := hID hlow
 have HXW := hID hXW
 clear hse hlow hlt hls hlf hpl hWx hXW hi1 hi16 ha0 ha1
 go_wp2_with fail
 refine (HPP.out _ (HB0.out.1.also O1.out)).mono ?_
 rintro e w2 ⟨x, AP, kp, cp, rfl, hyes, o2⟩
 obtain ⟨hx0, l, hll, hrd⟩ := hyes HSE.out
 replace hx0 := hx0.symm
 subst hx0
 have O2 := hID (O1.out.also o2)
 have hpl := hll
 rw [← HXW.out, Int.toNat_natCast] at hpl
 have HPL := hID (show planL ids X.length T S F = l by unfold planL; rw [hpl]; rfl)
 have HPOK := hID (qoe hpl)
 have HLO2 : Hid (∀ f ∈ onesN X, f < lnEnd 0 l) := hID (by
  have h := HLOW.out
  rw [← HXW.out, Int.toNat_natCast] at h
  have e : qdb ids X.length T S F = lnEnd 0 l := by unfold qdb; rw [hpl]
  rw [e] at h
  exact h)
 rw [HSE.out]
 obtain rfl : kp = l.length := by obtain ⟨A', c', he, _⟩ := hrd; cases he; rfl
 have HRD := hID hrd.any
 have hrd2 := hrd.any
 clear hrd hll hpl hyes o2 HLOW c0 c1 c2 c3 c4 x0 x1
 have hn4 : l.length ≤ 256 := (LnFacts.of HPOK.out.1).len
 have hz := (LnFacts.of HPOK.out.1).pos
 obtain ⟨bl, ol, cl, hAP, hlc⟩ := hrd2.cellsT hz
 injection hAP with hAP1 _ hAP3
 subst hAP1 hAP3
 have HLC := hID hlc
 clear hlc hrd2
 have HFI := hID (fun (V : World) (oV : Off Nob w2 V) (k : Nat) (hk : k < lnEnd 0 l) => q1v X.length w1' (by omega) l (by omega) HPOK.out.1 k hk V _ (HRD.out.keepT oV))
 have HON := hID (fun (V : World) (oV : Off Nob w V) => oones (.slice AX X.length cx) X HX64.out w1' (by omega) (by
  rw [(qca HX64.out).2]
  have h := List.length_filter_le (bitAt X) (List.range (64 * X.length))
  rw [List.length_range] at h
  have h5 : (onesN X).length ≤ 64 * X.length := h
  omega) V (HXV.out.keepT oV) (qbq HZ.out oV))
 have hxw : (X.length : Int) = Wd := HXW.out
 obtain rfl := hxw
 have PB : Hid (Blk (w2.alloc (.cells #[.int .i64 (X.length : Int), .slice (some ⟨bl, ol, none⟩) l.length cp] 62)) w2.heap.size 62 #[.int .i64 (X.length : Int), .slice (some ⟨bl, ol, none⟩) l.length cp] ∧ Off Nob w2 (w2.alloc (.cells #[.int .i64 (X.length : Int), .slice (some ⟨bl, ol, none⟩) l.length cp] 62))) := hID ⟨Blk.new _ _ _, oRf.alloc _⟩
 obtain ⟨c0, c1, c2, c3, c4, x0, x1⟩ := GC.out _ (O2.out.also PB.out.2)
 have p0 := PB.out.1.cell 0
 have p1 := PB.out.1.cell 1
 go_wp2_with fail
 refine (HON.out _ ((HB0.out.1.also O2.out).also PB.out.2)).mono ?_
 rintro e w3 ⟨v3, rfl, oW, o3⟩
 rw [(qca HX64.out).1, (qca HX64.out).2] at oW
 have HRO := hID (Rd.own (F := fun _ => True) oW (fun _ _ => trivial))
 have O3 := hID (PB.out.2.also o3)
 have PB3 : Hid (Blk w3 w2.heap.size 62 #[.int .i64 (X.length : Int), .slice (some ⟨bl, ol, none⟩) l.length cp]) := hID (PB.out.1.to (o3.block _ PB.out.1.lt id))
 clear oW o3 c0 c1 c2 c3 c4 x0 x1 p0 p1 PB HON HPP
 obtain ⟨A3, c3', rfl, _, hoc⟩ := HRO.out.form
 obtain ⟨N, hN⟩ : ∃ N, (onesN X).length = N := ⟨_, rfl⟩
 have HN := hID hN
 have HOC : Hid (∀ V, Off Nob w3 V → ∀ k, k < N → ∃ b o, A3 = some ⟨b, o, none⟩ ∧ V.cell? ⟨b, o + k, none⟩ = some (.int .i64 (((onesN X).getD k 0 : Nat) : Int))) := hID (fun V oV k hk => by
  obtain ⟨b, o, rfl, hlt, hc⟩ := hoc (by omega)
  refine ⟨b, o, rfl, ?_⟩
  rw [oV.cell_old hlt]
  exact hc k _ (qdk (by rw [hN]; exact hk)))
 rw [hN]
 have hN256 : N ≤ 256 := by
  have h := List.length_filter_le (bitAt X) (List.range (64 * X.length))
  rw [List.length_range] at h
  have h5 : (onesN X).length ≤ 64 * X.length := h
  omega
 clear hoc hN
 go_wp2_with fail
 go_loopw [11, 37] (fun x y wr => ∃ k : Nat, k ≤ N ∧ y = .int .i64 (k : Int) ∧ OwnL w3 wr 43 3 x k (lnV (qdc l ((onesN X).take k)))) (fun _ y _ => N - (intOf y).toNat)
 case atStart => exact ⟨0, Nat.zero_le _, rfl, by rw [List.take_zero]; exact OwnL.nilAt oRf _ _⟩
 case round =>
  obtain ⟨k, hk, rfl, oW⟩ := hrel
  obtain ⟨AA, cq, rfl⟩ := oW.form
  have HO := hID oW
  clear oW
  by_cases hlt : k < N
  ·have d1 : decide ((k : Int) < (N : Int)) = true := dcT
   obtain ⟨b3, o3, rfl, q1⟩ := HOC.out wr HO.out.2 k hlt
   have hpm : (onesN X).getD k 0 ∈ onesN X := by rw [gDe, gEe (by rw [HN.out]; exact hlt)]; exact List.getElem_mem _
   have hpl := HLO2.out _ hpm
   have HTK : Hid ((onesN X).take (k + 1) = (onesN X).take k ++ [(onesN X).getD k 0]) := hID (by
    rw [List.take_succ_eq_append_getElem (by rw [HN.out]; exact hlt), gDe, gEe (by rw [HN.out]; exact hlt)]
    rfl)
   obtain ⟨p, hp⟩ : ∃ p, (onesN X).getD k 0 = p := ⟨_, rfl⟩
   rw [hp] at q1 hpl HTK
   have HP256 : Hid (p < 256) := hID (by have := (LnFacts.of HPOK.out.1).e256; omega)
   have hli : laneI l p < l.length ∧ (l.getD (laneI l p) (0, 0, 0)).2.1 ≤ p := by
    have h := HPOK.out.1
    unfold qao at h
    simp only [Bool.and_eq_true] at h
    obtain ⟨q1, q2, _⟩ := qes l 0 0 false p h.1.2 (Nat.zero_le _) hpl
    exact ⟨q1, q2⟩
   have b1 := PB3.out.to (HO.out.2.block _ PB3.out.lt id)
   have p0 := b1.cell 0
   have p1 := b1.cell 1
   have HPL2 := hID hpl
   clear hp hpm b1 hpl
   go_wp2_with fail
   refine (HFI.out _ (O3.out.also HO.out.2) p HPL2.out).mono ?_
   rintro e w4 ⟨rfl, o4⟩
   have O4 := hID (HO.out.2.also o4)
   have HO4 := hID (HO.out.off o4)
   clear o4 p0 p1 q1
   have b1 := PB3.out.to (O4.out.block _ PB3.out.lt id)
   have p0 := b1.cell 0
   have p1 := b1.cell 1
   have hlc := HLC.out _ (O3.out.also O4.out)
   obtain ⟨g1, g2, g3⟩ := qew hli.1
   have l1 := hlc _ _ g1
   have l2 := hlc _ _ g2
   have l3 := hlc _ _ g3
   have HAL : Hid (qvn l p = ((l.getD (laneI l p) (0, 0, 0)).1, (l.getD (laneI l p) (0, 0, 0)).2.1, p - (l.getD (laneI l p) (0, 0, 0)).2.1 + 1)) := hID rfl
   obtain ⟨i, hi⟩ : ∃ i, laneI l p = i := ⟨_, rfl⟩
   rw [hi] at hli l1 l2 l3 HAL
   rw [hi]
   obtain ⟨⟨ra, fa, ca⟩, hx⟩ : ∃ x, l.getD i (0, 0, 0) = x := ⟨_, rfl⟩
   rw [hx] at hli l1 l2 l3 HAL
   rw [hx]
   dsimp only at hli l1 l2 l3 HAL ⊢
   rw [← Nat.add_assoc] at l2 l3
   obtain ⟨hil, hfp⟩ := hli
   obtain ⟨nl, hnl⟩ : ∃ nl, l.length = nl := ⟨_, rfl⟩
   rw [hnl] at hil p1 hn4
   have hp256 := HP256.out
   have hwp : IntKind.i64.wrap (((p - fa : Nat) : Int) + 1) = ((p - fa + 1 : Nat) : Int) := by rw [IntKind.wrap_i64]; omega
   clear hi hx hlc g1 g2 g3 b1 hnl
   obtain ⟨M, hM⟩ : ∃ M, qdc l ((onesN X).take k) = M := ⟨_, rfl⟩
   have HML : Hid (M.length = k) := hID (by rw [← hM]; unfold qdc; rw [List.length_map, List.length_take, HN.out]; omega)
   have HMN : Hid (qdc l ((onesN X).take (k + 1)) = M ++ [(ra, fa, p - fa + 1)]) := hID (by rw [HTK.out, ← hM, ← HAL.out]; unfold qdc; rw [List.map_append]; rfl)
   rw [hM] at HO4
   clear hM HTK HAL HPL2
   go_wp2_with (at_builtin; refine wpList_append_own_at _ rfl _ _ 39 rfl w3.heap.size 43 ila (.agg #[.int .i64 0, .int .i64 0, .int .i64 0]) 3 24 Tryz.underlying39 hla lz0 lz1 lz2 rfl (by decide) (.slice AA k cq) k (lnV M) rfl ((HO4.out.1.alloc _).alloc _) ⟨w4.heap.size + 1, 0, none⟩ 1 1 [.int .i64 (ra : Int), .int .i64 (fa : Int), .int .i64 (((p - fa : Nat) : Int) + 1)] rfl rfl ?c1 ?c2 ?c3 ?c4 ?c5 ?_)
   case c1 =>
    have h := qby (w4.alloc (.cells #[.int .i64 (ra : Int), .int .i64 (fa : Int), .int .i64 (((p - fa : Nat) : Int) + 1)] 43)) [.int .i64 (ra : Int), .int .i64 (fa : Int), .int .i64 (((p - fa : Nat) : Int) + 1)] 43
    rw [World.size_alloc] at h
    exact h
   case c2 => intro u hu; simp at hu; rcases hu with rfl | rfl | rfl <;> rfl
   case c3 => unfold maxLen; omega
   case c4 => omega
   case c5 => have := HO4.out.2.size; simp; omega
   intro v' w5 hown' gW hnil hat
   have O5 : Hid (OwnL w3 w5 43 3 v' (k + 1) (lnV (qdc l ((onesN X).take (k + 1))))) := hID (by
    have := HO4.out.grown (oAl (oAl oRf _) _) hown' gW
    rw [HMN.out, qgu]
    push_cast
    exact this)
   clear hown' gW hnil hat HO4 HMN
   go_wp2_with fail
   go_roundw
   case rel => exact ⟨k + 1, hlt, by go_num, O5.out⟩
   case measure => simp [intOf]; omega
  ·obtain rfl : k = N := by omega
   have d1 : decide ((k : Int) < (k : Int)) = false := dcF
   go_wp2_with fail
   go_ret2
   have e : (onesN X).take k = onesN X := by rw [← HN.out]; exact List.take_length
   have h := HO.out.1
   rw [e] at h
   have hl : (qdc l (onesN X)).length = k := by unfold qdc; rw [List.length_map, HN.out]
   have s1 := HB0.out.1.size
   have s2 := O2.out.size
   have s3 := O3.out.size
   refine ⟨_, rfl, ?_, (((Lies.of' HB0.out.1).trans (Lies.of' O2.out)).trans (Lies.of' O3.out)).trans (Lies.of' HO.out.2)⟩
   rw [HPL.out, hl]
   exact Rd.own h (fun g hg => by have := (h.lt g hg).1; omega)
end
end Go.Proofs.YtlgjaefcfnndhaaGreatDoor
