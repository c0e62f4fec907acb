/-
 dragnetref18.Build in general.
-/
import Derived.Test.YtlgjaefcfnndhaaGreatDoorP41
set_option linter.unusedVariables false
set_option linter.unusedSimpArgs false
set_option maxHeartbeats 16000000
set_option maxRecDepth 100000
namespace Go.Proofs.YtlgjaefcfnndhaaGreatDoor
section
open Go.RowKit
theorem qq8 (ids : List Int) (ps : List (List El)) (hps : PatsB ps) (hids : ids.length ≤ 1000000) (hi64 : ∀ x ∈ ids, -9223372036854775808 ≤ x ∧ x ≤ 9223372036854775807) (w : World) (vi vl : Value) (hvi : Rd w (fun _ => True) 1 vi ids.length (ids.map (Value.int .i64))) (hvl : RdLs EP w (fun _ => True) vl ps) : Calls Tryz.prog 29 #[vi, vl] w (q11 w ids ps) := by
 obtain ⟨i0, h0, z0, s0, b0⟩ := info_parts Tryz.infoRl
 have HPS := hID hps
 have HFIT := hID (fun (V : World) (oV : Off Nob w V) => r_fit ps hps V vl ((qak lasts_EP).keep (G := Nob) hvl oV (fun _ _ h => h)))
 have HVL := hID hvl
 have HVI := hID hvi
 obtain ⟨AI, ci, rfl, _, hca⟩ := qcl hvi (by decide)
 have HCA := hID hca
 obtain ⟨AL, cl, rfl⟩ := hvl.form
 obtain ⟨n, hn⟩ : ∃ n, ids.length = n := ⟨_, rfl⟩
 have HN := hID hn
 obtain ⟨m, hm⟩ : ∃ m, ps.length = m := ⟨_, rfl⟩
 have HM := hID hm
 have hm60 : m ≤ 60 := by rw [← hm]; exact hps.all
 rw [hn] at HCA HVI hids ⊢
 rw [hm] at HVL HFIT ⊢
 clear hps hvi hvl hca hn hm hi64
 go_enter Tryz.func29, Tryz.ntmps29
 have X2 : Hid (Off Nob w ((w.alloc (.cells #[.slice none 0 0, .int .i64 0, .slice none 0 0, .slice none 0 0, .slice none 0 0] 25)).alloc (.cells #[.slice none 0 0, .int .i64 0, .slice none 0 0, .slice none 0 0, .slice none 0 0] 25))) := hID (oAl (oAl oRf _) _)
 have HBR : Hid (∀ V, Off Nob ((w.alloc (.cells #[.slice none 0 0, .int .i64 0, .slice none 0 0, .slice none 0 0, .slice none 0 0] 25)).alloc (.cells #[.slice none 0 0, .int .i64 0, .slice none 0 0, .slice none 0 0, .slice none 0 0] 25)) V → Blk V w.heap.size 25 #[.slice none 0 0, .int .i64 0, .slice none 0 0, .slice none 0 0, .slice none 0 0]) := hID (fun V oV => by
  have h := (Blk.new w 25 #[.slice none 0 0, .int .i64 0, .slice none 0 0, .slice none 0 0, .slice none 0 0]).alloc (.cells #[.slice none 0 0, .int .i64 0, .slice none 0 0, .slice none 0 0, .slice none 0 0] 25)
  exact h.to (oV.block _ h.lt id))
 have HBN : Hid (∀ V, Off Nob ((w.alloc (.cells #[.slice none 0 0, .int .i64 0, .slice none 0 0, .slice none 0 0, .slice none 0 0] 25)).alloc (.cells #[.slice none 0 0, .int .i64 0, .slice none 0 0, .slice none 0 0, .slice none 0 0] 25)) V → Blk V (w.heap.size + 1) 25 #[.slice none 0 0, .int .i64 0, .slice none 0 0, .slice none 0 0, .slice none 0 0]) := hID (fun V oV => by
  have h := Blk.new (w.alloc (.cells #[.slice none 0 0, .int .i64 0, .slice none 0 0, .slice none 0 0, .slice none 0 0] 25)) 25 #[.slice none 0 0, .int .i64 0, .slice none 0 0, .slice none 0 0, .slice none 0 0]
  have h2 := h.to (oV.block _ h.lt id)
  simpa using h2)
 by_cases h0 : n = 0
 ·have dm : ((n : Int) == 0) = true := by simp [h0]
  have dmd : decide ((n : Int) = 0) = true := by simp [h0]
  have dmn : decide (n = 0) = true := dT h0
  have HZ0 := hID h0
  clear h0
  go_wp2_with fail
  exact bodyPost_ret (qae rfl _ _ _ _ _ (0, 0) _ rfl (HBR.out _ oRf) Tryz.underlying25 rfl Tryz.infoTs) rfl ⟨_, _, _, _, _, 0, 6, rfl, isSl4, X2.out, fun h => (by obtain ⟨_, _, h1, _⟩ := h; have := HZ0.out; have := HN.out; omega), fun h => absurd h (by decide)⟩
 ·have dm : ((n : Int) == 0) = false := by simp [h0]
  have dmd : decide ((n : Int) = 0) = false := by simp [h0]
  have dmn : decide (n = 0) = false := dF h0
  have HN0 := hID h0
  clear h0
  by_cases hnm : n = m
  ·have de : ((n : Int) != (m : Int)) = false := by simp [hnm]
   have HNM := hID hnm
   clear hnm
   by_cases h16 : 16 < n
   ·have dg : decide ((16 : Int) < (n : Int)) = true := dcT
    have dgn : decide (16 < n) = true := dT h16
    have H16 := hID h16
    clear h16
    go_wp2_with fail
    exact bodyPost_ret (qae rfl _ _ _ _ _ (0, 0) _ rfl (HBR.out _ oRf) Tryz.underlying25 rfl Tryz.infoTs) rfl ⟨_, _, _, _, _, 0, 3, rfl, isSl4, X2.out, fun h => (by obtain ⟨_, _, _, h1, _⟩ := h; have := H16.out; have := HN.out; omega), fun h => absurd h (by decide)⟩
   ·have dg : decide ((16 : Int) < (n : Int)) = false := dcF
    have dgn : decide (16 < n) = false := dF h16
    have hn16 : n ≤ 16 := by omega
    clear h16
    go_wp2_with fail
    revert X2 HBR HBN
    generalize ((w.alloc (.cells #[.slice none 0 0, .int .i64 0, .slice none 0 0, .slice none 0 0, .slice none 0 0] 25)).alloc (.cells #[.slice none 0 0, .int .i64 0, .slice none 0 0, .slice none 0 0, .slice none 0 0] 25)) = w2
    intro X2 HBR HBN
    have HERR := hID (fun (V : World) (oV : Off Nob w2 V) => q12 X2.out oV (HBR.out V oV) (HBN.out V oV))
    clear HBN
    go_loopw [8] (fun q wr => ∃ i : Nat, i ≤ n ∧ q = .int .i64 (i : Int) ∧ Off Nob w2 wr ∧ (∀ x ∈ ids.take i, 1 ≤ x ∧ x ≤ 1000) ∧ ∀ j, j + 1 < i → ids.getD j 0 < ids.getD (j + 1) 0) (fun q _ => n - (intOf q).toNat)
    case atStart => exact ⟨0, Nat.zero_le _, rfl, Off.refl _ _, fun x h => by simp at h, fun j h => by omega⟩
    case round =>
     obtain ⟨i, hi, rfl, ho, hrg, has⟩ := hrel
     obtain ⟨wa, rfl⟩ : ∃ z, z = wr := ⟨wr, rfl⟩
     have HO := hID ho
     have HRG := hID hrg
     have HAS := hID has
     clear ho hrg has
     by_cases hin : i < n
     ·have d1 : decide ((i : Int) < (n : Int)) = true := dcT
      have d1n : decide (i < n) = true := dT hin
      have HIN := hID hin
      have hi16 : i < 16 := by omega
      obtain ⟨b, o, rfl, -⟩ := HCA.out wa (X2.out.also HO.out) (by omega)
      have HCC : Hid (∀ V, Off Nob w2 V → ∀ k, k < n → V.cell? ⟨b, o + k, none⟩ = some (.int .i64 (ids.getD k 0))) := hID (fun V oV k hk => by
       obtain ⟨b2, o2, h2, g2⟩ := HCA.out V (X2.out.also oV) (by omega)
       injection h2 with h2
       injection h2 with h2 h3 h4
       subst h2 h3
       have h5 : k < ids.length := by rw [HN.out]; exact hk
       exact g2 k _ (by rw [List.getElem?_map, gEe h5, gDe, gEe h5]; rfl))
      have ck := HCC.out wa HO.out i hin
      obtain ⟨x, hx⟩ : ∃ x, ids.getD i 0 = x := ⟨_, rfl⟩
      rw [hx] at ck
      have HX := hID hx
      have HXM : Hid (x ∈ ids) := hID (by
       have h5 : i < ids.length := by rw [HN.out]; exact hin
       rw [← hx, gDe, gEe h5]
       exact List.getElem_mem h5)
      clear hx
      by_cases hx1 : x < 1
      ·have dx : decide (x < 1) = true := dT hx1
       have HX1 := hID hx1
       clear hx1
       obtain ⟨⟨ka, kb, kc, kd, ke⟩, ⟨ra, rb, rc, rd, re⟩, ⟨fa, fb, fc, fd, fe⟩, RR, RO⟩ := HERR.out wa HO.out
       go_wp2_with fail
       exact bodyPost_ret (qae rfl _ _ _ _ _ (0, 0) _ rfl RR.out Tryz.underlying25 rfl Tryz.infoTs) rfl ⟨_, _, _, _, _, i, 7, rfl, isSl4, RO.out, fun h => (by obtain ⟨_, _, _, _, h1, _⟩ := h; have := (h1 x HXM.out).1; have := HX1.out; omega), fun h => absurd h (by decide)⟩
      ·have dx : decide (x < 1) = false := dF hx1
       have HX1 := hID hx1
       clear hx1
       by_cases hx2 : 1000 < x
       ·have dy : decide (1000 < x) = true := dT hx2
        have HX2 := hID hx2
        clear hx2
        obtain ⟨⟨ka, kb, kc, kd, ke⟩, ⟨ra, rb, rc, rd, re⟩, ⟨fa, fb, fc, fd, fe⟩, RR, RO⟩ := HERR.out wa HO.out
        go_wp2_with fail
        exact bodyPost_ret (qae rfl _ _ _ _ _ (0, 0) _ rfl RR.out Tryz.underlying25 rfl Tryz.infoTs) rfl ⟨_, _, _, _, _, i, 7, rfl, isSl4, RO.out, fun h => (by obtain ⟨_, _, _, _, h1, _⟩ := h; have := (h1 x HXM.out).2; have := HX2.out; omega), fun h => absurd h (by decide)⟩
       ·have dy : decide (1000 < x) = false := dF hx2
        have HX2 := hID hx2
        clear hx2
        have HRG2 : Hid (∀ z ∈ ids.take (i + 1), 1 ≤ z ∧ z ≤ 1000) := hID (fun z hz => by
         have h5 : i < ids.length := by rw [HN.out]; exact HIN.out
         rw [List.take_add_one, gEe h5] at hz
         rcases List.mem_append.1 hz with h | h
         ·exact HRG.out z h
         ·have e : z = x := by
           have h6 := List.mem_singleton.1 h
           rw [h6, ← HX.out, gDe, gEe h5]
           rfl
          rw [e]
          have := HX1.out
          have := HX2.out
          omega)
        by_cases hi0 : i = 0
        ·have dz : decide ((0 : Int) < (i : Int)) = false := dcF
         have dzn : decide (0 < i) = false := dcF
         have HAS2 : Hid (∀ j, j + 1 < i + 1 → ids.getD j 0 < ids.getD (j + 1) 0) := hID (fun j hj => by omega)
         clear hi0
         go_wp2_with fail
         go_quiet (fail)
         have HQ := hID (HO.out.drewN nq)
         revert HQ
         generalize wa.drewN nq = wb
         intro HQ
         go_wp2_with fail
         go_roundw
         case rel => exact ⟨i + 1, HIN.out, by go_num, HQ.out, HRG2.out, HAS2.out⟩
         case measure => have := HIN.out; simp [intOf]; omega
        ·obtain ⟨i1, hi1⟩ : ∃ i1, i1 + 1 = i := ⟨i - 1, by omega⟩
         have dz : decide ((0 : Int) < (i : Int)) = true := dcT
         have dzn : decide (0 < i) = true := dcT
         have E1 : IntKind.i64.wrap ((i : Int) - 1) = (i1 : Int) := by rw [IntKind.wrap_i64]; omega
         have hi1n : i1 < n := by omega
         have hi116 : i1 < 16 := by omega
         have cy := HCC.out wa HO.out i1 hi1n
         obtain ⟨y, hy⟩ : ∃ y, ids.getD i1 0 = y := ⟨_, rfl⟩
         rw [hy] at cy
         have HY := hID hy
         have HI1 := hID hi1
         clear hy hi0 hi1
         by_cases hxy : x ≤ y
         ·have dxy : decide (x ≤ y) = true := dT hxy
          have HXY := hID hxy
          clear hxy
          go_wp2_with fail
          go_quiet (fail)
          have HQ := hID (HO.out.drewN nq)
          revert HQ
          generalize wa.drewN nq = wb
          intro HQ
          obtain ⟨⟨ka, kb, kc, kd, ke⟩, ⟨ra, rb, rc, rd, re⟩, ⟨fa, fb, fc, fd, fe⟩, RR, RO⟩ := HERR.out wb HQ.out
          go_wp2_with fail
          exact bodyPost_ret (qae rfl _ _ _ _ _ (0, 0) _ rfl RR.out Tryz.underlying25 rfl Tryz.infoTs) rfl ⟨_, _, _, _, _, i, 6, rfl, isSl4, RO.out, fun h => (by obtain ⟨_, _, _, _, _, h1, _⟩ := h; have h2 := q0a h1 (j := i1) (by have := HI1.out; have := HIN.out; have := HN.out; omega); rw [HI1.out, HX.out, HY.out] at h2; have := HXY.out; omega), fun h => absurd h (by decide)⟩
         ·have dxy : decide (x ≤ y) = false := dF hxy
          have HAS2 : Hid (∀ j, j + 1 < i + 1 → ids.getD j 0 < ids.getD (j + 1) 0) := hID (fun j hj => by
           rcases Nat.lt_or_ge (j + 1) i with h | h
           ·exact HAS.out j h
           ·obtain rfl : j = i1 := by have := HI1.out; omega
            rw [HI1.out, HX.out, HY.out]
            omega)
          clear hxy
          go_wp2_with fail
          go_quiet (fail)
          have HQ := hID (HO.out.drewN nq)
          revert HQ
          generalize wa.drewN nq = wb
          intro HQ
          go_wp2_with fail
          go_roundw
          case rel => exact ⟨i + 1, HIN.out, by go_num, HQ.out, HRG2.out, HAS2.out⟩
          case measure => have := HIN.out; simp [intOf]; omega
     ·obtain rfl : i = n := by omega
      have d1 : decide ((i : Int) < (i : Int)) = false := by simp
      have d1n : decide (i < i) = false := by simp
      have HIR : Hid ((∀ x ∈ ids, 1 ≤ x ∧ x ≤ 1000) ∧ AscB ids = true) := hID (by
       have e : ids.take i = ids := List.take_of_length_le (by rw [HN.out]; exact Nat.le_refl _)
       have h1 := HRG.out
       rw [e] at h1
       refine ⟨h1, ?_⟩
       unfold AscB
       rw [List.all_eq_true]
       intro j hj
       have := List.mem_range.1 hj
       exact dT (HAS.out j (by have := HN.out; omega)))
      clear HRG HAS hin
      go_wp2_with fail
      refine (HFIT.out wa (X2.out.also HO.out)).mono ?_
      rintro e w3 ⟨n3, x3, rfl, o3, hf3⟩
      have O3 := hID (HO.out.also o3)
      have HF3 := hID hf3
      clear o3 hf3 HFIT
      by_cases hx : x3 = 0
      ·have dx : (x3 != 0) = false := by simp [hx]
       clear hx
       go_wp2_with fail
       go_loopw [11, 12] (fun y q wr => ∃ (t : Nat) (Rs : List (List (List Q4))), t ≤ m ∧ q = .int .i64 (t : Int) ∧ GrowL (RdLs EQ) w3 100 y Rs wr ∧ Rs.length = t ∧ (∀ (j : Nat) (p : List El) (R : List (List Q4)), ps[j]? = some p → Rs[j]? = some R → R ≠ [] → qh9 p R) ∧ (FlatP ps → Rs = (ps.take t).map (fun p => [lineN p []])) ∧ ∀ R ∈ Rs, R.length ≤ 1000000 ∧ ∀ L ∈ R, L.length ≤ 1024) (fun _ q _ => m - (intOf q).toNat)
       case atStart => exact ⟨0, [], Nat.zero_le _, rfl, GrowL.nil (RdLs EQ) 100 oRf, rfl, fun j p R _ h => by simp at h, fun _ => rfl, fun R h => by cases h⟩
       case round =>
        obtain ⟨t, Rs, ht, rfl, hg, hlen, hlo, hflt, hbd⟩ := hrel
        obtain ⟨wc, rfl⟩ : ∃ z, z = wr := ⟨wr, rfl⟩
        have HG := hID hg
        have OG := hID (O3.out.also hg.o)
        obtain ⟨AY, cy, rfl⟩ := hg.form
        rw [hlen]
        have HLEN := hID hlen
        have HLO := hID hlo
        have HBD := hID hbd
        have HFLT := hID hflt
        clear hg hlen hlo hflt hbd
        by_cases htm : t < m
        ·have d2 : decide ((t : Int) < (m : Int)) = true := dcT
         have d2n : decide (t < m) = true := dT htm
         have HTM := hID htm
         have ht60 : t < 60 := by omega
         obtain ⟨p, hp⟩ : ∃ p, ps[t]? = some p := ⟨_, gEe (by rw [HM.out]; exact htm)⟩
         have HP := hID hp
         have HMP := hID (List.mem_of_getElem? hp)
         rw [← HM.out] at HVL
         obtain ⟨b, o, cc, u, he, hac, hue⟩ := HVL.out.at_ lasts_EP hp
         injection he with he1 he2 he3
         subst he1
         clear he2 he3
         rw [HM.out] at HVL
         have ck := hac wc Nob (X2.out.also OG.out) (fun _ _ h => h)
         have HLS := hID (qz8 p (HPS.out.el p HMP.out) (HPS.out.len p HMP.out) wc u (lasts_EP.keep (G := Nob) hue (X2.out.also OG.out) (fun _ _ h => h)))
         clear hac hue hp
         go_wp2_with fail
         refine HLS.out.mono ?_
         rintro e w5 ⟨u5, x5, R, rfl, hr5, hlo5, hfl5, hrl5, hll5, o5⟩
         obtain ⟨A5, c5, rfl⟩ := hr5.form
         obtain ⟨r5, hrr⟩ : ∃ z, R.length = z := ⟨_, rfl⟩
         rw [hrr]
         have hb5 : ∀ k, wc.heap.size ≤ k → w3.heap.size ≤ k ∧ (Value.slice AY t cy).ownBlock ≠ some k := fun k hk => by
          refine ⟨Nat.le_trans HG.out.o.size hk, fun e => ?_⟩
          obtain ⟨vs, _, h2, _⟩ := HG.out.x
          have e2 : (Value.slice AY Rs.length cy).ownBlock = some k := by rw [HLEN.out]; exact e
          have := (h2.lt k e2).2
          omega
         have hg5 := HG.out.go (qak lasts_EQ) o5
         rw [HLEN.out] at hg5
         rw [hrr] at hr5
         obtain ⟨x6, w6, r6, hg6, -, -⟩ := hg5.push (qak lasts_EQ) Tryz.underlying99 h0 z0 s0 b0 ((qak lasts_EQ).mono hr5 (fun k hk => hb5 k hk)) (by rw [HLEN.out]; omega)
         have R6 := hID r6
         have HG6 := hID hg6
         have HLO6 : Hid (∀ (j : Nat) (p' : List El) (R' : List (List Q4)), ps[j]? = some p' → (Rs ++ [R])[j]? = some R' → R' ≠ [] → qh9 p' R') := hID (fun j p' R' h1 h2 h3 => by
          rcases Nat.lt_or_ge j Rs.length with h | h
          ·rw [List.getElem?_append_left h] at h2
           exact HLO.out j p' R' h1 h2 h3
          ·rw [List.getElem?_append_right h] at h2
           have e : j - Rs.length = 0 := by
            have := (List.getElem?_eq_some_iff.1 h2).1
            simp at this
            omega
           have e2 : j = t := by have := HLEN.out; omega
           rw [e] at h2
           simp at h2
           subst h2 e2
           rw [HP.out] at h1
           injection h1 with h1
           subst h1
           exact hlo5 h3)
         have HBD6 : Hid (∀ R' ∈ Rs ++ [R], R'.length ≤ 1000000 ∧ ∀ L ∈ R', L.length ≤ 1024) := hID (fun R' h => by
          rcases List.mem_append.1 h with h | h
          ·exact HBD.out R' h
          ·rw [List.mem_singleton.1 h]; exact ⟨hrl5, hll5⟩)
         have HFL6 : Hid (FlatP ps → Rs ++ [R] = (ps.take (t + 1)).map (fun p => [lineN p []])) := hID (fun h => by
          rw [qtl HP.out, ← HFLT.out h, (hfl5 (h p HMP.out).1 (h p HMP.out).2).2])
         have HL6 : Hid ((Rs ++ [R]).length = t + 1) := hID (by rw [List.length_append, HLEN.out]; rfl)
         clear r6 hg6 hr5 hlo5 hfl5 hrl5 hll5 hg5 hb5 o5 HLS ck hrr
         go_wp2_with (first | (at_builtin; refine qaz _ (by rfl) _ _ _ rfl rfl rfl R6.out ?_) | fail)
         go_roundw
         case rel => exact ⟨t + 1, Rs ++ [R], HTM.out, by go_num, HG6.out, HL6.out, HLO6.out, HFL6.out, HBD6.out⟩
         case measure => have := HTM.out; simp [intOf]; omega
        ·obtain rfl : t = m := by omega
         have d2 : decide ((t : Int) < (t : Int)) = false := by simp
         have d2n : decide (t < t) = false := by simp
         have HFR : Hid (FlatP ps → Rs = flatR ps) := hID (fun h => by
          rw [HFLT.out h, List.take_of_length_le (by rw [HM.out]; exact Nat.le_refl _)]
          rfl)
         have HRB : Hid (RulesB Rs) := hID ⟨by rw [HLEN.out]; exact hm60, HBD.out⟩
         have HRS : Hid (RdLs (RdLs EQ) wc (fun _ => True) (.slice AY t cy) Rs) := hID (by
          have h := (qak (qak lasts_EQ)).mono (HG.out.rd (qak lasts_EQ)) (G := fun _ => True) (fun _ _ => trivial)
          rw [HLEN.out] at h
          exact h)
         clear htm HG
         go_wp2_with fail
         refine (qv2 Rs HRB.out wc _ HRS.out).mono ?_
         rintro e w5 ⟨W4, A4, n4, c4, i4, x4, rfl, o4, hx4, hr4⟩
         have O4 := hID (OG.out.also o4)
         have O45 := hID o4
         have HX4 := hID hx4
         have HR4 := hID hr4
         clear o4 hx4 hr4
         have O5 : Hid (Off Nob w2 (w5.alloc (.cells #[.int .i64 W4, .slice A4 n4 c4] 62))) := hID (O4.out.also (oAl oRf _))
         by_cases hx : x4 = 0
         ·have dx : (x4 != 0) = false := by simp [hx]
          have HOK := hID (HX4.out.1 hx)
          have HRL := hID (HR4.out hx)
          clear hx HX4 HR4
          obtain ⟨hw4, hn4, hr4⟩ := HRL.out
          obtain ⟨W, hW⟩ : ∃ W, wdN Rs = W := ⟨_, rfl⟩
          have HW := hID hW
          have hW4 : 1 ≤ W ∧ W ≤ 4 := by
           have := HOK.out.1.total
           rw [← hW]
           unfold wdN
           omega
          have e4 : W4 = (W : Int) := by rw [hw4, ← hW]; rfl
          subst e4
          obtain ⟨N, hN⟩ : ∃ N, 256 * W = N := ⟨_, rfl⟩
          have HNN := hID hN
          have hN1024 : N ≤ 1024 := by omega
          have EM : IntKind.i64.wrap (256 * (W : Int)) = (N : Int) := by rw [IntKind.wrap_i64]; omega
          have HL4 := hID (show Rd (w5.alloc (.cells #[.int .i64 (W : Int), .slice A4 n4 c4] 62)) (fun _ => True) 3 (.slice A4 n4 c4) n4 (lnV (packL 0 0 Rs)) from (hr4.keep (oAl (Off.refl Nob w5) _) (fun _ _ h => h)).mono (fun _ _ => trivial))
          have HRS5 := hID ((qak (qak lasts_EQ)).keep (G := Nob) HRS.out (W' := w5.alloc (.cells #[.int .i64 (W : Int), .slice A4 n4 c4] 62)) (O45.out.also (oAl oRf _)) (fun _ _ h => h))
          have P0 : Hid (Blk (w5.alloc (.cells #[.int .i64 (W : Int), .slice A4 n4 c4] 62)) w5.heap.size 62 #[.int .i64 (W : Int), .slice A4 n4 c4]) := hID (Blk.new _ _ _)
          have HN4 := hID hn4
          clear hW hN hw4 hn4 hr4 HRL
          obtain ⟨n, rfl⟩ : ∃ z, z = i := ⟨i, rfl⟩
          have RZ := hID (HBR.out (w5.alloc (.cells #[.int .i64 (W : Int), .slice A4 n4 c4] 62)) O5.out)
          have XX0 := hID (X2.out.also O5.out)
          have hn1 : 1 ≤ n := by have := HN0.out; omega
          obtain ⟨i_u64, h_u64, z_u64, s_u64, b_u64⟩ := info_parts Tryz.infoU64
          obtain ⟨i_int, h_int, z_int, s_int, b_int⟩ := info_parts Tryz.infoIn
          go_wp2_with fail
          revert P0 XX0 RZ HL4 HRS5
          generalize (w5.alloc (.cells #[.int .i64 (W : Int), .slice A4 n4 c4] 62)) = z0
          obtain ⟨pb, hpb⟩ : ∃ B, w5.heap.size = B := ⟨_, rfl⟩
          rw [hpb]
          clear hpb
          intro HL4 HRS5 P0 RZ XX0
          obtain ⟨b, o, rfl, -⟩ := HCA.out z0 XX0.out (by have := HN0.out; omega)
          have HIC : Hid (∀ V, Off Nob w V → ∀ (j : Nat) (u : Value), (ids.map (Value.int .i64))[j]? = some u → V.cell? ⟨b, o + j, none⟩ = some u) := hID (fun V oV j u hu => by
           obtain ⟨b2, o2, h2, g2⟩ := HCA.out V oV (by have := HN0.out; omega)
           injection h2 with h2
           injection h2 with h2 h3 h4
           subst h2 h3
           exact g2 j u hu)
          have SS0 : z0.cell? ⟨pb, 0, none⟩ = some (.int .i64 (W : Int)) := P0.out.cell 0
          go_cut [16] (fun s wx => ∃ tb gi gc gt : Nat, s = .pointer (some ⟨tb, 0, none⟩) ∧ BldI z0 pb W n N ids (.slice A4 n4 c4) (.slice none 0 0) (.slice none 0 0) (List.replicate N (.int .u64 0)) tb gi gc gt wx)
          case first =>
           refine wp_region_held_drew (S := fun Wq => Wq.cell? ⟨pb, 0, none⟩ = some (.int .i64 (W : Int))) (by kernel_rfl) SS0 (fun hHeld => ?_)
           have H0 : Hid (R25 z0 pb W n N ids (.slice A4 n4 c4) none none none none z0.drew) := hID ⟨Off.drew oRf, P0.out.to (show z0.drew.heap[pb]? = z0.heap[pb]? from rfl), fun _ e => (by cases e), fun _ _ e => (by cases e), fun _ e => (by cases e), fun _ e => (by cases e)⟩
           have HIL : Hid ((ids.map (Value.int .i64)).length = n * 1) := hID (by rw [List.length_map, HN.out, Nat.mul_one])
           have HI1 : Hid (∀ u ∈ ids.map (Value.int .i64), u.oneCell' = true) := hID (fun u hu => by obtain ⟨k, _, rfl⟩ := List.mem_map.1 hu; rfl)
           clear P0 RZ HL4 HRS5 SS0
           revert H0 hHeld
           generalize z0.drew = y0
           intro hHeld H0
           refine tkH 1 ?_
           refine tkH 3 ?_
           refine tkH 4 ?_
           refine tkH 5 ?_
           refine tkH 6 ?_
           refine tkH 7 ?_
           refine wpAnyH_ready (rs := [0, 8, 10]) (by kernel_rfl) (by simp) ?_
           refine AllReadyH.cons rfl (fun K hK => ?s6) ?m6
           case' s6 =>
            go_simp
            have H1 := hID H0.out.bs
            revert H1
            generalize y0.alloc (.cells #[] 3) = y1
            generalize y0.heap.size = B
            intro H1
            have SS1 := H1.out.ss
            refine hK.out _ _ ?_ (fun hHeld => ?_)
            ·first | exact SS1 | go_keep
            clear hK K
            try simp only [Act.put, qL]
            refine wpAnyH_ready (rs := [2, 8, 10]) (by kernel_rfl) (by simp) ?_
            refine AllReadyH.cons rfl (fun K hK => ?s7) ?m7
            case' s7 =>
             refine wp_append_lies _ _ _ 22 rfl z0.heap.size 3 i_int (.int .i64 0) 1 8 Tryz.underlying22 h_int z_int s_int b_int rfl (by decide) (.slice (some ⟨B, 0, none⟩) 0 0) 0 [] rfl (H1.out.b B rfl) ⟨b, o, none⟩ n ci (ids.map (Value.int .i64)) rfl HIL.out (fun j u hj => by rw [qam]; exact HIC.out _ (XX0.out.also H1.out.o) j u hj) HI1.out (by omega) (by unfold maxLen; omega) (by omega) H1.out.o.size _ rfl ?_
             intro gi gc y2 oW gW hat hlt
             simp only [Nat.zero_add, List.nil_append] at oW ⊢
             have H2 := hID (H1.out.ap oW gW)
             clear oW gW hat hlt
             have SS2 := H2.out.ss
             refine hK.out _ _ ?_ (fun hHeld => ?_)
             ·first | exact SS2 | go_keep
             clear hK K
             try simp only [Act.put, qL]
             refine wpAnyH_ready (rs := [8, 10]) (by kernel_rfl) (by simp) ?_
             refine AllReadyH.cons rfl (fun K hK => ?s8) ?m8
             case' s8 =>
              refine qbw y2 _ _ 23 rfl z0.heap.size 71 i_u64 (.int .u64 0) 1 Tryz.underlying23 h_u64 z_u64 s_u64 .i64 .i64 _ _ N rfl rfl rfl rfl (by rw [b_u64]; omega) (by unfold maxLen; omega) H2.out.o.size ?_
              intro y3 oW gW
              have H3 := hID (H2.out.mk' oW gW)
              clear oW gW
              revert H3
              generalize y2.heap.size = gt
              intro H3
              have SS3 := H3.out.ss
              refine hK.out _ _ ?_ (fun hHeld => ?_)
              ·first | exact SS3 | go_keep
              clear hK K
              try simp only [Act.put, qL]
              refine tkH 9 ?_
              refine wpAnyH_ready (rs := [10]) (by kernel_rfl) (by simp) ?_
              refine AllReadyH.cons rfl (fun K hK => ?s10) ?m10
              case' s10 =>
               go_simp
               have H4 := hID H3.out.al
               revert H4
               generalize y3.alloc (.cells #[.slice none 0 0, .int .i64 0, .slice none 0 0, .slice none 0 0, .slice none 0 0] 25) = y4
               generalize y3.heap.size = tb
               intro H4
               have SS4 := H4.out.ss
               refine hK.out _ _ ?_ (fun hHeld => ?_)
               ·first | exact SS4 | go_keep
               clear hK K
               try simp only [Act.put, qL]
              case' m10 =>
               exact AllReadyH.nil
             case' m8 =>
              refine AllReadyH.cons rfl (fun K hK => ?s11) ?m11
              case' s11 =>
               go_simp
               have H3 := hID H2.out.al
               revert H3
               generalize y2.alloc (.cells #[.slice none 0 0, .int .i64 0, .slice none 0 0, .slice none 0 0, .slice none 0 0] 25) = y3
               generalize y2.heap.size = tb
               intro H3
               have SS3 := H3.out.ss
               refine hK.out _ _ ?_ (fun hHeld => ?_)
               ·first | exact SS3 | go_keep
               clear hK K
               try simp only [Act.put, qL]
               refine wpAnyH_ready (rs := [8]) (by kernel_rfl) (by simp) ?_
               refine AllReadyH.cons rfl (fun K hK => ?s12) ?m12
               case' s12 =>
                refine qbw y3 _ _ 23 rfl z0.heap.size 71 i_u64 (.int .u64 0) 1 Tryz.underlying23 h_u64 z_u64 s_u64 .i64 .i64 _ _ N rfl rfl rfl rfl (by rw [b_u64]; omega) (by unfold maxLen; omega) H3.out.o.size ?_
                intro y4 oW gW
                have H4 := hID (H3.out.mk' oW gW)
                clear oW gW
                revert H4
                generalize y3.heap.size = gt
                intro H4
                have SS4 := H4.out.ss
                refine hK.out _ _ ?_ (fun hHeld => ?_)
                ·first | exact SS4 | go_keep
                clear hK K
                try simp only [Act.put, qL]
                refine tkH 9 ?_
               case' m12 =>
                exact AllReadyH.nil
              case' m11 =>
               exact AllReadyH.nil
            case' m7 =>
             refine AllReadyH.cons rfl (fun K hK => ?s14) ?m14
             case' s14 =>
              refine qbw y1 _ _ 23 rfl z0.heap.size 71 i_u64 (.int .u64 0) 1 Tryz.underlying23 h_u64 z_u64 s_u64 .i64 .i64 _ _ N rfl rfl rfl rfl (by rw [b_u64]; omega) (by unfold maxLen; omega) H1.out.o.size ?_
              intro y2 oW gW
              have H2 := hID (H1.out.mk' oW gW)
              clear oW gW
              revert H2
              generalize y1.heap.size = gt
              intro H2
              have SS2 := H2.out.ss
              refine hK.out _ _ ?_ (fun hHeld => ?_)
              ·first | exact SS2 | go_keep
              clear hK K
              try simp only [Act.put, qL]
              refine wpAnyH_ready (rs := [2, 10]) (by kernel_rfl) (by simp) ?_
              refine AllReadyH.cons rfl (fun K hK => ?s15) ?m15
              case' s15 =>
               refine wp_append_lies _ _ _ 22 rfl z0.heap.size 3 i_int (.int .i64 0) 1 8 Tryz.underlying22 h_int z_int s_int b_int rfl (by decide) (.slice (some ⟨B, 0, none⟩) 0 0) 0 [] rfl (H2.out.b B rfl) ⟨b, o, none⟩ n ci (ids.map (Value.int .i64)) rfl HIL.out (fun j u hj => by rw [qam]; exact HIC.out _ (XX0.out.also H2.out.o) j u hj) HI1.out (by omega) (by unfold maxLen; omega) (by omega) H2.out.o.size _ rfl ?_
               intro gi gc y3 oW gW hat hlt
               simp only [Nat.zero_add, List.nil_append] at oW ⊢
               have H3 := hID (H2.out.ap oW gW)
               clear oW gW hat hlt
               have SS3 := H3.out.ss
               refine hK.out _ _ ?_ (fun hHeld => ?_)
               ·first | exact SS3 | go_keep
               clear hK K
               try simp only [Act.put, qL]
               refine tkH 9 ?_
               refine wpAnyH_ready (rs := [10]) (by kernel_rfl) (by simp) ?_
               refine AllReadyH.cons rfl (fun K hK => ?s17) ?m17
               case' s17 =>
                go_simp
                have H4 := hID H3.out.al
                revert H4
                generalize y3.alloc (.cells #[.slice none 0 0, .int .i64 0, .slice none 0 0, .slice none 0 0, .slice none 0 0] 25) = y4
                generalize y3.heap.size = tb
                intro H4
                have SS4 := H4.out.ss
                refine hK.out _ _ ?_ (fun hHeld => ?_)
                ·first | exact SS4 | go_keep
                clear hK K
                try simp only [Act.put, qL]
               case' m17 =>
                exact AllReadyH.nil
              case' m15 =>
               refine AllReadyH.cons rfl (fun K hK => ?s18) ?m18
               case' s18 =>
                go_simp
                have H3 := hID H2.out.al
                revert H3
                generalize y2.alloc (.cells #[.slice none 0 0, .int .i64 0, .slice none 0 0, .slice none 0 0, .slice none 0 0] 25) = y3
                generalize y2.heap.size = tb
                intro H3
                have SS3 := H3.out.ss
                refine hK.out _ _ ?_ (fun hHeld => ?_)
                ·first | exact SS3 | go_keep
                clear hK K
                try simp only [Act.put, qL]
                refine wpAnyH_ready (rs := [2]) (by kernel_rfl) (by simp) ?_
                refine AllReadyH.cons rfl (fun K hK => ?s19) ?m19
                case' s19 =>
                 refine wp_append_lies _ _ _ 22 rfl z0.heap.size 3 i_int (.int .i64 0) 1 8 Tryz.underlying22 h_int z_int s_int b_int rfl (by decide) (.slice (some ⟨B, 0, none⟩) 0 0) 0 [] rfl (H3.out.b B rfl) ⟨b, o, none⟩ n ci (ids.map (Value.int .i64)) rfl HIL.out (fun j u hj => by rw [qam]; exact HIC.out _ (XX0.out.also H3.out.o) j u hj) HI1.out (by omega) (by unfold maxLen; omega) (by omega) H3.out.o.size _ rfl ?_
                 intro gi gc y4 oW gW hat hlt
                 simp only [Nat.zero_add, List.nil_append] at oW ⊢
                 have H4 := hID (H3.out.ap oW gW)
                 clear oW gW hat hlt
                 have SS4 := H4.out.ss
                 refine hK.out _ _ ?_ (fun hHeld => ?_)
                 ·first | exact SS4 | go_keep
                 clear hK K
                 try simp only [Act.put, qL]
                 refine tkH 9 ?_
                case' m19 =>
                 exact AllReadyH.nil
               case' m18 =>
                exact AllReadyH.nil
             case' m14 =>
              refine AllReadyH.cons rfl (fun K hK => ?s21) ?m21
              case' s21 =>
               go_simp
               have H2 := hID H1.out.al
               revert H2
               generalize y1.alloc (.cells #[.slice none 0 0, .int .i64 0, .slice none 0 0, .slice none 0 0, .slice none 0 0] 25) = y2
               generalize y1.heap.size = tb
               intro H2
               have SS2 := H2.out.ss
               refine hK.out _ _ ?_ (fun hHeld => ?_)
               ·first | exact SS2 | go_keep
               clear hK K
               try simp only [Act.put, qL]
               refine wpAnyH_ready (rs := [2, 8]) (by kernel_rfl) (by simp) ?_
               refine AllReadyH.cons rfl (fun K hK => ?s22) ?m22
               case' s22 =>
                refine wp_append_lies _ _ _ 22 rfl z0.heap.size 3 i_int (.int .i64 0) 1 8 Tryz.underlying22 h_int z_int s_int b_int rfl (by decide) (.slice (some ⟨B, 0, none⟩) 0 0) 0 [] rfl (H2.out.b B rfl) ⟨b, o, none⟩ n ci (ids.map (Value.int .i64)) rfl HIL.out (fun j u hj => by rw [qam]; exact HIC.out _ (XX0.out.also H2.out.o) j u hj) HI1.out (by omega) (by unfold maxLen; omega) (by omega) H2.out.o.size _ rfl ?_
                intro gi gc y3 oW gW hat hlt
                simp only [Nat.zero_add, List.nil_append] at oW ⊢
                have H3 := hID (H2.out.ap oW gW)
                clear oW gW hat hlt
                have SS3 := H3.out.ss
                refine hK.out _ _ ?_ (fun hHeld => ?_)
                ·first | exact SS3 | go_keep
                clear hK K
                try simp only [Act.put, qL]
                refine wpAnyH_ready (rs := [8]) (by kernel_rfl) (by simp) ?_
                refine AllReadyH.cons rfl (fun K hK => ?s23) ?m23
                case' s23 =>
                 refine qbw y3 _ _ 23 rfl z0.heap.size 71 i_u64 (.int .u64 0) 1 Tryz.underlying23 h_u64 z_u64 s_u64 .i64 .i64 _ _ N rfl rfl rfl rfl (by rw [b_u64]; omega) (by unfold maxLen; omega) H3.out.o.size ?_
                 intro y4 oW gW
                 have H4 := hID (H3.out.mk' oW gW)
                 clear oW gW
                 revert H4
                 generalize y3.heap.size = gt
                 intro H4
                 have SS4 := H4.out.ss
                 refine hK.out _ _ ?_ (fun hHeld => ?_)
                 ·first | exact SS4 | go_keep
                 clear hK K
                 try simp only [Act.put, qL]
                 refine tkH 9 ?_
                case' m23 =>
                 exact AllReadyH.nil
               case' m22 =>
                refine AllReadyH.cons rfl (fun K hK => ?s25) ?m25
                case' s25 =>
                 refine qbw y2 _ _ 23 rfl z0.heap.size 71 i_u64 (.int .u64 0) 1 Tryz.underlying23 h_u64 z_u64 s_u64 .i64 .i64 _ _ N rfl rfl rfl rfl (by rw [b_u64]; omega) (by unfold maxLen; omega) H2.out.o.size ?_
                 intro y3 oW gW
                 have H3 := hID (H2.out.mk' oW gW)
                 clear oW gW
                 revert H3
                 generalize y2.heap.size = gt
                 intro H3
                 have SS3 := H3.out.ss
                 refine hK.out _ _ ?_ (fun hHeld => ?_)
                 ·first | exact SS3 | go_keep
                 clear hK K
                 try simp only [Act.put, qL]
                 refine wpAnyH_ready (rs := [2]) (by kernel_rfl) (by simp) ?_
                 refine AllReadyH.cons rfl (fun K hK => ?s26) ?m26
                 case' s26 =>
                  refine wp_append_lies _ _ _ 22 rfl z0.heap.size 3 i_int (.int .i64 0) 1 8 Tryz.underlying22 h_int z_int s_int b_int rfl (by decide) (.slice (some ⟨B, 0, none⟩) 0 0) 0 [] rfl (H3.out.b B rfl) ⟨b, o, none⟩ n ci (ids.map (Value.int .i64)) rfl HIL.out (fun j u hj => by rw [qam]; exact HIC.out _ (XX0.out.also H3.out.o) j u hj) HI1.out (by omega) (by unfold maxLen; omega) (by omega) H3.out.o.size _ rfl ?_
                  intro gi gc y4 oW gW hat hlt
                  simp only [Nat.zero_add, List.nil_append] at oW ⊢
                  have H4 := hID (H3.out.ap oW gW)
                  clear oW gW hat hlt
                  have SS4 := H4.out.ss
                  refine hK.out _ _ ?_ (fun hHeld => ?_)
                  ·first | exact SS4 | go_keep
                  clear hK K
                  try simp only [Act.put, qL]
                  refine tkH 9 ?_
                 case' m26 =>
                  exact AllReadyH.nil
                case' m25 =>
                 exact AllReadyH.nil
              case' m21 =>
               exact AllReadyH.nil
           case' m6 =>
            refine AllReadyH.cons rfl (fun K hK => ?s28) ?m28
            case' s28 =>
             refine qbw y0 _ _ 23 rfl z0.heap.size 71 i_u64 (.int .u64 0) 1 Tryz.underlying23 h_u64 z_u64 s_u64 .i64 .i64 _ _ N rfl rfl rfl rfl (by rw [b_u64]; omega) (by unfold maxLen; omega) H0.out.o.size ?_
             intro y1 oW gW
             have H1 := hID (H0.out.mk' oW gW)
             clear oW gW
             revert H1
             generalize y0.heap.size = gt
             intro H1
             have SS1 := H1.out.ss
             refine hK.out _ _ ?_ (fun hHeld => ?_)
             ·first | exact SS1 | go_keep
             clear hK K
             try simp only [Act.put, qL]
             refine wpAnyH_ready (rs := [0, 10]) (by kernel_rfl) (by simp) ?_
             refine AllReadyH.cons rfl (fun K hK => ?s29) ?m29
             case' s29 =>
              go_simp
              have H2 := hID H1.out.bs
              revert H2
              generalize y1.alloc (.cells #[] 3) = y2
              generalize y1.heap.size = B
              intro H2
              have SS2 := H2.out.ss
              refine hK.out _ _ ?_ (fun hHeld => ?_)
              ·first | exact SS2 | go_keep
              clear hK K
              try simp only [Act.put, qL]
              refine wpAnyH_ready (rs := [2, 10]) (by kernel_rfl) (by simp) ?_
              refine AllReadyH.cons rfl (fun K hK => ?s30) ?m30
              case' s30 =>
               refine wp_append_lies _ _ _ 22 rfl z0.heap.size 3 i_int (.int .i64 0) 1 8 Tryz.underlying22 h_int z_int s_int b_int rfl (by decide) (.slice (some ⟨B, 0, none⟩) 0 0) 0 [] rfl (H2.out.b B rfl) ⟨b, o, none⟩ n ci (ids.map (Value.int .i64)) rfl HIL.out (fun j u hj => by rw [qam]; exact HIC.out _ (XX0.out.also H2.out.o) j u hj) HI1.out (by omega) (by unfold maxLen; omega) (by omega) H2.out.o.size _ rfl ?_
               intro gi gc y3 oW gW hat hlt
               simp only [Nat.zero_add, List.nil_append] at oW ⊢
               have H3 := hID (H2.out.ap oW gW)
               clear oW gW hat hlt
               have SS3 := H3.out.ss
               refine hK.out _ _ ?_ (fun hHeld => ?_)
               ·first | exact SS3 | go_keep
               clear hK K
               try simp only [Act.put, qL]
               refine tkH 9 ?_
               refine wpAnyH_ready (rs := [10]) (by kernel_rfl) (by simp) ?_
               refine AllReadyH.cons rfl (fun K hK => ?s32) ?m32
               case' s32 =>
                go_simp
                have H4 := hID H3.out.al
                revert H4
                generalize y3.alloc (.cells #[.slice none 0 0, .int .i64 0, .slice none 0 0, .slice none 0 0, .slice none 0 0] 25) = y4
                generalize y3.heap.size = tb
                intro H4
                have SS4 := H4.out.ss
                refine hK.out _ _ ?_ (fun hHeld => ?_)
                ·first | exact SS4 | go_keep
                clear hK K
                try simp only [Act.put, qL]
               case' m32 =>
                exact AllReadyH.nil
              case' m30 =>
               refine AllReadyH.cons rfl (fun K hK => ?s33) ?m33
               case' s33 =>
                go_simp
                have H3 := hID H2.out.al
                revert H3
                generalize y2.alloc (.cells #[.slice none 0 0, .int .i64 0, .slice none 0 0, .slice none 0 0, .slice none 0 0] 25) = y3
                generalize y2.heap.size = tb
                intro H3
                have SS3 := H3.out.ss
                refine hK.out _ _ ?_ (fun hHeld => ?_)
                ·first | exact SS3 | go_keep
                clear hK K
                try simp only [Act.put, qL]
                refine wpAnyH_ready (rs := [2]) (by kernel_rfl) (by simp) ?_
                refine AllReadyH.cons rfl (fun K hK => ?s34) ?m34
                case' s34 =>
                 refine wp_append_lies _ _ _ 22 rfl z0.heap.size 3 i_int (.int .i64 0) 1 8 Tryz.underlying22 h_int z_int s_int b_int rfl (by decide) (.slice (some ⟨B, 0, none⟩) 0 0) 0 [] rfl (H3.out.b B rfl) ⟨b, o, none⟩ n ci (ids.map (Value.int .i64)) rfl HIL.out (fun j u hj => by rw [qam]; exact HIC.out _ (XX0.out.also H3.out.o) j u hj) HI1.out (by omega) (by unfold maxLen; omega) (by omega) H3.out.o.size _ rfl ?_
                 intro gi gc y4 oW gW hat hlt
                 simp only [Nat.zero_add, List.nil_append] at oW ⊢
                 have H4 := hID (H3.out.ap oW gW)
                 clear oW gW hat hlt
                 have SS4 := H4.out.ss
                 refine hK.out _ _ ?_ (fun hHeld => ?_)
                 ·first | exact SS4 | go_keep
                 clear hK K
                 try simp only [Act.put, qL]
                 refine tkH 9 ?_
                case' m34 =>
                 exact AllReadyH.nil
               case' m33 =>
                exact AllReadyH.nil
             case' m29 =>
              refine AllReadyH.cons rfl (fun K hK => ?s36) ?m36
              case' s36 =>
               go_simp
               have H2 := hID H1.out.al
               revert H2
               generalize y1.alloc (.cells #[.slice none 0 0, .int .i64 0, .slice none 0 0, .slice none 0 0, .slice none 0 0] 25) = y2
               generalize y1.heap.size = tb
               intro H2
               have SS2 := H2.out.ss
               refine hK.out _ _ ?_ (fun hHeld => ?_)
               ·first | exact SS2 | go_keep
               clear hK K
               try simp only [Act.put, qL]
               refine wpAnyH_ready (rs := [0]) (by kernel_rfl) (by simp) ?_
               refine AllReadyH.cons rfl (fun K hK => ?s37) ?m37
               case' s37 =>
                go_simp
                have H3 := hID H2.out.bs
                revert H3
                generalize y2.alloc (.cells #[] 3) = y3
                generalize y2.heap.size = B
                intro H3
                have SS3 := H3.out.ss
                refine hK.out _ _ ?_ (fun hHeld => ?_)
                ·first | exact SS3 | go_keep
                clear hK K
                try simp only [Act.put, qL]
                refine wpAnyH_ready (rs := [2]) (by kernel_rfl) (by simp) ?_
                refine AllReadyH.cons rfl (fun K hK => ?s38) ?m38
                case' s38 =>
                 refine wp_append_lies _ _ _ 22 rfl z0.heap.size 3 i_int (.int .i64 0) 1 8 Tryz.underlying22 h_int z_int s_int b_int rfl (by decide) (.slice (some ⟨B, 0, none⟩) 0 0) 0 [] rfl (H3.out.b B rfl) ⟨b, o, none⟩ n ci (ids.map (Value.int .i64)) rfl HIL.out (fun j u hj => by rw [qam]; exact HIC.out _ (XX0.out.also H3.out.o) j u hj) HI1.out (by omega) (by unfold maxLen; omega) (by omega) H3.out.o.size _ rfl ?_
                 intro gi gc y4 oW gW hat hlt
                 simp only [Nat.zero_add, List.nil_append] at oW ⊢
                 have H4 := hID (H3.out.ap oW gW)
                 clear oW gW hat hlt
                 have SS4 := H4.out.ss
                 refine hK.out _ _ ?_ (fun hHeld => ?_)
                 ·first | exact SS4 | go_keep
                 clear hK K
                 try simp only [Act.put, qL]
                 refine tkH 9 ?_
                case' m38 =>
                 exact AllReadyH.nil
               case' m37 =>
                exact AllReadyH.nil
              case' m36 =>
               exact AllReadyH.nil
            case' m28 =>
             refine AllReadyH.cons rfl (fun K hK => ?s40) ?m40
             case' s40 =>
              go_simp
              have H1 := hID H0.out.al
              revert H1
              generalize y0.alloc (.cells #[.slice none 0 0, .int .i64 0, .slice none 0 0, .slice none 0 0, .slice none 0 0] 25) = y1
              generalize y0.heap.size = tb
              intro H1
              have SS1 := H1.out.ss
              refine hK.out _ _ ?_ (fun hHeld => ?_)
              ·first | exact SS1 | go_keep
              clear hK K
              try simp only [Act.put, qL]
              refine wpAnyH_ready (rs := [0, 8]) (by kernel_rfl) (by simp) ?_
              refine AllReadyH.cons rfl (fun K hK => ?s41) ?m41
              case' s41 =>
               go_simp
               have H2 := hID H1.out.bs
               revert H2
               generalize y1.alloc (.cells #[] 3) = y2
               generalize y1.heap.size = B
               intro H2
               have SS2 := H2.out.ss
               refine hK.out _ _ ?_ (fun hHeld => ?_)
               ·first | exact SS2 | go_keep
               clear hK K
               try simp only [Act.put, qL]
               refine wpAnyH_ready (rs := [2, 8]) (by kernel_rfl) (by simp) ?_
               refine AllReadyH.cons rfl (fun K hK => ?s42) ?m42
               case' s42 =>
                refine wp_append_lies _ _ _ 22 rfl z0.heap.size 3 i_int (.int .i64 0) 1 8 Tryz.underlying22 h_int z_int s_int b_int rfl (by decide) (.slice (some ⟨B, 0, none⟩) 0 0) 0 [] rfl (H2.out.b B rfl) ⟨b, o, none⟩ n ci (ids.map (Value.int .i64)) rfl HIL.out (fun j u hj => by rw [qam]; exact HIC.out _ (XX0.out.also H2.out.o) j u hj) HI1.out (by omega) (by unfold maxLen; omega) (by omega) H2.out.o.size _ rfl ?_
                intro gi gc y3 oW gW hat hlt
                simp only [Nat.zero_add, List.nil_append] at oW ⊢
                have H3 := hID (H2.out.ap oW gW)
                clear oW gW hat hlt
                have SS3 := H3.out.ss
                refine hK.out _ _ ?_ (fun hHeld => ?_)
                ·first | exact SS3 | go_keep
                clear hK K
                try simp only [Act.put, qL]
                refine wpAnyH_ready (rs := [8]) (by kernel_rfl) (by simp) ?_
                refine AllReadyH.cons rfl (fun K hK => ?s43) ?m43
                case' s43 =>
                 refine qbw y3 _ _ 23 rfl z0.heap.size 71 i_u64 (.int .u64 0) 1 Tryz.underlying23 h_u64 z_u64 s_u64 .i64 .i64 _ _ N rfl rfl rfl rfl (by rw [b_u64]; omega) (by unfold maxLen; omega) H3.out.o.size ?_
                 intro y4 oW gW
                 have H4 := hID (H3.out.mk' oW gW)
                 clear oW gW
                 revert H4
                 generalize y3.heap.size = gt
                 intro H4
                 have SS4 := H4.out.ss
                 refine hK.out _ _ ?_ (fun hHeld => ?_)
                 ·first | exact SS4 | go_keep
                 clear hK K
                 try simp only [Act.put, qL]
                 refine tkH 9 ?_
                case' m43 =>
                 exact AllReadyH.nil
               case' m42 =>
                refine AllReadyH.cons rfl (fun K hK => ?s45) ?m45
                case' s45 =>
                 refine qbw y2 _ _ 23 rfl z0.heap.size 71 i_u64 (.int .u64 0) 1 Tryz.underlying23 h_u64 z_u64 s_u64 .i64 .i64 _ _ N rfl rfl rfl rfl (by rw [b_u64]; omega) (by unfold maxLen; omega) H2.out.o.size ?_
                 intro y3 oW gW
                 have H3 := hID (H2.out.mk' oW gW)
                 clear oW gW
                 revert H3
                 generalize y2.heap.size = gt
                 intro H3
                 have SS3 := H3.out.ss
                 refine hK.out _ _ ?_ (fun hHeld => ?_)
                 ·first | exact SS3 | go_keep
                 clear hK K
                 try simp only [Act.put, qL]
                 refine wpAnyH_ready (rs := [2]) (by kernel_rfl) (by simp) ?_
                 refine AllReadyH.cons rfl (fun K hK => ?s46) ?m46
                 case' s46 =>
                  refine wp_append_lies _ _ _ 22 rfl z0.heap.size 3 i_int (.int .i64 0) 1 8 Tryz.underlying22 h_int z_int s_int b_int rfl (by decide) (.slice (some ⟨B, 0, none⟩) 0 0) 0 [] rfl (H3.out.b B rfl) ⟨b, o, none⟩ n ci (ids.map (Value.int .i64)) rfl HIL.out (fun j u hj => by rw [qam]; exact HIC.out _ (XX0.out.also H3.out.o) j u hj) HI1.out (by omega) (by unfold maxLen; omega) (by omega) H3.out.o.size _ rfl ?_
                  intro gi gc y4 oW gW hat hlt
                  simp only [Nat.zero_add, List.nil_append] at oW ⊢
                  have H4 := hID (H3.out.ap oW gW)
                  clear oW gW hat hlt
                  have SS4 := H4.out.ss
                  refine hK.out _ _ ?_ (fun hHeld => ?_)
                  ·first | exact SS4 | go_keep
                  clear hK K
                  try simp only [Act.put, qL]
                  refine tkH 9 ?_
                 case' m46 =>
                  exact AllReadyH.nil
                case' m45 =>
                 exact AllReadyH.nil
              case' m41 =>
               refine AllReadyH.cons rfl (fun K hK => ?s48) ?m48
               case' s48 =>
                refine qbw y1 _ _ 23 rfl z0.heap.size 71 i_u64 (.int .u64 0) 1 Tryz.underlying23 h_u64 z_u64 s_u64 .i64 .i64 _ _ N rfl rfl rfl rfl (by rw [b_u64]; omega) (by unfold maxLen; omega) H1.out.o.size ?_
                intro y2 oW gW
                have H2 := hID (H1.out.mk' oW gW)
                clear oW gW
                revert H2
                generalize y1.heap.size = gt
                intro H2
                have SS2 := H2.out.ss
                refine hK.out _ _ ?_ (fun hHeld => ?_)
                ·first | exact SS2 | go_keep
                clear hK K
                try simp only [Act.put, qL]
                refine wpAnyH_ready (rs := [0]) (by kernel_rfl) (by simp) ?_
                refine AllReadyH.cons rfl (fun K hK => ?s49) ?m49
                case' s49 =>
                 go_simp
                 have H3 := hID H2.out.bs
                 revert H3
                 generalize y2.alloc (.cells #[] 3) = y3
                 generalize y2.heap.size = B
                 intro H3
                 have SS3 := H3.out.ss
                 refine hK.out _ _ ?_ (fun hHeld => ?_)
                 ·first | exact SS3 | go_keep
                 clear hK K
                 try simp only [Act.put, qL]
                 refine wpAnyH_ready (rs := [2]) (by kernel_rfl) (by simp) ?_
                 refine AllReadyH.cons rfl (fun K hK => ?s50) ?m50
                 case' s50 =>
                  refine wp_append_lies _ _ _ 22 rfl z0.heap.size 3 i_int (.int .i64 0) 1 8 Tryz.underlying22 h_int z_int s_int b_int rfl (by decide) (.slice (some ⟨B, 0, none⟩) 0 0) 0 [] rfl (H3.out.b B rfl) ⟨b, o, none⟩ n ci (ids.map (Value.int .i64)) rfl HIL.out (fun j u hj => by rw [qam]; exact HIC.out _ (XX0.out.also H3.out.o) j u hj) HI1.out (by omega) (by unfold maxLen; omega) (by omega) H3.out.o.size _ rfl ?_
                  intro gi gc y4 oW gW hat hlt
                  simp only [Nat.zero_add, List.nil_append] at oW ⊢
                  have H4 := hID (H3.out.ap oW gW)
                  clear oW gW hat hlt
                  have SS4 := H4.out.ss
                  refine hK.out _ _ ?_ (fun hHeld => ?_)
                  ·first | exact SS4 | go_keep
                  clear hK K
                  try simp only [Act.put, qL]
                  refine tkH 9 ?_
                 case' m50 =>
                  exact AllReadyH.nil
                case' m49 =>
                 exact AllReadyH.nil
               case' m48 =>
                exact AllReadyH.nil
             case' m40 =>
              exact AllReadyH.nil
           all_goals
            refine wpAnyH_ready (rs := [11]) (by kernel_rfl) (by simp) ?_
            refine AllReadyH.cons rfl (fun K hK => ?_) AllReadyH.nil
            refine wp_store_mid 25 _ _ rfl tb 0 #[.slice (some ⟨gi, 0, none⟩) n gc, .int .i64 (W : Int), .slice (some ⟨gt, 0, none⟩) N N, .slice none 0 0, .slice none 0 0] rfl rfl (qs7 (H4.out.a tb rfl).1) Tryz.infoTs (by simp [Value.oneCell']) ?_
            have CUT := hID H4.out.fin
            have SS5 := CUT.out.2.1.cell 0
            refine hK.out _ _ ?_ (fun hHeld => ?_)
            ·first | exact SS5 | go_keep
            clear hK K
            try simp only [Act.put, qL]
            refine wpAnyH_done (by kernel_rfl) ?_ _
            go_wp2_with fail
            go_meet
            exact ⟨_, _, _, _, rfl, CUT.out⟩
          case rest =>
           obtain ⟨tb, gi, gc, gt, rfl, hB⟩ := hcut
           obtain ⟨x0, rfl⟩ : ∃ z, z = wc := ⟨wc, rfl⟩
           have RLT := hID RZ.out.lt
           have TGE := hID hB.2.2.2.2.2
           have LT1 := hID hB.lts
           have HRZ : Hid (∀ V, Off Nob z0 V → Blk V w.heap.size 25 #[.slice none 0 0, .int .i64 0, .slice none 0 0, .slice none 0 0, .slice none 0 0]) := hID (fun V o => RZ.out.to (o.block _ RZ.out.lt id))
           have hlan := qkv HOK.out.1
           rw [HW.out] at hlan
           have hln4 : n4 ≤ 1024 := by
            rw [HN4.out]
            have h1 := qfp Rs 0 0 HOK.out.2
            have := HOK.out.1.le
            omega
           have hlast : n ≤ qa1 (packL 0 0 Rs) + 1 := by
            have h1 := qg4 Rs 0 0 HOK.out.1.ne (fun R h => (HOK.out.1.rules R h).1)
            have := HLEN.out
            have := HNM.out
            omega
           have HST := hID (fun (V : World) (o : Off Nob z0 V) => qzt W hW4.1 (by omega) (packL 0 0 Rs) hlan (by rw [← HN4.out]; omega) V (.slice A4 n4 c4) (by rw [← HN4.out]; exact HL4.out.keepT o))
           have HEN := hID (fun (V : World) (o : Off Nob z0 V) (r : Nat) (hr : r < n) => rends W hW4.1 (by omega) (packL 0 0 Rs) hlan (by rw [← HN4.out]; omega) r (by omega) V (.slice A4 n4 c4) (by rw [← HN4.out]; exact HL4.out.keepT o))
           have HRW := hID (fun (V : World) (o : Off Nob z0 V) (b : Nat) (hb : b < 256) => q10 Rs HRB.out HOK.out b hb V (.slice AY t cy) (.slice A4 n4 c4) ((qak (qak lasts_EQ)).keep (G := Nob) HRS5.out o (fun _ _ h => h)) (by rw [← HN4.out]; exact HL4.out.keepT o))
           rw [HW.out] at HRW
           have HBU := hID (qyj (ids := ids) HOK.out (by rw [HN.out, HLEN.out, HNM.out]) HIR.out.1 HIR.out.2 HW.out HNN.out)
           have HLI := hID (qyk (ps := ps) HOK.out (by rw [HM.out, HLEN.out]) HLO.out)
           have HW4 := hID hW4
           have HN16 := hID hn16
           rw [HN.out] at HBU
           clear hlan hln4 hlast HL4 HRS5 RZ P0 SS0 HOK HRB HRS HN4
           revert HST HEN HRW HBU
           generalize packL 0 0 Rs = l
           obtain ⟨C, hC⟩ : ∃ C, Rs.flatten.flatten = C := ⟨_, rfl⟩
           rw [hC]
           clear hC
           intro HST HEN HRW HBU
           have B1 := hID hB
           have XO := hID hB.1
           clear hB
           have p0 := B1.out.2.1.cell 0
           have p1 := B1.out.2.1.cell 1
           simp only [qG] at p0 p1
           go_wp2_with fail
           refine (HST.out _ XO.out).mono ?_
           rintro e y2 ⟨u, rfl, hr, o1⟩
           have LT2 : Hid (pb < x0.heap.size ∧ tb < x0.heap.size ∧ gi < x0.heap.size ∧ gt < x0.heap.size ∧ x0.heap.size ≤ y2.heap.size ∧ z0.heap.size ≤ x0.heap.size) := hID ⟨LT1.out.1, LT1.out.2.1, LT1.out.2.2.1, LT1.out.2.2.2, o1.size, XO.out.size⟩
           have hr2 := hr.below2
           obtain ⟨As, cs, rfl, _⟩ := hr.form
           have ST2 := hID hr2
           have B2 := hID (B1.out.off o1)
           clear hr hr2 p0 p1 o1 B1 LT1 HST
           revert LT2 ST2
           generalize x0.heap.size = N1
           obtain ⟨N2, hN2⟩ : ∃ N, y2.heap.size = N := ⟨_, rfl⟩
           have N2E : Hid (y2.heap.size = N2) := hID hN2
           rw [hN2]
           clear hN2
           intro LT2 ST2
           have q3 := B2.out.2.2.1.cell 3
           have f3 := B2.out.2.2.1.frozen 3
           simp only [qG] at q3
           have B3 := hID (B2.out.put3 (.slice As W cs))
           have ST3 := hID (ST2.out.keep (Off.put (F := fun k => k = tb) (p := ⟨tb, 3, none⟩) oRf (Or.inl (Eq.refl tb)) (.slice As W cs)) (fun k hk h => by have h2 : k = tb := h; have hk2 : N1 ≤ k ∧ k < N2 := hk; have := LT2.out; omega))
           have SZ3 : Hid (N2 ≤ (y2.setCell ⟨tb, 3, none⟩ (.slice As W cs)).heap.size) := hID (by have := N2E.out; simp; omega)
           go_wp2_with fail
           clear q3 f3 B2 ST2 N2E
           revert B3 ST3 SZ3
           generalize (y2.setCell ⟨tb, 3, none⟩ (.slice As W cs)) = y3
           intro B3 ST3 SZ3
           go_loopw [17] (fun q wr => ∃ (i : Nat) (fi : Value), i ≤ n ∧ q = .int .i64 (i : Int) ∧ BldI z0 pb W n N ids (.slice A4 n4 c4) (.slice As W cs) fi (List.replicate N (.int .u64 0)) tb gi gc gt wr ∧ wr.ownsRow N2 71 1 fi (i * W) (qab (finsN W l i)) ∧ Rd wr (fun k => N1 ≤ k ∧ k < N2) 1 (.slice As W cs) W (qab (ofN W (qaq l))) ∧ N2 ≤ wr.heap.size) (fun q _ => n - (intOf q).toNat)
           case atStart => exact ⟨0, .slice none 0 0, Nat.zero_le _, rfl, B3.out, by rw [Nat.zero_mul]; exact World.ownsRow_nil _ _ _ _, ST3.out, SZ3.out⟩
           case round =>
            obtain ⟨i, fi, hi, rfl, hb, hf, hst, hsz⟩ := hrel
            obtain ⟨y4, rfl⟩ : ∃ z, z = wr := ⟨wr, rfl⟩
            have B4 := hID hb
            have F4 := hID hf
            have ST4 := hID hst
            have SZ4 := hID hsz
            clear hb hf hst hsz B3 ST3 SZ3
            by_cases hin : i < n
            ·have d1 : decide ((i : Int) < (n : Int)) = true := dcT
             have d1n : decide (i < n) = true := dT hin
             have HIN := hID hin
             have hi16 : i < 16 := by omega
             have p0 := B4.out.2.1.cell 0
             have p1 := B4.out.2.1.cell 1
             simp only [qG] at p0 p1
             go_wp2_with fail
             refine (HEN.out _ B4.out.1 i hin).mono ?_
             rintro e y5 ⟨u, rfl, hr, o1⟩
             obtain ⟨Au, cu, rfl, _⟩ := hr.form
             have B5 := hID (B4.out.off o1)
             have F5 := qas F4.out (fun g hg => o1.block g (F4.out.lt g hg).2 id)
             have ST5 := ST4.out.keep o1 (fun _ _ h => h)
             have hiw : i * W + W ≤ 1000000 := by have := Nat.mul_le_mul (Nat.le_of_lt hi16) HW4.out.2; have := HW4.out; omega
             obtain ⟨v6, w6, r6, own6, g6, at6⟩ := qge Tryz.underlying23 h_u64 z_u64 s_u64 b_u64 rfl (by decide) y5 N2 F5 hr (fun y hy => by obtain ⟨x, _, rfl⟩ := List.mem_map.1 hy; rfl) hiw (by decide) (Nat.le_trans SZ4.out o1.size)
             have hx5 : ∀ k, fi.ownBlock = some k → N2 ≤ k := fun k hk => (F4.out.lt k hk).1
             have B6 := B5.out.grown g6 hx5 (by have := LT2.out; omega) (by have := LT2.out; omega)
             have ST6 := ST5.keep (Off.grown (F := fun k => fi.ownBlock = some k) oRf g6 (fun k hk => .inl hk)) (fun k hk h => by have h2 := hx5 k h; have hk2 : N1 ≤ k ∧ k < N2 := hk; omega)
             obtain ⟨g6', c6, rfl⟩ : ∃ g c, v6 = .slice (some ⟨g, 0, none⟩) ((i + 1) * W) c := by
              rcases own6.2 with ⟨_, h0⟩ | ⟨g, cap, cur, hv, _⟩
              ·have := HW4.out; omega
              ·exact ⟨g, cap, by rw [hv, Nat.succ_mul]⟩
             have own7 : w6.ownsRow N2 71 1 (.slice (some ⟨g6', 0, none⟩) ((i + 1) * W) c6) ((i + 1) * W) (qab (finsN W l (i + 1))) := by
              rw [Nat.succ_mul] at own6 ⊢
              rw [qeu]
              unfold qab at own6 ⊢
              rw [List.map_append]
              exact own6
             have k4 := B5.out.2.2.1.cell 4
             have m4 := B6.2.2.1.cell 4
             have f4 := B6.2.2.1.frozen 4
             simp only [qG] at k4 m4
             have ne4 : g6' ≠ tb := qda own7 B6.2.2.1 (by decide)
             have R6 := hID r6
             have B7 := hID (B6.put4 (.slice (some ⟨g6', 0, none⟩) ((i + 1) * W) c6))
             have F7 := hID (qcp own7 ne4 4 [.slice (some ⟨g6', 0, none⟩) ((i + 1) * W) c6])
             have ST7 := hID (ST6.keep (Off.put (F := fun k => k = tb) (p := ⟨tb, 4, none⟩) oRf (Or.inl (Eq.refl tb)) (.slice (some ⟨g6', 0, none⟩) ((i + 1) * W) c6)) (fun k hk h => by have h2 : k = tb := h; have hk2 : N1 ≤ k ∧ k < N2 := hk; have := LT2.out; omega))
             have SZ7 : Hid (N2 ≤ (w6.setCell ⟨tb, 4, none⟩ (.slice (some ⟨g6', 0, none⟩) ((i + 1) * W) c6)).heap.size) := hID (by have h1 := own7.lt g6' rfl; simp; omega)
             clear hr F5 ST5 hiw own6 g6 at6 hx5 B6 ST6 own7 ne4 r6 o1 p0 p1
             obtain ⟨M, hM⟩ : ∃ M, (i + 1) * W = M := ⟨_, rfl⟩
             have HMM := hID hM
             rw [hM] at R6 B7 F7 ST7 SZ7
             clear hM
             go_wp2_with (first | (at_builtin; refine qaz _ (by rfl) _ _ _ rfl rfl rfl R6.out ?_) | fail)
             go_roundw
             case rel => exact ⟨i + 1, _, HIN.out, by go_num, B7.out, by rw [HMM.out]; exact F7.out, ST7.out, SZ7.out⟩
             case measure => have := HIN.out; simp [intOf]; omega
            ·obtain rfl : i = n := by omega
             have d1 : decide ((i : Int) < (i : Int)) = false := by simp
             have d1n : decide (i < i) = false := by simp
             clear hin hi
             rw [← qv5 (rowG C W) N] at B4
             go_wp2_with fail
             go_loopw [20] (fun q wr => ∃ b : Nat, b ≤ 256 ∧ q = .int .i64 (b : Int) ∧ BldI z0 pb W i N ids (.slice A4 n4 c4) (.slice As W cs) fi (tabU (rowG C W) N b 0) tb gi gc gt wr ∧ wr.ownsRow N2 71 1 fi (i * W) (qab (finsN W l i)) ∧ Rd wr (fun k => N1 ≤ k ∧ k < N2) 1 (.slice As W cs) W (qab (ofN W (qaq l)))) (fun q _ => 256 - (intOf q).toNat)
             case atStart => exact ⟨0, by decide, rfl, B4.out, F4.out, ST4.out⟩
             case round =>
              obtain ⟨b, hb256, rfl, hb, hf, hst⟩ := hrel
              obtain ⟨y5, rfl⟩ : ∃ z, z = wr := ⟨wr, rfl⟩
              have B5 := hID hb
              have F5 := hID hf
              have ST5 := hID hst
              clear hb hf hst B4 F4 ST4
              by_cases hlt : b < 256
              ·have HBL := hID hlt
               have p0 := B5.out.2.1.cell 0
               have p1 := B5.out.2.1.cell 1
               simp only [qG] at p0 p1
               go_wp2_with fail
               refine (HRW.out _ B5.out.1 b hlt).mono ?_
               rintro e y6 ⟨u, rfl, hr, o1⟩
               obtain ⟨bu, ou, cu, rfl, hcu⟩ := hr.cellsT (by have := HW4.out; omega)
               have B6 := hID (B5.out.off o1)
               have F6 := hID (qas F5.out (fun g hg => o1.block g (F5.out.lt g hg).2 id))
               have ST6 := hID (ST5.out.keep o1 (fun _ _ h => h))
               have hby : N2 ≤ y5.heap.size ∨ True := .inr trivial
               have HR := hID (hr.mono (G := fun k => k ≠ gt) (fun k hk e => by have := B5.out.lts.2.2.2; have hk2 : y5.heap.size ≤ k := hk; omega))
               clear hr hcu o1 p0 p1 hby
               have p0 := B6.out.2.1.cell 0
               simp only [qG] at p0
               go_wp2_with fail
               clear p0
               go_loopw [23] (fun q wr => ∃ k : Nat, k ≤ W ∧ q = .int .i64 (k : Int) ∧ BldI z0 pb W i N ids (.slice A4 n4 c4) (.slice As W cs) fi (tabU (rowG C W) N b k) tb gi gc gt wr ∧ wr.ownsRow N2 71 1 fi (i * W) (qab (finsN W l i)) ∧ Rd wr (fun k => N1 ≤ k ∧ k < N2) 1 (.slice As W cs) W (qab (ofN W (qaq l))) ∧ Rd wr (fun k => k ≠ gt) 1 (.slice (some ⟨bu, ou, none⟩) W cu) W (qab (ofN W (posB C b)))) (fun q _ => W - (intOf q).toNat)
               case atStart => exact ⟨0, Nat.zero_le _, rfl, B6.out, F6.out, ST6.out, HR.out⟩
               case round =>
                obtain ⟨k, hk, rfl, hb, hf, hst, hr⟩ := hrel
                obtain ⟨y7, rfl⟩ : ∃ z, z = wr := ⟨wr, rfl⟩
                have B7 := hID hb
                have F7 := hID hf
                have ST7 := hID hst
                have HR7 := hID hr
                clear hb hf hst hr B5 F5 ST5 B6 F6 ST6 HR
                have p0 := B7.out.2.1.cell 0
                simp only [qG] at p0
                by_cases hkw : k < W
                ·have d2 : decide ((k : Int) < (W : Int)) = true := dcT
                 have d2n : decide (k < W) = true := dT hkw
                 have HKW := hID hkw
                 have hk4 : k < 4 := by have := HW4.out; omega
                 obtain ⟨x, hx⟩ : ∃ x, 256 * k = x := ⟨_, rfl⟩
                 obtain ⟨j, hj⟩ : ∃ j, x + b = j := ⟨_, rfl⟩
                 have hjN : j < N := by have := HNN.out; omega
                 have hj1024 : j < 1024 := by omega
                 have hx1024 : x < 1024 := by omega
                 have E1 : IntKind.i64.wrap (256 * (k : Int)) = (x : Int) := by rw [IntKind.wrap_i64]; omega
                 have E2 : IntKind.i64.wrap ((x : Int) + (b : Int)) = (j : Int) := by rw [IntKind.wrap_i64]; omega
                 have HJ : Hid (256 * k + b = j) := hID (by omega)
                 have q2 := B7.out.2.2.1.cell 2
                 simp only [qG] at q2
                 obtain ⟨r, hr⟩ : ∃ r, rowG C W b k = r := ⟨_, rfl⟩
                 have HRR := hID hr
                 have d0 : y7.cell? ⟨bu, ou + k, none⟩ = some (.int .u64 (r : Int)) := by
                  obtain ⟨A, c, he, _, _, hc⟩ := HR7.out
                  obtain ⟨b2, o2, hA, _, _, hx2⟩ := hc (by omega)
                  rw [hA] at he
                  injection he with he
                  injection he with he
                  injection he with he1 he2
                  subst he1 he2
                  refine hx2 k _ ?_
                  unfold qab
                  have hk2 : k < (ofN W (posB C b)).length := by rw [qb4]; exact hkw
                  rw [List.getElem?_map, gEe hk2, ← hr]
                  unfold rowG
                  rw [gDe, gEe hk2]
                  rfl
                 have th : y7.there gt j 1 := fun j' hj' => by
                  have : j' = 0 := by omega
                  subst this
                  exact ⟨by rw [Nat.add_zero, B7.out.2.2.2.2.1.cellAt j (by omega), gEe (by rw [qyd]; exact hjN)]; rfl, B7.out.2.2.2.2.1.frozenAt _⟩
                 clear hx hj hr
                 go_wp2_with fail
                 refine wp_region_held_drew (S := fun Wq => Wq.cell? ⟨tb, 2, none⟩ = some (.slice (some ⟨gt, 0, none⟩) N N) ∧ Wq.there gt j 1) (by kernel_rfl) ⟨q2, th⟩ (fun hHeld => ?_)
                 refine tkH 0 ?_
                 refine tkH 1 ?_
                 refine tkH 2 ?_
                 refine tkH 3 ?_
                 refine tkH 4 ?_
                 refine tkH 5 ?_
                 refine tkH 6 ?_
                 refine tkH 7 ?_
                 refine tkH 8 ?_
                 refine wpAnyH_ready (rs := [9]) (by kernel_rfl) (by simp) ?_
                 refine AllReadyH.cons rfl (fun K hK => ?s909) ?m909
                 case s909 =>
                  go_simp
                  refine hK.out _ _ ?_ (fun hHeld => ?_)
                  ·first | exact hHeld | go_keep
                  clear hK K
                  try simp only [Act.put, qL]
                  refine tkH 10 ?_
                  refine wpAnyH_ready (rs := [11]) (by kernel_rfl) (by simp) ?_
                  refine AllReadyH.cons rfl (fun K hK => ?s911) ?m911
                  case s911 =>
                   obtain ⟨yy, hyy⟩ := Option.isSome_iff_exists.1 (hHeld.2 0 (by decide)).1
                   have hff := (hHeld.2 0 (by decide)).2
                   simp only [Nat.add_zero] at hyy hff
                   go_simp
                   refine hK.out _ _ ?_ (fun hHeld => ?_)
                   ·first | exact ⟨(qp0 hHeld.1 (Ne.symm B7.out.ne.2.1)), World.there_setCells hHeld.2 gt j [_]⟩ | go_keep
                   clear hK K
                   try simp only [Act.put, qL]
                   refine wpAnyH_done (by kernel_rfl) ?_ _
                   have B8 := hID ((B7.out.putT j (.int .u64 (r : Int))).off (Off.drew oRf))
                   rw [← HRR.out, ← HJ.out, qye (rowG C W) HBL.out (by have := HJ.out; omega), HJ.out, HRR.out] at B8
                   have oG : Off (fun k => k = gt) y7 ((y7.setCell ⟨gt, j, none⟩ (.int .u64 (r : Int))).drew) := (Off.put (F := fun k => k = gt) (p := ⟨gt, j, none⟩) oRf (Or.inl (Eq.refl gt)) _).drew
                   have ST8 := hID (ST7.out.keep oG (fun k hk h => by have h2 : k = gt := h; have hk2 : N1 ≤ k ∧ k < N2 := hk; have := LT2.out; omega))
                   have HR8 := hID (HR7.out.keep oG (fun k hk h => hk h))
                   have F8 := hID (qas F7.out (fun g hg => oG.block g (F7.out.lt g hg).2 (fun h => by have h2 : g = gt := h; have := (F7.out.lt g hg).1; have := LT2.out; omega)))
                   clear oG hHeld th q2 d0 p0
                   go_wp2_with fail
                   go_roundw
                   case rel => exact ⟨k + 1, HKW.out, by go_num, B8.out, F8.out, ST8.out, HR8.out⟩
                   case measure => have := HKW.out; simp [intOf]; omega
                  exact AllReadyH.nil
                 exact AllReadyH.nil
                ·obtain rfl : k = W := by omega
                 have d2 : decide ((k : Int) < (k : Int)) = false := by simp
                 have d2n : decide (k < k) = false := by simp
                 rw [qyf (rowG C k) HNN.out b] at B7
                 go_wp2_with fail
                 go_roundw
                 case rel => exact ⟨b + 1, HBL.out, by go_num, B7.out, F7.out, ST7.out⟩
                 case measure => have := HBL.out; simp [intOf]; omega
              ·obtain rfl : b = 256 := by omega
               clear hlt hb256
               rw [qyg] at B5
               have q0 := B5.out.2.2.1.cell 0
               have q1 := B5.out.2.2.1.cell 1
               have q2 := B5.out.2.2.1.cell 2
               have q3 := B5.out.2.2.1.cell 3
               have q4 := B5.out.2.2.1.cell 4
               simp only [qG] at q0 q1 q2 q3 q4
               have RR1 := hID (HRZ.out _ B5.out.1)
               have r0 := RR1.out.cell 0
               have r1 := RR1.out.cell 1
               have r2 := RR1.out.cell 2
               have r3 := RR1.out.cell 3
               have r4 := RR1.out.cell 4
               simp only [qG] at r0 r1 r2 r3 r4
               have f0 := RR1.out.frozen 0
               have f1 := RR1.out.frozen 1
               have f2 := RR1.out.frozen 2
               have f3 := RR1.out.frozen 3
               have f4 := RR1.out.frozen 4
               have hi1 : 1 ≤ i * W := Nat.mul_pos hn1 HW4.out.1
               obtain ⟨gf, cf, rfl⟩ : ∃ g c, fi = .slice (some ⟨g, 0, none⟩) (i * W) c := by
                rcases F5.out.2 with ⟨_, h0⟩ | ⟨g, cap, cur, hv, _⟩
                ·omega
                ·exact ⟨g, cap, hv⟩
               obtain ⟨M, hM⟩ : ∃ M, i * W = M := ⟨_, rfl⟩
               have HMM := hID hM
               rw [hM] at q4 B5 F5
               clear hM hi1
               have RB := hID (qep RR1.out (.slice (some ⟨gi, 0, none⟩) i gc) (.int .i64 (W : Int)) (.slice (some ⟨gt, 0, none⟩) N N) (.slice As W cs) (.slice (some ⟨gf, 0, none⟩) M cf))
               have RO := hID (qax (XX0.out.also B5.out.1) (Nat.le_refl _) 0 [.slice (some ⟨gi, 0, none⟩) i gc, .int .i64 (W : Int), .slice (some ⟨gt, 0, none⟩) N N, .slice As W cs, .slice (some ⟨gf, 0, none⟩) M cf])
               have oF : Off (fun k => k = w.heap.size) y5 (y5.setCells w.heap.size 0 [.slice (some ⟨gi, 0, none⟩) i gc, .int .i64 (W : Int), .slice (some ⟨gt, 0, none⟩) N N, .slice As W cs, .slice (some ⟨gf, 0, none⟩) M cf]) := qqw _ _ _ _
               have n1 : gi ≠ w.heap.size := by have := (B5.out.2.2.2.1.lt gi rfl).1; have := RLT.out; omega
               have n2 : gt ≠ w.heap.size := by have := (B5.out.2.2.2.2.1.lt gt rfl).1; have := RLT.out; omega
               have n3 : gf ≠ w.heap.size := by have := (F5.out.lt gf rfl).1; have := RLT.out; have := LT2.out; omega
               have KKI := qcp B5.out.2.2.2.1 n1 0 [.slice (some ⟨gi, 0, none⟩) i gc, .int .i64 (W : Int), .slice (some ⟨gt, 0, none⟩) N N, .slice As W cs, .slice (some ⟨gf, 0, none⟩) M cf]
               have KKT := qcp B5.out.2.2.2.2.1 n2 0 [.slice (some ⟨gi, 0, none⟩) i gc, .int .i64 (W : Int), .slice (some ⟨gt, 0, none⟩) N N, .slice As W cs, .slice (some ⟨gf, 0, none⟩) M cf]
               have KKF := qcp F5.out n3 0 [.slice (some ⟨gi, 0, none⟩) i gc, .int .i64 (W : Int), .slice (some ⟨gt, 0, none⟩) N N, .slice As W cs, .slice (some ⟨gf, 0, none⟩) M cf]
               have hlo : ∀ k, z0.heap.size ≤ k → w.heap.size ≤ k := fun k hk => by have := XX0.out.size; omega
               have KS := hID (SetRd.mk (W := W) (by rw [HN.out]; exact Rd.own KKI (fun k hk => hlo k (KKI.lt k hk).1)) (by rw [qox]; exact Rd.own KKT (fun k hk => hlo k (KKT.lt k hk).1)) (by rw [qb4]; exact Rd.mono (G := fun k => w.heap.size ≤ k) (ST5.out.keep oF (fun k hk h => by have h2 : k = w.heap.size := h; have hk2 : N1 ≤ k ∧ k < N2 := hk; have := LT2.out; have := RLT.out; omega)) (fun k hk => by have hk2 : N1 ≤ k ∧ k < N2 := hk; have := LT2.out; have := RLT.out; omega)) (by rw [qfq, HMM.out]; exact Rd.own KKF (fun k hk => by have := (KKF.lt k hk).1; have := LT2.out; have := RLT.out; omega)) (q0b (q0c C W)) (qf9 _ _) (qyi _ _ _) (ql3 KKT) (ql3 KKF))
               clear oF n1 n2 n3 KKI KKT KKF hlo B5 F5 ST5
               go_wp2_with fail
               exact bodyPost_ret (qae rfl _ _ _ _ _ (0, 0) _ rfl RB.out Tryz.underlying25 rfl Tryz.infoTs) rfl ⟨_, _, _, _, _, 0, 0, rfl, isSl4, RO.out, fun _ => ⟨rfl, rfl⟩, fun _ => ⟨Rs, _, _, _, W, rfl, HBU.out, HLI.out.1, HLI.out.2, KS.out, HFR.out⟩⟩
         ·have dx : (x4 != 0) = true := bne_iff_ne.2 hx
          have HXN := hID hx
          clear hx
          obtain ⟨⟨ka, kb, kc, kd, ke⟩, ⟨ra, rb, rc, rd, re⟩, ⟨fa, fb, fc, fd, fe⟩, RR, RO⟩ := HERR.out (w5.alloc (.cells #[.int .i64 W4, .slice A4 n4 c4] 62)) O5.out
          go_wp2_with fail
          exact bodyPost_ret (qae rfl _ _ _ _ _ (0, 0) _ rfl RR.out Tryz.underlying25 rfl Tryz.infoTs) rfl ⟨_, _, _, _, _, i4, x4, rfl, isSl4, RO.out, fun h => absurd (HX4.out.2 (by rw [HFR.out h.1]; exact h.2.2.2.2.2.2)) HXN.out, fun h => absurd h HXN.out⟩
      ·have dx : (x3 != 0) = true := bne_iff_ne.2 hx
       have HX3 := hID hx
       clear hx
       obtain ⟨⟨ka, kb, kc, kd, ke⟩, ⟨ra, rb, rc, rd, re⟩, ⟨fa, fb, fc, fd, fe⟩, RR, RO⟩ := HERR.out w3 O3.out
       go_wp2_with fail
       exact bodyPost_ret (qae rfl _ _ _ _ _ (0, 0) _ rfl RR.out Tryz.underlying25 rfl Tryz.infoTs) rfl ⟨_, _, _, _, _, n3, x3, rfl, isSl4, RO.out, fun h => absurd (HF3.out h.1 (by have := h.2.1; have := h.2.2.2.1; omega)) HX3.out, fun h => absurd h HX3.out⟩
  ·have de : ((n : Int) != (m : Int)) = true := bne_iff_ne.2 (by omega)
   have HNM := hID hnm
   clear hnm
   go_wp2_with fail
   exact bodyPost_ret (qae rfl _ _ _ _ _ (0, 0) _ rfl (HBR.out _ oRf) Tryz.underlying25 rfl Tryz.infoTs) rfl ⟨_, _, _, _, _, 0, 6, rfl, isSl4, X2.out, fun h => absurd h.2.1 (by rw [HN.out, HM.out]; exact HNM.out), fun h => absurd h (by decide)⟩
end
section
open Go.RowKit
def exE (c : Nat) : El := ⟨false, (0, c, 0, 0), 0, 0⟩
def exPs : List (List El) := [[exE 8589934592, exE 17179869184], [exE 25769803776]]
theorem exE_b {c : Nat} (h : c < 18446744073709551616) : ElB (exE c) := ⟨⟨(by decide : 0 < 18446744073709551616), h, (by decide : 0 < 18446744073709551616), (by decide : 0 < 18446744073709551616)⟩, ⟨(by decide : (-9223372036854775808 : Int) ≤ 0), (by decide : (0 : Int) ≤ 9223372036854775807)⟩, ⟨(by decide : (-9223372036854775808 : Int) ≤ 0), (by decide : (0 : Int) ≤ 9223372036854775807)⟩⟩
theorem qoy {p : List El → Prop} (h1 : p [exE 8589934592, exE 17179869184]) (h2 : p [exE 25769803776]) : ∀ q ∈ exPs, p q := by
 intro q hq
 rcases List.mem_cons.1 hq with rfl | hq
 ·exact h1
 ·rw [List.mem_singleton.1 hq]; exact h2
theorem qyl : PatsB exPs where
 el := qoy (fun e he => by
  rcases List.mem_cons.1 he with rfl | he
  ·exact exE_b (by decide)
  ·rw [List.mem_singleton.1 he]; exact exE_b (by decide)) (fun e he => by rw [List.mem_singleton.1 he]; exact exE_b (by decide))
 len := qoy (by decide) (by decide)
 all := by decide
theorem qq9 {p : List El} {j : Nat} (h : ∃ c, p.getD j zEl = exE c) : ElOk p j := by
 obtain ⟨c, h⟩ := h
 unfold ElOk
 rw [h]
 exact ⟨fun _ => ⟨rfl, rfl⟩, fun h => by cases h⟩
theorem qra : FlatP exPs := qoy ⟨⟨by simp, fun j hj => by
 have hj : j < 2 := hj
 have : j = 0 ∨ j = 1 := by omega
 rcases this with rfl | rfl <;> exact qq9 ⟨_, rfl⟩⟩, rfl⟩ ⟨⟨by simp, fun j hj => by
 have hj : j < 1 := hj
 obtain rfl : j = 0 := by omega
 exact qq9 ⟨_, rfl⟩⟩, rfl⟩
theorem q0d : GoodB [5, 9] exPs := by
 refine ⟨qra, rfl, by decide, by decide, by decide, rfl, ⟨by simp [flatR, exPs], by decide, ?_, by decide⟩, ?_⟩
 ·intro R hR
  rcases List.mem_cons.1 hR with rfl | hR
  ·exact ⟨by simp, fun L hL => by rw [List.mem_singleton.1 hL]; simp [lineN, exE]⟩
  ·rw [List.mem_singleton.1 hR]; exact ⟨by simp, fun L hL => by rw [List.mem_singleton.1 hL]; simp [lineN, exE]⟩
 ·intro R hR
  rcases List.mem_cons.1 hR with rfl | hR
  ·decide
  ·rw [List.mem_singleton.1 hR]; decide
theorem q0e : ∀ b : Fin 256, ((ofN 1 (posB (flatR exPs).flatten.flatten b.val)).getD 0 0 : Int) = rowB b.val := by decide +kernel
theorem qym {T S F : List Nat} {W : Nat} (h : Built [5, 9] (flatR exPs) W T S F) : W = 1 ∧ qab T = tabV 256 ∧ S = [5] ∧ F = [2, 4] := by
 have hw : W = 1 := by rw [h.w]; rfl
 subst hw
 refine ⟨rfl, ?_, by rw [h.s]; decide +kernel, ?_⟩
 ·have hl := h.tl
  apply List.ext_getElem
  ·simp [qab, tabV, hl]
  ·intro b h1 h2
   have hb : b < 256 := by simpa [tabV] using h2
   have e := congrArg (fun l => l.getD 0 0) (h.t b hb)
   have e2 := q0e ⟨b, hb⟩
   simp only [qar, List.range_one, List.map_cons, List.map_nil, Nat.mul_zero, Nat.zero_add, List.getD_cons_zero] at e
   rw [← e, gDe, gEe (by rw [hl]; exact hb), Option.getD_some] at e2
   simp only [qab, tabV, List.getElem_map, List.getElem_range, if_pos hb]
   rw [e2]
 ·have hl := h.fl
  have e0 := h.f 0 (by decide)
  have e1 := h.f 1 (by decide)
  match F, hl with
  | [a, b], _ =>
   have f0 : ofN 1 (endsN 0 (packL 0 0 (flatR exPs))) = [2] := by decide +kernel
   have f1 : ofN 1 (endsN 1 (packL 0 0 (flatR exPs))) = [4] := by decide +kernel
   rw [f0] at e0
   rw [f1] at e1
   simp [finL] at e0 e1
   rw [e0, e1]
theorem qv6 (w : World) (vi vl pa pv : Value) (hi : Rd w (fun _ => True) 1 vi 2 [.int .i64 5, .int .i64 9]) (hl : Rd w (fun _ => True) 1 vl 2 [pa, pv]) (ha : Rd w (fun _ => True) 7 pa 2 pa_a) (hb : Rd w (fun _ => True) 7 pv 1 pa_b) :
  Calls Tryz.prog 29 #[vi, vl] w (q1p w) := by
 refine (qq8 [5, 9] exPs qyl (by decide) (by decide) w vi vl hi ⟨[pa, pv], rfl, hl, fun i u p h1 h2 => ?_⟩).mono ?_
 ·match i, h1, h2 with
  | 0, h1, h2 =>
   obtain rfl : pa = u := by simpa using h1
   obtain rfl : [exE 8589934592, exE 17179869184] = p := by simpa [exPs] using h2
   exact ha
  | 1, h1, h2 =>
   obtain rfl : pv = u := by simpa using h1
   obtain rfl : [exE 25769803776] = p := by simpa [exPs] using h2
   exact hb
  | i + 2, h1, h2 => simp at h1
 ·rintro e w' ⟨VI, VT, VS, VF, W, i, x, rfl, -, o, hg, hx⟩
  obtain ⟨rfl, rfl⟩ := hg q0d
  obtain ⟨Rs, T, S, F, Wn, rfl, hbu, -, -, hr, hf⟩ := hx rfl
  obtain rfl := hf qra
  obtain ⟨rfl, hT, rfl, rfl⟩ := qym hbu
  have hl := hbu.tl
  exact ⟨_, _, _, _, rfl, hr.i, by rw [← hT]; have := hr.t; rw [hl] at this; exact this, hr.s, hr.f, hr.tc, hr.fc, o⟩
end
section
open Go.RowKit
theorem Tryz.infoPs : (Tryz.prog.info? 54).map (fun i => (i.zero, i.size, i.bytes)) = some (some (.slice none 0 0), 1, 24) := by kernel_rfl
def SetOf (w : World) (e : Ending) (w' : World) : Prop :=
 ∃ ids tab st fi, e = .returned (.tuple #[.agg #[ids, .int .i64 1, tab, st, fi], .int .i64 0, .int .i64 0]) ∧ Rd w' (fun _ => True) 1 ids 2 [.int .i64 5, .int .i64 9] ∧ Rd w' (fun _ => True) 1 tab 256 (tabV 256) ∧ Rd w' (fun _ => True) 1 st 1 [.int .u64 5] ∧ Rd w' (fun _ => True) 1 fi 2 [.int .u64 2, .int .u64 4] ∧ CapOk tab ∧ CapOk fi ∧ Off Nob w w'
theorem qtm (w : World) (v va vb : Value) (hv : Rd w (fun _ => True) 2 v 2 [.int .i64 5, va, .int .i64 9, vb]) (ha : Rd w (fun _ => True) 8 va 1 el_a) (hb : Rd w (fun _ => True) 8 vb 1 el_b) :
  Calls Tryz.prog 38 #[v] w (SetOf w) := by
 obtain ⟨i_int, h_int, z_int, s_int, b_int⟩ := info_parts Tryz.infoI'
 obtain ⟨i_pas, h_pas, z_pas, s_pas, b_pas⟩ := info_parts Tryz.infoPs
 have HV0 := hID hv
 have Ha := hID ha
 have Hb := hID hb
 obtain ⟨b, o, c, rfl, hc⟩ := hv.cellsT (by decide)
 have HV := HV0
 have GC : Hid (∀ W, Off Nob w W → W.cell? ⟨b, o, none⟩ = some (.int .i64 5) ∧ W.cell? ⟨b, o + 1, none⟩ = some va ∧ W.cell? ⟨b, o + 2, none⟩ = some (.int .i64 9) ∧ W.cell? ⟨b, o + 3, none⟩ = some vb) := hID (fun W ho => ⟨hc W ho 0 _ rfl, hc W ho 1 _ rfl, hc W ho 2 _ rfl, hc W ho 3 _ rfl⟩)
 clear hc hv ha hb HV0
 go_enter Tryz.func38, Tryz.ntmps38
 go_wp2_with fail
 have X0 : Hid (Off Nob w (w.alloc (.cells #[.slice none 0 0, .int .i64 0, .slice none 0 0, .slice none 0 0, .slice none 0 0] 25))) := hID (oAl oRf _)
 have R0 : Hid (Blk (w.alloc (.cells #[.slice none 0 0, .int .i64 0, .slice none 0 0, .slice none 0 0, .slice none 0 0] 25)) w.heap.size 25 #[.slice none 0 0, .int .i64 0, .slice none 0 0, .slice none 0 0, .slice none 0 0]) := hID (Blk.new _ _ _)
 revert X0 R0
 generalize (w.alloc (.cells #[.slice none 0 0, .int .i64 0, .slice none 0 0, .slice none 0 0, .slice none 0 0] 25)) = w0
 intro X0 R0
 have X0' := X0
 clear X0
 have X0 := X0'
 clear X0'
 obtain ⟨c0, c1, c2, c3⟩ := GC.out _ X0.out
 go_wp2_with fail
 refine (qsk _ _ _ _ (HV.out.keepT X0.out) (Ha.out.keepT X0.out) (Hb.out.keepT X0.out)).mono ?_
 rintro e w1 ⟨rfl, o1⟩
 have X1 := hID (X0.out.also o1)
 have R1 := hID (R0.out.to (o1.block _ R0.out.lt (fun h => h)))
 clear R0
 clear o1 X0
 clear c0 c1 c2 c3
 obtain ⟨c0, c1, c2, c3⟩ := GC.out _ X1.out
 go_wp2_with fail
 refine wp_loop_rounds 3 ?_
 rw [rounds_succ]
 go_wp2_with fail
 refine (qxl _ _ (Ha.out.keepT X1.out)).mono ?_
 rintro e w2 ⟨u, rfl, hr, o1⟩
 have X2 := hID (X1.out.also o1)
 obtain ⟨hr, o1⟩ := id (And.intro hr o1)
 obtain ⟨AP, kp, rfl, _⟩ := hr.form
 have HP := hID hr.below
 clear hr
 have R2 := hID (R1.out.to (o1.block _ R1.out.lt (fun h => h)))
 clear R1
 clear o1 X1
 clear c0 c1 c2 c3
 obtain ⟨c0, c1, c2, c3⟩ := GC.out _ X2.out
 go_wp2_with (at_builtin; refine @wpList_append_lies _ _ _ _ _ _ _ rfl _ _ 22 rfl w.heap.size 3 i_int (.int .i64 0) 1 8 Tryz.underlying22 h_int z_int s_int b_int rfl (by decide) (.slice none 0 0) (0) ([]) rfl ((OwnL.nilAt X2.out 3 1).1.alloc _) ⟨w2.heap.size, 0, none⟩ 1 1 [.int .i64 5] rfl rfl ?c1 (by decide) (by decide) (by decide) (by decide) (by have := (OwnL.nilAt X2.out 3 1).2.size; simp; omega) _ rfl ?_)
 case c1 => exact qby _ [.int .i64 5] _
 intro gint0 capint0 y0int oW gW hat hlt
 have oo : Off Nob w2 y0int := Off.grown (oAl oRf _) gW (fun k hk => by cases hk)
 have OI := hID ((OwnL.nilAt X2.out 3 1).grown (oAl (Off.refl Nob w2) (.cells #[.int .i64 5] 3)) oW gW)
 have Xa := hID OI.out.2
 have GI : Hid (w2.heap.size ≤ gint0 ∧ gint0 < y0int.heap.size) := hID ⟨hat.elim (fun h => by cases h) (fun h => by rw [h]; simp), hlt⟩
 have HPa := hID (HP.out.keep oo (fun _ _ h => h))
 have Ra := hID (R2.out.to (oo.block _ R2.out.lt (fun h => h)))
 have SZa := hID oo.size
 clear HP R2 oo oW gW hat hlt X2 c0 c1 c2 c3
 obtain ⟨c0, c1, c2, c3⟩ := GC.out _ Xa.out
 go_wp2_with (at_builtin; refine @wpList_append_lies _ _ _ _ _ _ _ rfl _ _ 53 rfl w.heap.size 54 i_pas (.slice none 0 0) 1 24 Tryz.underlying53 h_pas z_pas s_pas b_pas rfl (by decide) (.slice none 0 0) (0) ([]) rfl ((OwnL.nilAt Xa.out 54 1).1.alloc _) ⟨y0int.heap.size, 0, none⟩ 1 1 [.slice AP 2 kp] rfl rfl ?c1 (by intro u hu; simp at hu; subst hu; rfl) (by decide) (by decide) (by decide) (by have := (OwnL.nilAt Xa.out 54 1).2.size; simp; omega) _ rfl ?_)
 case c1 => exact qby _ [.slice AP 2 kp] _
 intro gpas0 cappas0 y0pas oW gW hat hlt
 have oo : Off Nob y0int y0pas := Off.grown (oAl oRf _) gW (fun k hk => by cases hk)
 have OA := hID ((OwnL.nilAt Xa.out 54 1).grown (oAl (Off.refl Nob y0int) (.cells #[.slice AP 2 kp] 54)) oW gW)
 have X3 := hID OA.out.2
 have GA : Hid (w2.heap.size ≤ gpas0 ∧ gpas0 < y0pas.heap.size) := hID ⟨hat.elim (fun h => by cases h) (fun h => by have := SZa.out; rw [h]; simp; omega), hlt⟩
 have OIb := hID (OI.out.off oo)
 have GIb : Hid (w2.heap.size ≤ gint0 ∧ gint0 < y0pas.heap.size) := hID ⟨GI.out.1, Nat.lt_of_lt_of_le GI.out.2 oo.size⟩
 have HPb := hID (HPa.out.keep oo (fun _ _ h => h))
 have R3 := hID (Ra.out.to (oo.block _ Ra.out.lt (fun h => h)))
 clear HPa Ra OI GI oo oW gW hat hlt Xa SZa c0 c1 c2 c3
 obtain ⟨c0, c1, c2, c3⟩ := GC.out _ X3.out
 go_wp2_with fail
 rw [rounds_succ]
 go_wp2_with fail
 refine (qxm _ _ (Hb.out.keepT X3.out)).mono ?_
 rintro e w3 ⟨u, rfl, hr, o1⟩
 have X4 := hID (X3.out.also o1)
 obtain ⟨hr, o1⟩ := id (And.intro hr o1)
 obtain ⟨AQ, kq, rfl, _⟩ := hr.form
 have HQ := hID hr
 clear hr
 have HPc := hID (HPb.out.keep o1 (fun _ _ h => h))
 have OIc := hID (OIb.out.off o1)
 have OAc := hID (OA.out.off o1)
 clear HPb OIb OA
 have R4 := hID (R3.out.to (o1.block _ R3.out.lt (fun h => h)))
 clear R3
 clear o1 X3
 clear c0 c1 c2 c3
 obtain ⟨c0, c1, c2, c3⟩ := GC.out _ X4.out
 go_wp2_with (at_builtin; refine @wpList_append_lies _ _ _ _ _ _ _ rfl _ _ 22 rfl w.heap.size 3 i_int (.int .i64 0) 1 8 Tryz.underlying22 h_int z_int s_int b_int rfl (by decide) (.slice (some ⟨gint0, 0, none⟩) (0 + 1) capint0) (0 + 1) ([] ++ [.int .i64 5]) rfl (OIc.out.1.alloc _) ⟨w3.heap.size, 0, none⟩ 1 1 [.int .i64 9] rfl rfl ?c1 (by decide) (by decide) (by decide) (by decide) (by have := OIc.out.2.size; simp; omega) _ rfl ?_)
 case c1 => exact qby _ [.int .i64 9] _
 intro gint1 capint1 y1int oW gW hat hlt
 have oo : Off (fun k => k = gint0) w3 y1int := Off.grown (oAl oRf _) gW (fun k hk => .inl (by injection hk with hk; exact hk.symm))
 have OId := hID (OIc.out.grown (oAl (Off.refl Nob w3) (.cells #[.int .i64 9] 3)) oW gW)
 have Xa := hID OId.out.2
 have HPd := hID (HPc.out.keep oo (fun k hk h => by have h2 : k = gint0 := h; have hk2 : k < w2.heap.size := hk; have := GIb.out; omega))
 have HQd := hID (HQ.out.keep oo (fun k hk h => by have h2 : k = gint0 := h; have hk2 : y0pas.heap.size ≤ k := hk; have := GIb.out; omega))
 have OAd : Hid (OwnL w y1int 54 1 (.slice (some ⟨gpas0, 0, none⟩) (0 + 1) cappas0) (0 + 1) ([] ++ [.slice AP 2 kp])) := hID ⟨qas OAc.out.1 (fun g hg => oo.block _ (OAc.out.1.lt g hg).2 (fun e => qeo OIc.out.1 OAc.out.1 (by decide) (((by simpa [Value.ownBlock] using hg : gpas0 = g).trans e).symm))), Xa.out⟩
 have Ra := hID (R4.out.to (oo.block _ R4.out.lt (fun e => qda OIc.out.1 R4.out (by decide) e.symm)))
 clear HPc HQ OIc OAc R4 oo oW gW hat hlt X4 c0 c1 c2 c3
 obtain ⟨c0, c1, c2, c3⟩ := GC.out _ Xa.out
 go_wp2_with (at_builtin; refine @wpList_append_lies _ _ _ _ _ _ _ rfl _ _ 53 rfl w.heap.size 54 i_pas (.slice none 0 0) 1 24 Tryz.underlying53 h_pas z_pas s_pas b_pas rfl (by decide) (.slice (some ⟨gpas0, 0, none⟩) (0 + 1) cappas0) (0 + 1) ([] ++ [.slice AP 2 kp]) rfl (OAd.out.1.alloc _) ⟨y1int.heap.size, 0, none⟩ 1 1 [.slice AQ 1 kq] rfl rfl ?c1 (by intro u hu; simp at hu; subst hu; rfl) (by decide) (by decide) (by decide) (by have := OAd.out.2.size; simp; omega) _ rfl ?_)
 case c1 => exact qby _ [.slice AQ 1 kq] _
 intro gpas1 cappas1 y1pas oW gW hat hlt
 have oo : Off (fun k => k = gpas0) y1int y1pas := Off.grown (oAl oRf _) gW (fun k hk => .inl (by injection hk with hk; exact hk.symm))
 have OAe := hID (OAd.out.grown (oAl (Off.refl Nob y1int) (.cells #[.slice AQ 1 kq] 54)) oW gW)
 have Xb := hID OAe.out.2
 have HPe := hID (Rd.any (HPd.out.keep oo (fun k hk h => by have h2 : k = gpas0 := h; have hk2 : k < w2.heap.size := hk; have := GA.out; omega)))
 have HQe := hID (Rd.any (HQd.out.keep oo (fun k hk h => by have h2 : k = gpas0 := h; have hk2 : y0pas.heap.size ≤ k := hk; have := GA.out; omega)))
 have OIe := hID (Rd.own (qas (w' := y1pas) OId.out.1 (fun g hg => oo.block _ (OId.out.1.lt g hg).2 (fun e => qeo OAd.out.1 OId.out.1 (by decide) (((by simpa [Value.ownBlock] using hg : gint1 = g).trans e).symm)))) (F := fun _ => True) (fun _ _ => trivial))
 have Rb := hID (Ra.out.to (oo.block _ Ra.out.lt (fun e => qda OAd.out.1 Ra.out (by decide) e.symm)))
 clear HPd HQd OId OAd Ra oo oW gW hat hlt Xa c0 c1 c2 c3
 obtain ⟨c0, c1, c2, c3⟩ := GC.out _ Xb.out
 go_wp2_with fail
 rw [rounds_succ]
 go_wp2_with fail
 refine (qv6 _ _ _ _ _ OIe.out OAe.out.rd HPe.out HQe.out).mono ?_
 rintro e y9 ⟨ids, tab, st, fi, rfl, h1, h2, h3, h4, hq2, hq4, o9⟩
 have HQ2 := hID hq2
 have HQ4 := hID hq4
 clear hq2 hq4
 have Rz := hID (Rb.out.to (o9.block _ Rb.out.lt (fun h => h)))
 have SZ : w.heap.size < y1pas.heap.size := Rb.out.lt
 have X9 := hID (Xb.out.also o9)
 have r0 := Rz.out.cell 0
 have r1 := Rz.out.cell 1
 have r2 := Rz.out.cell 2
 have r3 := Rz.out.cell 3
 have r4 := Rz.out.cell 4
 simp only [qG] at r0 r1 r2 r3 r4
 have f0 := Rz.out.frozen 0
 have f1 := Rz.out.frozen 1
 have f2 := Rz.out.frozen 2
 have f3 := Rz.out.frozen 3
 have f4 := Rz.out.frozen 4
 have oF : Off (fun k => k = w.heap.size) y9 (y9.setCells w.heap.size 0 [ids, .int .i64 1, tab, st, fi]) := qqw y9 w.heap.size 0 _
 have RB := hID (qep Rz.out ids (.int .i64 1) tab st fi)
 have RO := hID (qax X9.out (Nat.le_refl _) 0 [ids, .int .i64 1, tab, st, fi])
 have K1 := hID (Rd.any (h1.keep oF (fun k hk h => by have e2 : k = w.heap.size := h; have hk2 : y1pas.heap.size ≤ k := hk; omega)))
 have K2 := hID (Rd.any (h2.keep oF (fun k hk h => by have e2 : k = w.heap.size := h; have hk2 : y1pas.heap.size ≤ k := hk; omega)))
 have K3 := hID (Rd.any (h3.keep oF (fun k hk h => by have e2 : k = w.heap.size := h; have hk2 : y1pas.heap.size ≤ k := hk; omega)))
 have K4 := hID (Rd.any (h4.keep oF (fun k hk h => by have e2 : k = w.heap.size := h; have hk2 : y1pas.heap.size ≤ k := hk; omega)))
 obtain ⟨A1, k1, rfl, _⟩ := h1.form
 obtain ⟨A2, k2, rfl, _⟩ := h2.form
 obtain ⟨A3, k3, rfl, _⟩ := h3.form
 obtain ⟨A4, k4, rfl, _⟩ := h4.form
 clear h1 h2 h3 h4 oF o9 X9 Rz SZ
 go_wp2_with fail
 exact bodyPost_ret (qae rfl _ _ _ _ _ (0, 0) _ rfl RB.out Tryz.underlying25 rfl Tryz.infoTs) rfl ⟨_, _, _, _, rfl, K1.out, K2.out, K3.out, K4.out, HQ2.out, HQ4.out, RO.out⟩
end
end Go.Proofs.YtlgjaefcfnndhaaGreatDoor
