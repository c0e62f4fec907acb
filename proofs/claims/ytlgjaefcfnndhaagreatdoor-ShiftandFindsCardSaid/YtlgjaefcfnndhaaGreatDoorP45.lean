/-
 dragnetref16: Check, asked, reach, ends.
-/
import Derived.Test.YtlgjaefcfnndhaaGreatDoorP40
set_option linter.unusedVariables false
set_option linter.unusedSimpArgs false
set_option maxHeartbeats 16000000
set_option maxRecDepth 100000
namespace Go.Proofs.YtlgjaefcfnndhaaGreatDoor
section
open Go.RowKit
theorem Tryz.infoBoF : (Tryz.prog.info? 4).map (fun i => (i.zero, i.size, i.bytes)) = some (some (.bool false), 1, 1) := by kernel_rfl
theorem qo4 (m : Nat) : (madeCells (Value.bool false).cells (m * 1)).toList = List.replicate m (.bool false) := by
 rw [Nat.mul_one]
 show (madeCells #[.bool false] m).toList = _
 rw [toList_madeCells_one]
theorem OwnL.put1 {w0 w : World} {e : TypeId} {g n c : Nat} {xs : List Value} (h : OwnL w0 w e 1 (.slice (some ⟨g, 0, none⟩) n c) n xs) (k : Nat) (v : Value) : OwnL w0 (w.setCell ⟨g, k, none⟩ v) e 1 (.slice (some ⟨g, 0, none⟩) n c) n (xs.set k v) :=
 ⟨(h.1.stored k v).1, h.2.put (p := ⟨g, k, none⟩) (.inr (h.1.lt g rfl).1) _⟩
theorem q0i {B : List Nat} (h : ∀ z ∈ B, z < 256) (k : Nat) : B.getD k 0 < 256 := by
 rw [gDe]
 cases e : B[k]? with
 | none => decide
 | some x => exact h x (List.mem_of_getElem? e)
theorem q0j (p : List El) (hn : p.length ≤ 60) (hok : PatOk p) (B : List Nat) (hB8 : ∀ z ∈ B, z < 256) (hBl : B.length ≤ 60) (f : Nat → Bool) (w : World) (v vb va : Value) (hv : RdL w (fun _ => True) 7 elV v p) (hvb : Rd w (fun _ => True) 1 vb B.length (qb2 B)) (hva : Rd w (fun _ => True) 1 va (B.length + 1) (rowBo (B.length + 1) f)) :
  Calls Tryz.prog 95 #[v, vb, va] w (fun e w' => ∃ u, e = .returned u ∧ Rd w' (fun k => w.heap.size ≤ k) 1 u (B.length + 1) (rowBo (B.length + 1) (qaw B p f)) ∧ Off Nob w w') := by
 obtain ⟨ib0, hib, hb0, hb1, hb2⟩ := info_parts Tryz.infoBoF
 obtain ⟨A, c, rfl⟩ := RdL.form hv
 obtain ⟨Ab, cb, rfl, _⟩ := Rd.form hvb
 have HV := hID hv
 have HVB := hID hvb
 have HVA := hID hva
 have HB8 := hID hB8
 have HOK := hID hok
 obtain ⟨m, hm⟩ : ∃ m, B.length + 1 = m := ⟨_, rfl⟩
 rw [hm] at HVA ⊢
 obtain ⟨nb, hnb⟩ : ∃ nb, B.length = nb := ⟨_, rfl⟩
 have HNB := hID hnb
 have HM : Hid (nb + 1 = m ∧ m ≤ 61 ∧ 0 < m) := hID (by omega)
 rw [hnb] at HVB ⊢
 obtain ⟨n, hnn⟩ : ∃ n, p.length = n := ⟨_, rfl⟩
 have HN := hID hnn
 have HN60 : Hid (n ≤ 60) := hID (by omega)
 rw [hnn]
 obtain ⟨Aa, ca, rfl, _⟩ := Rd.form HVA.out
 clear hv hvb hva hB8 hok hm hnb hnn hn hBl
 go_enter Tryz.func95, Tryz.ntmps95
 go_wp2_with fail
 go_loopw [2, 7] (fun x q wr => ∃ (i : Nat) (cur : Nat → Bool), i ≤ n ∧ q = .int .i64 (i : Int) ∧ Off Nob w wr ∧ Rd wr (fun k => i = 0 ∨ w.heap.size ≤ k) 1 x m (rowBo m cur) ∧ qaw B (p.drop i) cur = qaw B p f) (fun _ q _ => n - (intOf q).toNat)
 case atStart => exact ⟨0, f, Nat.zero_le _, rfl, Off.refl _ _, HVA.out.mono (fun _ _ => .inl rfl), rfl⟩
 case round =>
  obtain ⟨i, cur, hi, rfl, ho, hr, hre⟩ := hrel
  obtain ⟨wa, rfl⟩ : ∃ z, z = wr := ⟨wr, rfl⟩
  have HO := hID ho
  have HR := hID hr
  have HRE := hID hre
  obtain ⟨ba, oa, ca2, rfl, hca⟩ := hr.cellsT HM.out.2.2
  have HCA : Hid (∀ V, Off Nob wa V → ∀ j, j < m → V.cell? ⟨ba, oa + j, none⟩ = some (.bool (cur j))) := hID (fun V oV j hj => hca V oV j _ (qfd cur hj))
  clear ho hr hre hca HVA
  by_cases hin : i < n
  ·have d1 : decide ((i : Int) < (n : Int)) = true := dcT
   have d1n : decide (i < n) = true := dT hin
   have HIN := hID hin
   have hi60 : i < 60 := by have := HN60.out; omega
   have hm61 := HM.out.2.1
   obtain ⟨x, hx⟩ : ∃ x, p[i]? = some x := ⟨_, gEe (by rw [HN.out]; exact hin)⟩
   have HRX : Hid (qaw B (p.drop (i + 1)) (stepE x B cur) = qaw B p f) := hID (by
    rw [← HRE.out]
    have hlt : i < p.length := by rw [HN.out]; exact hin
    rw [List.drop_eq_getElem_cons hlt, show p[i] = x from Option.some.inj ((gEe hlt).symm.trans hx)]
    rfl)
   have HXO : Hid (x.gap = true → 0 ≤ x.lo ∧ x.lo ≤ x.hi ∧ x.hi ≤ 16) := hID (fun hg => by
    have h := (HOK.out.2 i (by rw [HN.out]; exact hin)).2
    rw [gDe, hx] at h
    exact ⟨(h hg).2.1, (h hg).2.2.1, (h hg).2.2.2.1⟩)
   obtain ⟨b, o, c2, he, hblt, -, hc⟩ := HV.out.at_ qcq hx
   rw [HN.out] at he
   injection he with he1 he2 he3
   subst he1
   clear he2 he3
   have HCP : Hid (∀ V, Off Nob wa V → ∀ j u, (elV x)[j]? = some u → V.cell? ⟨b, o + i * 7 + j, none⟩ = some u) := hID (fun V oV j u hu => ((HO.out.also oV).cell_old hblt _).trans (hc j u hu))
   have HCB : Hid (∀ V, Off Nob wa V → ∀ k, k < nb → ∃ bb ob, Ab = some ⟨bb, ob, none⟩ ∧ V.cell? ⟨bb, ob + k, none⟩ = some (.int .u8 (B.getD k 0 : Nat))) := hID (fun V oV k hk => by
    obtain ⟨A, c, he, _, _, hc⟩ := HVB.out
    obtain ⟨bb, ob, rfl, _, hbb, hx2⟩ := hc (by omega)
    injection he with he1
    refine ⟨bb, ob, he1, ((HO.out.also oV).cell_old hbb _).trans (hx2 k _ ?_)⟩
    have hk2 : k < B.length := by rw [HNB.out]; exact hk
    unfold qb2
    rw [List.getElem?_map, gEe hk2, gDe, gEe hk2]
    rfl)
   have HLG : Hid (w.heap.size ≤ wa.heap.size) := hID HO.out.size
   clear hx hblt hc HRE HR
   go_wp2_with (at_make; refine wpList_make_full _ rfl _ _ 111 rfl wa.heap.size 4 ib0 (.bool false) 1 Tryz.underlying111 hib hb0 hb1 .i64 .i64 _ _ m rfl rfl rfl rfl (by rw [hb2]; omega) (by unfold maxLen; omega) (Nat.le_refl _) ?_; intro w2 oW gW)
   rw [qo4, ← qi8] at oW
   have e0 : rowBo m (fun _ => false) = rowBo m (partE x B cur 0) := qbd (fun j _ => (qtq x B cur j).symm)
   rw [e0] at oW
   have HW2 : Hid (OwnL wa w2 4 1 (.slice (some ⟨wa.heap.size, 0, none⟩) m m) m (rowBo m (partE x B cur 0))) := hID ⟨oW, Off.grown oRf gW (fun k hk => by cases hk)⟩
   clear oW gW e0 d1 d1n
   revert HW2 HLG
   generalize wa.heap.size = g
   intro HLG HW2
   go_wp2_with fail
   go_loopw [9] (fun q wr => ∃ k : Nat, k ≤ m ∧ q = .int .i64 (k : Int) ∧ OwnL wa wr 4 1 (.slice (some ⟨g, 0, none⟩) m m) m (rowBo m (partE x B cur k))) (fun q _ => m - (intOf q).toNat)
   case atStart => exact ⟨0, Nat.zero_le _, rfl, HW2.out⟩
   case round =>
    obtain ⟨k, hk, rfl, oW⟩ := hrel
    obtain ⟨wb, rfl⟩ : ∃ z, z = wr := ⟨wr, rfl⟩
    have HW := hID oW
    clear oW HW2
    by_cases hkm : k < m
    ·have d2 : decide ((k : Int) < (m : Int)) = true := dcT
     have d2n : decide (k < m) = true := dT hkm
     have HKM := hID hkm
     have hk61 : k < 61 := by have := HM.out; omega
     have a0 := HCA.out wb HW.out.2 k hkm
     cases hck : cur k
     ·rw [hck] at a0
      have HSK : Hid (rowBo m (partE x B cur (k + 1)) = rowBo m (partE x B cur k)) := hID (qbd (fun j _ => qts x B cur hck j))
      clear hck
      go_wp2_with fail
      go_roundw
      case rel => exact ⟨k + 1, HKM.out, by go_num, by rw [HSK.out]; exact HW.out⟩
      case measure => have := HKM.out; simp [intOf]; omega
     ·rw [hck] at a0
      have HCK := hID hck
      clear hck
      have g0 := HCP.out wb HW.out.2 0 _ rfl
      simp only [Nat.add_zero] at g0
      cases hg : x.gap
      ·rw [hg] at g0
       have HG := hID hg
       clear hg
       by_cases hkb : k < nb
       ·have d3 : decide ((k : Int) < (nb : Int)) = true := dcT
        have d3n : decide (k < nb) = true := dT hkb
        have HKB := hID hkb
        obtain ⟨bb, ob, rfl, e0⟩ := HCB.out wb HW.out.2 k hkb
        obtain ⟨y, hy⟩ : ∃ y, B.getD k 0 = y := ⟨_, rfl⟩
        have hy256 : y < 256 := by rw [← hy]; exact q0i HB8.out k
        have HY := hID hy
        have HCC : Hid (∀ W, Off Nob wb W → W.cell? ⟨b, o + i * 7 + 1, none⟩ = some (.int .u64 (x.cls.1 : Int)) ∧ W.cell? ⟨b, o + i * 7 + 2, none⟩ = some (.int .u64 (x.cls.2.1 : Int)) ∧ W.cell? ⟨b, o + i * 7 + 3, none⟩ = some (.int .u64 (x.cls.2.2.1 : Int)) ∧ W.cell? ⟨b, o + i * 7 + 4, none⟩ = some (.int .u64 (x.cls.2.2.2 : Int)) ∧ W.cell? ⟨bb, ob + k, none⟩ = some (.int .u8 (y : Int))) := hID (fun W oV => ⟨HCP.out W (HW.out.2.also oV) 1 _ rfl, HCP.out W (HW.out.2.also oV) 2 _ rfl, HCP.out W (HW.out.2.also oV) 3 _ rfl, HCP.out W (HW.out.2.also oV) 4 _ rfl, by
         obtain ⟨b5, o5, h5, h6⟩ := HCB.out W (HW.out.2.also oV) k HKB.out
         injection h5 with h5
         injection h5 with h5 h7
         subst h5 h7
         rw [HY.out] at h6
         exact h6⟩)
        clear hy e0
        cases hhs : hasN x.cls y
        ·have HHV := hID hhs
         clear hhs
         go_wp2_with fail
         have OA := hID (Off.drew (Off.refl Nob wb))
         refine wp_region_held_drew (S := fun W => W.cell? ⟨b, o + i * 7 + 1, none⟩ = some (.int .u64 (x.cls.1 : Int)) ∧ W.cell? ⟨b, o + i * 7 + 2, none⟩ = some (.int .u64 (x.cls.2.1 : Int)) ∧ W.cell? ⟨b, o + i * 7 + 3, none⟩ = some (.int .u64 (x.cls.2.2.1 : Int)) ∧ W.cell? ⟨b, o + i * 7 + 4, none⟩ = some (.int .u64 (x.cls.2.2.2 : Int)) ∧ W.cell? ⟨bb, ob + k, none⟩ = some (.int .u8 (y : Int))) (by kernel_rfl) (HCC.out _ OA.out) (fun hHeld => ?_)
         revert hHeld OA
         generalize wb.drew = va
         intro OA hHeld
         refine tkH 0 ?_
         refine tkH 1 ?_
         refine tkH 2 ?_
         refine tkH 3 ?_
         refine tkH 4 ?_
         refine tkH 5 ?_
         refine tkH 6 ?_
         refine tkH 7 ?_
         refine tkH 8 ?_
         refine tkH 9 ?_
         refine tkH 10 ?_
         refine tkH 11 ?_
         refine tkH 12 ?_
         refine tkH 13 ?_
         refine wpAnyH_ready (rs := [14]) (by kernel_rfl) (by simp) ?_
         refine AllReadyH.cons rfl (fun K hK => ?s114) ?m114
         case s114 =>
          go_simp
          refine (r_has x.cls y hy256 va).mono ?_
          rintro e wc ⟨rfl, o1⟩
          have OB := hID (OA.out.also o1)
          have T1 := hID (HCC.out _ OB.out)
          clear o1
          rw [HHV.out]
          go_simp
          refine hK.out _ _ ?_ (fun hHeld => ?_)
          ·first | exact T1.out | go_keep
          clear hK K
          try simp only [Act.put, qL]
          refine tkH 15 ?_
          refine wpAnyH_done (by kernel_rfl) ?_ _
          clear T1 OA hHeld HCC
          have HSK : Hid (rowBo m (partE x B cur (k + 1)) = rowBo m (partE x B cur k)) := hID (qbd (fun j _ => qkx HG.out (.inr (by rw [HY.out]; exact HHV.out)) j))
          have HW6 := hID (HW.out.off OB.out)
          go_wp2_with fail
          go_roundw
          case rel => exact ⟨k + 1, HKM.out, by go_num, by rw [HSK.out]; exact HW6.out⟩
          case measure => have := HKM.out; simp [intOf]; omega
         exact AllReadyH.nil
        ·have HHV := hID hhs
         clear hhs
         go_wp2_with fail
         have OA := hID (Off.drew (Off.refl Nob wb))
         refine wp_region_held_drew (S := fun W => W.cell? ⟨b, o + i * 7 + 1, none⟩ = some (.int .u64 (x.cls.1 : Int)) ∧ W.cell? ⟨b, o + i * 7 + 2, none⟩ = some (.int .u64 (x.cls.2.1 : Int)) ∧ W.cell? ⟨b, o + i * 7 + 3, none⟩ = some (.int .u64 (x.cls.2.2.1 : Int)) ∧ W.cell? ⟨b, o + i * 7 + 4, none⟩ = some (.int .u64 (x.cls.2.2.2 : Int)) ∧ W.cell? ⟨bb, ob + k, none⟩ = some (.int .u8 (y : Int))) (by kernel_rfl) (HCC.out _ OA.out) (fun hHeld => ?_)
         revert hHeld OA
         generalize wb.drew = va
         intro OA hHeld
         refine tkH 0 ?_
         refine tkH 1 ?_
         refine tkH 2 ?_
         refine tkH 3 ?_
         refine tkH 4 ?_
         refine tkH 5 ?_
         refine tkH 6 ?_
         refine tkH 7 ?_
         refine tkH 8 ?_
         refine tkH 9 ?_
         refine tkH 10 ?_
         refine tkH 11 ?_
         refine tkH 12 ?_
         refine tkH 13 ?_
         refine wpAnyH_ready (rs := [14]) (by kernel_rfl) (by simp) ?_
         refine AllReadyH.cons rfl (fun K hK => ?s214) ?m214
         case s214 =>
          go_simp
          refine (r_has x.cls y hy256 va).mono ?_
          rintro e wc ⟨rfl, o1⟩
          have OB := hID (OA.out.also o1)
          have T1 := hID (HCC.out _ OB.out)
          clear o1
          rw [HHV.out]
          go_simp
          refine hK.out _ _ ?_ (fun hHeld => ?_)
          ·first | exact T1.out | go_keep
          clear hK K
          try simp only [Act.put, qL]
          refine tkH 15 ?_
          refine wpAnyH_done (by kernel_rfl) ?_ _
          clear T1 OA hHeld HCC
          have HSK : Hid (rowBo m (fun j => if j = k + 1 then true else partE x B cur k j) = rowBo m (partE x B cur (k + 1))) := hID (qbd (fun j _ => qwb HG.out HCK.out (by rw [HNB.out]; exact HKB.out) (by rw [HY.out]; exact HHV.out) j))
          have HW6 := hID (HW.out.off OB.out)
          have hk1m : k + 1 < m := by have := HM.out; have := HKB.out; omega
          have cc := HW6.out.1.cellAt (k + 1) (by omega)
          rw [qfd _ hk1m] at cc
          have cf := HW6.out.1.frozenAt (k + 1)
          have HW7 := hID (HW6.out.put1 (k + 1) (.bool true))
          rw [qid, HSK.out] at HW7
          go_wp2_with fail
          go_roundw
          case rel => exact ⟨k + 1, HKM.out, by go_num, HW7.out⟩
          case measure => have := HKM.out; simp [intOf]; omega
         exact AllReadyH.nil
       ·have d3 : decide ((k : Int) < (nb : Int)) = false := dcF
        have d3n : decide (k < nb) = false := dF hkb
        have HSK : Hid (rowBo m (partE x B cur (k + 1)) = rowBo m (partE x B cur k)) := hID (qbd (fun j _ => qkx HG.out (.inl (by rw [HNB.out]; exact hkb)) j))
        clear hkb
        go_wp2_with fail
        refine wp_region_held_drew (S := fun _ => True) (by kernel_rfl) trivial (fun hHeld => ?_)
        refine tkH 0 ?_
        refine tkH 1 ?_
        refine tkH 2 ?_
        refine tkH 3 ?_
        refine tkH 4 ?_
        refine wpAnyH_take (i := 5) (v := undef) rfl (by kernel_rfl) (by kernel_rfl) (by kernel_rfl) (fun _ _ _ h => h) (Or.inr ⟨by rfl, rfl⟩) (by assumption) ?r305
        try simp only [Act.put, qL]
        refine wpAnyH_take (i := 6) (v := undef) rfl (by kernel_rfl) (by kernel_rfl) (by kernel_rfl) (fun _ _ _ h => h) (Or.inr ⟨by rfl, rfl⟩) (by assumption) ?r306
        try simp only [Act.put, qL]
        refine wpAnyH_take (i := 7) (v := undef) rfl (by kernel_rfl) (by kernel_rfl) (by kernel_rfl) (fun _ _ _ h => h) (Or.inr ⟨by rfl, rfl⟩) (by assumption) ?r307
        try simp only [Act.put, qL]
        refine wpAnyH_take (i := 8) (v := undef) rfl (by kernel_rfl) (by kernel_rfl) (by kernel_rfl) (fun _ _ _ h => h) (Or.inr ⟨by rfl, rfl⟩) (by assumption) ?r308
        try simp only [Act.put, qL]
        refine wpAnyH_take (i := 9) (v := undef) rfl (by kernel_rfl) (by kernel_rfl) (by kernel_rfl) (fun _ _ _ h => h) (Or.inr ⟨by rfl, rfl⟩) (by assumption) ?r309
        try simp only [Act.put, qL]
        refine wpAnyH_take (i := 10) (v := undef) rfl (by kernel_rfl) (by kernel_rfl) (by kernel_rfl) (fun _ _ _ h => h) (Or.inr ⟨by rfl, rfl⟩) (by assumption) ?r310
        try simp only [Act.put, qL]
        refine wpAnyH_take (i := 11) (v := undef) rfl (by kernel_rfl) (by kernel_rfl) (by kernel_rfl) (fun _ _ _ h => h) (Or.inr ⟨by rfl, rfl⟩) (by assumption) ?r311
        try simp only [Act.put, qL]
        refine wpAnyH_take (i := 12) (v := undef) rfl (by kernel_rfl) (by kernel_rfl) (by kernel_rfl) (fun _ _ _ h => h) (Or.inr ⟨by rfl, rfl⟩) (by assumption) ?r312
        try simp only [Act.put, qL]
        refine wpAnyH_take (i := 13) (v := undef) rfl (by kernel_rfl) (by kernel_rfl) (by kernel_rfl) (fun _ _ _ h => h) (Or.inr ⟨by rfl, rfl⟩) (by assumption) ?r313
        try simp only [Act.put, qL]
        refine wpAnyH_take (i := 14) (v := undef) rfl (by kernel_rfl) (by kernel_rfl) (by kernel_rfl) (fun _ _ _ h => h) (Or.inr ⟨by rfl, rfl⟩) (by assumption) ?r314
        try simp only [Act.put, qL]
        refine tkH 15 ?_
        refine wpAnyH_done (by kernel_rfl) ?_ _
        have HW6 := hID (HW.out.off (Off.drew oRf))
        go_wp2_with fail
        go_roundw
        case rel => exact ⟨k + 1, HKM.out, by go_num, by rw [HSK.out]; exact HW6.out⟩
        case measure => have := HKM.out; simp [intOf]; omega
      ·rw [hg] at g0
       have HG := hID hg
       have hxo := HXO.out hg
       clear hg
       obtain ⟨l, hl⟩ : ∃ l : Nat, x.lo = (l : Int) := ⟨x.lo.toNat, by omega⟩
       obtain ⟨h, hh⟩ : ∃ h : Nat, x.hi = (h : Int) := ⟨x.hi.toNat, by omega⟩
       have hlh : l ≤ h ∧ h ≤ 16 := by omega
       have HLH := hID hlh
       have HL := hID hl
       have HH := hID hh
       have a5 := HCP.out wb HW.out.2 5 _ rfl
       rw [hl] at a5
       clear hxo hlh hl hh
       have hl17 : l < 17 := by have := HLH.out; omega
       have HW3 : Hid (OwnL wa wb 4 1 (.slice (some ⟨g, 0, none⟩) m m) m (rowBo m (gapE x B cur k l))) := hID (by
        rw [qbd (fun j _ => qwc x B cur k HL.out j)]
        exact HW.out)
       go_wp2_with fail
       go_loopw [10] (fun q wr => ∃ t : Nat, l ≤ t ∧ t ≤ h + 1 ∧ q = .int .i64 (t : Int) ∧ OwnL wa wr 4 1 (.slice (some ⟨g, 0, none⟩) m m) m (rowBo m (gapE x B cur k t))) (fun q _ => h + 1 - (intOf q).toNat)
       case atStart => exact ⟨l, Nat.le_refl _, by have := HLH.out; omega, rfl, HW3.out⟩
       case round =>
        obtain ⟨t, hlt, hth, rfl, oW⟩ := hrel
        obtain ⟨wc, rfl⟩ : ∃ z, z = wr := ⟨wr, rfl⟩
        have HW4 := hID oW
        have HLT := hID hlt
        clear oW HW3 HW a0 g0 a5 hl17
        have a6 := HCP.out wc HW4.out.2 6 _ rfl
        rw [HH.out] at a6
        have ht17 : t ≤ 17 := by have := HLH.out; omega
        by_cases hthi : t ≤ h
        ·have d3 : decide ((t : Int) ≤ (h : Int)) = true := dcT
         have d3n : decide (t ≤ h) = true := dT hthi
         have HTH := hID hthi
         by_cases hs : k + t < m
         ·have d4 : decide ((k : Int) + (t : Int) < (m : Int)) = true := dcT
          have d4n : decide (k + t < m) = true := dT hs
          have cc := HW4.out.1.cellAt (k + t) (by omega)
          rw [qfd _ hs] at cc
          have cf := HW4.out.1.frozenAt (k + t)
          have HW5 := hID (HW4.out.put1 (k + t) (.bool true))
          rw [qid, qbd (fun j _ => qyp x B cur k (by rw [HL.out]; omega) j)] at HW5
          go_wp2_with fail
          go_roundw
          case rel => exact ⟨t + 1, by have := HLT.out; omega, by have := HTH.out; omega, by go_num, HW5.out⟩
          case measure => have := HTH.out; simp [intOf]; omega
         ·have d4 : decide ((k : Int) + (t : Int) < (m : Int)) = false := dcF
          have d4n : decide (k + t < m) = false := dF hs
          have HSK : Hid (rowBo m (gapE x B cur k t) = rowBo m (partE x B cur (k + 1))) := hID (qbd (fun j hj => qo1 HG.out HCK.out (.inr (by omega)) (by rw [HH.out]; omega) hj))
          rw [HSK.out] at HW4
          clear hs
          go_wp2_with fail
          go_roundw
          case rel => exact ⟨k + 1, HKM.out, by go_num, HW4.out⟩
          case measure => have := HKM.out; simp [intOf]; omega
        ·have d3 : decide ((t : Int) ≤ (h : Int)) = false := dcF
         have d3n : decide (t ≤ h) = false := dF hthi
         have HSK : Hid (rowBo m (gapE x B cur k t) = rowBo m (partE x B cur (k + 1))) := hID (qbd (fun j hj => qo1 HG.out HCK.out (.inl (by rw [HH.out]; omega)) (by rw [HH.out]; omega) hj))
         rw [HSK.out] at HW4
         clear hthi
         go_wp2_with fail
         go_roundw
         case rel => exact ⟨k + 1, HKM.out, by go_num, HW4.out⟩
         case measure => have := HKM.out; simp [intOf]; omega
    ·obtain rfl : k = m := by omega
     have d2 : decide ((k : Int) < (k : Int)) = false := by simp
     have d2n : decide (k < k) = false := by simp
     have HW3 : Hid (Rd wb (fun j => i + 1 = 0 ∨ w.heap.size ≤ j) 1 (.slice (some ⟨g, 0, none⟩) k k) k (rowBo k (stepE x B cur))) := hID (by
      rw [← qbd (fun j hj => qtr x B cur hj)]
      exact Rd.own HW.out.1 (fun j hj => .inr (Nat.le_trans HLG.out (Nat.le_of_eq (Option.some.inj hj)))))
     clear hkm hk
     go_wp2_with fail
     go_roundw
     case rel => exact ⟨i + 1, stepE x B cur, HIN.out, by go_num, HO.out.also HW.out.2, HW3.out, HRX.out⟩
     case measure => have := HIN.out; simp [intOf]; omega
  ·obtain rfl : i = n := by omega
   have d1 : decide ((i : Int) < (i : Int)) = false := by simp
   have d1n : decide (i < i) = false := by simp
   have HZ : Hid (Rd wa (fun j => w.heap.size ≤ j) 1 (.slice (some ⟨ba, oa, none⟩) m ca2) m (rowBo m (qaw B p f))) := hID (by
    rw [← HRE.out, List.drop_of_length_le (by rw [HN.out]; exact Nat.le_refl _)]
    refine HR.out.mono (fun j hj => ?_)
    rcases hj with h | h
    ·exact absurd (List.eq_nil_of_length_eq_zero (by rw [HN.out]; exact h)) HOK.out.1
    ·exact h)
   clear hin hi
   go_wp2_with fail
   exact bodyPost_ret (v := .slice (some ⟨ba, oa, none⟩) m ca2) (by simp [results, Tryz.f95, go_sem]) rfl ⟨_, rfl, HZ.out, HO.out⟩
end
section
open Go.RowKit
theorem Tryz.infoBL : (Tryz.prog.info? 111).map (fun i => (i.zero, i.size, i.bytes)) = some (some (.slice none 0 0), 1, 24) := by kernel_rfl
def EB (m : Nat) (w : World) (F : Nat → Prop) (v : Value) (f : Nat → Bool) : Prop := Rd w F 1 v m (rowBo m f)
theorem qd2 (m : Nat) : Lasts (EB m) where
 keep h o hd := Rd.keep h o hd
 mono h hs := Rd.mono h hs
 there h := Rd.thereN h
 one h := by obtain ⟨A, c, rfl, _⟩ := Rd.form h; rfl
theorem q18 (ps : List (List El)) (hb : PatsB ps) (hok : ∀ p ∈ ps, PatOk p) (h1 : 1 ≤ ps.length) (h16 : ps.length ≤ 16) (w : World) (v : Value) (hv : RdLs EP w (fun _ => True) v ps) : Calls Tryz.prog 94 #[v] w (RetV w (.tuple #[.int .i64 0, .int .i64 0])) := by
 have HB := hID hb
 have HOK := hID hok
 obtain ⟨A, c, rfl⟩ := hv.form
 have HV := hID hv
 obtain ⟨m, hm⟩ : ∃ n, ps.length = n := ⟨_, rfl⟩
 have HM := hID hm
 rw [hm] at HV h1 h16 ⊢
 have HM16 := hID h16
 have d0 : ((m : Int) == 0) = false := beq_eq_false_iff_ne.2 (by omega)
 have d0n : decide (m = 0) = false := dcF
 have d0i : decide ((m : Int) = 0) = false := dcF
 have d6 : decide ((16 : Int) < (m : Int)) = false := dcF
 have d6n : decide (16 < m) = false := dcF
 clear hv hb hm hok h1
 go_enter Tryz.func94, Tryz.ntmps94
 go_wp2_with fail
 clear d0 d0n d0i d6 d6n
 go_loopw [4] (fun q wr => ∃ i : Nat, i ≤ m ∧ q = .int .i64 (i : Int) ∧ Off Nob w wr) (fun q _ => m - (intOf q).toNat)
 case atStart => exact ⟨0, Nat.zero_le _, rfl, Off.refl _ _⟩
 case round =>
  obtain ⟨i, hi, rfl, ho⟩ := hrel
  have HO := hID ho
  clear ho
  by_cases him : i < m
  ·have d1 : decide ((i : Int) < (m : Int)) = true := dcT
   have d1n : decide (i < m) = true := dT him
   have HIM := hID him
   have hi16 : i < 16 := by omega
   obtain ⟨p, hp⟩ : ∃ p, ps[i]? = some p := ⟨_, gEe (by rw [HM.out]; exact him)⟩
   rw [← HM.out] at HV
   obtain ⟨b, o, cc, u, he, hac, hue⟩ := HV.out.at_ lasts_EP hp
   injection he with he1 he2 he3
   subst he1
   clear he2 he3
   rw [HM.out] at HV
   have ck := hac wr Nob HO.out (fun _ _ h => h)
   have HCK := hID (r_ck p (HB.out.el p (List.mem_of_getElem? hp)) (HB.out.len p (List.mem_of_getElem? hp)) wr u (lasts_EP.keep hue HO.out (fun _ _ h => h)))
   have HPO := hID (HOK.out p (List.mem_of_getElem? hp))
   clear hac hue hp
   go_wp2_with fail
   refine HCK.out.mono ?_
   rintro e w5 ⟨n1, x1, rfl, hx1, o5⟩
   obtain rfl := hx1.2 HPO.out
   have O5 := hID (HO.out.also o5)
   clear o5 HCK ck hx1
   go_wp2_with fail
   go_roundw
   case rel => exact ⟨i + 1, HIM.out, by go_num, O5.out⟩
   case measure => have := HIM.out; simp [intOf]; omega
  ·obtain rfl : i = m := by omega
   have d1 : decide ((i : Int) < (i : Int)) = false := by simp
   have d1n : decide (i < i) = false := by simp
   go_wp2_with fail
   exact bodyPost_ret (v := .tuple #[.int .i64 0, .int .i64 0]) (by simp [results, Tryz.f94, go_sem]) rfl ⟨rfl, HO.out⟩
theorem qwf (ps : List (List El)) (hb : PatsB ps) (hok : ∀ p ∈ ps, PatOk p) (h1 : 1 ≤ ps.length) (h16 : ps.length ≤ 16) (w : World) (v : Value) (hv : RdLs EP w (fun _ => True) v ps) (Ab : Option Addr) (nb cb : Nat) (hnb : nb ≤ 4096) : Calls Tryz.prog 61 #[v, .slice Ab nb cb] w (RetV w (.int .i64 0)) := by
 have HCK := hID (q18 ps hb hok h1 h16 w v hv)
 obtain ⟨A, c, rfl⟩ := hv.form
 have d1 : decide ((4096 : Int) < (nb : Int)) = false := dcF
 have d1n : decide (4096 < nb) = false := dcF
 clear hb hok h1 h16 hv
 go_enter Tryz.func61, Tryz.ntmps61
 go_wp2_with fail
 refine HCK.out.mono ?_
 rintro e w5 ⟨rfl, o5⟩
 clear HCK
 go_wp2_with fail
 exact bodyPost_ret (v := .int .i64 0) (by simp [results, Tryz.f61, go_sem]) rfl ⟨rfl, o5⟩
theorem qyr (p : List El) (hn : p.length ≤ 60) (hok : PatOk p) (B : List Nat) (hB8 : ∀ z ∈ B, z < 256) (hBl : B.length ≤ 60) (w : World) (v vb : Value) (hv : RdL w (fun _ => True) 7 elV v p) (hvb : Rd w (fun _ => True) 1 vb B.length (qb2 B)) :
  Calls Tryz.prog 62 #[v, vb] w (fun e w' => ∃ u, e = .returned u ∧ EB (B.length + 1) w' (fun k => w.heap.size ≤ k) u (qaw B p (fun _ => true)) ∧ Off Nob w w') := by
 obtain ⟨ib0, hib, hb0, hb1, hb2⟩ := info_parts Tryz.infoBoF
 have HRE := hID (fun (V : World) (oV : Off Nob w V) (va : Value) (hva : Rd V (fun _ => True) 1 va (B.length + 1) (rowBo (B.length + 1) (fun _ => true))) => q0j p hn hok B hB8 hBl (fun _ => true) V v vb va (RdL.keep hv oV (fun _ _ h => h)) (hvb.keepT oV) hva)
 obtain ⟨A, c, rfl⟩ := RdL.form hv
 obtain ⟨Ab, cb, rfl, _⟩ := Rd.form hvb
 obtain ⟨nb, hnb⟩ : ∃ nb, B.length = nb := ⟨_, rfl⟩
 rw [hnb] at HRE hBl ⊢
 obtain ⟨n, hnn⟩ : ∃ n, p.length = n := ⟨_, rfl⟩
 rw [hnn] at HRE hn ⊢
 clear hv hvb hB8 hok hnb hnn
 go_enter Tryz.func62, Tryz.ntmps62
 go_wp2_with (at_make; refine wpList_make_full _ rfl _ _ 111 rfl w.heap.size 4 ib0 (.bool false) 1 Tryz.underlying111 hib hb0 hb1 .i64 .i64 _ _ (nb + 1) rfl rfl rfl rfl (by rw [hb2]; omega) (by unfold maxLen; omega) (Nat.le_refl _) ?_; intro w2 oW gW)
 rw [qo4, ← qi8] at oW
 have e0 : rowBo (nb + 1) (fun _ => false) = rowBo (nb + 1) (fun j => decide (j < 0)) := qbd (fun j _ => by simp)
 rw [e0] at oW
 have HW2 : Hid (OwnL w w2 4 1 (.slice (some ⟨w.heap.size, 0, none⟩) (nb + 1) (nb + 1)) (nb + 1) (rowBo (nb + 1) (fun j => decide (j < 0)))) := hID ⟨oW, Off.grown oRf gW (fun k hk => by cases hk)⟩
 clear oW gW e0
 revert HW2
 generalize w.heap.size = g
 obtain ⟨m, hm⟩ : ∃ m, nb + 1 = m := ⟨_, rfl⟩
 have HMN := hID hm
 have hmi : (nb : Int) + 1 = (m : Int) := by omega
 have hm61 : m ≤ 61 := by omega
 rw [hm] at HRE ⊢
 intro HW2
 go_wp2_with fail
 go_loopw [6] (fun q wr => ∃ k : Nat, k ≤ m ∧ q = .int .i64 (k : Int) ∧ OwnL w wr 4 1 (.slice (some ⟨g, 0, none⟩) m m) m (rowBo m (fun j => decide (j < k)))) (fun q _ => m - (intOf q).toNat)
 case atStart => exact ⟨0, Nat.zero_le _, rfl, HW2.out⟩
 case round =>
  obtain ⟨k, hk, rfl, oW⟩ := hrel
  obtain ⟨wb, rfl⟩ : ∃ z, z = wr := ⟨wr, rfl⟩
  have HW := hID oW
  clear oW HW2
  by_cases hkm : k < m
  ·have d2 : decide ((k : Int) < (m : Int)) = true := dcT
   have d2n : decide (k < m) = true := dT hkm
   have HKM := hID hkm
   have hk61 : k < 61 := by omega
   have cc := HW.out.1.cellAt k (by omega)
   rw [qfd _ hkm] at cc
   have cf := HW.out.1.frozenAt k
   have HW5 := hID (HW.out.put1 k (.bool true))
   rw [qid, qbd (g := fun j => decide (j < k + 1)) (fun j _ => by
    split
    ·next e => exact (dcT).symm
    ·next e => exact decide_eq_decide.2 (by omega))] at HW5
   go_wp2_with fail
   go_roundw
   case rel => exact ⟨k + 1, HKM.out, by go_num, HW5.out⟩
   case measure => have := HKM.out; simp [intOf]; omega
  ·obtain rfl : k = m := by omega
   have d2 : decide ((k : Int) < (k : Int)) = false := by simp
   have d2n : decide (k < k) = false := by simp
   rw [qbd (g := fun _ => true) (fun j hj => dT hj)] at HW
   have HC := hID (HRE.out wb HW.out.2 _ HW.out.rd)
   clear hkm hk
   go_wp2_with fail
   refine HC.out.mono ?_
   rintro e w5 ⟨u, rfl, hr, o5⟩
   have HR : Hid (EB (nb + 1) w5 (fun j => w.heap.size ≤ j) u (qaw B p (fun _ => true)) ∧ Off Nob w w5) := hID ⟨by rw [HMN.out]; exact hr.mono (fun j hj => Nat.le_trans HW.out.2.size hj), HW.out.2.also o5⟩
   clear hr o5 HC
   go_wp2_with fail
   exact bodyPost_ret (v := u) (by simp [results, Tryz.f62, go_sem]) rfl ⟨_, rfl, HR.out⟩
theorem q0k (ps : List (List El)) (hb : PatsB ps) (hok : ∀ p ∈ ps, PatOk p) (h1 : 1 ≤ ps.length) (h16 : ps.length ≤ 16) (B : List Nat) (hB8 : ∀ z ∈ B, z < 256) (hBl : B.length ≤ 60) (w : World) (v vb : Value) (hv : RdLs EP w (fun _ => True) v ps) (hvb : Rd w (fun _ => True) 1 vb B.length (qb2 B)) :
  Calls Tryz.prog 30 #[v, vb] w (fun e w' => ∃ u, e = .returned (.tuple #[u, .int .i64 0]) ∧ Rd w' (fun k => w.heap.size ≤ k) 2 u (allP B ps).length (qa9 (allP B ps)) ∧ Off Nob w w') := by
 obtain ⟨i0, h0, z0, s0, b0⟩ := info_parts Tryz.infoBL
 obtain ⟨j0, g0, y0, t0, c0⟩ := info_parts Tryz.infoH
 obtain ⟨Ab, cb, rfl, _⟩ := Rd.form hvb
 have HAS := hID (qwf ps hb hok h1 h16 w v hv Ab B.length cb (by omega))
 have HEN := hID (fun (V : World) (oV : Off Nob w V) (p : List El) (hp : p ∈ ps) (u : Value) (hu : EP V (fun _ => True) u p) => qyr p (hb.len p hp) (hok p hp) B hB8 hBl V u (.slice Ab B.length cb) hu (hvb.keepT oV))
 obtain ⟨A, c, rfl⟩ := hv.form
 have HV := hID hv
 obtain ⟨n, hnn⟩ : ∃ n, ps.length = n := ⟨_, rfl⟩
 have HN := hID hnn
 rw [hnn] at HV HAS h16 ⊢
 obtain ⟨nb, hnb⟩ : ∃ n, B.length = n := ⟨_, rfl⟩
 have HNB := hID hnb
 rw [hnb] at HAS HEN hBl ⊢
 have HBND := hID (And.intro h16 hBl)
 clear hv hvb hb hok h1 hnn hnb hB8 h16 hBl
 go_enter Tryz.func30, Tryz.ntmps30
 go_wp2_with fail
 refine HAS.out.mono ?_
 rintro e w1 ⟨rfl, o1⟩
 have O1 := hID o1
 clear o1 HAS
 go_wp2_with fail
 go_loopw [7, 8] (fun y q wr => ∃ i : Nat, i ≤ n ∧ q = .int .i64 (i : Int) ∧ GrowL (EB (nb + 1)) w1 111 y ((ps.take i).map (fun p => qaw B p (fun _ => true))) wr) (fun _ q _ => n - (intOf q).toNat)
 case atStart => exact ⟨0, Nat.zero_le _, rfl, GrowL.nil (EB (nb + 1)) 111 oRf⟩
 case round =>
  obtain ⟨i, hi, rfl, hg⟩ := hrel
  obtain ⟨wa, rfl⟩ : ∃ z, z = wr := ⟨wr, rfl⟩
  have HG := hID hg
  have HO := hID hg.o
  obtain ⟨AY, cy, rfl⟩ := hg.form
  clear hg
  have hy16 : ((ps.take i).map (fun p => qaw B p (fun _ => true))).length ≤ 16 := by
   rw [List.length_map, List.length_take, HN.out]
   have := HBND.out
   omega
  by_cases hin : i < n
  ·have d1 : decide ((i : Int) < (n : Int)) = true := dcT
   have d1n : decide (i < n) = true := dT hin
   have HIN := hID hin
   have hi16 : i < 16 := by have := HBND.out; omega
   obtain ⟨p, hp⟩ : ∃ p, ps[i]? = some p := ⟨_, gEe (by rw [HN.out]; exact hin)⟩
   rw [← HN.out] at HV
   obtain ⟨b, o, cc, u, he, hac, hue⟩ := HV.out.at_ lasts_EP hp
   injection he with he1 he2 he3
   subst he1
   clear he2 he3
   rw [HN.out] at HV
   have ck := hac wa Nob (O1.out.also HO.out) (fun _ _ h => h)
   have HL := hID (HEN.out wa (O1.out.also HO.out) p (List.mem_of_getElem? hp) u (lasts_EP.keep hue (O1.out.also HO.out) (fun _ _ h => h)))
   have HT : Hid ((ps.take (i + 1)).map (fun p => qaw B p (fun _ => true)) = (ps.take i).map (fun p => qaw B p (fun _ => true)) ++ [qaw B p (fun _ => true)]) := hID (by rw [List.take_add_one, hp, List.map_append]; rfl)
   obtain ⟨X5, hX5⟩ : ∃ X5, (ps.take i).map (fun p => qaw B p (fun _ => true)) = X5 := ⟨_, rfl⟩
   rw [hX5] at HG hy16 HT ⊢
   obtain ⟨n5, hn5⟩ : ∃ n5, X5.length = n5 := ⟨_, rfl⟩
   have HN5 := hID hn5
   rw [hn5] at HG hy16 ⊢
   clear hac hue hp hX5 hn5
   go_wp2_with fail
   refine HL.out.mono ?_
   rintro e w5 ⟨xl, rfl, hxl, o5⟩
   obtain ⟨A7, c7, rfl, _⟩ := Rd.form hxl
   have hb5 : ∀ k, wa.heap.size ≤ k → w1.heap.size ≤ k ∧ (Value.slice AY n5 cy).ownBlock ≠ some k := fun k hk => by
    refine ⟨Nat.le_trans HG.out.o.size hk, fun e => ?_⟩
    obtain ⟨vs, _, h2, _⟩ := HG.out.x
    have := (h2.lt k e).2
    omega
   obtain ⟨x', w6, r6, hg6, -, -⟩ := (HG.out.go (qd2 _) o5).push (qd2 _) Tryz.underlying110 h0 z0 s0 b0 ((qd2 _).mono hxl (fun k hk => hb5 k hk)) (by rw [HN5.out]; omega)
   obtain ⟨A8, c8, rfl⟩ := hg6.form
   have R6 := hID r6
   have HG6 := hID hg6
   have HLL : Hid ((X5 ++ [qaw B p (fun _ => true)]).length = n5 + 1) := hID (by rw [List.length_append, HN5.out]; rfl)
   rw [HLL.out] at R6 HG6
   clear hxl r6 hg6 o5 HL ck hb5
   go_wp2_with (first | (at_builtin; refine qaz _ (by rfl) _ _ _ rfl rfl rfl R6.out ?_) | fail)
   go_roundw
   case rel => exact ⟨i + 1, HIN.out, by go_num, by rw [HT.out]; exact HG6.out⟩
   case measure => have := HIN.out; simp [intOf]; omega
  ·obtain rfl : i = n := by omega
   have d1 : decide ((i : Int) < (i : Int)) = false := by simp
   have d1n : decide (i < i) = false := by simp
   have e : ps.take i = ps := List.take_of_length_le (by rw [HN.out]; exact Nat.le_refl _)
   rw [e] at HG hy16 ⊢
   have HRD := hID ((qak (qd2 (nb + 1))).mono (HG.out.rd (qd2 _)) (G := fun _ => True) (fun _ _ => trivial))
   have HPL : Hid ((ps.map (fun p => qaw B p (fun _ => true))).length = i) := hID (by rw [List.length_map, HN.out])
   have HPA : Hid (∀ r, r < i → (ps.map (fun p => qaw B p (fun _ => true)))[r]? = some (qaw B (ps.getD r []) (fun _ => true))) := hID (fun r hr => by
    have hr2 : r < ps.length := by rw [HN.out]; exact hr
    rw [List.getElem?_map, gEe hr2, gDe, gEe hr2]
    rfl)
   have HUL : Hid (∀ k, k ≤ nb → (untP B ps k).length ≤ 960) := hID (fun k hk => by
    have h1 := qjr B ps k
    rw [HN.out] at h1
    have h2 : k * i ≤ 60 * 16 := Nat.mul_le_mul (by have := HBND.out; omega) (by have := HBND.out; omega)
    omega)
   have HEL : Hid (∀ k r, (endP B ps k r).length ≤ r) := hID (fun k r => qo3 B ps k r)
   rw [HPL.out] at HRD ⊢
   have HO2 := hID (O1.out.also HO.out)
   clear e HG hy16 hin hi
   go_wp2_with fail
   go_loopw [9, 10] (fun x q wr => ∃ k : Nat, k ≤ nb ∧ q = .int .i64 ((k : Int) + 1) ∧ OwnL wa wr 85 2 x (untP B ps k).length (qa9 (untP B ps k))) (fun _ q _ => nb + 1 - (intOf q).toNat)
   case atStart => exact ⟨0, Nat.zero_le _, rfl, OwnL.nil _ _ _⟩
   case round =>
    obtain ⟨k, hk, rfl, oW⟩ := hrel
    obtain ⟨wb, rfl⟩ : ∃ z, z = wr := ⟨wr, rfl⟩
    obtain ⟨AX, cx, rfl⟩ := oW.form
    have HW := hID oW
    clear oW
    have hk60 : k ≤ 60 := by have := HBND.out; omega
    by_cases hkn : k < nb
    ·have d2 : decide ((k : Int) + 1 ≤ (nb : Int)) = true := dcT
     have d2n : decide (k + 1 ≤ nb) = true := dcT
     have d2m : decide (k < nb) = true := dT hkn
     have HKN := hID hkn
     have HL0 := hID (HUL.out k hk)
     have HUS := hID (qmk B ps k)
     rw [HN.out] at HUS
     obtain ⟨U, hU⟩ : ∃ U, untP B ps k = U := ⟨_, rfl⟩
     rw [hU] at HW HL0 HUS ⊢
     clear hU
     go_wp2_with fail
     go_loopw [9, 11] (fun x q wr => ∃ r : Nat, r ≤ i ∧ q = .int .i64 (r : Int) ∧ OwnL wa wr 85 2 x (U ++ endP B ps k r).length (qa9 (U ++ endP B ps k r))) (fun _ q _ => i - (intOf q).toNat)
     case atStart => exact ⟨0, Nat.zero_le _, rfl, by rw [qwd, List.append_nil]; exact HW.out⟩
     case round =>
      obtain ⟨r, hr, rfl, oW⟩ := hrel
      obtain ⟨wc, rfl⟩ : ∃ z, z = wr := ⟨wr, rfl⟩
      obtain ⟨AZ, cz, rfl⟩ := oW.form
      have HW3 := hID oW
      clear oW HW
      by_cases hri : r < i
      ·have d3 : decide ((r : Int) < (i : Int)) = true := dcT
       have d3n : decide (r < i) = true := dT hri
       have HRI := hID hri
       have hr16 : r < 16 := by have := HBND.out; omega
       have hzl : (U ++ endP B ps k r).length ≤ 976 := by
        rw [List.length_append]
        have := HL0.out
        have := HEL.out k r
        omega
       rw [← HPL.out] at HRD
       obtain ⟨b, o, cc, u, he, hac, hue⟩ := HRD.out.at_ (qd2 (nb + 1)) (HPA.out r hri)
       injection he with he1 he2 he3
       subst he1
       clear he2 he3
       rw [HPL.out] at HRD
       have ck := hac wc Nob HW3.out.2 (fun _ _ h => h)
       obtain ⟨bb, ob, cb2, rfl, hcb⟩ := Rd.cellsT hue (by omega)
       have ck2 := hcb wc HW3.out.2 (k + 1) _ (qfd _ (by omega))
       clear hac hue hcb
       cases hh : qaw B (ps.getD r []) (fun _ => true) (k + 1)
       ·rw [hh] at ck2
        have HEM := hID (qwe hh)
        clear hh
        go_wp2_with fail
        go_roundw
        case rel => exact ⟨r + 1, HRI.out, by go_num, by rw [HEM.out]; exact HW3.out⟩
        case measure => have := HRI.out; simp [intOf]; omega
       ·rw [hh] at ck2
        have HEM := hID (qyq hh)
        clear hh
        obtain ⟨Z, hZ⟩ : ∃ Z, U ++ endP B ps k r = Z := ⟨_, rfl⟩
        have HZS : Hid (U ++ endP B ps k (r + 1) = Z ++ [(((k + 1 : Nat) : Int), (r : Int))]) := hID (by rw [HEM.out, ← List.append_assoc, hZ])
        rw [hZ] at HW3 hzl ⊢
        obtain ⟨nz, hnz⟩ : ∃ nz, Z.length = nz := ⟨_, rfl⟩
        have HNZ := hID hnz
        rw [hnz] at HW3 hzl ⊢
        clear hZ hnz
        obtain ⟨A6, c6, w6, r6, o6⟩ := qg2 Tryz.underlying46 g0 y0 t0 c0 rfl (by decide) HW3.out [.int .i64 ((k : Int) + 1), .int .i64 (r : Int)] rfl (by intro u hu; simp at hu; rcases hu with rfl | rfl <;> rfl) (by omega) (by decide)
        have R6 := hID r6
        have HO4 : Hid (OwnL wa w6 85 2 (.slice A6 (nz + 1) c6) (U ++ endP B ps k (r + 1)).length (qa9 (U ++ endP B ps k (r + 1)))) := hID (by
         rw [HZS.out, List.length_append, HNZ.out]
         unfold qa9 at o6 ⊢
         rw [List.flatMap_append]
         exact o6)
        clear r6 o6
        go_wp2_with (first | (at_builtin; refine qaz _ (by rfl) _ _ _ rfl rfl rfl R6.out ?_) | fail)
        go_roundw
        case rel => exact ⟨r + 1, HRI.out, by go_num, HO4.out⟩
        case measure => have := HRI.out; simp [intOf]; omega
      ·obtain rfl : r = i := by omega
       have d3 : decide ((r : Int) < (r : Int)) = false := by simp
       have d3n : decide (r < r) = false := by simp
       rw [← HUS.out] at HW3 ⊢
       go_wp2_with fail
       go_roundw
       case rel => exact ⟨k + 1, HKN.out, by go_num, HW3.out⟩
       case measure => have := HKN.out; simp [intOf]; omega
    ·obtain rfl : k = nb := by omega
     have d2 : decide ((k : Int) + 1 ≤ (k : Int)) = false := dcF
     have d2n : decide (k + 1 ≤ k) = false := dcF
     have d2m : decide (k < k) = false := by simp
     have e : untP B ps k = allP B ps := by rw [← HNB.out]; exact qo2 B ps
     rw [e] at HW ⊢
     have HR : Hid (Rd wb (fun j => w.heap.size ≤ j) 2 (.slice AX (allP B ps).length cx) (allP B ps).length (qa9 (allP B ps)) ∧ Off Nob w wb) := hID ⟨Rd.own HW.out.1 (fun j hj => Nat.le_trans HO2.out.size (HW.out.1.lt j hj).1), HO2.out.also HW.out.2⟩
     clear e hkn hk
     go_wp2_with fail
     exact bodyPost_ret (v := .tuple #[.slice AX (allP B ps).length cx, .int .i64 0]) (by simp [results, Tryz.f30, go_sem]) rfl ⟨_, rfl, HR.out⟩
end
end Go.Proofs.YtlgjaefcfnndhaaGreatDoor
