/-
 ShiftandFinds: for a set that was built of patterns, Run has exactly their hits.
-/
import Derived.Test.YtlgjaefcfnndhaaGreatDoorP44
import Derived.Test.YtlgjaefcfnndhaaGreatDoorP42
import Derived.Test.YtlgjaefcfnndhaaGreatDoorP45
import Derived.Test.YtlgjaefcfnndhaaGreatDoorP46
set_option linter.unusedVariables false
set_option linter.unusedSimpArgs false
set_option maxHeartbeats 16000000
set_option maxRecDepth 100000
namespace Go.Proofs.YtlgjaefcfnndhaaGreatDoor
open Go.RowKit Go.Conc Go.Pip Go.Ride
noncomputable def qfe : Code := Tryz.f5.body.getD .skip
noncomputable def qie : Code := match qfe with | .seq _ r => r | _ => .skip
noncomputable def qky : Code := match qie with | .seq (.seq _ (.block _ (.loop c))) _ => c | _ => .skip
noncomputable def qo5 : Code := match qie with | .seq _ r => r | _ => .skip
theorem qwg {ids : List Int} {ps : List (List El)} {Rs : List (List (List Q4))} {W : Nat} {T S F : List Nat} (h : Built ids Rs W T S F) (hl : qil ps Rs) (hS64 : ∀ x ∈ S, x < 18446744073709551616) (hT64 : ∀ x ∈ T, x < 18446744073709551616) (B : List Nat) (hB : ∀ b ∈ B, b < 256) (hlen : B.length ≤ 60) :
  ruErr ids (W : Int) T S F B.length = 0 ∧ qdt ids (W : Int) T S F B = allP B ps := by
 have e0 := h.setOk
 obtain ⟨g0, g1, g2⟩ := qqe e0
 have r2 : fdErr ids (W : Int) T S F (qbl ids (W : Int) T S F) 0 B.length = 0 := by unfold fdErr; rw [g0, if_neg (by simp), if_neg (by omega), if_neg (by omega)]
 refine ⟨by unfold ruErr; rw [e0, if_neg (by simp)]; exact r2, ?_⟩
 unfold qdt
 rw [e0, if_neg (by simp)]
 unfold qds
 rw [r2, if_pos rfl, g1, g2, Int.toNat_natCast]
 exact qqf h hl hS64 hT64 B hB (by omega)
theorem q0l {ps : List (List El)} {k : Nat} (h : k < ps.length) : ps[k]? = some (ps.getD k []) := by
 rw [gDe, gEe h]
 rfl
structure FnK (w1 : World) (V0 V1 V2 : Value) (ni m nb : Nat) (ids : List Int) (ps : List (List El)) (B : List Nat) : Prop where
 i : Rd w1 (fun _ => True) 1 V0 ni (ids.map (Value.int .i64))
 il : ids.length = ni
 i64 : ∀ x ∈ ids, -9223372036854775808 ≤ x ∧ x ≤ 9223372036854775807
 p : RdLs EP w1 (fun _ => True) V1 ps
 pl : ps.length = m
 pe : ∀ p ∈ ps, ∀ e ∈ p, ElB e
 b : Rd w1 (fun _ => True) 1 V2 nb (qb2 B)
 bl : B.length = nb
 b8 : ∀ z ∈ B, z < 256
theorem Lies.pats {w w' : World} (h : Lies w w') {F : Nat → Prop} {v : Value} {Bs : List (List El)} (r : RdLs EP w F v Bs) : RdLs EP w' F v Bs :=
 (qak lasts_EP).keep (W := Go.Ride.re w w'.tape w'.drawn) (G := Nob) r h.off (fun _ _ h => h)
theorem qtt {w w1 : World} (hZ : TzT w1) (hl0 : Lies w w1) {AI AL bp : Option Addr} {ni ci m cl nb bcap : Nat} {b : Frame} (hbf : b.fn = 5) (hbn : b.kind = .normal) {ids : List Int} {ps : List (List El)} {B : List Nat} (hk : FnK w1 (.slice AI ni ci) (.slice AL m cl) (.slice bp nb bcap) ni m nb ids ps B) (hall : ∀ k, k < m → k < 30 → (ps.getD k []).length ≤ 60) {W1 : World} (hl1 : Lies w1 W1) (u7 u14 u15 u16 u17 u18 u19 u20 u21 u22 u23 u24 u25 u26 u27 u28 u29 u30 : Value) :
  Go0 Tryz.prog (AtRet Tryz.prog (fun v w' => v = .bool true ∧ Lies w w')) (G (b.at ⟨#[.slice AI ni ci, .slice AL m cl, .slice bp nb bcap, undef, undef, undef, .bool false, u7, undef, undef, undef, undef, undef, undef, u14, u15, u16, u17, u18, u19, u20, u21, u22, u23, u24, u25, u26, u27, u28, u29, u30, undef, undef, undef, undef, undef, undef, undef, undef, undef, undef, undef, undef, undef, undef, undef, undef, undef, undef, undef, undef, undef, undef, undef, undef, undef, undef, undef, undef, undef, undef, undef, undef, undef, undef, undef, undef, undef, undef, undef, undef, undef, undef, undef, undef, undef, undef, undef, undef, undef, undef], []⟩ [.code qo5]) []) W1 := by
 have HK := hID hk
 have HL1 := hID hl1
 have HL0 := hID hl0
 have HTZ := hID hZ
 have HALL := hID hall
 clear hk hl1 hl0 hZ hall
 simp only [qo5, qie, qfe, Tryz.f5, Option.getD_some]
 refine Go0.seq mild (Go0.seq mild (Go0.wpQ mild fun Q hQ V hV => ?_))
 have HQ := hID hQ
 have HL := hID (HL1.out.trans (Lies.same hV))
 clear hQ hV HL1 W1
 by_cases h1 : 20 < ni
 ·have d1 : decide ((20 : Int) < (ni : Int)) = true := dcT
  have d1n : decide (20 < ni) = true := dT h1
  go_wp2_with fail
  refine HQ.out _ _ _ ?_
  show Go0 _ _ _ _
  refine Go0.cond mild (t := true) rfl ?_
  exact qed (HL.out.tz HTZ.out) (HL0.out.trans HL.out) hbn rfl (by rw [hbf]; exact Tryz.func5) (by rw [hbf]; kernel_rfl) rfl rfl rfl rfl rfl rfl rfl (by simp) (by simp)
 ·have d1 : decide ((20 : Int) < (ni : Int)) = false := dcF
  have d1n : decide (20 < ni) = false := dF h1
  have HN20 := hID h1
  clear h1
  by_cases h2 : 20 < m
  ·have d2 : decide ((20 : Int) < (m : Int)) = true := dcT
   have d2n : decide (20 < m) = true := dT h2
   go_wp2_with fail
   refine HQ.out _ _ _ ?_
   show Go0 _ _ _ _
   refine Go0.cond mild (t := true) rfl ?_
   exact qed (HL.out.tz HTZ.out) (HL0.out.trans HL.out) hbn rfl (by rw [hbf]; exact Tryz.func5) (by rw [hbf]; kernel_rfl) rfl rfl rfl rfl rfl rfl rfl (by simp) (by simp)
  ·have d2 : decide ((20 : Int) < (m : Int)) = false := dcF
   have d2n : decide (20 < m) = false := dF h2
   have HM20 := hID h2
   clear h2
   by_cases h3 : 60 < nb
   ·have d3 : decide ((60 : Int) < (nb : Int)) = true := dcT
    have d3n : decide (60 < nb) = true := dT h3
    go_wp2_with fail
    refine HQ.out _ _ _ ?_
    show Go0 _ _ _ _
    refine Go0.cond mild (t := true) rfl ?_
    exact qed (HL.out.tz HTZ.out) (HL0.out.trans HL.out) hbn rfl (by rw [hbf]; exact Tryz.func5) (by rw [hbf]; kernel_rfl) rfl rfl rfl rfl rfl rfl rfl (by simp) (by simp)
   ·have d3 : decide ((60 : Int) < (nb : Int)) = false := dcF
    have d3n : decide (60 < nb) = false := dF h3
    have HB60 := hID h3
    clear h3
    go_wp2_with fail
    refine HQ.out _ _ _ ?_
    clear HQ
    show Go0 _ _ _ _
    refine Go0.cond mild (t := false) rfl (Go0.skip mild ?_)
    clear d1 d1n d2 d2n d3 d3n
    have HPB : Hid (PatsB ps) := hID ⟨HK.out.pe, fun p hp => by
     obtain ⟨k, hk, rfl⟩ := List.mem_iff_getElem.1 hp
     have h := HALL.out k (by rw [← HK.out.pl]; exact hk) (by have := HK.out.pl; have := HM20.out; omega)
     rwa [gDe, gEe hk] at h, by have := HK.out.pl; have := HM20.out; omega⟩
    -- Build
    refine Go0.seq mild (Go0.wpQ mild fun Q hQ V2 hV => ?_)
    have HQ := hID hQ
    have HL2 := hID (HL.out.trans (Lies.same hV))
    have HBU := hID (qq8 ids ps HPB.out (by have := HK.out.il; have := HN20.out; omega) HK.out.i64 V2 _ _ (by rw [HK.out.il]; exact HL2.out.rd HK.out.i) (HL2.out.pats HK.out.p))
    clear hQ hV HL V HALL
    go_wp2_with fail
    refine HBU.out.mono ?_
    rintro e u5 ⟨VI, VT, VS, VF, W8, i8, x8, rfl, ⟨⟨A8, n8, c8, rfl⟩, ⟨A9, n9, c9, rfl⟩, ⟨A10, n10, c10, rfl⟩, ⟨A11, n11, c11, rfl⟩⟩, o5, -, hx8⟩
    have la := (Lies.of' o5).alloc (.cells #[.slice A8 n8 c8, .int .i64 W8, .slice A9 n9 c9, .slice A10 n10 c10, .slice A11 n11 c11] 25)
    have lb := (Lies.refl u5).alloc (.cells #[.slice A8 n8 c8, .int .i64 W8, .slice A9 n9 c9, .slice A10 n10 c10, .slice A11 n11 c11] 25)
    have HL := hID (HL2.out.trans la)
    have HS := hID (Blk.new u5 25 #[.slice A8 n8 c8, .int .i64 W8, .slice A9 n9 c9, .slice A10 n10 c10, .slice A11 n11 c11])
    have HX8 := hID hx8
    have HLB := hID lb
    clear la lb o5 hx8 HBU HL2
    go_wp2_with fail
    refine HQ.out _ _ _ ?_
    clear HQ
    show Go0 _ _ _ _
    revert HL HS HLB
    generalize u5.heap.size = sB
    generalize u5.alloc _ = W1
    intro HL HS HLB
    -- is there one?
    refine Go0.seq mild (Go0.seq mild (Go0.wpQ mild fun Q hQ V hV => ?_))
    have HQ := hID hQ
    have l := Lies.same hV
    replace HL := hID (HL.out.trans l)
    replace HS := hID (l.blk HS.out)
    replace HLB := hID (HLB.out.trans l)
    clear hQ hV l W1
    by_cases hx : x8 = 0
    ·have dx : (x8 != 0) = false := by simp [hx]
     obtain ⟨Rs, T, S, F, Wn, rfl, hbu, hli, hpo, hsr, -⟩ := HX8.out hx
     have HBB := hID hbu
     have HLI := hID hli
     have HPO := hID hpo
     have HRUN := hID (qwg hbu hli hsr.s64 hsr.t64 B HK.out.b8 (by have := HK.out.bl; have := HB60.out; omega))
     have HSR := hID hsr
     have hni : ids.length ≤ 20 := by have := HK.out.il; have := HN20.out; omega
     have hw4 := hbu.w64
     have HSV : Hid (∀ V', Lies u5 V' → SetV V' (.slice A8 n8 c8) (.slice A9 n9 c9) (.slice A10 n10 c10) (.slice A11 n11 c11) ids (Wn : Int) T S F) := hID (fun V' l =>
      ⟨(l.rd hsr.i).any, (l.rd hsr.t).any, (l.rd hsr.s).any, (l.rd hsr.f).any, hsr.tc, hsr.fc, fun x hx => (by have := hbu.rng x hx; omega), (by omega), hsr.t64, hsr.s64, hsr.f64, (by omega), (by rw [hbu.tl]; omega), (by rw [hbu.sl]; omega), (by rw [hbu.fl]; have := Nat.mul_le_mul hni hw4.2.2; omega)⟩)
     have hpl : ps.length ≤ 16 ∧ 1 ≤ ps.length := by
      have h1 := hli.1
      have h2 := hbu.ok.le
      have h3 := List.length_pos_iff.2 hbu.ok.ne
      omega
     have HP16 := hID hpl
     have HAN : Hid ((allP B ps).length ≤ 1000000) := hID (by
      have h1 := qjr B ps B.length
      rw [qo2] at h1
      have h2 : B.length * ps.length ≤ 60 * 16 := Nat.mul_le_mul (by have := HK.out.bl; have := HB60.out; omega) hpl.1
      omega)
     clear hx hbu hli hpo hsr hni hw4 hpl HX8
     go_wp2_with fail
     refine HQ.out _ _ _ ?_
     clear HQ
     show Go0 _ _ _ _
     refine Go0.cond mild (t := false) rfl (Go0.skip mild ?_)
     clear dx
     -- Run
     refine Go0.seq mild (Go0.region_call mild [_, _] _ _ rfl fun Q hQ V2 hV => ?_)
     have s := (Lies.same hV).blk HS.out
     have HL4 := hID (HL.out.trans (Lies.same hV))
     have HLB4 := hID (HLB.out.trans (Lies.same hV))
     have c0 := s.cell 0
     have c1 := s.cell 1
     have c2 := s.cell 2
     have c3 := s.cell 3
     have c4 := s.cell 4
     have HGR := hID (g_run ids Wn T S F B V2 _ _ _ _ _ (HSV.out V2 HLB4.out) (HL4.out.tz HTZ.out) HK.out.b8 (by rw [HK.out.bl]; exact HL4.out.rd HK.out.b))
     rw [HK.out.bl] at HRUN
     rw [HK.out.bl, HRUN.out.1, HRUN.out.2] at HGR
     have HQ := hID hQ
     clear hQ hV s HL HLB HS V
     go_wp2_with fail
     refine HQ.out _ _ ⟨by rfl, _, _, _, fun V => ?_, HGR.out, ?_⟩
     ·simp [go_sem]
     clear HQ HGR
     rintro v w5 ⟨out, rfl, hout, l5⟩ Q hQ V5 hV
     obtain ⟨Ar, cr, rfl, _⟩ := hout.form
     have HL5 := hID ((HL4.out.trans l5).trans (Lies.same hV))
     have HO5 := hID ((Lies.same hV).rd hout.any)
     have HQ := hID hQ
     obtain ⟨na, hna⟩ : ∃ na, (allP B ps).length = na := ⟨_, rfl⟩
     have HNA := hID hna
     rw [hna] at HO5 ⊢
     clear hout l5 hV hQ c0 c1 c2 c3 c4 HL4 HLB4 hna
     go_wp2_with fail
     refine HQ.out _ _ ?_
     clear HQ
     -- All
     refine Go0.seq mild (Go0.wpQ mild fun Q hQ V hV => ?_)
     have HL6 := hID (HL5.out.trans (Lies.same hV))
     have HO6 := hID ((Lies.same hV).rd HO5.out)
     have HAL := hID (q0k ps HPB.out HPO.out HP16.out.2 HP16.out.1 B HK.out.b8 (by have := HK.out.bl; have := HB60.out; omega) V _ _ (HL6.out.pats HK.out.p) (by rw [HK.out.bl]; exact HL6.out.rd HK.out.b))
     have HQ := hID hQ
     clear hQ hV HL5 HO5
     go_wp2_with fail
     refine HAL.out.mono ?_
     rintro e u8 ⟨v, rfl, hout, o8⟩
     obtain ⟨As, cs2, rfl, _⟩ := hout.form
     have HL8 := hID (HL6.out.trans (Lies.of' o8))
     have HO8 := hID ((Lies.of' o8).rd HO6.out)
     have HP8 := hID hout.any
     rw [HNA.out] at HP8
     clear hout o8 HL6 HO6 HAL
     rw [HNA.out]
     go_wp2_with fail
     refine HQ.out _ _ _ ?_
     clear HQ
     show Go0 _ _ _ _
     -- they are the same; the examples
     refine Go0.seq mild (Go0.region_call mild [_, _, _, _, _, _, _, _, _, _, _, _] _ _ rfl fun Q hQ V2 hV => ?_)
     have l := Lies.same hV
     have HL9 := hID (HL8.out.trans l)
     have HSH := hID (qon (allP B ps) HAN.out V2 _ _ (by rw [HNA.out]; exact l.rd HO8.out) (by rw [HNA.out]; exact l.rd HP8.out))
     have HQ := hID hQ
     clear hQ hV l HL8 HO8 HP8
     go_wp2_with fail
     refine HSH.out.mono ?_
     rintro e u10 ⟨rfl, o1⟩
     have HL10 := hID (HL9.out.trans (Lies.of' o1))
     clear o1 HSH HL9
     go_wp2_with fail
     refine HQ.out _ _ ⟨by rfl, _, _, _, fun V => ?_, qrb _ (HL10.out.tz HTZ.out), ?_⟩
     ·simp [go_sem]
     clear HQ
     rintro v w5 ⟨rfl, l5⟩ Q hQ V5 hV
     have HL11 := hID ((HL10.out.trans l5).trans (Lies.same hV))
     have HQ := hID hQ
     clear hQ hV l5
     go_wp2_with fail
     refine HQ.out _ _ ?_
     refine Go0.ret mild ?_
     exact qrd hbn rfl (by rw [hbf]; exact Tryz.func5) (by rw [hbf]; kernel_rfl) rfl rfl (HL0.out.trans HL11.out)
    ·have dx : (x8 != 0) = true := bne_iff_ne.2 hx
     clear hx HX8
     go_wp2_with fail
     refine HQ.out _ _ _ ?_
     show Go0 _ _ _ _
     refine Go0.cond mild (t := true) rfl ?_
     exact qed (HL.out.tz HTZ.out) (HL0.out.trans HL.out) hbn rfl (by rw [hbf]; exact Tryz.func5) (by rw [hbf]; kernel_rfl) rfl rfl rfl rfl rfl rfl rfl (by simp) (by simp)
theorem qtu {w w1 : World} (hZ : TzT w1) (hl0 : Lies w w1) {AI AL bp : Option Addr} {ni ci m cl nb bcap : Nat} {b : Frame} (hbf : b.fn = 5) (hbn : b.kind = .normal) {ids : List Int} {ps : List (List El)} {B : List Nat} (hk : FnK w1 (.slice AI ni ci) (.slice AL m cl) (.slice bp nb bcap) ni m nb ids ps B) (M : Nat) (hM : min m 30 = M) :
  ∀ (d i : Nat), i + d = M → (∀ k, k < i → (ps.getD k []).length ≤ 60) → ∀ (V : World) (u14 u15 u16 u17 u18 u19 u20 u21 u22 u23 u24 u25 u26 u27 u28 u29 u30 : Value), Lies w1 V → Go0 Tryz.prog (AtRet Tryz.prog (fun v w' => v = .bool true ∧ Lies w w')) (G (b.at ⟨#[.slice AI ni ci, .slice AL m cl, .slice bp nb bcap, undef, undef, undef, .bool false, .int .i64 (i : Int), undef, undef, undef, undef, undef, undef, u14, u15, u16, u17, u18, u19, u20, u21, u22, u23, u24, u25, u26, u27, u28, u29, u30, undef, undef, undef, undef, undef, undef, undef, undef, undef, undef, undef, undef, undef, undef, undef, undef, undef, undef, undef, undef, undef, undef, undef, undef, undef, undef, undef, undef, undef, undef, undef, undef, undef, undef, undef, undef, undef, undef, undef, undef, undef, undef, undef, undef, undef, undef, undef, undef, undef, undef], []⟩ [.code qky, .inLoop qky, .inBlock 0, .code qo5]) []) V := by
 intro d
 induction d with
 | zero =>
  intro i hi hall V u14 u15 u16 u17 u18 u19 u20 u21 u22 u23 u24 u25 u26 u27 u28 u29 u30 hl
  have hgo := fun V2 (l2 : Lies w1 V2) => qtt hZ hl0 hbf hbn hk (fun k h1 h2 => hall k (by omega)) l2
  have HGO := hID hgo
  have HL := hID hl
  have him : i = m ∨ (i = 30 ∧ i < m) := by omega
  clear hgo hall hi hl hk hl0 hZ hM
  simp only [qky, qie, qfe, Tryz.f5, Option.getD_some]
  refine Go0.seq mild (Go0.seq mild (Go0.wpQ mild fun Q hQ V2 hV => ?_))
  have HQ := hID hQ
  have HL2 := hID (HL.out.trans (Lies.same hV))
  clear hQ hV HL V
  rcases him with rfl | ⟨rfl, hm⟩
  ·have d1 : decide ((i : Int) < (i : Int)) = false := by simp
   have d1n : decide (i < i) = false := by simp
   go_wp2_with fail
   refine HQ.out _ _ _ ?_
   clear HQ
   show Go0 _ _ _ _
   refine Go0.cond mild (t := false) rfl (Go0.exit mild rfl ?_)
   exact HGO.out _ HL2.out _ _ _ _ _ _ _ _ _ _ _ _ _ _ _ _ _ _
  ·have d1 : decide (((30 : Nat) : Int) < (m : Int)) = true := dcT
   have d1z : decide ((30 : Int) < (m : Int)) = true := dcT
   have d1n : decide (30 < m) = true := dT hm
   go_wp2_with fail
   refine HQ.out _ _ _ ?_
   clear HQ
   show Go0 _ _ _ _
   refine Go0.cond mild (t := false) rfl (Go0.exit mild rfl ?_)
   exact HGO.out _ HL2.out _ _ _ _ _ _ _ _ _ _ _ _ _ _ _ _ _ _
 | succ d ih =>
  intro i hi hall V u14 u15 u16 u17 u18 u19 u20 u21 u22 u23 u24 u25 u26 u27 u28 u29 u30 hl
  have HIH := hID (ih (i + 1) (by omega))
  have HALL := hID hall
  have HL := hID hl
  have HTZ := hID hZ
  have HL0 := hID hl0
  have HK := hID hk
  have him : i < m := by omega
  have hi30 : i < 30 := by omega
  clear ih hall hi hl hk hl0 hZ hM
  simp only [qky, qie, qfe, Tryz.f5, Option.getD_some]
  refine Go0.seq mild (Go0.seq mild (Go0.wpQ mild fun Q hQ V2 hV => ?_))
  have HQ := hID hQ
  have HL2 := hID (HL.out.trans (Lies.same hV))
  have d1 : decide ((i : Int) < (m : Int)) = true := dcT
  have d1n : decide (i < m) = true := dT him
  have d2 : decide ((i : Int) < (30 : Int)) = true := dcT
  have d2n : decide (i < 30) = true := dT hi30
  clear hQ hV HL V
  go_wp2_with fail
  refine HQ.out _ _ _ ?_
  clear HQ
  show Go0 _ _ _ _
  refine Go0.cond mild (t := true) rfl (Go0.skip mild ?_)
  refine Go0.seq mild (Go0.block mild (Go0.seq mild (Go0.wpQ mild fun Q hQ V hV => ?_)))
  have HQ := hID hQ
  have HL := hID (HL2.out.trans (Lies.same hV))
  obtain ⟨bl, ol, c2, u, he, hac, hue⟩ := (HL.out.pats HK.out.p).at_ lasts_EP (q0l (by rw [HK.out.pl]; exact him))
  rw [HK.out.pl] at he
  injection he with he1 he2 he3
  subst he1
  clear he2 he3
  have q3 := hac V Nob oRf (fun _ _ h => h)
  obtain ⟨AU, cu, rfl⟩ := RdL.form hue
  obtain ⟨x, hx⟩ : ∃ x, (ps.getD i []).length = x := ⟨_, rfl⟩
  rw [hx] at q3
  have HXV := hID hx
  clear hQ hV HL2 V2 hac hue hx
  by_cases hb : 60 < x
  ·have d3 : decide ((60 : Int) < (x : Int)) = true := dcT
   have d3n : decide (60 < x) = true := dT hb
   go_wp2_with fail
   refine HQ.out _ _ _ ?_
   show Go0 _ _ _ _
   refine Go0.cond mild (t := true) rfl ?_
   exact qed (HL.out.tz HTZ.out) (HL0.out.trans HL.out) hbn rfl (by rw [hbf]; exact Tryz.func5) (by rw [hbf]; kernel_rfl) rfl rfl rfl rfl rfl rfl rfl (by simp) (by simp)
  ·have d3 : decide ((60 : Int) < (x : Int)) = false := dcF
   have d3n : decide (60 < x) = false := dF hb
   have HBX : Hid (x ≤ 60) := hID (by omega)
   clear hb
   go_wp2_with fail
   refine HQ.out _ _ _ ?_
   clear HQ
   show Go0 _ _ _ _
   refine Go0.cond mild (t := false) rfl (Go0.skip mild (Go0.inBlock mild ?_))
   refine Go0.wpQ mild fun Q hQ V3 hV => ?_
   have HQ := hID hQ
   have HL3 := hID (HL.out.trans (Lies.same hV))
   clear hQ hV HL q3 d3 d3n V
   go_wp2_with fail
   refine HQ.out _ _ _ ?_
   clear HQ
   show Go0 _ _ _ _
   refine Go0.again mild ?_
   exact HIH.out (fun k hk => by
    rcases Nat.lt_or_ge k i with h | h
    ·exact HALL.out k h
    ·have e : k = i := by omega
     rw [e, HXV.out]; exact HBX.out) _ _ _ _ _ _ _ _ _ _ _ _ _ _ _ _ _ _ HL3.out
theorem shiftandFinds_walk {w : World} (hZ : TzT w) {VI : Value} {ids : List Int} (hi : Rd w (Old w) 1 VI ids.length (ids.map (Value.int .i64))) (hi64 : ∀ x ∈ ids, -9223372036854775808 ≤ x ∧ x ≤ 9223372036854775807) {VL : Value} {ps : List (List El)} (hp : RdLs EP w (Old w) VL ps) (hpe : ∀ p ∈ ps, ∀ e ∈ p, ElB e) {BV : Value} {B : List Nat} (hb : Rd w (Old w) 1 BV B.length (qb2 B)) (hb8 : ∀ z ∈ B, z < 256) : qrc 5 #[VI, VL, BV] w := by
 obtain ⟨AI, ci, rfl, _⟩ := hi.form
 obtain ⟨AL, cl, rfl⟩ := hp.form
 obtain ⟨bp, bcap, rfl, _⟩ := hb.form
 obtain ⟨ni, hni⟩ : ∃ n, ids.length = n := ⟨_, rfl⟩
 obtain ⟨m, hm⟩ : ∃ n, ps.length = n := ⟨_, rfl⟩
 obtain ⟨nb, hnb⟩ : ∃ n, B.length = n := ⟨_, rfl⟩
 have HK : Hid (∀ V, Lies w V → FnK V (.slice AI ids.length ci) (.slice AL ps.length cl) (.slice bp B.length bcap) ids.length ps.length B.length ids ps B) := hID (fun V l => ⟨l.rd hi.any, rfl, hi64, l.pats ((qak lasts_EP).mono hp (fun _ _ => trivial)), rfl, hpe, l.rd hb.any, rfl, hb8⟩)
 rw [hni, hm, hnb] at HK ⊢
 have HZ := hID hZ
 clear hZ hi hi64 hp hpe hb hb8 hni hm hnb
 have hen : Frame.enter Tryz.prog 5 #[.slice AI ni ci, .slice AL m cl, .slice bp nb bcap] .normal = (base 5).at ⟨#[.slice AI ni ci, .slice AL m cl, .slice bp nb bcap, undef, undef, undef, undef, undef, undef, undef, undef, undef, undef, undef, undef, undef, undef, undef, undef, undef, undef, undef, undef, undef, undef, undef, undef, undef, undef, undef, undef, undef, undef, undef, undef, undef, undef, undef, undef, undef, undef, undef, undef, undef, undef, undef, undef, undef, undef, undef, undef, undef, undef, undef, undef, undef, undef, undef, undef, undef, undef, undef, undef, undef, undef, undef, undef, undef, undef, undef, undef, undef, undef, undef, undef, undef, undef, undef, undef, undef, undef], []⟩ [.code qfe] := by
  have h := enter_at (P := Tryz.prog) #[.slice AI ni ci, .slice AL m cl, .slice bp nb bcap] Tryz.func5 (c := qfe) rfl
  simp only [Tryz.ntmps5, List.size_toArray, List.length_cons, List.length_nil, Nat.reduceAdd, Nat.reduceSub, Array.replicate_succ, Array.replicate_zero, List.push_toArray, List.append_toArray, List.nil_append, List.cons_append] at h
  exact h
 unfold qrc
 rw [hen]
 generalize hbb : base 5 = b
 have hbf : b.fn = 5 := by rw [← hbb]; rfl
 have hbn : b.kind = .normal := by rw [← hbb]; rfl
 clear hen hbb
 simp only [qfe, Tryz.f5, Option.getD_some]
 refine Go0.seq mild (Go0.wpQ mild fun Q hQ V hV => ?_)
 have HQ := hID hQ
 have HL := hID (Lies.same hV)
 clear hQ hV
 go_wp2_with fail
 refine HQ.out _ _ _ ?_
 clear HQ
 show Go0 _ _ _ _
 refine Go0.seq mild (Go0.seq mild (Go0.wpQ mild fun Q hQ V2 hV => ?_))
 have HQ := hID hQ
 have HL2 := hID (HL.out.trans (Lies.same hV))
 clear hQ hV HL V
 go_wp2_with fail
 refine HQ.out _ _ _ ?_
 clear HQ
 show Go0 _ _ _ _
 refine Go0.block mild (Go0.loop mild ?_)
 exact qtu (w := w) (w1 := V2) (HL2.out.tz HZ.out) HL2.out hbf hbn (HK.out V2 HL2.out) _ rfl _ 0 (Nat.zero_add _) (fun k h => absurd h (Nat.not_lt_zero _)) V2 _ _ _ _ _ _ _ _ _ _ _ _ _ _ _ _ _ (Lies.refl _)
end Go.Proofs.YtlgjaefcfnndhaaGreatDoor
