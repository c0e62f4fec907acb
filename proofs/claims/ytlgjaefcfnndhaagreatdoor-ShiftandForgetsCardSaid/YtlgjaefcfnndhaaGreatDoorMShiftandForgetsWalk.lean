/-
 ShiftandForgets: after bytes enough the state is that of these bytes alone.
-/
import Derived.Test.YtlgjaefcfnndhaaGreatDoorM42
import Derived.Test.YtlgjaefcfnndhaaGreatDoorM43
import Derived.Test.YtlgjaefcfnndhaaGreatDoorMGoD
set_option linter.unusedVariables false
set_option linter.unusedSimpArgs false
set_option maxHeartbeats 16000000
set_option maxRecDepth 100000
namespace Go.Proofs.YtlgjaefcfnndhaaGreatDoor
open Go.RowKit Go.Conc Go.Pip Go.Ride
noncomputable def qen : Code := Tryz.f8.body.getD .skip
noncomputable def qfe : Code := match qen with | .seq _ (.seq _ r) => r | _ => .skip
noncomputable def qko : Code := match qfe with | .seq _ (.seq (.seq _ (.block _ (.loop c))) _) => c | _ => .skip
noncomputable def qib : Code := match qfe with | .seq _ (.seq _ r) => r | _ => .skip
theorem qw0 {w w1 : World} (hZ : TzT w1) (hl0 : Lies w w1) {sB xB : Nat} {AI AT AS AF AX bp : Option Addr} {ci ct cs cf cx bcap : Nat} {ids : List Int} {wd at_ : Int} {T S F X B Y Z : List Nat} (hs : Blk w1 sB 25 #[.slice AI ids.length ci, .int .i64 wd, .slice AT T.length ct, .slice AS S.length cs, .slice AF F.length cf]) (hx : Blk w1 xB 27 #[.slice AX X.length cx, .int .i64 at_]) {b : Frame} (hbf : b.fn = 8) (hbn : b.kind = .normal) {ps qs : List (Int × Int)} {a2 : Int} (HF0 : ∀ V, Lies w1 V → Calls Tryz.prog 12 #[.agg #[.slice AI ids.length ci, .int .i64 wd, .slice AT T.length ct, .slice AS S.length cs, .slice AF F.length cf]] V (qn5 V Z 0 0)) (HF1 : ∀ V, Lies w1 V → CallsG Tryz.prog 24 #[.agg #[.slice AI ids.length ci, .int .i64 wd, .slice AT T.length ct, .slice AS S.length cs, .slice AF F.length cf], .agg #[.slice AX X.length cx, .int .i64 at_], .slice bp B.length bcap] V (qc6 V Y (at_ + (B.length : Int)) ps 0)) (HF2 : ∀ V u, Lies w1 V → Rd V (fun _ => True) 1 u Z.length (qab Z) → CallsG Tryz.prog 24 #[.agg #[.slice AI ids.length ci, .int .i64 wd, .slice AT T.length ct, .slice AS S.length cs, .slice AF F.length cf], .agg #[u, .int .i64 0], .slice bp B.length bcap] V (qc6 V Y a2 qs 0)) (hY : Y.length ≤ 4096) (hat : 0 ≤ at_ ∧ at_ ≤ 1000000) (hB40 : B.length ≤ 40) {W1 : World} {pB : Nat} (hl1 : Lies w1 W1) (u9 u18 u19 u20 u21 u22 u23 u24 u25 u26 u27 u28 u29 u30 u31 u32 u33 u34 u35 u36 u37 u38 u39 u40 u41 u42 u43 u44 u45 u46 u47 u48 u49 u50 u51 u52 u53 u54 u55 u56 u57 u58 u59 u60 u61 u62 u63 u64 u65 : Value) :
  Go0 Tryz.prog (AtRet Tryz.prog (fun v w' => v = .bool true ∧ Lies w w')) (G (b.at ⟨#[.agg #[.slice AI ids.length ci, .int .i64 wd, .slice AT T.length ct, .slice AS S.length cs, .slice AF F.length cf], .agg #[.slice AX X.length cx, .int .i64 at_], .slice bp B.length bcap, .pointer (some ⟨sB, 0, none⟩), .pointer (some ⟨xB, 0, none⟩), undef, .bool false, .pointer (some ⟨pB, 0, none⟩), .int .i64 0, u9, undef, undef, undef, undef, undef, undef, undef, undef, u18, u19, u20, u21, u22, u23, u24, u25, u26, u27, u28, u29, u30, u31, u32, u33, u34, u35, u36, u37, u38, u39, u40, u41, u42, u43, u44, u45, u46, u47, u48, u49, u50, u51, u52, u53, u54, u55, u56, u57, u58, u59, u60, u61, u62, u63, u64, u65, undef, undef, undef, undef, undef, undef, undef, undef, undef, undef, undef, undef, undef, undef, undef, undef, undef, undef, undef, undef, undef, undef, undef, undef, undef, undef, undef, undef, undef, undef, undef, undef, undef, undef, undef, undef, undef, undef, undef, undef, undef, undef, undef, undef, undef, undef, undef, undef, undef, undef], []⟩ [.code qib]) []) W1 := by
 have HS := hID hs
 have HX := hID hx
 have HL := hID hl1
 have HL0 := hID hl0
 have HTZ := hID hZ
 have HYL := hID hY
 have HAT := hID hat
 have HB40 := hID hB40
 have K0 := hID HF0
 have K1 := hID HF1
 have K2 := hID HF2
 clear hs hx hl1 hl0 hZ hY hat hB40 HF0 HF1 HF2
 obtain ⟨ny, hny⟩ : ∃ ny, Y.length = ny := ⟨_, rfl⟩
 obtain ⟨nz, hnz⟩ : ∃ nz, Z.length = nz := ⟨_, rfl⟩
 obtain ⟨np, hnp⟩ : ∃ np, ps.length = np := ⟨_, rfl⟩
 obtain ⟨nq, hnq⟩ : ∃ nq, qs.length = nq := ⟨_, rfl⟩
 have HN := hID (And.intro (And.intro hny hnz) (And.intro hnp hnq))
 clear hny hnz hnp hnq
 simp only [qib, qfe, qen, Tryz.f8, Option.getD_some]
 -- Start
 refine Go0.seq mild (Go0.wpQ mild fun Q hQ V2 hV => ?_)
 have l := Lies.same hV
 have HL2 := hID (HL.out.trans l)
 have HQ := hID hQ
 have c0 := ((HL.out.trans l).blk HS.out).cell 0
 have c1 := ((HL.out.trans l).blk HS.out).cell 1
 have c2 := ((HL.out.trans l).blk HS.out).cell 2
 have c3 := ((HL.out.trans l).blk HS.out).cell 3
 have c4 := ((HL.out.trans l).blk HS.out).cell 4
 clear hQ hV l HL W1
 go_wp2_with fail
 refine (K0.out _ HL2.out).mono ?_
 rintro e u5 ⟨u, rfl, hu, l5⟩
 obtain ⟨Az, kz, rfl, -⟩ := hu.form
 rw [HN.out.1.2]
 rw [HN.out.1.2] at hu
 have la := (Lies.refl u5).alloc (.cells #[.slice Az nz kz, .int .i64 0] 27)
 have HL := hID ((HL2.out.trans l5).trans la)
 have HZR := hID (la.rd hu.any)
 have HZB := hID (Blk.new u5 27 #[.slice Az nz kz, .int .i64 0])
 clear hu l5 la c0 c1 c2 c3 c4 HL2
 go_wp2_with fail
 refine HQ.out _ _ _ ?_
 clear HQ
 show Go0 _ _ _ _
 revert HL HZR HZB
 generalize u5.heap.size = fB
 generalize u5.alloc _ = W1
 intro HL HZR HZB
 -- Feed
 refine Go0.seq mild (Go0.region_call mild [_, _, _] _ _ rfl fun Q hQ V2 hV => ?_)
 have l := Lies.same hV
 have HL4 := hID (HL.out.trans l)
 have c0 := ((HL.out.trans l).blk HS.out).cell 0
 have c1 := ((HL.out.trans l).blk HS.out).cell 1
 have c2 := ((HL.out.trans l).blk HS.out).cell 2
 have c3 := ((HL.out.trans l).blk HS.out).cell 3
 have c4 := ((HL.out.trans l).blk HS.out).cell 4
 have x0 := ((HL.out.trans l).blk HX.out).cell 0
 have x1 := ((HL.out.trans l).blk HX.out).cell 1
 have HZR4 := hID (l.rd HZR.out)
 have HZB4 := hID (l.blk HZB.out)
 have HQ := hID hQ
 clear hQ hV l HL HZR HZB W1
 go_wp2_with fail
 refine HQ.out _ _ ⟨by rfl, _, _, _, fun V => ?_, K1.out _ HL4.out, ?_⟩
 ·simp [go_sem]
 clear HQ
 rintro v w5 ⟨u, out, rfl, hu, hout, l5⟩ Q hQ V5 hV
 obtain ⟨Ayy, kyy, rfl, _⟩ := hu.form
 obtain ⟨Ao, co, rfl, _⟩ := hout.form
 have l := l5.trans (Lies.same hV)
 have HL5 := hID (HL4.out.trans l)
 have HZR5 := hID (l.rd HZR4.out)
 have HZB5 := hID (l.blk HZB4.out)
 have HU5 := hID ((Lies.same hV).rd hu.any)
 have HQ := hID hQ
 clear hu hout l5 hV hQ l c0 c1 c2 c3 c4 x0 x1 HL4 HZR4 HZB4
 rw [HN.out.2.1, HN.out.1.1]
 rw [HN.out.1.1] at HU5
 go_wp2_with fail
 refine HQ.out _ _ ?_
 clear HQ
 have la := (Lies.refl V5).alloc (.cells #[.slice Ayy ny kyy, .int .i64 (at_ + (B.length : Int))] 27)
 have HL := hID (HL5.out.trans la)
 have HZR := hID (la.rd HZR5.out)
 have HZB := hID (la.blk HZB5.out)
 have HYR := hID (la.rd HU5.out)
 have HYB := hID (Blk.new V5 27 #[.slice Ayy ny kyy, .int .i64 (at_ + (B.length : Int))])
 clear la HL5 HU5 HZR5 HZB5
 revert HL HZR HZB HYR HYB
 generalize V5.heap.size = yB
 generalize V5.alloc _ = W1
 intro HL HZR HZB HYR HYB
 -- Feed
 refine Go0.seq mild (Go0.region_call mild [_, _, _] _ _ rfl fun Q hQ V2 hV => ?_)
 have l := Lies.same hV
 have HL4 := hID (HL.out.trans l)
 have c0 := ((HL.out.trans l).blk HS.out).cell 0
 have c1 := ((HL.out.trans l).blk HS.out).cell 1
 have c2 := ((HL.out.trans l).blk HS.out).cell 2
 have c3 := ((HL.out.trans l).blk HS.out).cell 3
 have c4 := ((HL.out.trans l).blk HS.out).cell 4
 have x0 := (l.blk HZB.out).cell 0
 have x1 := (l.blk HZB.out).cell 1
 have HKK := hID (K2.out V2 (.slice Az nz kz) (HL.out.trans l) (by rw [HN.out.1.2]; exact l.rd HZR.out))
 have HYR4 := hID (l.rd HYR.out)
 have HYB4 := hID (l.blk HYB.out)
 have HQ := hID hQ
 clear hQ hV l HL HZR HZB W1 HYR HYB
 go_wp2_with fail
 refine HQ.out _ _ ⟨by rfl, _, _, _, fun V => ?_, HKK.out, ?_⟩
 ·simp [go_sem]
 clear HQ
 rintro v w5 ⟨u, out, rfl, hu, hout, l5⟩ Q hQ V5 hV
 obtain ⟨Azz, kzz, rfl, _⟩ := hu.form
 obtain ⟨Ao, co, rfl, _⟩ := hout.form
 have l := l5.trans (Lies.same hV)
 have HL5 := hID (HL4.out.trans l)
 have HYR5 := hID (l.rd HYR4.out)
 have HYB5 := hID (l.blk HYB4.out)
 have HU5 := hID ((Lies.same hV).rd hu.any)
 have HQ := hID hQ
 clear hu hout l5 hV hQ l c0 c1 c2 c3 c4 x0 x1 HL4 HYR4 HYB4 HKK
 rw [HN.out.2.2, HN.out.1.1]
 rw [HN.out.1.1] at HU5
 go_wp2_with fail
 refine HQ.out _ _ ?_
 clear HQ
 have la := (Lies.refl V5).alloc (.cells #[.slice Azz ny kzz, .int .i64 a2] 27)
 have HL := hID (HL5.out.trans la)
 have HYR := hID (la.rd HYR5.out)
 have HYB := hID (la.blk HYB5.out)
 have HUR := hID (la.rd HU5.out)
 have HUB := hID (Blk.new V5 27 #[.slice Azz ny kzz, .int .i64 a2])
 clear la HL5 HU5 HYR5 HYB5
 revert HL HYR HYB HUR HUB
 generalize V5.heap.size = zB
 generalize V5.alloc _ = W1
 intro HL HYR HYB HUR HUB
 -- they are the same; the examples
 refine Go0.seq mild (Go0.region_call mild [_, _, _, _, _, _, _, _, _, _, _, _, _, _, _, _, _, _, _, _, _, _, _, _, _, _, _, _] _ _ rfl fun Q hQ V2 hV => ?_)
 have l := Lies.same hV
 have HL4 := hID (HL.out.trans l)
 have HSA := hID (qia Y HYL.out V2 _ _ (by rw [HN.out.1.1]; exact l.rd HYR.out) (by rw [HN.out.1.1]; exact l.rd HUR.out))
 have y0 := (l.blk HYB.out).cell 0
 have y1 := (l.blk HYB.out).cell 1
 have z0 := (l.blk HUB.out).cell 0
 have z1 := (l.blk HUB.out).cell 1
 have x0 := ((HL.out.trans l).blk HX.out).cell 0
 have x1 := ((HL.out.trans l).blk HX.out).cell 1
 have HQ := hID hQ
 have wr : IntKind.i64.wrap (at_ + (B.length : Int)) = at_ + (B.length : Int) := by rw [IntKind.wrap_i64]; have := HAT.out; have := HB40.out; omega
 have de : ((at_ + (B.length : Int)) == (at_ + (B.length : Int))) = true := by simp
 clear hQ hV l HL HYR HYB HUR HUB W1
 go_wp2_with fail
 refine HSA.out.mono ?_
 rintro e w5 ⟨rfl, o1⟩
 have HL10 := hID (HL4.out.trans (Lies.of' o1))
 clear o1 y0 y1 z0 z1 x0 x1 HSA HL4 de wr
 go_wp2_with fail
 refine HQ.out _ _ ⟨by rfl, _, _, _, fun V => ?_, qlg _ (HL10.out.tz HTZ.out), ?_⟩
 ·simp [go_sem]
 clear HQ
 rintro v w7 ⟨rfl, l5⟩ Q hQ V5 hV
 have HL11 := hID ((HL10.out.trans l5).trans (Lies.same hV))
 have HQ := hID hQ
 clear hQ hV l5
 go_wp2_with fail
 refine HQ.out _ _ ?_
 refine Go0.ret mild ?_
 exact qlh hbn rfl (by rw [hbf]; exact Tryz.func8) (by rw [hbf]; kernel_rfl) rfl rfl (HL0.out.trans HL11.out)
theorem qof {w w1 : World} (hZ : TzT w1) (hl0 : Lies w w1) {sB xB : Nat} {AI AT AS AF AX bp : Option Addr} {ci ct cs cf cx bcap : Nat} {ids : List Int} {wd at_ : Int} {T S F X B Y Z : List Nat} (hs : Blk w1 sB 25 #[.slice AI ids.length ci, .int .i64 wd, .slice AT T.length ct, .slice AS S.length cs, .slice AF F.length cf]) (hx : Blk w1 xB 27 #[.slice AX X.length cx, .int .i64 at_]) {b : Frame} (hbf : b.fn = 8) (hbn : b.kind = .normal) {ps qs : List (Int × Int)} {a2 : Int}  (l : List Ln) (hln : l.length ≤ 256) {AP : Option Addr} {cp pB n : Nat} (hn : l.length = n) (HP : ∀ V, Lies w1 V → Blk V pB 62 #[.int .i64 wd, .slice AP n cp]) (HC : ∀ V, Lies w1 V → Rd V (fun _ => True) 3 (.slice AP n cp) n (lnV l))
  (hgo : (∀ x ∈ l, x.2.2 ≤ B.length) → ∀ V, Lies w1 V → ∀ (u9 u18 u19 u20 u21 u22 u23 u24 u25 u26 u27 u28 u29 u30 u31 u32 u33 u34 u35 u36 u37 u38 u39 u40 u41 u42 u43 u44 u45 u46 u47 u48 u49 u50 u51 u52 u53 u54 u55 u56 u57 u58 u59 u60 u61 u62 u63 u64 u65 : Value), Go0 Tryz.prog (AtRet Tryz.prog (fun v w' => v = .bool true ∧ Lies w w')) (G (b.at ⟨#[.agg #[.slice AI ids.length ci, .int .i64 wd, .slice AT T.length ct, .slice AS S.length cs, .slice AF F.length cf], .agg #[.slice AX X.length cx, .int .i64 at_], .slice bp B.length bcap, .pointer (some ⟨sB, 0, none⟩), .pointer (some ⟨xB, 0, none⟩), undef, .bool false, .pointer (some ⟨pB, 0, none⟩), .int .i64 0, u9, undef, undef, undef, undef, undef, undef, undef, undef, u18, u19, u20, u21, u22, u23, u24, u25, u26, u27, u28, u29, u30, u31, u32, u33, u34, u35, u36, u37, u38, u39, u40, u41, u42, u43, u44, u45, u46, u47, u48, u49, u50, u51, u52, u53, u54, u55, u56, u57, u58, u59, u60, u61, u62, u63, u64, u65, undef, undef, undef, undef, undef, undef, undef, undef, undef, undef, undef, undef, undef, undef, undef, undef, undef, undef, undef, undef, undef, undef, undef, undef, undef, undef, undef, undef, undef, undef, undef, undef, undef, undef, undef, undef, undef, undef, undef, undef, undef, undef, undef, undef, undef, undef, undef, undef, undef, undef], []⟩ [.code qib]) []) V) :
  ∀ (d i : Nat), i + d = n → (∀ k, k < i → (l.getD k (0, 0, 0)).2.2 ≤ B.length) → ∀ (V : World) (u18 u19 u20 u21 u22 u23 u24 u25 u26 u27 u28 u29 u30 u31 u32 u33 u34 u35 u36 u37 u38 u39 u40 u41 u42 u43 u44 u45 u46 u47 u48 u49 u50 u51 u52 u53 u54 u55 u56 u57 u58 u59 u60 u61 u62 u63 u64 u65 : Value), Lies w1 V → Go0 Tryz.prog (AtRet Tryz.prog (fun v w' => v = .bool true ∧ Lies w w')) (G (b.at ⟨#[.agg #[.slice AI ids.length ci, .int .i64 wd, .slice AT T.length ct, .slice AS S.length cs, .slice AF F.length cf], .agg #[.slice AX X.length cx, .int .i64 at_], .slice bp B.length bcap, .pointer (some ⟨sB, 0, none⟩), .pointer (some ⟨xB, 0, none⟩), undef, .bool false, .pointer (some ⟨pB, 0, none⟩), .int .i64 0, .int .i64 (i : Int), undef, undef, undef, undef, undef, undef, undef, undef, u18, u19, u20, u21, u22, u23, u24, u25, u26, u27, u28, u29, u30, u31, u32, u33, u34, u35, u36, u37, u38, u39, u40, u41, u42, u43, u44, u45, u46, u47, u48, u49, u50, u51, u52, u53, u54, u55, u56, u57, u58, u59, u60, u61, u62, u63, u64, u65, undef, undef, undef, undef, undef, undef, undef, undef, undef, undef, undef, undef, undef, undef, undef, undef, undef, undef, undef, undef, undef, undef, undef, undef, undef, undef, undef, undef, undef, undef, undef, undef, undef, undef, undef, undef, undef, undef, undef, undef, undef, undef, undef, undef, undef, undef, undef, undef, undef, undef], []⟩ [.code qko, .inLoop qko, .inBlock 0, .code qib]) []) V := by
 subst hn
 intro d
 induction d with
 | zero =>
  intro i hi hall V u18 u19 u20 u21 u22 u23 u24 u25 u26 u27 u28 u29 u30 u31 u32 u33 u34 u35 u36 u37 u38 u39 u40 u41 u42 u43 u44 u45 u46 u47 u48 u49 u50 u51 u52 u53 u54 u55 u56 u57 u58 u59 u60 u61 u62 u63 u64 u65 hl
  have HALL : Hid (∀ x ∈ l, x.2.2 ≤ B.length) := hID (fun x hx => by
   obtain ⟨k, hk, rfl⟩ := List.mem_iff_getElem.1 hx
   have := hall k (by omega)
   rwa [List.getD_eq_getElem?_getD, List.getElem?_eq_getElem hk] at this)
  have HGO := hID hgo
  have HL := hID hl
  have HPB := hID (HP V hl)
  obtain ⟨n, hn⟩ : ∃ n, l.length = n := ⟨_, rfl⟩
  rw [hn] at HPB
  obtain rfl : i = n := by omega
  clear hgo hall hi hl HP HC hs hx hl0 hZ hn
  simp only [qko, qfe, qen, Tryz.f8, Option.getD_some]
  refine Go0.seq mild (Go0.seq mild (Go0.wpQ mild fun Q hQ V2 hV => ?_))
  have HQ := hID hQ
  have p1 := ((Lies.same hV).blk HPB.out).cell 1
  have HL2 := hID (HL.out.trans (Lies.same hV))
  have d1 : decide ((i : Int) < (i : Int)) = false := by simp
  have d1n : decide (i < i) = false := by simp
  clear hQ hV HPB HL V
  go_wp2_with fail
  refine HQ.out _ _ _ ?_
  clear HQ
  show Go0 _ _ _ _
  refine Go0.cond mild (t := false) rfl (Go0.exit mild rfl ?_)
  exact HGO.out HALL.out _ HL2.out _ _ _ _ _ _ _ _ _ _ _ _ _ _ _ _ _ _ _ _ _ _ _ _ _ _ _ _ _ _ _ _ _ _ _ _ _ _ _ _ _ _ _ _ _ _ _ _ _
 | succ d ih =>
  intro i hi hall V u18 u19 u20 u21 u22 u23 u24 u25 u26 u27 u28 u29 u30 u31 u32 u33 u34 u35 u36 u37 u38 u39 u40 u41 u42 u43 u44 u45 u46 u47 u48 u49 u50 u51 u52 u53 u54 u55 u56 u57 u58 u59 u60 u61 u62 u63 u64 u65 hl
  have hil : i < l.length := by omega
  have HGO := hID (ih (i + 1) (by omega))
  have HALL := hID hall
  have HIL := hID hil
  have HILL := hID hil
  have HLN := hID hln
  have HL := hID hl
  have HPB := hID HP
  have HCC := hID HC
  have HTZ := hID hZ
  have HL0 := hID hl0
  obtain ⟨n, hn⟩ : ∃ n, l.length = n := ⟨_, rfl⟩
  rw [hn] at HPB HCC HIL HLN
  clear hgo hall hi hl HP HC hs hx hl0 hZ hn hil ih hln
  simp only [qko, qfe, qen, Tryz.f8, Option.getD_some]
  refine Go0.seq mild (Go0.seq mild (Go0.wpQ mild fun Q hQ V2 hV => ?_))
  have HQ := hID hQ
  have HL2 := hID (HL.out.trans (Lies.same hV))
  have p1 := (HPB.out V2 (HL.out.trans (Lies.same hV))).cell 1
  have d1 : decide ((i : Int) < (n : Int)) = true := decide_eq_true (by have := HIL.out; omega)
  have d1n : decide (i < n) = true := decide_eq_true HIL.out
  clear hQ hV HL V
  go_wp2_with fail
  refine HQ.out _ _ _ ?_
  clear HQ
  show Go0 _ _ _ _
  clear p1
  refine Go0.cond mild (t := true) rfl (Go0.skip mild ?_)
  refine Go0.seq mild (Go0.block mild (Go0.seq mild (Go0.wpQ mild fun Q hQ V hV => ?_)))
  have HQ := hID hQ
  have HL := hID (HL2.out.trans (Lies.same hV))
  have p1 := (HPB.out V (HL2.out.trans (Lies.same hV))).cell 1
  obtain ⟨A0, c0, he, _, hca⟩ := qea (HCC.out V (HL2.out.trans (Lies.same hV))) (by decide)
  cases he
  obtain ⟨bl, ol, rfl, c1⟩ := hca V oRf (by have := HIL.out; omega)
  have q3 := c1 _ _ (qc5 (l := l) (k := i) (HILL.out)).2.2
  rw [← Nat.add_assoc] at q3
  have hi1 : i < n := HIL.out
  obtain ⟨x, hx⟩ : ∃ x, (l.getD i (0, 0, 0)).2.2 = x := ⟨_, rfl⟩
  rw [hx] at q3
  have HXV := hID hx
  clear hQ hV HL2 V2 d1 d1n c1 hca hx
  by_cases hb : B.length < x
  ·have d2 : decide ((B.length : Int) < (x : Int)) = true := dcT
   have d2n : decide (B.length < x) = true := decide_eq_true hb
   go_wp2_with fail
   refine HQ.out _ _ _ ?_
   show Go0 _ _ _ _
   refine Go0.cond mild (t := true) rfl ?_
   exact qbp (HL.out.tz HTZ.out) (HL0.out.trans HL.out) hbn rfl (by rw [hbf]; exact Tryz.func8) (by rw [hbf]; kernel_rfl) rfl rfl rfl rfl rfl rfl rfl (by simp) (by simp)
  ·have d2 : decide ((B.length : Int) < (x : Int)) = false := dcF
   have d2n : decide (B.length < x) = false := decide_eq_false hb
   have HBX : Hid (x ≤ B.length) := hID (by omega)
   clear hb
   go_wp2_with fail
   refine HQ.out _ _ _ ?_
   clear HQ
   show Go0 _ _ _ _
   refine Go0.cond mild (t := false) rfl (Go0.skip mild (Go0.inBlock mild ?_))
   refine Go0.wpQ mild fun Q hQ V3 hV => ?_
   have HQ := hID hQ
   have HL3 := hID (HL.out.trans (Lies.same hV))
   have hi256 : i < 256 := by have := HIL.out; have := HLN.out; omega
   clear hQ hV HL p1 q3 d2 d2n hi1 V
   go_wp2_with fail
   refine HQ.out _ _ _ ?_
   clear HQ
   show Go0 _ _ _ _
   refine Go0.again mild ?_
   exact HGO.out (fun k hk => by
    rcases Nat.lt_or_ge k i with h | h
    ·exact HALL.out k h
    ·have e : k = i := by omega
     rw [e, HXV.out]; exact HBX.out) _ _ _ _ _ _ _ _ _ _ _ _ _ _ _ _ _ _ _ _ _ _ _ _ _ _ _ _ _ _ _ _ _ _ _ _ _ _ _ _ _ _ _ _ _ _ _ _ _ HL3.out
theorem qog {w : World} (hZ : TzT w) {VI VT VS VF : Value} {ids : List Int} {wd : Int} {T S F : List Nat} (ho : OSet w VI VT VS VF ids wd T S F) {XV : Value} {X : List Nat} {at_ : Int} (hx : OState w XV X at_) {BV : Value} {B : List Nat} (hb : Rd w (Old w) 1 BV B.length (qa0 B)) (hb8 : ∀ z ∈ B, z < 256) (hlim : ids.length ≤ 20 ∧ T.length ≤ 1100 ∧ S.length ≤ 10 ∧ F.length ≤ 100) (hX10 : X.length ≤ 10) (hB40 : B.length ≤ 40) (h0 : shErr ids wd T S F X at_ = 0) (hat : at_ ≤ 1000000) {w1 : World} {b : Frame} (hbf : b.fn = 8) (hbn : b.kind = .normal) {sB xB : Nat} (hl : Lies w w1) (hs : Blk w1 sB 25 #[VI, .int .i64 wd, VT, VS, VF]) (hxb : Blk w1 xB 27 #[XV, .int .i64 at_]) (u18 u19 u20 u21 u22 u23 u24 u25 u26 u27 u28 u29 u30 u31 u32 u33 u34 u35 u36 u37 u38 u39 u40 u41 : Value) :
  Go0 Tryz.prog (AtRet Tryz.prog (fun v w' => v = .bool true ∧ Lies w w')) (G (b.at ⟨#[.agg #[VI, .int .i64 wd, VT, VS, VF], .agg #[XV, .int .i64 at_], BV, .pointer (some ⟨sB, 0, none⟩), .pointer (some ⟨xB, 0, none⟩), undef, .bool false, undef, undef, undef, undef, undef, undef, undef, undef, undef, undef, undef, u18, u19, u20, u21, u22, u23, u24, u25, u26, u27, u28, u29, u30, u31, u32, u33, u34, u35, u36, u37, u38, u39, u40, u41, undef, undef, undef, undef, undef, undef, undef, undef, undef, undef, undef, undef, undef, undef, undef, undef, undef, undef, undef, undef, undef, undef, undef, undef, undef, undef, undef, undef, undef, undef, undef, undef, undef, undef, undef, undef, undef, undef, undef, undef, undef, undef, undef, undef, undef, undef, undef, undef, undef, undef, undef, undef, undef, undef, undef, undef, undef, undef, undef, undef, undef, undef, undef, undef, undef, undef, undef, undef, undef, undef, undef, undef, undef, undef], []⟩ [.code qfe]) []) w1 := by
 obtain ⟨AI, ci, rfl, _⟩ := ho.i.form
 obtain ⟨AT, ct, rfl, _⟩ := ho.t.form
 obtain ⟨AS, cs, rfl, _⟩ := ho.s.form
 obtain ⟨AF, cf, rfl, _⟩ := ho.f.form
 obtain ⟨AX, cx, rfl, _⟩ := hx.r.form
 obtain ⟨bp, bcap, rfl, _⟩ := hb.form
 have hset : ∀ V, Lies w V → SetV V (.slice AI ids.length ci) (.slice AT T.length ct) (.slice AS S.length cs) (.slice AF F.length cf) ids wd T S F := fun V l => l.set (ho.setV oRf (by omega) (by omega) (by omega) (by omega))
 have hsv := hset w (Lies.refl w)
 obtain ⟨e0, hXW, hspots, hat0, _⟩ := qdv h0
 obtain ⟨W, rfl, hW1, hW4, hSl, hFl, hTl, l, hl0, hp, _⟩ := qdr e0
 obtain rfl : X.length = W := by omega
 obtain ⟨g0, g1, g2⟩ := qf6 e0
 rw [Int.toNat_natCast] at g1 g2
 have hZ64 : ∀ x ∈ qah ids (X.length : Int) T S F, x < 18446744073709551616 := by rw [g2]; intro x hx; rw [List.eq_of_mem_replicate hx]; decide
 have r1 : fdErr ids X.length T S F X at_ B.length = 0 := by unfold fdErr; rw [h0, if_neg (by simp), if_neg (by omega), if_neg (by omega)]
 have r2 : fdErr ids X.length T S F (qah ids (X.length : Int) T S F) 0 B.length = 0 := by unfold fdErr; rw [g0, if_neg (by simp), if_neg (by omega), if_neg (by omega)]
 have a1 : atV B at_ = at_ + (B.length : Int) := qoa B at_ hat0 (by omega)
 have HF0 : ∀ V, Lies w1 V → _ := fun V k => qdq ids X.length T S F V _ _ _ _ (hset V (hl.trans k)) ((hl.trans k).tz hZ)
 have HF1 : ∀ V, Lies w1 V → _ := fun V k => qcu ids X.length T S F X B at_ V _ _ _ _ _ _ hx.x64 (hset V (hl.trans k)) ((hl.trans k).tz hZ) ((hl.trans k).rd hx.r.any) hb8 ((hl.trans k).rd hb.any)
 have HF2 : ∀ V u, Lies w1 V → Rd V (fun _ => True) 1 u (qah ids (X.length : Int) T S F).length (qab (qah ids (X.length : Int) T S F)) → _ := fun V u k hu => qcu ids X.length T S F (qah ids (X.length : Int) T S F) B 0 V _ _ _ _ u _ hZ64 (hset V (hl.trans k)) ((hl.trans k).tz hZ) hu hb8 ((hl.trans k).rd hb.any)
 rw [e0] at HF0
 unfold fdRow fdAt qdh at HF1 HF2
 rw [r1] at HF1
 simp only [if_true] at HF1
 rw [a1] at HF1
 rw [r2] at HF2
 simp only [if_true] at HF2
 rw [g1] at HF2
 have HG : (∀ x ∈ l, x.2.2 ≤ B.length) → ∀ (W1 : World) (pB : Nat), Lies w1 W1 → ∀ (u9 u18 u19 u20 u21 u22 u23 u24 u25 u26 u27 u28 u29 u30 u31 u32 u33 u34 u35 u36 u37 u38 u39 u40 u41 u42 u43 u44 u45 u46 u47 u48 u49 u50 u51 u52 u53 u54 u55 u56 u57 u58 u59 u60 u61 u62 u63 u64 u65 : Value), Go0 Tryz.prog (AtRet Tryz.prog (fun v w' => v = .bool true ∧ Lies w w')) (G (b.at ⟨#[.agg #[.slice AI ids.length ci, .int .i64 (X.length : Int), .slice AT T.length ct, .slice AS S.length cs, .slice AF F.length cf], .agg #[.slice AX X.length cx, .int .i64 at_], .slice bp B.length bcap, .pointer (some ⟨sB, 0, none⟩), .pointer (some ⟨xB, 0, none⟩), undef, .bool false, .pointer (some ⟨pB, 0, none⟩), .int .i64 0, u9, undef, undef, undef, undef, undef, undef, undef, undef, u18, u19, u20, u21, u22, u23, u24, u25, u26, u27, u28, u29, u30, u31, u32, u33, u34, u35, u36, u37, u38, u39, u40, u41, u42, u43, u44, u45, u46, u47, u48, u49, u50, u51, u52, u53, u54, u55, u56, u57, u58, u59, u60, u61, u62, u63, u64, u65, undef, undef, undef, undef, undef, undef, undef, undef, undef, undef, undef, undef, undef, undef, undef, undef, undef, undef, undef, undef, undef, undef, undef, undef, undef, undef, undef, undef, undef, undef, undef, undef, undef, undef, undef, undef, undef, undef, undef, undef, undef, undef, undef, undef, undef, undef, undef, undef, undef, undef], []⟩ [.code qib]) []) W1 := fun hall W1 pB k => by
  have e := qli hp hSl hsv.t64 hb8 hx.x64 hZ64 rfl g1 hall
  rw [← e] at HF2
  exact qw0 (hl.tz hZ) hl hs hxb hbf hbn HF0 HF1 (fun V u k hu => HF2 V u k (by rwa [g1] at hu)) (by rw [qbf _ _ _ _ _ rfl]; omega) ⟨hat0, hat⟩ hB40 k
 have HGG := hID HG
 have HHS := hID hs
 have HHX := hID hxb
 have HHL := hID hl
 have HZ := hID hZ
 have HPL := hID (fun (V : World) (k : Lies w1 V) => qkg ids X.length T S F V _ _ _ _ (hset V (hl.trans k)))
 have HE := hID e0
 have HLL := hID hl0
 have HPO := hID hp
 clear HG HF0 HF1 HF2 hset hsv hs hxb hl hZ ho hx hb hb8 hlim hX10 hB40 h0 hat e0 hspots hat0 hW1 hW4 hSl hFl hTl hl0 hp g0 g1 g2 hZ64 r1 r2 a1 hXW
 simp only [qfe, qen, Tryz.f8, Option.getD_some]
 refine Go0.seq mild (Go0.wpQ mild fun Q hQ V2 hV => ?_)
 have HQ := hID hQ
 have HL := hID (Lies.same hV)
 have c0 := ((Lies.same hV).blk HHS.out).cell 0
 have c1 := ((Lies.same hV).blk HHS.out).cell 1
 have c2 := ((Lies.same hV).blk HHS.out).cell 2
 have c3 := ((Lies.same hV).blk HHS.out).cell 3
 have c4 := ((Lies.same hV).blk HHS.out).cell 4
 clear hQ hV
 go_wp2_with fail
 refine (HPL.out V2 HL.out).mono ?_
 rintro e w5 ⟨x, A, k, c, rfl, hpl, o5⟩
 obtain ⟨rfl, l2, hl2, hrd⟩ := hpl HE.out
 rw [Int.toNat_natCast, HLL.out] at hl2
 obtain rfl := Option.some.inj hl2
 obtain ⟨A', c', he, hm, _⟩ := hrd.form
 obtain ⟨rfl, rfl, rfl⟩ : A = A' ∧ k = l.length ∧ c = c' := by injection he with e1 e2 e3; exact ⟨e1, e2, e3⟩
 clear he hm
 rw [HE.out]
 have la := (Lies.of' o5).alloc (.cells #[.int .i64 (X.length : Int), .slice A l.length c] 62)
 have lb := (Lies.refl w5).alloc (.cells #[.int .i64 (X.length : Int), .slice A l.length c] 62)
 have HL2 := hID (HL.out.trans la)
 have HP := hID (Blk.new w5 62 #[.int .i64 (X.length : Int), .slice A l.length c])
 have HC := hID (lb.rd hrd.any)
 clear la lb hrd o5 HL c0 c1 c2 c3 c4 hpl hl2
 go_wp2_with fail
 refine HQ.out _ _ _ ?_
 clear HQ
 show Go0 _ _ _ _
 revert HL2 HP HC
 generalize w5.heap.size = pB
 generalize w5.alloc _ = w6
 intro HL2 HP HC
 refine Go0.seq mild (Go0.seq mild (Go0.wpQ mild fun Q hQ V3 hV => ?_))
 have HQ := hID hQ
 have HL3 := hID (Lies.same hV)
 clear hQ hV
 go_wp2_with fail
 refine HQ.out _ _ _ ?_
 clear HQ
 show Go0 _ _ _ _
 refine Go0.block mild (Go0.loop mild ?_)
 have hlen : l.length ≤ 256 := (LnFacts.of HPO.out.ok).len
 exact qof (Y := []) (Z := []) (ps := []) (qs := []) (a2 := 0) (w := w) (w1 := V3) ((HHL.out.trans (HL2.out.trans HL3.out)).tz HZ.out) (HHL.out.trans (HL2.out.trans HL3.out)) ((HL2.out.trans HL3.out).blk HHS.out) ((HL2.out.trans HL3.out).blk HHX.out) hbf hbn (B := B) (bp := bp) (bcap := bcap) l hlen rfl
  (fun V k => (HL3.out.trans k).blk HP.out) (fun V k => (HL3.out.trans k).rd HC.out) (fun hall V k => HGG.out hall V pB ((HL2.out.trans HL3.out).trans k)) l.length 0 (by omega) (fun k hk => absurd hk (Nat.not_lt_zero _)) V3 _ _ _ _ _ _ _ _ _ _ _ _ _ _ _ _ _ _ _ _ _ _ _ _ _ _ _ _ _ _ _ _ _ _ _ _ _ _ _ _ _ _ _ _ _ _ _ _ (Lies.refl _)
theorem shiftandForgets_walk {w : World} (hZ : TzT w) {VI VT VS VF : Value} {ids : List Int} {wd : Int} {T S F : List Nat} (ho : OSet w VI VT VS VF ids wd T S F) {XV : Value} {X : List Nat} {at_ : Int} (hx : OState w XV X at_) {BV : Value} {B : List Nat} (hb : Rd w (Old w) 1 BV B.length (qa0 B)) (hb8 : ∀ z ∈ B, z < 256) : qe1 8 #[.agg #[VI, .int .i64 wd, VT, VS, VF], .agg #[XV, .int .i64 at_], BV] w := by
 obtain ⟨AI, ci, rfl, _⟩ := ho.i.form
 obtain ⟨AT, ct, rfl, _⟩ := ho.t.form
 obtain ⟨AS, cs, rfl, _⟩ := ho.s.form
 obtain ⟨AF, cf, rfl, _⟩ := ho.f.form
 obtain ⟨AX, cx, rfl, _⟩ := hx.r.form
 obtain ⟨bp, bcap, rfl, _⟩ := hb.form
 have HZ := hID hZ
 have HO := hID ho
 have HX := hID hx
 have HBY := hID hb
 have HB8 := hID hb8
 clear hZ ho hx hb hb8
 have hen : Frame.enter Tryz.prog 8 #[.agg #[.slice AI ids.length ci, .int .i64 wd, .slice AT T.length ct, .slice AS S.length cs, .slice AF F.length cf], .agg #[.slice AX X.length cx, .int .i64 at_], .slice bp B.length bcap] .normal = (base 8).at ⟨#[.agg #[.slice AI ids.length ci, .int .i64 wd, .slice AT T.length ct, .slice AS S.length cs, .slice AF F.length cf], .agg #[.slice AX X.length cx, .int .i64 at_], .slice bp B.length bcap, undef, undef, undef, undef, undef, undef, undef, undef, undef, undef, undef, undef, undef, undef, undef, undef, undef, undef, undef, undef, undef, undef, undef, undef, undef, undef, undef, undef, undef, undef, undef, undef, undef, undef, undef, undef, undef, undef, undef, undef, undef, undef, undef, undef, undef, undef, undef, undef, undef, undef, undef, undef, undef, undef, undef, undef, undef, undef, undef, undef, undef, undef, undef, undef, undef, undef, undef, undef, undef, undef, undef, undef, undef, undef, undef, undef, undef, undef, undef, undef, undef, undef, undef, undef, undef, undef, undef, undef, undef, undef, undef, undef, undef, undef, undef, undef, undef, undef, undef, undef, undef, undef, undef, undef, undef, undef, undef, undef, undef, undef, undef, undef, undef], []⟩ [.code qen] := by
  have h := enter_at (P := Tryz.prog) #[.agg #[.slice AI ids.length ci, .int .i64 wd, .slice AT T.length ct, .slice AS S.length cs, .slice AF F.length cf], .agg #[.slice AX X.length cx, .int .i64 at_], .slice bp B.length bcap] Tryz.func8 (c := qen) rfl
  simp only [Tryz.ntmps8, List.size_toArray, List.length_cons, List.length_nil, Nat.reduceAdd, Nat.reduceSub, Array.replicate_succ, Array.replicate_zero, List.push_toArray, List.append_toArray, List.nil_append, List.cons_append] at h
  exact h
 unfold qe1
 rw [hen]
 generalize hbb : base 8 = b
 have hbf : b.fn = 8 := by rw [← hbb]; rfl
 have hbn : b.kind = .normal := by rw [← hbb]; rfl
 clear hen hbb
 simp only [qen, Tryz.f8, Option.getD_some]
 -- the boxes
 refine Go0.seq mild (Go0.wpQ mild fun Q hQ V hV => ?_)
 have HQ := hID hQ
 have l0 := (Lies.refl V).alloc (.cells #[.slice AI ids.length ci, .int .i64 wd, .slice AT T.length ct, .slice AS S.length cs, .slice AF F.length cf] 25)
 have HL := hID (((Lies.same hV).trans l0).alloc (.cells #[.slice AX X.length cx, .int .i64 at_] 27))
 have HS := hID ((Blk.new V 25 #[.slice AI ids.length ci, .int .i64 wd, .slice AT T.length ct, .slice AS S.length cs, .slice AF F.length cf]).alloc (.cells #[.slice AX X.length cx, .int .i64 at_] 27))
 have HB := hID (Blk.new (V.alloc (.cells #[.slice AI ids.length ci, .int .i64 wd, .slice AT T.length ct, .slice AS S.length cs, .slice AF F.length cf] 25)) 27 #[.slice AX X.length cx, .int .i64 at_])
 clear hQ hV l0
 go_wp2_with fail
 refine HQ.out _ _ _ ?_
 clear HQ
 show Go0 _ _ _ _
 rw [show (V.alloc (.cells #[.slice AI ids.length ci, .int .i64 wd, .slice AT T.length ct, .slice AS S.length cs, .slice AF F.length cf] 25)).heap.size = V.heap.size + 1 by simp] at HB
 revert HL HS HB
 generalize hxB : V.heap.size + 1 = xB
 generalize V.heap.size = sB
 generalize World.alloc (World.alloc V _) _ = u0
 clear hxB
 intro HL HS HB
 -- what is left out
 refine Go0.seq mild (Go0.seq mild (Go0.wpQ mild fun Q hQ V hV => ?_))
 have HQ := hID hQ
 have l := Lies.same hV
 replace HL := hID (HL.out.trans l)
 replace HS := hID (l.blk HS.out)
 replace HB := hID (l.blk HB.out)
 clear hQ hV l u0
 have c0 := HS.out.cell 0
 have c1 := HS.out.cell 1
 have c2 := HS.out.cell 2
 have c3 := HS.out.cell 3
 have c4 := HS.out.cell 4
 go_wp2_with fail
 refine (qjl AI AT AS AF ids.length T.length S.length F.length ci ct cs cf wd V).mono ?_
 rintro e u1 ⟨⟨q, rfl, hq⟩, o1⟩
 have l := Lies.of' o1
 replace HL := hID (HL.out.trans l)
 replace HS := hID (l.blk HS.out)
 replace HB := hID (l.blk HB.out)
 have HQL := hID hq
 clear hq o1 l c0 c1 c2 c3 c4
 have x0 := HB.out.cell 0
 have x1 := HB.out.cell 1
 have c0 := HS.out.cell 0
 have c1 := HS.out.cell 1
 have c2 := HS.out.cell 2
 have c3 := HS.out.cell 3
 have c4 := HS.out.cell 4
 cases q
 case true =>
  go_wp2_with fail
  refine HQ.out _ _ _ ?_
  show Go0 _ _ _ _
  refine Go0.cond mild (t := true) rfl ?_
  exact qbp (HL.out.tz HZ.out) HL.out hbn rfl (by rw [hbf]; exact Tryz.func8) (by rw [hbf]; kernel_rfl) rfl rfl rfl rfl rfl rfl rfl (by simp) (by simp)
 case false =>
  have HLIM := hID (HQL.out rfl)
  by_cases h10 : 10 < X.length
  ·have d1 : decide ((10 : Int) < (X.length : Int)) = true := dcT
   have d1n : decide (10 < X.length) = true := decide_eq_true h10
   go_wp2_with fail
   refine HQ.out _ _ _ ?_
   show Go0 _ _ _ _
   refine Go0.cond mild (t := true) rfl ?_
   exact qbp (HL.out.tz HZ.out) HL.out hbn rfl (by rw [hbf]; exact Tryz.func8) (by rw [hbf]; kernel_rfl) rfl rfl rfl rfl rfl rfl rfl (by simp) (by simp)
  ·have d1 : decide ((10 : Int) < (X.length : Int)) = false := dcF
   have d1n : decide (10 < X.length) = false := decide_eq_false h10
   by_cases h40 : 40 < B.length
   ·have d2 : decide ((40 : Int) < (B.length : Int)) = true := dcT
    have d2n : decide (40 < B.length) = true := decide_eq_true h40
    go_wp2_with fail
    refine HQ.out _ _ _ ?_
    show Go0 _ _ _ _
    refine Go0.cond mild (t := true) rfl ?_
    exact qbp (HL.out.tz HZ.out) HL.out hbn rfl (by rw [hbf]; exact Tryz.func8) (by rw [hbf]; kernel_rfl) rfl rfl rfl rfl rfl rfl rfl (by simp) (by simp)
   ·have d2 : decide ((40 : Int) < (B.length : Int)) = false := dcF
    have d2n : decide (40 < B.length) = false := decide_eq_false h40
    have HCK := hID (qej ids wd T S F X HX.out.x64 at_ u1 _ _ _ _ _ (HL.out.set (HO.out.setV oRf (by have := HLIM.out; omega) (by have := HLIM.out; omega) (by have := HLIM.out; omega) (by have := HLIM.out; omega))) (HL.out.tz HZ.out) (HL.out.rd HX.out.r.any))
    have H1040 := hID (And.intro h10 h40)
    clear h10 h40
    go_wp2_with fail
    refine HCK.out.mono ?_
    rintro e u2 ⟨rfl, o1⟩
    have l := Lies.of' o1
    replace HL := hID (HL.out.trans l)
    replace HS := hID (l.blk HS.out)
    replace HB := hID (l.blk HB.out)
    clear HCK o1 l x0 x1 c0 c1 c2 c3 c4
    have x1 := HB.out.cell 1
    by_cases he : shErr ids wd T S F X at_ = 0
    ·rw [he]
     have HE := hID he
     clear he
     by_cases hat : 1000000 < at_
     ·have d3 : decide (1000000 < at_) = true := decide_eq_true hat
      clear hat
      go_wp2_with fail
      refine HQ.out _ _ _ ?_
      show Go0 _ _ _ _
      refine Go0.cond mild (t := true) rfl ?_
      exact qbp (HL.out.tz HZ.out) HL.out hbn rfl (by rw [hbf]; exact Tryz.func8) (by rw [hbf]; kernel_rfl) rfl rfl rfl rfl rfl rfl rfl (by simp) (by simp)
     ·have d3 : decide (1000000 < at_) = false := decide_eq_false hat
      have HAT := hID hat
      clear hat
      go_wp2_with fail
      have hat := HAT.out
      have h1040 := H1040.out
      refine HQ.out _ _ _ ?_
      show Go0 _ _ _ _
      refine Go0.cond mild (t := false) rfl (Go0.skip mild ?_)
      exact qog HZ.out HO.out HX.out HBY.out HB8.out HLIM.out (by omega) (by omega) HE.out (by omega) hbf hbn HL.out HS.out HB.out _ _ _ _ _ _ _ _ _ _ _ _ _ _ _ _ _ _ _ _ _ _ _ _
    ·have dd : (shErr ids wd T S F X at_ != 0) = true := by simpa using he
     clear he
     go_wp2_with fail
     refine HQ.out _ _ _ ?_
     show Go0 _ _ _ _
     refine Go0.cond mild (t := true) rfl ?_
     exact qbp (HL.out.tz HZ.out) HL.out hbn rfl (by rw [hbf]; exact Tryz.func8) (by rw [hbf]; kernel_rfl) rfl rfl rfl rfl rfl rfl rfl (by simp) (by simp)
end Go.Proofs.YtlgjaefcfnndhaaGreatDoor
