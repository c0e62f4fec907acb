/-
 ShiftandFeeds: Feed and Run against the specification's.
-/
import Derived.Test.YtlgjaefcfnndhaaGreatDoorL50
import Derived.Test.YtlgjaefcfnndhaaGreatDoorL52
set_option linter.unusedVariables false
set_option linter.unusedSimpArgs false
set_option maxHeartbeats 16000000
set_option maxRecDepth 100000
namespace Go.Proofs.YtlgjaefcfnndhaaGreatDoor
open Go.RowKit Go.Conc Go.Pip Go.Ride
noncomputable def qh3 : Code := Tryz.f4.body.getD .skip
noncomputable def qul : Code := match qh3 with | .seq _ (.seq _ r) => r | _ => .skip
theorem qkh (ids : List Int) (wd : Int) (T S F X B : List Nat) (at_ : Int) (hi : ids.length ≤ 20) : (qbx ids wd T S F X B at_).length ≤ 1000000 := by
 unfold qbx
 split
 ·next h =>
  have hB : B.length ≤ 4096 := by
   unfold fdErr at h
   split at h
   ·contradiction
   ·split at h
    ·simp at h
    ·omega
  have h1 := qeo T S F X.length ids.length B X at_
  have h2 : B.length * ids.length ≤ 4096 * 20 := Nat.mul_le_mul hB hi
  omega
 ·simp
theorem qse (ids : List Int) (wd : Int) (T S F B : List Nat) (hi : ids.length ≤ 20) : (qb8 ids wd T S F B).length ≤ 1000000 := by
 unfold qb8
 split
 ·simp
 ·exact qkh _ _ _ _ _ _ _ _ hi
theorem qum (ids : List Int) (wd : Int) (T S F X B : List Nat) (at_ : Int) : (fdRow ids wd T S F X B at_).length ≤ X.length := by
 unfold fdRow
 split
 ·rw [qcf _ _ _ _ _ rfl]; exact Nat.le_refl _
 ·simp
theorem qki {w : World} (hZ : TzT w) {VI VT VS VF : Value} {ids : List Int} {wd : Int} {T S F : List Nat} (ho : OSet w VI VT VS VF ids wd T S F) {XV : Value} {X : List Nat} {at_ : Int} (hx : OState w XV X at_) {BV : Value} {B : List Nat} (hb : Rd w (Old w) 1 BV B.length (qbw B)) (hb8 : ∀ z ∈ B, z < 256) (hlim : ids.length ≤ 20 ∧ T.length ≤ 1100 ∧ S.length ≤ 10 ∧ F.length ≤ 100) (hX10 : X.length ≤ 10) {V : World} {b : Frame} (hbf : b.fn = 4) (hbn : b.kind = .normal) {sB xB : Nat} (hl : Lies w V) (hs : Blk V sB 25 #[VI, .int .i64 wd, VT, VS, VF]) (hxb : Blk V xB 27 #[XV, .int .i64 at_]) (u13 u14 u15 u16 u17 u18 u19 u20 u21 u22 u23 u24 u25 u26 u27 u28 u29 u30 u31 u32 u33 u34 u35 : Value) :
  Go0 Tryz.prog (AtRet Tryz.prog (fun v w' => v = .bool true ∧ Lies w w')) (G (b.at ⟨#[.agg #[VI, .int .i64 wd, VT, VS, VF], .agg #[XV, .int .i64 at_], BV, .pointer (some ⟨sB, 0, none⟩), .pointer (some ⟨xB, 0, none⟩), undef, .bool false, undef, undef, undef, undef, undef, undef, u13, u14, u15, u16, u17, u18, u19, u20, u21, u22, u23, u24, u25, u26, u27, u28, u29, u30, u31, u32, u33, u34, u35, undef, undef, undef, undef, undef, undef, undef, undef, undef, undef, undef, undef, undef, undef, undef, undef, undef, undef, undef, undef, undef, undef, undef, undef, undef, undef, undef, undef, undef, undef, undef, undef, undef, undef, undef, undef, undef, undef, undef, undef, undef, undef, undef, undef, undef, undef, undef, undef, undef, undef, undef, undef, undef, undef, undef], []⟩ [.code qul]) []) V := by
 obtain ⟨AI, ci, rfl, _⟩ := ho.i.form
 obtain ⟨AT, ct, rfl, _⟩ := ho.t.form
 obtain ⟨AS, cs, rfl, _⟩ := ho.s.form
 obtain ⟨AF, cf, rfl, _⟩ := ho.f.form
 obtain ⟨AX, cx, rfl, _⟩ := hx.r.form
 obtain ⟨bp, bcap, rfl, _⟩ := hb.form
 have HSET : Hid (∀ V, Lies w V → SetV V (.slice AI ids.length ci) (.slice AT T.length ct) (.slice AS S.length cs) (.slice AF F.length cf) ids wd T S F) := hID (fun V l => l.set (ho.setV oRf (by omega) (by omega) (by omega) (by omega)))
 have HX : Hid (∀ V, Lies w V → Rd V (fun _ => True) 1 (.slice AX X.length cx) X.length (qab X)) := hID (fun V l => l.rd hx.r.any)
 have HBY : Hid (∀ V, Lies w V → Rd V (fun _ => True) 1 (.slice bp B.length bcap) B.length (qbw B)) := hID (fun V l => l.rd hb.any)
 have HX64 := hID hx.x64
 have HB8 := hID hb8
 have HZ := hID hZ
 have HLIM := hID (And.intro hlim hX10)
 have HPL := hID (qkh ids wd T S F X B at_ hlim.1)
 have HPR := hID (qse ids wd T S F B hlim.1)
 have HRL : Hid ((fdRow ids wd T S F X B at_).length ≤ 4096) := hID (Nat.le_trans (qum _ _ _ _ _ _ _ _) (by omega))
 have HL := hID hl
 have HS := hID hs
 have HB := hID hxb
 have HFE := hID (fun (V : World) (l : Lies w V) => qkc ids wd T S F X B at_ V _ _ _ _ _ _ HX64.out (HSET.out V l) (l.tz hZ) (HX.out V l) hb8 (HBY.out V l))
 have HRF := hID (fun (V : World) (l : Lies w V) => qkg ids wd T S F X B at_ V _ _ _ _ _ _ HX64.out (HSET.out V l) (HX.out V l) hb8 (HBY.out V l))
 have HGR := hID (fun (V : World) (l : Lies w V) => g_run ids wd T S F B V _ _ _ _ _ (HSET.out V l) (l.tz hZ) hb8 (HBY.out V l))
 have HRR := hID (fun (V : World) (l : Lies w V) => r_run ids wd T S F B V _ _ _ _ _ (HSET.out V l) hb8 (HBY.out V l))
 clear ho hx hb hb8 hZ hlim hX10 hl hs hxb
 revert HPL HPR HRL HFE HRF HGR HRR
 generalize fdErr ids wd T S F X at_ B.length = er
 generalize fdRow ids wd T S F X B at_ = Y
 generalize fdAt ids wd T S F X B at_ = ay
 generalize qbx ids wd T S F X B at_ = ps
 generalize ruErr ids wd T S F B.length = er2
 generalize qb8 ids wd T S F B = pr
 intro HPL HPR HRL HFE HRF HGR HRR
 obtain ⟨np, hnp⟩ : ∃ np, ps.length = np := ⟨_, rfl⟩
 obtain ⟨nr, hnr⟩ : ∃ nr, pr.length = nr := ⟨_, rfl⟩
 obtain ⟨ny, hny⟩ : ∃ ny, Y.length = ny := ⟨_, rfl⟩
 have HN := hID (And.intro hnp (And.intro hnr hny))
 clear hnp hnr hny
 simp only [qul, qh3, Tryz.f4, Option.getD_some]
 -- Feed
 refine Go0.seq mild (Go0.region_call mild [_, _, _] _ _ rfl fun Q hQ V2 hV => ?_)
 have s := (Lies.same hV).blk HS.out
 have x := (Lies.same hV).blk HB.out
 have HL4 := hID (HL.out.trans (Lies.same hV))
 have c0 := s.cell 0
 have c1 := s.cell 1
 have c2 := s.cell 2
 have c3 := s.cell 3
 have c4 := s.cell 4
 have x0 := x.cell 0
 have x1 := x.cell 1
 have HQ := hID hQ
 have HS4 := hID s
 have HB4 := hID x
 clear hQ hV s x HL HS HB V
 go_wp2_with fail
 refine HQ.out _ _ ⟨by rfl, _, _, _, fun V => ?_, HFE.out _ HL4.out, ?_⟩
 ·simp [go_sem]
 clear HQ
 rintro v w5 ⟨u, out, rfl, hu, hout, l5⟩ Q hQ V5 hV
 obtain ⟨Au, cu, rfl, _⟩ := hu.form
 obtain ⟨Ao, co, rfl, _⟩ := hout.form
 have HL5 := hID ((HL4.out.trans l5).trans (Lies.same hV))
 have HS5 := hID ((Lies.same hV).blk (l5.blk HS4.out))
 have HB5 := hID ((Lies.same hV).blk (l5.blk HB4.out))
 have HU5 := hID ((Lies.same hV).rd hu.any)
 have HO5 := hID ((Lies.same hV).rd hout.any)
 have HQ := hID hQ
 clear hu hout l5 hV hQ c0 c1 c2 c3 c4 x0 x1 HL4 HS4 HB4 HFE
 rw [HN.out.1, HN.out.2.2]
 rw [HN.out.2.2] at HU5
 rw [HN.out.1] at HO5
 go_wp2_with fail
 refine HQ.out _ _ ?_
 clear HQ
 have la := (Lies.refl V5).alloc (.cells #[.slice Au ny cu, .int .i64 ay] 27)
 have HL6 := hID (HL5.out.trans la)
 have HS6 := hID (la.blk HS5.out)
 have HB6 := hID (la.blk HB5.out)
 have HU6 := hID (la.rd HU5.out)
 have HO6 := hID (la.rd HO5.out)
 have HY6 := hID (Blk.new V5 27 #[.slice Au ny cu, .int .i64 ay])
 clear la HL5 HS5 HB5 HU5 HO5
 revert HL6 HS6 HB6 HU6 HO6 HY6
 generalize V5.heap.size = yB
 generalize V5.alloc _ = u6
 intro HL6 HS6 HB6 HU6 HO6 HY6
 -- the specification's Feed
 refine Go0.seq mild (Go0.wpQ mild fun Q hQ V hV => ?_)
 have l := Lies.same hV
 have HL7 := hID (HL6.out.trans l)
 have HS7 := hID (l.blk HS6.out)
 have HB7 := hID (l.blk HB6.out)
 have HU7 := hID (l.rd HU6.out)
 have HO7 := hID (l.rd HO6.out)
 have HY7 := hID (l.blk HY6.out)
 have HQ := hID hQ
 clear hQ hV l HL6 HS6 HB6 HU6 HO6 HY6 u6
 have c0 := HS7.out.cell 0
 have c1 := HS7.out.cell 1
 have c2 := HS7.out.cell 2
 have c3 := HS7.out.cell 3
 have c4 := HS7.out.cell 4
 have x0 := HB7.out.cell 0
 have x1 := HB7.out.cell 1
 go_wp2_with fail
 refine (HRF.out _ HL7.out).mono ?_
 rintro e u8 ⟨v, rfl, u2, out2, rfl, hu, hout, l8⟩
 obtain ⟨Av, cv, rfl, _⟩ := hu.form
 obtain ⟨Ap, cp, rfl, _⟩ := hout.form
 have la := l8.alloc (.cells #[.slice Av Y.length cv, .int .i64 ay] 27)
 have lb := (Lies.refl u8).alloc (.cells #[.slice Av Y.length cv, .int .i64 ay] 27)
 have HL8 := hID (HL7.out.trans la)
 have HS8 := hID (la.blk HS7.out)
 have HB8' := hID (la.blk HB7.out)
 have HU8 := hID (la.rd HU7.out)
 have HO8 := hID (la.rd HO7.out)
 have HY8 := hID (la.blk HY7.out)
 have HV8 := hID (lb.rd hu.any)
 have HP8 := hID (lb.rd hout.any)
 have HZ8 := hID (Blk.new u8 27 #[.slice Av Y.length cv, .int .i64 ay])
 clear hu hout l8 la lb c0 c1 c2 c3 c4 x0 x1 HL7 HS7 HB7 HU7 HO7 HY7 HRF
 rw [HN.out.1, HN.out.2.2]
 rw [HN.out.2.2] at HL8 HS8 HB8' HU8 HO8 HY8 HV8 HP8 HZ8
 rw [HN.out.1] at HP8
 go_wp2_with fail
 refine HQ.out _ _ _ ?_
 clear HQ
 show Go0 _ _ _ _
 revert HL8 HS8 HB8' HU8 HO8 HY8 HV8 HP8 HZ8
 generalize u8.heap.size = zB
 generalize u8.alloc _ = u9
 intro HL8 HS8 HB8' HU8 HO8 HY8 HV8 HP8 HZ8
 -- they are the same
 refine Go0.seq mild (Go0.seq mild (Go0.wpQ mild fun Q hQ V hV => ?_))
 have l := Lies.same hV
 have HL9 := hID (HL8.out.trans l)
 have HS9 := hID (l.blk HS8.out)
 have HB9 := hID (l.blk HB8'.out)
 have HO9 := hID (l.rd HO8.out)
 have HP9 := hID (l.rd HP8.out)
 have y0 := (l.blk HY8.out).cell 0
 have y1 := (l.blk HY8.out).cell 1
 have z0 := (l.blk HZ8.out).cell 0
 have z1 := (l.blk HZ8.out).cell 1
 have HSA := hID (qx3 Y HRL.out ay V _ _ (by rw [HN.out.2.2]; exact l.rd HU8.out) (by rw [HN.out.2.2]; exact l.rd HV8.out))
 have HQ := hID hQ
 clear hQ hV l HL8 HS8 HB8' HU8 HO8 HY8 HV8 HP8 HZ8 u9
 go_wp2_with fail
 refine HSA.out.mono ?_
 rintro e u10 ⟨rfl, o1⟩
 have l := Lies.of' o1
 have HL10 := hID (HL9.out.trans l)
 have HS10 := hID (l.blk HS9.out)
 have HB10 := hID (l.blk HB9.out)
 have HSH := hID (qjd ps HPL.out u10 _ _ (by rw [HN.out.1]; exact l.rd HO9.out) (by rw [HN.out.1]; exact l.rd HP9.out))
 clear o1 l y0 y1 z0 z1 HSA HL9 HS9 HB9 HO9 HP9
 go_wp2_with fail
 refine HSH.out.mono ?_
 rintro e u11 ⟨rfl, o1⟩
 have l := Lies.of' o1
 have HL := hID (HL10.out.trans l)
 have HS := hID (l.blk HS10.out)
 have HB := hID (l.blk HB10.out)
 have de : (er != er) = false := by simp
 clear o1 l HSH HL10 HS10 HB10
 go_wp2_with fail
 refine HQ.out _ _ _ ?_
 clear HQ de
 show Go0 _ _ _ _
 refine Go0.cond mild (t := false) rfl (Go0.skip mild ?_)
 -- Run
 refine Go0.seq mild (Go0.region_call mild [_, _] _ _ rfl fun Q hQ V2 hV => ?_)
 have s := (Lies.same hV).blk HS.out
 have HL4 := hID (HL.out.trans (Lies.same hV))
 have c0 := s.cell 0
 have c1 := s.cell 1
 have c2 := s.cell 2
 have c3 := s.cell 3
 have c4 := s.cell 4
 have HQ := hID hQ
 have HS4 := hID s
 clear hQ hV s HL HS HB u11
 go_wp2_with fail
 refine HQ.out _ _ ⟨by rfl, _, _, _, fun V => ?_, HGR.out _ HL4.out, ?_⟩
 ·simp [go_sem]
 clear HQ
 rintro v w5 ⟨out, rfl, hout, l5⟩ Q hQ V5 hV
 obtain ⟨Ar, cr, rfl, _⟩ := hout.form
 have HL5 := hID ((HL4.out.trans l5).trans (Lies.same hV))
 have HS5 := hID ((Lies.same hV).blk (l5.blk HS4.out))
 have HO5 := hID ((Lies.same hV).rd hout.any)
 have HQ := hID hQ
 clear hout l5 hV hQ c0 c1 c2 c3 c4 HL4 HS4 HGR
 rw [HN.out.2.1]
 rw [HN.out.2.1] at HO5
 go_wp2_with fail
 refine HQ.out _ _ ?_
 clear HQ
 -- the specification's Run
 refine Go0.seq mild (Go0.wpQ mild fun Q hQ V hV => ?_)
 have l := Lies.same hV
 have HL7 := hID (HL5.out.trans l)
 have HO7 := hID (l.rd HO5.out)
 have c0 := (l.blk HS5.out).cell 0
 have c1 := (l.blk HS5.out).cell 1
 have c2 := (l.blk HS5.out).cell 2
 have c3 := (l.blk HS5.out).cell 3
 have c4 := (l.blk HS5.out).cell 4
 have HQ := hID hQ
 clear hQ hV l HL5 HS5 HO5
 go_wp2_with fail
 refine (HRR.out _ HL7.out).mono ?_
 rintro e u8 ⟨v, rfl, out2, rfl, hout, l8⟩
 obtain ⟨As, cs2, rfl, _⟩ := hout.form
 have HL8 := hID (HL7.out.trans l8)
 have HO8 := hID (l8.rd HO7.out)
 have HP8 := hID hout.any
 clear hout l8 c0 c1 c2 c3 c4 HL7 HO7 HRR
 rw [HN.out.2.1]
 rw [HN.out.2.1] at HP8
 go_wp2_with fail
 refine HQ.out _ _ _ ?_
 clear HQ
 show Go0 _ _ _ _
 -- they are the same; the examples
 refine Go0.seq mild (Go0.region_call mild [_, _, _, _, _, _, _, _, _] _ _ rfl fun Q hQ V2 hV => ?_)
 have l := Lies.same hV
 have HL9 := hID (HL8.out.trans l)
 have HSH := hID (qjd pr HPR.out V2 _ _ (by rw [HN.out.2.1]; exact l.rd HO8.out) (by rw [HN.out.2.1]; exact l.rd HP8.out))
 have HQ := hID hQ
 clear hQ hV l HL8 HO8 HP8
 go_wp2_with fail
 refine HSH.out.mono ?_
 rintro e u10 ⟨rfl, o1⟩
 have HL10 := hID (HL9.out.trans (Lies.of' o1))
 have de : (er2 == er2) = true := by simp
 clear o1 HSH HL9
 go_wp2_with fail
 refine HQ.out _ _ ⟨by rfl, _, _, _, fun V => ?_, qpx _ (HL10.out.tz HZ.out), ?_⟩
 ·simp [go_sem]
 clear HQ
 rintro v w5 ⟨rfl, l5⟩ Q hQ V5 hV
 have HL11 := hID ((HL10.out.trans l5).trans (Lies.same hV))
 have HQ := hID hQ
 clear hQ hV l5 de
 go_wp2_with fail
 refine HQ.out _ _ ?_
 refine Go0.ret mild ?_
 exact qpz hbn rfl (by rw [hbf]; exact Tryz.func4) (by rw [hbf]; kernel_rfl) rfl rfl HL11.out
theorem shiftandFeeds_walk {w : World} (hZ : TzT w) {VI VT VS VF : Value} {ids : List Int} {wd : Int} {T S F : List Nat} (ho : OSet w VI VT VS VF ids wd T S F) {XV : Value} {X : List Nat} {at_ : Int} (hx : OState w XV X at_) {BV : Value} {B : List Nat} (hb : Rd w (Old w) 1 BV B.length (qbw B)) (hb8 : ∀ z ∈ B, z < 256) : qpy 4 #[.agg #[VI, .int .i64 wd, VT, VS, VF], .agg #[XV, .int .i64 at_], BV] w := by
 obtain ⟨AI, ci, rfl, _⟩ := ho.i.form
 obtain ⟨AT, ct, rfl, _⟩ := ho.t.form
 obtain ⟨AS, cs, rfl, _⟩ := ho.s.form
 obtain ⟨AF, cf, rfl, _⟩ := ho.f.form
 obtain ⟨AX, cx, rfl, _⟩ := hx.r.form
 obtain ⟨bp, bcap, rfl, _⟩ := hb.form
 have HZ := hID hZ
 have HO := hID ho
 have HX := hID hx
 have HBY := hID hb
 have HB8 := hID hb8
 clear hZ ho hx hb hb8
 have hen : Frame.enter Tryz.prog 4 #[.agg #[.slice AI ids.length ci, .int .i64 wd, .slice AT T.length ct, .slice AS S.length cs, .slice AF F.length cf], .agg #[.slice AX X.length cx, .int .i64 at_], .slice bp B.length bcap] .normal = (base 4).at ⟨#[.agg #[.slice AI ids.length ci, .int .i64 wd, .slice AT T.length ct, .slice AS S.length cs, .slice AF F.length cf], .agg #[.slice AX X.length cx, .int .i64 at_], .slice bp B.length bcap, undef, undef, undef, undef, undef, undef, undef, undef, undef, undef, undef, undef, undef, undef, undef, undef, undef, undef, undef, undef, undef, undef, undef, undef, undef, undef, undef, undef, undef, undef, undef, undef, undef, undef, undef, undef, undef, undef, undef, undef, undef, undef, undef, undef, undef, undef, undef, undef, undef, undef, undef, undef, undef, undef, undef, undef, undef, undef, undef, undef, undef, undef, undef, undef, undef, undef, undef, undef, undef, undef, undef, undef, undef, undef, undef, undef, undef, undef, undef, undef, undef, undef, undef, undef, undef, undef, undef, undef], []⟩ [.code qh3] := by
  have h := enter_at (P := Tryz.prog) #[.agg #[.slice AI ids.length ci, .int .i64 wd, .slice AT T.length ct, .slice AS S.length cs, .slice AF F.length cf], .agg #[.slice AX X.length cx, .int .i64 at_], .slice bp B.length bcap] Tryz.func4 (c := qh3) rfl
  simp only [Tryz.ntmps4, List.size_toArray, List.length_cons, List.length_nil, Nat.reduceAdd, Nat.reduceSub, Array.replicate_succ, Array.replicate_zero, List.push_toArray, List.append_toArray, List.nil_append, List.cons_append] at h
  exact h
 unfold qpy
 rw [hen]
 generalize hbb : base 4 = b
 have hbf : b.fn = 4 := by rw [← hbb]; rfl
 have hbn : b.kind = .normal := by rw [← hbb]; rfl
 clear hen hbb
 simp only [qh3, Tryz.f4, Option.getD_some]
 -- the boxes
 refine Go0.seq mild (Go0.wpQ mild fun Q hQ V hV => ?_)
 have HQ := hID hQ
 have l0 := (Lies.refl V).alloc (.cells #[.slice AI ids.length ci, .int .i64 wd, .slice AT T.length ct, .slice AS S.length cs, .slice AF F.length cf] 25)
 have HL := hID (((Lies.same hV).trans l0).alloc (.cells #[.slice AX X.length cx, .int .i64 at_] 27))
 have HS := hID ((Blk.new V 25 #[.slice AI ids.length ci, .int .i64 wd, .slice AT T.length ct, .slice AS S.length cs, .slice AF F.length cf]).alloc (.cells #[.slice AX X.length cx, .int .i64 at_] 27))
 have HB := hID (Blk.new (V.alloc (.cells #[.slice AI ids.length ci, .int .i64 wd, .slice AT T.length ct, .slice AS S.length cs, .slice AF F.length cf] 25)) 27 #[.slice AX X.length cx, .int .i64 at_])
 clear hQ hV l0
 go_wp2_with fail
 refine HQ.out _ _ _ ?_
 clear HQ
 show Go0 _ _ _ _
 rw [show (V.alloc (.cells #[.slice AI ids.length ci, .int .i64 wd, .slice AT T.length ct, .slice AS S.length cs, .slice AF F.length cf] 25)).heap.size = V.heap.size + 1 by simp] at HB
 revert HL HS HB
 generalize hxB : V.heap.size + 1 = xB
 generalize V.heap.size = sB
 generalize World.alloc (World.alloc V _) _ = u0
 clear hxB
 intro HL HS HB
 -- what is left out
 refine Go0.seq mild (Go0.seq mild (Go0.wpQ mild fun Q hQ V hV => ?_))
 have HQ := hID hQ
 have l := Lies.same hV
 replace HL := hID (HL.out.trans l)
 replace HS := hID (l.blk HS.out)
 replace HB := hID (l.blk HB.out)
 clear hQ hV l u0
 have c0 := HS.out.cell 0
 have c1 := HS.out.cell 1
 have c2 := HS.out.cell 2
 have c3 := HS.out.cell 3
 have c4 := HS.out.cell 4
 go_wp2_with fail
 refine (qwi AI AT AS AF ids.length T.length S.length F.length ci ct cs cf wd V).mono ?_
 rintro e u1 ⟨⟨q, rfl, hq⟩, o1⟩
 have l := Lies.of' o1
 replace HL := hID (HL.out.trans l)
 replace HS := hID (l.blk HS.out)
 replace HB := hID (l.blk HB.out)
 have HQL := hID hq
 clear hq o1 l c0 c1 c2 c3 c4
 have x0 := HB.out.cell 0
 cases q
 case true =>
  go_wp2_with fail
  refine HQ.out _ _ _ ?_
  show Go0 _ _ _ _
  refine Go0.cond mild (t := true) rfl ?_
  exact qfk (HL.out.tz HZ.out) HL.out hbn rfl (by rw [hbf]; exact Tryz.func4) (by rw [hbf]; kernel_rfl) rfl rfl rfl rfl rfl rfl rfl (by simp) (by simp)
 case false =>
  have HLIM := hID (HQL.out rfl)
  by_cases h10 : 10 < X.length
  ·have d1 : decide ((10 : Int) < (X.length : Int)) = true := dcT
   have d1n : decide (10 < X.length) = true := decide_eq_true h10
   go_wp2_with fail
   refine HQ.out _ _ _ ?_
   show Go0 _ _ _ _
   refine Go0.cond mild (t := true) rfl ?_
   exact qfk (HL.out.tz HZ.out) HL.out hbn rfl (by rw [hbf]; exact Tryz.func4) (by rw [hbf]; kernel_rfl) rfl rfl rfl rfl rfl rfl rfl (by simp) (by simp)
  ·have d1 : decide ((10 : Int) < (X.length : Int)) = false := dcF
   have d1n : decide (10 < X.length) = false := decide_eq_false h10
   by_cases h60 : 60 < B.length
   ·have d2 : decide ((60 : Int) < (B.length : Int)) = true := dcT
    have d2n : decide (60 < B.length) = true := decide_eq_true h60
    by_cases h4 : B.length ≤ 4096
    ·have d3 : decide ((B.length : Int) ≤ 4096) = true := dcT
     have d3n : decide (B.length ≤ 4096) = true := decide_eq_true h4
     go_wp2_with fail
     refine HQ.out _ _ _ ?_
     show Go0 _ _ _ _
     refine Go0.cond mild (t := true) rfl ?_
     exact qfk (HL.out.tz HZ.out) HL.out hbn rfl (by rw [hbf]; exact Tryz.func4) (by rw [hbf]; kernel_rfl) rfl rfl rfl rfl rfl rfl rfl (by simp) (by simp)
    ·have d3 : decide ((B.length : Int) ≤ 4096) = false := dcF
     have d3n : decide (B.length ≤ 4096) = false := decide_eq_false h4
     by_cases h5 : 4100 < B.length
     ·have d4 : decide ((4100 : Int) < (B.length : Int)) = true := dcT
      have d4n : decide (4100 < B.length) = true := decide_eq_true h5
      go_wp2_with fail
      refine HQ.out _ _ _ ?_
      show Go0 _ _ _ _
      refine Go0.cond mild (t := true) rfl ?_
      exact qfk (HL.out.tz HZ.out) HL.out hbn rfl (by rw [hbf]; exact Tryz.func4) (by rw [hbf]; kernel_rfl) rfl rfl rfl rfl rfl rfl rfl (by simp) (by simp)
     ·have d4 : decide ((4100 : Int) < (B.length : Int)) = false := dcF
      have d4n : decide (4100 < B.length) = false := decide_eq_false h5
      go_wp2_with fail
      refine HQ.out _ _ _ ?_
      show Go0 _ _ _ _
      refine Go0.cond mild (t := false) rfl (Go0.skip mild ?_)
      exact qki HZ.out HO.out HX.out HBY.out HB8.out HLIM.out (by omega) hbf hbn HL.out HS.out HB.out _ _ _ _ _ _ _ _ _ _ _ _ _ _ _ _ _ _ _ _ _ _ _
   ·have d2 : decide ((60 : Int) < (B.length : Int)) = false := dcF
    have d2n : decide (60 < B.length) = false := decide_eq_false h60
    have d4 : decide ((4100 : Int) < (B.length : Int)) = false := dcF
    have d4n : decide (4100 < B.length) = false := dcF
    go_wp2_with fail
    refine HQ.out _ _ _ ?_
    show Go0 _ _ _ _
    refine Go0.cond mild (t := false) rfl (Go0.skip mild ?_)
    exact qki HZ.out HO.out HX.out HBY.out HB8.out HLIM.out (by omega) hbf hbn HL.out HS.out HB.out _ _ _ _ _ _ _ _ _ _ _ _ _ _ _ _ _ _ _ _ _ _ _
end Go.Proofs.YtlgjaefcfnndhaaGreatDoor
