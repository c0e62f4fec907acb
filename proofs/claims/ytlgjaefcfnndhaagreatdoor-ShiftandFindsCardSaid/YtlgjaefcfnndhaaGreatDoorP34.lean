/-
 shiftand's Feed and Run as calls of goroutine 0's beside leavers, whatever they are given.
-/
import Derived.Test.YtlgjaefcfnndhaaGreatDoorP32
import Derived.Test.YtlgjaefcfnndhaaGreatDoorP33
import Derived.Test.YtlgjaefcfnndhaaGreatDoorP7
set_option linter.unusedVariables false
set_option linter.unusedSimpArgs false
set_option maxHeartbeats 16000000
set_option maxRecDepth 100000
namespace Go.Proofs.YtlgjaefcfnndhaaGreatDoor
open Go.RowKit Go.Conc Go.Pip Go.Ride
theorem Lies.same {w V : World} (h : SameW w V) : Lies w V := ⟨h.os, h.output, by rw [h.heap]; exact Nat.le_refl _, fun k _ => by rw [h.heap]⟩
def fdErr (ids : List Int) (Wd : Int) (T S F X : List Nat) (at_ : Int) (L : Nat) : Int :=
 if shErr ids Wd T S F X at_ ≠ 0 then shErr ids Wd T S F X at_ else if 4096 < L then 3 else if 1000000000 < at_ + (L : Int) then 9 else 0
def fdRow (ids : List Int) (Wd : Int) (T S F X B : List Nat) (at_ : Int) : List Nat := if fdErr ids Wd T S F X at_ B.length = 0 then qat T S X.length B X else []
def fdAt (ids : List Int) (Wd : Int) (T S F X B : List Nat) (at_ : Int) : Int := if fdErr ids Wd T S F X at_ B.length = 0 then atV B at_ else 0
def qds (ids : List Int) (Wd : Int) (T S F X B : List Nat) (at_ : Int) : List (Int × Int) := if fdErr ids Wd T S F X at_ B.length = 0 then qa3 T S F X.length ids.length B X at_ else []
def qq2 (w : World) (X' : List Nat) (at' : Int) (ps : List (Int × Int)) (er : Int) (v : Value) (w' : World) : Prop :=
 ∃ u out, v = .tuple #[.agg #[u, .int .i64 at'], out, .int .i64 er] ∧ Rd w' (fun k => w.heap.size ≤ k) 1 u X'.length (qab X') ∧ Rd w' (fun k => w.heap.size ≤ k) 2 out ps.length (qa9 ps) ∧ Lies w w'
theorem qfx {w : World} {er : Int} {f : FuncId} {args : Array Value} (h : ∀ τ d, Calls Tryz.prog f args (Ride.re w τ d) (FeedE (Ride.re w τ d) er)) : CallsG Tryz.prog f args w (qq2 w [] 0 [] er) :=
 CallsG.of_calls mild fun τ d => (h τ d).mono fun e w' hp => by
  obtain ⟨rfl, l⟩ := hp
  exact ⟨_, _, rfl, Rd.nil _ _ _, Rd.nil _ _ _, (Lies.reI w τ d).trans l⟩
theorem qtf (ids : List Int) (Wd : Int) (T S F X B : List Nat) (at_ : Int) (w : World) (VI VT VS VF XV BVv : Value)
  (hX64 : ∀ x ∈ X, x < 18446744073709551616) (hsv : SetV w VI VT VS VF ids Wd T S F) (hZ : TzT w) (hxv : Rd w (fun _ => True) 1 XV X.length (qab X))
  (hB256 : ∀ b ∈ B, b < 256) (hb : Rd w (fun _ => True) 1 BVv B.length (qb2 B)) :
  CallsG Tryz.prog 24 #[.agg #[VI, .int .i64 Wd, VT, VS, VF], .agg #[XV, .int .i64 at_], BVv] w (qq2 w (fdRow ids Wd T S F X B at_) (fdAt ids Wd T S F X B at_) (qds ids Wd T S F X B at_) (fdErr ids Wd T S F X at_ B.length)) := by
 by_cases h0 : shErr ids Wd T S F X at_ = 0
 ·by_cases h1 : 4096 < B.length
  ·have e : fdErr ids Wd T S F X at_ B.length = 3 := by unfold fdErr; rw [if_neg (by rw [h0]; decide), if_pos h1]
   rw [fdRow, fdAt, qds, e, if_neg (by decide), if_neg (by decide), if_neg (by decide)]
   obtain ⟨bp, bcap, rfl, _⟩ := hb.form
   exact qfx fun τ d => qp9 ids Wd T S F X at_ _ VI VT VS VF XV h0 bp B.length bcap h1 hX64 ((Lies.reI w τ d).set hsv) ((Lies.reI w τ d).tz hZ) ((Lies.reI w τ d).rd hxv)
  ·by_cases h2 : 1000000000 < at_ + (B.length : Int)
   ·have e : fdErr ids Wd T S F X at_ B.length = 9 := by unfold fdErr; rw [if_neg (by rw [h0]; decide), if_neg h1, if_pos h2]
    rw [fdRow, fdAt, qds, e, if_neg (by decide), if_neg (by decide), if_neg (by decide)]
    obtain ⟨bp, bcap, rfl, _⟩ := hb.form
    exact qfx fun τ d => qqa ids Wd T S F X at_ _ VI VT VS VF XV h0 bp B.length bcap (by omega) h2 hX64 ((Lies.reI w τ d).set hsv) ((Lies.reI w τ d).tz hZ) ((Lies.reI w τ d).rd hxv)
   ·have e : fdErr ids Wd T S F X at_ B.length = 0 := by unfold fdErr; rw [if_neg (by rw [h0]; decide), if_neg h1, if_neg h2]
    rw [fdRow, fdAt, qds, e, if_pos rfl, if_pos rfl, if_pos rfl]
    refine (q1s ids Wd T S F X B at_ w VI VT VS VF XV BVv h0 hX64 hsv hZ hxv hB256 hb (by omega) (by omega)).mono ?_
    rintro v w' ⟨u, out, rfl, h1, h2, h3⟩
    exact ⟨u, out, rfl, by rw [qer T S X.length B X rfl]; exact h1, h2, h3⟩
 ·have e : fdErr ids Wd T S F X at_ B.length = shErr ids Wd T S F X at_ := by unfold fdErr; rw [if_pos h0]
  rw [fdRow, fdAt, qds, e, if_neg h0, if_neg h0, if_neg h0]
  exact qfx fun τ d => qte ids Wd T S F X at_ _ VI VT VS VF XV _ rfl h0 BVv hX64 ((Lies.reI w τ d).set hsv) ((Lies.reI w τ d).tz hZ) ((Lies.reI w τ d).rd hxv)
def qbl (ids : List Int) (Wd : Int) (T S F : List Nat) : List Nat := if qan ids Wd T S F = 0 then List.replicate Wd.toNat 0 else []
theorem qi1 (ids : List Int) (Wd : Int) (T S F : List Nat) (w : World) (VI VT VS VF : Value) (hs : SetV w VI VT VS VF ids Wd T S F) (hZ : TzT w) :
  Calls Tryz.prog 12 #[.agg #[VI, .int .i64 Wd, VT, VS, VF]] w (qvl w (qbl ids Wd T S F) 0 (qan ids Wd T S F)) := by
 by_cases h0 : qan ids Wd T S F = 0
 ·obtain ⟨_, _, _, ⟨W, rfl, _⟩, _⟩ := qcr h0
  rw [qbl, h0, if_pos rfl, Int.toNat_natCast]
  refine (qtc ids W T S F h0 w VI VT VS VF hs hZ).mono ?_
  rintro e w' ⟨u, rfl, h1, h2⟩
  exact ⟨u, rfl, by rw [List.length_replicate]; exact h1, .of' h2⟩
 ·rw [qbl, if_neg h0]
  refine (qp6 ids Wd T S F h0 w VI VT VS VF hs hZ).mono ?_
  rintro e w' ⟨rfl, o⟩
  exact ⟨_, rfl, Rd.nil _ _ _, .of' o⟩
def q1u (w : World) (ps : List (Int × Int)) (er : Int) (v : Value) (w' : World) : Prop := ∃ out, v = .tuple #[out, .int .i64 er] ∧ Rd w' (fun k => w.heap.size ≤ k) 2 out ps.length (qa9 ps) ∧ Lies w w'
def ruErr (ids : List Int) (Wd : Int) (T S F : List Nat) (L : Nat) : Int := if qan ids Wd T S F ≠ 0 then qan ids Wd T S F else fdErr ids Wd T S F (qbl ids Wd T S F) 0 L
def qdt (ids : List Int) (Wd : Int) (T S F B : List Nat) : List (Int × Int) := if qan ids Wd T S F ≠ 0 then [] else qds ids Wd T S F (qbl ids Wd T S F) B 0
noncomputable def rBody : Code := Tryz.f27.body.getD .skip
theorem g_run (ids : List Int) (Wd : Int) (T S F B : List Nat) (w : World) (VI VT VS VF BVv : Value) (hsv : SetV w VI VT VS VF ids Wd T S F) (hZ : TzT w) (hB256 : ∀ b ∈ B, b < 256) (hb : Rd w (fun _ => True) 1 BVv B.length (qb2 B)) :
  CallsG Tryz.prog 27 #[.agg #[VI, .int .i64 Wd, VT, VS, VF], BVv] w (q1u w (qdt ids Wd T S F B) (ruErr ids Wd T S F B.length)) := by
 obtain ⟨bp, bcap, rfl, _⟩ := hb.form
 have HST := hID (fun (V : World) (l : Lies w V) => qi1 ids Wd T S F V VI VT VS VF (l.set hsv) (l.tz hZ))
 have HFE := hID (fun (V : World) (l : Lies w V) (XV : Value) (hx : Rd V (fun _ => True) 1 XV (qbl ids Wd T S F).length (qab (qbl ids Wd T S F))) => qtf ids Wd T S F (qbl ids Wd T S F) B 0 V VI VT VS VF XV _ (by
  intro x hx
  unfold qbl at hx
  split at hx
  ·rw [List.mem_replicate] at hx; omega
  ·simp at hx) (l.set hsv) (l.tz hZ) hx hB256 (l.rd hb))
 clear hsv hZ hB256 hb
 intro c cs Fin hk
 have hen : Frame.enter Tryz.prog 27 #[.agg #[VI, .int .i64 Wd, VT, VS, VF], .slice bp B.length bcap] .normal = (base 27).at ⟨#[.agg #[VI, .int .i64 Wd, VT, VS, VF], .slice bp B.length bcap, undef, undef, undef, undef, undef, undef, undef, undef, undef, undef, undef, undef, undef, undef, undef, undef, undef, undef, undef, undef, undef, undef, undef, undef, undef, undef], []⟩ [.code rBody] := by
  have h := enter_at (P := Tryz.prog) #[.agg #[VI, .int .i64 Wd, VT, VS, VF], .slice bp B.length bcap] Tryz.func27 (c := rBody) rfl
  simp only [Tryz.ntmps27, List.size_toArray, List.length_cons, List.length_nil, Nat.reduceAdd, Nat.reduceSub, Array.replicate_succ, Array.replicate_zero, List.push_toArray, List.append_toArray, List.nil_append, List.cons_append] at h
  exact h
 rw [hen]
 generalize hbb : base 27 = b
 have hbf : b.fn = 27 := by rw [← hbb]; rfl
 have hbn : b.kind = .normal := by rw [← hbb]; rfl
 clear hen hbb
 have HK := hID hk
 clear hk
 simp only [rBody, Tryz.f27, Option.getD_some]
 -- the box
 refine Go0.seq mild (Go0.wpQ mild fun Q hQ V hV => ?_)
 have L0 := (Lies.same hV).alloc (.cells #[VI, .int .i64 Wd, VT, VS, VF] 25)
 have S0 := Blk.new V 25 #[VI, .int .i64 Wd, VT, VS, VF]
 have HL0 := hID L0
 have HS0 := hID S0
 have HQ := hID hQ
 clear hV L0 S0 hQ
 go_wp2_with fail
 refine HQ.out _ _ _ ?_
 clear HQ
 show Go0 _ _ _ _
 revert HL0 HS0
 generalize V.heap.size = sB
 generalize V.alloc _ = u0
 intro HL0 HS0
 -- Start
 refine Go0.seq mild (Go0.wpQ mild fun Q hQ V hV => ?_)
 have LV := HL0.out.trans (Lies.same hV)
 have SV := (Lies.same hV).blk HS0.out
 have HLV := hID LV
 have HSV := hID SV
 have c0 := SV.cell 0
 have c1 := SV.cell 1
 have c2 := SV.cell 2
 have c3 := SV.cell 3
 have c4 := SV.cell 4
 have HQ := hID hQ
 clear hQ hV LV SV HL0 HS0 u0
 go_wp2_with fail
 refine (HST.out _ HLV.out).mono ?_
 rintro e u1 ⟨XV, rfl, hr, l1⟩
 obtain ⟨AX, cx, rfl, _⟩ := hr.form
 have HX := hID hr.any
 have HL1 := hID (HLV.out.trans l1)
 have HS1 := hID (l1.blk HSV.out)
 clear hr l1 HLV HSV c0 c1 c2 c3 c4 HST
 obtain ⟨er, her⟩ : ∃ er, qan ids Wd T S F = er := ⟨_, rfl⟩
 have HER := hID her
 rw [her]
 clear her
 obtain ⟨nx, hnx⟩ : ∃ nx, (qbl ids Wd T S F).length = nx := ⟨_, rfl⟩
 have HNX := hID hnx
 rw [hnx]
 rw [hnx] at HX
 clear hnx
 go_wp2_with fail
 refine HQ.out _ _ _ ?_
 clear HQ
 show Go0 _ _ _ _
 have HX2 := hID (((Lies.refl u1).alloc (.cells #[.slice AX nx cx, .int .i64 0] 27)).rd HX.out)
 have HL2 := hID (HL1.out.alloc (.cells #[.slice AX nx cx, .int .i64 0] 27))
 have HS2 := hID (HS1.out.alloc (.cells #[.slice AX nx cx, .int .i64 0] 27))
 have HB2 := hID (Blk.new u1 27 #[.slice AX nx cx, .int .i64 0])
 clear HX HL1 HS1
 revert HX2 HL2 HS2 HB2
 generalize u1.heap.size = xB
 generalize u1.alloc _ = u2
 intro HX2 HL2 HS2 HB2
 by_cases hz : er = 0
 ·have dz : (er != 0) = false := by rw [hz]; rfl
  refine Go0.seq mild (Go0.wpQ mild fun Q hQ V hV => ?_)
  have HQ := hID hQ
  have HV := hID hV
  have HZ0 := hID hz
  clear hQ hV hz
  go_wp2_with fail
  refine HQ.out _ _ _ ?_
  clear HQ
  show Go0 _ _ _ _
  have HX3 := hID ((Lies.same HV.out).rd HX2.out)
  have HL3 := hID (HL2.out.trans (Lies.same HV.out))
  have HS3 := hID ((Lies.same HV.out).blk HS2.out)
  have HB3 := hID ((Lies.same HV.out).blk HB2.out)
  clear HX2 HL2 HS2 HB2 HV u2
  -- Feed
  refine Go0.seq mild (Go0.region_call mild [_, _, _] _ _ rfl fun Q hQ V2 hV => ?_)
  have s := (Lies.same hV).blk HS3.out
  have x := (Lies.same hV).blk HB3.out
  have HX4 := hID ((Lies.same hV).rd HX3.out)
  have HL4 := hID (HL3.out.trans (Lies.same hV))
  have c0 := s.cell 0
  have c1 := s.cell 1
  have c2 := s.cell 2
  have c3 := s.cell 3
  have c4 := s.cell 4
  have x0 := x.cell 0
  have x1 := x.cell 1
  have HQ := hID hQ
  clear hQ hV s x HX3 HL3 HS3 HB3 V
  go_wp2_with fail
  refine HQ.out _ _ ⟨by rfl, _, _, _, fun V => ?_, HFE.out _ HL4.out _ (by rw [HNX.out]; exact HX4.out), ?_⟩
  ·simp [go_sem]
  rintro v w5 ⟨u, out, rfl, hu, hout, l5⟩ Q hQ V5 hV
  obtain ⟨Au, cu, rfl, _⟩ := hu.form
  obtain ⟨Ao, co, rfl, _⟩ := hout.form
  have HL5 := hID ((HL4.out.trans l5).trans (Lies.same hV))
  have hsz := HL4.out.size
  have HOU := hID ((Lies.same hV).rd (hout.mono (G := fun k => w.heap.size ≤ k) (fun k hk => Nat.le_trans hsz hk)))
  have HRR : Hid (ruErr ids Wd T S F B.length = fdErr ids Wd T S F (qbl ids Wd T S F) 0 B.length ∧ qdt ids Wd T S F B = qds ids Wd T S F (qbl ids Wd T S F) B 0) := hID (by unfold ruErr qdt; rw [HER.out, HZ0.out, if_neg (by decide), if_neg (by decide)]; exact ⟨rfl, rfl⟩)
  clear hu hout l5 hV hsz HL4 HX4 c0 c1 c2 c3 c4 x0 x1
  revert HOU HRR
  generalize fdErr ids Wd T S F (qbl ids Wd T S F) 0 B.length = e2
  generalize qds ids Wd T S F (qbl ids Wd T S F) B 0 = ps
  generalize (fdRow ids Wd T S F (qbl ids Wd T S F) B 0).length = n2
  generalize fdAt ids Wd T S F (qbl ids Wd T S F) B 0 = at2
  intro HOU HRR
  obtain ⟨np, hnp⟩ : ∃ np, ps.length = np := ⟨_, rfl⟩
  have HNP := hID hnp
  rw [hnp]
  rw [hnp] at HOU
  clear hnp
  have HQ2 := hID hQ
  clear hQ HQ HFE
  go_wp2_with fail
  refine HQ2.out _ _ ?_
  clear HQ2
  have HL6 := hID (HL5.out.alloc (.cells #[.slice Au n2 cu, .int .i64 at2] 27))
  have HO6 := hID (((Lies.refl V5).alloc (.cells #[.slice Au n2 cu, .int .i64 at2] 27)).rd HOU.out)
  clear HL5 HOU
  revert HL6 HO6
  generalize V5.heap.size = yB
  generalize V5.alloc _ = u6
  intro HL6 HO6
  refine Go0.wpQ mild fun Q hQ V hV => ?_
  have HL7 := hID (HL6.out.trans (Lies.same hV))
  have HO7 := hID ((Lies.same hV).rd HO6.out)
  have HQ := hID hQ
  clear hQ hV HL6 HO6 u6
  go_wp2_with fail
  refine HQ.out _ _ _ ?_
  intro todo
  refine Go0.leave mild (fun τ d => ⟨rfl, rfl, hbn, _, (by show Tryz.prog.funcs[b.fn]? = _; rw [hbf]; exact Tryz.func27), results_tmp2 rfl _ _ _⟩) ?_
  refine HK.out _ _ ⟨_, by rw [HRR.out.1]; rfl, ?_, HL7.out⟩
  rw [HRR.out.2, HNP.out]
  exact HO7.out
 ·have dz : (er != 0) = true := by rw [bne_iff_ne]; exact hz
  refine Go0.seq mild (Go0.wpQ mild fun Q hQ V hV => ?_)
  have HQ := hID hQ
  have HL3 := hID (HL2.out.trans (Lies.same hV))
  have HRR : Hid (ruErr ids Wd T S F B.length = er ∧ qdt ids Wd T S F B = []) := hID (by unfold ruErr qdt; rw [HER.out, if_pos hz, if_pos hz]; exact ⟨rfl, rfl⟩)
  clear hQ hV hz HX2 HL2 HS2 HB2 HFE
  go_wp2_with fail
  refine HQ.out _ _ _ ?_
  intro todo
  refine Go0.leave mild (fun τ d => ⟨rfl, rfl, hbn, _, (by show Tryz.prog.funcs[b.fn]? = _; rw [hbf]; exact Tryz.func27), results_tmp2 rfl _ _ _⟩) ?_
  refine HK.out _ _ ⟨_, by rw [HRR.out.1]; rfl, ?_, HL3.out⟩
  rw [HRR.out.2]
  exact Rd.nil _ _ _
end Go.Proofs.YtlgjaefcfnndhaaGreatDoor
