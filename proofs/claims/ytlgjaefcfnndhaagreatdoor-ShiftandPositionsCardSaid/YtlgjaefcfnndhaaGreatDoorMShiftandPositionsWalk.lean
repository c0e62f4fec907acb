/-
 ShiftandPositions: a position is set exactly if the classes of its lane have the last bytes.
-/
import Derived.Test.YtlgjaefcfnndhaaGreatDoorM49
set_option linter.unusedVariables false
set_option linter.unusedSimpArgs false
set_option maxHeartbeats 16000000
set_option maxRecDepth 100000
namespace Go.Proofs.YtlgjaefcfnndhaaGreatDoor
open Go.RowKit Go.Conc Go.Pip Go.Ride
theorem qw5 {w : World} (hZ : TzT w) {VI VT VS VF : Value} {ids : List Int} {wd : Int} {T S F : List Nat} (ho : OSet w VI VT VS VF ids wd T S F) {BV : Value} {B : List Nat} (hb : Rd w (Old w) 1 BV B.length (qa0 B)) (hb8 : ∀ z ∈ B, z < 256) (hlim : ids.length ≤ 20 ∧ T.length ≤ 1100 ∧ S.length ≤ 10 ∧ F.length ≤ 100) (hB40 : B.length ≤ 40) (e0 : qag ids wd T S F = 0) {w1 : World} {b : Frame} (hbf : b.fn = 7) (hbn : b.kind = .normal) {sB : Nat} (hl : Lies w w1) (hs : Blk w1 sB 25 #[VI, .int .i64 wd, VT, VS, VF]) (u20 u21 u22 u23 u24 u25 u26 u27 u28 u29 u30 u31 : Value) :
  Go0 Tryz.prog (AtRet Tryz.prog (fun v w' => v = .bool true ∧ Lies w w')) (G (b.at ⟨#[.agg #[VI, .int .i64 wd, VT, VS, VF], BV, .pointer (some ⟨sB, 0, none⟩), undef, .bool false, undef, undef, undef, undef, undef, undef, undef, undef, undef, undef, undef, undef, undef, undef, undef, u20, u21, u22, u23, u24, u25, u26, u27, u28, u29, u30, u31, undef, undef, undef, undef, undef, undef, undef, undef, undef, undef, undef, undef, undef, undef, undef, undef, undef, undef, undef, undef, undef, undef, undef, undef, undef, undef, undef, undef, undef, undef, undef, undef, undef, undef, undef, undef, undef, undef, undef, undef, undef, undef, undef, undef, undef, undef, undef, undef, undef, undef, undef, undef, undef, undef, undef, undef, undef, undef, undef, undef, undef, undef, undef, undef, undef, undef, undef, undef, undef, undef, undef, undef, undef, undef, undef, undef, undef, undef, undef, undef, undef, undef, undef, undef, undef, undef, undef, undef, undef, undef, undef], []⟩ [.code qkp]) []) w1 := by
 obtain ⟨AI, ci, rfl, _⟩ := ho.i.form
 obtain ⟨AT, ct, rfl, _⟩ := ho.t.form
 obtain ⟨AS, cs, rfl, _⟩ := ho.s.form
 obtain ⟨AF, cf, rfl, _⟩ := ho.f.form
 obtain ⟨bp, bcap, rfl, _⟩ := hb.form
 have hset : ∀ V, Lies w V → SetV V (.slice AI ids.length ci) (.slice AT T.length ct) (.slice AS S.length cs) (.slice AF F.length cf) ids wd T S F := fun V l => l.set (ho.setV oRf (by omega) (by omega) (by omega) (by omega))
 have hsv := hset w (Lies.refl w)
 obtain ⟨W, rfl, hW1, hW4, hSl, hFl, hTl, l, hl0, hp, _⟩ := qdr e0
 obtain ⟨g0, g1, g2⟩ := qf6 e0
 rw [Int.toNat_natCast] at g1 g2
 have hZ64 : ∀ x ∈ qah ids (W : Int) T S F, x < 18446744073709551616 := by rw [g2]; intro x hx; rw [List.eq_of_mem_replicate hx]; decide
 have r1 : fdErr ids W T S F (qah ids (W : Int) T S F) 0 B.length = 0 := by unfold fdErr; rw [g0, if_neg (by simp), if_neg (by omega), if_neg (by omega)]
 have HF0 : ∀ V, Lies w1 V → _ := fun V k => qdq ids W T S F V _ _ _ _ (hset V (hl.trans k)) ((hl.trans k).tz hZ)
 have HF1 : ∀ V u, Lies w1 V → Rd V (fun _ => True) 1 u (qah ids (W : Int) T S F).length (qab (qah ids (W : Int) T S F)) → _ := fun V u k hu => qcu ids W T S F (qah ids (W : Int) T S F) B 0 V _ _ _ _ u _ hZ64 (hset V (hl.trans k)) ((hl.trans k).tz hZ) hu hb8 ((hl.trans k).rd hb.any)
 rw [e0] at HF0
 unfold fdRow fdAt qdh at HF1
 rw [r1] at HF1
 simp only [if_true] at HF1
 rw [g1] at HF1
 have hY64 := qdk (S := S) (W := W) hsv.t64 B _ hZ64
 have hYl : (qan T S W B (qah ids (W : Int) T S F)).length = W := qbf _ _ _ _ _ g1
 have hwant : ∀ i, i < lnEnd 0 l → bitAt (qan T S W B (qah ids (W : Int) T S F)) i = wantK T W B (l.getD (laneI l i) (0, 0, 0)).2.1 (i - (l.getD (laneI l i) (0, 0, 0)).2.1) (i - (l.getD (laneI l i) (0, 0, 0)).2.1 + 1) := fun i hi => by
  rw [g2]; exact qsz hp hSl hsv.t64 B hi
 have HPL := hID (fun (V : World) (k : Lies w1 V) => qkg ids W T S F V _ _ _ _ (hset V (hl.trans k)))
 have HCLS := hID (fun (V : World) (k : Lies w1 V) => qu3 ids W T S F e0 l hl0 V _ _ _ _ (hset V (hl.trans k)))
 have K0 := hID HF0
 have K1 := hID HF1
 obtain ⟨X0, hX0⟩ : ∃ X0, qah ids (W : Int) T S F = X0 := ⟨_, rfl⟩
 rw [hX0] at K0 K1 hY64 hYl hwant g1
 obtain ⟨Y, hYe⟩ : ∃ Y, qan T S W B X0 = Y := ⟨_, rfl⟩
 rw [hYe] at K1 hY64 hYl hwant
 have HYY := hID (And.intro hY64 (And.intro hYl hwant))
 have HG1 := hID g1
 have HHS := hID hs
 have HHL := hID hl
 have HZ := hID hZ
 have HE := hID e0
 have HLL := hID hl0
 have HPO := hID hp
 have HWW := hID (And.intro hW1 hW4)
 have HB8 := hID hb8
 have HB40 := hID hB40
 have HBR := hID (fun (V : World) (k : Lies w1 V) => (hl.trans k).rd hb.any)
 clear HF0 HF1 hset hsv hs hl hZ ho hb hb8 hlim hB40 e0 hW1 hW4 hSl hFl hTl hl0 hp g0 g1 g2 hZ64 r1 hY64 hYl hwant hX0 hYe
 obtain ⟨np, hnp⟩ : ∃ np, (qa8 T S F W ids.length B X0 0).length = np := ⟨_, rfl⟩
 have HNP := hID hnp
 clear hnp
 simp only [qkp, qgm, Tryz.f7, Option.getD_some]
 -- Plan
 refine Go0.seq mild (Go0.wpQ mild fun Q hQ V2 hV => ?_)
 have HQ := hID hQ
 have HL := hID (Lies.same hV)
 have c0 := ((Lies.same hV).blk HHS.out).cell 0
 have c1 := ((Lies.same hV).blk HHS.out).cell 1
 have c2 := ((Lies.same hV).blk HHS.out).cell 2
 have c3 := ((Lies.same hV).blk HHS.out).cell 3
 have c4 := ((Lies.same hV).blk HHS.out).cell 4
 clear hQ hV
 go_wp2_with fail
 refine (HPL.out V2 HL.out).mono ?_
 rintro e w5 ⟨x, A, k, c, rfl, hpl, o5⟩
 obtain ⟨rfl, l2, hl2, hrd⟩ := hpl HE.out
 rw [Int.toNat_natCast, HLL.out] at hl2
 obtain rfl := Option.some.inj hl2
 obtain ⟨A', c', he, hm, _⟩ := hrd.form
 obtain ⟨rfl, rfl, rfl⟩ : A = A' ∧ k = l.length ∧ c = c' := by injection he with e1 e2 e3; exact ⟨e1, e2, e3⟩
 clear he hm
 rw [HE.out]
 have lb := (Lies.refl w5).alloc (.cells #[.int .i64 (W : Int), .slice A l.length c] 62)
 have HL2 := hID ((HL.out.trans (Lies.of' o5)).trans lb)
 have HP := hID (Blk.new w5 62 #[.int .i64 (W : Int), .slice A l.length c])
 have HC := hID (lb.rd hrd.any)
 clear lb hrd o5 HL c0 c1 c2 c3 c4 hpl hl2
 go_wp2_with fail
 refine HQ.out _ _ _ ?_
 clear HQ
 show Go0 _ _ _ _
 revert HL2 HP HC
 generalize w5.heap.size = pB
 generalize w5.alloc _ = w6
 intro HL2 HP HC
 -- Classes
 refine Go0.seq mild (Go0.wpQ mild fun Q hQ V3 hV => ?_)
 have HQ := hID hQ
 have l6 := Lies.same hV
 have HL3 := hID (HL2.out.trans l6)
 have HP3 := hID (l6.blk HP.out)
 have HC3 := hID (l6.rd HC.out)
 have c0 := ((HL2.out.trans l6).blk HHS.out).cell 0
 have c1 := ((HL2.out.trans l6).blk HHS.out).cell 1
 have c2 := ((HL2.out.trans l6).blk HHS.out).cell 2
 have c3 := ((HL2.out.trans l6).blk HHS.out).cell 3
 have c4 := ((HL2.out.trans l6).blk HHS.out).cell 4
 clear hQ hV l6 HL2 HP HC w6
 go_wp2_with fail
 refine (HCLS.out V3 HL3.out).mono ?_
 rintro e w5 ⟨g, L, rfl, -, hcl, hcp, o5⟩
 have l6 := Lies.of' o5
 have HL := hID (HL3.out.trans l6)
 have HP := hID (l6.blk HP3.out)
 have HC := hID (l6.rd HC3.out)
 have HCL := hID hcl
 have HCP := hID hcp
 clear l6 o5 hcl hcp HL3 HP3 HC3 c0 c1 c2 c3 c4
 obtain ⟨n, hn⟩ : ∃ n, lnEnd 0 l = n := ⟨_, rfl⟩
 have HN := hID hn
 rw [hn] at HCL HCP HYY ⊢
 clear hn
 go_wp2_with fail
 refine HQ.out _ _ _ ?_
 clear HQ
 show Go0 _ _ _ _
 -- Start
 refine Go0.seq mild (Go0.wpQ mild fun Q hQ V2 hV => ?_)
 have HQ := hID hQ
 have l6 := Lies.same hV
 have HL3 := hID (HL.out.trans l6)
 have HP3 := hID (l6.blk HP.out)
 have HC3 := hID (l6.rd HC.out)
 have HCL3 := hID (HCL.out.go l6)
 have c0 := ((HL.out.trans l6).blk HHS.out).cell 0
 have c1 := ((HL.out.trans l6).blk HHS.out).cell 1
 have c2 := ((HL.out.trans l6).blk HHS.out).cell 2
 have c3 := ((HL.out.trans l6).blk HHS.out).cell 3
 have c4 := ((HL.out.trans l6).blk HHS.out).cell 4
 clear hQ hV l6 HL HP HC HCL w5
 go_wp2_with fail
 refine (K0.out V2 HL3.out).mono ?_
 rintro e u5 ⟨u, rfl, hu, l5⟩
 obtain ⟨AX, cx, rfl, -⟩ := hu.form
 rw [HG1.out]
 rw [HG1.out] at hu
 have la := (Lies.refl u5).alloc (.cells #[.slice AX W cx, .int .i64 0] 27)
 have l6 := l5.trans la
 have HL := hID (HL3.out.trans l6)
 have HP := hID (l6.blk HP3.out)
 have HC := hID (l6.rd HC3.out)
 have HCL := hID (HCL3.out.go l6)
 have HXR := hID (la.rd hu.any)
 have HX := hID (Blk.new u5 27 #[.slice AX W cx, .int .i64 0])
 have HXL : Hid (w1.heap.size ≤ u5.heap.size ∧ pB ≠ u5.heap.size ∧ g ≠ u5.heap.size) := hID ⟨(HL3.out.trans l5).size, Nat.ne_of_lt (l5.blk HP3.out).lt, Nat.ne_of_lt (HCL3.out.go l5).lt⟩
 have HCB := hID ((l5.rd HC3.out).below.mono (G := fun k => k ≠ u5.heap.size) (fun k hk => by omega))
 have HCC := hID (la.rd HCB.out)
 clear hu l5 la l6 c0 c1 c2 c3 c4 HL3 HP3 HC3 HCL3 HC HCB
 go_wp2_with fail
 refine HQ.out _ _ _ ?_
 clear HQ
 show Go0 _ _ _ _
 revert HL HP HCL HXR HX HXL HCC
 generalize u5.heap.size = xB
 generalize u5.alloc _ = w6
 intro HL HP HCL HXR HX HXL HCC
 refine Go0.seq mild (Go0.seq mild (Go0.wpQ mild fun Q hQ V3 hV => ?_))
 have HQ := hID hQ
 have l6 := Lies.same hV
 have HL3 := hID (HL.out.trans l6)
 have HP3 := hID (l6.blk HP.out)
 have HC3 := hID (l6.rd HCC.out)
 have HCL3 := hID (HCL.out.go l6)
 have HXR3 := hID (l6.rd HXR.out)
 have HX3 := hID (l6.blk HX.out)
 clear hQ hV l6 HL HP HCC HCL HXR HX w6
 go_wp2_with fail
 refine HQ.out _ _ _ ?_
 clear HQ
 show Go0 _ _ _ _
 refine Go0.cond mild (t := false) rfl (Go0.skip mild ?_)
 -- Feed
 refine Go0.seq mild (Go0.region_call mild [_, _, _] _ _ rfl fun Q hQ V4 hV => ?_)
 have l6 := Lies.same hV
 have HL := hID (HL3.out.trans l6)
 have HP := hID (l6.blk HP3.out)
 have HC := hID (l6.rd HC3.out)
 have HCL := hID (HCL3.out.go l6)
 have HX := hID (l6.blk HX3.out)
 have HKK := hID (K1.out V4 (.slice AX W cx) (HL3.out.trans l6) (by exact l6.rd HXR3.out))
 have HQ := hID hQ
 have c0 := ((HL3.out.trans l6).blk HHS.out).cell 0
 have c1 := ((HL3.out.trans l6).blk HHS.out).cell 1
 have c2 := ((HL3.out.trans l6).blk HHS.out).cell 2
 have c3 := ((HL3.out.trans l6).blk HHS.out).cell 3
 have c4 := ((HL3.out.trans l6).blk HHS.out).cell 4
 have x0 := (l6.blk HX3.out).cell 0
 have x1 := (l6.blk HX3.out).cell 1
 clear hQ hV l6 HL3 HP3 HC3 HCL3 HXR3 HX3 V3
 go_wp2_with fail
 refine HQ.out _ _ ⟨by rfl, _, _, _, fun V => ?_, HKK.out, ?_⟩
 ·simp [go_sem]
 clear HQ
 rintro v w5 ⟨u, out, rfl, hu, hout, l5⟩ Q hQ V5 hV
 obtain ⟨AY, cy, rfl, -⟩ := hu.form
 obtain ⟨Ao, co, rfl, -⟩ := hout.form
 have l6 := l5.trans (Lies.same hV)
 have HL5 := hID (HL.out.trans l6)
 have HP5 := hID (l6.blk HP.out)
 have HC5 := hID (l6.rd HC.out)
 have HCL5 := hID (HCL.out.go l6)
 have HX5 := hID (l6.blk HX.out)
 have hxlt := HX.out.lt
 have HU5 := hID ((Lies.same hV).rd (hu.mono (G := fun k => k ≠ xB) (fun k hk => by omega)))
 have HQ := hID hQ
 clear hu hout l5 hV hQ l6 hxlt c0 c1 c2 c3 c4 x0 x1 HL HP HC HCL HX HKK
 rw [HYY.out.2.1, HNP.out]
 rw [HYY.out.2.1] at HU5
 have z0 := HX5.out.cell 0
 have z1 := HX5.out.cell 1
 have f0 := HX5.out.frozen 0
 have f1 := HX5.out.frozen 1
 obtain ⟨ay, hay⟩ : ∃ ay, atV B 0 = ay := ⟨_, rfl⟩
 rw [hay]
 clear hay
 go_wp2_with fail
 refine HQ.out _ _ ?_
 clear HQ z0 z1 f0 f1
 have HL6 : Hid (Lies w1 ((V5.setCell ⟨xB, 0, none⟩ (.slice AY W cy)).setCell ⟨xB, 1, none⟩ (.int .i64 ay))) := hID ((HL5.out.put (p := ⟨xB, 0, none⟩) HXL.out.1 _).put (p := ⟨xB, 1, none⟩) HXL.out.1 _)
 have HP6 := hID ((HP5.out.far (p := ⟨xB, 0, none⟩) HXL.out.2.1 (.slice AY W cy)).far (p := ⟨xB, 1, none⟩) HXL.out.2.1 (.int .i64 ay))
 have HC6 := hID ((HC5.out.keep (put2_off V5 xB (.slice AY W cy) (.int .i64 ay)) (fun k hk he => hk he)).any)
 have HCL6 := hID (HCL5.out.put2 HXL.out.2.2 (.slice AY W cy) (.int .i64 ay))
 have HX6 := hID ((HX5.out.put 0 (.slice AY W cy)).put 1 (.int .i64 ay))
 have HXR6 := hID ((HU5.out.keep (put2_off V5 xB (.slice AY W cy) (.int .i64 ay)) (fun k hk he => hk he)).any)
 clear HL5 HP5 HC5 HCL5 HX5 HU5
 revert HL6 HP6 HC6 HCL6 HX6 HXR6
 generalize World.setCell (World.setCell V5 _ _) _ _ = w7
 intro HL6 HP6 HC6 HCL6 HX6 HXR6
 refine Go0.seq mild (Go0.seq mild (Go0.wpQ mild fun Q hQ V2 hV => ?_))
 have HQ := hID hQ
 have l6 := Lies.same hV
 have HL := hID (HL6.out.trans l6)
 have HP := hID (l6.blk HP6.out)
 have HC := hID (l6.rd HC6.out)
 have HCL := hID (HCL6.out.go l6)
 have HX := hID (l6.blk HX6.out)
 have HXR := hID (l6.rd HXR6.out)
 clear hQ hV l6 HL6 HP6 HC6 HCL6 HX6 HXR6 w7
 go_wp2_with fail
 refine HQ.out _ _ _ ?_
 clear HQ
 show Go0 _ _ _ _
 refine Go0.cond mild (t := false) rfl (Go0.skip mild ?_)
 -- the loop
 obtain ⟨Lb, hLb⟩ : ∃ Lb, B.length = Lb := ⟨_, rfl⟩
 have HLB := hID hLb
 rw [hLb]
 clear hLb
 refine Go0.seq mild (Go0.wp mild (Q := QN fun a w3 => Lies V2 w3 ∧ a.defers = [] ∧ a.tmps.size = 123) (fun τ d => ?_) ?_)
 ·refine Code.wp_mono (fun e a w3 h => ?_) (qw4 (T := T) (B := B) (L := L) HWW.out HPO.out.ok HN.out HB8.out HB40.out HYY.out.1 HYY.out.2.1 HLB.out HYY.out.2.2 (Ride.re V2 τ d) ((Lies.reI V2 τ d).blk HP.out) ((Lies.reI V2 τ d).rd HC.out) ((Lies.reI V2 τ d).blk HX.out) ((Lies.reI V2 τ d).rd HXR.out) ((Lies.reI V2 τ d).rd (by rw [← HLB.out]; exact (HBR.out V2 HL.out).any)) (HCL.out.go (Lies.reI V2 τ d)) HCP.out _ _ _ _ _ _ _ _ _ _ _ _ _ _ _ _ _ _ _ _ _ _ _ _ _ _ _ _ _ _ _ _ _ _ _ _ _ _ _ _ _ _ _ _ _ _ _ _ _ _ _ _ _ _ _)
  cases e with
  | normal => exact ⟨(Lies.reI V2 τ d).trans (Lies.of' h.1), h.2⟩
  | _ => exact h.elim
 intro e a w3 h
 cases e with
 | normal =>
  have hl3 := HHL.out.trans (HL.out.trans h.1)
  exact qbp (hl3.tz HZ.out) hl3 hbn h.2.1 (by rw [hbf]; exact Tryz.func7) (by rw [hbf]; kernel_rfl) rfl rfl rfl rfl rfl rfl rfl (by rw [h.2.2]; decide) (by rw [h.2.2]; decide)
 | _ => exact h.elim
theorem shiftandPositions_walk {w : World} (hZ : TzT w) {VI VT VS VF : Value} {ids : List Int} {wd : Int} {T S F : List Nat} (ho : OSet w VI VT VS VF ids wd T S F) {BV : Value} {B : List Nat} (hb : Rd w (Old w) 1 BV B.length (qa0 B)) (hb8 : ∀ z ∈ B, z < 256) : qe1 7 #[.agg #[VI, .int .i64 wd, VT, VS, VF], BV] w := by
 obtain ⟨AI, ci, rfl, _⟩ := ho.i.form
 obtain ⟨AT, ct, rfl, _⟩ := ho.t.form
 obtain ⟨AS, cs, rfl, _⟩ := ho.s.form
 obtain ⟨AF, cf, rfl, _⟩ := ho.f.form
 obtain ⟨bp, bcap, rfl, _⟩ := hb.form
 have HZ := hID hZ
 have HO := hID ho
 have HBY := hID hb
 have HB8 := hID hb8
 clear hZ ho hb hb8
 have hen : Frame.enter Tryz.prog 7 #[.agg #[.slice AI ids.length ci, .int .i64 wd, .slice AT T.length ct, .slice AS S.length cs, .slice AF F.length cf], .slice bp B.length bcap] .normal = (base 7).at ⟨#[.agg #[.slice AI ids.length ci, .int .i64 wd, .slice AT T.length ct, .slice AS S.length cs, .slice AF F.length cf], .slice bp B.length bcap, undef, undef, undef, undef, undef, undef, undef, undef, undef, undef, undef, undef, undef, undef, undef, undef, undef, undef, undef, undef, undef, undef, undef, undef, undef, undef, undef, undef, undef, undef, undef, undef, undef, undef, undef, undef, undef, undef, undef, undef, undef, undef, undef, undef, undef, undef, undef, undef, undef, undef, undef, undef, undef, undef, undef, undef, undef, undef, undef, undef, undef, undef, undef, undef, undef, undef, undef, undef, undef, undef, undef, undef, undef, undef, undef, undef, undef, undef, undef, undef, undef, undef, undef, undef, undef, undef, undef, undef, undef, undef, undef, undef, undef, undef, undef, undef, undef, undef, undef, undef, undef, undef, undef, undef, undef, undef, undef, undef, undef, undef, undef, undef, undef, undef, undef, undef, undef, undef, undef, undef, undef], []⟩ [.code qgm] := by
  have h := enter_at (P := Tryz.prog) #[.agg #[.slice AI ids.length ci, .int .i64 wd, .slice AT T.length ct, .slice AS S.length cs, .slice AF F.length cf], .slice bp B.length bcap] Tryz.func7 (c := qgm) rfl
  simp only [Tryz.ntmps7, List.size_toArray, List.length_cons, List.length_nil, Nat.reduceAdd, Nat.reduceSub, Array.replicate_succ, Array.replicate_zero, List.push_toArray, List.append_toArray, List.nil_append, List.cons_append] at h
  exact h
 unfold qe1
 rw [hen]
 generalize hbb : base 7 = b
 have hbf : b.fn = 7 := by rw [← hbb]; rfl
 have hbn : b.kind = .normal := by rw [← hbb]; rfl
 clear hen hbb
 simp only [qgm, Tryz.f7, Option.getD_some]
 -- the box
 refine Go0.seq mild (Go0.wpQ mild fun Q hQ V hV => ?_)
 have HQ := hID hQ
 have HL := hID ((Lies.same hV).alloc (.cells #[.slice AI ids.length ci, .int .i64 wd, .slice AT T.length ct, .slice AS S.length cs, .slice AF F.length cf] 25))
 have HS := hID (Blk.new V 25 #[.slice AI ids.length ci, .int .i64 wd, .slice AT T.length ct, .slice AS S.length cs, .slice AF F.length cf])
 clear hQ hV
 go_wp2_with fail
 refine HQ.out _ _ _ ?_
 clear HQ
 show Go0 _ _ _ _
 revert HL HS
 generalize V.heap.size = sB
 generalize World.alloc V _ = u0
 intro HL HS
 -- what is left out
 refine Go0.seq mild (Go0.seq mild (Go0.wpQ mild fun Q hQ V hV => ?_))
 have HQ := hID hQ
 have l := Lies.same hV
 replace HL := hID (HL.out.trans l)
 replace HS := hID (l.blk HS.out)
 clear hQ hV l u0
 have c0 := HS.out.cell 0
 have c1 := HS.out.cell 1
 have c2 := HS.out.cell 2
 have c3 := HS.out.cell 3
 have c4 := HS.out.cell 4
 go_wp2_with fail
 refine (qjl AI AT AS AF ids.length T.length S.length F.length ci ct cs cf wd V).mono ?_
 rintro e u1 ⟨⟨q, rfl, hq⟩, o1⟩
 have l := Lies.of' o1
 replace HL := hID (HL.out.trans l)
 replace HS := hID (l.blk HS.out)
 have HQL := hID hq
 clear hq o1 l c0 c1 c2 c3 c4
 have c0 := HS.out.cell 0
 have c1 := HS.out.cell 1
 have c2 := HS.out.cell 2
 have c3 := HS.out.cell 3
 have c4 := HS.out.cell 4
 cases q
 case true =>
  go_wp2_with fail
  refine HQ.out _ _ _ ?_
  show Go0 _ _ _ _
  refine Go0.cond mild (t := true) rfl ?_
  exact qbp (HL.out.tz HZ.out) HL.out hbn rfl (by rw [hbf]; exact Tryz.func7) (by rw [hbf]; kernel_rfl) rfl rfl rfl rfl rfl rfl rfl (by simp) (by simp)
 case false =>
  have HLIM := hID (HQL.out rfl)
  by_cases h40 : 40 < B.length
  ·have d1 : decide ((40 : Int) < (B.length : Int)) = true := dcT
   have d1n : decide (40 < B.length) = true := decide_eq_true h40
   go_wp2_with fail
   refine HQ.out _ _ _ ?_
   show Go0 _ _ _ _
   refine Go0.cond mild (t := true) rfl ?_
   exact qbp (HL.out.tz HZ.out) HL.out hbn rfl (by rw [hbf]; exact Tryz.func7) (by rw [hbf]; kernel_rfl) rfl rfl rfl rfl rfl rfl rfl (by simp) (by simp)
  ·have d1 : decide ((40 : Int) < (B.length : Int)) = false := dcF
   have d1n : decide (40 < B.length) = false := decide_eq_false h40
   have HCK := hID (qx7 ids wd T S F u1 _ _ _ _ (HL.out.set (HO.out.setV oRf (by have := HLIM.out; omega) (by have := HLIM.out; omega) (by have := HLIM.out; omega) (by have := HLIM.out; omega))))
   have H40 := hID h40
   clear h40
   go_wp2_with fail
   refine HCK.out.mono ?_
   rintro e u2 ⟨rfl, o1⟩
   have l := Lies.of' o1
   replace HL := hID (HL.out.trans l)
   replace HS := hID (l.blk HS.out)
   clear HCK o1 l c0 c1 c2 c3 c4
   by_cases he : qag ids wd T S F = 0
   ·rw [he]
    have HE := hID he
    clear he
    go_wp2_with fail
    have h40 := H40.out
    refine HQ.out _ _ _ ?_
    show Go0 _ _ _ _
    refine Go0.cond mild (t := false) rfl (Go0.skip mild ?_)
    exact qw5 HZ.out HO.out HBY.out HB8.out HLIM.out (by omega) HE.out hbf hbn HL.out HS.out _ _ _ _ _ _ _ _ _ _ _ _
   ·have dd : (qag ids wd T S F != 0) = true := by simpa using he
    clear he
    go_wp2_with fail
    refine HQ.out _ _ _ ?_
    show Go0 _ _ _ _
    refine Go0.cond mild (t := true) rfl ?_
    exact qbp (HL.out.tz HZ.out) HL.out hbn rfl (by rw [hbf]; exact Tryz.func7) (by rw [hbf]; kernel_rfl) rfl rfl rfl rfl rfl rfl rfl (by simp) (by simp)
end Go.Proofs.YtlgjaefcfnndhaaGreatDoor
