/-
 ShiftandSteps: Start, Check, Step, Hits and Alive against the specification's.
-/
import Derived.Test.YtlgjaefcfnndhaaGreatDoorO42
import Derived.Test.YtlgjaefcfnndhaaGreatDoorO44
set_option linter.unusedVariables false
set_option linter.unusedSimpArgs false
set_option maxHeartbeats 16000000
set_option maxRecDepth 100000
namespace Go.Proofs.YtlgjaefcfnndhaaGreatDoor
open Go.RowKit Go.Conc Go.Pip Go.Ride
noncomputable def qej : Code := Tryz.f3.body.getD .skip
noncomputable def qgd : Code := match qej with | .seq _ (.seq _ r) => r | _ => .skip
noncomputable def qge : Code := match qgd with | .seq _ (.seq _ (.seq _ r)) => r | _ => .skip
noncomputable def qif : Code := match qge with | .seq _ (.seq _ (.seq _ (.seq _ (.seq _ r)))) => r | _ => .skip
noncomputable def ssLoop : Code := match qif with | .seq _ (.seq _ (.seq _ (.seq l _))) => l | _ => .skip
structure StH (w : World) (sB xB yB zB : Nat) (sv xv yv zv : Array Value) (V : World) : Prop where
 l : Lies w V
 s : Blk V sB 25 sv
 x : Blk V xB 27 xv
 y : Blk V yB 27 yv
 z : Blk V zB 27 zv
 yl : w.heap.size ≤ yB
 zl : w.heap.size ≤ zB
 ne : sB ≠ yB ∧ xB ≠ yB ∧ zB ≠ yB ∧ sB ≠ zB ∧ xB ≠ zB
section
variable {w V V' : World} {sB xB yB zB : Nat} {sv xv yv zv : Array Value}
theorem StH.go (h : StH w sB xB yB zB sv xv yv zv V) (k : Lies V V') : StH w sB xB yB zB sv xv yv zv V' := ⟨h.l.trans k, k.blk h.s, k.blk h.x, k.blk h.y, k.blk h.z, h.yl, h.zl, h.ne⟩
theorem StH.puty {a b : Value} (h : StH w sB xB yB zB sv xv #[a, b] zv V) (a' b' : Value) : StH w sB xB yB zB sv xv #[a', b'] zv ((V.setCell ⟨yB, 0, none⟩ a').setCell ⟨yB, 1, none⟩ b') :=
 ⟨(h.l.put h.yl _).put h.yl _, (h.s.far h.ne.1 _).far h.ne.1 _, (h.x.far h.ne.2.1 _).far h.ne.2.1 _, (h.y.put 0 a').put 1 b', (h.z.far h.ne.2.2.1 _).far h.ne.2.2.1 _, h.yl, h.zl, h.ne⟩
theorem StH.putz {a b : Value} (h : StH w sB xB yB zB sv xv yv #[a, b] V) (a' b' : Value) : StH w sB xB yB zB sv xv yv #[a', b'] ((V.setCell ⟨zB, 0, none⟩ a').setCell ⟨zB, 1, none⟩ b') :=
 ⟨(h.l.put h.zl _).put h.zl _, (h.s.far h.ne.2.2.2.1 _).far h.ne.2.2.2.1 _, (h.x.far h.ne.2.2.2.2 _).far h.ne.2.2.2.2 _, (h.y.far (Ne.symm h.ne.2.2.1) _).far (Ne.symm h.ne.2.2.1) _, (h.z.put 0 a').put 1 b', h.yl, h.zl, h.ne⟩
end
theorem qjg (V : World) (y : Nat) (a b : Value) : Off (fun j => j = y) V ((V.setCell ⟨y, 0, none⟩ a).setCell ⟨y, 1, none⟩ b) := Off.put (F := fun j => j = y) (Off.put (F := fun j => j = y) oRf (.inl rfl) _) (.inl rfl) _
theorem qiy (L : List Nat) : qat L = (L.map (fun n : Nat => (n : Int))).map (Value.int .i64) := by simp [qat]
def alRow (ids : List Int) (Wd : Int) (T S F X : List Nat) (at_ : Int) : List Ln := if shErr ids Wd T S F X at_ = 0 then qbj (planL ids X.length T S F) (onesN X) else []
theorem qo4 (ids : List Int) (Wd : Int) (T S F X : List Nat) (at_ : Int) (w : World) (VI VT VS VF XV : Value) (hX64 : ∀ x ∈ X, x < 18446744073709551616) (hsv : SetV w VI VT VS VF ids Wd T S F) (hZ : TzT w) (hxv : Rd w (fun _ => True) 1 XV X.length (qab X)) :
  Calls Tryz.prog 22 #[.agg #[VI, .int .i64 Wd, VT, VS, VF], .agg #[XV, .int .i64 at_]] w (qgc w (alRow ids Wd T S F X at_) (shErr ids Wd T S F X at_)) := by
 by_cases h0 : shErr ids Wd T S F X at_ = 0
 ·rw [alRow, h0, if_pos rfl]
  exact qkf ids Wd T S F X at_ w VI VT VS VF XV h0 hX64 hsv hZ hxv
 ·rw [alRow, if_neg h0]
  exact qoz ids Wd T S F X at_ w VI VT VS VF XV _ rfl h0 hX64 hsv hZ hxv
theorem qo5 (ids : List Int) (Wd : Int) (T S F X : List Nat) (at_ : Int) (w : World) (VI VT VS VF XV : Value) (hX64 : ∀ x ∈ X, x < 18446744073709551616) (hsv : SetV w VI VT VS VF ids Wd T S F) (hxv : Rd w (fun _ => True) 1 XV X.length (qab X)) :
  Calls Tryz.prog 23 #[.agg #[VI, .int .i64 Wd, VT, VS, VF], .agg #[XV, .int .i64 at_]] w (qgc w (alRow ids Wd T S F X at_) (shErr ids Wd T S F X at_)) := by
 by_cases h0 : shErr ids Wd T S F X at_ = 0
 ·rw [alRow, h0, if_pos rfl]
  exact qsm ids Wd T S F X at_ w VI VT VS VF XV h0 hX64 hsv hxv
 ·rw [alRow, if_neg h0]
  exact qo3 ids Wd T S F X at_ w VI VT VS VF XV _ rfl h0 hX64 hsv hxv
theorem qwt (X : List Nat) : (onesN X).length ≤ 64 * X.length := by
 unfold onesN
 exact Nat.le_trans (List.length_filter_le _ _) (by simp)
theorem qus (ids : List Int) (Wd : Int) (T S F X : List Nat) (at_ : Int) : (alRow ids Wd T S F X at_).length ≤ 64 * X.length := by
 unfold alRow
 split
 ·simp only [qbj, List.length_map]; exact qwt X
 ·simp
theorem qut (ids : List Int) (Wd : Int) (T S F X : List Nat) (at_ : Int) : (hiRow ids Wd T S F X at_).length ≤ ids.length := by
 unfold hiRow
 split
 ·exact qef _ _ _ _
 ·simp
theorem quu (ids : List Int) (Wd : Int) (T S F X : List Nat) (at_ : Int) (b : Nat) : (stRow ids Wd T S F X at_ b).length ≤ X.length := by
 unfold stRow
 split
 ·rw [qcj]; exact Nat.le_refl _
 ·simp
theorem qsn (ids : List Int) (Wd : Int) (T S F : List Nat) : (qbb ids Wd T S F).length ≤ 4 := by
 unfold qbb
 split
 ·next h =>
  obtain ⟨_, _, _, ⟨W, rfl, _, h4, _⟩, _⟩ := qa8 h
  simpa using h4
 ·simp
theorem qso (L : List Ln) (hL : L.length ≤ 1000000) {n : Nat} (hn : L.length = n) {AC AD : Option Addr} {cc cd : Nat} (A0 A1 A2 A3 A4 : Value) (V : World) (hc : Rd V (fun _ => True) 3 (.slice AC n cc) n (lnV L)) (hd : Rd V (fun _ => True) 3 (.slice AD n cd) n (lnV L)) (u7 u8 u9 u10 u11 u12 u13 u14 u17 u18 u19 u20 u21 u22 u23 u24 u25 u26 u27 u28 u29 u30 u31 u32 u33 u34 u35 u36 u37 u38 u39 u40 u41 u42 u43 u44 u45 u46 u47 u48 u49 u50 u51 u52 u53 u54 u55 u56 u57 u58 u59 u60 u61 u62 u63 u64 u65 u66 u67 u68 u69 u70 u71 u72 u73 u74 u75 u76 u77 u78 u79 u80 u81 u82 u83 u84 u85 u86 u87 u88 u89 u90 u91 u92 u93 u94 u95 u96 u97 u98 u99 u100 u101 u102 u103 u104 u105 u106 u107 u108 u109 u110 u111 u112 u113 u114 u115 u116 u117 u118 u119 u120 u121 u122 : Value) :
  ssLoop.wp Tryz.prog (QN fun a w => Off Nob V w ∧ a.defers = [] ∧ a.tmps.size = 139) ⟨#[A0, A1, A2, A3, A4, undef, .bool false, u7, u8, u9, u10, u11, u12, u13, u14, .slice AC n cc, .slice AD n cd, u17, u18, u19, u20, u21, u22, u23, u24, u25, u26, u27, u28, u29, u30, u31, u32, u33, u34, u35, u36, u37, u38, u39, u40, u41, u42, u43, u44, u45, u46, u47, u48, u49, u50, u51, u52, u53, u54, u55, u56, u57, u58, u59, u60, u61, u62, u63, u64, u65, u66, u67, u68, u69, u70, u71, u72, u73, u74, u75, u76, u77, u78, u79, u80, u81, u82, u83, u84, u85, u86, u87, u88, u89, u90, u91, u92, u93, u94, u95, u96, u97, u98, u99, u100, u101, u102, u103, u104, u105, u106, u107, u108, u109, u110, u111, u112, u113, u114, u115, u116, u117, u118, u119, u120, u121, u122, undef, undef, undef, undef, undef, undef, undef, undef, undef, undef, undef, undef, undef, undef, undef, undef], []⟩ V := by
 subst hn
 obtain ⟨_, _, he, _, hca⟩ := qd3 hc (by decide)
 cases he
 obtain ⟨_, _, he, _, hcb⟩ := qd3 hd (by decide)
 cases he
 have HCA := hID hca
 have HCB := hID hcb
 obtain ⟨n, hn⟩ : ∃ n, L.length = n := ⟨_, rfl⟩
 have HN := hID hn
 rw [hn] at HCA HCB hL ⊢
 clear hca hcb hc hd hn
 simp only [ssLoop, qif, qge, qgd, qej, Tryz.f3, Option.getD_some]
 go_wp2_with fail
 go_loopw [6, 17] (fun q i wr => ∃ k : Nat, k ≤ n ∧ q = .bool false ∧ i = .int .i64 k ∧ Off Nob V wr) (fun _ i _ => n - (intOf i).toNat)
 case atStart => exact ⟨0, Nat.zero_le _, rfl, rfl, Off.refl _ _⟩
 case round =>
  obtain ⟨k, hk1, rfl, rfl, ho⟩ := hrel
  have HO := hID ho
  clear ho
  by_cases h1 : k < n
  ·have d1 : decide ((k : Int) < (n : Int)) = true := dcT
   obtain ⟨b, o, rfl, c1⟩ := HCA.out wr HO.out (by omega)
   obtain ⟨b2, o2, rfl, c2⟩ := HCB.out wr HO.out (by omega)
   obtain ⟨e1, e2, e3⟩ := qc6 (l := L) (k := k) (by rw [HN.out]; exact h1)
   have p1 := c1 _ _ e1
   have p2 := c1 _ _ e2
   have p3 := c1 _ _ e3
   have q1 := c2 _ _ e1
   have q2 := c2 _ _ e2
   have q3 := c2 _ _ e3
   rw [← Nat.add_assoc] at p2 q2 p3 q3
   obtain ⟨x, hx⟩ : ∃ x, (L.getD k (0, 0, 0)).1 = x := ⟨_, rfl⟩
   obtain ⟨y, hy⟩ : ∃ y, (L.getD k (0, 0, 0)).2.1 = y := ⟨_, rfl⟩
   obtain ⟨z, hz⟩ : ∃ z, (L.getD k (0, 0, 0)).2.2 = z := ⟨_, rfl⟩
   rw [hx] at p1 q1
   rw [hy] at p2 q2
   rw [hz] at p3 q3
   clear hx hy hz c1 c2 e1 e2 e3
   go_wp2_with fail
   go_quiet (fail)
   go_wp2_with fail
   go_roundw
   case rel => exact ⟨k + 1, by omega, rfl, by go_num, HO.out.drewN _⟩
   case measure => simp [intOf]; omega
  ·have d1 : decide ((k : Int) < (n : Int)) = false := dcF
   go_wp2_with fail
   exact ⟨HO.out, rfl, rfl⟩
theorem qo6 {w : World} (hZ : TzT w) {VI VT VS VF : Value} {ids : List Int} {wd : Int} {T S F : List Nat} (ho : OSet w VI VT VS VF ids wd T S F) {XV : Value} {X : List Nat} {at_ : Int} (hx : OState w XV X at_) {bt : Nat} (hb8 : bt < 256) (hlim : ids.length ≤ 20 ∧ T.length ≤ 1100 ∧ S.length ≤ 10 ∧ F.length ≤ 100) (hX10 : X.length ≤ 10) {V : World} {b : Frame} (hbf : b.fn = 3) (hbn : b.kind = .normal) {sB xB : Nat} (hl : Lies w V) (hs : Blk V sB 25 #[VI, .int .i64 wd, VT, VS, VF]) (hxb : Blk V xB 27 #[XV, .int .i64 at_]) (u7 u8 u9 u10 u11 u12 u13 u14 u15 u16 u17 u18 u19 u20 u21 u22 u23 u24 u25 u26 u27 u28 u29 u30 u31 u32 u33 u34 u35 u36 u37 u38 u39 u40 u41 u42 u43 u44 u45 u46 u47 u48 u49 u50 u51 u52 u53 u54 u55 u56 u57 u58 u59 u60 u61 u62 u63 u64 u65 u66 u67 u68 u69 u70 u71 u72 u73 u74 u75 u76 u77 u78 u79 u80 u81 u82 u83 u84 u85 u86 u87 u88 u89 u90 u91 u92 u93 u94 u95 u96 u97 u98 u99 u100 : Value) :
  Go0 Tryz.prog (AtRet Tryz.prog (fun v w' => v = .bool true ∧ Lies w w')) (G (b.at ⟨#[.agg #[VI, .int .i64 wd, VT, VS, VF], .agg #[XV, .int .i64 at_], .int .u8 (bt : Int), .pointer (some ⟨sB, 0, none⟩), .pointer (some ⟨xB, 0, none⟩), undef, .bool false, u7, u8, u9, u10, u11, u12, u13, u14, u15, u16, u17, u18, u19, u20, u21, u22, u23, u24, u25, u26, u27, u28, u29, u30, u31, u32, u33, u34, u35, u36, u37, u38, u39, u40, u41, u42, u43, u44, u45, u46, u47, u48, u49, u50, u51, u52, u53, u54, u55, u56, u57, u58, u59, u60, u61, u62, u63, u64, u65, u66, u67, u68, u69, u70, u71, u72, u73, u74, u75, u76, u77, u78, u79, u80, u81, u82, u83, u84, u85, u86, u87, u88, u89, u90, u91, u92, u93, u94, u95, u96, u97, u98, u99, u100, undef, undef, undef, undef, undef, undef, undef, undef, undef, undef, undef, undef, undef, undef, undef, undef, undef, undef, undef, undef, undef, undef, undef, undef, undef, undef, undef, undef, undef, undef, undef, undef, undef, undef, undef, undef, undef, undef], []⟩ [.code qif]) []) V := by
 obtain ⟨AI, ci, rfl, _⟩ := ho.i.form
 obtain ⟨AT, ct, rfl, _⟩ := ho.t.form
 obtain ⟨AS, cs, rfl, _⟩ := ho.s.form
 obtain ⟨AF, cf, rfl, _⟩ := ho.f.form
 obtain ⟨AX, cx, rfl, _⟩ := hx.r.form
 have HSET : Hid (∀ V, Lies w V → SetV V (.slice AI ids.length ci) (.slice AT T.length ct) (.slice AS S.length cs) (.slice AF F.length cf) ids wd T S F) := hID (fun V l => l.set (ho.setV oRf (by omega) (by omega) (by omega) (by omega)))
 have HX : Hid (∀ V, Lies w V → Rd V (fun _ => True) 1 (.slice AX X.length cx) X.length (qab X)) := hID (fun V l => l.rd hx.r.any)
 have HX64 := hID hx.x64
 have HB8 := hID hb8
 have HTZ := hID hZ
 have HL := hID hl
 have HS := hID hs
 have HB := hID hxb
 have HLEN : Hid ((alRow ids wd T S F X at_).length ≤ 1000000) := hID (Nat.le_trans (qus _ _ _ _ _ _ _) (by omega))
 have HNA := hID (fun (V : World) (l : Lies w V) => qo4 ids wd T S F X at_ V _ _ _ _ _ HX64.out (HSET.out V l) (l.tz hZ) (HX.out V l))
 have HRA := hID (fun (V : World) (l : Lies w V) => qo5 ids wd T S F X at_ V _ _ _ _ _ HX64.out (HSET.out V l) (HX.out V l))
 clear ho hx hb8 hZ hlim hX10 hl hs hxb HSET HX
 revert HLEN HNA HRA
 generalize shErr ids wd T S F X at_ = er
 generalize alRow ids wd T S F X at_ = L
 intro HLEN HNA HRA
 obtain ⟨n, hn⟩ : ∃ n, L.length = n := ⟨_, rfl⟩
 have HN := hID hn
 clear hn
 simp only [qif, qge, qgd, qej, Tryz.f3, Option.getD_some]
 -- Alive
 refine Go0.seq mild (Go0.wpQ mild fun Q hQ V2 hV => ?_)
 have l := Lies.same hV
 have HL4 := hID (HL.out.trans l)
 have HS4 := hID (l.blk HS.out)
 have HB4 := hID (l.blk HB.out)
 have HQ := hID hQ
 clear hQ hV l HL HS HB V
 have c0 := HS4.out.cell 0
 have c1 := HS4.out.cell 1
 have c2 := HS4.out.cell 2
 have c3 := HS4.out.cell 3
 have c4 := HS4.out.cell 4
 have x0 := HB4.out.cell 0
 have x1 := HB4.out.cell 1
 go_wp2_with fail
 refine (HNA.out _ HL4.out).mono ?_
 rintro e w5 ⟨u, rfl, hu, l5⟩
 obtain ⟨AC, cc, rfl, -⟩ := hu.form
 have HL := hID (HL4.out.trans l5)
 have HS := hID (l5.blk HS4.out)
 have HB := hID (l5.blk HB4.out)
 have HC := hID hu.any
 clear hu l5 c0 c1 c2 c3 c4 x0 x1 HL4 HS4 HB4 HNA
 rw [HN.out]
 rw [HN.out] at HC
 go_wp2_with fail
 refine HQ.out _ _ _ ?_
 clear HQ
 show Go0 _ _ _ _
 -- the specification's
 refine Go0.seq mild (Go0.wpQ mild fun Q hQ V2 hV => ?_)
 have l := Lies.same hV
 have HL4 := hID (HL.out.trans l)
 have HC4 := hID (l.rd HC.out)
 have HQ := hID hQ
 have c0 := (l.blk HS.out).cell 0
 have c1 := (l.blk HS.out).cell 1
 have c2 := (l.blk HS.out).cell 2
 have c3 := (l.blk HS.out).cell 3
 have c4 := (l.blk HS.out).cell 4
 have x0 := (l.blk HB.out).cell 0
 have x1 := (l.blk HB.out).cell 1
 clear hQ hV l HL HC HS HB w5
 go_wp2_with fail
 refine (HRA.out _ HL4.out).mono ?_
 rintro e w5 ⟨u, rfl, hu, l5⟩
 obtain ⟨AD, cd, rfl, -⟩ := hu.form
 have HL := hID (HL4.out.trans l5)
 have HC := hID (l5.rd HC4.out)
 have HD := hID hu.any
 clear hu l5 c0 c1 c2 c3 c4 x0 x1 HL4 HC4 HRA
 rw [HN.out]
 rw [HN.out] at HD
 go_wp2_with fail
 refine HQ.out _ _ _ ?_
 clear HQ
 show Go0 _ _ _ _
 -- the errors, the lengths
 refine Go0.seq mild (Go0.seq mild (Go0.wpQ mild fun Q hQ V2 hV => ?_))
 have l := Lies.same hV
 have HL4 := hID (HL.out.trans l)
 have HC4 := hID (l.rd HC.out)
 have HD4 := hID (l.rd HD.out)
 have HQ := hID hQ
 have de : (er != er) = false := by simp
 have dn : ((n : Int) != (n : Int)) = false := by simp
 clear hQ hV l HL HC HD w5
 go_wp2_with fail
 refine HQ.out _ _ _ ?_
 clear HQ
 show Go0 _ _ _ _
 clear de dn
 refine Go0.cond mild (t := false) rfl (Go0.skip mild ?_)
 -- the loop
 refine Go0.seq mild (Go0.wp mild (Q := QN fun a w3 => Lies w w3 ∧ a.defers = [] ∧ a.tmps.size = 139) (fun τ d => ?_) ?_)
 ·refine Code.wp_mono (fun e a w3 h => ?_) (qso L HLEN.out HN.out _ _ _ _ _ (Ride.re V2 τ d) ((Lies.reI V2 τ d).rd HC4.out) ((Lies.reI V2 τ d).rd HD4.out) _ _ _ _ _ _ _ _ _ _ _ _ _ _ _ _ _ _ _ _ _ _ _ _ _ _ _ _ _ _ _ _ _ _ _ _ _ _ _ _ _ _ _ _ _ _ _ _ _ _ _ _ _ _ _ _ _ _ _ _ _ _ _ _ _ _ _ _ _ _ _ _ _ _ _ _ _ _ _ _ _ _ _ _ _ _ _ _ _ _ _ _ _ _ _ _ _ _ _ _ _ _ _ _ _ _ _ _ _ _ _ _ _ _)
  cases e with
  | normal => exact ⟨HL4.out.trans (Lies.of h.1), h.2⟩
  | _ => exact h.elim
 intro e a w3 h
 cases e with
 | normal => exact qh5 (h.1.tz HTZ.out) h.1 hbn h.2.1 (by rw [hbf]; exact Tryz.func3) (by rw [hbf]; kernel_rfl) rfl rfl rfl rfl rfl rfl rfl (by rw [h.2.2]; decide) (by rw [h.2.2]; decide)
 | _ => exact h.elim
theorem qo7 {w : World} (hZ : TzT w) {VI VT VS VF : Value} {ids : List Int} {wd : Int} {T S F : List Nat} (ho : OSet w VI VT VS VF ids wd T S F) {XV : Value} {X : List Nat} {at_ : Int} (hx : OState w XV X at_) {bt : Nat} (hb8 : bt < 256) (hlim : ids.length ≤ 20 ∧ T.length ≤ 1100 ∧ S.length ≤ 10 ∧ F.length ≤ 100) (hX10 : X.length ≤ 10) {V : World} {b : Frame} (hbf : b.fn = 3) (hbn : b.kind = .normal) {sB xB yB zB : Nat} {yv0 yv1 zv0 zv1 : Value} (hh : StH w sB xB yB zB #[VI, .int .i64 wd, VT, VS, VF] #[XV, .int .i64 at_] #[yv0, yv1] #[zv0, zv1] V) (u8 u10 u11 u12 u13 u14 u15 u16 u17 u18 u19 u20 u21 u22 u23 u24 u25 u26 u27 u28 u29 u30 u31 u32 u33 u34 u35 u36 u37 u38 u39 u40 u41 u42 u43 u44 u45 u46 u47 u48 u49 u50 u51 u52 u53 u54 : Value) :
  Go0 Tryz.prog (AtRet Tryz.prog (fun v w' => v = .bool true ∧ Lies w w')) (G (b.at ⟨#[.agg #[VI, .int .i64 wd, VT, VS, VF], .agg #[XV, .int .i64 at_], .int .u8 (bt : Int), .pointer (some ⟨sB, 0, none⟩), .pointer (some ⟨xB, 0, none⟩), undef, .bool false, .pointer (some ⟨yB, 0, none⟩), u8, .pointer (some ⟨zB, 0, none⟩), u10, u11, u12, u13, u14, u15, u16, u17, u18, u19, u20, u21, u22, u23, u24, u25, u26, u27, u28, u29, u30, u31, u32, u33, u34, u35, u36, u37, u38, u39, u40, u41, u42, u43, u44, u45, u46, u47, u48, u49, u50, u51, u52, u53, u54, undef, undef, undef, undef, undef, undef, undef, undef, undef, undef, undef, undef, undef, undef, undef, undef, undef, undef, undef, undef, undef, undef, undef, undef, undef, undef, undef, undef, undef, undef, undef, undef, undef, undef, undef, undef, undef, undef, undef, undef, undef, undef, undef, undef, undef, undef, undef, undef, undef, undef, undef, undef, undef, undef, undef, undef, undef, undef, undef, undef, undef, undef, undef, undef, undef, undef, undef, undef, undef, undef, undef, undef, undef, undef, undef, undef, undef, undef, undef, undef, undef, undef, undef, undef], []⟩ [.code qge]) []) V := by
 obtain ⟨AI, ci, rfl, _⟩ := ho.i.form
 obtain ⟨AT, ct, rfl, _⟩ := ho.t.form
 obtain ⟨AS, cs, rfl, _⟩ := ho.s.form
 obtain ⟨AF, cf, rfl, _⟩ := ho.f.form
 obtain ⟨AX, cx, rfl, _⟩ := hx.r.form
 have HSET : Hid (∀ V, Lies w V → SetV V (.slice AI ids.length ci) (.slice AT T.length ct) (.slice AS S.length cs) (.slice AF F.length cf) ids wd T S F) := hID (fun V l => l.set (ho.setV oRf (by omega) (by omega) (by omega) (by omega)))
 have HX : Hid (∀ V, Lies w V → Rd V (fun _ => True) 1 (.slice AX X.length cx) X.length (qab X)) := hID (fun V l => l.rd hx.r.any)
 have HX64 := hID hx.x64
 have HB8 := hID hb8
 have HTZ := hID hZ
 have HO := hID ho
 have HXO := hID hx
 have HLIM := hID hlim
 have HH := hID hh
 have HRL : Hid ((stRow ids wd T S F X at_ bt).length ≤ 4096) := hID (Nat.le_trans (quu _ _ _ _ _ _ _ _) (by omega))
 have HHL : Hid ((hiRow ids wd T S F X at_).length ≤ 1000000) := hID (Nat.le_trans (qut _ _ _ _ _ _ _) (by omega))
 have HNS := hID (fun (V : World) (l : Lies w V) => qsi ids wd T S F X at_ V _ _ _ _ _ bt hb8 HX64.out (HSET.out V l) (l.tz hZ) (HX.out V l))
 have HRS := hID (fun (V : World) (l : Lies w V) => qsj ids wd T S F X at_ V _ _ _ _ _ bt hb8 HX64.out (HSET.out V l) (HX.out V l))
 have HNH := hID (fun (V : World) (l : Lies w V) => qsk ids wd T S F X at_ V _ _ _ _ _ HX64.out (HSET.out V l) (l.tz hZ) (HX.out V l))
 have HRH := hID (fun (V : World) (l : Lies w V) => qsl ids wd T S F X at_ V _ _ _ _ _ HX64.out (HSET.out V l) (HX.out V l))
 clear ho hx hb8 hZ hlim hh HSET HX
 have HX10 := hID hX10
 clear hX10
 revert HRL HHL HNS HRS HNH HRH
 generalize stRow ids wd T S F X at_ bt = Y
 generalize stAt ids wd T S F X at_ = ay
 generalize stErr ids wd T S F X at_ = es
 generalize hiRow ids wd T S F X at_ = L
 generalize hsh : shErr ids wd T S F X at_ = er
 clear hsh
 intro HRL HHL HNS HRS HNH HRH
 obtain ⟨ny, hny⟩ : ∃ ny, Y.length = ny := ⟨_, rfl⟩
 obtain ⟨nl, hnl⟩ : ∃ nl, L.length = nl := ⟨_, rfl⟩
 have HN := hID (And.intro hny hnl)
 clear hny hnl
 simp only [qge, qgd, qej, Tryz.f3, Option.getD_some]
 -- Step
 refine Go0.seq mild (Go0.wpQ mild fun Q hQ V2 hV => ?_)
 have l := Lies.same hV
 have HH2 := hID (HH.out.go l)
 have HQ := hID hQ
 clear hQ hV l HH V
 have c0 := HH2.out.s.cell 0
 have c1 := HH2.out.s.cell 1
 have c2 := HH2.out.s.cell 2
 have c3 := HH2.out.s.cell 3
 have c4 := HH2.out.s.cell 4
 have x0 := HH2.out.x.cell 0
 have x1 := HH2.out.x.cell 1
 go_wp2_with fail
 refine (HNS.out _ HH2.out.l).mono ?_
 rintro e w5 ⟨u, rfl, hu, l5⟩
 obtain ⟨Ay, ky, rfl, -⟩ := hu.form
 have HH5 := hID (HH2.out.go l5)
 have hyl := HH2.out.y.lt
 have hzl := HH2.out.z.lt
 have HR5 := hID (hu.mono (G := fun j => j ≠ yB ∧ j ≠ zB) (fun j hj => by omega))
 clear hu l5 hyl hzl c0 c1 c2 c3 c4 x0 x1 HH2 HNS
 rw [HN.out.1]
 rw [HN.out.1] at HR5
 have z0 := HH5.out.y.cell 0
 have z1 := HH5.out.y.cell 1
 have f0 := HH5.out.y.frozen 0
 have f1 := HH5.out.y.frozen 1
 go_wp2_with fail
 clear z0 z1 f0 f1
 refine HQ.out _ _ _ ?_
 clear HQ
 show Go0 _ _ _ _
 have HH := hID (HH5.out.puty (.slice Ay ny ky) (.int .i64 ay))
 have HU := hID (HR5.out.keep (qjg w5 yB (.slice Ay ny ky) (.int .i64 ay)) (fun k hk he => hk.1 he))
 clear HH5 HR5
 revert HH HU
 generalize ((w5.setCell ⟨yB, 0, none⟩ (.slice Ay ny ky)).setCell ⟨yB, 1, none⟩ (.int .i64 ay)) = w6
 intro HH HU
 -- Step
 refine Go0.seq mild (Go0.wpQ mild fun Q hQ V2 hV => ?_)
 have l := Lies.same hV
 have HH2 := hID (HH.out.go l)
 have HU2 := hID (l.rd HU.out)
 have HQ := hID hQ
 clear hQ hV l HH HU w6
 have c0 := HH2.out.s.cell 0
 have c1 := HH2.out.s.cell 1
 have c2 := HH2.out.s.cell 2
 have c3 := HH2.out.s.cell 3
 have c4 := HH2.out.s.cell 4
 have x0 := HH2.out.x.cell 0
 have x1 := HH2.out.x.cell 1
 go_wp2_with fail
 refine (HRS.out _ HH2.out.l).mono ?_
 rintro e w5 ⟨u, rfl, hu, l5⟩
 obtain ⟨Az, kz, rfl, -⟩ := hu.form
 have HH5 := hID (HH2.out.go l5)
 have hyl := HH2.out.y.lt
 have hzl := HH2.out.z.lt
 have HR5 := hID (hu.mono (G := fun j => j ≠ yB ∧ j ≠ zB) (fun j hj => by omega))
 have HU5 := hID (l5.rd HU2.out)
 clear hu l5 hyl hzl c0 c1 c2 c3 c4 x0 x1 HH2 HRS HU2
 rw [HN.out.1]
 rw [HN.out.1] at HR5
 have z0 := HH5.out.z.cell 0
 have z1 := HH5.out.z.cell 1
 have f0 := HH5.out.z.frozen 0
 have f1 := HH5.out.z.frozen 1
 go_wp2_with fail
 clear z0 z1 f0 f1
 refine HQ.out _ _ _ ?_
 clear HQ
 show Go0 _ _ _ _
 have HH := hID (HH5.out.putz (.slice Az ny kz) (.int .i64 ay))
 have HV := hID (HR5.out.keep (qjg w5 zB (.slice Az ny kz) (.int .i64 ay)) (fun k hk he => hk.2 he))
 have HU := hID (HU5.out.keep (qjg w5 zB (.slice Az ny kz) (.int .i64 ay)) (fun k hk he => hk.2 he))
 clear HH5 HR5 HU5
 revert HH HV HU
 generalize ((w5.setCell ⟨zB, 0, none⟩ (.slice Az ny kz)).setCell ⟨zB, 1, none⟩ (.int .i64 ay)) = w6
 intro HH HV HU
 -- Hits
 refine Go0.seq mild (Go0.wpQ mild fun Q hQ V2 hV => ?_)
 have l := Lies.same hV
 have HH2 := hID (HH.out.go l)
 have HU2 := hID (l.rd HU.out)
 have HV2 := hID (l.rd HV.out)
 have HQ := hID hQ
 clear hQ hV l HH HU HV w6
 have c0 := HH2.out.s.cell 0
 have c1 := HH2.out.s.cell 1
 have c2 := HH2.out.s.cell 2
 have c3 := HH2.out.s.cell 3
 have c4 := HH2.out.s.cell 4
 have x0 := HH2.out.x.cell 0
 have x1 := HH2.out.x.cell 1
 go_wp2_with fail
 refine (HNH.out _ HH2.out.l).mono ?_
 rintro e w7 ⟨u, rfl, hu, l5⟩
 obtain ⟨AC, kC, rfl, -⟩ := hu.form
 have HH := hID (HH2.out.go l5)
 have HU := hID (l5.rd HU2.out)
 have HV := hID (l5.rd HV2.out)
 have HC := hID hu.any
 clear hu l5 c0 c1 c2 c3 c4 x0 x1 HH2 HNH HU2 HV2
 rw [HN.out.2]
 rw [HN.out.2] at HC
 go_wp2_with fail
 refine HQ.out _ _ _ ?_
 clear HQ
 show Go0 _ _ _ _
 -- Hits
 refine Go0.seq mild (Go0.wpQ mild fun Q hQ V2 hV => ?_)
 have l := Lies.same hV
 have HH2 := hID (HH.out.go l)
 have HU2 := hID (l.rd HU.out)
 have HV2 := hID (l.rd HV.out)
 have HC2 := hID (l.rd HC.out)
 have HQ := hID hQ
 clear hQ hV l HH HU HV HC w7
 have c0 := HH2.out.s.cell 0
 have c1 := HH2.out.s.cell 1
 have c2 := HH2.out.s.cell 2
 have c3 := HH2.out.s.cell 3
 have c4 := HH2.out.s.cell 4
 have x0 := HH2.out.x.cell 0
 have x1 := HH2.out.x.cell 1
 go_wp2_with fail
 refine (HRH.out _ HH2.out.l).mono ?_
 rintro e w7 ⟨u, rfl, hu, l5⟩
 obtain ⟨AD, kD, rfl, -⟩ := hu.form
 have HH := hID (HH2.out.go l5)
 have HU := hID (l5.rd HU2.out)
 have HV := hID (l5.rd HV2.out)
 have HC := hID (l5.rd HC2.out)
 have HD := hID hu.any
 clear hu l5 c0 c1 c2 c3 c4 x0 x1 HH2 HRH HU2 HV2 HC2
 rw [HN.out.2]
 rw [HN.out.2] at HD
 go_wp2_with fail
 refine HQ.out _ _ _ ?_
 clear HQ
 show Go0 _ _ _ _
 -- they are the same
 refine Go0.seq mild (Go0.seq mild (Go0.wpQ mild fun Q hQ V2 hV => ?_))
 have l := Lies.same hV
 have HH2 := hID (HH.out.go l)
 have HC2 := hID (l.rd HC.out)
 have HD2 := hID (l.rd HD.out)
 have HSA := hID (qp1 Y HRL.out ay V2 _ _ (by rw [HN.out.1]; exact l.rd HU.out) (by rw [HN.out.1]; exact l.rd HV.out))
 have HQ := hID hQ
 clear hQ hV l HH HC HD HU HV w7
 have y0 := HH2.out.y.cell 0
 have y1 := HH2.out.y.cell 1
 have z0 := HH2.out.z.cell 0
 have z1 := HH2.out.z.cell 1
 have de : (es != es) = false := by simp
 have de2 : (er != er) = false := by simp
 go_wp2_with fail
 refine HSA.out.mono ?_
 rintro e w8 ⟨rfl, o1⟩
 have l := Lies.of' o1
 have HH8 := hID (HH2.out.go l)
 have HIN := hID (qg4 (L.map (fun n : Nat => (n : Int))) (by rw [List.length_map]; exact HHL.out) w8 _ _ (by rw [← qiy, List.length_map, HN.out.2]; exact l.rd HC2.out) (by rw [← qiy, List.length_map, HN.out.2]; exact l.rd HD2.out))
 clear o1 l y0 y1 z0 z1 HSA HH2 HC2 HD2
 go_wp2_with fail
 refine HIN.out.mono ?_
 rintro e w9 ⟨rfl, o1⟩
 have HH := hID (HH8.out.go (Lies.of' o1))
 clear o1 HIN HH8
 go_wp2_with fail
 refine HQ.out _ _ _ ?_
 clear HQ
 show Go0 _ _ _ _
 clear de de2
 refine Go0.cond mild (t := false) rfl (Go0.skip mild ?_)
 exact qo6 HTZ.out HO.out HXO.out HB8.out HLIM.out HX10.out hbf hbn HH.out.l HH.out.s HH.out.x _ _ _ _ _ _ _ _ _ _ _ _ _ _ _ _ _ _ _ _ _ _ _ _ _ _ _ _ _ _ _ _ _ _ _ _ _ _ _ _ _ _ _ _ _ _ _ _ _ _ _ _ _ _ _ _ _ _ _ _ _ _ _ _ _ _ _ _ _ _ _ _ _ _ _ _ _ _ _ _ _ _ _ _ _ _ _ _ _ _ _ _ _ _
theorem qsp {w : World} (hZ : TzT w) {VI VT VS VF : Value} {ids : List Int} {wd : Int} {T S F : List Nat} (ho : OSet w VI VT VS VF ids wd T S F) {XV : Value} {X : List Nat} {at_ : Int} (hx : OState w XV X at_) {bt : Nat} (hb8 : bt < 256) (hlim : ids.length ≤ 20 ∧ T.length ≤ 1100 ∧ S.length ≤ 10 ∧ F.length ≤ 100) (hX10 : X.length ≤ 10) {V : World} {b : Frame} (hbf : b.fn = 3) (hbn : b.kind = .normal) {sB xB : Nat} (hl : Lies w V) (hs : Blk V sB 25 #[VI, .int .i64 wd, VT, VS, VF]) (hxb : Blk V xB 27 #[XV, .int .i64 at_]) (u7 u8 u9 u10 u11 u12 u13 u14 u15 u16 u17 u18 u19 u20 u21 u22 u23 u24 u25 : Value) :
  Go0 Tryz.prog (AtRet Tryz.prog (fun v w' => v = .bool true ∧ Lies w w')) (G (b.at ⟨#[.agg #[VI, .int .i64 wd, VT, VS, VF], .agg #[XV, .int .i64 at_], .int .u8 (bt : Int), .pointer (some ⟨sB, 0, none⟩), .pointer (some ⟨xB, 0, none⟩), undef, .bool false, u7, u8, u9, u10, u11, u12, u13, u14, u15, u16, u17, u18, u19, u20, u21, u22, u23, u24, u25, undef, undef, undef, undef, undef, undef, undef, undef, undef, undef, undef, undef, undef, undef, undef, undef, undef, undef, undef, undef, undef, undef, undef, undef, undef, undef, undef, undef, undef, undef, undef, undef, undef, undef, undef, undef, undef, undef, undef, undef, undef, undef, undef, undef, undef, undef, undef, undef, undef, undef, undef, undef, undef, undef, undef, undef, undef, undef, undef, undef, undef, undef, undef, undef, undef, undef, undef, undef, undef, undef, undef, undef, undef, undef, undef, undef, undef, undef, undef, undef, undef, undef, undef, undef, undef, undef, undef, undef, undef, undef, undef, undef, undef, undef, undef, undef, undef, undef, undef, undef, undef, undef, undef, undef, undef, undef, undef, undef, undef, undef, undef, undef, undef], []⟩ [.code qgd]) []) V := by
 obtain ⟨AI, ci, rfl, _⟩ := ho.i.form
 obtain ⟨AT, ct, rfl, _⟩ := ho.t.form
 obtain ⟨AS, cs, rfl, _⟩ := ho.s.form
 obtain ⟨AF, cf, rfl, _⟩ := ho.f.form
 obtain ⟨AX, cx, rfl, _⟩ := hx.r.form
 have HSET : Hid (∀ V, Lies w V → SetV V (.slice AI ids.length ci) (.slice AT T.length ct) (.slice AS S.length cs) (.slice AF F.length cf) ids wd T S F) := hID (fun V l => l.set (ho.setV oRf (by omega) (by omega) (by omega) (by omega)))
 have HX : Hid (∀ V, Lies w V → Rd V (fun _ => True) 1 (.slice AX X.length cx) X.length (qab X)) := hID (fun V l => l.rd hx.r.any)
 have HX64 := hID hx.x64
 have HB8 := hID hb8
 have HTZ := hID hZ
 have HO := hID ho
 have HXO := hID hx
 have HLIM := hID hlim
 have HL := hID hl
 have HS := hID hs
 have HB := hID hxb
 have HYL : Hid ((qbb ids wd T S F).length ≤ 4096) := hID (Nat.le_trans (qsn _ _ _ _ _) (by omega))
 have HNS := hID (fun (V : World) (l : Lies w V) => qfx ids wd T S F V _ _ _ _ (HSET.out V l) (l.tz hZ))
 have HRS := hID (fun (V : World) (l : Lies w V) => qo1 ids wd T S F V _ _ _ _ (HSET.out V l))
 have HNC := hID (fun (V : World) (l : Lies w V) => qc1 ids wd T S F X HX64.out at_ V _ _ _ _ _ (HSET.out V l) (l.tz hZ) (HX.out V l))
 have HRC := hID (fun (V : World) (l : Lies w V) => qei ids wd T S F X HX64.out at_ V _ _ _ _ _ (HSET.out V l) (HX.out V l))
 have HX10 := hID hX10
 clear ho hx hb8 hZ hlim hl hs hxb HSET HX hX10
 revert HYL HNS HRS HNC HRC
 generalize qbb ids wd T S F = Y0
 generalize qaf ids wd T S F = es
 generalize hsh : shErr ids wd T S F X at_ = er
 clear hsh
 intro HYL HNS HRS HNC HRC
 obtain ⟨ny, hny⟩ : ∃ ny, Y0.length = ny := ⟨_, rfl⟩
 have HN := hID hny
 clear hny
 simp only [qgd, qej, Tryz.f3, Option.getD_some]
 -- Start
 refine Go0.seq mild (Go0.wpQ mild fun Q hQ V2 hV => ?_)
 have l := Lies.same hV
 have HL2 := hID (HL.out.trans l)
 have HS2 := hID (l.blk HS.out)
 have HB2 := hID (l.blk HB.out)
 have HQ := hID hQ
 clear hQ hV l HL HS HB V
 have c0 := HS2.out.cell 0
 have c1 := HS2.out.cell 1
 have c2 := HS2.out.cell 2
 have c3 := HS2.out.cell 3
 have c4 := HS2.out.cell 4
 go_wp2_with fail
 refine (HNS.out _ HL2.out).mono ?_
 rintro e u5 ⟨u, rfl, hu, l5⟩
 obtain ⟨Ay, ky, rfl, -⟩ := hu.form
 rw [HN.out]
 rw [HN.out] at hu
 have la := (Lies.refl u5).alloc (.cells #[.slice Ay ny ky, .int .i64 0] 27)
 have HL := hID ((HL2.out.trans l5).trans la)
 have HS := hID (la.blk (l5.blk HS2.out))
 have HB := hID (la.blk (l5.blk HB2.out))
 have HU := hID (la.rd hu.any)
 have HYB := hID (Blk.new u5 27 #[.slice Ay ny ky, .int .i64 0])
 have HLT : Hid (sB < u5.heap.size ∧ xB < u5.heap.size ∧ w.heap.size ≤ u5.heap.size) := hID ⟨(l5.blk HS2.out).lt, (l5.blk HB2.out).lt, (HL2.out.trans l5).size⟩
 clear hu l5 la c0 c1 c2 c3 c4 HL2 HS2 HB2 HNS
 go_wp2_with fail
 refine HQ.out _ _ _ ?_
 clear HQ
 show Go0 _ _ _ _
 revert HL HS HB HU HYB HLT
 generalize u5.heap.size = yB
 generalize u5.alloc _ = u6
 intro HL HS HB HU HYB HLT
 -- the specification's
 refine Go0.seq mild (Go0.wpQ mild fun Q hQ V2 hV => ?_)
 have l := Lies.same hV
 have HL2 := hID (HL.out.trans l)
 have HS2 := hID (l.blk HS.out)
 have HB2 := hID (l.blk HB.out)
 have HU2 := hID (l.rd HU.out)
 have HYB2 := hID (l.blk HYB.out)
 have HQ := hID hQ
 clear hQ hV l HL HS HB HU HYB u6
 have c0 := HS2.out.cell 0
 have c1 := HS2.out.cell 1
 have c2 := HS2.out.cell 2
 have c3 := HS2.out.cell 3
 have c4 := HS2.out.cell 4
 go_wp2_with fail
 refine (HRS.out _ HL2.out).mono ?_
 rintro e u5 ⟨u, rfl, hu, l5⟩
 obtain ⟨Az, kz, rfl, -⟩ := hu.form
 rw [HN.out]
 rw [HN.out] at hu
 have la := (Lies.refl u5).alloc (.cells #[.slice Az ny kz, .int .i64 0] 27)
 have hyl := (l5.blk HYB2.out).lt
 have HH : Hid (StH w sB xB yB u5.heap.size #[.slice AI ids.length ci, .int .i64 wd, .slice AT T.length ct, .slice AS S.length cs, .slice AF F.length cf] #[.slice AX X.length cx, .int .i64 at_] #[.slice Ay ny ky, .int .i64 0] #[.slice Az ny kz, .int .i64 0] (u5.alloc (.cells #[.slice Az ny kz, .int .i64 0] 27))) := hID ⟨(HL2.out.trans l5).trans la, la.blk (l5.blk HS2.out), la.blk (l5.blk HB2.out), la.blk (l5.blk HYB2.out), Blk.new _ _ _, HLT.out.2.2, (HL2.out.trans l5).size, by have := HLT.out.1; omega, by have := HLT.out.2.1; omega, by omega, by have := (l5.blk HS2.out).lt; omega, by have := (l5.blk HB2.out).lt; omega⟩
 have HU := hID (la.rd (l5.rd HU2.out))
 have HV := hID (la.rd hu.any)
 clear hu l5 la hyl c0 c1 c2 c3 c4 HL2 HS2 HB2 HU2 HYB2 HRS HLT
 go_wp2_with fail
 refine HQ.out _ _ _ ?_
 clear HQ
 show Go0 _ _ _ _
 revert HH HU HV
 generalize u5.heap.size = zB
 generalize u5.alloc _ = u6
 intro HH HU HV
 -- they are the same
 refine Go0.seq mild (Go0.seq mild (Go0.wpP mild fun Q hQ hP V2 hV => ?_))
 have l := (Lies.same hV).trans (Lies.drew V2)
 have G0 := hID (HH.out.go l)
 have HU0 := hID (l.rd HU.out)
 have HV0 := hID (l.rd HV.out)
 have SX0 : Hid ((fun W => (W.cell? ⟨sB, 0, none⟩ = some (.slice AI ids.length ci) ∧ W.cell? ⟨sB, 1, none⟩ = some (.int .i64 wd) ∧ W.cell? ⟨sB, 2, none⟩ = some (.slice AT T.length ct) ∧ W.cell? ⟨sB, 3, none⟩ = some (.slice AS S.length cs) ∧ W.cell? ⟨sB, 4, none⟩ = some (.slice AF F.length cf)) ∧ (W.cell? ⟨xB, 0, none⟩ = some (.slice AX X.length cx) ∧ W.cell? ⟨xB, 1, none⟩ = some (.int .i64 at_)) ∧ (W.cell? ⟨yB, 0, none⟩ = some (.slice Ay ny ky) ∧ W.cell? ⟨yB, 1, none⟩ = some (.int .i64 0)) ∧ W.cell? ⟨zB, 0, none⟩ = some (.slice Az ny kz) ∧ W.cell? ⟨zB, 1, none⟩ = some (.int .i64 0)) V2.drew) := hID ⟨⟨G0.out.s.cell 0, G0.out.s.cell 1, G0.out.s.cell 2, G0.out.s.cell 3, G0.out.s.cell 4⟩, ⟨G0.out.x.cell 0, G0.out.x.cell 1⟩, ⟨G0.out.y.cell 0, G0.out.y.cell 1⟩, G0.out.z.cell 0, G0.out.z.cell 1⟩
 have HQ := hID hQ
 have HP := hID hP
 have de : (es != es) = false := by simp
 have de2 : (er != er) = false := by simp
 clear hQ hP hV l HH HU HV u6
 refine wp_region_held_drew (S := fun W => (W.cell? ⟨sB, 0, none⟩ = some (.slice AI ids.length ci) ∧ W.cell? ⟨sB, 1, none⟩ = some (.int .i64 wd) ∧ W.cell? ⟨sB, 2, none⟩ = some (.slice AT T.length ct) ∧ W.cell? ⟨sB, 3, none⟩ = some (.slice AS S.length cs) ∧ W.cell? ⟨sB, 4, none⟩ = some (.slice AF F.length cf)) ∧ (W.cell? ⟨xB, 0, none⟩ = some (.slice AX X.length cx) ∧ W.cell? ⟨xB, 1, none⟩ = some (.int .i64 at_)) ∧ (W.cell? ⟨yB, 0, none⟩ = some (.slice Ay ny ky) ∧ W.cell? ⟨yB, 1, none⟩ = some (.int .i64 0)) ∧ W.cell? ⟨zB, 0, none⟩ = some (.slice Az ny kz) ∧ W.cell? ⟨zB, 1, none⟩ = some (.int .i64 0)) (by kernel_rfl) SX0.out (fun hHeld => ?_)
 revert hHeld G0 HU0 HV0 SX0
 generalize V2.drew = t0
 intro G0 HU0 HV0 SX0 hHeld
 refine tkP HP.out 0 ?_
 refine tkP HP.out 1 ?_
 refine wpAnyH_ready (rs := [2]) (by kernel_rfl) (by simp) ?_
 refine AllReadyH.cons rfl (fun K hK => ?s5002) ?m5002
 case s5002 =>
  clear SX0
  go_simp
  refine (qp1 Y0 HYL.out 0 t0 _ _ (by rw [HN.out]; exact HU0.out) (by rw [HN.out]; exact HV0.out)).mono ?_
  rintro e t1 ⟨rfl, o1⟩
  have G1 := hID (G0.out.go (Lies.of' o1))
  have SX1 : Hid ((fun W => (W.cell? ⟨sB, 0, none⟩ = some (.slice AI ids.length ci) ∧ W.cell? ⟨sB, 1, none⟩ = some (.int .i64 wd) ∧ W.cell? ⟨sB, 2, none⟩ = some (.slice AT T.length ct) ∧ W.cell? ⟨sB, 3, none⟩ = some (.slice AS S.length cs) ∧ W.cell? ⟨sB, 4, none⟩ = some (.slice AF F.length cf)) ∧ (W.cell? ⟨xB, 0, none⟩ = some (.slice AX X.length cx) ∧ W.cell? ⟨xB, 1, none⟩ = some (.int .i64 at_)) ∧ (W.cell? ⟨yB, 0, none⟩ = some (.slice Ay ny ky) ∧ W.cell? ⟨yB, 1, none⟩ = some (.int .i64 0)) ∧ W.cell? ⟨zB, 0, none⟩ = some (.slice Az ny kz) ∧ W.cell? ⟨zB, 1, none⟩ = some (.int .i64 0)) t1) := hID ⟨⟨G1.out.s.cell 0, G1.out.s.cell 1, G1.out.s.cell 2, G1.out.s.cell 3, G1.out.s.cell 4⟩, ⟨G1.out.x.cell 0, G1.out.x.cell 1⟩, ⟨G1.out.y.cell 0, G1.out.y.cell 1⟩, G1.out.z.cell 0, G1.out.z.cell 1⟩
  clear o1
  go_simp
  refine hK.out _ _ ?_ (fun hHeld => ?_)
  ·exact SX1.out
  clear hK K
  try simp only [Act.put, qL]
  refine tkP HP.out 3 ?_
  refine tkP HP.out 4 ?_
  refine tkP HP.out 5 ?_
  refine tkP HP.out 6 ?_
  refine tkP HP.out 7 ?_
  refine tkP HP.out 8 ?_
  refine tkP HP.out 9 ?_
  refine tkP HP.out 10 ?_
  refine tkP HP.out 11 ?_
  refine tkP HP.out 13 ?_
  refine tkP HP.out 14 ?_
  refine wpAnyH_ready (rs := [12]) (by kernel_rfl) (by simp) ?_
  refine AllReadyH.cons rfl (fun K hK => ?s5014) ?m5014
  case s5014 =>
   clear SX1
   go_simp
   refine (HNC.out _ G1.out.l).mono ?_
   rintro e t2 ⟨rfl, o1⟩
   have G2 := hID (G1.out.go (Lies.of' o1))
   have SX2 : Hid ((fun W => (W.cell? ⟨sB, 0, none⟩ = some (.slice AI ids.length ci) ∧ W.cell? ⟨sB, 1, none⟩ = some (.int .i64 wd) ∧ W.cell? ⟨sB, 2, none⟩ = some (.slice AT T.length ct) ∧ W.cell? ⟨sB, 3, none⟩ = some (.slice AS S.length cs) ∧ W.cell? ⟨sB, 4, none⟩ = some (.slice AF F.length cf)) ∧ (W.cell? ⟨xB, 0, none⟩ = some (.slice AX X.length cx) ∧ W.cell? ⟨xB, 1, none⟩ = some (.int .i64 at_)) ∧ (W.cell? ⟨yB, 0, none⟩ = some (.slice Ay ny ky) ∧ W.cell? ⟨yB, 1, none⟩ = some (.int .i64 0)) ∧ W.cell? ⟨zB, 0, none⟩ = some (.slice Az ny kz) ∧ W.cell? ⟨zB, 1, none⟩ = some (.int .i64 0)) t2) := hID ⟨⟨G2.out.s.cell 0, G2.out.s.cell 1, G2.out.s.cell 2, G2.out.s.cell 3, G2.out.s.cell 4⟩, ⟨G2.out.x.cell 0, G2.out.x.cell 1⟩, ⟨G2.out.y.cell 0, G2.out.y.cell 1⟩, G2.out.z.cell 0, G2.out.z.cell 1⟩
   clear o1
   go_simp
   refine hK.out _ _ ?_ (fun hHeld => ?_)
   ·exact SX2.out
   clear hK K
   try simp only [Act.put, qL]
   refine wpAnyH_ready (rs := [15]) (by kernel_rfl) (by simp) ?_
   refine AllReadyH.cons rfl (fun K hK => ?s5015) ?m5015
   case s5015 =>
    clear SX2
    go_simp
    refine (HRC.out _ G2.out.l).mono ?_
    rintro e t3 ⟨rfl, o1⟩
    have G3 := hID (G2.out.go (Lies.of' o1))
    have SX3 : Hid ((fun W => (W.cell? ⟨sB, 0, none⟩ = some (.slice AI ids.length ci) ∧ W.cell? ⟨sB, 1, none⟩ = some (.int .i64 wd) ∧ W.cell? ⟨sB, 2, none⟩ = some (.slice AT T.length ct) ∧ W.cell? ⟨sB, 3, none⟩ = some (.slice AS S.length cs) ∧ W.cell? ⟨sB, 4, none⟩ = some (.slice AF F.length cf)) ∧ (W.cell? ⟨xB, 0, none⟩ = some (.slice AX X.length cx) ∧ W.cell? ⟨xB, 1, none⟩ = some (.int .i64 at_)) ∧ (W.cell? ⟨yB, 0, none⟩ = some (.slice Ay ny ky) ∧ W.cell? ⟨yB, 1, none⟩ = some (.int .i64 0)) ∧ W.cell? ⟨zB, 0, none⟩ = some (.slice Az ny kz) ∧ W.cell? ⟨zB, 1, none⟩ = some (.int .i64 0)) t3) := hID ⟨⟨G3.out.s.cell 0, G3.out.s.cell 1, G3.out.s.cell 2, G3.out.s.cell 3, G3.out.s.cell 4⟩, ⟨G3.out.x.cell 0, G3.out.x.cell 1⟩, ⟨G3.out.y.cell 0, G3.out.y.cell 1⟩, G3.out.z.cell 0, G3.out.z.cell 1⟩
    clear o1
    go_simp
    refine hK.out _ _ ?_ (fun hHeld => ?_)
    ·exact SX3.out
    clear hK K
    try simp only [Act.put, qL]
    refine tkP HP.out 16 ?_
    refine tkP HP.out 17 ?_
    refine wpAnyH_done (by kernel_rfl) ?_ _
    clear hHeld SX3
    go_wp2_with fail
    refine HQ.out _ _ _ ?_
    show Go0 _ _ _ _
    refine Go0.cond mild (t := false) rfl (Go0.skip mild ?_)
    exact qo7 HTZ.out HO.out HXO.out HB8.out HLIM.out HX10.out hbf hbn G3.out _ _ _ _ _ _ _ _ _ _ _ _ _ _ _ _ _ _ _ _ _ _ _ _ _ _ _ _ _ _ _ _ _ _ _ _ _ _ _ _ _ _ _ _ _ _
   exact AllReadyH.nil
  exact AllReadyH.nil
 exact AllReadyH.nil
theorem shiftandSteps_walk {w : World} (hZ : TzT w) {VI VT VS VF : Value} {ids : List Int} {wd : Int} {T S F : List Nat} (ho : OSet w VI VT VS VF ids wd T S F) {XV : Value} {X : List Nat} {at_ : Int} (hx : OState w XV X at_) {bt : Nat} (hb8 : bt < 256) : qp0 3 #[.agg #[VI, .int .i64 wd, VT, VS, VF], .agg #[XV, .int .i64 at_], .int .u8 (bt : Int)] w := by
 obtain ⟨AI, ci, rfl, _⟩ := ho.i.form
 obtain ⟨AT, ct, rfl, _⟩ := ho.t.form
 obtain ⟨AS, cs, rfl, _⟩ := ho.s.form
 obtain ⟨AF, cf, rfl, _⟩ := ho.f.form
 obtain ⟨AX, cx, rfl, _⟩ := hx.r.form
 have HZ := hID hZ
 have HO := hID ho
 have HX := hID hx
 have HB8 := hID hb8
 clear hZ ho hx hb8
 have hen : Frame.enter Tryz.prog 3 #[.agg #[.slice AI ids.length ci, .int .i64 wd, .slice AT T.length ct, .slice AS S.length cs, .slice AF F.length cf], .agg #[.slice AX X.length cx, .int .i64 at_], .int .u8 (bt : Int)] .normal = (base 3).at ⟨#[.agg #[.slice AI ids.length ci, .int .i64 wd, .slice AT T.length ct, .slice AS S.length cs, .slice AF F.length cf], .agg #[.slice AX X.length cx, .int .i64 at_], .int .u8 (bt : Int), undef, undef, undef, undef, undef, undef, undef, undef, undef, undef, undef, undef, undef, undef, undef, undef, undef, undef, undef, undef, undef, undef, undef, undef, undef, undef, undef, undef, undef, undef, undef, undef, undef, undef, undef, undef, undef, undef, undef, undef, undef, undef, undef, undef, undef, undef, undef, undef, undef, undef, undef, undef, undef, undef, undef, undef, undef, undef, undef, undef, undef, undef, undef, undef, undef, undef, undef, undef, undef, undef, undef, undef, undef, undef, undef, undef, undef, undef, undef, undef, undef, undef, undef, undef, undef, undef, undef, undef, undef, undef, undef, undef, undef, undef, undef, undef, undef, undef, undef, undef, undef, undef, undef, undef, undef, undef, undef, undef, undef, undef, undef, undef, undef, undef, undef, undef, undef, undef, undef, undef, undef, undef, undef, undef, undef, undef, undef, undef, undef, undef, undef, undef, undef, undef, undef, undef], []⟩ [.code qej] := by
  have h := enter_at (P := Tryz.prog) #[.agg #[.slice AI ids.length ci, .int .i64 wd, .slice AT T.length ct, .slice AS S.length cs, .slice AF F.length cf], .agg #[.slice AX X.length cx, .int .i64 at_], .int .u8 (bt : Int)] Tryz.func3 (c := qej) rfl
  simp only [Tryz.ntmps3, List.size_toArray, List.length_cons, List.length_nil, Nat.reduceAdd, Nat.reduceSub, Array.replicate_succ, Array.replicate_zero, List.push_toArray, List.append_toArray, List.nil_append, List.cons_append] at h
  exact h
 unfold qp0
 rw [hen]
 generalize hbb : base 3 = b
 have hbf : b.fn = 3 := by rw [← hbb]; rfl
 have hbn : b.kind = .normal := by rw [← hbb]; rfl
 clear hen hbb
 simp only [qej, Tryz.f3, Option.getD_some]
 -- the boxes
 refine Go0.seq mild (Go0.wpQ mild fun Q hQ V hV => ?_)
 have HQ := hID hQ
 have l0 := (Lies.refl V).alloc (.cells #[.slice AI ids.length ci, .int .i64 wd, .slice AT T.length ct, .slice AS S.length cs, .slice AF F.length cf] 25)
 have HL := hID (((Lies.same hV).trans l0).alloc (.cells #[.slice AX X.length cx, .int .i64 at_] 27))
 have HS := hID ((Blk.new V 25 #[.slice AI ids.length ci, .int .i64 wd, .slice AT T.length ct, .slice AS S.length cs, .slice AF F.length cf]).alloc (.cells #[.slice AX X.length cx, .int .i64 at_] 27))
 have HB := hID (Blk.new (V.alloc (.cells #[.slice AI ids.length ci, .int .i64 wd, .slice AT T.length ct, .slice AS S.length cs, .slice AF F.length cf] 25)) 27 #[.slice AX X.length cx, .int .i64 at_])
 clear hQ hV l0
 go_wp2_with fail
 refine HQ.out _ _ _ ?_
 clear HQ
 show Go0 _ _ _ _
 rw [show (V.alloc (.cells #[.slice AI ids.length ci, .int .i64 wd, .slice AT T.length ct, .slice AS S.length cs, .slice AF F.length cf] 25)).heap.size = V.heap.size + 1 by simp] at HB
 revert HL HS HB
 generalize hxB : V.heap.size + 1 = xB
 generalize V.heap.size = sB
 generalize World.alloc (World.alloc V _) _ = u0
 clear hxB
 intro HL HS HB
 -- what is left out
 refine Go0.seq mild (Go0.seq mild (Go0.wpQ mild fun Q hQ V hV => ?_))
 have HQ := hID hQ
 have l := Lies.same hV
 replace HL := hID (HL.out.trans l)
 replace HS := hID (l.blk HS.out)
 replace HB := hID (l.blk HB.out)
 clear hQ hV l u0
 have c0 := HS.out.cell 0
 have c1 := HS.out.cell 1
 have c2 := HS.out.cell 2
 have c3 := HS.out.cell 3
 have c4 := HS.out.cell 4
 go_wp2_with fail
 refine (qws AI AT AS AF ids.length T.length S.length F.length ci ct cs cf wd V).mono ?_
 rintro e u1 ⟨⟨q, rfl, hq⟩, o1⟩
 have l := Lies.of' o1
 replace HL := hID (HL.out.trans l)
 replace HS := hID (l.blk HS.out)
 replace HB := hID (l.blk HB.out)
 have HQL := hID hq
 clear hq o1 l c0 c1 c2 c3 c4
 have x0 := HB.out.cell 0
 cases q
 case true =>
  go_wp2_with fail
  refine HQ.out _ _ _ ?_
  show Go0 _ _ _ _
  refine Go0.cond mild (t := true) rfl ?_
  exact qh5 (HL.out.tz HZ.out) HL.out hbn rfl (by rw [hbf]; exact Tryz.func3) (by rw [hbf]; kernel_rfl) rfl rfl rfl rfl rfl rfl rfl (by simp) (by simp)
 case false =>
  have HLIM := hID (HQL.out rfl)
  by_cases h10 : 10 < X.length
  ·have d1 : decide ((10 : Int) < (X.length : Int)) = true := dcT
   have d1n : decide (10 < X.length) = true := dT h10
   go_wp2_with fail
   refine HQ.out _ _ _ ?_
   show Go0 _ _ _ _
   refine Go0.cond mild (t := true) rfl ?_
   exact qh5 (HL.out.tz HZ.out) HL.out hbn rfl (by rw [hbf]; exact Tryz.func3) (by rw [hbf]; kernel_rfl) rfl rfl rfl rfl rfl rfl rfl (by simp) (by simp)
  ·have d1 : decide ((10 : Int) < (X.length : Int)) = false := dcF
   have d1n : decide (10 < X.length) = false := dF h10
   go_wp2_with fail
   refine HQ.out _ _ _ ?_
   show Go0 _ _ _ _
   refine Go0.cond mild (t := false) rfl (Go0.skip mild ?_)
   exact qsp HZ.out HO.out HX.out HB8.out HLIM.out (by omega) hbf hbn HL.out HS.out HB.out _ _ _ _ _ _ _ _ _ _ _ _ _ _ _ _ _ _ _
end Go.Proofs.YtlgjaefcfnndhaaGreatDoor
