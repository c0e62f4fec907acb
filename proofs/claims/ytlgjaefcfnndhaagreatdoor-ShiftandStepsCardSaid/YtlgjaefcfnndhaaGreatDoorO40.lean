/-
 dragnetlaw18.Example and dragnetref18.Compile of it.
-/
import Derived.Test.YtlgjaefcfnndhaaGreatDoorO29
set_option linter.unusedVariables false
set_option linter.unusedSimpArgs false
set_option maxHeartbeats 16000000
set_option maxRecDepth 100000
namespace Go.Proofs.YtlgjaefcfnndhaaGreatDoor
open Go.RowKit
theorem Tryz.infoPs : (Tryz.prog.info? 54).map (fun i => (i.zero, i.size, i.bytes)) = some (some (.slice none 0 0), 1, 24) := by kernel_rfl
def SetOf (w : World) (e : Ending) (w' : World) : Prop :=
 ∃ ids tab st fi, e = .returned (.tuple #[.agg #[ids, .int .i64 1, tab, st, fi], .int .i64 0, .int .i64 0]) ∧ Rd w' (fun _ => True) 1 ids 2 [.int .i64 5, .int .i64 9] ∧ Rd w' (fun _ => True) 1 tab 256 (tabV 256) ∧ Rd w' (fun _ => True) 1 st 1 [.int .u64 5] ∧ Rd w' (fun _ => True) 1 fi 2 [.int .u64 2, .int .u64 4] ∧ CapOk tab ∧ CapOk fi ∧ Off Nob w w'
theorem qsc (w : World) (v va vb : Value) (hv : Rd w (fun _ => True) 2 v 2 [.int .i64 5, va, .int .i64 9, vb]) (ha : Rd w (fun _ => True) 8 va 1 el_a) (hb : Rd w (fun _ => True) 8 vb 1 el_b) :
  Calls Tryz.prog 38 #[v] w (SetOf w) := by
 obtain ⟨i_int, h_int, z_int, s_int, b_int⟩ := info_parts Tryz.infoI'
 obtain ⟨i_pas, h_pas, z_pas, s_pas, b_pas⟩ := info_parts Tryz.infoPs
 have HV0 := hID hv
 have Ha := hID ha
 have Hb := hID hb
 obtain ⟨b, o, c, rfl, hc⟩ := hv.cellsT (by decide)
 have HV := HV0
 have GC : Hid (∀ W, Off Nob w W → W.cell? ⟨b, o, none⟩ = some (.int .i64 5) ∧ W.cell? ⟨b, o + 1, none⟩ = some va ∧ W.cell? ⟨b, o + 2, none⟩ = some (.int .i64 9) ∧ W.cell? ⟨b, o + 3, none⟩ = some vb) := hID (fun W ho => ⟨hc W ho 0 _ rfl, hc W ho 1 _ rfl, hc W ho 2 _ rfl, hc W ho 3 _ rfl⟩)
 clear hc hv ha hb HV0
 go_enter Tryz.func38, Tryz.ntmps38
 go_wp2_with fail
 have X0 : Hid (Off Nob w (w.alloc (.cells #[.slice none 0 0, .int .i64 0, .slice none 0 0, .slice none 0 0, .slice none 0 0] 25))) := hID (oAl oRf _)
 have R0 : Hid (Blk (w.alloc (.cells #[.slice none 0 0, .int .i64 0, .slice none 0 0, .slice none 0 0, .slice none 0 0] 25)) w.heap.size 25 #[.slice none 0 0, .int .i64 0, .slice none 0 0, .slice none 0 0, .slice none 0 0]) := hID (Blk.new _ _ _)
 revert X0 R0
 generalize (w.alloc (.cells #[.slice none 0 0, .int .i64 0, .slice none 0 0, .slice none 0 0, .slice none 0 0] 25)) = w0
 intro X0 R0
 have X0' := X0
 clear X0
 have X0 := X0'
 clear X0'
 obtain ⟨c0, c1, c2, c3⟩ := GC.out _ X0.out
 go_wp2_with fail
 refine (qq9 _ _ _ _ (HV.out.keepT X0.out) (Ha.out.keepT X0.out) (Hb.out.keepT X0.out)).mono ?_
 rintro e w1 ⟨rfl, o1⟩
 have X1 := hID (X0.out.also o1)
 have R1 := hID (R0.out.to (o1.block _ R0.out.lt (fun h => h)))
 clear R0
 clear o1 X0
 clear c0 c1 c2 c3
 obtain ⟨c0, c1, c2, c3⟩ := GC.out _ X1.out
 go_wp2_with fail
 refine wp_loop_rounds 3 ?_
 rw [rounds_succ]
 go_wp2_with fail
 refine (qv1 _ _ (Ha.out.keepT X1.out)).mono ?_
 rintro e w2 ⟨u, rfl, hr, o1⟩
 have X2 := hID (X1.out.also o1)
 obtain ⟨hr, o1⟩ := id (And.intro hr o1)
 obtain ⟨AP, kp, rfl, _⟩ := hr.form
 have HP := hID hr.below
 clear hr
 have R2 := hID (R1.out.to (o1.block _ R1.out.lt (fun h => h)))
 clear R1
 clear o1 X1
 clear c0 c1 c2 c3
 obtain ⟨c0, c1, c2, c3⟩ := GC.out _ X2.out
 go_wp2_with (at_builtin; refine @wpList_append_lies _ _ _ _ _ _ _ rfl _ _ 22 rfl w.heap.size 3 i_int (.int .i64 0) 1 8 Tryz.underlying22 h_int z_int s_int b_int rfl (by decide) (.slice none 0 0) (0) ([]) rfl ((OwnL.nilAt X2.out 3 1).1.alloc _) ⟨w2.heap.size, 0, none⟩ 1 1 [.int .i64 5] rfl rfl ?c1 (by decide) (by decide) (by decide) (by decide) (by have := (OwnL.nilAt X2.out 3 1).2.size; simp; omega) _ rfl ?_)
 case c1 => exact qai _ [.int .i64 5] _
 intro gint0 capint0 y0int oW gW hat hlt
 have oo : Off Nob w2 y0int := Off.grown (oAl oRf _) gW (fun k hk => by cases hk)
 have OI := hID ((OwnL.nilAt X2.out 3 1).grown (oAl (Off.refl Nob w2) (.cells #[.int .i64 5] 3)) oW gW)
 have Xa := hID OI.out.2
 have GI : Hid (w2.heap.size ≤ gint0 ∧ gint0 < y0int.heap.size) := hID ⟨hat.elim (fun h => by cases h) (fun h => by rw [h]; simp), hlt⟩
 have HPa := hID (HP.out.keep oo (fun _ _ h => h))
 have Ra := hID (R2.out.to (oo.block _ R2.out.lt (fun h => h)))
 have SZa := hID oo.size
 clear HP R2 oo oW gW hat hlt X2 c0 c1 c2 c3
 obtain ⟨c0, c1, c2, c3⟩ := GC.out _ Xa.out
 go_wp2_with (at_builtin; refine @wpList_append_lies _ _ _ _ _ _ _ rfl _ _ 53 rfl w.heap.size 54 i_pas (.slice none 0 0) 1 24 Tryz.underlying53 h_pas z_pas s_pas b_pas rfl (by decide) (.slice none 0 0) (0) ([]) rfl ((OwnL.nilAt Xa.out 54 1).1.alloc _) ⟨y0int.heap.size, 0, none⟩ 1 1 [.slice AP 2 kp] rfl rfl ?c1 (by intro u hu; simp at hu; subst hu; rfl) (by decide) (by decide) (by decide) (by have := (OwnL.nilAt Xa.out 54 1).2.size; simp; omega) _ rfl ?_)
 case c1 => exact qai _ [.slice AP 2 kp] _
 intro gpas0 cappas0 y0pas oW gW hat hlt
 have oo : Off Nob y0int y0pas := Off.grown (oAl oRf _) gW (fun k hk => by cases hk)
 have OA := hID ((OwnL.nilAt Xa.out 54 1).grown (oAl (Off.refl Nob y0int) (.cells #[.slice AP 2 kp] 54)) oW gW)
 have X3 := hID OA.out.2
 have GA : Hid (w2.heap.size ≤ gpas0 ∧ gpas0 < y0pas.heap.size) := hID ⟨hat.elim (fun h => by cases h) (fun h => by have := SZa.out; rw [h]; simp; omega), hlt⟩
 have OIb := hID (OI.out.off oo)
 have GIb : Hid (w2.heap.size ≤ gint0 ∧ gint0 < y0pas.heap.size) := hID ⟨GI.out.1, Nat.lt_of_lt_of_le GI.out.2 oo.size⟩
 have HPb := hID (HPa.out.keep oo (fun _ _ h => h))
 have R3 := hID (Ra.out.to (oo.block _ Ra.out.lt (fun h => h)))
 clear HPa Ra OI GI oo oW gW hat hlt Xa SZa c0 c1 c2 c3
 obtain ⟨c0, c1, c2, c3⟩ := GC.out _ X3.out
 go_wp2_with fail
 rw [rounds_succ]
 go_wp2_with fail
 refine (qv2 _ _ (Hb.out.keepT X3.out)).mono ?_
 rintro e w3 ⟨u, rfl, hr, o1⟩
 have X4 := hID (X3.out.also o1)
 obtain ⟨hr, o1⟩ := id (And.intro hr o1)
 obtain ⟨AQ, kq, rfl, _⟩ := hr.form
 have HQ := hID hr
 clear hr
 have HPc := hID (HPb.out.keep o1 (fun _ _ h => h))
 have OIc := hID (OIb.out.off o1)
 have OAc := hID (OA.out.off o1)
 clear HPb OIb OA
 have R4 := hID (R3.out.to (o1.block _ R3.out.lt (fun h => h)))
 clear R3
 clear o1 X3
 clear c0 c1 c2 c3
 obtain ⟨c0, c1, c2, c3⟩ := GC.out _ X4.out
 go_wp2_with (at_builtin; refine @wpList_append_lies _ _ _ _ _ _ _ rfl _ _ 22 rfl w.heap.size 3 i_int (.int .i64 0) 1 8 Tryz.underlying22 h_int z_int s_int b_int rfl (by decide) (.slice (some ⟨gint0, 0, none⟩) (0 + 1) capint0) (0 + 1) ([] ++ [.int .i64 5]) rfl (OIc.out.1.alloc _) ⟨w3.heap.size, 0, none⟩ 1 1 [.int .i64 9] rfl rfl ?c1 (by decide) (by decide) (by decide) (by decide) (by have := OIc.out.2.size; simp; omega) _ rfl ?_)
 case c1 => exact qai _ [.int .i64 9] _
 intro gint1 capint1 y1int oW gW hat hlt
 have oo : Off (fun k => k = gint0) w3 y1int := Off.grown (oAl oRf _) gW (fun k hk => .inl (by injection hk with hk; exact hk.symm))
 have OId := hID (OIc.out.grown (oAl (Off.refl Nob w3) (.cells #[.int .i64 9] 3)) oW gW)
 have Xa := hID OId.out.2
 have HPd := hID (HPc.out.keep oo (fun k hk h => by have h2 : k = gint0 := h; have hk2 : k < w2.heap.size := hk; have := GIb.out; omega))
 have HQd := hID (HQ.out.keep oo (fun k hk h => by have h2 : k = gint0 := h; have hk2 : y0pas.heap.size ≤ k := hk; have := GIb.out; omega))
 have OAd : Hid (OwnL w y1int 54 1 (.slice (some ⟨gpas0, 0, none⟩) (0 + 1) cappas0) (0 + 1) ([] ++ [.slice AP 2 kp])) := hID ⟨qao OAc.out.1 (fun g hg => oo.block _ (OAc.out.1.lt g hg).2 (fun e => qbs OIc.out.1 OAc.out.1 (by decide) (((by simpa [Value.ownBlock] using hg : gpas0 = g).trans e).symm))), Xa.out⟩
 have Ra := hID (R4.out.to (oo.block _ R4.out.lt (fun e => qam OIc.out.1 R4.out (by decide) e.symm)))
 clear HPc HQ OIc OAc R4 oo oW gW hat hlt X4 c0 c1 c2 c3
 obtain ⟨c0, c1, c2, c3⟩ := GC.out _ Xa.out
 go_wp2_with (at_builtin; refine @wpList_append_lies _ _ _ _ _ _ _ rfl _ _ 53 rfl w.heap.size 54 i_pas (.slice none 0 0) 1 24 Tryz.underlying53 h_pas z_pas s_pas b_pas rfl (by decide) (.slice (some ⟨gpas0, 0, none⟩) (0 + 1) cappas0) (0 + 1) ([] ++ [.slice AP 2 kp]) rfl (OAd.out.1.alloc _) ⟨y1int.heap.size, 0, none⟩ 1 1 [.slice AQ 1 kq] rfl rfl ?c1 (by intro u hu; simp at hu; subst hu; rfl) (by decide) (by decide) (by decide) (by have := OAd.out.2.size; simp; omega) _ rfl ?_)
 case c1 => exact qai _ [.slice AQ 1 kq] _
 intro gpas1 cappas1 y1pas oW gW hat hlt
 have oo : Off (fun k => k = gpas0) y1int y1pas := Off.grown (oAl oRf _) gW (fun k hk => .inl (by injection hk with hk; exact hk.symm))
 have OAe := hID (OAd.out.grown (oAl (Off.refl Nob y1int) (.cells #[.slice AQ 1 kq] 54)) oW gW)
 have Xb := hID OAe.out.2
 have HPe := hID (Rd.any (HPd.out.keep oo (fun k hk h => by have h2 : k = gpas0 := h; have hk2 : k < w2.heap.size := hk; have := GA.out; omega)))
 have HQe := hID (Rd.any (HQd.out.keep oo (fun k hk h => by have h2 : k = gpas0 := h; have hk2 : y0pas.heap.size ≤ k := hk; have := GA.out; omega)))
 have OIe := hID (Rd.own (qao (w' := y1pas) OId.out.1 (fun g hg => oo.block _ (OId.out.1.lt g hg).2 (fun e => qbs OAd.out.1 OId.out.1 (by decide) (((by simpa [Value.ownBlock] using hg : gint1 = g).trans e).symm)))) (F := fun _ => True) (fun _ _ => trivial))
 have Rb := hID (Ra.out.to (oo.block _ Ra.out.lt (fun e => qam OAd.out.1 Ra.out (by decide) e.symm)))
 clear HPd HQd OId OAd Ra oo oW gW hat hlt Xa c0 c1 c2 c3
 obtain ⟨c0, c1, c2, c3⟩ := GC.out _ Xb.out
 go_wp2_with fail
 rw [rounds_succ]
 go_wp2_with fail
 refine (qwd _ _ _ _ _ OIe.out OAe.out.rd HPe.out HQe.out).mono ?_
 rintro e y9 ⟨ids, tab, st, fi, rfl, h1, h2, h3, h4, hq2, hq4, o9⟩
 have HQ2 := hID hq2
 have HQ4 := hID hq4
 clear hq2 hq4
 have Rz := hID (Rb.out.to (o9.block _ Rb.out.lt (fun h => h)))
 have SZ : w.heap.size < y1pas.heap.size := Rb.out.lt
 have X9 := hID (Xb.out.also o9)
 have r0 := Rz.out.cell 0
 have r1 := Rz.out.cell 1
 have r2 := Rz.out.cell 2
 have r3 := Rz.out.cell 3
 have r4 := Rz.out.cell 4
 simp only [qG] at r0 r1 r2 r3 r4
 have f0 := Rz.out.frozen 0
 have f1 := Rz.out.frozen 1
 have f2 := Rz.out.frozen 2
 have f3 := Rz.out.frozen 3
 have f4 := Rz.out.frozen 4
 have oF : Off (fun k => k = w.heap.size) y9 (y9.setCells w.heap.size 0 [ids, .int .i64 1, tab, st, fi]) := qpq y9 w.heap.size 0 _
 have RB := hID (qgy Rz.out ids (.int .i64 1) tab st fi)
 have RO := hID (qay X9.out (Nat.le_refl _) 0 [ids, .int .i64 1, tab, st, fi])
 have K1 := hID (Rd.any (h1.keep oF (fun k hk h => by have e2 : k = w.heap.size := h; have hk2 : y1pas.heap.size ≤ k := hk; omega)))
 have K2 := hID (Rd.any (h2.keep oF (fun k hk h => by have e2 : k = w.heap.size := h; have hk2 : y1pas.heap.size ≤ k := hk; omega)))
 have K3 := hID (Rd.any (h3.keep oF (fun k hk h => by have e2 : k = w.heap.size := h; have hk2 : y1pas.heap.size ≤ k := hk; omega)))
 have K4 := hID (Rd.any (h4.keep oF (fun k hk h => by have e2 : k = w.heap.size := h; have hk2 : y1pas.heap.size ≤ k := hk; omega)))
 obtain ⟨A1, k1, rfl, _⟩ := h1.form
 obtain ⟨A2, k2, rfl, _⟩ := h2.form
 obtain ⟨A3, k3, rfl, _⟩ := h3.form
 obtain ⟨A4, k4, rfl, _⟩ := h4.form
 clear h1 h2 h3 h4 oF o9 X9 Rz SZ
 go_wp2_with fail
 exact bodyPost_ret (qa1 rfl _ _ _ _ _ (0, 0) _ rfl RB.out Tryz.underlying25 rfl Tryz.infoTs) rfl ⟨_, _, _, _, rfl, K1.out, K2.out, K3.out, K4.out, HQ2.out, HQ4.out, RO.out⟩
end Go.Proofs.YtlgjaefcfnndhaaGreatDoor
