/-
 dragnetlaw18.Example.
-/
import Derived.Test.YtlgjaefcfnndhaaGreatDoorP15
import Derived.Test.YtlgjaefcfnndhaaGreatDoorP10
import Derived.Lib.SlBytesConst
import Derived.Test.YtlgjaefcfnndhaaGreatDoorP34
import Derived.Test.YtlgjaefcfnndhaaGreatDoorP35
import Derived.Test.YtlgjaefcfnndhaaGreatDoorP42
import Derived.Test.YtlgjaefcfnndhaaGreatDoorP16
import Derived.Test.YtlgjaefcfnndhaaGreatDoorP39
set_option linter.unusedVariables false
set_option linter.unusedSimpArgs false
set_option maxHeartbeats 16000000
set_option maxRecDepth 100000
namespace Go.Proofs.YtlgjaefcfnndhaaGreatDoor
section
open Go.RowKit
theorem qfb (w : World) (xs : List Value) (t : TypeId) (size n : Nat) (hl : xs.length = n * size) (hn : n ≤ maxLen) : Rd (w.alloc (.cells xs.toArray t)) (fun _ => True) size (.slice (some ⟨w.heap.size, 0, none⟩) n n) n xs :=
 ⟨_, _, rfl, hn, hl, fun _ => ⟨w.heap.size, 0, rfl, trivial, by simp, fun j u hu => by rw [← qam]; exact qby w xs t j u hu⟩⟩
theorem qtn (w : World) : Calls Tryz.prog 39 #[] w fun e w' => ∃ v va vb, e = .returned v ∧ Rd w' (fun _ => True) 2 v 2 [.int .i64 5, va, .int .i64 9, vb] ∧ Rd w' (fun _ => True) 8 va 1 el_a ∧ Rd w' (fun _ => True) 8 vb 1 el_b ∧ Off Nob w w' := by
 go_enter Tryz.func39, Tryz.ntmps39
 go_wp2_with fail
 have hcv := Lib.run_convert_bytes_const (P := Tryz.prog) (w.alloc (.cells #[.int .i64 1, .string ⟨#[97, 98]⟩, .int .u64 0, .int .u64 0, .int .u64 0, .int .u64 0, .int .i64 0, .int .i64 0] 126)) 45 5 #[.int .u8 97, .int .u8 98] 2 2 Tryz.underlying45 Tryz.underlying5
 rw [World.size_alloc] at hcv
 rw [hcv]
 clear hcv
 go_wp2_with fail
 have X2 : Hid (Off Nob w ((w.alloc (.cells #[.int .i64 1, .string ⟨#[97, 98]⟩, .int .u64 0, .int .u64 0, .int .u64 0, .int .u64 0, .int .i64 0, .int .i64 0] 126)).alloc (.cells #[.int .u8 97, .int .u8 98] 5 (2, 3)))) := hID ((oAl oRf _).alloc _)
 have RA : Hid (Rd ((w.alloc (.cells #[.int .i64 1, .string ⟨#[97, 98]⟩, .int .u64 0, .int .u64 0, .int .u64 0, .int .u64 0, .int .i64 0, .int .i64 0] 126)).alloc (.cells #[.int .u8 97, .int .u8 98] 5 (2, 3))) (fun _ => True) 8 (.slice (some ⟨w.heap.size, 0, none⟩) 1 1) 1 el_a) := hID ⟨_, _, rfl, by decide, rfl, fun _ => ⟨w.heap.size, 0, rfl, trivial, by simp; omega, fun j u hu => by rw [Nat.zero_add, cell_of_row _ w.heap.size j #[.int .i64 1, .string ⟨#[97, 98]⟩, .int .u64 0, .int .u64 0, .int .u64 0, .int .u64 0, .int .i64 0, .int .i64 0] 126 (0, 0) ((Blk.new w 126 #[.int .i64 1, .string ⟨#[97, 98]⟩, .int .u64 0, .int .u64 0, .int .u64 0, .int .u64 0, .int .i64 0, .int .i64 0]).alloc _)]; simpa [el_a] using hu⟩⟩
 have RC : Hid (Rd ((w.alloc (.cells #[.int .i64 1, .string ⟨#[97, 98]⟩, .int .u64 0, .int .u64 0, .int .u64 0, .int .u64 0, .int .i64 0, .int .i64 0] 126)).alloc (.cells #[.int .u8 97, .int .u8 98] 5 (2, 3))) (fun _ => True) 1 (.slice (some ⟨w.heap.size + 1, 0, none⟩) 2 2) 2 [.int .u8 97, .int .u8 98]) := hID ⟨_, _, rfl, by decide, rfl, fun _ => ⟨w.heap.size + 1, 0, rfl, trivial, by simp, fun j u hu => by
  have h : ((w.alloc (.cells #[.int .i64 1, .string ⟨#[97, 98]⟩, .int .u64 0, .int .u64 0, .int .u64 0, .int .u64 0, .int .i64 0, .int .i64 0] 126)).alloc (.cells #[.int .u8 97, .int .u8 98] 5 (2, 3))).heap[w.heap.size + 1]? = some (.cells #[.int .u8 97, .int .u8 98] 5 (2, 3)) := by
   have := heap_alloc_new (w.alloc (.cells #[.int .i64 1, .string ⟨#[97, 98]⟩, .int .u64 0, .int .u64 0, .int .u64 0, .int .u64 0, .int .i64 0, .int .i64 0] 126)) (.cells #[.int .u8 97, .int .u8 98] 5 (2, 3))
   rwa [World.size_alloc] at this
  rw [Nat.zero_add, cell_of_row _ (w.heap.size + 1) j #[.int .u8 97, .int .u8 98] 5 (2, 3) h]
  simpa using hu⟩⟩
 revert X2 RA RC
 generalize ((w.alloc (.cells #[.int .i64 1, .string ⟨#[97, 98]⟩, .int .u64 0, .int .u64 0, .int .u64 0, .int .u64 0, .int .i64 0, .int .i64 0] 126)).alloc (.cells #[.int .u8 97, .int .u8 98] 5 (2, 3))) = w2
 intro X2 RA RC
 refine (qxg _ _ RC.out).mono ?_
 rintro e w3 ⟨rfl, o3⟩
 have X3 := hID (X2.out.also o3)
 have RA3 := hID (RA.out.keepT o3)
 clear o3 RC RA X2
 go_wp2_with fail
 have R1 := qfb w3 el_b 126 8 1 rfl (by decide)
 have o1 : Off Nob w3 (w3.alloc (.cells el_b.toArray 126)) := oAl oRf _
 have R2 := qfb (w3.alloc (.cells el_b.toArray 126)) [.int .i64 5, .slice (some ⟨w.heap.size, 0, none⟩) 1 1, .int .i64 9, .slice (some ⟨w3.heap.size, 0, none⟩) 1 1] 124 2 2 rfl (by decide)
 rw [World.size_alloc] at R2
 have o2 : Off Nob (w3.alloc (.cells el_b.toArray 126)) ((w3.alloc (.cells el_b.toArray 126)).alloc (.cells [.int .i64 5, .slice (some ⟨w.heap.size, 0, none⟩) 1 1, .int .i64 9, .slice (some ⟨w3.heap.size, 0, none⟩) 1 1].toArray 124)) := oAl oRf _
 go_ret
 exact ⟨_, _, _, rfl, R2, (RA3.out.keepT (o1.also o2)), R1.keepT o2, X3.out.also (o1.also o2)⟩
end
section
open Go.RowKit Go.Conc Go.Pip Go.Ride
def xTab : List Nat := (List.range 256).map fun j => if j = 97 then 5 else if j = 98 then 6 else 0
theorem qoz : xTab.length = 256 := by simp [xTab]
theorem q13 : qab xTab = tabV 256 := by
 unfold qab xTab tabV
 rw [List.map_map]
 apply List.map_congr_left
 intro j hj
 have : j < 256 := List.mem_range.1 hj
 simp only [Function.comp, if_pos this, rowB]
 by_cases h1 : j = 97
 ·simp [h1]
 ·by_cases h2 : j = 98
  ·simp [h2]
  ·simp [h1, h2]
theorem q0f : ∀ x ∈ xTab, x < 18446744073709551616 := by
 intro x hx
 unfold xTab at hx
 obtain ⟨j, _, rfl⟩ := List.mem_map.1 hx
 split
 ·decide
 ·split <;> decide
theorem x_set : qan [5, 9] 1 xTab [5] [2, 4] = 0 := by kernel_rfl
theorem x_sh0 : shErr [5, 9] 1 xTab [5] [2, 4] [0] 0 = 0 := by kernel_rfl
theorem x_sh1 : shErr [5, 9] 1 xTab [5] [2, 4] [5] 1 = 0 := by kernel_rfl
theorem x_sh2 : shErr [5, 9] 1 xTab [5] [2, 4] [5] 2 = 0 := by kernel_rfl
theorem x_sh3 : shErr [5, 9] 1 xTab [5] [2, 4] [6] 3 = 0 := by kernel_rfl
theorem x_rd0 : rdTo 1 xTab [5] [0] 97 1 = [5] := by kernel_rfl
theorem x_rd1 : rdTo 1 xTab [5] [5] 97 1 = [5] := by kernel_rfl
theorem x_rd2 : rdTo 1 xTab [5] [5] 98 1 = [6] := by kernel_rfl
theorem qv7 : hitsN [2, 4] [5] 1 2 = [1] := by kernel_rfl
theorem q14 : hitsN [2, 4] [6] 1 2 = [0, 1] := by kernel_rfl
theorem x_run : qdt [5, 9] 1 xTab [5] [2, 4] [97, 97, 98] = [(1, 1), (2, 1), (3, 0), (3, 1)] := by kernel_rfl
theorem q15 : ruErr [5, 9] 1 xTab [5] [2, 4] 3 = 0 := by kernel_rfl
theorem q16 : qbl [5, 9] 1 xTab [5] [2, 4] = [0] := by kernel_rfl
theorem q0g : qdc (planL [5, 9] 1 xTab [5] [2, 4]) (onesN [6]) = [(0, 0, 2), (1, 2, 1)] := by kernel_rfl
end
section
open Go.RowKit Go.Conc Go.Pip Go.Ride
theorem qkw (V : World) (xs : List Value) (t : TypeId) (sz n : Nat) (hl : xs.length = n * sz) (hn : n ≤ maxLen) : Rd (V.alloc (.cells xs.toArray t)) (fun k => k = V.heap.size) sz (.slice (some ⟨V.heap.size, 0, none⟩) n n) n xs :=
 ⟨_, _, rfl, hn, hl, fun _ => ⟨_, 0, rfl, rfl, by simp, fun j u hu => by rw [Nat.zero_add, World.cell?_alloc_new]; simpa using hu⟩⟩
theorem qv8 (P : Program) (V : World) (cs : Array Value) (t : TypeId) : (shape V.heap.size).run P (V.alloc (.cells cs t)) = .ok (some (t, cs.size)) (V.alloc (.cells cs t)) := by
 have h : (V.alloc (.cells cs t)).heap[V.heap.size]? = some (.cells cs t (0, 0)) := heap_alloc_new V _
 unfold shape
 simp only [Sem.run, World.shape?, h]
theorem qto (V : World) (cs : Array Value) (t : TypeId) (k : Nat) : (V.alloc (.cells cs t)).freeze ⟨V.heap.size, k, none⟩ 1 = V.alloc (.cells cs t (k, k + 1)) := by
 unfold World.freeze World.alloc
 rw [if_neg (by decide)]
 congr 1
 apply Array.ext_getElem?
 intro i
 rw [Array.getElem?_modify]
 rcases Nat.lt_trichotomy i V.heap.size with h | h | h
 ·rw [if_neg (by dsimp only; omega), Array.getElem?_push_lt h, Array.getElem?_push_lt h]
 ·subst h
  simp
 ·rw [if_neg (by dsimp only; omega)]
  simp [Array.getElem?_push, Nat.ne_of_gt h, Array.getElem?_eq_none (Nat.le_of_lt h)]
theorem qyn (V : World) (cs : Array Value) (t : TypeId) (n c : Nat) : (convert 45 45 (.slice (some ⟨V.heap.size, 0, none⟩) n c)).run Tryz.prog (V.alloc (.cells cs t)) = .ok (.slice (some ⟨V.heap.size, 0, none⟩) n c) (V.alloc (.cells cs t (cs.size, cs.size + 1))) := by
 have h1 := qv8 Tryz.prog V cs t
 have u1 : (underlying 45).run Tryz.prog (V.alloc (.cells cs t)) = .ok (.slice 5) (V.alloc (.cells cs t)) := by kernel_rfl
 have u2 : (underlying 5).run Tryz.prog (V.alloc (.cells cs t)) = .ok (.int .u8) (V.alloc (.cells cs t)) := by kernel_rfl
 unfold convert
 simp only [Sem.run_bind, u1, u2, Result.andThen_ok, markStringish, h1, freeze, Sem.run, qto, beq_self_eq_true]
 rfl
theorem q0h (V : World) (xs : List Value) (t : TypeId) (fr : Nat × Nat) (sz n : Nat) (hl : xs.length = n * sz) (hn : n ≤ maxLen) : Rd (V.alloc (.cells xs.toArray t fr)) (fun k => k = V.heap.size) sz (.slice (some ⟨V.heap.size, 0, none⟩) n n) n xs :=
 ⟨_, _, rfl, hn, hl, fun _ => ⟨_, 0, rfl, rfl, by simp, fun j u hu => by
  rw [Nat.zero_add, cell_of_row _ V.heap.size j xs.toArray t fr (heap_alloc_new V _)]
  simpa using hu⟩⟩
noncomputable def sBody : Code := Tryz.f11.body.getD .skip
noncomputable def sTail : Code := match sBody with | .seq _ (.seq _ (.seq _ (.seq _ (.seq _ (.seq _ (.seq _ (.seq _ r))))))) => r | _ => .skip
theorem qtp {w u : World} {sB xB : Nat} {VI VT VS VF XV : Value} (hsv : SetV u VI VT VS VF [5, 9] 1 xTab [5] [2, 4]) (hZ : TzT u) (hl : Lies w u) (hs : Blk u sB 25 #[VI, .int .i64 1, VT, VS, VF]) (hx : Blk u xB 27 #[XV, .int .i64 3]) (hxr : Rd u (fun _ => True) 1 XV 1 (qab [6]))
  {b : Frame} (hbf : b.fn = 11) (hbn : b.kind = .normal) {c : Frame} {cs : List Frame} {Fin : Goroutine → World → Prop} (hk : ∀ v w', v = .bool true ∧ Lies w w' → Go0 Tryz.prog Fin (G (c.finish v) cs) w')
  (v0 v2 v3 v5 v6 v7 v8 v9 v10 v11 v12 v13 v14 v15 v16 v17 v18 v19 v20 v21 v22 v23 v24 v25 v26 v27 v28 v29 v30 v31 v32 v33 v34 v35 v36 v37 v38 v39 v40 v41 v42 v43 v44 v45 v46 v47 v48 v49 v50 v51 v52 v53 v54 v55 v56 v57 v58 v59 v60 v61 v62 v63 v64 v65 v66 v67 v68 v69 v70 v71 v72 v73 v74 v75 v76 v77 v78 v79 v80 v81 v82 v83 v84 v85 v86 v87 v88 v89 v90 v91 v92 v93 v94 v95 v96 v97 v98 v99 v100 v101 v102 v103 v104 v105 v106 v107 v108 v109 v110 v111 v112 v113 v114 v115 v116 v117 v118 v119 v120 v121 v122 v123 v124 v125 v126 v127 v128 v129 v130 v131 v132 v133 : Value) : Go0 Tryz.prog Fin (G (b.at ⟨#[v0, .pointer (some ⟨sB, 0, none⟩), v2, v3, .pointer (some ⟨xB, 0, none⟩), v5, v6, v7, v8, v9, v10, v11, v12, v13, v14, v15, v16, v17, v18, v19, v20, v21, v22, v23, v24, v25, v26, v27, v28, v29, v30, v31, v32, v33, v34, v35, v36, v37, v38, v39, v40, v41, v42, v43, v44, v45, v46, v47, v48, v49, v50, v51, v52, v53, v54, v55, v56, v57, v58, v59, v60, v61, v62, v63, v64, v65, v66, v67, v68, v69, v70, v71, v72, v73, v74, v75, v76, v77, v78, v79, v80, v81, v82, v83, v84, v85, v86, v87, v88, v89, v90, v91, v92, v93, v94, v95, v96, v97, v98, v99, v100, v101, v102, v103, v104, v105, v106, v107, v108, v109, v110, v111, v112, v113, v114, v115, v116, v117, v118, v119, v120, v121, v122, v123, v124, v125, v126, v127, v128, v129, v130, v131, v132, v133], []⟩ [.code sTail]) (c :: cs)) u := by
 have HK := hID hk
 have HL := hID hl
 have HS := hID hs
 have HX := hID hx
 have HXR := hID hxr
 have HRU := hID (fun (V : World) (l : Lies u V) (bv : Value) (hb : Rd V (fun _ => True) 1 bv 3 (qb2 [97, 97, 98])) => g_run [5, 9] 1 xTab [5] [2, 4] [97, 97, 98] V VI VT VS VF bv (l.set hsv) (l.tz hZ) (by decide) hb)
 have HAL := hID (fun (V : World) (l : Lies u V) => qtg [5, 9] 1 xTab [5] [2, 4] [6] 3 V VI VT VS VF XV x_sh3 (by decide) (l.set hsv) (l.tz hZ) (l.rd hxr))
 obtain ⟨AX, cx, rfl, -⟩ := hxr.form
 clear hk hl hs hx hxr hsv hZ
 simp only [sTail, sBody, Tryz.f11, Option.getD_some]
 -- Run
 refine Go0.seq mild (Go0.region_call mild [_, _, _] _ _ rfl fun Q hQ V hV => ?_)
 have HQ := hID hQ
 have HV := hID (Lies.same hV)
 have HSB := hID (HV.out.blk HS.out)
 have s0 := HSB.out.cell 0
 have s1 := HSB.out.cell 1
 have s2 := HSB.out.cell 2
 have s3 := HSB.out.cell 3
 have s4 := HSB.out.cell 4
 have hcv := qyn V #[.int .u8 97, .int .u8 97, .int .u8 98] 5 3 3
 clear hQ hV
 go_wp2_with fail
 have hb := (q0h V (qb2 [97, 97, 98]) 5 (3, 4) 1 3 rfl (by decide)).any
 have HLA := hID (HV.out.alloc (.cells #[.int .u8 97, .int .u8 97, .int .u8 98] 5 (3, 4)))
 clear hcv
 refine HQ.out _ _ ⟨by rfl, _, _, _, fun V => ?_, HRU.out _ HLA.out _ hb, ?_⟩
 ·simp [go_sem]
 clear hb HQ
 rintro v w5 ⟨out, rfl, hout, l5⟩ Q hQ V5 hV
 obtain ⟨Ao, co, rfl, -⟩ := hout.form
 have HV5 := hID ((HLA.out.trans l5).trans (Lies.same hV))
 have hout2 := ((Lies.same hV).rd hout).any
 rw [x_run] at hout2
 have HOU : Hid (Rd V5 (fun _ => True) 2 (.slice Ao 4 co) 4 (qa9 [(1, 1), (2, 1), (3, 0), (3, 1)])) := hID hout2
 rw [show (qdt [5, 9] 1 xTab [5] [2, 4] [97, 97, 98]).length = 4 by rw [x_run]; rfl, show ruErr [5, 9] 1 xTab [5] [2, 4] [97, 97, 98].length = 0 from q15]
 have HQ := hID hQ
 clear hout hout2 l5 hQ hV HLA HRU HSB s0 s1 s2 s3 s4 HV
 go_wp2_with fail
 refine HQ.out _ _ ?_
 clear HQ
 -- Alive
 refine Go0.seq mild (Go0.wpQ mild fun Q hQ V6 hV => ?_)
 have HQ := hID hQ
 have HV6 := hID (HV5.out.trans (Lies.same hV))
 have HO6 := hID ((Lies.same hV).rd HOU.out)
 have s := HV6.out.blk HS.out
 have x := HV6.out.blk HX.out
 have s0 := s.cell 0
 have s1 := s.cell 1
 have s2 := s.cell 2
 have s3 := s.cell 3
 have s4 := s.cell 4
 have x0 := x.cell 0
 have x1 := x.cell 1
 clear hQ hV s x HV5 HOU
 go_wp2_with fail
 have hal := HAL.out V6 HV6.out
 rw [show qdc (planL [5, 9] [6].length xTab [5] [2, 4]) (onesN [6]) = [(0, 0, 2), (1, 2, 1)] from q0g] at hal
 refine hal.mono ?_
 rintro e w7 ⟨av, rfl, har, l7⟩
 obtain ⟨Aa, ca, rfl, -⟩ := har.form
 have HV7 := hID (HV6.out.trans l7)
 have HO7 := hID (l7.rd HO6.out)
 have HA7 := hID (har.any)
 clear hal har l7 HV6 HO6 s0 s1 s2 s3 s4 x0 x1 HAL HX HS
 go_wp2_with fail
 refine HQ.out _ _ _ ?_
 clear HQ
 show Go0 _ _ _ _
 -- the answer
 refine Go0.seq mild (Go0.wpQ mild fun Q hQ V8 hV => ?_)
 have HQ := hID hQ
 have HV8 := hID (HV7.out.trans (Lies.same hV))
 have HO8 := hID ((Lies.same hV).rd HO7.out)
 have HA8 := hID ((Lies.same hV).rd HA7.out)
 clear hQ hV HV7 HO7 HA7
 go_wp2_with fail
 have hb := (qkw V8 (qa9 [(1, 1), (2, 1), (3, 0), (3, 1)]) 85 2 4 rfl (by decide)).any
 refine (qon [(1, 1), (2, 1), (3, 0), (3, 1)] (by decide) _ _ _ (((Lies.refl V8).alloc (.cells (qa9 [(1, 1), (2, 1), (3, 0), (3, 1)]).toArray 85)).rd HO8.out) hb).mono ?_
 rintro e w9 ⟨rfl, o9⟩
 have HV9 := hID ((HV8.out.alloc (.cells (qa9 [(1, 1), (2, 1), (3, 0), (3, 1)]).toArray 85)).trans (.of' o9))
 have ha := (((Lies.refl V8).alloc (.cells (qa9 [(1, 1), (2, 1), (3, 0), (3, 1)]).toArray 85)).trans (.of' o9)).rd HA8.out
 clear hb o9 HV8 HO8 HA8
 obtain ⟨ba, oa, ca2, hAa, hac⟩ := ha.cellsT (by decide)
 injection hAa with hAa1 _ hAa3
 subst hAa1 hAa3
 have a0 := hac _ oRf 0 _ rfl
 have a1 := hac _ oRf 1 _ rfl
 have a2 := hac _ oRf 2 _ rfl
 have a3 := hac _ oRf 3 _ rfl
 have a4 := hac _ oRf 4 _ rfl
 have a5 := hac _ oRf 5 _ rfl
 clear hac ha
 rw [Nat.add_zero] at a0
 go_wp2_with fail
 refine HQ.out _ _ _ ?_
 show Go0 _ _ _ _
 refine Go0.ret mild (Go0.leave mild (fun τ d => ⟨rfl, rfl, hbn, _, (by show Tryz.prog.funcs[b.fn]? = _; rw [hbf]; exact Tryz.func11), results_tmp rfl _ _ _⟩) (HK.out _ _ ⟨rfl, HL.out.trans HV9.out⟩))
end
section
open Go.RowKit Go.Conc Go.Pip Go.Ride
structure Hold (w0 : World) (sB xB rB hB : Nat) (AI AT AS AF r0 r1 r2 h0 h1 h2 XV : Value) (X : List Nat) (at_ : Int) (V : World) : Prop where
 l : Lies w0 V
 hx : w0.heap.size ≤ xB
 s : Blk V sB 25 #[AI, .int .i64 1, AT, AS, AF]
 sx : sB ≠ xB
 x : Blk V xB 27 #[XV, .int .i64 at_]
 xr : Rd V (fun k => k ≠ xB) 1 XV X.length (qab X)
 r : Blk V rB 82 #[r0, r1, r2]
 rx : rB ≠ xB
 h : Blk V hB 83 #[h0, h1, h2]
 hhx : hB ≠ xB
 q0 : Rd V (fun k => k ≠ xB) 1 r0 1 (qab [5])
 q1 : Rd V (fun k => k ≠ xB) 1 r1 1 (qab [5])
 q2 : Rd V (fun k => k ≠ xB) 1 r2 1 (qab [6])
 p0 : Rd V (fun k => k ≠ xB) 1 h0 1 ([1].map (Value.int .i64))
 p1 : Rd V (fun k => k ≠ xB) 1 h1 1 ([1].map (Value.int .i64))
 p2 : Rd V (fun k => k ≠ xB) 1 h2 2 ([0, 1].map (Value.int .i64))
section
variable {w0 V V' : World} {sB xB rB hB : Nat} {AI AT AS AF r0 r1 r2 h0 h1 h2 XV : Value} {X : List Nat} {at_ : Int}
theorem Hold.go (h : Hold w0 sB xB rB hB AI AT AS AF r0 r1 r2 h0 h1 h2 XV X at_ V) (l : Lies V V') : Hold w0 sB xB rB hB AI AT AS AF r0 r1 r2 h0 h1 h2 XV X at_ V' :=
 ⟨h.l.trans l, h.hx, l.blk h.s, h.sx, l.blk h.x, l.rd h.xr, l.blk h.r, h.rx, l.blk h.h, h.hhx, l.rd h.q0, l.rd h.q1, l.rd h.q2, l.rd h.p0, l.rd h.p1, l.rd h.p2⟩
theorem qfc {n sz : Nat} {v : Value} {xs : List Value} (h : Rd V (fun k => k ≠ xB) sz v n xs) (a b : Value) : Rd ((V.setCell ⟨xB, 0, none⟩ a).setCell ⟨xB, 1, none⟩ b) (fun k => k ≠ xB) sz v n xs :=
 h.keep (Off.put (F := fun j => j = xB) (Off.put (F := fun j => j = xB) oRf (.inl rfl) _) (.inl rfl) _) (fun k hk he => hk he)
theorem qlp {g : Nat} {t : TypeId} {cs : Array Value} (h : Blk V g t cs) (hg : g ≠ xB) (a b : Value) : Blk ((V.setCell ⟨xB, 0, none⟩ a).setCell ⟨xB, 1, none⟩ b) g t cs := (h.far (p := ⟨xB, 0, none⟩) hg _).far (p := ⟨xB, 1, none⟩) hg _
theorem Hold.put (h : Hold w0 sB xB rB hB AI AT AS AF r0 r1 r2 h0 h1 h2 XV X at_ V) {XV' : Value} {X' : List Nat} (at' : Int) (hr : Rd V (fun k => k ≠ xB) 1 XV' X'.length (qab X')) : Hold w0 sB xB rB hB AI AT AS AF r0 r1 r2 h0 h1 h2 XV' X' at' ((V.setCell ⟨xB, 0, none⟩ XV').setCell ⟨xB, 1, none⟩ (.int .i64 at')) :=
 ⟨(h.l.put (p := ⟨xB, 0, none⟩) h.hx _).put (p := ⟨xB, 1, none⟩) h.hx _, h.hx, qlp h.s h.sx _ _, h.sx, (h.x.put 0 XV').put 1 (.int .i64 at'), qfc hr _ _, qlp h.r h.rx _ _, h.rx, qlp h.h h.hhx _ _, h.hhx, qfc h.q0 _ _, qfc h.q1 _ _, qfc h.q2 _ _, qfc h.p0 _ _, qfc h.p1 _ _, qfc h.p2 _ _⟩
end
structure Acc (w0 : World) (xB : Nat) (bs : List (Nat × TypeId × Array Value)) (rs : List (Value × Nat × Nat × List Value)) (V : World) : Prop where
 l : Lies w0 V
 b : ∀ x ∈ bs, Blk V x.1 x.2.1 x.2.2
 r : ∀ x ∈ rs, Rd V (fun k => k ≠ xB) x.2.1 x.1 x.2.2.1 x.2.2.2
section
variable {w0 V V' : World} {xB : Nat} {bs : List (Nat × TypeId × Array Value)} {rs : List (Value × Nat × Nat × List Value)}
theorem Acc.go (h : Acc w0 xB bs rs V) (l : Lies V V') : Acc w0 xB bs rs V' := ⟨h.l.trans l, fun x hx => l.blk (h.b x hx), fun x hx => l.rd (h.r x hx)⟩
theorem Acc.addB (h : Acc w0 xB bs rs V) {g : Nat} {t : TypeId} {cs : Array Value} (hb : Blk V g t cs) : Acc w0 xB ((g, t, cs) :: bs) rs V := ⟨h.l, fun x hx => by rcases List.mem_cons.1 hx with rfl | hx; exact hb; exact h.b x hx, h.r⟩
theorem Acc.addR (h : Acc w0 xB bs rs V) {v : Value} {sz n : Nat} {xs : List Value} (hr : Rd V (fun k => k ≠ xB) sz v n xs) : Acc w0 xB bs ((v, sz, n, xs) :: rs) V := ⟨h.l, h.b, fun x hx => by rcases List.mem_cons.1 hx with rfl | hx; exact hr; exact h.r x hx⟩
end
theorem Lies.drew (V : World) : Lies V V.drew := ⟨rfl, rfl, Nat.le_refl _, fun _ _ => rfl⟩
theorem Rd.there {V : World} {F : Nat → Prop} {sz n : Nat} {v : Value} {xs : List Value} (h : Rd V F sz v n xs) : Rd V (fun k => F k ∧ k < V.heap.size) sz v n xs := by
 obtain ⟨A, c, rfl, h1, h2, h3⟩ := h
 refine ⟨A, c, rfl, h1, h2, fun hn => ?_⟩
 obtain ⟨b, o, rfl, hf, hb, hx⟩ := h3 hn
 exact ⟨b, o, rfl, ⟨hf, hb⟩, hb, hx⟩
theorem qo0 (L : List Nat) (hL : L.length ≤ 4096) {F G : Nat → Prop} (w : World) (u v : Value) (hu : Rd w F 1 u L.length (qab L)) (hv : Rd w G 1 v L.length (qab L)) : Calls Tryz.prog 37 #[u, v] w (RetV w (.bool true)) := by
 have h := q1o L L hL hL w u v hu.any hv.any
 simpa using h
theorem n_row (a b : Int) (L : List Nat) (hc : ∀ (w : World) (v : Value), Rd w (fun _ => True) 1 v 2 [.int .i64 a, .int .i64 b] → Calls Tryz.prog 71 #[.int .i64 1, v] w (fun e w' => ∃ u, e = .returned (.tuple #[u, .int .i64 0]) ∧ Rd w' (fun k => w.heap.size ≤ k) 1 u 1 (qab L) ∧ Off Nob w w'))
  (w : World) (v : Value) (hv : Rd w (fun _ => True) 1 v 2 [.int .i64 a, .int .i64 b]) : Calls Tryz.prog 40 #[v] w (fun e w' => ∃ u, e = .returned u ∧ Rd w' (fun k => w.heap.size ≤ k) 1 u 1 (qab L) ∧ Off Nob w w') := by
 have HC := hID (hc w v hv)
 obtain ⟨A, c, rfl, _⟩ := hv.form
 clear hc hv
 go_enter Tryz.func40, Tryz.ntmps40
 go_wp2_with fail
 refine HC.out.mono ?_
 rintro e w1 ⟨u, rfl, h1, h2⟩
 obtain ⟨A1, c1, rfl, _⟩ := h1.form
 have H1 := hID h1
 have H2 := hID h2
 clear h1 h2
 go_wp2_with fail
 go_ret
 exact ⟨_, rfl, H1.out, H2.out⟩
theorem qrb (w : World) (hZ : TzT w) : CallsG Tryz.prog 11 #[] w (fun v w' => v = .bool true ∧ Lies w w') := by
 intro c cs Fin hk
 have hen : Frame.enter Tryz.prog 11 #[] .normal = (base 11).at ⟨#[undef, undef, undef, undef, undef, undef, undef, undef, undef, undef, undef, undef, undef, undef, undef, undef, undef, undef, undef, undef, undef, undef, undef, undef, undef, undef, undef, undef, undef, undef, undef, undef, undef, undef, undef, undef, undef, undef, undef, undef, undef, undef, undef, undef, undef, undef, undef, undef, undef, undef, undef, undef, undef, undef, undef, undef, undef, undef, undef, undef, undef, undef, undef, undef, undef, undef, undef, undef, undef, undef, undef, undef, undef, undef, undef, undef, undef, undef, undef, undef, undef, undef, undef, undef, undef, undef, undef, undef, undef, undef, undef, undef, undef, undef, undef, undef, undef, undef, undef, undef, undef, undef, undef, undef, undef, undef, undef, undef, undef, undef, undef, undef, undef, undef, undef, undef, undef, undef, undef, undef, undef, undef, undef, undef, undef, undef, undef, undef, undef, undef, undef, undef, undef, undef], []⟩ [.code sBody] := by
  have h := enter_at (P := Tryz.prog) #[] Tryz.func11 (c := sBody) rfl
  simp only [Tryz.ntmps11, List.size_toArray, List.length_cons, List.length_nil, Nat.reduceAdd, Nat.reduceSub, Array.replicate_succ, Array.replicate_zero, List.push_toArray, List.append_toArray, List.nil_append, List.cons_append] at h
  exact h
 rw [hen]
 generalize hbb : base 11 = b
 have hbf : b.fn = 11 := by rw [← hbb]; rfl
 have hbn : b.kind = .normal := by rw [← hbb]; rfl
 clear hen hbb
 have HK := hID hk
 have HZ := hID hZ
 clear hk hZ
 simp only [sBody, Tryz.f11, Option.getD_some]
 -- R0
 refine Go0.seq mild (Go0.wpQ mild fun Q hQ V hV => ?_)
 have HQ := hID hQ
 have HL := hID (Lies.same hV)
 clear hQ hV
 go_wp2_with fail
 refine HQ.out _ _ _ ?_
 clear HQ
 show Go0 _ _ _ _
 -- R1: Example and Compile
 refine Go0.seq mild (Go0.wpQ mild fun Q hQ V hV => ?_)
 have HQ := hID hQ
 have HL1 := hID (HL.out.trans (Lies.same hV))
 clear hQ hV HL
 go_wp2_with fail
 refine (qtn V).mono ?_
 rintro e w1 ⟨v, va, vb, rfl, hv, ha, hb, o1⟩
 obtain ⟨Av, cv, rfl, -⟩ := hv.form
 have HV := hID hv
 have HA := hID ha
 have HB := hID hb
 have O1 := hID o1
 clear hv ha hb o1
 go_wp2_with fail
 refine (qtm w1 _ va vb HV.out HA.out HB.out).mono ?_
 rintro e w2 ⟨vi, vt, vs, vf, rfl, h1, h2, h3, h4, h5, h6, h7⟩
 have HL2 := hID ((HL1.out.trans (.of' O1.out)).trans (.of' h7))
 obtain ⟨Ai, ci, rfl, -⟩ := h1.form
 obtain ⟨At, ct, rfl, -⟩ := h2.form
 obtain ⟨As, cs', rfl, -⟩ := h3.form
 obtain ⟨Af, cf, rfl, -⟩ := h4.form
 have HSV : Hid (SetV w2 (.slice Ai 2 ci) (.slice At 256 ct) (.slice As 1 cs') (.slice Af 2 cf) [5, 9] 1 xTab [5] [2, 4]) := hID ⟨h1, by rw [qoz, q13]; exact h2, h3, h4, h5, h6, by decide, by decide, q0f, by decide, by decide, by decide, by rw [qoz]; decide, by decide, by decide⟩
 clear h1 h2 h3 h4 h5 h6 h7 HV HA HB O1 HL1 w1
 go_wp2_with fail
 refine HQ.out _ _ _ ?_
 clear HQ
 show Go0 _ _ _ _
 have HS0 := hID (Blk.new w2 25 #[.slice Ai 2 ci, .int .i64 1, .slice At 256 ct, .slice As 1 cs', .slice Af 2 cf])
 have HSV0 := hID (((Lies.refl w2).alloc (.cells #[.slice Ai 2 ci, .int .i64 1, .slice At 256 ct, .slice As 1 cs', .slice Af 2 cf] 25)).set HSV.out)
 have HL0 := hID (HL2.out.alloc (.cells #[.slice Ai 2 ci, .int .i64 1, .slice At 256 ct, .slice As 1 cs', .slice Af 2 cf] 25))
 clear HL2 HSV
 revert HS0 HSV0 HL0
 generalize w2.heap.size = sB
 generalize w2.alloc _ = u0
 intro HS0 HSV0 HL0
 refine Go0.seq mild (Go0.wpQ mild fun Q hQ V hV => ?_)
 have HQ := hID hQ
 have HV := hID (Lies.same hV)
 clear hQ hV
 go_wp2_with fail
 refine HQ.out _ _ _ ?_
 clear HQ
 show Go0 _ _ _ _
 -- R4: Start
 refine Go0.seq mild (Go0.wpQ mild fun Q hQ V2 hV => ?_)
 have HQ := hID hQ
 have HV2 := hID (HV.out.trans (Lies.same hV))
 have HSB := hID (HV2.out.blk HS0.out)
 have s0 := HSB.out.cell 0
 have s1 := HSB.out.cell 1
 have s2 := HSB.out.cell 2
 have s3 := HSB.out.cell 3
 have s4 := HSB.out.cell 4
 clear hQ hV HV
 go_wp2_with fail
 have hst := qi1 [5, 9] 1 xTab [5] [2, 4] V2 _ _ _ _ (HV2.out.set HSV0.out) (HV2.out.tz (HL0.out.tz HZ.out))
 rw [q16, x_set] at hst
 refine hst.mono ?_
 rintro e u1 ⟨XV, rfl, hr, l1⟩
 obtain ⟨AX, cx, rfl, -⟩ := hr.form
 have HX := hID hr
 have HL1 := hID (HV2.out.trans l1)
 have HS1 := hID (l1.blk HSB.out)
 clear hr l1 hst HSB s0 s1 s2 s3 s4
 go_wp2_with fail
 refine HQ.out _ _ _ ?_
 clear HQ
 show Go0 _ _ _ _
 have HSV1 := hID (HL1.out.set HSV0.out)
 have HZ1 := hID (HL1.out.tz (HL0.out.tz HZ.out))
 have HLW := hID (HL0.out.trans HL1.out)
 have HX1 := hID (Blk.new u1 27 #[.slice AX 1 cx, .int .i64 0])
 have HA := hID (Acc.addR (xB := u1.heap.size) (Acc.addB (xB := u1.heap.size) (bs := []) (rs := []) (Acc.mk ((Lies.refl u1).alloc (.cells #[.slice AX 1 cx, .int .i64 0] 27)) (by simp) (by simp)) (HS1.out.alloc (.cells #[.slice AX 1 cx, .int .i64 0] 27))) (((Lies.refl u1).alloc (.cells #[.slice AX 1 cx, .int .i64 0] 27)).rd (HX.out.there.mono (fun k hk => by omega))))
 have HSX : Hid (sB ≠ u1.heap.size) := hID (by have := HS1.out.lt; omega)
 have HZX : Hid ((u1.alloc (.cells #[.slice AX 1 cx, .int .i64 0] 27)).heap.size = u1.heap.size + 1) := hID (World.size_alloc _ _)
 clear HX HL1 HS1 HSV0 HL0 HS0 HV2
 revert HX1 HA HSX HZX
 generalize u1.alloc _ = u2
 obtain ⟨xB, hxB⟩ : ∃ xB, u1.heap.size = xB := ⟨_, rfl⟩
 have HXB := hID hxB
 rw [hxB]
 clear hxB
 intro HX1 HA HSX HZX
 -- R5
 refine Go0.seq mild (Go0.wpQ mild fun Q hQ V hV => ?_)
 have HQ := hID hQ
 have HA2 := hID (HA.out.go (Lies.same hV))
 have HB2 := hID ((Lies.same hV).blk HX1.out)
 clear hQ hV HA HX1 HZX
 go_wp2_with fail
 refine HQ.out _ _ _ ?_
 clear HQ
 show Go0 _ _ _ _
 -- R7: the rows
 refine Go0.seq mild (Go0.wpQ mild fun Q hQ V2 hV => ?_)
 have HQ := hID hQ
 have HA3 := hID (HA2.out.go (Lies.same hV))
 have HB3 := hID ((Lies.same hV).blk HB2.out)
 clear hQ hV HA2 HB2
 go_wp2_with fail
 refine (n_row 0 2 [5] ql4 _ _ (qfb V2 [.int .i64 0, .int .i64 2] 3 1 2 rfl (by decide))).mono ?_
 rintro e a0 ⟨r0, rfl, hr, o⟩
 have hl0 : Lies V2 a0 := ((Lies.refl V2).alloc _).trans (.of' o)
 obtain ⟨R0, k0, rfl, -⟩ := hr.form
 have HR0 := hID (HA3.out.go hl0 |>.addR (hr.mono (fun k hk => by have := HB3.out.lt; simp at hk; omega)))
 have HBB0 := hID (hl0.blk HB3.out)
 clear hr o hl0 HA3 HB3
 go_wp2_with fail
 refine (n_row 0 2 [5] ql4 _ _ (qfb a0 [.int .i64 0, .int .i64 2] 3 1 2 rfl (by decide))).mono ?_
 rintro e a1 ⟨r1, rfl, hr, o⟩
 have hl1 : Lies a0 a1 := ((Lies.refl a0).alloc _).trans (.of' o)
 obtain ⟨R1, k1, rfl, -⟩ := hr.form
 have HR1 := hID (HR0.out.go hl1 |>.addR (hr.mono (fun k hk => by have := HBB0.out.lt; simp at hk; omega)))
 have HBB1 := hID (hl1.blk HBB0.out)
 clear hr o hl1 HR0 HBB0
 go_wp2_with fail
 refine (n_row 1 2 [6] qu9 _ _ (qfb a1 [.int .i64 1, .int .i64 2] 3 1 2 rfl (by decide))).mono ?_
 rintro e a2 ⟨r2, rfl, hr, o⟩
 have hl2 : Lies a1 a2 := ((Lies.refl a1).alloc _).trans (.of' o)
 obtain ⟨R2, k2, rfl, -⟩ := hr.form
 have HR2 := hID (HR1.out.go hl2 |>.addR (hr.mono (fun k hk => by have := HBB1.out.lt; simp at hk; omega)))
 have HBB2 := hID (hl2.blk HBB1.out)
 clear hr o hl2 HR1 HBB1
 go_wp2_with fail
 refine HQ.out _ _ _ ?_
 clear HQ
 show Go0 _ _ _ _
 have HA4 := hID (Acc.addB (HR2.out.go ((Lies.refl a2).alloc (.cells #[.slice R0 1 k0, .slice R1 1 k1, .slice R2 1 k2] 82))) (Blk.new a2 82 #[.slice R0 1 k0, .slice R1 1 k1, .slice R2 1 k2]))
 have HB4 := hID (((Lies.refl a2).alloc (.cells #[.slice R0 1 k0, .slice R1 1 k1, .slice R2 1 k2] 82)).blk HBB2.out)
 have HRX : Hid (a2.heap.size ≠ xB) := hID (by have := HBB2.out.lt; omega)
 clear HR2 HBB2
 revert HA4 HB4 HRX
 generalize a2.alloc _ = u3
 generalize a2.heap.size = rB
 intro HA4 HB4 HRX
 -- R8: the hits
 refine Go0.seq mild (Go0.wpQ mild fun Q hQ V3 hV => ?_)
 have HQ := hID hQ
 have HA5 := hID (HA4.out.go (Lies.same hV))
 have HB5 := hID ((Lies.same hV).blk HB4.out)
 clear hQ hV HA4 HB4
 go_wp2_with fail
 refine HQ.out _ _ _ ?_
 clear HQ
 show Go0 _ _ _ _
 have HH : Hid (Hold u1 sB xB rB (V3.heap.size + 1 + 1 + 1) (.slice Ai 2 ci) (.slice At 256 ct) (.slice As 1 cs') (.slice Af 2 cf) (.slice R0 1 k0) (.slice R1 1 k1) (.slice R2 1 k2) (.slice (some ⟨V3.heap.size, 0, none⟩) 1 1) (.slice (some ⟨V3.heap.size + 1, 0, none⟩) 1 1) (.slice (some ⟨V3.heap.size + 1 + 1, 0, none⟩) 2 2) (.slice AX 1 cx) [0] 0
   ((((V3.alloc (.cells #[.int .i64 1] 3)).alloc (.cells #[.int .i64 1] 3)).alloc (.cells #[.int .i64 0, .int .i64 1] 3)).alloc (.cells #[.slice (some ⟨V3.heap.size, 0, none⟩) 1 1, .slice (some ⟨V3.heap.size + 1, 0, none⟩) 1 1, .slice (some ⟨V3.heap.size + 1 + 1, 0, none⟩) 2 2] 83))) := hID (by
  have lt := HB5.out.lt
  have z1 : (V3.alloc (.cells #[.int .i64 1] 3)).heap.size = V3.heap.size + 1 := World.size_alloc _ _
  have z2 : ((V3.alloc (.cells #[.int .i64 1] 3)).alloc (.cells #[.int .i64 1] 3)).heap.size = V3.heap.size + 1 + 1 := by rw [World.size_alloc, z1]
  have z3 : (((V3.alloc (.cells #[.int .i64 1] 3)).alloc (.cells #[.int .i64 1] 3)).alloc (.cells #[.int .i64 0, .int .i64 1] 3)).heap.size = V3.heap.size + 1 + 1 + 1 := by rw [World.size_alloc, z2]
  have n0 := qkw V3 [.int .i64 1] 3 1 1 rfl (by decide)
  have n1 := qkw (V3.alloc (.cells #[.int .i64 1] 3)) [.int .i64 1] 3 1 1 rfl (by decide)
  have n2 := qkw ((V3.alloc (.cells #[.int .i64 1] 3)).alloc (.cells #[.int .i64 1] 3)) [.int .i64 0, .int .i64 1] 3 1 2 rfl (by decide)
  have n3 := Blk.new (((V3.alloc (.cells #[.int .i64 1] 3)).alloc (.cells #[.int .i64 1] 3)).alloc (.cells #[.int .i64 0, .int .i64 1] 3)) 83 #[.slice (some ⟨V3.heap.size, 0, none⟩) 1 1, .slice (some ⟨V3.heap.size + 1, 0, none⟩) 1 1, .slice (some ⟨V3.heap.size + 1 + 1, 0, none⟩) 2 2]
  rw [z1] at n1
  rw [z2] at n2
  rw [z3] at n3
  have q := HA5.out.go ((((Lies.refl V3).alloc (.cells #[.int .i64 1] 3)).alloc (.cells #[.int .i64 1] 3)).alloc (.cells #[.int .i64 0, .int .i64 1] 3) |>.alloc (.cells #[.slice (some ⟨V3.heap.size, 0, none⟩) 1 1, .slice (some ⟨V3.heap.size + 1, 0, none⟩) 1 1, .slice (some ⟨V3.heap.size + 1 + 1, 0, none⟩) 2 2] 83))
  have hb := ((((Lies.refl V3).alloc (.cells #[.int .i64 1] 3)).alloc (.cells #[.int .i64 1] 3)).alloc (.cells #[.int .i64 0, .int .i64 1] 3) |>.alloc (.cells #[.slice (some ⟨V3.heap.size, 0, none⟩) 1 1, .slice (some ⟨V3.heap.size + 1, 0, none⟩) 1 1, .slice (some ⟨V3.heap.size + 1 + 1, 0, none⟩) 2 2] 83)).blk HB5.out
  exact ⟨q.l, Nat.le_of_eq HXB.out, q.b (_, _, _) (by simp), HSX.out, hb, q.r (_, _, _, _) (.tail _ (.tail _ (.tail _ (.head _)))), q.b (_, _, _) (by simp), HRX.out, n3, by omega, q.r (_, _, _, _) (.tail _ (.tail _ (.head _))), q.r (_, _, _, _) (.tail _ (.head _)), q.r (_, _, _, _) (.head _),
   ((((Lies.refl _).alloc _).alloc _).alloc _).rd (n0.mono fun k hk => by omega), (((Lies.refl _).alloc _).alloc _).rd (n1.mono fun k hk => by omega), ((Lies.refl _).alloc _).rd (n2.mono fun k hk => by omega)⟩)
 clear HA5 HB5 HRX HSX
 revert HH
 generalize World.alloc _ _ = W0
 generalize V3.heap.size + 1 + 1 + 1 = hB
 generalize V3.heap.size + 1 + 1 = g2
 generalize V3.heap.size + 1 = g1
 generalize V3.heap.size = g0
 intro HH
 -- the loop
 refine Go0.seq mild (Go0.wpP mild fun Q hQ hP V4 hV => ?_)
 have HQ := hID hQ
 have HP := hID hP
 have H0 := hID (HH.out.go (Lies.same hV))
 clear hQ hV HH hP
 go_wp2_with fail
 refine wp_loop_rounds 4 ?_
 rw [rounds_succ]
 have s0 := H0.out.s.cell 0
 have s1 := H0.out.s.cell 1
 have s2 := H0.out.s.cell 2
 have s3 := H0.out.s.cell 3
 have s4 := H0.out.s.cell 4
 have x0 := H0.out.x.cell 0
 have x1 := H0.out.x.cell 1
 have HD := hID (H0.out.go (Lies.drew _))
 go_wp2_with fail
 refine wp_region_held_drew (S := fun W => W.cell? ⟨sB, 0, none⟩ = some (.slice Ai 2 ci) ∧ W.cell? ⟨sB, 1, none⟩ = some (.int .i64 1) ∧ W.cell? ⟨sB, 2, none⟩ = some (.slice At 256 ct) ∧ W.cell? ⟨sB, 3, none⟩ = some (.slice As 1 cs') ∧ W.cell? ⟨sB, 4, none⟩ = some (.slice Af 2 cf)) (by kernel_rfl) ?_ (fun hHeld => ?_)
 ·(try dsimp only); exact ⟨s0, s1, s2, s3, s4⟩
 refine tkP HP.out 0 ?_
 refine tkP HP.out 2 ?_
 refine tkP HP.out 3 ?_
 refine wpAnyH_ready (rs := [1]) (by kernel_rfl) (by simp) ?_
 refine AllReadyH.cons rfl (fun K hK => ?s3) ?m3
 case s3 =>
  go_simp
  refine hK.out _ _ ?_ (fun hHeld => ?_)
  ·first | with_reducible assumption | go_keep
  clear hK K
  try simp only [Act.put, qL]
  refine wpAnyH_ready (rs := [4]) (by kernel_rfl) (by simp) ?_
  refine AllReadyH.cons rfl (fun K hK => ?s4) ?m4
  case s4 =>
   go_simp
   have hst := qhy [5, 9] 1 xTab [5] [2, 4] [0] 0 _ _ _ _ _ _ x_sh0 (by decide) 97 (by decide) (by decide) (HD.out.l.set HSV1.out) (HD.out.l.tz HZ1.out) HD.out.xr.any
   rw [show rdTo [0].length xTab [5] [0] 97 [0].length = [5] from x_rd0, show ((0 : Int) + 1) = 1 from rfl] at hst
   refine hst.mono ?_
   rintro e za0 ⟨u, rfl, hu, l1⟩
   replace hu : Rd za0 (fun j => _ ≤ j) 1 u 1 (qab [5]) := hu
   obtain ⟨X1, c1, rfl, -⟩ := hu.form
   have HN1 := hID (HD.out.go l1)
   have HU : Hid (Rd za0 (fun j => j ≠ xB) 1 (.slice X1 1 c1) [5].length (qab [5])) := hID (hu.mono (fun j hj => by have := HD.out.x.lt; omega))
   clear hu l1 hst x0 x1
   have z0 := HN1.out.x.cell 0
   have z1 := HN1.out.x.cell 1
   have f0 := HN1.out.x.frozen 0
   have f1 := HN1.out.x.frozen 1
   have T1 : Hid (za0.cell? ⟨sB, 0, none⟩ = some (.slice Ai 2 ci) ∧ za0.cell? ⟨sB, 1, none⟩ = some (.int .i64 1) ∧ za0.cell? ⟨sB, 2, none⟩ = some (.slice At 256 ct) ∧ za0.cell? ⟨sB, 3, none⟩ = some (.slice As 1 cs') ∧ za0.cell? ⟨sB, 4, none⟩ = some (.slice Af 2 cf)) := hID ⟨HN1.out.s.cell 0, HN1.out.s.cell 1, HN1.out.s.cell 2, HN1.out.s.cell 3, HN1.out.s.cell 4⟩
   have HN2 : Hid (Hold u1 sB xB rB hB (.slice Ai 2 ci) (.slice At 256 ct) (.slice As 1 cs') (.slice Af 2 cf) (.slice R0 1 k0) (.slice R1 1 k1) (.slice R2 1 k2) (.slice (some ⟨g0, 0, none⟩) 1 1) (.slice (some ⟨g1, 0, none⟩) 1 1) (.slice (some ⟨g2, 0, none⟩) 2 2) (.slice X1 1 c1) [5] 1 ((za0.setCell ⟨xB, 0, none⟩ (.slice X1 1 c1)).setCell ⟨xB, 1, none⟩ (.int .i64 1))) := hID (HN1.out.put 1 HU.out)
   have T2 : Hid (((za0.setCell ⟨xB, 0, none⟩ (.slice X1 1 c1)).setCell ⟨xB, 1, none⟩ (.int .i64 1)).cell? ⟨sB, 0, none⟩ = some (.slice Ai 2 ci) ∧ ((za0.setCell ⟨xB, 0, none⟩ (.slice X1 1 c1)).setCell ⟨xB, 1, none⟩ (.int .i64 1)).cell? ⟨sB, 1, none⟩ = some (.int .i64 1) ∧ ((za0.setCell ⟨xB, 0, none⟩ (.slice X1 1 c1)).setCell ⟨xB, 1, none⟩ (.int .i64 1)).cell? ⟨sB, 2, none⟩ = some (.slice At 256 ct) ∧ ((za0.setCell ⟨xB, 0, none⟩ (.slice X1 1 c1)).setCell ⟨xB, 1, none⟩ (.int .i64 1)).cell? ⟨sB, 3, none⟩ = some (.slice As 1 cs') ∧ ((za0.setCell ⟨xB, 0, none⟩ (.slice X1 1 c1)).setCell ⟨xB, 1, none⟩ (.int .i64 1)).cell? ⟨sB, 4, none⟩ = some (.slice Af 2 cf)) := hID ⟨HN2.out.s.cell 0, HN2.out.s.cell 1, HN2.out.s.cell 2, HN2.out.s.cell 3, HN2.out.s.cell 4⟩
   go_simp
   refine hK.out _ _ ?_ (fun hHeld => ?_)
   ·first | exact T1.out | go_keep
   clear hK K
   try simp only [Act.put, qL]
   refine tkP HP.out 5 ?_
   refine tkP HP.out 6 ?_
   refine tkP HP.out 7 ?_
   refine wpAnyH_ready (rs := [8]) (by kernel_rfl) (by simp) ?_
   refine AllReadyH.cons rfl (fun K hK => ?s8) ?m8
   case s8 =>
    go_simp
    refine hK.out _ _ ?_ (fun hHeld => ?_)
    ·first | exact T2.out | go_keep
    clear hK K
    try simp only [Act.put, qL]
    refine tkP HP.out 9 ?_
    refine wpAnyH_done (by kernel_rfl) ?_ _
    clear HN1 HU T1 T2 z0 z1 f0 f1 hHeld HD H0
    revert HN2
    generalize ((za0.setCell ⟨xB, 0, none⟩ (.slice X1 1 c1)).setCell ⟨xB, 1, none⟩ (.int .i64 1)) = zb0
    intro HN2
    have s0 := HN2.out.s.cell 0
    have s1 := HN2.out.s.cell 1
    have s2 := HN2.out.s.cell 2
    have s3 := HN2.out.s.cell 3
    have s4 := HN2.out.s.cell 4
    have x0 := HN2.out.x.cell 0
    have x1 := HN2.out.x.cell 1
    go_wp2_with fail
    have hht := qhz [5, 9] 1 xTab [5] [2, 4] [5] 1 zb0 _ _ _ _ _ x_sh1 (by decide) (HN2.out.l.set HSV1.out) (HN2.out.l.tz HZ1.out) HN2.out.xr.any
    rw [show hitsN [2, 4] [5] [5].length ([5, 9] : List Int).length = [1] from qv7] at hht
    refine hht.mono ?_
    rintro e zc0 ⟨hv, rfl, hh, l3⟩
    replace hh : Rd zc0 (fun j => _ ≤ j) 1 hv 1 (([1] : List Int).map (Value.int .i64)) := hh
    obtain ⟨AH0, ch0, rfl, -⟩ := hh.form
    have HN3 := hID (HN2.out.go l3)
    have HL3 := hID hh
    clear hh l3 hht HN2 s0 s1 s2 s3 s4 x0 x1
    have x0 := HN3.out.x.cell 0
    have x1 := HN3.out.x.cell 1
    have q0 := HN3.out.r.cell 0
    have q1 := HN3.out.h.cell 0
    have HE := hID (HN3.out.go (Lies.drew _))
    have HLR := hID ((Lies.drew _).rd HL3.out)
    clear HL3 HN3
    go_wp2_with fail
    refine wp_region_held_drew (S := fun W => W.cell? ⟨xB, 0, none⟩ = some (.slice X1 1 c1) ∧ W.cell? ⟨xB, 1, none⟩ = some (.int .i64 1) ∧ W.cell? ⟨rB, 0, none⟩ = some (.slice R0 1 k0) ∧ W.cell? ⟨hB, 0, none⟩ = some (.slice (some ⟨g0, 0, none⟩) 1 1)) (by kernel_rfl) ?_ (fun hHeld => ?_)
    ·(try dsimp only); exact ⟨x0, x1, q0, q1⟩
    clear x0 x1 q0 q1
    refine tkP HP.out 0 ?_
    refine tkP HP.out 1 ?_
    refine tkP HP.out 2 ?_
    refine tkP HP.out 3 ?_
    refine tkP HP.out 4 ?_
    refine tkP HP.out 5 ?_
    refine tkP HP.out 6 ?_
    refine tkP HP.out 7 ?_
    refine tkP HP.out 8 ?_
    refine tkP HP.out 9 ?_
    refine tkP HP.out 10 ?_
    refine tkP HP.out 11 ?_
    refine tkP HP.out 12 ?_
    refine tkP HP.out 13 ?_
    refine tkP HP.out 14 ?_
    refine tkP HP.out 15 ?_
    refine tkP HP.out 16 ?_
    refine tkP HP.out 17 ?_
    refine tkP HP.out 18 ?_
    refine wpAnyH_ready (rs := [19]) (by kernel_rfl) (by simp) ?_
    refine AllReadyH.cons rfl (fun K hK => ?s519) ?m519
    case s519 =>
     go_simp
     refine (qo0 [5] (by decide) _ _ _ HE.out.xr HE.out.q0).mono ?_
     rintro e zd0 ⟨rfl, o4⟩
     have HG := hID (HE.out.go (.of' o4))
     have HLS := hID ((Lies.of' o4).rd HLR.out)
     clear o4
     go_simp
     refine hK.out _ _ ?_ (fun hHeld => ?_)
     ·first | exact ⟨HG.out.x.cell 0, HG.out.x.cell 1, HG.out.r.cell 0, HG.out.h.cell 0⟩ | go_keep
     clear hK K
     try simp only [Act.put, qL]
     refine tkP HP.out 20 ?_
     refine tkP HP.out 21 ?_
     refine tkP HP.out 22 ?_
     refine tkP HP.out 23 ?_
     refine tkP HP.out 24 ?_
     refine tkP HP.out 25 ?_
     refine tkP HP.out 26 ?_
     refine wpAnyH_ready (rs := [27]) (by kernel_rfl) (by simp) ?_
     refine AllReadyH.cons rfl (fun K hK => ?s527) ?m527
     case s527 =>
      go_simp
      refine (qjo ([1]) (by decide) _ _ _ HLS.out HG.out.p0).mono ?_
      rintro e ze0 ⟨rfl, o5⟩
      have H1 := hID (HG.out.go (.of' o5))
      clear o5
      go_simp
      refine hK.out _ _ ?_ (fun hHeld => ?_)
      ·first | exact ⟨H1.out.x.cell 0, H1.out.x.cell 1, H1.out.r.cell 0, H1.out.h.cell 0⟩ | go_keep
      clear hK K
      try simp only [Act.put, qL]
      refine tkP HP.out 28 ?_
      refine tkP HP.out 29 ?_
      refine wpAnyH_done (by kernel_rfl) ?_ _
      clear HE HG HLS HLR hHeld
      go_wp2_with fail
      rw [rounds_succ]
      have s0 := H1.out.s.cell 0
      have s1 := H1.out.s.cell 1
      have s2 := H1.out.s.cell 2
      have s3 := H1.out.s.cell 3
      have s4 := H1.out.s.cell 4
      have x0 := H1.out.x.cell 0
      have x1 := H1.out.x.cell 1
      have HD := hID (H1.out.go (Lies.drew _))
      go_wp2_with fail
      refine wp_region_held_drew (S := fun W => W.cell? ⟨sB, 0, none⟩ = some (.slice Ai 2 ci) ∧ W.cell? ⟨sB, 1, none⟩ = some (.int .i64 1) ∧ W.cell? ⟨sB, 2, none⟩ = some (.slice At 256 ct) ∧ W.cell? ⟨sB, 3, none⟩ = some (.slice As 1 cs') ∧ W.cell? ⟨sB, 4, none⟩ = some (.slice Af 2 cf)) (by kernel_rfl) ?_ (fun hHeld => ?_)
      ·(try dsimp only); exact ⟨s0, s1, s2, s3, s4⟩
      refine tkP HP.out 0 ?_
      refine tkP HP.out 2 ?_
      refine tkP HP.out 3 ?_
      refine wpAnyH_ready (rs := [1]) (by kernel_rfl) (by simp) ?_
      refine AllReadyH.cons rfl (fun K hK => ?s1003) ?m1003
      case s1003 =>
       go_simp
       refine hK.out _ _ ?_ (fun hHeld => ?_)
       ·first | with_reducible assumption | go_keep
       clear hK K
       try simp only [Act.put, qL]
       refine wpAnyH_ready (rs := [4]) (by kernel_rfl) (by simp) ?_
       refine AllReadyH.cons rfl (fun K hK => ?s1004) ?m1004
       case s1004 =>
        go_simp
        have hst := qhy [5, 9] 1 xTab [5] [2, 4] [5] 1 _ _ _ _ _ _ x_sh1 (by decide) 97 (by decide) (by decide) (HD.out.l.set HSV1.out) (HD.out.l.tz HZ1.out) HD.out.xr.any
        rw [show rdTo [5].length xTab [5] [5] 97 [5].length = [5] from x_rd1, show ((1 : Int) + 1) = 2 from rfl] at hst
        refine hst.mono ?_
        rintro e za1 ⟨u, rfl, hu, l1⟩
        replace hu : Rd za1 (fun j => _ ≤ j) 1 u 1 (qab [5]) := hu
        obtain ⟨X2, c2, rfl, -⟩ := hu.form
        have HN1 := hID (HD.out.go l1)
        have HU : Hid (Rd za1 (fun j => j ≠ xB) 1 (.slice X2 1 c2) [5].length (qab [5])) := hID (hu.mono (fun j hj => by have := HD.out.x.lt; omega))
        clear hu l1 hst x0 x1
        have z0 := HN1.out.x.cell 0
        have z1 := HN1.out.x.cell 1
        have f0 := HN1.out.x.frozen 0
        have f1 := HN1.out.x.frozen 1
        have T1 : Hid (za1.cell? ⟨sB, 0, none⟩ = some (.slice Ai 2 ci) ∧ za1.cell? ⟨sB, 1, none⟩ = some (.int .i64 1) ∧ za1.cell? ⟨sB, 2, none⟩ = some (.slice At 256 ct) ∧ za1.cell? ⟨sB, 3, none⟩ = some (.slice As 1 cs') ∧ za1.cell? ⟨sB, 4, none⟩ = some (.slice Af 2 cf)) := hID ⟨HN1.out.s.cell 0, HN1.out.s.cell 1, HN1.out.s.cell 2, HN1.out.s.cell 3, HN1.out.s.cell 4⟩
        have HN2 : Hid (Hold u1 sB xB rB hB (.slice Ai 2 ci) (.slice At 256 ct) (.slice As 1 cs') (.slice Af 2 cf) (.slice R0 1 k0) (.slice R1 1 k1) (.slice R2 1 k2) (.slice (some ⟨g0, 0, none⟩) 1 1) (.slice (some ⟨g1, 0, none⟩) 1 1) (.slice (some ⟨g2, 0, none⟩) 2 2) (.slice X2 1 c2) [5] 2 ((za1.setCell ⟨xB, 0, none⟩ (.slice X2 1 c2)).setCell ⟨xB, 1, none⟩ (.int .i64 2))) := hID (HN1.out.put 2 HU.out)
        have T2 : Hid (((za1.setCell ⟨xB, 0, none⟩ (.slice X2 1 c2)).setCell ⟨xB, 1, none⟩ (.int .i64 2)).cell? ⟨sB, 0, none⟩ = some (.slice Ai 2 ci) ∧ ((za1.setCell ⟨xB, 0, none⟩ (.slice X2 1 c2)).setCell ⟨xB, 1, none⟩ (.int .i64 2)).cell? ⟨sB, 1, none⟩ = some (.int .i64 1) ∧ ((za1.setCell ⟨xB, 0, none⟩ (.slice X2 1 c2)).setCell ⟨xB, 1, none⟩ (.int .i64 2)).cell? ⟨sB, 2, none⟩ = some (.slice At 256 ct) ∧ ((za1.setCell ⟨xB, 0, none⟩ (.slice X2 1 c2)).setCell ⟨xB, 1, none⟩ (.int .i64 2)).cell? ⟨sB, 3, none⟩ = some (.slice As 1 cs') ∧ ((za1.setCell ⟨xB, 0, none⟩ (.slice X2 1 c2)).setCell ⟨xB, 1, none⟩ (.int .i64 2)).cell? ⟨sB, 4, none⟩ = some (.slice Af 2 cf)) := hID ⟨HN2.out.s.cell 0, HN2.out.s.cell 1, HN2.out.s.cell 2, HN2.out.s.cell 3, HN2.out.s.cell 4⟩
        go_simp
        refine hK.out _ _ ?_ (fun hHeld => ?_)
        ·first | exact T1.out | go_keep
        clear hK K
        try simp only [Act.put, qL]
        refine tkP HP.out 5 ?_
        refine tkP HP.out 6 ?_
        refine tkP HP.out 7 ?_
        refine wpAnyH_ready (rs := [8]) (by kernel_rfl) (by simp) ?_
        refine AllReadyH.cons rfl (fun K hK => ?s1008) ?m1008
        case s1008 =>
         go_simp
         refine hK.out _ _ ?_ (fun hHeld => ?_)
         ·first | exact T2.out | go_keep
         clear hK K
         try simp only [Act.put, qL]
         refine tkP HP.out 9 ?_
         refine wpAnyH_done (by kernel_rfl) ?_ _
         clear HN1 HU T1 T2 z0 z1 f0 f1 hHeld HD H1
         revert HN2
         generalize ((za1.setCell ⟨xB, 0, none⟩ (.slice X2 1 c2)).setCell ⟨xB, 1, none⟩ (.int .i64 2)) = zb1
         intro HN2
         have s0 := HN2.out.s.cell 0
         have s1 := HN2.out.s.cell 1
         have s2 := HN2.out.s.cell 2
         have s3 := HN2.out.s.cell 3
         have s4 := HN2.out.s.cell 4
         have x0 := HN2.out.x.cell 0
         have x1 := HN2.out.x.cell 1
         go_wp2_with fail
         have hht := qhz [5, 9] 1 xTab [5] [2, 4] [5] 2 zb1 _ _ _ _ _ x_sh2 (by decide) (HN2.out.l.set HSV1.out) (HN2.out.l.tz HZ1.out) HN2.out.xr.any
         rw [show hitsN [2, 4] [5] [5].length ([5, 9] : List Int).length = [1] from qv7] at hht
         refine hht.mono ?_
         rintro e zc1 ⟨hv, rfl, hh, l3⟩
         replace hh : Rd zc1 (fun j => _ ≤ j) 1 hv 1 (([1] : List Int).map (Value.int .i64)) := hh
         obtain ⟨AH1, ch1, rfl, -⟩ := hh.form
         have HN3 := hID (HN2.out.go l3)
         have HL3 := hID hh
         clear hh l3 hht HN2 s0 s1 s2 s3 s4 x0 x1
         have x0 := HN3.out.x.cell 0
         have x1 := HN3.out.x.cell 1
         have q0 := HN3.out.r.cell 1
         have q1 := HN3.out.h.cell 1
         have HE := hID (HN3.out.go (Lies.drew _))
         have HLR := hID ((Lies.drew _).rd HL3.out)
         clear HL3 HN3
         go_wp2_with fail
         refine wp_region_held_drew (S := fun W => W.cell? ⟨xB, 0, none⟩ = some (.slice X2 1 c2) ∧ W.cell? ⟨xB, 1, none⟩ = some (.int .i64 2) ∧ W.cell? ⟨rB, 1, none⟩ = some (.slice R1 1 k1) ∧ W.cell? ⟨hB, 1, none⟩ = some (.slice (some ⟨g1, 0, none⟩) 1 1)) (by kernel_rfl) ?_ (fun hHeld => ?_)
         ·(try dsimp only); exact ⟨x0, x1, q0, q1⟩
         clear x0 x1 q0 q1
         refine tkP HP.out 0 ?_
         refine tkP HP.out 1 ?_
         refine tkP HP.out 2 ?_
         refine tkP HP.out 3 ?_
         refine tkP HP.out 4 ?_
         refine tkP HP.out 5 ?_
         refine tkP HP.out 6 ?_
         refine tkP HP.out 7 ?_
         refine tkP HP.out 8 ?_
         refine tkP HP.out 9 ?_
         refine tkP HP.out 10 ?_
         refine tkP HP.out 11 ?_
         refine tkP HP.out 12 ?_
         refine tkP HP.out 13 ?_
         refine tkP HP.out 14 ?_
         refine tkP HP.out 15 ?_
         refine tkP HP.out 16 ?_
         refine tkP HP.out 17 ?_
         refine tkP HP.out 18 ?_
         refine wpAnyH_ready (rs := [19]) (by kernel_rfl) (by simp) ?_
         refine AllReadyH.cons rfl (fun K hK => ?s1519) ?m1519
         case s1519 =>
          go_simp
          refine (qo0 [5] (by decide) _ _ _ HE.out.xr HE.out.q1).mono ?_
          rintro e zd1 ⟨rfl, o4⟩
          have HG := hID (HE.out.go (.of' o4))
          have HLS := hID ((Lies.of' o4).rd HLR.out)
          clear o4
          go_simp
          refine hK.out _ _ ?_ (fun hHeld => ?_)
          ·first | exact ⟨HG.out.x.cell 0, HG.out.x.cell 1, HG.out.r.cell 1, HG.out.h.cell 1⟩ | go_keep
          clear hK K
          try simp only [Act.put, qL]
          refine tkP HP.out 20 ?_
          refine tkP HP.out 21 ?_
          refine tkP HP.out 22 ?_
          refine tkP HP.out 23 ?_
          refine tkP HP.out 24 ?_
          refine tkP HP.out 25 ?_
          refine tkP HP.out 26 ?_
          refine wpAnyH_ready (rs := [27]) (by kernel_rfl) (by simp) ?_
          refine AllReadyH.cons rfl (fun K hK => ?s1527) ?m1527
          case s1527 =>
           go_simp
           refine (qjo ([1]) (by decide) _ _ _ HLS.out HG.out.p1).mono ?_
           rintro e ze1 ⟨rfl, o5⟩
           have H2 := hID (HG.out.go (.of' o5))
           clear o5
           go_simp
           refine hK.out _ _ ?_ (fun hHeld => ?_)
           ·first | exact ⟨H2.out.x.cell 0, H2.out.x.cell 1, H2.out.r.cell 1, H2.out.h.cell 1⟩ | go_keep
           clear hK K
           try simp only [Act.put, qL]
           refine tkP HP.out 28 ?_
           refine tkP HP.out 29 ?_
           refine wpAnyH_done (by kernel_rfl) ?_ _
           clear HE HG HLS HLR hHeld
           go_wp2_with fail
           rw [rounds_succ]
           have s0 := H2.out.s.cell 0
           have s1 := H2.out.s.cell 1
           have s2 := H2.out.s.cell 2
           have s3 := H2.out.s.cell 3
           have s4 := H2.out.s.cell 4
           have x0 := H2.out.x.cell 0
           have x1 := H2.out.x.cell 1
           have HD := hID (H2.out.go (Lies.drew _))
           go_wp2_with fail
           refine wp_region_held_drew (S := fun W => W.cell? ⟨sB, 0, none⟩ = some (.slice Ai 2 ci) ∧ W.cell? ⟨sB, 1, none⟩ = some (.int .i64 1) ∧ W.cell? ⟨sB, 2, none⟩ = some (.slice At 256 ct) ∧ W.cell? ⟨sB, 3, none⟩ = some (.slice As 1 cs') ∧ W.cell? ⟨sB, 4, none⟩ = some (.slice Af 2 cf)) (by kernel_rfl) ?_ (fun hHeld => ?_)
           ·(try dsimp only); exact ⟨s0, s1, s2, s3, s4⟩
           refine tkP HP.out 0 ?_
           refine tkP HP.out 2 ?_
           refine tkP HP.out 3 ?_
           refine wpAnyH_ready (rs := [1]) (by kernel_rfl) (by simp) ?_
           refine AllReadyH.cons rfl (fun K hK => ?s2003) ?m2003
           case s2003 =>
            go_simp
            refine hK.out _ _ ?_ (fun hHeld => ?_)
            ·first | with_reducible assumption | go_keep
            clear hK K
            try simp only [Act.put, qL]
            refine wpAnyH_ready (rs := [4]) (by kernel_rfl) (by simp) ?_
            refine AllReadyH.cons rfl (fun K hK => ?s2004) ?m2004
            case s2004 =>
             go_simp
             have hst := qhy [5, 9] 1 xTab [5] [2, 4] [5] 2 _ _ _ _ _ _ x_sh2 (by decide) 98 (by decide) (by decide) (HD.out.l.set HSV1.out) (HD.out.l.tz HZ1.out) HD.out.xr.any
             rw [show rdTo [5].length xTab [5] [5] 98 [5].length = [6] from x_rd2, show ((2 : Int) + 1) = 3 from rfl] at hst
             refine hst.mono ?_
             rintro e za2 ⟨u, rfl, hu, l1⟩
             replace hu : Rd za2 (fun j => _ ≤ j) 1 u 1 (qab [6]) := hu
             obtain ⟨X3, c3, rfl, -⟩ := hu.form
             have HN1 := hID (HD.out.go l1)
             have HU : Hid (Rd za2 (fun j => j ≠ xB) 1 (.slice X3 1 c3) [6].length (qab [6])) := hID (hu.mono (fun j hj => by have := HD.out.x.lt; omega))
             clear hu l1 hst x0 x1
             have z0 := HN1.out.x.cell 0
             have z1 := HN1.out.x.cell 1
             have f0 := HN1.out.x.frozen 0
             have f1 := HN1.out.x.frozen 1
             have T1 : Hid (za2.cell? ⟨sB, 0, none⟩ = some (.slice Ai 2 ci) ∧ za2.cell? ⟨sB, 1, none⟩ = some (.int .i64 1) ∧ za2.cell? ⟨sB, 2, none⟩ = some (.slice At 256 ct) ∧ za2.cell? ⟨sB, 3, none⟩ = some (.slice As 1 cs') ∧ za2.cell? ⟨sB, 4, none⟩ = some (.slice Af 2 cf)) := hID ⟨HN1.out.s.cell 0, HN1.out.s.cell 1, HN1.out.s.cell 2, HN1.out.s.cell 3, HN1.out.s.cell 4⟩
             have HN2 : Hid (Hold u1 sB xB rB hB (.slice Ai 2 ci) (.slice At 256 ct) (.slice As 1 cs') (.slice Af 2 cf) (.slice R0 1 k0) (.slice R1 1 k1) (.slice R2 1 k2) (.slice (some ⟨g0, 0, none⟩) 1 1) (.slice (some ⟨g1, 0, none⟩) 1 1) (.slice (some ⟨g2, 0, none⟩) 2 2) (.slice X3 1 c3) [6] 3 ((za2.setCell ⟨xB, 0, none⟩ (.slice X3 1 c3)).setCell ⟨xB, 1, none⟩ (.int .i64 3))) := hID (HN1.out.put 3 HU.out)
             have T2 : Hid (((za2.setCell ⟨xB, 0, none⟩ (.slice X3 1 c3)).setCell ⟨xB, 1, none⟩ (.int .i64 3)).cell? ⟨sB, 0, none⟩ = some (.slice Ai 2 ci) ∧ ((za2.setCell ⟨xB, 0, none⟩ (.slice X3 1 c3)).setCell ⟨xB, 1, none⟩ (.int .i64 3)).cell? ⟨sB, 1, none⟩ = some (.int .i64 1) ∧ ((za2.setCell ⟨xB, 0, none⟩ (.slice X3 1 c3)).setCell ⟨xB, 1, none⟩ (.int .i64 3)).cell? ⟨sB, 2, none⟩ = some (.slice At 256 ct) ∧ ((za2.setCell ⟨xB, 0, none⟩ (.slice X3 1 c3)).setCell ⟨xB, 1, none⟩ (.int .i64 3)).cell? ⟨sB, 3, none⟩ = some (.slice As 1 cs') ∧ ((za2.setCell ⟨xB, 0, none⟩ (.slice X3 1 c3)).setCell ⟨xB, 1, none⟩ (.int .i64 3)).cell? ⟨sB, 4, none⟩ = some (.slice Af 2 cf)) := hID ⟨HN2.out.s.cell 0, HN2.out.s.cell 1, HN2.out.s.cell 2, HN2.out.s.cell 3, HN2.out.s.cell 4⟩
             go_simp
             refine hK.out _ _ ?_ (fun hHeld => ?_)
             ·first | exact T1.out | go_keep
             clear hK K
             try simp only [Act.put, qL]
             refine tkP HP.out 5 ?_
             refine tkP HP.out 6 ?_
             refine tkP HP.out 7 ?_
             refine wpAnyH_ready (rs := [8]) (by kernel_rfl) (by simp) ?_
             refine AllReadyH.cons rfl (fun K hK => ?s2008) ?m2008
             case s2008 =>
              go_simp
              refine hK.out _ _ ?_ (fun hHeld => ?_)
              ·first | exact T2.out | go_keep
              clear hK K
              try simp only [Act.put, qL]
              refine tkP HP.out 9 ?_
              refine wpAnyH_done (by kernel_rfl) ?_ _
              clear HN1 HU T1 T2 z0 z1 f0 f1 hHeld HD H2
              revert HN2
              generalize ((za2.setCell ⟨xB, 0, none⟩ (.slice X3 1 c3)).setCell ⟨xB, 1, none⟩ (.int .i64 3)) = zb2
              intro HN2
              have s0 := HN2.out.s.cell 0
              have s1 := HN2.out.s.cell 1
              have s2 := HN2.out.s.cell 2
              have s3 := HN2.out.s.cell 3
              have s4 := HN2.out.s.cell 4
              have x0 := HN2.out.x.cell 0
              have x1 := HN2.out.x.cell 1
              go_wp2_with fail
              have hht := qhz [5, 9] 1 xTab [5] [2, 4] [6] 3 zb2 _ _ _ _ _ x_sh3 (by decide) (HN2.out.l.set HSV1.out) (HN2.out.l.tz HZ1.out) HN2.out.xr.any
              rw [show hitsN [2, 4] [6] [6].length ([5, 9] : List Int).length = [0, 1] from q14] at hht
              refine hht.mono ?_
              rintro e zc2 ⟨hv, rfl, hh, l3⟩
              replace hh : Rd zc2 (fun j => _ ≤ j) 1 hv 2 (([0, 1] : List Int).map (Value.int .i64)) := hh
              obtain ⟨AH2, ch2, rfl, -⟩ := hh.form
              have HN3 := hID (HN2.out.go l3)
              have HL3 := hID hh
              clear hh l3 hht HN2 s0 s1 s2 s3 s4 x0 x1
              have x0 := HN3.out.x.cell 0
              have x1 := HN3.out.x.cell 1
              have q0 := HN3.out.r.cell 2
              have q1 := HN3.out.h.cell 2
              have HE := hID (HN3.out.go (Lies.drew _))
              have HLR := hID ((Lies.drew _).rd HL3.out)
              clear HL3 HN3
              go_wp2_with fail
              refine wp_region_held_drew (S := fun W => W.cell? ⟨xB, 0, none⟩ = some (.slice X3 1 c3) ∧ W.cell? ⟨xB, 1, none⟩ = some (.int .i64 3) ∧ W.cell? ⟨rB, 2, none⟩ = some (.slice R2 1 k2) ∧ W.cell? ⟨hB, 2, none⟩ = some (.slice (some ⟨g2, 0, none⟩) 2 2)) (by kernel_rfl) ?_ (fun hHeld => ?_)
              ·(try dsimp only); exact ⟨x0, x1, q0, q1⟩
              clear x0 x1 q0 q1
              refine tkP HP.out 0 ?_
              refine tkP HP.out 1 ?_
              refine tkP HP.out 2 ?_
              refine tkP HP.out 3 ?_
              refine tkP HP.out 4 ?_
              refine tkP HP.out 5 ?_
              refine tkP HP.out 6 ?_
              refine tkP HP.out 7 ?_
              refine tkP HP.out 8 ?_
              refine tkP HP.out 9 ?_
              refine tkP HP.out 10 ?_
              refine tkP HP.out 11 ?_
              refine tkP HP.out 12 ?_
              refine tkP HP.out 13 ?_
              refine tkP HP.out 14 ?_
              refine tkP HP.out 15 ?_
              refine tkP HP.out 16 ?_
              refine tkP HP.out 17 ?_
              refine tkP HP.out 18 ?_
              refine wpAnyH_ready (rs := [19]) (by kernel_rfl) (by simp) ?_
              refine AllReadyH.cons rfl (fun K hK => ?s2519) ?m2519
              case s2519 =>
               go_simp
               refine (qo0 [6] (by decide) _ _ _ HE.out.xr HE.out.q2).mono ?_
               rintro e zd2 ⟨rfl, o4⟩
               have HG := hID (HE.out.go (.of' o4))
               have HLS := hID ((Lies.of' o4).rd HLR.out)
               clear o4
               go_simp
               refine hK.out _ _ ?_ (fun hHeld => ?_)
               ·first | exact ⟨HG.out.x.cell 0, HG.out.x.cell 1, HG.out.r.cell 2, HG.out.h.cell 2⟩ | go_keep
               clear hK K
               try simp only [Act.put, qL]
               refine tkP HP.out 20 ?_
               refine tkP HP.out 21 ?_
               refine tkP HP.out 22 ?_
               refine tkP HP.out 23 ?_
               refine tkP HP.out 24 ?_
               refine tkP HP.out 25 ?_
               refine tkP HP.out 26 ?_
               refine wpAnyH_ready (rs := [27]) (by kernel_rfl) (by simp) ?_
               refine AllReadyH.cons rfl (fun K hK => ?s2527) ?m2527
               case s2527 =>
                go_simp
                refine (qjo ([0, 1]) (by decide) _ _ _ HLS.out HG.out.p2).mono ?_
                rintro e ze2 ⟨rfl, o5⟩
                have H3 := hID (HG.out.go (.of' o5))
                clear o5
                go_simp
                refine hK.out _ _ ?_ (fun hHeld => ?_)
                ·first | exact ⟨H3.out.x.cell 0, H3.out.x.cell 1, H3.out.r.cell 2, H3.out.h.cell 2⟩ | go_keep
                clear hK K
                try simp only [Act.put, qL]
                refine tkP HP.out 28 ?_
                refine tkP HP.out 29 ?_
                refine wpAnyH_done (by kernel_rfl) ?_ _
                clear HE HG HLS HLR hHeld
                go_wp2_with fail
                rw [rounds_succ]
                go_wp2_with fail
                refine HQ.out _ _ _ ?_
                show Go0 _ _ _ _
                exact qtp (H3.out.l.set HSV1.out) (H3.out.l.tz HZ1.out) (HLW.out.trans H3.out.l) H3.out.s H3.out.x H3.out.xr.any hbf hbn HK.out _ _ _ _ _ _ _ _ _ _ _ _ _ _ _ _ _ _ _ _ _ _ _ _ _ _ _ _ _ _ _ _ _ _ _ _ _ _ _ _ _ _ _ _ _ _ _ _ _ _ _ _ _ _ _ _ _ _ _ _ _ _ _ _ _ _ _ _ _ _ _ _ _ _ _ _ _ _ _ _ _ _ _ _ _ _ _ _ _ _ _ _ _ _ _ _ _ _ _ _ _ _ _ _ _ _ _ _ _ _ _ _ _ _ _ _ _ _ _ _ _ _ _ _ _ _ _ _ _ _ _ _
               exact AllReadyH.nil
              exact AllReadyH.nil
             exact AllReadyH.nil
            exact AllReadyH.nil
           exact AllReadyH.nil
          exact AllReadyH.nil
         exact AllReadyH.nil
        exact AllReadyH.nil
       exact AllReadyH.nil
      exact AllReadyH.nil
     exact AllReadyH.nil
    exact AllReadyH.nil
   exact AllReadyH.nil
  exact AllReadyH.nil
 exact AllReadyH.nil
end
end Go.Proofs.YtlgjaefcfnndhaaGreatDoor
