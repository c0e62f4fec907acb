/-
 dragnetlaw20.shown behind its loop: Run and Alive at the example.
-/
import Derived.Test.YtlgjaefcfnndhaaGreatDoorK46
import Derived.Test.YtlgjaefcfnndhaaGreatDoorK47
set_option linter.unusedVariables false
set_option linter.unusedSimpArgs false
namespace Go.Proofs.YtlgjaefcfnndhaaGreatDoor
open Go.RowKit Go.Conc Go.Pip Go.Ride
set_option maxRecDepth 100000
theorem rd_new (V : World) (xs : List Value) (t : TypeId) (sz n : Nat) (hl : xs.length = n * sz) (hn : n ≤ maxLen) : Rd (V.alloc (.cells xs.toArray t)) (fun k => k = V.heap.size) sz (.slice (some ⟨V.heap.size, 0, none⟩) n n) n xs :=
 ⟨_, _, rfl, hn, hl, fun _ => ⟨_, 0, rfl, rfl, by simp, fun j u hu => by rw [Nat.zero_add, World.cell?_alloc_new]; simpa using hu⟩⟩
theorem shape_new (P : Program) (V : World) (cs : Array Value) (t : TypeId) : (shape V.heap.size).run P (V.alloc (.cells cs t)) = .ok (some (t, cs.size)) (V.alloc (.cells cs t)) := by
 have h : (V.alloc (.cells cs t)).heap[V.heap.size]? = some (.cells cs t (0, 0)) := heap_alloc_new V _
 unfold shape
 simp only [Sem.run, World.shape?, h]
theorem freeze_new (V : World) (cs : Array Value) (t : TypeId) (k : Nat) : (V.alloc (.cells cs t)).freeze ⟨V.heap.size, k, none⟩ 1 = V.alloc (.cells cs t (k, k + 1)) := by
 unfold World.freeze World.alloc
 rw [if_neg (by decide)]
 congr 1
 apply Array.ext_getElem?
 intro i
 rw [Array.getElem?_modify]
 rcases Nat.lt_trichotomy i V.heap.size with h | h | h
 ·rw [if_neg (by dsimp only; omega), Array.getElem?_push_lt h, Array.getElem?_push_lt h]
 ·subst h
  simp
 ·rw [if_neg (by dsimp only; omega)]
  simp [Array.getElem?_push, Nat.ne_of_gt h, Array.getElem?_eq_none (Nat.le_of_lt h)]
theorem run_conv (V : World) (cs : Array Value) (t : TypeId) (n c : Nat) : (convert 45 45 (.slice (some ⟨V.heap.size, 0, none⟩) n c)).run Tryz.prog (V.alloc (.cells cs t)) = .ok (.slice (some ⟨V.heap.size, 0, none⟩) n c) (V.alloc (.cells cs t (cs.size, cs.size + 1))) := by
 have h1 := shape_new Tryz.prog V cs t
 have u1 : (underlying 45).run Tryz.prog (V.alloc (.cells cs t)) = .ok (.slice 5) (V.alloc (.cells cs t)) := by kernel_rfl
 have u2 : (underlying 5).run Tryz.prog (V.alloc (.cells cs t)) = .ok (.int .u8) (V.alloc (.cells cs t)) := by kernel_rfl
 unfold convert
 simp only [Sem.run_bind, u1, u2, Result.andThen_ok, markStringish, h1, freeze, Sem.run, freeze_new, beq_self_eq_true]
 rfl
theorem rd_newf (V : World) (xs : List Value) (t : TypeId) (fr : Nat × Nat) (sz n : Nat) (hl : xs.length = n * sz) (hn : n ≤ maxLen) : Rd (V.alloc (.cells xs.toArray t fr)) (fun k => k = V.heap.size) sz (.slice (some ⟨V.heap.size, 0, none⟩) n n) n xs :=
 ⟨_, _, rfl, hn, hl, fun _ => ⟨_, 0, rfl, rfl, by simp, fun j u hu => by
  rw [Nat.zero_add, cell_of_row _ V.heap.size j xs.toArray t fr (heap_alloc_new V _)]
  simpa using hu⟩⟩
noncomputable def sBody : Code := Tryz.f11.body.getD .skip
noncomputable def sTail : Code := match sBody with | .seq _ (.seq _ (.seq _ (.seq _ (.seq _ (.seq _ (.seq _ (.seq _ r))))))) => r | _ => .skip
set_option maxHeartbeats 8000000 in
theorem shown_tail {w u : World} {sB xB : Nat} {VI VT VS VF XV : Value} (hsv : SetV u VI VT VS VF [5, 9] 1 xTab [5] [2, 4]) (hZ : TzT u) (hl : Lies w u) (hs : Blk u sB 25 #[VI, .int .i64 1, VT, VS, VF]) (hx : Blk u xB 27 #[XV, .int .i64 3]) (hxr : Rd u (fun _ => True) 1 XV 1 (wordsV [6]))
  {b : Frame} (hbf : b.fn = 11) (hbn : b.kind = .normal) {c : Frame} {cs : List Frame} {Fin : Goroutine → World → Prop} (hk : ∀ v w', v = .bool true ∧ Lies w w' → Go0 Tryz.prog Fin (G (c.finish v) cs) w')
  (v0 v2 v3 v5 v6 v7 v8 v9 v10 v11 v12 v13 v14 v15 v16 v17 v18 v19 v20 v21 v22 v23 v24 v25 v26 v27 v28 v29 v30 v31 v32 v33 v34 v35 v36 v37 v38 v39 v40 v41 v42 v43 v44 v45 v46 v47 v48 v49 v50 v51 v52 v53 v54 v55 v56 v57 v58 v59 v60 v61 v62 v63 v64 v65 v66 v67 v68 v69 v70 v71 v72 v73 v74 v75 v76 v77 v78 v79 v80 v81 v82 v83 v84 v85 v86 v87 v88 v89 v90 v91 v92 v93 v94 v95 v96 v97 v98 v99 v100 v101 v102 v103 v104 v105 v106 v107 v108 v109 v110 v111 v112 v113 v114 v115 v116 v117 v118 v119 v120 v121 v122 v123 v124 v125 v126 v127 v128 v129 v130 v131 v132 v133 : Value) : Go0 Tryz.prog Fin (G (b.at ⟨#[v0, .pointer (some ⟨sB, 0, none⟩), v2, v3, .pointer (some ⟨xB, 0, none⟩), v5, v6, v7, v8, v9, v10, v11, v12, v13, v14, v15, v16, v17, v18, v19, v20, v21, v22, v23, v24, v25, v26, v27, v28, v29, v30, v31, v32, v33, v34, v35, v36, v37, v38, v39, v40, v41, v42, v43, v44, v45, v46, v47, v48, v49, v50, v51, v52, v53, v54, v55, v56, v57, v58, v59, v60, v61, v62, v63, v64, v65, v66, v67, v68, v69, v70, v71, v72, v73, v74, v75, v76, v77, v78, v79, v80, v81, v82, v83, v84, v85, v86, v87, v88, v89, v90, v91, v92, v93, v94, v95, v96, v97, v98, v99, v100, v101, v102, v103, v104, v105, v106, v107, v108, v109, v110, v111, v112, v113, v114, v115, v116, v117, v118, v119, v120, v121, v122, v123, v124, v125, v126, v127, v128, v129, v130, v131, v132, v133], []⟩ [.code sTail]) (c :: cs)) u := by
 have HK := hID hk
 have HL := hID hl
 have HS := hID hs
 have HX := hID hx
 have HXR := hID hxr
 have HRU := hID (fun (V : World) (l : Lies u V) (bv : Value) (hb : Rd V (fun _ => True) 1 bv 3 (bytesV [97, 97, 98])) => g_run [5, 9] 1 xTab [5] [2, 4] [97, 97, 98] V VI VT VS VF bv (l.set hsv) (l.tz hZ) (by decide) hb)
 have HAL := hID (fun (V : World) (l : Lies u V) => n_alive_ok [5, 9] 1 xTab [5] [2, 4] [6] 3 V VI VT VS VF XV x_sh3 (by decide) (l.set hsv) (l.tz hZ) (l.rd hxr))
 obtain ⟨AX, cx, rfl, -⟩ := hxr.form
 clear hk hl hs hx hxr hsv hZ
 simp only [sTail, sBody, Tryz.f11, Option.getD_some]
 -- Run
 refine Go0.seq mild (Go0.region_call mild [_, _, _] _ _ rfl fun Q hQ V hV => ?_)
 have HQ := hID hQ
 have HV := hID (Lies.same hV)
 have HSB := hID (HV.out.blk HS.out)
 have s0 := HSB.out.cell 0
 have s1 := HSB.out.cell 1
 have s2 := HSB.out.cell 2
 have s3 := HSB.out.cell 3
 have s4 := HSB.out.cell 4
 have hcv := run_conv V #[.int .u8 97, .int .u8 97, .int .u8 98] 5 3 3
 clear hQ hV
 go_wp2_with fail
 have hb := (rd_newf V (bytesV [97, 97, 98]) 5 (3, 4) 1 3 rfl (by decide)).any
 have HLA := hID (HV.out.alloc (.cells #[.int .u8 97, .int .u8 97, .int .u8 98] 5 (3, 4)))
 clear hcv
 refine HQ.out _ _ ⟨by rfl, _, _, _, fun V => ?_, HRU.out _ HLA.out _ hb, ?_⟩
 ·simp [go_sem]
 clear hb HQ
 rintro v w5 ⟨out, rfl, hout, l5⟩ Q hQ V5 hV
 obtain ⟨Ao, co, rfl, -⟩ := hout.form
 have HV5 := hID ((HLA.out.trans l5).trans (Lies.same hV))
 have hout2 := ((Lies.same hV).rd hout).any
 rw [x_run] at hout2
 have HOU : Hid (Rd V5 (fun _ => True) 2 (.slice Ao 4 co) 4 (cellsP [(1, 1), (2, 1), (3, 0), (3, 1)])) := hID hout2
 rw [show (ruHits [5, 9] 1 xTab [5] [2, 4] [97, 97, 98]).length = 4 by rw [x_run]; rfl, show ruErr [5, 9] 1 xTab [5] [2, 4] [97, 97, 98].length = 0 from x_runE]
 have HQ := hID hQ
 clear hout hout2 l5 hQ hV HLA HRU HSB s0 s1 s2 s3 s4 HV
 go_wp2_with fail
 refine HQ.out _ _ ?_
 clear HQ
 -- Alive
 refine Go0.seq mild (Go0.wpQ mild fun Q hQ V6 hV => ?_)
 have HQ := hID hQ
 have HV6 := hID (HV5.out.trans (Lies.same hV))
 have HO6 := hID ((Lies.same hV).rd HOU.out)
 have s := HV6.out.blk HS.out
 have x := HV6.out.blk HX.out
 have s0 := s.cell 0
 have s1 := s.cell 1
 have s2 := s.cell 2
 have s3 := s.cell 3
 have s4 := s.cell 4
 have x0 := x.cell 0
 have x1 := x.cell 1
 clear hQ hV s x HV5 HOU
 go_wp2_with fail
 have hal := HAL.out V6 HV6.out
 rw [show aliveN (planL [5, 9] [6].length xTab [5] [2, 4]) (onesN [6]) = [(0, 0, 2), (1, 2, 1)] from x_alive] at hal
 refine hal.mono ?_
 rintro e w7 ⟨av, rfl, har, l7⟩
 obtain ⟨Aa, ca, rfl, -⟩ := har.form
 have HV7 := hID (HV6.out.trans l7)
 have HO7 := hID (l7.rd HO6.out)
 have HA7 := hID (har.any)
 clear hal har l7 HV6 HO6 s0 s1 s2 s3 s4 x0 x1 HAL HX HS
 go_wp2_with fail
 refine HQ.out _ _ _ ?_
 clear HQ
 show Go0 _ _ _ _
 -- the answer
 refine Go0.seq mild (Go0.wpQ mild fun Q hQ V8 hV => ?_)
 have HQ := hID hQ
 have HV8 := hID (HV7.out.trans (Lies.same hV))
 have HO8 := hID ((Lies.same hV).rd HO7.out)
 have HA8 := hID ((Lies.same hV).rd HA7.out)
 clear hQ hV HV7 HO7 HA7
 go_wp2_with fail
 have hb := (rd_new V8 (cellsP [(1, 1), (2, 1), (3, 0), (3, 1)]) 85 2 4 rfl (by decide)).any
 refine (r20_same [(1, 1), (2, 1), (3, 0), (3, 1)] (by decide) _ _ _ (((Lies.refl V8).alloc (.cells (cellsP [(1, 1), (2, 1), (3, 0), (3, 1)]).toArray 85)).rd HO8.out) hb).mono ?_
 rintro e w9 ⟨rfl, o9⟩
 have HV9 := hID ((HV8.out.alloc (.cells (cellsP [(1, 1), (2, 1), (3, 0), (3, 1)]).toArray 85)).trans (.of' o9))
 have ha := (((Lies.refl V8).alloc (.cells (cellsP [(1, 1), (2, 1), (3, 0), (3, 1)]).toArray 85)).trans (.of' o9)).rd HA8.out
 clear hb o9 HV8 HO8 HA8
 obtain ⟨ba, oa, ca2, hAa, hac⟩ := ha.cellsT (by decide)
 injection hAa with hAa1 _ hAa3
 subst hAa1 hAa3
 have a0 := hac _ (Off.refl _ _) 0 _ rfl
 have a1 := hac _ (Off.refl _ _) 1 _ rfl
 have a2 := hac _ (Off.refl _ _) 2 _ rfl
 have a3 := hac _ (Off.refl _ _) 3 _ rfl
 have a4 := hac _ (Off.refl _ _) 4 _ rfl
 have a5 := hac _ (Off.refl _ _) 5 _ rfl
 clear hac ha
 rw [Nat.add_zero] at a0
 go_wp2_with fail
 refine HQ.out _ _ _ ?_
 show Go0 _ _ _ _
 refine Go0.ret mild (Go0.leave mild (fun τ d => ⟨rfl, rfl, hbn, _, (by show Tryz.prog.funcs[b.fn]? = _; rw [hbf]; exact Tryz.func11), results_tmp rfl _ _ _⟩) (HK.out _ _ ⟨rfl, HL.out.trans HV9.out⟩))
end Go.Proofs.YtlgjaefcfnndhaaGreatDoor

namespace Go.Proofs.YtlgjaefcfnndhaaGreatDoor
open Go.RowKit Go.Conc Go.Pip Go.Ride
set_option maxRecDepth 100000
structure Hold (w0 : World) (sB xB rB hB : Nat) (AI AT AS AF r0 r1 r2 h0 h1 h2 XV : Value) (X : List Nat) (at_ : Int) (V : World) : Prop where
 l : Lies w0 V
 hx : w0.heap.size ≤ xB
 s : Blk V sB 25 #[AI, .int .i64 1, AT, AS, AF]
 sx : sB ≠ xB
 x : Blk V xB 27 #[XV, .int .i64 at_]
 xr : Rd V (fun k => k ≠ xB) 1 XV X.length (wordsV X)
 r : Blk V rB 82 #[r0, r1, r2]
 rx : rB ≠ xB
 h : Blk V hB 83 #[h0, h1, h2]
 hhx : hB ≠ xB
 q0 : Rd V (fun k => k ≠ xB) 1 r0 1 (wordsV [5])
 q1 : Rd V (fun k => k ≠ xB) 1 r1 1 (wordsV [5])
 q2 : Rd V (fun k => k ≠ xB) 1 r2 1 (wordsV [6])
 p0 : Rd V (fun k => k ≠ xB) 1 h0 1 ([1].map (Value.int .i64))
 p1 : Rd V (fun k => k ≠ xB) 1 h1 1 ([1].map (Value.int .i64))
 p2 : Rd V (fun k => k ≠ xB) 1 h2 2 ([0, 1].map (Value.int .i64))
section
variable {w0 V V' : World} {sB xB rB hB : Nat} {AI AT AS AF r0 r1 r2 h0 h1 h2 XV : Value} {X : List Nat} {at_ : Int}
theorem Hold.go (h : Hold w0 sB xB rB hB AI AT AS AF r0 r1 r2 h0 h1 h2 XV X at_ V) (l : Lies V V') : Hold w0 sB xB rB hB AI AT AS AF r0 r1 r2 h0 h1 h2 XV X at_ V' :=
 ⟨h.l.trans l, h.hx, l.blk h.s, h.sx, l.blk h.x, l.rd h.xr, l.blk h.r, h.rx, l.blk h.h, h.hhx, l.rd h.q0, l.rd h.q1, l.rd h.q2, l.rd h.p0, l.rd h.p1, l.rd h.p2⟩
theorem rd_put {n sz : Nat} {v : Value} {xs : List Value} (h : Rd V (fun k => k ≠ xB) sz v n xs) (a b : Value) : Rd ((V.setCell ⟨xB, 0, none⟩ a).setCell ⟨xB, 1, none⟩ b) (fun k => k ≠ xB) sz v n xs :=
 h.keep (Off.put (F := fun j => j = xB) (Off.put (F := fun j => j = xB) (Off.refl _ _) (.inl rfl) _) (.inl rfl) _) (fun k hk he => hk he)
theorem blk_put {g : Nat} {t : TypeId} {cs : Array Value} (h : Blk V g t cs) (hg : g ≠ xB) (a b : Value) : Blk ((V.setCell ⟨xB, 0, none⟩ a).setCell ⟨xB, 1, none⟩ b) g t cs := (h.far (p := ⟨xB, 0, none⟩) hg _).far (p := ⟨xB, 1, none⟩) hg _
theorem Hold.put (h : Hold w0 sB xB rB hB AI AT AS AF r0 r1 r2 h0 h1 h2 XV X at_ V) {XV' : Value} {X' : List Nat} (at' : Int) (hr : Rd V (fun k => k ≠ xB) 1 XV' X'.length (wordsV X')) : Hold w0 sB xB rB hB AI AT AS AF r0 r1 r2 h0 h1 h2 XV' X' at' ((V.setCell ⟨xB, 0, none⟩ XV').setCell ⟨xB, 1, none⟩ (.int .i64 at')) :=
 ⟨(h.l.put (p := ⟨xB, 0, none⟩) h.hx _).put (p := ⟨xB, 1, none⟩) h.hx _, h.hx, blk_put h.s h.sx _ _, h.sx, (h.x.put 0 XV').put 1 (.int .i64 at'), rd_put hr _ _, blk_put h.r h.rx _ _, h.rx, blk_put h.h h.hhx _ _, h.hhx, rd_put h.q0 _ _, rd_put h.q1 _ _, rd_put h.q2 _ _, rd_put h.p0 _ _, rd_put h.p1 _ _, rd_put h.p2 _ _⟩
end
structure Acc (w0 : World) (xB : Nat) (bs : List (Nat × TypeId × Array Value)) (rs : List (Value × Nat × Nat × List Value)) (V : World) : Prop where
 l : Lies w0 V
 b : ∀ x ∈ bs, Blk V x.1 x.2.1 x.2.2
 r : ∀ x ∈ rs, Rd V (fun k => k ≠ xB) x.2.1 x.1 x.2.2.1 x.2.2.2
section
variable {w0 V V' : World} {xB : Nat} {bs : List (Nat × TypeId × Array Value)} {rs : List (Value × Nat × Nat × List Value)}
theorem Acc.go (h : Acc w0 xB bs rs V) (l : Lies V V') : Acc w0 xB bs rs V' := ⟨h.l.trans l, fun x hx => l.blk (h.b x hx), fun x hx => l.rd (h.r x hx)⟩
theorem Acc.addB (h : Acc w0 xB bs rs V) {g : Nat} {t : TypeId} {cs : Array Value} (hb : Blk V g t cs) : Acc w0 xB ((g, t, cs) :: bs) rs V := ⟨h.l, fun x hx => by rcases List.mem_cons.1 hx with rfl | hx; exact hb; exact h.b x hx, h.r⟩
theorem Acc.addR (h : Acc w0 xB bs rs V) {v : Value} {sz n : Nat} {xs : List Value} (hr : Rd V (fun k => k ≠ xB) sz v n xs) : Acc w0 xB bs ((v, sz, n, xs) :: rs) V := ⟨h.l, h.b, fun x hx => by rcases List.mem_cons.1 hx with rfl | hx; exact hr; exact h.r x hx⟩
end
theorem Lies.drew (V : World) : Lies V V.drew := ⟨rfl, rfl, Nat.le_refl _, fun _ _ => rfl⟩
theorem Rd.there {V : World} {F : Nat → Prop} {sz n : Nat} {v : Value} {xs : List Value} (h : Rd V F sz v n xs) : Rd V (fun k => F k ∧ k < V.heap.size) sz v n xs := by
 obtain ⟨A, c, rfl, h1, h2, h3⟩ := h
 refine ⟨A, c, rfl, h1, h2, fun hn => ?_⟩
 obtain ⟨b, o, rfl, hf, hb, hx⟩ := h3 hn
 exact ⟨b, o, rfl, ⟨hf, hb⟩, hb, hx⟩
theorem n_same (L : List Nat) (hL : L.length ≤ 4096) {F G : Nat → Prop} (w : World) (u v : Value) (hu : Rd w F 1 u L.length (wordsV L)) (hv : Rd w G 1 v L.length (wordsV L)) : Calls Tryz.prog 37 #[u, v] w (RetV w (.bool true)) := by
 have h := r_same L L hL hL w u v hu.any hv.any
 simpa using h
set_option maxHeartbeats 4000000 in
theorem n_row (a b : Int) (L : List Nat) (hc : ∀ (w : World) (v : Value), Rd w (fun _ => True) 1 v 2 [.int .i64 a, .int .i64 b] → Calls Tryz.prog 71 #[.int .i64 1, v] w (fun e w' => ∃ u, e = .returned (.tuple #[u, .int .i64 0]) ∧ Rd w' (fun k => w.heap.size ≤ k) 1 u 1 (wordsV L) ∧ Off Nob w w'))
  (w : World) (v : Value) (hv : Rd w (fun _ => True) 1 v 2 [.int .i64 a, .int .i64 b]) : Calls Tryz.prog 40 #[v] w (fun e w' => ∃ u, e = .returned u ∧ Rd w' (fun k => w.heap.size ≤ k) 1 u 1 (wordsV L) ∧ Off Nob w w') := by
 have HC := hID (hc w v hv)
 obtain ⟨A, c, rfl, _⟩ := hv.form
 clear hc hv
 go_enter Tryz.func40, Tryz.ntmps40
 go_wp2_with fail
 refine HC.out.mono ?_
 rintro e w1 ⟨u, rfl, h1, h2⟩
 obtain ⟨A1, c1, rfl, _⟩ := h1.form
 have H1 := hID h1
 have H2 := hID h2
 clear h1 h2
 go_wp2_with fail
 go_ret
 exact ⟨_, rfl, H1.out, H2.out⟩
set_option maxHeartbeats 16000000 in
theorem g_shown (w : World) (hZ : TzT w) : CallsG Tryz.prog 11 #[] w (fun v w' => v = .bool true ∧ Lies w w') := by
 intro c cs Fin hk
 have hen : Frame.enter Tryz.prog 11 #[] .normal = (base 11).at ⟨#[undef, undef, undef, undef, undef, undef, undef, undef, undef, undef, undef, undef, undef, undef, undef, undef, undef, undef, undef, undef, undef, undef, undef, undef, undef, undef, undef, undef, undef, undef, undef, undef, undef, undef, undef, undef, undef, undef, undef, undef, undef, undef, undef, undef, undef, undef, undef, undef, undef, undef, undef, undef, undef, undef, undef, undef, undef, undef, undef, undef, undef, undef, undef, undef, undef, undef, undef, undef, undef, undef, undef, undef, undef, undef, undef, undef, undef, undef, undef, undef, undef, undef, undef, undef, undef, undef, undef, undef, undef, undef, undef, undef, undef, undef, undef, undef, undef, undef, undef, undef, undef, undef, undef, undef, undef, undef, undef, undef, undef, undef, undef, undef, undef, undef, undef, undef, undef, undef, undef, undef, undef, undef, undef, undef, undef, undef, undef, undef, undef, undef, undef, undef, undef, undef], []⟩ [.code sBody] := by
  have h := enter_at (P := Tryz.prog) #[] Tryz.func11 (c := sBody) rfl
  simp only [Tryz.ntmps11, List.size_toArray, List.length_cons, List.length_nil, Nat.reduceAdd, Nat.reduceSub, Array.replicate_succ, Array.replicate_zero, List.push_toArray, List.append_toArray, List.nil_append, List.cons_append] at h
  exact h
 rw [hen]
 generalize hbb : base 11 = b
 have hbf : b.fn = 11 := by rw [← hbb]; rfl
 have hbn : b.kind = .normal := by rw [← hbb]; rfl
 clear hen hbb
 have HK := hID hk
 have HZ := hID hZ
 clear hk hZ
 simp only [sBody, Tryz.f11, Option.getD_some]
 -- R0
 refine Go0.seq mild (Go0.wpQ mild fun Q hQ V hV => ?_)
 have HQ := hID hQ
 have HL := hID (Lies.same hV)
 clear hQ hV
 go_wp2_with fail
 refine HQ.out _ _ _ ?_
 clear HQ
 show Go0 _ _ _ _
 -- R1: Example and Compile
 refine Go0.seq mild (Go0.wpQ mild fun Q hQ V hV => ?_)
 have HQ := hID hQ
 have HL1 := hID (HL.out.trans (Lies.same hV))
 clear hQ hV HL
 go_wp2_with fail
 refine (co_example V).mono ?_
 rintro e w1 ⟨v, va, vb, rfl, hv, ha, hb, o1⟩
 obtain ⟨Av, cv, rfl, -⟩ := hv.form
 have HV := hID hv
 have HA := hID ha
 have HB := hID hb
 have O1 := hID o1
 clear hv ha hb o1
 go_wp2_with fail
 refine (co_compile w1 _ va vb HV.out HA.out HB.out).mono ?_
 rintro e w2 ⟨vi, vt, vs, vf, rfl, h1, h2, h3, h4, h5, h6, h7⟩
 have HL2 := hID ((HL1.out.trans (.of' O1.out)).trans (.of' h7))
 obtain ⟨Ai, ci, rfl, -⟩ := h1.form
 obtain ⟨At, ct, rfl, -⟩ := h2.form
 obtain ⟨As, cs', rfl, -⟩ := h3.form
 obtain ⟨Af, cf, rfl, -⟩ := h4.form
 have HSV : Hid (SetV w2 (.slice Ai 2 ci) (.slice At 256 ct) (.slice As 1 cs') (.slice Af 2 cf) [5, 9] 1 xTab [5] [2, 4]) := hID ⟨h1, by rw [xTab_len, xTab_V]; exact h2, h3, h4, h5, h6, by decide, by decide, xTab_lt, by decide, by decide, by decide, by rw [xTab_len]; decide, by decide, by decide⟩
 clear h1 h2 h3 h4 h5 h6 h7 HV HA HB O1 HL1 w1
 go_wp2_with fail
 refine HQ.out _ _ _ ?_
 clear HQ
 show Go0 _ _ _ _
 have HS0 := hID (Blk.new w2 25 #[.slice Ai 2 ci, .int .i64 1, .slice At 256 ct, .slice As 1 cs', .slice Af 2 cf])
 have HSV0 := hID (((Lies.refl w2).alloc (.cells #[.slice Ai 2 ci, .int .i64 1, .slice At 256 ct, .slice As 1 cs', .slice Af 2 cf] 25)).set HSV.out)
 have HL0 := hID (HL2.out.alloc (.cells #[.slice Ai 2 ci, .int .i64 1, .slice At 256 ct, .slice As 1 cs', .slice Af 2 cf] 25))
 clear HL2 HSV
 revert HS0 HSV0 HL0
 generalize w2.heap.size = sB
 generalize w2.alloc _ = u0
 intro HS0 HSV0 HL0
 refine Go0.seq mild (Go0.wpQ mild fun Q hQ V hV => ?_)
 have HQ := hID hQ
 have HV := hID (Lies.same hV)
 clear hQ hV
 go_wp2_with fail
 refine HQ.out _ _ _ ?_
 clear HQ
 show Go0 _ _ _ _
 -- R4: Start
 refine Go0.seq mild (Go0.wpQ mild fun Q hQ V2 hV => ?_)
 have HQ := hID hQ
 have HV2 := hID (HV.out.trans (Lies.same hV))
 have HSB := hID (HV2.out.blk HS0.out)
 have s0 := HSB.out.cell 0
 have s1 := HSB.out.cell 1
 have s2 := HSB.out.cell 2
 have s3 := HSB.out.cell 3
 have s4 := HSB.out.cell 4
 clear hQ hV HV
 go_wp2_with fail
 have hst := n_start_all [5, 9] 1 xTab [5] [2, 4] V2 _ _ _ _ (HV2.out.set HSV0.out) (HV2.out.tz (HL0.out.tz HZ.out))
 rw [x_row0, x_set] at hst
 refine hst.mono ?_
 rintro e u1 ⟨XV, rfl, hr, l1⟩
 obtain ⟨AX, cx, rfl, -⟩ := hr.form
 have HX := hID hr
 have HL1 := hID (HV2.out.trans l1)
 have HS1 := hID (l1.blk HSB.out)
 clear hr l1 hst HSB s0 s1 s2 s3 s4
 go_wp2_with fail
 refine HQ.out _ _ _ ?_
 clear HQ
 show Go0 _ _ _ _
 have HSV1 := hID (HL1.out.set HSV0.out)
 have HZ1 := hID (HL1.out.tz (HL0.out.tz HZ.out))
 have HLW := hID (HL0.out.trans HL1.out)
 have HX1 := hID (Blk.new u1 27 #[.slice AX 1 cx, .int .i64 0])
 have HA := hID (Acc.addR (xB := u1.heap.size) (Acc.addB (xB := u1.heap.size) (bs := []) (rs := []) (Acc.mk ((Lies.refl u1).alloc (.cells #[.slice AX 1 cx, .int .i64 0] 27)) (by simp) (by simp)) (HS1.out.alloc (.cells #[.slice AX 1 cx, .int .i64 0] 27))) (((Lies.refl u1).alloc (.cells #[.slice AX 1 cx, .int .i64 0] 27)).rd (HX.out.there.mono (fun k hk => by omega))))
 have HSX : Hid (sB ≠ u1.heap.size) := hID (by have := HS1.out.lt; omega)
 have HZX : Hid ((u1.alloc (.cells #[.slice AX 1 cx, .int .i64 0] 27)).heap.size = u1.heap.size + 1) := hID (World.size_alloc _ _)
 clear HX HL1 HS1 HSV0 HL0 HS0 HV2
 revert HX1 HA HSX HZX
 generalize u1.alloc _ = u2
 obtain ⟨xB, hxB⟩ : ∃ xB, u1.heap.size = xB := ⟨_, rfl⟩
 have HXB := hID hxB
 rw [hxB]
 clear hxB
 intro HX1 HA HSX HZX
 -- R5
 refine Go0.seq mild (Go0.wpQ mild fun Q hQ V hV => ?_)
 have HQ := hID hQ
 have HA2 := hID (HA.out.go (Lies.same hV))
 have HB2 := hID ((Lies.same hV).blk HX1.out)
 clear hQ hV HA HX1 HZX
 go_wp2_with fail
 refine HQ.out _ _ _ ?_
 clear HQ
 show Go0 _ _ _ _
 -- R7: the rows
 refine Go0.seq mild (Go0.wpQ mild fun Q hQ V2 hV => ?_)
 have HQ := hID hQ
 have HA3 := hID (HA2.out.go (Lies.same hV))
 have HB3 := hID ((Lies.same hV).blk HB2.out)
 clear hQ hV HA2 HB2
 go_wp2_with fail
 refine (n_row 0 2 [5] co_rof_02 _ _ (rd_alloc V2 [.int .i64 0, .int .i64 2] 3 1 2 rfl (by decide))).mono ?_
 rintro e a0 ⟨r0, rfl, hr, o⟩
 have hl0 : Lies V2 a0 := ((Lies.refl V2).alloc _).trans (.of' o)
 obtain ⟨R0, k0, rfl, -⟩ := hr.form
 have HR0 := hID (HA3.out.go hl0 |>.addR (hr.mono (fun k hk => by have := HB3.out.lt; simp at hk; omega)))
 have HBB0 := hID (hl0.blk HB3.out)
 clear hr o hl0 HA3 HB3
 go_wp2_with fail
 refine (n_row 0 2 [5] co_rof_02 _ _ (rd_alloc a0 [.int .i64 0, .int .i64 2] 3 1 2 rfl (by decide))).mono ?_
 rintro e a1 ⟨r1, rfl, hr, o⟩
 have hl1 : Lies a0 a1 := ((Lies.refl a0).alloc _).trans (.of' o)
 obtain ⟨R1, k1, rfl, -⟩ := hr.form
 have HR1 := hID (HR0.out.go hl1 |>.addR (hr.mono (fun k hk => by have := HBB0.out.lt; simp at hk; omega)))
 have HBB1 := hID (hl1.blk HBB0.out)
 clear hr o hl1 HR0 HBB0
 go_wp2_with fail
 refine (n_row 1 2 [6] co_rof_12 _ _ (rd_alloc a1 [.int .i64 1, .int .i64 2] 3 1 2 rfl (by decide))).mono ?_
 rintro e a2 ⟨r2, rfl, hr, o⟩
 have hl2 : Lies a1 a2 := ((Lies.refl a1).alloc _).trans (.of' o)
 obtain ⟨R2, k2, rfl, -⟩ := hr.form
 have HR2 := hID (HR1.out.go hl2 |>.addR (hr.mono (fun k hk => by have := HBB1.out.lt; simp at hk; omega)))
 have HBB2 := hID (hl2.blk HBB1.out)
 clear hr o hl2 HR1 HBB1
 go_wp2_with fail
 refine HQ.out _ _ _ ?_
 clear HQ
 show Go0 _ _ _ _
 have HA4 := hID (Acc.addB (HR2.out.go ((Lies.refl a2).alloc (.cells #[.slice R0 1 k0, .slice R1 1 k1, .slice R2 1 k2] 82))) (Blk.new a2 82 #[.slice R0 1 k0, .slice R1 1 k1, .slice R2 1 k2]))
 have HB4 := hID (((Lies.refl a2).alloc (.cells #[.slice R0 1 k0, .slice R1 1 k1, .slice R2 1 k2] 82)).blk HBB2.out)
 have HRX : Hid (a2.heap.size ≠ xB) := hID (by have := HBB2.out.lt; omega)
 clear HR2 HBB2
 revert HA4 HB4 HRX
 generalize a2.alloc _ = u3
 generalize a2.heap.size = rB
 intro HA4 HB4 HRX
 -- R8: the hits
 refine Go0.seq mild (Go0.wpQ mild fun Q hQ V3 hV => ?_)
 have HQ := hID hQ
 have HA5 := hID (HA4.out.go (Lies.same hV))
 have HB5 := hID ((Lies.same hV).blk HB4.out)
 clear hQ hV HA4 HB4
 go_wp2_with fail
 refine HQ.out _ _ _ ?_
 clear HQ
 show Go0 _ _ _ _
 have HH : Hid (Hold u1 sB xB rB (V3.heap.size + 1 + 1 + 1) (.slice Ai 2 ci) (.slice At 256 ct) (.slice As 1 cs') (.slice Af 2 cf) (.slice R0 1 k0) (.slice R1 1 k1) (.slice R2 1 k2) (.slice (some ⟨V3.heap.size, 0, none⟩) 1 1) (.slice (some ⟨V3.heap.size + 1, 0, none⟩) 1 1) (.slice (some ⟨V3.heap.size + 1 + 1, 0, none⟩) 2 2) (.slice AX 1 cx) [0] 0
   ((((V3.alloc (.cells #[.int .i64 1] 3)).alloc (.cells #[.int .i64 1] 3)).alloc (.cells #[.int .i64 0, .int .i64 1] 3)).alloc (.cells #[.slice (some ⟨V3.heap.size, 0, none⟩) 1 1, .slice (some ⟨V3.heap.size + 1, 0, none⟩) 1 1, .slice (some ⟨V3.heap.size + 1 + 1, 0, none⟩) 2 2] 83))) := hID (by
  have lt := HB5.out.lt
  have z1 : (V3.alloc (.cells #[.int .i64 1] 3)).heap.size = V3.heap.size + 1 := World.size_alloc _ _
  have z2 : ((V3.alloc (.cells #[.int .i64 1] 3)).alloc (.cells #[.int .i64 1] 3)).heap.size = V3.heap.size + 1 + 1 := by rw [World.size_alloc, z1]
  have z3 : (((V3.alloc (.cells #[.int .i64 1] 3)).alloc (.cells #[.int .i64 1] 3)).alloc (.cells #[.int .i64 0, .int .i64 1] 3)).heap.size = V3.heap.size + 1 + 1 + 1 := by rw [World.size_alloc, z2]
  have n0 := rd_new V3 [.int .i64 1] 3 1 1 rfl (by decide)
  have n1 := rd_new (V3.alloc (.cells #[.int .i64 1] 3)) [.int .i64 1] 3 1 1 rfl (by decide)
  have n2 := rd_new ((V3.alloc (.cells #[.int .i64 1] 3)).alloc (.cells #[.int .i64 1] 3)) [.int .i64 0, .int .i64 1] 3 1 2 rfl (by decide)
  have n3 := Blk.new (((V3.alloc (.cells #[.int .i64 1] 3)).alloc (.cells #[.int .i64 1] 3)).alloc (.cells #[.int .i64 0, .int .i64 1] 3)) 83 #[.slice (some ⟨V3.heap.size, 0, none⟩) 1 1, .slice (some ⟨V3.heap.size + 1, 0, none⟩) 1 1, .slice (some ⟨V3.heap.size + 1 + 1, 0, none⟩) 2 2]
  rw [z1] at n1
  rw [z2] at n2
  rw [z3] at n3
  have q := HA5.out.go ((((Lies.refl V3).alloc (.cells #[.int .i64 1] 3)).alloc (.cells #[.int .i64 1] 3)).alloc (.cells #[.int .i64 0, .int .i64 1] 3) |>.alloc (.cells #[.slice (some ⟨V3.heap.size, 0, none⟩) 1 1, .slice (some ⟨V3.heap.size + 1, 0, none⟩) 1 1, .slice (some ⟨V3.heap.size + 1 + 1, 0, none⟩) 2 2] 83))
  have hb := ((((Lies.refl V3).alloc (.cells #[.int .i64 1] 3)).alloc (.cells #[.int .i64 1] 3)).alloc (.cells #[.int .i64 0, .int .i64 1] 3) |>.alloc (.cells #[.slice (some ⟨V3.heap.size, 0, none⟩) 1 1, .slice (some ⟨V3.heap.size + 1, 0, none⟩) 1 1, .slice (some ⟨V3.heap.size + 1 + 1, 0, none⟩) 2 2] 83)).blk HB5.out
  exact ⟨q.l, Nat.le_of_eq HXB.out, q.b (_, _, _) (by simp), HSX.out, hb, q.r (_, _, _, _) (.tail _ (.tail _ (.tail _ (.head _)))), q.b (_, _, _) (by simp), HRX.out, n3, by omega, q.r (_, _, _, _) (.tail _ (.tail _ (.head _))), q.r (_, _, _, _) (.tail _ (.head _)), q.r (_, _, _, _) (.head _),
   ((((Lies.refl _).alloc _).alloc _).alloc _).rd (n0.mono fun k hk => by omega), (((Lies.refl _).alloc _).alloc _).rd (n1.mono fun k hk => by omega), ((Lies.refl _).alloc _).rd (n2.mono fun k hk => by omega)⟩)
 clear HA5 HB5 HRX HSX
 revert HH
 generalize World.alloc _ _ = W0
 generalize V3.heap.size + 1 + 1 + 1 = hB
 generalize V3.heap.size + 1 + 1 = g2
 generalize V3.heap.size + 1 = g1
 generalize V3.heap.size = g0
 intro HH
 -- the loop
 refine Go0.seq mild (Go0.wpP mild fun Q hQ hP V4 hV => ?_)
 have HQ := hID hQ
 have HP := hID hP
 have H0 := hID (HH.out.go (Lies.same hV))
 clear hQ hV HH hP
 go_wp2_with fail
 refine wp_loop_rounds 4 ?_
 rw [rounds_succ]
 have s0 := H0.out.s.cell 0
 have s1 := H0.out.s.cell 1
 have s2 := H0.out.s.cell 2
 have s3 := H0.out.s.cell 3
 have s4 := H0.out.s.cell 4
 have x0 := H0.out.x.cell 0
 have x1 := H0.out.x.cell 1
 have HD := hID (H0.out.go (Lies.drew _))
 go_wp2_with fail
 refine wp_region_held_drew (S := fun W => W.cell? ⟨sB, 0, none⟩ = some (.slice Ai 2 ci) ∧ W.cell? ⟨sB, 1, none⟩ = some (.int .i64 1) ∧ W.cell? ⟨sB, 2, none⟩ = some (.slice At 256 ct) ∧ W.cell? ⟨sB, 3, none⟩ = some (.slice As 1 cs') ∧ W.cell? ⟨sB, 4, none⟩ = some (.slice Af 2 cf)) (by kernel_rfl) ?_ (fun hHeld => ?_)
 ·(try dsimp only); exact ⟨s0, s1, s2, s3, s4⟩
 refine wpAnyH_take (i := 0) (v := ?v0) rfl (by kernel_rfl) (by kernel_rfl) (by kernel_rfl) (fun _ _ _ h => (HP.out _ _ _ h).elim) (Or.inl ⟨by rfl, ?h0⟩) (by assumption) ?r0
 case h0 => (intro w hSw; (try dsimp only at hSw); go_simp <;> with_reducible rfl)
 try simp only [Act.put, qL1, qL2, qL3, qL4, qL5, qL6]
 refine wpAnyH_take (i := 2) (v := ?v1) rfl (by kernel_rfl) (by kernel_rfl) (by kernel_rfl) (fun _ _ _ h => (HP.out _ _ _ h).elim) (Or.inl ⟨by rfl, ?h1⟩) (by assumption) ?r1
 case h1 => (intro w hSw; (try dsimp only at hSw); go_simp <;> with_reducible rfl)
 try simp only [Act.put, qL1, qL2, qL3, qL4, qL5, qL6]
 refine wpAnyH_take (i := 3) (v := ?v2) rfl (by kernel_rfl) (by kernel_rfl) (by kernel_rfl) (fun _ _ _ h => (HP.out _ _ _ h).elim) (Or.inl ⟨by rfl, ?h2⟩) (by assumption) ?r2
 case h2 => (intro w hSw; (try dsimp only at hSw); go_simp <;> with_reducible rfl)
 try simp only [Act.put, qL1, qL2, qL3, qL4, qL5, qL6]
 refine wpAnyH_ready (rs := [1]) (by kernel_rfl) (by simp) ?_
 refine AllReadyH.cons rfl (fun K hK => ?s3) ?m3
 case s3 =>
  go_simp
  refine hK.out _ _ ?_ (fun hHeld => ?_)
  ·first | with_reducible assumption | go_keep
  clear hK K
  try simp only [Act.put, qL1, qL2, qL3, qL4, qL5, qL6]
  refine wpAnyH_ready (rs := [4]) (by kernel_rfl) (by simp) ?_
  refine AllReadyH.cons rfl (fun K hK => ?s4) ?m4
  case s4 =>
   go_simp
   have hst := n_step_ok [5, 9] 1 xTab [5] [2, 4] [0] 0 _ _ _ _ _ _ x_sh0 (by decide) 97 (by decide) (by decide) (HD.out.l.set HSV1.out) (HD.out.l.tz HZ1.out) HD.out.xr.any
   rw [show rdTo [0].length xTab [5] [0] 97 [0].length = [5] from x_rd0, show ((0 : Int) + 1) = 1 from rfl] at hst
   refine hst.mono ?_
   rintro e za0 ⟨u, rfl, hu, l1⟩
   replace hu : Rd za0 (fun j => _ ≤ j) 1 u 1 (wordsV [5]) := hu
   obtain ⟨X1, c1, rfl, -⟩ := hu.form
   have HN1 := hID (HD.out.go l1)
   have HU : Hid (Rd za0 (fun j => j ≠ xB) 1 (.slice X1 1 c1) [5].length (wordsV [5])) := hID (hu.mono (fun j hj => by have := HD.out.x.lt; omega))
   clear hu l1 hst x0 x1
   have z0 := HN1.out.x.cell 0
   have z1 := HN1.out.x.cell 1
   have f0 := HN1.out.x.frozen 0
   have f1 := HN1.out.x.frozen 1
   have T1 : Hid (za0.cell? ⟨sB, 0, none⟩ = some (.slice Ai 2 ci) ∧ za0.cell? ⟨sB, 1, none⟩ = some (.int .i64 1) ∧ za0.cell? ⟨sB, 2, none⟩ = some (.slice At 256 ct) ∧ za0.cell? ⟨sB, 3, none⟩ = some (.slice As 1 cs') ∧ za0.cell? ⟨sB, 4, none⟩ = some (.slice Af 2 cf)) := hID ⟨HN1.out.s.cell 0, HN1.out.s.cell 1, HN1.out.s.cell 2, HN1.out.s.cell 3, HN1.out.s.cell 4⟩
   have HN2 : Hid (Hold u1 sB xB rB hB (.slice Ai 2 ci) (.slice At 256 ct) (.slice As 1 cs') (.slice Af 2 cf) (.slice R0 1 k0) (.slice R1 1 k1) (.slice R2 1 k2) (.slice (some ⟨g0, 0, none⟩) 1 1) (.slice (some ⟨g1, 0, none⟩) 1 1) (.slice (some ⟨g2, 0, none⟩) 2 2) (.slice X1 1 c1) [5] 1 ((za0.setCell ⟨xB, 0, none⟩ (.slice X1 1 c1)).setCell ⟨xB, 1, none⟩ (.int .i64 1))) := hID (HN1.out.put 1 HU.out)
   have T2 : Hid (((za0.setCell ⟨xB, 0, none⟩ (.slice X1 1 c1)).setCell ⟨xB, 1, none⟩ (.int .i64 1)).cell? ⟨sB, 0, none⟩ = some (.slice Ai 2 ci) ∧ ((za0.setCell ⟨xB, 0, none⟩ (.slice X1 1 c1)).setCell ⟨xB, 1, none⟩ (.int .i64 1)).cell? ⟨sB, 1, none⟩ = some (.int .i64 1) ∧ ((za0.setCell ⟨xB, 0, none⟩ (.slice X1 1 c1)).setCell ⟨xB, 1, none⟩ (.int .i64 1)).cell? ⟨sB, 2, none⟩ = some (.slice At 256 ct) ∧ ((za0.setCell ⟨xB, 0, none⟩ (.slice X1 1 c1)).setCell ⟨xB, 1, none⟩ (.int .i64 1)).cell? ⟨sB, 3, none⟩ = some (.slice As 1 cs') ∧ ((za0.setCell ⟨xB, 0, none⟩ (.slice X1 1 c1)).setCell ⟨xB, 1, none⟩ (.int .i64 1)).cell? ⟨sB, 4, none⟩ = some (.slice Af 2 cf)) := hID ⟨HN2.out.s.cell 0, HN2.out.s.cell 1, HN2.out.s.cell 2, HN2.out.s.cell 3, HN2.out.s.cell 4⟩
   go_simp
   refine hK.out _ _ ?_ (fun hHeld => ?_)
   ·first | exact T1.out | go_keep
   clear hK K
   try simp only [Act.put, qL1, qL2, qL3, qL4, qL5, qL6]
   refine wpAnyH_take (i := 5) (v := ?v5) rfl (by kernel_rfl) (by kernel_rfl) (by kernel_rfl) (fun _ _ _ h => (HP.out _ _ _ h).elim) (Or.inl ⟨by rfl, ?h5⟩) (by assumption) ?r5
   case h5 => (intro w hSw; (try dsimp only at hSw); go_simp <;> with_reducible rfl)
   try simp only [Act.put, qL1, qL2, qL3, qL4, qL5, qL6]
   refine wpAnyH_take (i := 6) (v := ?v6) rfl (by kernel_rfl) (by kernel_rfl) (by kernel_rfl) (fun _ _ _ h => (HP.out _ _ _ h).elim) (Or.inl ⟨by rfl, ?h6⟩) (by assumption) ?r6
   case h6 => (intro w hSw; (try dsimp only at hSw); go_simp <;> with_reducible rfl)
   try simp only [Act.put, qL1, qL2, qL3, qL4, qL5, qL6]
   refine wpAnyH_take (i := 7) (v := ?v7) rfl (by kernel_rfl) (by kernel_rfl) (by kernel_rfl) (fun _ _ _ h => (HP.out _ _ _ h).elim) (Or.inl ⟨by rfl, ?h7⟩) (by assumption) ?r7
   case h7 => (intro w hSw; (try dsimp only at hSw); go_simp <;> with_reducible rfl)
   try simp only [Act.put, qL1, qL2, qL3, qL4, qL5, qL6]
   refine wpAnyH_ready (rs := [8]) (by kernel_rfl) (by simp) ?_
   refine AllReadyH.cons rfl (fun K hK => ?s8) ?m8
   case s8 =>
    go_simp
    refine hK.out _ _ ?_ (fun hHeld => ?_)
    ·first | exact T2.out | go_keep
    clear hK K
    try simp only [Act.put, qL1, qL2, qL3, qL4, qL5, qL6]
    refine wpAnyH_take (i := 9) (v := ?v9) rfl (by kernel_rfl) (by kernel_rfl) (by kernel_rfl) (fun _ _ _ h => (HP.out _ _ _ h).elim) (Or.inl ⟨by rfl, ?h9⟩) (by assumption) ?r9
    case h9 => (intro w hSw; (try dsimp only at hSw); go_simp <;> with_reducible rfl)
    try simp only [Act.put, qL1, qL2, qL3, qL4, qL5, qL6]
    refine wpAnyH_done (by kernel_rfl) ?_ _
    clear HN1 HU T1 T2 z0 z1 f0 f1 hHeld HD H0
    revert HN2
    generalize ((za0.setCell ⟨xB, 0, none⟩ (.slice X1 1 c1)).setCell ⟨xB, 1, none⟩ (.int .i64 1)) = zb0
    intro HN2
    have s0 := HN2.out.s.cell 0
    have s1 := HN2.out.s.cell 1
    have s2 := HN2.out.s.cell 2
    have s3 := HN2.out.s.cell 3
    have s4 := HN2.out.s.cell 4
    have x0 := HN2.out.x.cell 0
    have x1 := HN2.out.x.cell 1
    go_wp2_with fail
    have hht := n_hits_ok [5, 9] 1 xTab [5] [2, 4] [5] 1 zb0 _ _ _ _ _ x_sh1 (by decide) (HN2.out.l.set HSV1.out) (HN2.out.l.tz HZ1.out) HN2.out.xr.any
    rw [show hitsN [2, 4] [5] [5].length ([5, 9] : List Int).length = [1] from x_hit5] at hht
    refine hht.mono ?_
    rintro e zc0 ⟨hv, rfl, hh, l3⟩
    replace hh : Rd zc0 (fun j => _ ≤ j) 1 hv 1 (([1] : List Int).map (Value.int .i64)) := hh
    obtain ⟨AH0, ch0, rfl, -⟩ := hh.form
    have HN3 := hID (HN2.out.go l3)
    have HL3 := hID hh
    clear hh l3 hht HN2 s0 s1 s2 s3 s4 x0 x1
    have x0 := HN3.out.x.cell 0
    have x1 := HN3.out.x.cell 1
    have q0 := HN3.out.r.cell 0
    have q1 := HN3.out.h.cell 0
    have HE := hID (HN3.out.go (Lies.drew _))
    have HLR := hID ((Lies.drew _).rd HL3.out)
    clear HL3 HN3
    go_wp2_with fail
    refine wp_region_held_drew (S := fun W => W.cell? ⟨xB, 0, none⟩ = some (.slice X1 1 c1) ∧ W.cell? ⟨xB, 1, none⟩ = some (.int .i64 1) ∧ W.cell? ⟨rB, 0, none⟩ = some (.slice R0 1 k0) ∧ W.cell? ⟨hB, 0, none⟩ = some (.slice (some ⟨g0, 0, none⟩) 1 1)) (by kernel_rfl) ?_ (fun hHeld => ?_)
    ·(try dsimp only); exact ⟨x0, x1, q0, q1⟩
    clear x0 x1 q0 q1
    refine wpAnyH_take (i := 0) (v := ?v500) rfl (by kernel_rfl) (by kernel_rfl) (by kernel_rfl) (fun _ _ _ h => (HP.out _ _ _ h).elim) (Or.inl ⟨by rfl, ?h500⟩) (by assumption) ?r500
    case h500 => (intro w hSw; (try dsimp only at hSw); go_simp <;> with_reducible rfl)
    try simp only [Act.put, qL1, qL2, qL3, qL4, qL5, qL6]
    refine wpAnyH_take (i := 1) (v := ?v501) rfl (by kernel_rfl) (by kernel_rfl) (by kernel_rfl) (fun _ _ _ h => (HP.out _ _ _ h).elim) (Or.inl ⟨by rfl, ?h501⟩) (by assumption) ?r501
    case h501 => (intro w hSw; (try dsimp only at hSw); go_simp <;> with_reducible rfl)
    try simp only [Act.put, qL1, qL2, qL3, qL4, qL5, qL6]
    refine wpAnyH_take (i := 2) (v := ?v502) rfl (by kernel_rfl) (by kernel_rfl) (by kernel_rfl) (fun _ _ _ h => (HP.out _ _ _ h).elim) (Or.inl ⟨by rfl, ?h502⟩) (by assumption) ?r502
    case h502 => (intro w hSw; (try dsimp only at hSw); go_simp <;> with_reducible rfl)
    try simp only [Act.put, qL1, qL2, qL3, qL4, qL5, qL6]
    refine wpAnyH_take (i := 3) (v := ?v503) rfl (by kernel_rfl) (by kernel_rfl) (by kernel_rfl) (fun _ _ _ h => (HP.out _ _ _ h).elim) (Or.inl ⟨by rfl, ?h503⟩) (by assumption) ?r503
    case h503 => (intro w hSw; (try dsimp only at hSw); go_simp <;> with_reducible rfl)
    try simp only [Act.put, qL1, qL2, qL3, qL4, qL5, qL6]
    refine wpAnyH_take (i := 4) (v := ?v504) rfl (by kernel_rfl) (by kernel_rfl) (by kernel_rfl) (fun _ _ _ h => (HP.out _ _ _ h).elim) (Or.inl ⟨by rfl, ?h504⟩) (by assumption) ?r504
    case h504 => (intro w hSw; (try dsimp only at hSw); go_simp <;> with_reducible rfl)
    try simp only [Act.put, qL1, qL2, qL3, qL4, qL5, qL6]
    refine wpAnyH_take (i := 5) (v := ?v505) rfl (by kernel_rfl) (by kernel_rfl) (by kernel_rfl) (fun _ _ _ h => (HP.out _ _ _ h).elim) (Or.inl ⟨by rfl, ?h505⟩) (by assumption) ?r505
    case h505 => (intro w hSw; (try dsimp only at hSw); go_simp <;> with_reducible rfl)
    try simp only [Act.put, qL1, qL2, qL3, qL4, qL5, qL6]
    refine wpAnyH_take (i := 6) (v := ?v506) rfl (by kernel_rfl) (by kernel_rfl) (by kernel_rfl) (fun _ _ _ h => (HP.out _ _ _ h).elim) (Or.inl ⟨by rfl, ?h506⟩) (by assumption) ?r506
    case h506 => (intro w hSw; (try dsimp only at hSw); go_simp <;> with_reducible rfl)
    try simp only [Act.put, qL1, qL2, qL3, qL4, qL5, qL6]
    refine wpAnyH_take (i := 7) (v := ?v507) rfl (by kernel_rfl) (by kernel_rfl) (by kernel_rfl) (fun _ _ _ h => (HP.out _ _ _ h).elim) (Or.inl ⟨by rfl, ?h507⟩) (by assumption) ?r507
    case h507 => (intro w hSw; (try dsimp only at hSw); go_simp <;> with_reducible rfl)
    try simp only [Act.put, qL1, qL2, qL3, qL4, qL5, qL6]
    refine wpAnyH_take (i := 8) (v := ?v508) rfl (by kernel_rfl) (by kernel_rfl) (by kernel_rfl) (fun _ _ _ h => (HP.out _ _ _ h).elim) (Or.inl ⟨by rfl, ?h508⟩) (by assumption) ?r508
    case h508 => (intro w hSw; (try dsimp only at hSw); go_simp <;> with_reducible rfl)
    try simp only [Act.put, qL1, qL2, qL3, qL4, qL5, qL6]
    refine wpAnyH_take (i := 9) (v := ?v509) rfl (by kernel_rfl) (by kernel_rfl) (by kernel_rfl) (fun _ _ _ h => (HP.out _ _ _ h).elim) (Or.inl ⟨by rfl, ?h509⟩) (by assumption) ?r509
    case h509 => (intro w hSw; (try dsimp only at hSw); go_simp <;> with_reducible rfl)
    try simp only [Act.put, qL1, qL2, qL3, qL4, qL5, qL6]
    refine wpAnyH_take (i := 10) (v := ?v510) rfl (by kernel_rfl) (by kernel_rfl) (by kernel_rfl) (fun _ _ _ h => (HP.out _ _ _ h).elim) (Or.inl ⟨by rfl, ?h510⟩) (by assumption) ?r510
    case h510 => (intro w hSw; (try dsimp only at hSw); go_simp <;> with_reducible rfl)
    try simp only [Act.put, qL1, qL2, qL3, qL4, qL5, qL6]
    refine wpAnyH_take (i := 11) (v := ?v511) rfl (by kernel_rfl) (by kernel_rfl) (by kernel_rfl) (fun _ _ _ h => (HP.out _ _ _ h).elim) (Or.inl ⟨by rfl, ?h511⟩) (by assumption) ?r511
    case h511 => (intro w hSw; (try dsimp only at hSw); go_simp <;> with_reducible rfl)
    try simp only [Act.put, qL1, qL2, qL3, qL4, qL5, qL6]
    refine wpAnyH_take (i := 12) (v := ?v512) rfl (by kernel_rfl) (by kernel_rfl) (by kernel_rfl) (fun _ _ _ h => (HP.out _ _ _ h).elim) (Or.inl ⟨by rfl, ?h512⟩) (by assumption) ?r512
    case h512 => (intro w hSw; (try dsimp only at hSw); go_simp <;> with_reducible rfl)
    try simp only [Act.put, qL1, qL2, qL3, qL4, qL5, qL6]
    refine wpAnyH_take (i := 13) (v := ?v513) rfl (by kernel_rfl) (by kernel_rfl) (by kernel_rfl) (fun _ _ _ h => (HP.out _ _ _ h).elim) (Or.inl ⟨by rfl, ?h513⟩) (by assumption) ?r513
    case h513 => (intro w hSw; (try dsimp only at hSw); go_simp <;> with_reducible rfl)
    try simp only [Act.put, qL1, qL2, qL3, qL4, qL5, qL6]
    refine wpAnyH_take (i := 14) (v := ?v514) rfl (by kernel_rfl) (by kernel_rfl) (by kernel_rfl) (fun _ _ _ h => (HP.out _ _ _ h).elim) (Or.inl ⟨by rfl, ?h514⟩) (by assumption) ?r514
    case h514 => (intro w hSw; (try dsimp only at hSw); go_simp <;> with_reducible rfl)
    try simp only [Act.put, qL1, qL2, qL3, qL4, qL5, qL6]
    refine wpAnyH_take (i := 15) (v := ?v515) rfl (by kernel_rfl) (by kernel_rfl) (by kernel_rfl) (fun _ _ _ h => (HP.out _ _ _ h).elim) (Or.inl ⟨by rfl, ?h515⟩) (by assumption) ?r515
    case h515 => (intro w hSw; (try dsimp only at hSw); go_simp <;> with_reducible rfl)
    try simp only [Act.put, qL1, qL2, qL3, qL4, qL5, qL6]
    refine wpAnyH_take (i := 16) (v := ?v516) rfl (by kernel_rfl) (by kernel_rfl) (by kernel_rfl) (fun _ _ _ h => (HP.out _ _ _ h).elim) (Or.inl ⟨by rfl, ?h516⟩) (by assumption) ?r516
    case h516 => (intro w hSw; (try dsimp only at hSw); go_simp <;> with_reducible rfl)
    try simp only [Act.put, qL1, qL2, qL3, qL4, qL5, qL6]
    refine wpAnyH_take (i := 17) (v := ?v517) rfl (by kernel_rfl) (by kernel_rfl) (by kernel_rfl) (fun _ _ _ h => (HP.out _ _ _ h).elim) (Or.inl ⟨by rfl, ?h517⟩) (by assumption) ?r517
    case h517 => (intro w hSw; (try dsimp only at hSw); go_simp <;> with_reducible rfl)
    try simp only [Act.put, qL1, qL2, qL3, qL4, qL5, qL6]
    refine wpAnyH_take (i := 18) (v := ?v518) rfl (by kernel_rfl) (by kernel_rfl) (by kernel_rfl) (fun _ _ _ h => (HP.out _ _ _ h).elim) (Or.inl ⟨by rfl, ?h518⟩) (by assumption) ?r518
    case h518 => (intro w hSw; (try dsimp only at hSw); go_simp <;> with_reducible rfl)
    try simp only [Act.put, qL1, qL2, qL3, qL4, qL5, qL6]
    refine wpAnyH_ready (rs := [19]) (by kernel_rfl) (by simp) ?_
    refine AllReadyH.cons rfl (fun K hK => ?s519) ?m519
    case s519 =>
     go_simp
     refine (n_same [5] (by decide) _ _ _ HE.out.xr HE.out.q0).mono ?_
     rintro e zd0 ⟨rfl, o4⟩
     have HG := hID (HE.out.go (.of' o4))
     have HLS := hID ((Lies.of' o4).rd HLR.out)
     clear o4
     go_simp
     refine hK.out _ _ ?_ (fun hHeld => ?_)
     ·first | exact ⟨HG.out.x.cell 0, HG.out.x.cell 1, HG.out.r.cell 0, HG.out.h.cell 0⟩ | go_keep
     clear hK K
     try simp only [Act.put, qL1, qL2, qL3, qL4, qL5, qL6]
     refine wpAnyH_take (i := 20) (v := ?v520) rfl (by kernel_rfl) (by kernel_rfl) (by kernel_rfl) (fun _ _ _ h => (HP.out _ _ _ h).elim) (Or.inl ⟨by rfl, ?h520⟩) (by assumption) ?r520
     case h520 => (intro w hSw; (try dsimp only at hSw); go_simp <;> with_reducible rfl)
     try simp only [Act.put, qL1, qL2, qL3, qL4, qL5, qL6]
     refine wpAnyH_take (i := 21) (v := ?v521) rfl (by kernel_rfl) (by kernel_rfl) (by kernel_rfl) (fun _ _ _ h => (HP.out _ _ _ h).elim) (Or.inl ⟨by rfl, ?h521⟩) (by assumption) ?r521
     case h521 => (intro w hSw; (try dsimp only at hSw); go_simp <;> with_reducible rfl)
     try simp only [Act.put, qL1, qL2, qL3, qL4, qL5, qL6]
     refine wpAnyH_take (i := 22) (v := ?v522) rfl (by kernel_rfl) (by kernel_rfl) (by kernel_rfl) (fun _ _ _ h => (HP.out _ _ _ h).elim) (Or.inl ⟨by rfl, ?h522⟩) (by assumption) ?r522
     case h522 => (intro w hSw; (try dsimp only at hSw); go_simp <;> with_reducible rfl)
     try simp only [Act.put, qL1, qL2, qL3, qL4, qL5, qL6]
     refine wpAnyH_take (i := 23) (v := ?v523) rfl (by kernel_rfl) (by kernel_rfl) (by kernel_rfl) (fun _ _ _ h => (HP.out _ _ _ h).elim) (Or.inl ⟨by rfl, ?h523⟩) (by assumption) ?r523
     case h523 => (intro w hSw; (try dsimp only at hSw); go_simp <;> with_reducible rfl)
     try simp only [Act.put, qL1, qL2, qL3, qL4, qL5, qL6]
     refine wpAnyH_take (i := 24) (v := ?v524) rfl (by kernel_rfl) (by kernel_rfl) (by kernel_rfl) (fun _ _ _ h => (HP.out _ _ _ h).elim) (Or.inl ⟨by rfl, ?h524⟩) (by assumption) ?r524
     case h524 => (intro w hSw; (try dsimp only at hSw); go_simp <;> with_reducible rfl)
     try simp only [Act.put, qL1, qL2, qL3, qL4, qL5, qL6]
     refine wpAnyH_take (i := 25) (v := ?v525) rfl (by kernel_rfl) (by kernel_rfl) (by kernel_rfl) (fun _ _ _ h => (HP.out _ _ _ h).elim) (Or.inl ⟨by rfl, ?h525⟩) (by assumption) ?r525
     case h525 => (intro w hSw; (try dsimp only at hSw); go_simp <;> with_reducible rfl)
     try simp only [Act.put, qL1, qL2, qL3, qL4, qL5, qL6]
     refine wpAnyH_take (i := 26) (v := ?v526) rfl (by kernel_rfl) (by kernel_rfl) (by kernel_rfl) (fun _ _ _ h => (HP.out _ _ _ h).elim) (Or.inl ⟨by rfl, ?h526⟩) (by assumption) ?r526
     case h526 => (intro w hSw; (try dsimp only at hSw); go_simp <;> with_reducible rfl)
     try simp only [Act.put, qL1, qL2, qL3, qL4, qL5, qL6]
     refine wpAnyH_ready (rs := [27]) (by kernel_rfl) (by simp) ?_
     refine AllReadyH.cons rfl (fun K hK => ?s527) ?m527
     case s527 =>
      go_simp
      refine (r14_ints ([1]) (by decide) _ _ _ HLS.out HG.out.p0).mono ?_
      rintro e ze0 ⟨rfl, o5⟩
      have H1 := hID (HG.out.go (.of' o5))
      clear o5
      go_simp
      refine hK.out _ _ ?_ (fun hHeld => ?_)
      ·first | exact ⟨H1.out.x.cell 0, H1.out.x.cell 1, H1.out.r.cell 0, H1.out.h.cell 0⟩ | go_keep
      clear hK K
      try simp only [Act.put, qL1, qL2, qL3, qL4, qL5, qL6]
      refine wpAnyH_take (i := 28) (v := ?v528) rfl (by kernel_rfl) (by kernel_rfl) (by kernel_rfl) (fun _ _ _ h => (HP.out _ _ _ h).elim) (Or.inl ⟨by rfl, ?h528⟩) (by assumption) ?r528
      case h528 => (intro w hSw; (try dsimp only at hSw); go_simp <;> with_reducible rfl)
      try simp only [Act.put, qL1, qL2, qL3, qL4, qL5, qL6]
      refine wpAnyH_take (i := 29) (v := ?v529) rfl (by kernel_rfl) (by kernel_rfl) (by kernel_rfl) (fun _ _ _ h => (HP.out _ _ _ h).elim) (Or.inl ⟨by rfl, ?h529⟩) (by assumption) ?r529
      case h529 => (intro w hSw; (try dsimp only at hSw); go_simp <;> with_reducible rfl)
      try simp only [Act.put, qL1, qL2, qL3, qL4, qL5, qL6]
      refine wpAnyH_done (by kernel_rfl) ?_ _
      clear HE HG HLS HLR hHeld
      go_wp2_with fail
      rw [rounds_succ]
      have s0 := H1.out.s.cell 0
      have s1 := H1.out.s.cell 1
      have s2 := H1.out.s.cell 2
      have s3 := H1.out.s.cell 3
      have s4 := H1.out.s.cell 4
      have x0 := H1.out.x.cell 0
      have x1 := H1.out.x.cell 1
      have HD := hID (H1.out.go (Lies.drew _))
      go_wp2_with fail
      refine wp_region_held_drew (S := fun W => W.cell? ⟨sB, 0, none⟩ = some (.slice Ai 2 ci) ∧ W.cell? ⟨sB, 1, none⟩ = some (.int .i64 1) ∧ W.cell? ⟨sB, 2, none⟩ = some (.slice At 256 ct) ∧ W.cell? ⟨sB, 3, none⟩ = some (.slice As 1 cs') ∧ W.cell? ⟨sB, 4, none⟩ = some (.slice Af 2 cf)) (by kernel_rfl) ?_ (fun hHeld => ?_)
      ·(try dsimp only); exact ⟨s0, s1, s2, s3, s4⟩
      refine wpAnyH_take (i := 0) (v := ?v1000) rfl (by kernel_rfl) (by kernel_rfl) (by kernel_rfl) (fun _ _ _ h => (HP.out _ _ _ h).elim) (Or.inl ⟨by rfl, ?h1000⟩) (by assumption) ?r1000
      case h1000 => (intro w hSw; (try dsimp only at hSw); go_simp <;> with_reducible rfl)
      try simp only [Act.put, qL1, qL2, qL3, qL4, qL5, qL6]
      refine wpAnyH_take (i := 2) (v := ?v1001) rfl (by kernel_rfl) (by kernel_rfl) (by kernel_rfl) (fun _ _ _ h => (HP.out _ _ _ h).elim) (Or.inl ⟨by rfl, ?h1001⟩) (by assumption) ?r1001
      case h1001 => (intro w hSw; (try dsimp only at hSw); go_simp <;> with_reducible rfl)
      try simp only [Act.put, qL1, qL2, qL3, qL4, qL5, qL6]
      refine wpAnyH_take (i := 3) (v := ?v1002) rfl (by kernel_rfl) (by kernel_rfl) (by kernel_rfl) (fun _ _ _ h => (HP.out _ _ _ h).elim) (Or.inl ⟨by rfl, ?h1002⟩) (by assumption) ?r1002
      case h1002 => (intro w hSw; (try dsimp only at hSw); go_simp <;> with_reducible rfl)
      try simp only [Act.put, qL1, qL2, qL3, qL4, qL5, qL6]
      refine wpAnyH_ready (rs := [1]) (by kernel_rfl) (by simp) ?_
      refine AllReadyH.cons rfl (fun K hK => ?s1003) ?m1003
      case s1003 =>
       go_simp
       refine hK.out _ _ ?_ (fun hHeld => ?_)
       ·first | with_reducible assumption | go_keep
       clear hK K
       try simp only [Act.put, qL1, qL2, qL3, qL4, qL5, qL6]
       refine wpAnyH_ready (rs := [4]) (by kernel_rfl) (by simp) ?_
       refine AllReadyH.cons rfl (fun K hK => ?s1004) ?m1004
       case s1004 =>
        go_simp
        have hst := n_step_ok [5, 9] 1 xTab [5] [2, 4] [5] 1 _ _ _ _ _ _ x_sh1 (by decide) 97 (by decide) (by decide) (HD.out.l.set HSV1.out) (HD.out.l.tz HZ1.out) HD.out.xr.any
        rw [show rdTo [5].length xTab [5] [5] 97 [5].length = [5] from x_rd1, show ((1 : Int) + 1) = 2 from rfl] at hst
        refine hst.mono ?_
        rintro e za1 ⟨u, rfl, hu, l1⟩
        replace hu : Rd za1 (fun j => _ ≤ j) 1 u 1 (wordsV [5]) := hu
        obtain ⟨X2, c2, rfl, -⟩ := hu.form
        have HN1 := hID (HD.out.go l1)
        have HU : Hid (Rd za1 (fun j => j ≠ xB) 1 (.slice X2 1 c2) [5].length (wordsV [5])) := hID (hu.mono (fun j hj => by have := HD.out.x.lt; omega))
        clear hu l1 hst x0 x1
        have z0 := HN1.out.x.cell 0
        have z1 := HN1.out.x.cell 1
        have f0 := HN1.out.x.frozen 0
        have f1 := HN1.out.x.frozen 1
        have T1 : Hid (za1.cell? ⟨sB, 0, none⟩ = some (.slice Ai 2 ci) ∧ za1.cell? ⟨sB, 1, none⟩ = some (.int .i64 1) ∧ za1.cell? ⟨sB, 2, none⟩ = some (.slice At 256 ct) ∧ za1.cell? ⟨sB, 3, none⟩ = some (.slice As 1 cs') ∧ za1.cell? ⟨sB, 4, none⟩ = some (.slice Af 2 cf)) := hID ⟨HN1.out.s.cell 0, HN1.out.s.cell 1, HN1.out.s.cell 2, HN1.out.s.cell 3, HN1.out.s.cell 4⟩
        have HN2 : Hid (Hold u1 sB xB rB hB (.slice Ai 2 ci) (.slice At 256 ct) (.slice As 1 cs') (.slice Af 2 cf) (.slice R0 1 k0) (.slice R1 1 k1) (.slice R2 1 k2) (.slice (some ⟨g0, 0, none⟩) 1 1) (.slice (some ⟨g1, 0, none⟩) 1 1) (.slice (some ⟨g2, 0, none⟩) 2 2) (.slice X2 1 c2) [5] 2 ((za1.setCell ⟨xB, 0, none⟩ (.slice X2 1 c2)).setCell ⟨xB, 1, none⟩ (.int .i64 2))) := hID (HN1.out.put 2 HU.out)
        have T2 : Hid (((za1.setCell ⟨xB, 0, none⟩ (.slice X2 1 c2)).setCell ⟨xB, 1, none⟩ (.int .i64 2)).cell? ⟨sB, 0, none⟩ = some (.slice Ai 2 ci) ∧ ((za1.setCell ⟨xB, 0, none⟩ (.slice X2 1 c2)).setCell ⟨xB, 1, none⟩ (.int .i64 2)).cell? ⟨sB, 1, none⟩ = some (.int .i64 1) ∧ ((za1.setCell ⟨xB, 0, none⟩ (.slice X2 1 c2)).setCell ⟨xB, 1, none⟩ (.int .i64 2)).cell? ⟨sB, 2, none⟩ = some (.slice At 256 ct) ∧ ((za1.setCell ⟨xB, 0, none⟩ (.slice X2 1 c2)).setCell ⟨xB, 1, none⟩ (.int .i64 2)).cell? ⟨sB, 3, none⟩ = some (.slice As 1 cs') ∧ ((za1.setCell ⟨xB, 0, none⟩ (.slice X2 1 c2)).setCell ⟨xB, 1, none⟩ (.int .i64 2)).cell? ⟨sB, 4, none⟩ = some (.slice Af 2 cf)) := hID ⟨HN2.out.s.cell 0, HN2.out.s.cell 1, HN2.out.s.cell 2, HN2.out.s.cell 3, HN2.out.s.cell 4⟩
        go_simp
        refine hK.out _ _ ?_ (fun hHeld => ?_)
        ·first | exact T1.out | go_keep
        clear hK K
        try simp only [Act.put, qL1, qL2, qL3, qL4, qL5, qL6]
        refine wpAnyH_take (i := 5) (v := ?v1005) rfl (by kernel_rfl) (by kernel_rfl) (by kernel_rfl) (fun _ _ _ h => (HP.out _ _ _ h).elim) (Or.inl ⟨by rfl, ?h1005⟩) (by assumption) ?r1005
        case h1005 => (intro w hSw; (try dsimp only at hSw); go_simp <;> with_reducible rfl)
        try simp only [Act.put, qL1, qL2, qL3, qL4, qL5, qL6]
        refine wpAnyH_take (i := 6) (v := ?v1006) rfl (by kernel_rfl) (by kernel_rfl) (by kernel_rfl) (fun _ _ _ h => (HP.out _ _ _ h).elim) (Or.inl ⟨by rfl, ?h1006⟩) (by assumption) ?r1006
        case h1006 => (intro w hSw; (try dsimp only at hSw); go_simp <;> with_reducible rfl)
        try simp only [Act.put, qL1, qL2, qL3, qL4, qL5, qL6]
        refine wpAnyH_take (i := 7) (v := ?v1007) rfl (by kernel_rfl) (by kernel_rfl) (by kernel_rfl) (fun _ _ _ h => (HP.out _ _ _ h).elim) (Or.inl ⟨by rfl, ?h1007⟩) (by assumption) ?r1007
        case h1007 => (intro w hSw; (try dsimp only at hSw); go_simp <;> with_reducible rfl)
        try simp only [Act.put, qL1, qL2, qL3, qL4, qL5, qL6]
        refine wpAnyH_ready (rs := [8]) (by kernel_rfl) (by simp) ?_
        refine AllReadyH.cons rfl (fun K hK => ?s1008) ?m1008
        case s1008 =>
         go_simp
         refine hK.out _ _ ?_ (fun hHeld => ?_)
         ·first | exact T2.out | go_keep
         clear hK K
         try simp only [Act.put, qL1, qL2, qL3, qL4, qL5, qL6]
         refine wpAnyH_take (i := 9) (v := ?v1009) rfl (by kernel_rfl) (by kernel_rfl) (by kernel_rfl) (fun _ _ _ h => (HP.out _ _ _ h).elim) (Or.inl ⟨by rfl, ?h1009⟩) (by assumption) ?r1009
         case h1009 => (intro w hSw; (try dsimp only at hSw); go_simp <;> with_reducible rfl)
         try simp only [Act.put, qL1, qL2, qL3, qL4, qL5, qL6]
         refine wpAnyH_done (by kernel_rfl) ?_ _
         clear HN1 HU T1 T2 z0 z1 f0 f1 hHeld HD H1
         revert HN2
         generalize ((za1.setCell ⟨xB, 0, none⟩ (.slice X2 1 c2)).setCell ⟨xB, 1, none⟩ (.int .i64 2)) = zb1
         intro HN2
         have s0 := HN2.out.s.cell 0
         have s1 := HN2.out.s.cell 1
         have s2 := HN2.out.s.cell 2
         have s3 := HN2.out.s.cell 3
         have s4 := HN2.out.s.cell 4
         have x0 := HN2.out.x.cell 0
         have x1 := HN2.out.x.cell 1
         go_wp2_with fail
         have hht := n_hits_ok [5, 9] 1 xTab [5] [2, 4] [5] 2 zb1 _ _ _ _ _ x_sh2 (by decide) (HN2.out.l.set HSV1.out) (HN2.out.l.tz HZ1.out) HN2.out.xr.any
         rw [show hitsN [2, 4] [5] [5].length ([5, 9] : List Int).length = [1] from x_hit5] at hht
         refine hht.mono ?_
         rintro e zc1 ⟨hv, rfl, hh, l3⟩
         replace hh : Rd zc1 (fun j => _ ≤ j) 1 hv 1 (([1] : List Int).map (Value.int .i64)) := hh
         obtain ⟨AH1, ch1, rfl, -⟩ := hh.form
         have HN3 := hID (HN2.out.go l3)
         have HL3 := hID hh
         clear hh l3 hht HN2 s0 s1 s2 s3 s4 x0 x1
         have x0 := HN3.out.x.cell 0
         have x1 := HN3.out.x.cell 1
         have q0 := HN3.out.r.cell 1
         have q1 := HN3.out.h.cell 1
         have HE := hID (HN3.out.go (Lies.drew _))
         have HLR := hID ((Lies.drew _).rd HL3.out)
         clear HL3 HN3
         go_wp2_with fail
         refine wp_region_held_drew (S := fun W => W.cell? ⟨xB, 0, none⟩ = some (.slice X2 1 c2) ∧ W.cell? ⟨xB, 1, none⟩ = some (.int .i64 2) ∧ W.cell? ⟨rB, 1, none⟩ = some (.slice R1 1 k1) ∧ W.cell? ⟨hB, 1, none⟩ = some (.slice (some ⟨g1, 0, none⟩) 1 1)) (by kernel_rfl) ?_ (fun hHeld => ?_)
         ·(try dsimp only); exact ⟨x0, x1, q0, q1⟩
         clear x0 x1 q0 q1
         refine wpAnyH_take (i := 0) (v := ?v1500) rfl (by kernel_rfl) (by kernel_rfl) (by kernel_rfl) (fun _ _ _ h => (HP.out _ _ _ h).elim) (Or.inl ⟨by rfl, ?h1500⟩) (by assumption) ?r1500
         case h1500 => (intro w hSw; (try dsimp only at hSw); go_simp <;> with_reducible rfl)
         try simp only [Act.put, qL1, qL2, qL3, qL4, qL5, qL6]
         refine wpAnyH_take (i := 1) (v := ?v1501) rfl (by kernel_rfl) (by kernel_rfl) (by kernel_rfl) (fun _ _ _ h => (HP.out _ _ _ h).elim) (Or.inl ⟨by rfl, ?h1501⟩) (by assumption) ?r1501
         case h1501 => (intro w hSw; (try dsimp only at hSw); go_simp <;> with_reducible rfl)
         try simp only [Act.put, qL1, qL2, qL3, qL4, qL5, qL6]
         refine wpAnyH_take (i := 2) (v := ?v1502) rfl (by kernel_rfl) (by kernel_rfl) (by kernel_rfl) (fun _ _ _ h => (HP.out _ _ _ h).elim) (Or.inl ⟨by rfl, ?h1502⟩) (by assumption) ?r1502
         case h1502 => (intro w hSw; (try dsimp only at hSw); go_simp <;> with_reducible rfl)
         try simp only [Act.put, qL1, qL2, qL3, qL4, qL5, qL6]
         refine wpAnyH_take (i := 3) (v := ?v1503) rfl (by kernel_rfl) (by kernel_rfl) (by kernel_rfl) (fun _ _ _ h => (HP.out _ _ _ h).elim) (Or.inl ⟨by rfl, ?h1503⟩) (by assumption) ?r1503
         case h1503 => (intro w hSw; (try dsimp only at hSw); go_simp <;> with_reducible rfl)
         try simp only [Act.put, qL1, qL2, qL3, qL4, qL5, qL6]
         refine wpAnyH_take (i := 4) (v := ?v1504) rfl (by kernel_rfl) (by kernel_rfl) (by kernel_rfl) (fun _ _ _ h => (HP.out _ _ _ h).elim) (Or.inl ⟨by rfl, ?h1504⟩) (by assumption) ?r1504
         case h1504 => (intro w hSw; (try dsimp only at hSw); go_simp <;> with_reducible rfl)
         try simp only [Act.put, qL1, qL2, qL3, qL4, qL5, qL6]
         refine wpAnyH_take (i := 5) (v := ?v1505) rfl (by kernel_rfl) (by kernel_rfl) (by kernel_rfl) (fun _ _ _ h => (HP.out _ _ _ h).elim) (Or.inl ⟨by rfl, ?h1505⟩) (by assumption) ?r1505
         case h1505 => (intro w hSw; (try dsimp only at hSw); go_simp <;> with_reducible rfl)
         try simp only [Act.put, qL1, qL2, qL3, qL4, qL5, qL6]
         refine wpAnyH_take (i := 6) (v := ?v1506) rfl (by kernel_rfl) (by kernel_rfl) (by kernel_rfl) (fun _ _ _ h => (HP.out _ _ _ h).elim) (Or.inl ⟨by rfl, ?h1506⟩) (by assumption) ?r1506
         case h1506 => (intro w hSw; (try dsimp only at hSw); go_simp <;> with_reducible rfl)
         try simp only [Act.put, qL1, qL2, qL3, qL4, qL5, qL6]
         refine wpAnyH_take (i := 7) (v := ?v1507) rfl (by kernel_rfl) (by kernel_rfl) (by kernel_rfl) (fun _ _ _ h => (HP.out _ _ _ h).elim) (Or.inl ⟨by rfl, ?h1507⟩) (by assumption) ?r1507
         case h1507 => (intro w hSw; (try dsimp only at hSw); go_simp <;> with_reducible rfl)
         try simp only [Act.put, qL1, qL2, qL3, qL4, qL5, qL6]
         refine wpAnyH_take (i := 8) (v := ?v1508) rfl (by kernel_rfl) (by kernel_rfl) (by kernel_rfl) (fun _ _ _ h => (HP.out _ _ _ h).elim) (Or.inl ⟨by rfl, ?h1508⟩) (by assumption) ?r1508
         case h1508 => (intro w hSw; (try dsimp only at hSw); go_simp <;> with_reducible rfl)
         try simp only [Act.put, qL1, qL2, qL3, qL4, qL5, qL6]
         refine wpAnyH_take (i := 9) (v := ?v1509) rfl (by kernel_rfl) (by kernel_rfl) (by kernel_rfl) (fun _ _ _ h => (HP.out _ _ _ h).elim) (Or.inl ⟨by rfl, ?h1509⟩) (by assumption) ?r1509
         case h1509 => (intro w hSw; (try dsimp only at hSw); go_simp <;> with_reducible rfl)
         try simp only [Act.put, qL1, qL2, qL3, qL4, qL5, qL6]
         refine wpAnyH_take (i := 10) (v := ?v1510) rfl (by kernel_rfl) (by kernel_rfl) (by kernel_rfl) (fun _ _ _ h => (HP.out _ _ _ h).elim) (Or.inl ⟨by rfl, ?h1510⟩) (by assumption) ?r1510
         case h1510 => (intro w hSw; (try dsimp only at hSw); go_simp <;> with_reducible rfl)
         try simp only [Act.put, qL1, qL2, qL3, qL4, qL5, qL6]
         refine wpAnyH_take (i := 11) (v := ?v1511) rfl (by kernel_rfl) (by kernel_rfl) (by kernel_rfl) (fun _ _ _ h => (HP.out _ _ _ h).elim) (Or.inl ⟨by rfl, ?h1511⟩) (by assumption) ?r1511
         case h1511 => (intro w hSw; (try dsimp only at hSw); go_simp <;> with_reducible rfl)
         try simp only [Act.put, qL1, qL2, qL3, qL4, qL5, qL6]
         refine wpAnyH_take (i := 12) (v := ?v1512) rfl (by kernel_rfl) (by kernel_rfl) (by kernel_rfl) (fun _ _ _ h => (HP.out _ _ _ h).elim) (Or.inl ⟨by rfl, ?h1512⟩) (by assumption) ?r1512
         case h1512 => (intro w hSw; (try dsimp only at hSw); go_simp <;> with_reducible rfl)
         try simp only [Act.put, qL1, qL2, qL3, qL4, qL5, qL6]
         refine wpAnyH_take (i := 13) (v := ?v1513) rfl (by kernel_rfl) (by kernel_rfl) (by kernel_rfl) (fun _ _ _ h => (HP.out _ _ _ h).elim) (Or.inl ⟨by rfl, ?h1513⟩) (by assumption) ?r1513
         case h1513 => (intro w hSw; (try dsimp only at hSw); go_simp <;> with_reducible rfl)
         try simp only [Act.put, qL1, qL2, qL3, qL4, qL5, qL6]
         refine wpAnyH_take (i := 14) (v := ?v1514) rfl (by kernel_rfl) (by kernel_rfl) (by kernel_rfl) (fun _ _ _ h => (HP.out _ _ _ h).elim) (Or.inl ⟨by rfl, ?h1514⟩) (by assumption) ?r1514
         case h1514 => (intro w hSw; (try dsimp only at hSw); go_simp <;> with_reducible rfl)
         try simp only [Act.put, qL1, qL2, qL3, qL4, qL5, qL6]
         refine wpAnyH_take (i := 15) (v := ?v1515) rfl (by kernel_rfl) (by kernel_rfl) (by kernel_rfl) (fun _ _ _ h => (HP.out _ _ _ h).elim) (Or.inl ⟨by rfl, ?h1515⟩) (by assumption) ?r1515
         case h1515 => (intro w hSw; (try dsimp only at hSw); go_simp <;> with_reducible rfl)
         try simp only [Act.put, qL1, qL2, qL3, qL4, qL5, qL6]
         refine wpAnyH_take (i := 16) (v := ?v1516) rfl (by kernel_rfl) (by kernel_rfl) (by kernel_rfl) (fun _ _ _ h => (HP.out _ _ _ h).elim) (Or.inl ⟨by rfl, ?h1516⟩) (by assumption) ?r1516
         case h1516 => (intro w hSw; (try dsimp only at hSw); go_simp <;> with_reducible rfl)
         try simp only [Act.put, qL1, qL2, qL3, qL4, qL5, qL6]
         refine wpAnyH_take (i := 17) (v := ?v1517) rfl (by kernel_rfl) (by kernel_rfl) (by kernel_rfl) (fun _ _ _ h => (HP.out _ _ _ h).elim) (Or.inl ⟨by rfl, ?h1517⟩) (by assumption) ?r1517
         case h1517 => (intro w hSw; (try dsimp only at hSw); go_simp <;> with_reducible rfl)
         try simp only [Act.put, qL1, qL2, qL3, qL4, qL5, qL6]
         refine wpAnyH_take (i := 18) (v := ?v1518) rfl (by kernel_rfl) (by kernel_rfl) (by kernel_rfl) (fun _ _ _ h => (HP.out _ _ _ h).elim) (Or.inl ⟨by rfl, ?h1518⟩) (by assumption) ?r1518
         case h1518 => (intro w hSw; (try dsimp only at hSw); go_simp <;> with_reducible rfl)
         try simp only [Act.put, qL1, qL2, qL3, qL4, qL5, qL6]
         refine wpAnyH_ready (rs := [19]) (by kernel_rfl) (by simp) ?_
         refine AllReadyH.cons rfl (fun K hK => ?s1519) ?m1519
         case s1519 =>
          go_simp
          refine (n_same [5] (by decide) _ _ _ HE.out.xr HE.out.q1).mono ?_
          rintro e zd1 ⟨rfl, o4⟩
          have HG := hID (HE.out.go (.of' o4))
          have HLS := hID ((Lies.of' o4).rd HLR.out)
          clear o4
          go_simp
          refine hK.out _ _ ?_ (fun hHeld => ?_)
          ·first | exact ⟨HG.out.x.cell 0, HG.out.x.cell 1, HG.out.r.cell 1, HG.out.h.cell 1⟩ | go_keep
          clear hK K
          try simp only [Act.put, qL1, qL2, qL3, qL4, qL5, qL6]
          refine wpAnyH_take (i := 20) (v := ?v1520) rfl (by kernel_rfl) (by kernel_rfl) (by kernel_rfl) (fun _ _ _ h => (HP.out _ _ _ h).elim) (Or.inl ⟨by rfl, ?h1520⟩) (by assumption) ?r1520
          case h1520 => (intro w hSw; (try dsimp only at hSw); go_simp <;> with_reducible rfl)
          try simp only [Act.put, qL1, qL2, qL3, qL4, qL5, qL6]
          refine wpAnyH_take (i := 21) (v := ?v1521) rfl (by kernel_rfl) (by kernel_rfl) (by kernel_rfl) (fun _ _ _ h => (HP.out _ _ _ h).elim) (Or.inl ⟨by rfl, ?h1521⟩) (by assumption) ?r1521
          case h1521 => (intro w hSw; (try dsimp only at hSw); go_simp <;> with_reducible rfl)
          try simp only [Act.put, qL1, qL2, qL3, qL4, qL5, qL6]
          refine wpAnyH_take (i := 22) (v := ?v1522) rfl (by kernel_rfl) (by kernel_rfl) (by kernel_rfl) (fun _ _ _ h => (HP.out _ _ _ h).elim) (Or.inl ⟨by rfl, ?h1522⟩) (by assumption) ?r1522
          case h1522 => (intro w hSw; (try dsimp only at hSw); go_simp <;> with_reducible rfl)
          try simp only [Act.put, qL1, qL2, qL3, qL4, qL5, qL6]
          refine wpAnyH_take (i := 23) (v := ?v1523) rfl (by kernel_rfl) (by kernel_rfl) (by kernel_rfl) (fun _ _ _ h => (HP.out _ _ _ h).elim) (Or.inl ⟨by rfl, ?h1523⟩) (by assumption) ?r1523
          case h1523 => (intro w hSw; (try dsimp only at hSw); go_simp <;> with_reducible rfl)
          try simp only [Act.put, qL1, qL2, qL3, qL4, qL5, qL6]
          refine wpAnyH_take (i := 24) (v := ?v1524) rfl (by kernel_rfl) (by kernel_rfl) (by kernel_rfl) (fun _ _ _ h => (HP.out _ _ _ h).elim) (Or.inl ⟨by rfl, ?h1524⟩) (by assumption) ?r1524
          case h1524 => (intro w hSw; (try dsimp only at hSw); go_simp <;> with_reducible rfl)
          try simp only [Act.put, qL1, qL2, qL3, qL4, qL5, qL6]
          refine wpAnyH_take (i := 25) (v := ?v1525) rfl (by kernel_rfl) (by kernel_rfl) (by kernel_rfl) (fun _ _ _ h => (HP.out _ _ _ h).elim) (Or.inl ⟨by rfl, ?h1525⟩) (by assumption) ?r1525
          case h1525 => (intro w hSw; (try dsimp only at hSw); go_simp <;> with_reducible rfl)
          try simp only [Act.put, qL1, qL2, qL3, qL4, qL5, qL6]
          refine wpAnyH_take (i := 26) (v := ?v1526) rfl (by kernel_rfl) (by kernel_rfl) (by kernel_rfl) (fun _ _ _ h => (HP.out _ _ _ h).elim) (Or.inl ⟨by rfl, ?h1526⟩) (by assumption) ?r1526
          case h1526 => (intro w hSw; (try dsimp only at hSw); go_simp <;> with_reducible rfl)
          try simp only [Act.put, qL1, qL2, qL3, qL4, qL5, qL6]
          refine wpAnyH_ready (rs := [27]) (by kernel_rfl) (by simp) ?_
          refine AllReadyH.cons rfl (fun K hK => ?s1527) ?m1527
          case s1527 =>
           go_simp
           refine (r14_ints ([1]) (by decide) _ _ _ HLS.out HG.out.p1).mono ?_
           rintro e ze1 ⟨rfl, o5⟩
           have H2 := hID (HG.out.go (.of' o5))
           clear o5
           go_simp
           refine hK.out _ _ ?_ (fun hHeld => ?_)
           ·first | exact ⟨H2.out.x.cell 0, H2.out.x.cell 1, H2.out.r.cell 1, H2.out.h.cell 1⟩ | go_keep
           clear hK K
           try simp only [Act.put, qL1, qL2, qL3, qL4, qL5, qL6]
           refine wpAnyH_take (i := 28) (v := ?v1528) rfl (by kernel_rfl) (by kernel_rfl) (by kernel_rfl) (fun _ _ _ h => (HP.out _ _ _ h).elim) (Or.inl ⟨by rfl, ?h1528⟩) (by assumption) ?r1528
           case h1528 => (intro w hSw; (try dsimp only at hSw); go_simp <;> with_reducible rfl)
           try simp only [Act.put, qL1, qL2, qL3, qL4, qL5, qL6]
           refine wpAnyH_take (i := 29) (v := ?v1529) rfl (by kernel_rfl) (by kernel_rfl) (by kernel_rfl) (fun _ _ _ h => (HP.out _ _ _ h).elim) (Or.inl ⟨by rfl, ?h1529⟩) (by assumption) ?r1529
           case h1529 => (intro w hSw; (try dsimp only at hSw); go_simp <;> with_reducible rfl)
           try simp only [Act.put, qL1, qL2, qL3, qL4, qL5, qL6]
           refine wpAnyH_done (by kernel_rfl) ?_ _
           clear HE HG HLS HLR hHeld
           go_wp2_with fail
           rw [rounds_succ]
           have s0 := H2.out.s.cell 0
           have s1 := H2.out.s.cell 1
           have s2 := H2.out.s.cell 2
           have s3 := H2.out.s.cell 3
           have s4 := H2.out.s.cell 4
           have x0 := H2.out.x.cell 0
           have x1 := H2.out.x.cell 1
           have HD := hID (H2.out.go (Lies.drew _))
           go_wp2_with fail
           refine wp_region_held_drew (S := fun W => W.cell? ⟨sB, 0, none⟩ = some (.slice Ai 2 ci) ∧ W.cell? ⟨sB, 1, none⟩ = some (.int .i64 1) ∧ W.cell? ⟨sB, 2, none⟩ = some (.slice At 256 ct) ∧ W.cell? ⟨sB, 3, none⟩ = some (.slice As 1 cs') ∧ W.cell? ⟨sB, 4, none⟩ = some (.slice Af 2 cf)) (by kernel_rfl) ?_ (fun hHeld => ?_)
           ·(try dsimp only); exact ⟨s0, s1, s2, s3, s4⟩
           refine wpAnyH_take (i := 0) (v := ?v2000) rfl (by kernel_rfl) (by kernel_rfl) (by kernel_rfl) (fun _ _ _ h => (HP.out _ _ _ h).elim) (Or.inl ⟨by rfl, ?h2000⟩) (by assumption) ?r2000
           case h2000 => (intro w hSw; (try dsimp only at hSw); go_simp <;> with_reducible rfl)
           try simp only [Act.put, qL1, qL2, qL3, qL4, qL5, qL6]
           refine wpAnyH_take (i := 2) (v := ?v2001) rfl (by kernel_rfl) (by kernel_rfl) (by kernel_rfl) (fun _ _ _ h => (HP.out _ _ _ h).elim) (Or.inl ⟨by rfl, ?h2001⟩) (by assumption) ?r2001
           case h2001 => (intro w hSw; (try dsimp only at hSw); go_simp <;> with_reducible rfl)
           try simp only [Act.put, qL1, qL2, qL3, qL4, qL5, qL6]
           refine wpAnyH_take (i := 3) (v := ?v2002) rfl (by kernel_rfl) (by kernel_rfl) (by kernel_rfl) (fun _ _ _ h => (HP.out _ _ _ h).elim) (Or.inl ⟨by rfl, ?h2002⟩) (by assumption) ?r2002
           case h2002 => (intro w hSw; (try dsimp only at hSw); go_simp <;> with_reducible rfl)
           try simp only [Act.put, qL1, qL2, qL3, qL4, qL5, qL6]
           refine wpAnyH_ready (rs := [1]) (by kernel_rfl) (by simp) ?_
           refine AllReadyH.cons rfl (fun K hK => ?s2003) ?m2003
           case s2003 =>
            go_simp
            refine hK.out _ _ ?_ (fun hHeld => ?_)
            ·first | with_reducible assumption | go_keep
            clear hK K
            try simp only [Act.put, qL1, qL2, qL3, qL4, qL5, qL6]
            refine wpAnyH_ready (rs := [4]) (by kernel_rfl) (by simp) ?_
            refine AllReadyH.cons rfl (fun K hK => ?s2004) ?m2004
            case s2004 =>
             go_simp
             have hst := n_step_ok [5, 9] 1 xTab [5] [2, 4] [5] 2 _ _ _ _ _ _ x_sh2 (by decide) 98 (by decide) (by decide) (HD.out.l.set HSV1.out) (HD.out.l.tz HZ1.out) HD.out.xr.any
             rw [show rdTo [5].length xTab [5] [5] 98 [5].length = [6] from x_rd2, show ((2 : Int) + 1) = 3 from rfl] at hst
             refine hst.mono ?_
             rintro e za2 ⟨u, rfl, hu, l1⟩
             replace hu : Rd za2 (fun j => _ ≤ j) 1 u 1 (wordsV [6]) := hu
             obtain ⟨X3, c3, rfl, -⟩ := hu.form
             have HN1 := hID (HD.out.go l1)
             have HU : Hid (Rd za2 (fun j => j ≠ xB) 1 (.slice X3 1 c3) [6].length (wordsV [6])) := hID (hu.mono (fun j hj => by have := HD.out.x.lt; omega))
             clear hu l1 hst x0 x1
             have z0 := HN1.out.x.cell 0
             have z1 := HN1.out.x.cell 1
             have f0 := HN1.out.x.frozen 0
             have f1 := HN1.out.x.frozen 1
             have T1 : Hid (za2.cell? ⟨sB, 0, none⟩ = some (.slice Ai 2 ci) ∧ za2.cell? ⟨sB, 1, none⟩ = some (.int .i64 1) ∧ za2.cell? ⟨sB, 2, none⟩ = some (.slice At 256 ct) ∧ za2.cell? ⟨sB, 3, none⟩ = some (.slice As 1 cs') ∧ za2.cell? ⟨sB, 4, none⟩ = some (.slice Af 2 cf)) := hID ⟨HN1.out.s.cell 0, HN1.out.s.cell 1, HN1.out.s.cell 2, HN1.out.s.cell 3, HN1.out.s.cell 4⟩
             have HN2 : Hid (Hold u1 sB xB rB hB (.slice Ai 2 ci) (.slice At 256 ct) (.slice As 1 cs') (.slice Af 2 cf) (.slice R0 1 k0) (.slice R1 1 k1) (.slice R2 1 k2) (.slice (some ⟨g0, 0, none⟩) 1 1) (.slice (some ⟨g1, 0, none⟩) 1 1) (.slice (some ⟨g2, 0, none⟩) 2 2) (.slice X3 1 c3) [6] 3 ((za2.setCell ⟨xB, 0, none⟩ (.slice X3 1 c3)).setCell ⟨xB, 1, none⟩ (.int .i64 3))) := hID (HN1.out.put 3 HU.out)
             have T2 : Hid (((za2.setCell ⟨xB, 0, none⟩ (.slice X3 1 c3)).setCell ⟨xB, 1, none⟩ (.int .i64 3)).cell? ⟨sB, 0, none⟩ = some (.slice Ai 2 ci) ∧ ((za2.setCell ⟨xB, 0, none⟩ (.slice X3 1 c3)).setCell ⟨xB, 1, none⟩ (.int .i64 3)).cell? ⟨sB, 1, none⟩ = some (.int .i64 1) ∧ ((za2.setCell ⟨xB, 0, none⟩ (.slice X3 1 c3)).setCell ⟨xB, 1, none⟩ (.int .i64 3)).cell? ⟨sB, 2, none⟩ = some (.slice At 256 ct) ∧ ((za2.setCell ⟨xB, 0, none⟩ (.slice X3 1 c3)).setCell ⟨xB, 1, none⟩ (.int .i64 3)).cell? ⟨sB, 3, none⟩ = some (.slice As 1 cs') ∧ ((za2.setCell ⟨xB, 0, none⟩ (.slice X3 1 c3)).setCell ⟨xB, 1, none⟩ (.int .i64 3)).cell? ⟨sB, 4, none⟩ = some (.slice Af 2 cf)) := hID ⟨HN2.out.s.cell 0, HN2.out.s.cell 1, HN2.out.s.cell 2, HN2.out.s.cell 3, HN2.out.s.cell 4⟩
             go_simp
             refine hK.out _ _ ?_ (fun hHeld => ?_)
             ·first | exact T1.out | go_keep
             clear hK K
             try simp only [Act.put, qL1, qL2, qL3, qL4, qL5, qL6]
             refine wpAnyH_take (i := 5) (v := ?v2005) rfl (by kernel_rfl) (by kernel_rfl) (by kernel_rfl) (fun _ _ _ h => (HP.out _ _ _ h).elim) (Or.inl ⟨by rfl, ?h2005⟩) (by assumption) ?r2005
             case h2005 => (intro w hSw; (try dsimp only at hSw); go_simp <;> with_reducible rfl)
             try simp only [Act.put, qL1, qL2, qL3, qL4, qL5, qL6]
             refine wpAnyH_take (i := 6) (v := ?v2006) rfl (by kernel_rfl) (by kernel_rfl) (by kernel_rfl) (fun _ _ _ h => (HP.out _ _ _ h).elim) (Or.inl ⟨by rfl, ?h2006⟩) (by assumption) ?r2006
             case h2006 => (intro w hSw; (try dsimp only at hSw); go_simp <;> with_reducible rfl)
             try simp only [Act.put, qL1, qL2, qL3, qL4, qL5, qL6]
             refine wpAnyH_take (i := 7) (v := ?v2007) rfl (by kernel_rfl) (by kernel_rfl) (by kernel_rfl) (fun _ _ _ h => (HP.out _ _ _ h).elim) (Or.inl ⟨by rfl, ?h2007⟩) (by assumption) ?r2007
             case h2007 => (intro w hSw; (try dsimp only at hSw); go_simp <;> with_reducible rfl)
             try simp only [Act.put, qL1, qL2, qL3, qL4, qL5, qL6]
             refine wpAnyH_ready (rs := [8]) (by kernel_rfl) (by simp) ?_
             refine AllReadyH.cons rfl (fun K hK => ?s2008) ?m2008
             case s2008 =>
              go_simp
              refine hK.out _ _ ?_ (fun hHeld => ?_)
              ·first | exact T2.out | go_keep
              clear hK K
              try simp only [Act.put, qL1, qL2, qL3, qL4, qL5, qL6]
              refine wpAnyH_take (i := 9) (v := ?v2009) rfl (by kernel_rfl) (by kernel_rfl) (by kernel_rfl) (fun _ _ _ h => (HP.out _ _ _ h).elim) (Or.inl ⟨by rfl, ?h2009⟩) (by assumption) ?r2009
              case h2009 => (intro w hSw; (try dsimp only at hSw); go_simp <;> with_reducible rfl)
              try simp only [Act.put, qL1, qL2, qL3, qL4, qL5, qL6]
              refine wpAnyH_done (by kernel_rfl) ?_ _
              clear HN1 HU T1 T2 z0 z1 f0 f1 hHeld HD H2
              revert HN2
              generalize ((za2.setCell ⟨xB, 0, none⟩ (.slice X3 1 c3)).setCell ⟨xB, 1, none⟩ (.int .i64 3)) = zb2
              intro HN2
              have s0 := HN2.out.s.cell 0
              have s1 := HN2.out.s.cell 1
              have s2 := HN2.out.s.cell 2
              have s3 := HN2.out.s.cell 3
              have s4 := HN2.out.s.cell 4
              have x0 := HN2.out.x.cell 0
              have x1 := HN2.out.x.cell 1
              go_wp2_with fail
              have hht := n_hits_ok [5, 9] 1 xTab [5] [2, 4] [6] 3 zb2 _ _ _ _ _ x_sh3 (by decide) (HN2.out.l.set HSV1.out) (HN2.out.l.tz HZ1.out) HN2.out.xr.any
              rw [show hitsN [2, 4] [6] [6].length ([5, 9] : List Int).length = [0, 1] from x_hit6] at hht
              refine hht.mono ?_
              rintro e zc2 ⟨hv, rfl, hh, l3⟩
              replace hh : Rd zc2 (fun j => _ ≤ j) 1 hv 2 (([0, 1] : List Int).map (Value.int .i64)) := hh
              obtain ⟨AH2, ch2, rfl, -⟩ := hh.form
              have HN3 := hID (HN2.out.go l3)
              have HL3 := hID hh
              clear hh l3 hht HN2 s0 s1 s2 s3 s4 x0 x1
              have x0 := HN3.out.x.cell 0
              have x1 := HN3.out.x.cell 1
              have q0 := HN3.out.r.cell 2
              have q1 := HN3.out.h.cell 2
              have HE := hID (HN3.out.go (Lies.drew _))
              have HLR := hID ((Lies.drew _).rd HL3.out)
              clear HL3 HN3
              go_wp2_with fail
              refine wp_region_held_drew (S := fun W => W.cell? ⟨xB, 0, none⟩ = some (.slice X3 1 c3) ∧ W.cell? ⟨xB, 1, none⟩ = some (.int .i64 3) ∧ W.cell? ⟨rB, 2, none⟩ = some (.slice R2 1 k2) ∧ W.cell? ⟨hB, 2, none⟩ = some (.slice (some ⟨g2, 0, none⟩) 2 2)) (by kernel_rfl) ?_ (fun hHeld => ?_)
              ·(try dsimp only); exact ⟨x0, x1, q0, q1⟩
              clear x0 x1 q0 q1
              refine wpAnyH_take (i := 0) (v := ?v2500) rfl (by kernel_rfl) (by kernel_rfl) (by kernel_rfl) (fun _ _ _ h => (HP.out _ _ _ h).elim) (Or.inl ⟨by rfl, ?h2500⟩) (by assumption) ?r2500
              case h2500 => (intro w hSw; (try dsimp only at hSw); go_simp <;> with_reducible rfl)
              try simp only [Act.put, qL1, qL2, qL3, qL4, qL5, qL6]
              refine wpAnyH_take (i := 1) (v := ?v2501) rfl (by kernel_rfl) (by kernel_rfl) (by kernel_rfl) (fun _ _ _ h => (HP.out _ _ _ h).elim) (Or.inl ⟨by rfl, ?h2501⟩) (by assumption) ?r2501
              case h2501 => (intro w hSw; (try dsimp only at hSw); go_simp <;> with_reducible rfl)
              try simp only [Act.put, qL1, qL2, qL3, qL4, qL5, qL6]
              refine wpAnyH_take (i := 2) (v := ?v2502) rfl (by kernel_rfl) (by kernel_rfl) (by kernel_rfl) (fun _ _ _ h => (HP.out _ _ _ h).elim) (Or.inl ⟨by rfl, ?h2502⟩) (by assumption) ?r2502
              case h2502 => (intro w hSw; (try dsimp only at hSw); go_simp <;> with_reducible rfl)
              try simp only [Act.put, qL1, qL2, qL3, qL4, qL5, qL6]
              refine wpAnyH_take (i := 3) (v := ?v2503) rfl (by kernel_rfl) (by kernel_rfl) (by kernel_rfl) (fun _ _ _ h => (HP.out _ _ _ h).elim) (Or.inl ⟨by rfl, ?h2503⟩) (by assumption) ?r2503
              case h2503 => (intro w hSw; (try dsimp only at hSw); go_simp <;> with_reducible rfl)
              try simp only [Act.put, qL1, qL2, qL3, qL4, qL5, qL6]
              refine wpAnyH_take (i := 4) (v := ?v2504) rfl (by kernel_rfl) (by kernel_rfl) (by kernel_rfl) (fun _ _ _ h => (HP.out _ _ _ h).elim) (Or.inl ⟨by rfl, ?h2504⟩) (by assumption) ?r2504
              case h2504 => (intro w hSw; (try dsimp only at hSw); go_simp <;> with_reducible rfl)
              try simp only [Act.put, qL1, qL2, qL3, qL4, qL5, qL6]
              refine wpAnyH_take (i := 5) (v := ?v2505) rfl (by kernel_rfl) (by kernel_rfl) (by kernel_rfl) (fun _ _ _ h => (HP.out _ _ _ h).elim) (Or.inl ⟨by rfl, ?h2505⟩) (by assumption) ?r2505
              case h2505 => (intro w hSw; (try dsimp only at hSw); go_simp <;> with_reducible rfl)
              try simp only [Act.put, qL1, qL2, qL3, qL4, qL5, qL6]
              refine wpAnyH_take (i := 6) (v := ?v2506) rfl (by kernel_rfl) (by kernel_rfl) (by kernel_rfl) (fun _ _ _ h => (HP.out _ _ _ h).elim) (Or.inl ⟨by rfl, ?h2506⟩) (by assumption) ?r2506
              case h2506 => (intro w hSw; (try dsimp only at hSw); go_simp <;> with_reducible rfl)
              try simp only [Act.put, qL1, qL2, qL3, qL4, qL5, qL6]
              refine wpAnyH_take (i := 7) (v := ?v2507) rfl (by kernel_rfl) (by kernel_rfl) (by kernel_rfl) (fun _ _ _ h => (HP.out _ _ _ h).elim) (Or.inl ⟨by rfl, ?h2507⟩) (by assumption) ?r2507
              case h2507 => (intro w hSw; (try dsimp only at hSw); go_simp <;> with_reducible rfl)
              try simp only [Act.put, qL1, qL2, qL3, qL4, qL5, qL6]
              refine wpAnyH_take (i := 8) (v := ?v2508) rfl (by kernel_rfl) (by kernel_rfl) (by kernel_rfl) (fun _ _ _ h => (HP.out _ _ _ h).elim) (Or.inl ⟨by rfl, ?h2508⟩) (by assumption) ?r2508
              case h2508 => (intro w hSw; (try dsimp only at hSw); go_simp <;> with_reducible rfl)
              try simp only [Act.put, qL1, qL2, qL3, qL4, qL5, qL6]
              refine wpAnyH_take (i := 9) (v := ?v2509) rfl (by kernel_rfl) (by kernel_rfl) (by kernel_rfl) (fun _ _ _ h => (HP.out _ _ _ h).elim) (Or.inl ⟨by rfl, ?h2509⟩) (by assumption) ?r2509
              case h2509 => (intro w hSw; (try dsimp only at hSw); go_simp <;> with_reducible rfl)
              try simp only [Act.put, qL1, qL2, qL3, qL4, qL5, qL6]
              refine wpAnyH_take (i := 10) (v := ?v2510) rfl (by kernel_rfl) (by kernel_rfl) (by kernel_rfl) (fun _ _ _ h => (HP.out _ _ _ h).elim) (Or.inl ⟨by rfl, ?h2510⟩) (by assumption) ?r2510
              case h2510 => (intro w hSw; (try dsimp only at hSw); go_simp <;> with_reducible rfl)
              try simp only [Act.put, qL1, qL2, qL3, qL4, qL5, qL6]
              refine wpAnyH_take (i := 11) (v := ?v2511) rfl (by kernel_rfl) (by kernel_rfl) (by kernel_rfl) (fun _ _ _ h => (HP.out _ _ _ h).elim) (Or.inl ⟨by rfl, ?h2511⟩) (by assumption) ?r2511
              case h2511 => (intro w hSw; (try dsimp only at hSw); go_simp <;> with_reducible rfl)
              try simp only [Act.put, qL1, qL2, qL3, qL4, qL5, qL6]
              refine wpAnyH_take (i := 12) (v := ?v2512) rfl (by kernel_rfl) (by kernel_rfl) (by kernel_rfl) (fun _ _ _ h => (HP.out _ _ _ h).elim) (Or.inl ⟨by rfl, ?h2512⟩) (by assumption) ?r2512
              case h2512 => (intro w hSw; (try dsimp only at hSw); go_simp <;> with_reducible rfl)
              try simp only [Act.put, qL1, qL2, qL3, qL4, qL5, qL6]
              refine wpAnyH_take (i := 13) (v := ?v2513) rfl (by kernel_rfl) (by kernel_rfl) (by kernel_rfl) (fun _ _ _ h => (HP.out _ _ _ h).elim) (Or.inl ⟨by rfl, ?h2513⟩) (by assumption) ?r2513
              case h2513 => (intro w hSw; (try dsimp only at hSw); go_simp <;> with_reducible rfl)
              try simp only [Act.put, qL1, qL2, qL3, qL4, qL5, qL6]
              refine wpAnyH_take (i := 14) (v := ?v2514) rfl (by kernel_rfl) (by kernel_rfl) (by kernel_rfl) (fun _ _ _ h => (HP.out _ _ _ h).elim) (Or.inl ⟨by rfl, ?h2514⟩) (by assumption) ?r2514
              case h2514 => (intro w hSw; (try dsimp only at hSw); go_simp <;> with_reducible rfl)
              try simp only [Act.put, qL1, qL2, qL3, qL4, qL5, qL6]
              refine wpAnyH_take (i := 15) (v := ?v2515) rfl (by kernel_rfl) (by kernel_rfl) (by kernel_rfl) (fun _ _ _ h => (HP.out _ _ _ h).elim) (Or.inl ⟨by rfl, ?h2515⟩) (by assumption) ?r2515
              case h2515 => (intro w hSw; (try dsimp only at hSw); go_simp <;> with_reducible rfl)
              try simp only [Act.put, qL1, qL2, qL3, qL4, qL5, qL6]
              refine wpAnyH_take (i := 16) (v := ?v2516) rfl (by kernel_rfl) (by kernel_rfl) (by kernel_rfl) (fun _ _ _ h => (HP.out _ _ _ h).elim) (Or.inl ⟨by rfl, ?h2516⟩) (by assumption) ?r2516
              case h2516 => (intro w hSw; (try dsimp only at hSw); go_simp <;> with_reducible rfl)
              try simp only [Act.put, qL1, qL2, qL3, qL4, qL5, qL6]
              refine wpAnyH_take (i := 17) (v := ?v2517) rfl (by kernel_rfl) (by kernel_rfl) (by kernel_rfl) (fun _ _ _ h => (HP.out _ _ _ h).elim) (Or.inl ⟨by rfl, ?h2517⟩) (by assumption) ?r2517
              case h2517 => (intro w hSw; (try dsimp only at hSw); go_simp <;> with_reducible rfl)
              try simp only [Act.put, qL1, qL2, qL3, qL4, qL5, qL6]
              refine wpAnyH_take (i := 18) (v := ?v2518) rfl (by kernel_rfl) (by kernel_rfl) (by kernel_rfl) (fun _ _ _ h => (HP.out _ _ _ h).elim) (Or.inl ⟨by rfl, ?h2518⟩) (by assumption) ?r2518
              case h2518 => (intro w hSw; (try dsimp only at hSw); go_simp <;> with_reducible rfl)
              try simp only [Act.put, qL1, qL2, qL3, qL4, qL5, qL6]
              refine wpAnyH_ready (rs := [19]) (by kernel_rfl) (by simp) ?_
              refine AllReadyH.cons rfl (fun K hK => ?s2519) ?m2519
              case s2519 =>
               go_simp
               refine (n_same [6] (by decide) _ _ _ HE.out.xr HE.out.q2).mono ?_
               rintro e zd2 ⟨rfl, o4⟩
               have HG := hID (HE.out.go (.of' o4))
               have HLS := hID ((Lies.of' o4).rd HLR.out)
               clear o4
               go_simp
               refine hK.out _ _ ?_ (fun hHeld => ?_)
               ·first | exact ⟨HG.out.x.cell 0, HG.out.x.cell 1, HG.out.r.cell 2, HG.out.h.cell 2⟩ | go_keep
               clear hK K
               try simp only [Act.put, qL1, qL2, qL3, qL4, qL5, qL6]
               refine wpAnyH_take (i := 20) (v := ?v2520) rfl (by kernel_rfl) (by kernel_rfl) (by kernel_rfl) (fun _ _ _ h => (HP.out _ _ _ h).elim) (Or.inl ⟨by rfl, ?h2520⟩) (by assumption) ?r2520
               case h2520 => (intro w hSw; (try dsimp only at hSw); go_simp <;> with_reducible rfl)
               try simp only [Act.put, qL1, qL2, qL3, qL4, qL5, qL6]
               refine wpAnyH_take (i := 21) (v := ?v2521) rfl (by kernel_rfl) (by kernel_rfl) (by kernel_rfl) (fun _ _ _ h => (HP.out _ _ _ h).elim) (Or.inl ⟨by rfl, ?h2521⟩) (by assumption) ?r2521
               case h2521 => (intro w hSw; (try dsimp only at hSw); go_simp <;> with_reducible rfl)
               try simp only [Act.put, qL1, qL2, qL3, qL4, qL5, qL6]
               refine wpAnyH_take (i := 22) (v := ?v2522) rfl (by kernel_rfl) (by kernel_rfl) (by kernel_rfl) (fun _ _ _ h => (HP.out _ _ _ h).elim) (Or.inl ⟨by rfl, ?h2522⟩) (by assumption) ?r2522
               case h2522 => (intro w hSw; (try dsimp only at hSw); go_simp <;> with_reducible rfl)
               try simp only [Act.put, qL1, qL2, qL3, qL4, qL5, qL6]
               refine wpAnyH_take (i := 23) (v := ?v2523) rfl (by kernel_rfl) (by kernel_rfl) (by kernel_rfl) (fun _ _ _ h => (HP.out _ _ _ h).elim) (Or.inl ⟨by rfl, ?h2523⟩) (by assumption) ?r2523
               case h2523 => (intro w hSw; (try dsimp only at hSw); go_simp <;> with_reducible rfl)
               try simp only [Act.put, qL1, qL2, qL3, qL4, qL5, qL6]
               refine wpAnyH_take (i := 24) (v := ?v2524) rfl (by kernel_rfl) (by kernel_rfl) (by kernel_rfl) (fun _ _ _ h => (HP.out _ _ _ h).elim) (Or.inl ⟨by rfl, ?h2524⟩) (by assumption) ?r2524
               case h2524 => (intro w hSw; (try dsimp only at hSw); go_simp <;> with_reducible rfl)
               try simp only [Act.put, qL1, qL2, qL3, qL4, qL5, qL6]
               refine wpAnyH_take (i := 25) (v := ?v2525) rfl (by kernel_rfl) (by kernel_rfl) (by kernel_rfl) (fun _ _ _ h => (HP.out _ _ _ h).elim) (Or.inl ⟨by rfl, ?h2525⟩) (by assumption) ?r2525
               case h2525 => (intro w hSw; (try dsimp only at hSw); go_simp <;> with_reducible rfl)
               try simp only [Act.put, qL1, qL2, qL3, qL4, qL5, qL6]
               refine wpAnyH_take (i := 26) (v := ?v2526) rfl (by kernel_rfl) (by kernel_rfl) (by kernel_rfl) (fun _ _ _ h => (HP.out _ _ _ h).elim) (Or.inl ⟨by rfl, ?h2526⟩) (by assumption) ?r2526
               case h2526 => (intro w hSw; (try dsimp only at hSw); go_simp <;> with_reducible rfl)
               try simp only [Act.put, qL1, qL2, qL3, qL4, qL5, qL6]
               refine wpAnyH_ready (rs := [27]) (by kernel_rfl) (by simp) ?_
               refine AllReadyH.cons rfl (fun K hK => ?s2527) ?m2527
               case s2527 =>
                go_simp
                refine (r14_ints ([0, 1]) (by decide) _ _ _ HLS.out HG.out.p2).mono ?_
                rintro e ze2 ⟨rfl, o5⟩
                have H3 := hID (HG.out.go (.of' o5))
                clear o5
                go_simp
                refine hK.out _ _ ?_ (fun hHeld => ?_)
                ·first | exact ⟨H3.out.x.cell 0, H3.out.x.cell 1, H3.out.r.cell 2, H3.out.h.cell 2⟩ | go_keep
                clear hK K
                try simp only [Act.put, qL1, qL2, qL3, qL4, qL5, qL6]
                refine wpAnyH_take (i := 28) (v := ?v2528) rfl (by kernel_rfl) (by kernel_rfl) (by kernel_rfl) (fun _ _ _ h => (HP.out _ _ _ h).elim) (Or.inl ⟨by rfl, ?h2528⟩) (by assumption) ?r2528
                case h2528 => (intro w hSw; (try dsimp only at hSw); go_simp <;> with_reducible rfl)
                try simp only [Act.put, qL1, qL2, qL3, qL4, qL5, qL6]
                refine wpAnyH_take (i := 29) (v := ?v2529) rfl (by kernel_rfl) (by kernel_rfl) (by kernel_rfl) (fun _ _ _ h => (HP.out _ _ _ h).elim) (Or.inl ⟨by rfl, ?h2529⟩) (by assumption) ?r2529
                case h2529 => (intro w hSw; (try dsimp only at hSw); go_simp <;> with_reducible rfl)
                try simp only [Act.put, qL1, qL2, qL3, qL4, qL5, qL6]
                refine wpAnyH_done (by kernel_rfl) ?_ _
                clear HE HG HLS HLR hHeld
                go_wp2_with fail
                rw [rounds_succ]
                go_wp2_with fail
                refine HQ.out _ _ _ ?_
                show Go0 _ _ _ _
                exact shown_tail (H3.out.l.set HSV1.out) (H3.out.l.tz HZ1.out) (HLW.out.trans H3.out.l) H3.out.s H3.out.x H3.out.xr.any hbf hbn HK.out _ _ _ _ _ _ _ _ _ _ _ _ _ _ _ _ _ _ _ _ _ _ _ _ _ _ _ _ _ _ _ _ _ _ _ _ _ _ _ _ _ _ _ _ _ _ _ _ _ _ _ _ _ _ _ _ _ _ _ _ _ _ _ _ _ _ _ _ _ _ _ _ _ _ _ _ _ _ _ _ _ _ _ _ _ _ _ _ _ _ _ _ _ _ _ _ _ _ _ _ _ _ _ _ _ _ _ _ _ _ _ _ _ _ _ _ _ _ _ _ _ _ _ _ _ _ _ _ _ _ _ _
               exact AllReadyH.nil
              exact AllReadyH.nil
             exact AllReadyH.nil
            exact AllReadyH.nil
           exact AllReadyH.nil
          exact AllReadyH.nil
         exact AllReadyH.nil
        exact AllReadyH.nil
       exact AllReadyH.nil
      exact AllReadyH.nil
     exact AllReadyH.nil
    exact AllReadyH.nil
   exact AllReadyH.nil
  exact AllReadyH.nil
 exact AllReadyH.nil
end Go.Proofs.YtlgjaefcfnndhaaGreatDoor
