/-
 The steps of an arena: add, step, Load and Store, where the step may be made.
-/
import Derived.Test.YtkflicifngohcaaGreatDoorM3
import Derived.BigRegion
import Derived.RegionTactic
set_option linter.unusedVariables false
set_option linter.unusedSimpArgs false
namespace Go.Proofs.YtkflicifngohcaaGreatDoor
open Go.RowKit
set_option maxRecDepth 100000
theorem or_u32 (x k : Int) (hx0 : 0 ≤ x) (hx1 : x < 65536) (hk0 : 0 ≤ k) (hk1 : k < 4) : bits .or .u32 (x * 4) k = x * 4 + k := by
 obtain ⟨x, rfl⟩ := Int.eq_ofNat_of_zero_le hx0
 obtain ⟨k, rfl⟩ := Int.eq_ofNat_of_zero_le hk0
 have e1 : ((BitVec.ofInt 32 ((x : Int) * 4)) ||| (BitVec.ofInt 32 (k : Int))).toNat = x * 4 + k := by
  have a1 : ((x : Int) * 4) = ((x * 4 : Nat) : Int) := by omega
  rw [a1, BitVec.ofInt_natCast, BitVec.ofInt_natCast, BitVec.toNat_or, BitVec.toNat_ofNat, BitVec.toNat_ofNat, Nat.mod_eq_of_lt (by omega), Nat.mod_eq_of_lt (by omega)]
  have := Nat.two_pow_add_eq_or_of_lt (i := 2) (b := k) (by omega) x
  rw [show x * 4 = 2 ^ 2 * x by omega]
  exact this.symm
 show IntKind.u32.wrap ((BitVec.ofInt 32 ((x : Int) * 4) ||| BitVec.ofInt 32 (k : Int)).toNat : Int) = _
 rw [e1]
 unfold IntKind.wrap
 simp [IntKind.bits]
 omega
def pageZ : Array Value := Array.replicate 4096 (.int .u32 0)
theorem length_pageOf (E : List Ev) (i : Nat) : (pageOf E i).length = 4096 := by simp [pageOf]
theorem get_pageOf (E : List Ev) (i j : Nat) (hj : j < 4096) : (pageOf E i)[j]? = some (.int .u32 (enc (E.getD (4096 * i + j) (0, 0)) : Nat)) := by
 simp [pageOf, List.getElem?_range hj]
theorem pageOf_zero (E : List Ev) (i : Nat) (h : E.length ≤ 4096 * i) : (pageOf E i).toArray = pageZ := by
 apply Array.toList_inj.1
 apply List.ext_getElem?
 intro j
 rcases Nat.lt_or_ge j 4096 with hj | hj
 ·rw [List.toList_toArray, get_pageOf E i j hj]
  have : E.getD (4096 * i + j) (0, 0) = (0, 0) := by simp [List.getD, List.getElem?_eq_none (show E.length ≤ 4096 * i + j by omega)]
  rw [this]
  unfold pageZ
  rw [Array.toList_replicate, List.getElem?_replicate, if_pos hj]
  rfl
 ·rw [List.getElem?_eq_none (by simp [length_pageOf]; omega), List.getElem?_eq_none (by unfold pageZ; rw [Array.toList_replicate, List.length_replicate]; exact hj)]
theorem pageOf_other (E : List Ev) (e : Ev) (i : Nat) (h : i ≠ E.length / 4096) : pageOf (E ++ [e]) i = pageOf E i := by
 apply List.ext_getElem?
 intro j
 rcases Nat.lt_or_ge j 4096 with hj | hj
 ·rw [get_pageOf _ i j hj, get_pageOf _ i j hj]
  congr 4
  rcases Nat.lt_trichotomy (4096 * i + j) E.length with h1 | h1 | h1
  ·simp [List.getD, List.getElem?_append_left h1]
  ·omega
  ·simp [List.getD, List.getElem?_eq_none (show E.length ≤ 4096 * i + j by omega), List.getElem?_eq_none (show (E ++ [e]).length ≤ 4096 * i + j by simp; omega)]
 ·rw [List.getElem?_eq_none (by simp [length_pageOf]; omega), List.getElem?_eq_none (by simp [length_pageOf]; omega)]
theorem pageOf_here (E : List Ev) (e : Ev) : ((pageOf E (E.length / 4096)).toArray.setIfInBounds (E.length % 4096) (.int .u32 (enc e : Nat))) = (pageOf (E ++ [e]) (E.length / 4096)).toArray := by
 apply Array.toList_inj.1
 apply List.ext_getElem?
 intro j
 simp only [Array.toList_setIfInBounds, List.getElem?_set, length_pageOf]
 rcases Nat.lt_or_ge j 4096 with hj | hj
 ·rw [get_pageOf _ _ j hj, get_pageOf _ _ j hj]
  by_cases h2 : E.length % 4096 = j
  ·rw [if_pos h2, if_pos (by omega)]
   have : 4096 * (E.length / 4096) + j = E.length := by omega
   rw [this]
   simp [List.getD]
  ·rw [if_neg h2]
   congr 4
   rcases Nat.lt_trichotomy (4096 * (E.length / 4096) + j) E.length with h1 | h1 | h1
   ·simp [List.getD, List.getElem?_append_left h1]
   ·omega
   ·simp [List.getD, List.getElem?_eq_none (show E.length ≤ 4096 * (E.length / 4096) + j by omega), List.getElem?_eq_none (show (E ++ [e]).length ≤ 4096 * (E.length / 4096) + j by simp; omega)]
 ·rw [if_neg (by omega), List.getElem?_eq_none (by simp [length_pageOf]; omega), List.getElem?_eq_none (by simp [length_pageOf]; omega)]
theorem page_zero : Tryz.zeroCells235 = pageZ := by kernel_rfl
theorem Tryz.infoPP : (Tryz.prog.info? 183).map (fun i => (i.zero, i.size, i.bytes)) = some (some (.pointer none), 1, 8) := by kernel_rfl
section
variable {w w' : World} {F : Nat → Prop} {p : Nat} {C : List (BitVec 64)} {E : List Ev} {cb : Nat} {pv : Value} {ps : List Nat} {rg : Value}
theorem ArAt.form (h : ArAt w F p C E cb pv ps rg) (hn : 0 < ps.length) : ∃ g cap cur, pv = .slice (some ⟨g, 0, none⟩) ps.length cap ∧ Blk w g 183 cur ∧ F g ∧ ∀ i, i < ps.length → w.cell? ⟨g, i, none⟩ = some (.pointer (some ⟨ps.getD i 0, 0, none⟩)) := by
 have hc := @World.ownsRow.cells _ _ _ _ _ _ _ h.own
 have hfo := h.fo
 rcases h.own.2 with ⟨_, h0⟩ | ⟨g, cap, cur, rfl, _, hg, _, _, _, _⟩
 ·omega
 ·refine ⟨g, cap, cur, rfl, hg, hfo g rfl, fun i hi => ?_⟩
  have := hc (g := g) rfl i (.pointer (some ⟨ps.getD i 0, 0, none⟩)) (by simp [ptrs, hi])
  have ha : (⟨g, 0, none⟩ : Addr).add i = ⟨g, i, none⟩ := by unfold Addr.add; split <;> simp_all
  rwa [ha] at this
theorem ne_of_nodup {ps : List Nat} (h : ps.Nodup) {i j : Nat} (hi : i < ps.length) (hj : j < ps.length) (hij : i ≠ j) : ps.getD i 0 ≠ ps.getD j 0 := by
 intro he
 simp [List.getD, hi, hj] at he
 exact hij (List.getElem_inj h |>.1 he)
theorem ArAt.push (h : ArAt w F p C E cb pv ps rg) (hr : E.length < 4096 * ps.length) (he : E.length < 8388608) (e : Ev) (hok : e.1 < 4 ∧ e.2 < 65536) :
  ArAt ((w.setCell ⟨ps.getD (E.length / 4096) 0, E.length % 4096, none⟩ (.int .u32 (enc e : Nat))).setCell ⟨p, 1, none⟩ (.int .i64 (E.length + 1 : Int))).drew F p C (E ++ [e]) cb pv ps rg := by
 have hi : E.length / 4096 < ps.length := by omega
 have hpg := h.pg _ hi
 have n1 : p ≠ ps.getD (E.length / 4096) 0 := h.top.diff hpg (by decide)
 have n2 : cb ≠ ps.getD (E.length / 4096) 0 := h.cel.diff hpg (by decide)
 have n3 : cb ≠ p := h.cel.diff h.top (by decide)
 have n4 : ∀ i, i < ps.length → ps.getD i 0 ≠ p := fun i hi => (h.pg i hi).diff h.top (by decide)
 refine { h with top := ?_, cel := ?_, own := ?_, pg := ?_, e2 := ?_, ev := ?_, fl := ?_ }
 ·have := (h.top.far (p := ⟨ps.getD (E.length / 4096) 0, E.length % 4096, none⟩) n1 (.int .u32 (enc e : Nat))).put 1 (.int .i64 (E.length + 1 : Int))
  have e1 : (((E ++ [e]).length : Nat) : Int) = E.length + 1 := by rw [List.length_append]; rfl
  rw [e1]
  exact this
 ·exact (h.cel.far (p := ⟨ps.getD (E.length / 4096) 0, E.length % 4096, none⟩) n2 _).far (p := ⟨p, 1, none⟩) n3 _
 ·refine own_to h.own fun g hg => ?_
  have m1 : g ≠ p := fun e => by subst e; exact own_diff h.own h.top (by decide) hg
  have m2 : g ≠ ps.getD (E.length / 4096) 0 := fun e => by subst e; exact own_diff h.own hpg (by decide) hg
  exact (Below.heap_setCell _ ⟨p, 1, none⟩ _ _ m1).trans (Below.heap_setCell _ ⟨ps.getD (E.length / 4096) 0, E.length % 4096, none⟩ _ _ m2)
 ·rw [List.length_append]; show E.length + 1 ≤ _; omega
 ·intro x hx
  rcases List.mem_append.1 hx with hx | hx
  ·exact h.ev x hx
  ·simp at hx; subst hx; exact hok
 ·intro i hi2
  by_cases hie : i = E.length / 4096
  ·subst hie
   rw [← pageOf_here]
   exact (hpg.put _ _).far (p := ⟨p, 1, none⟩) (n4 _ hi2) _
  ·rw [pageOf_other _ _ _ hie]
   exact ((h.pg i hi2).far (p := ⟨ps.getD (E.length / 4096) 0, E.length % 4096, none⟩) (ne_of_nodup h.nd hi2 hi hie) _).far (p := ⟨p, 1, none⟩) (n4 _ hi2) _
 ·intro k hk; simpa using h.fl k hk
theorem ArAt.pushOff (h : ArAt w F p C E cb pv ps rg) (hr : E.length < 4096 * ps.length) (u u' : Value) :
  Off F w ((w.setCell ⟨ps.getD (E.length / 4096) 0, E.length % 4096, none⟩ u).setCell ⟨p, 1, none⟩ u').drew :=
 Off.drew (Off.put (Off.put (Off.refl _ _) (.inl (h.fg _ (getD_mem (by omega)))) _) (.inl h.fp) _)
end
set_option maxHeartbeats 400000 in
theorem add_in {w : World} {F : Nat → Prop} {p : Nat} {C : List (BitVec 64)} {E : List Ev} {cb : Nat} {pv : Value} {ps : List Nat} {rg : Value} (h : ArAt w F p C E cb pv ps rg)
  (hr : E.length < 4096 * ps.length) (he : E.length < 8388608) (hne : E.length % 4096 ≠ 0) (k x : Nat) (hx1 : x < 65536) (hk1 : k < 4) :
  Calls Tryz.prog 136 #[.pointer (some ⟨p, 0, none⟩), .int .i64 k, .int .i64 x] w fun e w' => e = .returned (.tuple #[]) ∧
   ArAt w' F p C (E ++ [(k, x)]) cb pv ps rg ∧ Off F w w' := by
 have hi : E.length / 4096 < ps.length := by omega
 obtain ⟨g, cap, cur, rfl, hg, hfg, hcg⟩ := h.form (by omega)
 have hpg := h.pg _ hi
 have cg := hcg _ hi
 have c0 := h.top.cell 0
 have c1 := h.top.cell 1
 have f1 := h.top.frozen 1
 have cb1 := hpg.cell (E.length % 4096)
 rw [List.getElem?_toArray, get_pageOf _ _ _ (Nat.mod_lt _ (by decide))] at cb1
 have fb := hpg.frozen (E.length % 4096)
 have hpb : ps.getD (E.length / 4096) 0 ≠ p := hpg.diff h.top (by decide)
 have HA := hID (h.push hr he (k, x) ⟨hk1, hx1⟩)
 have HO := hID (h.pushOff hr (.int .u32 (enc (k, x) : Nat)) (.int .i64 (E.length + 1 : Int)))
 have HB := hID (or_u32 x k (by omega) (by omega) (by omega) (by omega))
 simp only [List.getElem?_toArray, List.getElem?_cons_succ, List.getElem?_cons_zero] at c0 c1
 clear h hg hfg hcg hpg hr
 revert HA HO cb1 cg fb hpb
 generalize ps.getD (E.length / 4096) 0 = pb
 generalize enc (E.getD (4096 * (E.length / 4096) + E.length % 4096) (0, 0)) = u
 intro cg cb1 fb hpb HA HO
 have hz : ((E.length : Int) % 4096 == 0) = false := by rw [beq_eq_false_iff_ne]; omega
 generalize hn : E.length = n at *
 have HN := hID hn
 clear hn
 go_enter Tryz.func136, Tryz.ntmps136
 go_wp2
 go_region
 go_wp2
 go_end0
 rw [HB.out]
 exact ⟨rfl, HA.out, HO.out⟩
theorem ArAt.page {w w1 : World} {F : Nat → Prop} {p : Nat} {C : List (BitVec 64)} {E : List Ev} {cb : Nat} {pv v' : Value} {ps : List Nat} {rg o : Value} {to : TypeId} (h : ArAt w F p C E cb pv ps rg)
  (hE : E.length ≤ 4096 * ps.length)
  (hg : ((w.alloc (.cells pageZ 235)).alloc (.cells #[o] to)).grownBy w1 pv.ownBlock)
  (hown : w1.ownsRow 0 183 1 v' (ps.length + 1) (ptrs ps ++ [.pointer (some ⟨w.heap.size, 0, none⟩)]))
  (hat : v'.ownBlock = pv.ownBlock ∨ v'.ownBlock = some (w.heap.size + 1 + 1)) :
  ArAt (w1.setCell ⟨p, 0, none⟩ v') (Grow F w w1) p C E cb v' (ps ++ [w.heap.size]) rg ∧ Off F w (w1.setCell ⟨p, 0, none⟩ v') := by
 have hs : w.heap.size + 2 ≤ w1.heap.size := by have := hg.size; simp at this; omega
 have hpl : ∀ g, pv.ownBlock = some g → g < w.heap.size := fun g hg => (h.own.lt g hg).2
 have ho : Off F w w1 := Off.grown (Off.alloc (Off.alloc (Off.refl _ _) _) _) hg (fun k hk => .inl (h.fo k hk))
 have hold : ∀ k, k < w.heap.size → pv.ownBlock ≠ some k → w1.heap[k]? = w.heap[k]? := fun k hk hn => by
  rw [hg.block k (by simp; omega) (Ne.symm hn), Below.heap_alloc _ _ _ (by simp; omega), Below.heap_alloc _ _ _ hk]
 have hnew : Blk w1 w.heap.size 235 pageZ := by
  have := Blk.new w 235 pageZ
  refine Blk.to (this.alloc _) (hg.block _ (by simp; omega) (fun e => ?_))
  have := hpl _ e.symm
  omega
 have hdt : Blk w1 p 91 #[pv, .int .i64 (E.length : Int), .slice (some ⟨cb, 0, none⟩) C.length C.length, rg, .func (.func 39) #[.pointer (some ⟨p, 0, none⟩)] #[]] :=
  h.top.to (hold _ h.top.lt (own_diff h.own h.top (by decide)))
 have hn : p ≠ w.heap.size := by have := h.top.lt; omega
 refine ⟨?_, ho.put (.inl h.fp) _⟩
 refine { h with top := ?_, cel := ?_, own := ?_, pg := ?_, nd := ?_, fp := .inl h.fp, fc := .inl h.fc, fo := ?_, fg := ?_, fl := ?_ }
 ·exact hdt.put 0 v'
 ·exact (h.cel.to (hold _ h.cel.lt (own_diff h.own h.cel (by decide)))).far (p := ⟨p, 0, none⟩) (h.cel.diff h.top (by decide)) _
 ·have hw : (w1.setCell ⟨p, 0, none⟩ v').ownsRow 0 183 1 v' (ps.length + 1) (ptrs ps ++ [.pointer (some ⟨w.heap.size, 0, none⟩)]) := by
   refine own_to hown fun g hgo => Below.heap_setCell _ ⟨p, 0, none⟩ _ _ (fun e => ?_)
   subst e
   exact own_diff hown hdt (by decide) hgo
  have e1 : ptrs (ps ++ [w.heap.size]) = ptrs ps ++ [.pointer (some ⟨w.heap.size, 0, none⟩)] := by simp [ptrs]
  rw [e1, List.length_append]
  exact hw
 ·intro i hi
  rw [List.length_append] at hi
  rcases Nat.lt_or_ge i ps.length with h1 | h1
  ·have e1 : (ps ++ [w.heap.size]).getD i 0 = ps.getD i 0 := by simp [List.getD, List.getElem?_append_left h1]
   rw [e1]
   have hb := h.pg i h1
   exact (hb.to (hold _ hb.lt (own_diff h.own hb (by decide)))).far (p := ⟨p, 0, none⟩) (hb.diff h.top (by decide)) _
  ·have e0 : i = ps.length := by simp at hi; omega
   subst e0
   have e1 : (ps ++ [w.heap.size]).getD ps.length 0 = w.heap.size := by simp [List.getD]
   rw [e1, pageOf_zero _ _ hE]
   exact hnew.far (p := ⟨p, 0, none⟩) (Ne.symm hn) _
 ·rw [List.nodup_append]
  refine ⟨h.nd, by simp, ?_⟩
  intro a ha b hb
  simp at hb
  subst hb
  have := h.fl _ (h.fg a ha)
  omega
 ·intro g hg2
  rcases hat with e | e
  ·exact .inl (h.fo g (e ▸ hg2))
  ·rw [e] at hg2
   injection hg2 with hg2
   subst hg2
   refine .inr ⟨by omega, ?_⟩
   have := (hown.lt _ e).2
   omega
 ·intro b hb
  rw [List.mem_append] at hb
  rcases hb with hb | hb
  ·exact .inl (h.fg b hb)
  ·simp at hb
   subst hb
   exact .inr ⟨Nat.le_refl _, by omega⟩
 ·intro k hk
  have := Grow.lt h.fl ho.size k hk
  simpa using this
set_option maxHeartbeats 400000 in
theorem add_new {w : World} {F : Nat → Prop} {p : Nat} {C : List (BitVec 64)} {E : List Ev} {cb : Nat} {pv : Value} {ps : List Nat} {rg : Value} (h : ArAt w F p C E cb pv ps rg)
  (hpl : E.length = 4096 * ps.length) (he : E.length < 8388608) (k x : Nat) (hx1 : x < 65536) (hk1 : k < 4) :
  Calls Tryz.prog 136 #[.pointer (some ⟨p, 0, none⟩), .int .i64 k, .int .i64 x] w fun e w' => e = .returned (.tuple #[]) ∧ ArTo w F p C (E ++ [(k, x)]) w' := by
 obtain ⟨i0, hi, hz0, hz1, hz2⟩ := info_parts Tryz.infoPP
 have c0 := h.top.cell 0
 have c1 := h.top.cell 1
 have f0 := h.top.frozen 0
 have hlt := h.top.lt
 have hnp : pv.ownBlock ≠ some p := own_diff h.own h.top (by decide)
 simp only [List.getElem?_toArray, List.getElem?_cons_succ, List.getElem?_cons_zero] at c0 c1
 have H := hID h
 have HN := hID hpl
 have hz : ((E.length : Int) % 4096 == 0) = true := by rw [beq_iff_eq]; omega
 have hown := hID h.own
 clear h hpl
 go_enter Tryz.func136, Tryz.ntmps136
 go_wp2_with (at_builtin; refine wpList_append_own_at _ rfl _ _ 85 rfl 0 183 i0 (.pointer none) 1 8 Tryz.underlying85 hi hz0 hz1 hz2 rfl (by decide) pv ps.length (ptrs ps) rfl ((hown.out.alloc _).alloc _) ⟨w.heap.size + 1, 0, none⟩ 1 1 [.pointer (some ⟨w.heap.size, 0, none⟩)] rfl rfl ?c1 ?c2 ?c3 ?c4 ?c5 ?_)
 case c1 => have := cell_one_new (w.alloc (.cells Tryz.zeroCells235 235)) (.pointer (some ⟨w.heap.size, 0, none⟩)) 183; simpa using this
 case c2 => intro u hu; simp at hu; subst hu; rfl
 case c3 => have := HN.out; unfold maxLen; omega
 case c4 => have := HN.out; omega
 case c5 => omega
 intro v' w1 hown' hgrow hnil hat
 clear hnil
 have c0' : w1.cell? ⟨p, 0, none⟩ = some pv := hgrow.cell (a := ⟨p, 0, none⟩) (by simp [World.cell?_alloc_lt, hlt, Nat.lt_succ_of_lt, c0]) (Ne.symm hnp)
 have f0' : w1.frozen? ⟨p, 0, none⟩ = false := by
  have := World.frozen?_of_block (a := ⟨p, 0, none⟩) (hgrow.block p (by simp; omega) (Ne.symm hnp))
  rw [this, World.frozen?_alloc_old _ _ _ (by simp; omega), World.frozen?_alloc_old _ _ _ (by simp; omega)]
  exact f0
 rw [page_zero] at hgrow
 obtain ⟨hP, hO⟩ := ArAt.page H.out (by have := HN.out; omega) hgrow hown' hat
 have hs : w.heap.size ≤ w1.heap.size := by have := hgrow.size; simp at this; omega
 have hr : E.length < 4096 * (ps ++ [w.heap.size]).length := by have := HN.out; simp; omega
 have hql : (ps ++ [w.heap.size]).length = (E.length + 1 + 4095) / 4096 := by have := HN.out; simp; omega
 clear hown' hgrow hat c0 c1 f0 hown H hnp hi hz0 hz1 hz2
 generalize ps ++ [w.heap.size] = qs at *
 obtain ⟨g, cap, cur, hv, hg, hfg, hcg⟩ := hP.form (by omega)
 subst hv
 have HP := hID hP
 have HO := hID hO
 have HG := hID hcg
 have HL := hID hql
 clear hP hO hg hfg hcg hql
 go_wp2
 have hWs : (w1.setCell ⟨p, 0, none⟩ (.slice (some ⟨g, 0, none⟩) qs.length cap)).heap.size = w1.heap.size := by simp
 generalize w1.setCell ⟨p, 0, none⟩ (.slice (some ⟨g, 0, none⟩) qs.length cap) = W at *
 have HW := hID hWs
 clear hWs
 have hi : E.length / 4096 < qs.length := by omega
 have hpg := HP.out.pg _ hi
 have cg := HG.out _ hi
 have c0 := HP.out.top.cell 0
 have c1 := HP.out.top.cell 1
 have f1 := HP.out.top.frozen 1
 have cb1 := hpg.cell (E.length % 4096)
 rw [List.getElem?_toArray, get_pageOf _ _ _ (Nat.mod_lt _ (by decide))] at cb1
 have fb := hpg.frozen (E.length % 4096)
 have hpb : qs.getD (E.length / 4096) 0 ≠ p := hpg.diff HP.out.top (by decide)
 have HA := hID (ArAt.push HP.out hr he (k, x) ⟨hk1, hx1⟩)
 have HO2 := hID (ArAt.pushOff HP.out hr (.int .u32 (enc (k, x) : Nat)) (.int .i64 (E.length + 1 : Int)))
 have HB := hID (or_u32 x k (by omega) (by omega) (by omega) (by omega))
 simp only [List.getElem?_toArray, List.getElem?_cons_succ, List.getElem?_cons_zero] at c0 c1
 clear hpg hr c0' f0'
 revert HA HO2 cb1 cg fb hpb
 generalize qs.getD (E.length / 4096) 0 = pb
 generalize enc (E.getD (4096 * (E.length / 4096) + E.length % 4096) (0, 0)) = u
 intro cg cb1 fb hpb HA HO2
 generalize hn : E.length = n at *
 have HN2 := hID hn
 clear hn
 go_region
 go_wp2
 go_end0
 rw [HB.out]
 have hws := HW.out
 have hgg : ∀ k, Grow F w w1 k ↔ Grow F w W k := fun k => by unfold Grow; rw [hws]
 refine ⟨rfl, ⟨_, _, qs, _, ?_, ArAt.mono HA.out (G := Grow F w _) ?_ ?_⟩, HO.out.trans (HO2.out.mono fun k _ hk => (hgg k).1 hk)⟩
 ·rw [HL.out, List.length_append, HN2.out]; rfl
 ·intro i hi2
  rcases hi2 with hi2 | hi2
  ·exact .inl hi2
  ·refine .inr ⟨hi2.1, ?_⟩
   have := hi2.2
   simp
   omega
 ·intro i hi2
  rcases hi2 with hi2 | hi2
  ·exact HA.out.fl i (.inl hi2)
  ·exact hi2.2
theorem add_any {w : World} {F : Nat → Prop} {p : Nat} {C : List (BitVec 64)} {E : List Ev} (h : Ar w F p C E) (he : E.length < 8388608) (k x : Nat) (hx1 : x < 65536) (hk1 : k < 4) :
  Calls Tryz.prog 136 #[.pointer (some ⟨p, 0, none⟩), .int .i64 k, .int .i64 x] w fun e w' => e = .returned (.tuple #[]) ∧ ArTo w F p C (E ++ [(k, x)]) w' := by
 obtain ⟨cb, pv, ps, rg, hpl, h⟩ := h
 by_cases hz : E.length % 4096 = 0
 ·exact add_new h (by omega) he k x hx1 hk1
 ·refine (add_in h (by omega) he hz k x hx1 hk1).mono fun e w' ⟨h1, h2, h3⟩ => ⟨h1, ⟨cb, pv, ps, rg, ?_, h2.mono (fun _ hk => .inl hk) (Grow.lt h.fl h3.size)⟩, h3⟩
  rw [hpl, List.length_append]
  show _ = (E.length + 1 + 4095) / 4096
  omega
end Go.Proofs.YtkflicifngohcaaGreatDoor

namespace Go.Proofs.YtkflicifngohcaaGreatDoor
open Go.RowKit
set_option maxRecDepth 100000
section
variable {w : World} {F : Nat → Prop} {p : Nat} {C : List (BitVec 64)} {E : List Ev}
set_option maxHeartbeats 400000 in
theorem step_ok (h : Ar w F p C E) (k : Nat) (hk : k < 4) (x : Int) (h0 : 0 ≤ x) (h1 : x < C.length) (he : E.length < 8388608) :
  Calls Tryz.prog 99 #[.pointer (some ⟨p, 0, none⟩), .int .i64 k, .int .i64 x] w fun e w' => e = .returned (.int .i64 0) ∧ ArTo w F p C (E ++ [(k, x.toNat)]) w' := by
 obtain ⟨x, rfl⟩ := Int.eq_ofNat_of_zero_le h0
 have h2 := h.n2
 have HN := hID (none_ok h)
 have HA := hID (add_any h he k x (by omega) hk)
 obtain ⟨cb, pv, ps, rg, hpl, h⟩ := h
 have c1 := h.top.cell 1
 have c2 := h.top.cell 2
 simp only [List.getElem?_toArray, List.getElem?_cons_succ, List.getElem?_cons_zero] at c1 c2
 have hz : ((E.length : Int) == 8388608) = false := by rw [beq_eq_false_iff_ne]; omega
 have hx : ¬ (C.length : Int) ≤ x := by omega
 clear h hpl
 go_enter Tryz.func99, Tryz.ntmps99
 go_wp2_with (first | (go_at_call 56; refine HN.out.mono ?_; rintro e w' ⟨rfl, rfl⟩) | (go_at_call 136; refine HA.out.mono ?_; rintro e w' ⟨rfl, hw⟩))
 go_ret
 exact ⟨rfl, hw⟩
set_option maxHeartbeats 400000 in
theorem load_ok (h : Ar w F p C E) (x : Int) (h0 : 0 ≤ x) (h1 : x < C.length) (he : E.length < 8388608) :
  Calls Tryz.prog 96 #[.pointer (some ⟨p, 0, none⟩), .int .i64 x] w fun e w' => e = .returned (.tuple #[.int .u64 (n64 (cl C x.toNat)), .int .i64 0]) ∧ ArTo w F p C (E ++ [(1, x.toNat)]) w' := by
 have HS := hID (step_ok h 1 (by decide) x h0 h1 he)
 obtain ⟨x, rfl⟩ := Int.eq_ofNat_of_zero_le h0
 go_enter Tryz.func96, Tryz.ntmps96
 go_wp2_with fail
 refine HS.out.mono ?_
 rintro e w1 ⟨rfl, hw⟩
 have HW := hID hw
 obtain ⟨⟨cb, pv, ps, rg, hpl, h⟩, ho⟩ := hw
 have c2 := h.top.cell 2
 have hx : x < C.length := by omega
 have cx := h.cel.cell x
 rw [List.getElem?_toArray, getElem_u64s _ _ hx] at cx
 simp only [List.getElem?_toArray, List.getElem?_cons_succ, List.getElem?_cons_zero] at c2
 clear h ho hpl
 go_wp2
 go_ret2
 exact ⟨rfl, HW.out⟩
theorem Ar.stored (h : Ar w F p C E) (x : Nat) (v : BitVec 64) (hx : x < C.length) : ∃ cb, w.cell? ⟨p, 2, none⟩ = some (.slice (some ⟨cb, 0, none⟩) C.length C.length) ∧ w.cell? ⟨cb, x, none⟩ = some (.int .u64 (n64 (cl C x))) ∧ w.frozen? ⟨cb, x, none⟩ = false ∧
  Ar (w.setCell ⟨cb, x, none⟩ (.int .u64 (n64 v))) F p (C.set x v) E ∧ F cb := by
 obtain ⟨cb, pv, ps, rg, hpl, h⟩ := h
 have cx := h.cel.cell x
 rw [List.getElem?_toArray, getElem_u64s _ _ hx] at cx
 refine ⟨cb, h.top.cell 2, cx, h.cel.frozen x, ⟨cb, pv, ps, rg, hpl, ?_⟩, h.fc⟩
 have n1 : p ≠ cb := h.top.diff h.cel (by decide)
 refine { h with top := ?_, cel := ?_, own := ?_, n1 := ?_, n2 := ?_, pg := ?_, fl := ?_ }
 ·rw [List.length_set]; exact h.top.far (p := ⟨cb, x, none⟩) n1 _
 ·have := h.cel.put x (.int .u64 (n64 v))
  have e1 : (u64s C).toArray.setIfInBounds x (.int .u64 (n64 v)) = (u64s (C.set x v)).toArray := by simp [u64s, List.map_set]
  rwa [e1] at this
 ·exact own_to h.own fun g hg => Below.heap_setCell _ ⟨cb, x, none⟩ _ _ (fun e => by subst e; exact own_diff h.own h.cel (by decide) hg)
 ·rw [List.length_set]; exact h.n1
 ·rw [List.length_set]; exact h.n2
 ·intro i hi
  exact (h.pg i hi).far (p := ⟨cb, x, none⟩) ((h.pg i hi).diff h.cel (by decide)) _
 ·intro k hk; simpa using h.fl k hk
set_option maxHeartbeats 400000 in
theorem store_ok (h : Ar w F p C E) (x : Int) (v : BitVec 64) (h0 : 0 ≤ x) (h1 : x < C.length) (he : E.length < 8388608) :
  Calls Tryz.prog 59 #[.pointer (some ⟨p, 0, none⟩), .int .i64 x, .int .u64 (n64 v)] w fun e w' => e = .returned (.int .i64 0) ∧ ArTo w F p (C.set x.toNat v) (E ++ [(2, x.toNat)]) w' := by
 have HS := hID (step_ok h 2 (by decide) x h0 h1 he)
 obtain ⟨x, rfl⟩ := Int.eq_ofNat_of_zero_le h0
 go_enter Tryz.func59, Tryz.ntmps59
 go_wp2_with fail
 refine HS.out.mono ?_
 rintro e w1 ⟨rfl, hw⟩
 have hx : x < C.length := by omega
 obtain ⟨hw1, ho⟩ := hw
 obtain ⟨cb, c2, cx, fx, h3, hf⟩ := hw1.stored x v hx
 have H3 := hID h3
 have HO := hID ho
 have HF := hID hf
 clear h3 ho hf hw1
 go_wp2
 go_ret
 refine ⟨rfl, H3.out.mono (fun k hk => ?_) ?_, HO.out.trans (Off.put (Off.refl _ _) (.inl HF.out) _)⟩
 ·rcases hk with hk | hk
  ·exact .inl hk
  ·exact .inr ⟨hk.1, by simpa using hk.2⟩
 ·intro k hk
  rcases hk with hk | hk
  ·exact H3.out.lt k (.inl hk)
  ·exact hk.2
theorem Ar.box (h : Ar w F p C E) (o : Obj) : Ar (w.alloc o) F p C E := h.keep (Off.alloc (Off.refl Nob w) o) (fun _ _ hn => hn)
theorem ArTo.box {o : Obj} {w' : World} {C' : List (BitVec 64)} {E' : List Ev} (h : Ar w F p C E) (k : ArTo (w.alloc o) F p C' E' w') : ArTo w F p C' E' w' := by
 have ho : Off F w w' := (Off.alloc (Off.refl _ _) o).also k.2
 refine ⟨k.1.mono (fun i hi => ?_) (Grow.lt h.lt ho.size), ho⟩
 rcases hi with hi | hi
 ·exact .inl hi
 ·exact .inr ⟨by have := hi.1; simp at this; omega, hi.2⟩
end
end Go.Proofs.YtkflicifngohcaaGreatDoor

namespace Go.Proofs.YtkflicifngohcaaGreatDoor
open Go.RowKit
set_option maxRecDepth 100000
def stores (n : Nat) : List Ev := (List.range n).map fun i => (2, i)
def pad (C : List (BitVec 64)) : List (BitVec 64) := if C = [] then [0] else C
def Made (w : World) (C : List (BitVec 64)) (e : Ending) (w' : World) : Prop :=
 ∃ p r F R, e = .returned (.tuple #[.pointer (some ⟨p, 0, none⟩), .pointer (some ⟨r, 0, none⟩)]) ∧ Ar w' F p (pad C) (stores C.length) ∧ Rf w' R r (pad C) (stores C.length) ∧ Off Nob w w' ∧
  (∀ k, F k → w.heap.size ≤ k) ∧ (∀ k, R k → w.heap.size ≤ k) ∧ ∀ k, F k → ¬ R k
theorem Rd.lit (w : World) (t : TypeId) (C : List (BitVec 64)) (h : C.length ≤ maxLen) : Rd (w.alloc (.cells (u64s C).toArray t)) (fun k => k = w.heap.size) 1 (.slice (some ⟨w.heap.size, 0, none⟩) C.length C.length) C.length (u64s C) :=
 ⟨_, _, rfl, h, by rw [length_u64s, Nat.mul_one], fun _ => ⟨_, 0, rfl, rfl, by simp, fun j u hu => by rw [Nat.zero_add, World.cell?_alloc_new]; simpa using hu⟩⟩
end Go.Proofs.YtkflicifngohcaaGreatDoor

namespace Go.Proofs.YtkflicifngohcaaGreatDoor
open Go.RowKit
set_option maxRecDepth 100000
def NewE (w : World) (E : List Ev) (e : Ending) (w' : World) : Prop := ∃ v, e = .returned v ∧ w'.ownsRow w.heap.size 105 2 v E.length (evs E) ∧ Off Nob w w'
def NewE2 (w : World) (E : List Ev) (e : Ending) (w' : World) : Prop := ∃ v, e = .returned (.tuple #[v, .int .i64 0]) ∧ w'.ownsRow w.heap.size 105 2 v E.length (evs E) ∧ Off Nob w w'
theorem evs_one (E : List Ev) : ∀ u ∈ evs E, u.oneCell' = true := by
 intro u hu
 simp [evs] at hu
 obtain ⟨a, b, _, h | h⟩ := hu <;> subst h <;> rfl
theorem and3_u32 (k x : Nat) (hk : k < 4) (hx : x < 65536) : bits .and .u32 ((x * 4 + k : Nat) : Int) 3 = k := by
 have e1 : ((BitVec.ofInt 32 ((x * 4 + k : Nat) : Int)) &&& (BitVec.ofInt 32 (3 : Int))).toNat = k := by
  rw [BitVec.ofInt_natCast, BitVec.toNat_and, BitVec.toNat_ofNat, Nat.mod_eq_of_lt (by omega)]
  show (x * 4 + k) &&& (2 ^ 2 - 1) = k
  rw [Nat.and_two_pow_sub_one_eq_mod]
  omega
 show IntKind.u32.wrap ((BitVec.ofInt 32 ((x * 4 + k : Nat) : Int) &&& BitVec.ofInt 32 (3 : Int)).toNat : Int) = _
 rw [e1]
 unfold IntKind.wrap
 simp [IntKind.bits]
 omega
def EvOk (E : List Ev) : Prop := ∀ e ∈ E, e.1 < 4 ∧ e.2 < 65536
def evAt (E : List Ev) (i : Nat) : Ev := E.getD i (0, 0)
theorem EvOk.at_ {E : List Ev} (h : EvOk E) (i : Nat) : (evAt E i).1 < 4 ∧ (evAt E i).2 < 65536 := by
 unfold evAt
 rcases Nat.lt_or_ge i E.length with hi | hi
 ·simp [List.getD, hi]; exact h _ (List.getElem_mem hi)
 ·simp [List.getD, List.getElem?_eq_none hi]
theorem drop_take_succ (E : List Ev) (s i : Nat) (hs : s ≤ i) (hi : i < E.length) : (E.take (i + 1)).drop s = (E.take i).drop s ++ [evAt E i] := by
 rw [List.take_succ_eq_append_getElem hi, List.drop_append_of_le_length (by simp; omega)]
 simp [evAt, List.getD, hi]
section
variable {w : World} {F : Nat → Prop} {p : Nat} {C : List (BitVec 64)} {E : List Ev}
theorem ArAt.evCell {cb : Nat} {pv : Value} {ps : List Nat} {rg : Value} (h : ArAt w F p C E cb pv ps rg) (hl : ps.length = (E.length + 4095) / 4096) (i : Nat) (hi : i < E.length) :
  ∃ g cap, pv = .slice (some ⟨g, 0, none⟩) ps.length cap ∧ i / 4096 < ps.length ∧ w.cell? ⟨g, i / 4096, none⟩ = some (.pointer (some ⟨ps.getD (i / 4096) 0, 0, none⟩)) ∧
   w.cell? ⟨ps.getD (i / 4096) 0, i % 4096, none⟩ = some (.int .u32 (((evAt E i).2 * 4 + (evAt E i).1 : Nat) : Int)) := by
 obtain ⟨g, cap, cur, hv, _, _, hcg⟩ := h.form (by omega)
 have hlt : i / 4096 < ps.length := by omega
 refine ⟨g, cap, hv, hlt, hcg _ hlt, ?_⟩
 rw [(h.pg _ hlt).cell, List.getElem?_toArray, get_pageOf _ _ _ (Nat.mod_lt _ (by decide))]
 have : 4096 * (i / 4096) + i % 4096 = i := Nat.div_add_mod i 4096
 rw [this]
 rfl
set_option maxHeartbeats 1000000 in
theorem from_ok (h : Ar w F p C E) (s : Nat) (hs : s ≤ E.length) :
  Calls Tryz.prog 79 #[.pointer (some ⟨p, 0, none⟩), .int .i64 s] w (NewE w (E.drop s)) := by
 obtain ⟨i0, hi, hz0, hz1, hz2⟩ := info_parts Tryz.infoEv
 have h2 := h.e2
 have H := hID h
 have c1 : w.cell? ⟨p, 1, none⟩ = some (.int .i64 (E.length : Int)) := by
  obtain ⟨cb, pv, ps, rg, _, h⟩ := h
  exact h.top.cell 1
 clear h
 go_enter Tryz.func79, Tryz.ntmps79
 go_wp2_with (at_make; refine wpList_make_own _ rfl _ _ 76 rfl w.heap.size 105 i0 (.agg #[.int .i32 0, .int .i32 0]) 2 Tryz.underlying76 hi hz0 hz1 .i64 .i64 _ (E.length - s) rfl rfl (by omega) (by rw [hz2]; omega) (by unfold maxLen; omega) (Nat.le_refl _) ?_; intro w0 hown0 hgrow0)
 have HO0 : Hid (w0.ownsRow w.heap.size 105 2 (.slice (some ⟨w.heap.size, 0, none⟩) 0 (E.length - s)) (s - s) (evs ((E.take s).drop s))) := by
  rw [Nat.sub_self, List.drop_of_length_le (by simp; omega)]
  exact hown0
 have HF0 : Hid (Off Nob w w0) := Off.grown (Off.refl _ _) hgrow0 (fun k hk => by cases hk)
 clear hown0 hgrow0
 go_wp2_with fail
 go_loopw [5, 6] (fun v i wr => ∃ k : Nat, s ≤ k ∧ k ≤ E.length ∧ i = .int .i64 k ∧ wr.ownsRow w.heap.size 105 2 v (k - s) (evs ((E.take k).drop s)) ∧ Off Nob w wr) (fun _ i _ => E.length - (intOf i).toNat)
 case atStart => exact ⟨s, Nat.le_refl _, hs, rfl, HO0.out, HF0.out⟩
 case round =>
  obtain ⟨k, hsk, hk, rfl, hown, hoff⟩ := hrel
  have HW := hID hown
  have HF := hID hoff
  obtain ⟨cb, pv, ps, rg, hpl, hat⟩ := H.out.keep hoff (fun _ _ h => h)
  have c1' := hat.top.cell 1
  simp only [List.getElem?_toArray, List.getElem?_cons_succ, List.getElem?_cons_zero] at c1'
  clear c1 hown hoff HO0 HF0
  by_cases hlt : k < E.length
  ·obtain ⟨g, cap, rfl, hlt2, hcg, hcp⟩ := hat.evCell hpl k hlt
   have c0' := hat.top.cell 0
   simp only [List.getElem?_toArray, List.getElem?_cons_zero] at c0'
   obtain ⟨b1, b2⟩ := EvOk.at_ hat.ev k
   have hand := and3_u32 (evAt E k).1 (evAt E k).2 b1 b2
   have hshr : (((evAt E k).2 * 4 + (evAt E k).1 : Nat) : Int) / 4 = ((evAt E k).2 : Int) := by omega
   have hq : (evAt E k).2 * 4 + (evAt E k).1 < 262144 := by omega
   have hform : ∃ Av cv, u5 = .slice Av (k - s) cv := by
    rcases HW.out.2 with ⟨rfl, h0⟩ | ⟨g, cap, cur, rfl, _⟩
    ·exact ⟨none, 0, by rw [h0]⟩
    ·exact ⟨_, _, rfl⟩
   obtain ⟨Av, cv, rfl⟩ := hform
   have HX := hID (show evs ((E.take k).drop s) ++ [.int .i32 ((evAt E k).1 : Int), .int .i32 ((evAt E k).2 : Int)] = evs ((E.take (k + 1)).drop s) from by rw [drop_take_succ _ _ _ hsk hlt, evs_push])
   clear hat hpl
   revert hcg hand hshr hq hcp HX b1 b2
   generalize ps.getD (k / 4096) 0 = pb
   generalize (evAt E k).2 * 4 + (evAt E k).1 = q
   generalize (evAt E k).2 = x0
   generalize (evAt E k).1 = k0
   intro hcg hcp b1 b2 hand hshr hq HX
   go_wp2_with (at_builtin; refine wpList_append_own_at _ rfl _ _ 76 rfl w.heap.size 105 i0 (.agg #[.int .i32 0, .int .i32 0]) 2 8 Tryz.underlying76 hi hz0 hz1 hz2 rfl (by decide) (.slice Av (k - s) cv) (k - s) (evs ((E.take k).drop s)) rfl (HW.out.alloc _) ⟨wr.heap.size, 0, none⟩ 1 1 [.int .i32 (k0 : Int), .int .i32 (x0 : Int)] rfl rfl ?c1 ?c2 ?c3 ?c4 ?c5 ?_)
   case c1 => exact cell_two_new' _ _ _ _
   case c2 => intro u hu; simp at hu; rcases hu with rfl | rfl <;> rfl
   case c3 => unfold maxLen; omega
   case c4 => omega
   case c5 => have := HF.out.size; simp; omega
   intro v' w1 hown' hgrow hnil hat2
   have HN : Hid (w1.ownsRow w.heap.size 105 2 v' (k + 1 - s) (evs ((E.take (k + 1)).drop s))) := by
    rw [← HX.out, show k + 1 - s = k - s + 1 by omega]
    exact hown'
   have HG : Hid (Off Nob w w1) := Off.grown (Off.alloc HF.out _) hgrow (fun j hj => .inr (HW.out.lt j hj).1)
   clear hown' hgrow hnil hat2 hand hshr
   go_wp2_with fail
   go_roundw
   case rel => exact ⟨k + 1, by omega, by omega, by go_num, HN.out, HG.out⟩
   case measure => simp [intOf]; omega
  ·clear hat hpl
   obtain rfl : k = E.length := by omega
   have HZ : Hid (wr.ownsRow w.heap.size 105 2 u5 (E.drop s).length (evs (E.drop s))) := by
    have := HW.out
    rwa [List.take_length, ← List.length_drop] at this
   go_wp2_with fail
   go_ret
   exact ⟨_, rfl, HZ.out, HF.out⟩
end
end Go.Proofs.YtkflicifngohcaaGreatDoor
