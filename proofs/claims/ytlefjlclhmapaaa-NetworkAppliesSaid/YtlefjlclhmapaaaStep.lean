/-
  The steps of an arena: add, step, Load and Store, where the step may be made.
-/
import Derived.Test.YtlefjlclhmapaaaArena
import Derived.BigRegion
import Derived.RegionTactic
namespace Go.Proofs.Ytlefjlclhmapaaa
open Go.RowKit
set_option maxRecDepth 100000
theorem or_u32 (x k : Int) (hx0 : 0 ≤ x) (hx1 : x < 65536) (hk0 : 0 ≤ k) (hk1 : k < 4) : bits .or .u32 (x * 4) k = x * 4 + k := by
  obtain ⟨x, rfl⟩ := Int.eq_ofNat_of_zero_le hx0
  obtain ⟨k, rfl⟩ := Int.eq_ofNat_of_zero_le hk0
  have e1 : ((BitVec.ofInt 32 ((x : Int) * 4)) ||| (BitVec.ofInt 32 (k : Int))).toNat = x * 4 + k := by
    have a1 : ((x : Int) * 4) = ((x * 4 : Nat) : Int) := by omega
    rw [a1, BitVec.ofInt_natCast, BitVec.ofInt_natCast, BitVec.toNat_or, BitVec.toNat_ofNat, BitVec.toNat_ofNat, Nat.mod_eq_of_lt (by omega), Nat.mod_eq_of_lt (by omega)]
    have := Nat.two_pow_add_eq_or_of_lt (i := 2) (b := k) (by omega) x
    rw [show x * 4 = 2 ^ 2 * x by omega]
    exact this.symm
  show IntKind.u32.wrap ((BitVec.ofInt 32 ((x : Int) * 4) ||| BitVec.ofInt 32 (k : Int)).toNat : Int) = _
  rw [e1]
  unfold IntKind.wrap
  simp [IntKind.bits]
  omega

def pageZ : Array Value := Array.replicate 4096 (.int .u32 0)
theorem length_pageOf (E : List Ev) (i : Nat) : (pageOf E i).length = 4096 := by simp [pageOf]
theorem get_pageOf (E : List Ev) (i j : Nat) (hj : j < 4096) : (pageOf E i)[j]? = some (.int .u32 (enc (E.getD (4096 * i + j) (0, 0)) : Nat)) := by
  simp [pageOf, List.getElem?_range hj]
theorem pageOf_zero (E : List Ev) (i : Nat) (h : E.length ≤ 4096 * i) : (pageOf E i).toArray = pageZ := by
  apply Array.toList_inj.1
  apply List.ext_getElem?
  intro j
  rcases Nat.lt_or_ge j 4096 with hj | hj
  · rw [List.toList_toArray, get_pageOf E i j hj]
    have : E.getD (4096 * i + j) (0, 0) = (0, 0) := by simp [List.getD, List.getElem?_eq_none (show E.length ≤ 4096 * i + j by omega)]
    rw [this]
    unfold pageZ
    rw [Array.toList_replicate, List.getElem?_replicate, if_pos hj]
    rfl
  · rw [List.getElem?_eq_none (by simp [length_pageOf]; omega), List.getElem?_eq_none (by unfold pageZ; rw [Array.toList_replicate, List.length_replicate]; exact hj)]
theorem pageOf_other (E : List Ev) (e : Ev) (i : Nat) (h : i ≠ E.length / 4096) : pageOf (E ++ [e]) i = pageOf E i := by
  apply List.ext_getElem?
  intro j
  rcases Nat.lt_or_ge j 4096 with hj | hj
  · rw [get_pageOf _ i j hj, get_pageOf _ i j hj]
    congr 4
    rcases Nat.lt_trichotomy (4096 * i + j) E.length with h1 | h1 | h1
    · simp [List.getD, List.getElem?_append_left h1]
    · omega
    · simp [List.getD, List.getElem?_eq_none (show E.length ≤ 4096 * i + j by omega), List.getElem?_eq_none (show (E ++ [e]).length ≤ 4096 * i + j by simp; omega)]
  · rw [List.getElem?_eq_none (by simp [length_pageOf]; omega), List.getElem?_eq_none (by simp [length_pageOf]; omega)]
theorem pageOf_here (E : List Ev) (e : Ev) : ((pageOf E (E.length / 4096)).toArray.setIfInBounds (E.length % 4096) (.int .u32 (enc e : Nat))) = (pageOf (E ++ [e]) (E.length / 4096)).toArray := by
  apply Array.toList_inj.1
  apply List.ext_getElem?
  intro j
  simp only [Array.toList_setIfInBounds, List.getElem?_set, length_pageOf]
  rcases Nat.lt_or_ge j 4096 with hj | hj
  · rw [get_pageOf _ _ j hj, get_pageOf _ _ j hj]
    by_cases h2 : E.length % 4096 = j
    · rw [if_pos h2, if_pos (by omega)]
      have : 4096 * (E.length / 4096) + j = E.length := by omega
      rw [this]
      simp [List.getD]
    · rw [if_neg h2]
      congr 4
      rcases Nat.lt_trichotomy (4096 * (E.length / 4096) + j) E.length with h1 | h1 | h1
      · simp [List.getD, List.getElem?_append_left h1]
      · omega
      · simp [List.getD, List.getElem?_eq_none (show E.length ≤ 4096 * (E.length / 4096) + j by omega), List.getElem?_eq_none (show (E ++ [e]).length ≤ 4096 * (E.length / 4096) + j by simp; omega)]
  · rw [if_neg (by omega), List.getElem?_eq_none (by simp [length_pageOf]; omega), List.getElem?_eq_none (by simp [length_pageOf]; omega)]

theorem page_zero : Try.zeroCells121 = pageZ := by kernel_rfl
theorem Try.infoPP : (Try.prog.info? 120).map (fun i => (i.zero, i.size, i.bytes)) = some (some (.pointer none), 1, 8) := by kernel_rfl

section
variable {w w' : World} {F : Nat → Prop} {p : Nat} {C : List (BitVec 64)} {E : List Ev} {cb : Nat} {pv : Value} {ps : List Nat} {rg : Value}
/-- The value of the pages, where there is one. -/
theorem ArAt.form (h : ArAt w F p C E cb pv ps rg) (hn : 0 < ps.length) : ∃ g cap cur, pv = .slice (some ⟨g, 0, none⟩) ps.length cap ∧ Blk w g 120 cur ∧ F g ∧ ∀ i, i < ps.length → w.cell? ⟨g, i, none⟩ = some (.pointer (some ⟨ps.getD i 0, 0, none⟩)) := by
  have hc := @World.ownsRow.cells _ _ _ _ _ _ _ h.own
  have hfo := h.fo
  rcases h.own.2 with ⟨_, h0⟩ | ⟨g, cap, cur, rfl, _, hg, _, _, _, _⟩
  · omega
  · refine ⟨g, cap, cur, rfl, hg, hfo g rfl, fun i hi => ?_⟩
    have := hc (g := g) rfl i (.pointer (some ⟨ps.getD i 0, 0, none⟩)) (by simp [ptrs, hi])
    have ha : (⟨g, 0, none⟩ : Addr).add i = ⟨g, i, none⟩ := by unfold Addr.add; split <;> simp_all
    rwa [ha] at this
theorem ne_of_nodup {ps : List Nat} (h : ps.Nodup) {i j : Nat} (hi : i < ps.length) (hj : j < ps.length) (hij : i ≠ j) : ps.getD i 0 ≠ ps.getD j 0 := by
  intro he
  simp [List.getD, hi, hj] at he
  exact hij (List.getElem_inj h |>.1 he)
/-- The store of a step's number, and of how many there are then. -/
theorem ArAt.push (h : ArAt w F p C E cb pv ps rg) (hr : E.length < 4096 * ps.length) (he : E.length < 8388608) (e : Ev) (hok : e.1 < 4 ∧ e.2 < 65536) :
    ArAt ((w.setCell ⟨ps.getD (E.length / 4096) 0, E.length % 4096, none⟩ (.int .u32 (enc e : Nat))).setCell ⟨p, 1, none⟩ (.int .i64 (E.length + 1 : Int))).drew F p C (E ++ [e]) cb pv ps rg := by
  have hi : E.length / 4096 < ps.length := by omega
  have hpg := h.pg _ hi
  have n1 : p ≠ ps.getD (E.length / 4096) 0 := h.top.diff hpg (by decide)
  have n2 : cb ≠ ps.getD (E.length / 4096) 0 := h.cel.diff hpg (by decide)
  have n3 : cb ≠ p := h.cel.diff h.top (by decide)
  have n4 : ∀ i, i < ps.length → ps.getD i 0 ≠ p := fun i hi => (h.pg i hi).diff h.top (by decide)
  refine { h with top := ?_, cel := ?_, own := ?_, pg := ?_, e2 := ?_, ev := ?_, fl := ?_ }
  · have := (h.top.far (p := ⟨ps.getD (E.length / 4096) 0, E.length % 4096, none⟩) n1 (.int .u32 (enc e : Nat))).put 1 (.int .i64 (E.length + 1 : Int))
    have e1 : (((E ++ [e]).length : Nat) : Int) = E.length + 1 := by rw [List.length_append]; rfl
    rw [e1]
    exact this
  · exact (h.cel.far (p := ⟨ps.getD (E.length / 4096) 0, E.length % 4096, none⟩) n2 _).far (p := ⟨p, 1, none⟩) n3 _
  · refine own_to h.own fun g hg => ?_
    have m1 : g ≠ p := fun e => by subst e; exact own_diff h.own h.top (by decide) hg
    have m2 : g ≠ ps.getD (E.length / 4096) 0 := fun e => by subst e; exact own_diff h.own hpg (by decide) hg
    exact (Below.heap_setCell _ ⟨p, 1, none⟩ _ _ m1).trans (Below.heap_setCell _ ⟨ps.getD (E.length / 4096) 0, E.length % 4096, none⟩ _ _ m2)
  · rw [List.length_append]; show E.length + 1 ≤ _; omega
  · intro x hx
    rcases List.mem_append.1 hx with hx | hx
    · exact h.ev x hx
    · simp at hx; subst hx; exact hok
  · intro i hi2
    by_cases hie : i = E.length / 4096
    · subst hie
      rw [← pageOf_here]
      exact (hpg.put _ _).far (p := ⟨p, 1, none⟩) (n4 _ hi2) _
    · rw [pageOf_other _ _ _ hie]
      exact ((h.pg i hi2).far (p := ⟨ps.getD (E.length / 4096) 0, E.length % 4096, none⟩) (ne_of_nodup h.nd hi2 hi hie) _).far (p := ⟨p, 1, none⟩) (n4 _ hi2) _
  · intro k hk; simpa using h.fl k hk
theorem ArAt.pushOff (h : ArAt w F p C E cb pv ps rg) (hr : E.length < 4096 * ps.length) (u u' : Value) :
    Off F w ((w.setCell ⟨ps.getD (E.length / 4096) 0, E.length % 4096, none⟩ u).setCell ⟨p, 1, none⟩ u').drew :=
  Off.drew (Off.put (Off.put (Off.refl _ _) (.inl (h.fg _ (getD_mem (by omega)))) _) (.inl h.fp) _)
end

set_option maxHeartbeats 400000 in
theorem add_in {w : World} {F : Nat → Prop} {p : Nat} {C : List (BitVec 64)} {E : List Ev} {cb : Nat} {pv : Value} {ps : List Nat} {rg : Value} (h : ArAt w F p C E cb pv ps rg)
    (hr : E.length < 4096 * ps.length) (he : E.length < 8388608) (hne : E.length % 4096 ≠ 0) (k x : Nat) (hx1 : x < 65536) (hk1 : k < 4) :
    Calls Try.prog 65 #[.pointer (some ⟨p, 0, none⟩), .int .i64 k, .int .i64 x] w fun e w' => e = .returned (.tuple #[]) ∧
      ArAt w' F p C (E ++ [(k, x)]) cb pv ps rg ∧ Off F w w' := by
  have hi : E.length / 4096 < ps.length := by omega
  obtain ⟨g, cap, cur, rfl, hg, hfg, hcg⟩ := h.form (by omega)
  have hpg := h.pg _ hi
  have cg := hcg _ hi
  have c0 := h.top.cell 0
  have c1 := h.top.cell 1
  have f1 := h.top.frozen 1
  have cb1 := hpg.cell (E.length % 4096)
  rw [List.getElem?_toArray, get_pageOf _ _ _ (Nat.mod_lt _ (by decide))] at cb1
  have fb := hpg.frozen (E.length % 4096)
  have hpb : ps.getD (E.length / 4096) 0 ≠ p := hpg.diff h.top (by decide)
  have HA := Lib.hid (h.push hr he (k, x) ⟨hk1, hx1⟩)
  have HO := Lib.hid (h.pushOff hr (.int .u32 (enc (k, x) : Nat)) (.int .i64 (E.length + 1 : Int)))
  have HB := Lib.hid (or_u32 x k (by omega) (by omega) (by omega) (by omega))
  simp only [List.getElem?_toArray, List.getElem?_cons_succ, List.getElem?_cons_zero] at c0 c1
  clear h hg hfg hcg hpg hr
  revert HA HO cb1 cg fb hpb
  generalize ps.getD (E.length / 4096) 0 = pb
  generalize enc (E.getD (4096 * (E.length / 4096) + E.length % 4096) (0, 0)) = u
  intro cg cb1 fb hpb HA HO
  have hz : ((E.length : Int) % 4096 == 0) = false := by rw [beq_eq_false_iff_ne]; omega
  generalize hn : E.length = n at *
  have HN := Lib.hid hn
  clear hn
  go_enter Try.func65, Try.ntmps65
  go_wp2
  go_region
  go_wp2
  go_end0
  rw [HB.out]
  exact ⟨rfl, HA.out, HO.out⟩

/-- A new page. -/
theorem ArAt.page {w w1 : World} {F : Nat → Prop} {p : Nat} {C : List (BitVec 64)} {E : List Ev} {cb : Nat} {pv v' : Value} {ps : List Nat} {rg o : Value} {to : TypeId} (h : ArAt w F p C E cb pv ps rg)
    (hE : E.length ≤ 4096 * ps.length)
    (hg : ((w.alloc (.cells pageZ 121)).alloc (.cells #[o] to)).grownBy w1 pv.ownBlock)
    (hown : w1.ownsRow 0 120 1 v' (ps.length + 1) (ptrs ps ++ [.pointer (some ⟨w.heap.size, 0, none⟩)]))
    (hat : v'.ownBlock = pv.ownBlock ∨ v'.ownBlock = some (w.heap.size + 1 + 1)) :
    ArAt (w1.setCell ⟨p, 0, none⟩ v') (Grow F w w1) p C E cb v' (ps ++ [w.heap.size]) rg ∧ Off F w (w1.setCell ⟨p, 0, none⟩ v') := by
  have hs : w.heap.size + 2 ≤ w1.heap.size := by have := hg.size; simp at this; omega
  have hpl : ∀ g, pv.ownBlock = some g → g < w.heap.size := fun g hg => (h.own.lt g hg).2
  have ho : Off F w w1 := Off.grown (Off.alloc (Off.alloc (Off.refl _ _) _) _) hg (fun k hk => .inl (h.fo k hk))
  have hold : ∀ k, k < w.heap.size → pv.ownBlock ≠ some k → w1.heap[k]? = w.heap[k]? := fun k hk hn => by
    rw [hg.block k (by simp; omega) (Ne.symm hn), Below.heap_alloc _ _ _ (by simp; omega), Below.heap_alloc _ _ _ hk]
  have hnew : Blk w1 w.heap.size 121 pageZ := by
    have := Blk.new w 121 pageZ
    refine Blk.to (this.alloc _) (hg.block _ (by simp; omega) (fun e => ?_))
    have := hpl _ e.symm
    omega
  have hdt : Blk w1 p 89 #[pv, .int .i64 (E.length : Int), .slice (some ⟨cb, 0, none⟩) C.length C.length, rg, .func (.func 42) #[.pointer (some ⟨p, 0, none⟩)] #[]] :=
    h.top.to (hold _ h.top.lt (own_diff h.own h.top (by decide)))
  have hn : p ≠ w.heap.size := by have := h.top.lt; omega
  refine ⟨?_, ho.put (.inl h.fp) _⟩
  refine { h with top := ?_, cel := ?_, own := ?_, pg := ?_, nd := ?_, fp := .inl h.fp, fc := .inl h.fc, fo := ?_, fg := ?_, fl := ?_ }
  · exact hdt.put 0 v'
  · exact (h.cel.to (hold _ h.cel.lt (own_diff h.own h.cel (by decide)))).far (p := ⟨p, 0, none⟩) (h.cel.diff h.top (by decide)) _
  · have hw : (w1.setCell ⟨p, 0, none⟩ v').ownsRow 0 120 1 v' (ps.length + 1) (ptrs ps ++ [.pointer (some ⟨w.heap.size, 0, none⟩)]) := by
      refine own_to hown fun g hgo => Below.heap_setCell _ ⟨p, 0, none⟩ _ _ (fun e => ?_)
      subst e
      exact own_diff hown hdt (by decide) hgo
    have e1 : ptrs (ps ++ [w.heap.size]) = ptrs ps ++ [.pointer (some ⟨w.heap.size, 0, none⟩)] := by simp [ptrs]
    rw [e1, List.length_append]
    exact hw
  · intro i hi
    rw [List.length_append] at hi
    rcases Nat.lt_or_ge i ps.length with h1 | h1
    · have e1 : (ps ++ [w.heap.size]).getD i 0 = ps.getD i 0 := by simp [List.getD, List.getElem?_append_left h1]
      rw [e1]
      have hb := h.pg i h1
      exact (hb.to (hold _ hb.lt (own_diff h.own hb (by decide)))).far (p := ⟨p, 0, none⟩) (hb.diff h.top (by decide)) _
    · have e0 : i = ps.length := by simp at hi; omega
      subst e0
      have e1 : (ps ++ [w.heap.size]).getD ps.length 0 = w.heap.size := by simp [List.getD]
      rw [e1, pageOf_zero _ _ hE]
      exact hnew.far (p := ⟨p, 0, none⟩) (Ne.symm hn) _
  · rw [List.nodup_append]
    refine ⟨h.nd, by simp, ?_⟩
    intro a ha b hb
    simp at hb
    subst hb
    have := h.fl _ (h.fg a ha)
    omega
  · intro g hg2
    rcases hat with e | e
    · exact .inl (h.fo g (e ▸ hg2))
    · rw [e] at hg2
      injection hg2 with hg2
      subst hg2
      refine .inr ⟨by omega, ?_⟩
      have := (hown.lt _ e).2
      omega
  · intro b hb
    rw [List.mem_append] at hb
    rcases hb with hb | hb
    · exact .inl (h.fg b hb)
    · simp at hb
      subst hb
      exact .inr ⟨Nat.le_refl _, by omega⟩
  · intro k hk
    have := Grow.lt h.fl ho.size k hk
    simpa using this

set_option maxHeartbeats 400000 in
theorem add_new {w : World} {F : Nat → Prop} {p : Nat} {C : List (BitVec 64)} {E : List Ev} {cb : Nat} {pv : Value} {ps : List Nat} {rg : Value} (h : ArAt w F p C E cb pv ps rg)
    (hpl : E.length = 4096 * ps.length) (he : E.length < 8388608) (k x : Nat) (hx1 : x < 65536) (hk1 : k < 4) :
    Calls Try.prog 65 #[.pointer (some ⟨p, 0, none⟩), .int .i64 k, .int .i64 x] w fun e w' => e = .returned (.tuple #[]) ∧ ArTo w F p C (E ++ [(k, x)]) w' := by
  obtain ⟨i0, hi, hz0, hz1, hz2⟩ := info_parts Try.infoPP
  have c0 := h.top.cell 0
  have c1 := h.top.cell 1
  have f0 := h.top.frozen 0
  have hlt := h.top.lt
  have hnp : pv.ownBlock ≠ some p := own_diff h.own h.top (by decide)
  simp only [List.getElem?_toArray, List.getElem?_cons_succ, List.getElem?_cons_zero] at c0 c1
  have H := Lib.hid h
  have HN := Lib.hid hpl
  have hz : ((E.length : Int) % 4096 == 0) = true := by rw [beq_iff_eq]; omega
  have hown := Lib.hid h.own
  clear h hpl
  go_enter Try.func65, Try.ntmps65
  go_wp2_with (at_builtin; refine wpList_append_own_at _ rfl _ _ 83 rfl 0 120 i0 (.pointer none) 1 8 Try.underlying83 hi hz0 hz1 hz2 rfl (by decide) pv ps.length (ptrs ps) rfl ((hown.out.alloc _).alloc _) ⟨w.heap.size + 1, 0, none⟩ 1 1 [.pointer (some ⟨w.heap.size, 0, none⟩)] rfl rfl ?c1 ?c2 ?c3 ?c4 ?c5 ?_)
  case c1 => have := cell_one_new (w.alloc (.cells Try.zeroCells121 121)) (.pointer (some ⟨w.heap.size, 0, none⟩)) 120; simpa using this
  case c2 => intro u hu; simp at hu; subst hu; rfl
  case c3 => have := HN.out; unfold maxLen; omega
  case c4 => have := HN.out; omega
  case c5 => omega
  intro v' w1 hown' hgrow hnil hat
  clear hnil
  have c0' : w1.cell? ⟨p, 0, none⟩ = some pv := hgrow.cell (a := ⟨p, 0, none⟩) (by simp [World.cell?_alloc_lt, hlt, Nat.lt_succ_of_lt, c0]) (Ne.symm hnp)
  have f0' : w1.frozen? ⟨p, 0, none⟩ = false := by
    have := World.frozen?_of_block (a := ⟨p, 0, none⟩) (hgrow.block p (by simp; omega) (Ne.symm hnp))
    rw [this, World.frozen?_alloc_old _ _ _ (by simp; omega), World.frozen?_alloc_old _ _ _ (by simp; omega)]
    exact f0
  rw [page_zero] at hgrow
  obtain ⟨hP, hO⟩ := ArAt.page H.out (by have := HN.out; omega) hgrow hown' hat
  have hs : w.heap.size ≤ w1.heap.size := by have := hgrow.size; simp at this; omega
  have hr : E.length < 4096 * (ps ++ [w.heap.size]).length := by have := HN.out; simp; omega
  have hql : (ps ++ [w.heap.size]).length = (E.length + 1 + 4095) / 4096 := by have := HN.out; simp; omega
  clear hown' hgrow hat c0 c1 f0 hown H hnp hi hz0 hz1 hz2
  generalize ps ++ [w.heap.size] = qs at *
  obtain ⟨g, cap, cur, hv, hg, hfg, hcg⟩ := hP.form (by omega)
  subst hv
  have HP := Lib.hid hP
  have HO := Lib.hid hO
  have HG := Lib.hid hcg
  have HL := Lib.hid hql
  clear hP hO hg hfg hcg hql
  go_wp2
  have hWs : (w1.setCell ⟨p, 0, none⟩ (.slice (some ⟨g, 0, none⟩) qs.length cap)).heap.size = w1.heap.size := by simp
  generalize w1.setCell ⟨p, 0, none⟩ (.slice (some ⟨g, 0, none⟩) qs.length cap) = W at *
  have HW := Lib.hid hWs
  clear hWs
  have hi : E.length / 4096 < qs.length := by omega
  have hpg := HP.out.pg _ hi
  have cg := HG.out _ hi
  have c0 := HP.out.top.cell 0
  have c1 := HP.out.top.cell 1
  have f1 := HP.out.top.frozen 1
  have cb1 := hpg.cell (E.length % 4096)
  rw [List.getElem?_toArray, get_pageOf _ _ _ (Nat.mod_lt _ (by decide))] at cb1
  have fb := hpg.frozen (E.length % 4096)
  have hpb : qs.getD (E.length / 4096) 0 ≠ p := hpg.diff HP.out.top (by decide)
  have HA := Lib.hid (ArAt.push HP.out hr he (k, x) ⟨hk1, hx1⟩)
  have HO2 := Lib.hid (ArAt.pushOff HP.out hr (.int .u32 (enc (k, x) : Nat)) (.int .i64 (E.length + 1 : Int)))
  have HB := Lib.hid (or_u32 x k (by omega) (by omega) (by omega) (by omega))
  simp only [List.getElem?_toArray, List.getElem?_cons_succ, List.getElem?_cons_zero] at c0 c1
  clear hpg hr c0' f0'
  revert HA HO2 cb1 cg fb hpb
  generalize qs.getD (E.length / 4096) 0 = pb
  generalize enc (E.getD (4096 * (E.length / 4096) + E.length % 4096) (0, 0)) = u
  intro cg cb1 fb hpb HA HO2
  generalize hn : E.length = n at *
  have HN2 := Lib.hid hn
  clear hn
  go_region
  go_wp2
  go_end0
  rw [HB.out]
  have hws := HW.out
  have hgg : ∀ k, Grow F w w1 k ↔ Grow F w W k := fun k => by unfold Grow; rw [hws]
  refine ⟨rfl, ⟨_, _, qs, _, ?_, ArAt.mono HA.out (G := Grow F w _) ?_ ?_⟩, HO.out.trans (HO2.out.mono fun k _ hk => (hgg k).1 hk)⟩
  · rw [HL.out, List.length_append, HN2.out]; rfl
  · intro i hi2
    rcases hi2 with hi2 | hi2
    · exact .inl hi2
    · refine .inr ⟨hi2.1, ?_⟩
      have := hi2.2
      simp
      omega
  · intro i hi2
    rcases hi2 with hi2 | hi2
    · exact HA.out.fl i (.inl hi2)
    · exact hi2.2

/-- A step is put at the end. -/
theorem add_any {w : World} {F : Nat → Prop} {p : Nat} {C : List (BitVec 64)} {E : List Ev} (h : Ar w F p C E) (he : E.length < 8388608) (k x : Nat) (hx1 : x < 65536) (hk1 : k < 4) :
    Calls Try.prog 65 #[.pointer (some ⟨p, 0, none⟩), .int .i64 k, .int .i64 x] w fun e w' => e = .returned (.tuple #[]) ∧ ArTo w F p C (E ++ [(k, x)]) w' := by
  obtain ⟨cb, pv, ps, rg, hpl, h⟩ := h
  by_cases hz : E.length % 4096 = 0
  · exact add_new h (by omega) he k x hx1 hk1
  · refine (add_in h (by omega) he hz k x hx1 hk1).mono fun e w' ⟨h1, h2, h3⟩ => ⟨h1, ⟨cb, pv, ps, rg, ?_, h2.mono (fun _ hk => .inl hk) (Grow.lt h.fl h3.size)⟩, h3⟩
    rw [hpl, List.length_append]
    show _ = (E.length + 1 + 4095) / 4096
    omega
end Go.Proofs.Ytlefjlclhmapaaa
