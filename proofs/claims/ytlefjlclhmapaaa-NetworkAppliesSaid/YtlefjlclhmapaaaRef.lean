/-
  The arena of the specification as memory holds it; New, step and Store of it.
-/
import Derived.Test.YtlefjlclhmapaaaArena
namespace Go.Proofs.Ytlefjlclhmapaaa
open Go.RowKit
set_option maxRecDepth 100000

/-- Steps as values. -/
def evs (E : List Ev) : List Value := E.flatMap fun e => [.int .i32 (e.1 : Int), .int .i32 (e.2 : Int)]
theorem length_evs (E : List Ev) : (evs E).length = E.length * 2 := by
  induction E with
  | nil => rfl
  | cons e E ih => simp [evs] at ih ⊢; omega
theorem evs_push (E : List Ev) (e : Ev) : evs (E ++ [e]) = evs E ++ [.int .i32 (e.1 : Int), .int .i32 (e.2 : Int)] := by simp [evs]

structure RfAt (w : World) (F : Nat → Prop) (r : Nat) (C : List (BitVec 64)) (E : List Ev) (cb : Nat) (ev rg : Value) : Prop where
  top : Blk w r 91 #[.slice (some ⟨cb, 0, none⟩) C.length C.length, rg, ev]
  cel : Blk w cb 39 (u64s C).toArray
  own : w.ownsRow 0 103 2 ev E.length (evs E)
  n1 : 1 ≤ C.length
  n2 : C.length ≤ 65536
  e2 : E.length ≤ 8388608
  fp : F r
  fc : F cb
  fo : ∀ g, ev.ownBlock = some g → F g
  fl : ∀ k, F k → k < w.heap.size
/-- The specification's arena at block r has the cells C and has made the steps E; its blocks lie in F. -/
def Rf (w : World) (F : Nat → Prop) (r : Nat) (C : List (BitVec 64)) (E : List Ev) : Prop := ∃ cb ev rg, RfAt w F r C E cb ev rg
def RfTo (w : World) (F : Nat → Prop) (r : Nat) (C : List (BitVec 64)) (E : List Ev) (w' : World) : Prop := Rf w' (Grow F w w') r C E ∧ Off F w w'

section
variable {w w' w1 w2 : World} {F G : Nat → Prop} {r : Nat} {C C1 C2 : List (BitVec 64)} {E E1 E2 : List Ev} {cb : Nat} {ev rg : Value}
theorem RfAt.to (h : RfAt w F r C E cb ev rg) (hs : w.heap.size ≤ w'.heap.size) (hb : ∀ k, F k → w'.heap[k]? = w.heap[k]?) : RfAt w' F r C E cb ev rg :=
  { h with
    top := h.top.to (hb _ h.fp)
    cel := h.cel.to (hb _ h.fc)
    own := own_to h.own fun g hg => hb _ (h.fo g hg)
    fl := fun k hk => Nat.lt_of_lt_of_le (h.fl k hk) hs }
theorem RfAt.mono (h : RfAt w F r C E cb ev rg) (hs : ∀ k, F k → G k) (hl : ∀ k, G k → k < w.heap.size) : RfAt w G r C E cb ev rg :=
  { h with fp := hs _ h.fp, fc := hs _ h.fc, fo := fun g hg => hs _ (h.fo g hg), fl := hl }
theorem Rf.lt (h : Rf w F r C E) : ∀ k, F k → k < w.heap.size := by obtain ⟨_, _, _, h⟩ := h; exact h.fl
theorem Rf.n1 (h : Rf w F r C E) : 1 ≤ C.length := by obtain ⟨_, _, _, h⟩ := h; exact h.n1
theorem Rf.n2 (h : Rf w F r C E) : C.length ≤ 65536 := by obtain ⟨_, _, _, h⟩ := h; exact h.n2
theorem Rf.e2 (h : Rf w F r C E) : E.length ≤ 8388608 := by obtain ⟨_, _, _, h⟩ := h; exact h.e2
theorem Rf.keep (h : Rf w F r C E) (o : Off G w w') (hd : ∀ k, F k → ¬ G k) : Rf w' F r C E := by
  obtain ⟨cb, ev, rg, h⟩ := h
  exact ⟨cb, ev, rg, h.to o.size fun k hk => o.block k (h.fl k hk) (hd k hk)⟩
theorem Rf.mono (h : Rf w F r C E) (hs : ∀ k, F k → G k) (hl : ∀ k, G k → k < w.heap.size) : Rf w G r C E := by
  obtain ⟨cb, ev, rg, h⟩ := h
  exact ⟨cb, ev, rg, h.mono hs hl⟩
theorem RfTo.refl (h : Rf w F r C E) : RfTo w F r C E w := ⟨h.mono (fun _ hk => .inl hk) (Grow.lt h.lt (Nat.le_refl _)), Off.refl _ _⟩
theorem RfTo.trans (h : RfTo w F r C1 E1 w1) (k : RfTo w1 (Grow F w w1) r C2 E2 w2) : RfTo w F r C2 E2 w2 := by
  have hj := Grow.join (F := F) h.2.size k.2.size
  refine ⟨k.1.mono hj ?_, h.2.trans k.2⟩
  intro i hi
  rcases hi with hi | hi
  · exact Nat.lt_of_lt_of_le (h.1.lt i (.inl hi)) k.2.size
  · exact hi.2

theorem rnone_ok (h : Rf w F r C E) :
    Calls Try.prog 56 #[.pointer (some ⟨r, 0, none⟩)] w fun e w' => e = .returned (.bool false) ∧ w = w' := by
  have h1 := h.n1
  obtain ⟨cb, ev, rg, h⟩ := h
  have c0 := h.top.cell 0
  simp only [List.getElem?_toArray, List.getElem?_cons_zero] at c0
  have hz : ((C.length : Int) == 0) = false := by rw [beq_eq_false_iff_ne]; omega
  clear h
  go_enter Try.func56, Try.ntmps56
  go_wp2
  go_ret
  exact ⟨rfl, rfl⟩

theorem RfAt.form (h : RfAt w F r C E cb ev rg) : ∃ A c, ev = .slice A E.length c := by
  rcases h.own.2 with ⟨rfl, h0⟩ | ⟨g, cap, cur, rfl, _⟩
  · exact ⟨none, 0, by rw [h0]⟩
  · exact ⟨_, cap, rfl⟩
theorem RfAt.push {w1 : World} {v' o1 o2 : Value} {to : TypeId} (h : RfAt w F r C E cb ev rg) (he : E.length < 8388608) (e : Ev)
    (hg : (w.alloc (.cells #[o1, o2] to)).grownBy w1 ev.ownBlock)
    (hown : w1.ownsRow 0 103 2 v' (E.length + 1) (evs E ++ [.int .i32 (e.1 : Int), .int .i32 (e.2 : Int)]))
    (hat : v'.ownBlock = ev.ownBlock ∨ v'.ownBlock = some (w.heap.size + 1)) :
    RfTo w F r C (E ++ [e]) (w1.setCell ⟨r, 2, none⟩ v') := by
  have hs : w.heap.size + 1 ≤ w1.heap.size := by have := hg.size; simp at this; omega
  have ho : Off F w w1 := Off.grown (Off.alloc (Off.refl _ _) _) hg (fun k hk => .inl (h.fo k hk))
  have hold : ∀ k, k < w.heap.size → ev.ownBlock ≠ some k → w1.heap[k]? = w.heap[k]? := fun k hk hn => by
    rw [hg.block k (by simp; omega) (Ne.symm hn), Below.heap_alloc _ _ _ hk]
  have hdt : Blk w1 r 91 #[.slice (some ⟨cb, 0, none⟩) C.length C.length, rg, ev] :=
    h.top.to (hold _ h.top.lt (own_diff h.own h.top (by decide)))
  refine ⟨⟨cb, v', rg, ?_⟩, ho.put (.inl h.fp) _⟩
  refine { h with top := ?_, cel := ?_, own := ?_, e2 := ?_, fp := .inl h.fp, fc := .inl h.fc, fo := ?_, fl := ?_ }
  · exact hdt.put 2 v'
  · exact (h.cel.to (hold _ h.cel.lt (own_diff h.own h.cel (by decide)))).far (p := ⟨r, 2, none⟩) (h.cel.diff h.top (by decide)) _
  · have hw : (w1.setCell ⟨r, 2, none⟩ v').ownsRow 0 103 2 v' (E.length + 1) (evs E ++ [.int .i32 (e.1 : Int), .int .i32 (e.2 : Int)]) := by
      refine own_to hown fun g hgo => Below.heap_setCell _ ⟨r, 2, none⟩ _ _ (fun e => ?_)
      subst e
      exact own_diff hown hdt (by decide) hgo
    rw [evs_push, List.length_append]
    exact hw
  · rw [List.length_append]; show E.length + 1 ≤ _; omega
  · intro g hg2
    rcases hat with e | e
    · exact .inl (h.fo g (e ▸ hg2))
    · rw [e] at hg2
      injection hg2 with hg2
      subst hg2
      refine .inr ⟨by omega, ?_⟩
      have := (hown.lt _ e).2
      simpa using this
  · intro k hk
    have := Grow.lt h.fl (w' := w1.setCell ⟨r, 2, none⟩ v') (by simp; omega) k hk
    exact this
end
theorem Try.infoEv : (Try.prog.info? 103).map (fun i => (i.zero, i.size, i.bytes)) = some (some (.agg #[.int .i32 0, .int .i32 0]), 2, 8) := by kernel_rfl
theorem cell_two_new' (w : World) (x y : Value) (t : TypeId) : ∀ j u, [x, y][j]? = some u → (w.alloc (.cells #[x, y] t)).cell? ((⟨w.heap.size, 0, none⟩ : Addr).add j) = some u := by
  intro j u hj
  match j, hj with
  | 0, hj => simp at hj; subst hj; simp [Addr.add]
  | 1, hj => simp at hj; subst hj; simp [Addr.add]

section
variable {w : World} {F : Nat → Prop} {r : Nat} {C : List (BitVec 64)} {E : List Ev}
set_option maxHeartbeats 400000 in
theorem rstep_ok (h : Rf w F r C E) (k : Nat) (hk : k < 4) (x : Int) (h0 : 0 ≤ x) (h1 : x < C.length) (he : E.length < 8388608) :
    Calls Try.prog 44 #[.pointer (some ⟨r, 0, none⟩), .int .i64 k, .int .i64 x] w fun e w' => e = .returned (.int .i64 0) ∧ RfTo w F r C (E ++ [(k, x.toNat)]) w' := by
  obtain ⟨x, rfl⟩ := Int.eq_ofNat_of_zero_le h0
  have h2 := h.n2
  have HN := Lib.hid (rnone_ok h)
  obtain ⟨i0, hi, hz0, hz1, hz2⟩ := info_parts Try.infoEv
  obtain ⟨cb, ev, rg, h⟩ := h
  have H := Lib.hid h
  obtain ⟨A, c, hev⟩ := h.form
  subst hev
  have hlt := h.top.lt
  have hnp : (Value.slice A E.length c).ownBlock ≠ some r := own_diff h.own h.top (by decide)
  have c0 := h.top.cell 0
  have c2 := h.top.cell 2
  have f2 := h.top.frozen 2
  simp only [List.getElem?_toArray, List.getElem?_cons_succ, List.getElem?_cons_zero] at c0 c2
  have hx : ¬ (C.length : Int) ≤ x := by omega
  have HE := Lib.hid he
  have hd : decide ((8388608 : Int) ≤ (E.length : Int)) = false := by simp; omega
  clear h he
  go_enter Try.func44, Try.ntmps44
  go_wp2_with (first
    | (go_at_call 56; refine HN.out.mono ?_; rintro e w' ⟨rfl, rfl⟩)
    | (at_builtin; refine wpList_append_own_at _ rfl _ _ 71 rfl 0 103 i0 (.agg #[.int .i32 0, .int .i32 0]) 2 8 Try.underlying71 hi hz0 hz1 hz2 rfl (by decide) (.slice A E.length c) E.length (evs E) rfl (H.out.own.alloc _) ⟨w.heap.size, 0, none⟩ 1 1 [.int .i32 (k : Int), .int .i32 (x : Int)] rfl rfl ?c1 ?c2 ?c3 ?c4 ?c5 ?_))
  case c1 => exact cell_two_new' _ _ _ _
  case c2 => intro u hu; simp at hu; rcases hu with rfl | rfl <;> rfl
  case c3 => have := HE.out; unfold maxLen; omega
  case c4 => have := HE.out; omega
  case c5 => omega
  intro v' w1 hown' hgrow hnil hat
  clear hnil
  have c2' : w1.cell? ⟨r, 2, none⟩ = some (.slice A E.length c) := hgrow.cell (a := ⟨r, 2, none⟩) (by simp [World.cell?_alloc_lt, hlt, c2]) (Ne.symm hnp)
  have f2' : w1.frozen? ⟨r, 2, none⟩ = false := by
    have := World.frozen?_of_block (a := ⟨r, 2, none⟩) (hgrow.block r (by simp; omega) (Ne.symm hnp))
    rw [this, World.frozen?_alloc_old _ _ _ (by simp; omega)]
    exact f2
  have HP := Lib.hid (RfAt.push H.out HE.out (k, x) hgrow hown' (by simpa using hat))
  have hvf : ∃ B d, v' = .slice B (E.length + 1) d := by
    rcases hown'.2 with ⟨rfl, h0⟩ | ⟨g, cap, cur, rfl, _⟩
    · omega
    · exact ⟨_, cap, rfl⟩
  obtain ⟨B, d, rfl⟩ := hvf
  clear hown' hgrow hat c0 c2 f2 H hnp hi hz0 hz1 hz2
  go_wp2
  go_ret
  exact ⟨rfl, HP.out⟩

theorem Rf.stored (h : Rf w F r C E) (x : Nat) (v : BitVec 64) (hx : x < C.length) : ∃ cb, w.cell? ⟨r, 0, none⟩ = some (.slice (some ⟨cb, 0, none⟩) C.length C.length) ∧ w.cell? ⟨cb, x, none⟩ = some (.int .u64 (n64 (cl C x))) ∧ w.frozen? ⟨cb, x, none⟩ = false ∧
    Rf (w.setCell ⟨cb, x, none⟩ (.int .u64 (n64 v))) F r (C.set x v) E ∧ F cb := by
  obtain ⟨cb, ev, rg, h⟩ := h
  have cx := h.cel.cell x
  rw [List.getElem?_toArray, getElem_u64s _ _ hx] at cx
  refine ⟨cb, h.top.cell 0, cx, h.cel.frozen x, ⟨cb, ev, rg, ?_⟩, h.fc⟩
  have n1 : r ≠ cb := h.top.diff h.cel (by decide)
  refine { h with top := ?_, cel := ?_, own := ?_, n1 := ?_, n2 := ?_, fl := ?_ }
  · rw [List.length_set]; exact h.top.far (p := ⟨cb, x, none⟩) n1 _
  · have := h.cel.put x (.int .u64 (n64 v))
    have e1 : (u64s C).toArray.setIfInBounds x (.int .u64 (n64 v)) = (u64s (C.set x v)).toArray := by simp [u64s, List.map_set]
    rwa [e1] at this
  · exact own_to h.own fun g hg => Below.heap_setCell _ ⟨cb, x, none⟩ _ _ (fun e => by subst e; exact own_diff h.own h.cel (by decide) hg)
  · rw [List.length_set]; exact h.n1
  · rw [List.length_set]; exact h.n2
  · intro k hk; simpa using h.fl k hk

set_option maxHeartbeats 400000 in
theorem rstore_ok (h : Rf w F r C E) (x : Int) (v : BitVec 64) (h0 : 0 ≤ x) (h1 : x < C.length) (he : E.length < 8388608) :
    Calls Try.prog 24 #[.pointer (some ⟨r, 0, none⟩), .int .i64 x, .int .u64 (n64 v)] w fun e w' => e = .returned (.int .i64 0) ∧ RfTo w F r (C.set x.toNat v) (E ++ [(2, x.toNat)]) w' := by
  have HS := Lib.hid (rstep_ok h 2 (by decide) x h0 h1 he)
  obtain ⟨x, rfl⟩ := Int.eq_ofNat_of_zero_le h0
  go_enter Try.func24, Try.ntmps24
  go_wp2_with fail
  refine HS.out.mono ?_
  rintro e w1 ⟨rfl, hw⟩
  have hx : x < C.length := by omega
  obtain ⟨hw1, ho⟩ := hw
  obtain ⟨cb, c2, cx, fx, h3, hf⟩ := hw1.stored x v hx
  have H3 := Lib.hid h3
  have HO := Lib.hid ho
  have HF := Lib.hid hf
  clear h3 ho hf hw1
  go_wp2
  go_ret
  refine ⟨rfl, H3.out.mono (fun k hk => ?_) ?_, HO.out.trans (Off.put (Off.refl _ _) (.inl HF.out) _)⟩
  · rcases hk with hk | hk
    · exact .inl hk
    · exact .inr ⟨hk.1, by simpa using hk.2⟩
  · intro k hk
    rcases hk with hk | hk
    · exact H3.out.lt k (.inl hk)
    · exact hk.2
end
set_option maxHeartbeats 400000 in
theorem rnew_ok (n : Nat) (w : World) (h1 : 1 ≤ n) (h2 : n ≤ 65536) :
    Calls Try.prog 22 #[.int .i64 n] w fun e w' => ∃ p, e = .returned (.tuple #[.pointer (some ⟨p, 0, none⟩), .int .i64 0]) ∧ ∃ F, Rf w' F p (List.replicate n 0) [] ∧ Off Nob w w' ∧ ∀ k, F k → w.heap.size ≤ k := by
  obtain ⟨i0, hi, hz0, hz1, hz2⟩ := info_parts Try.infoU
  go_enter Try.func22, Try.ntmps22
  go_wp2_with (at_make; refine wpList_make_full _ rfl _ _ 58 rfl w.heap.size 39 i0 (.int .u64 0) 1 Try.underlying58 hi hz0 hz1 .i64 .i64 _ _ n rfl rfl rfl rfl (by rw [hz2]; omega) (by unfold maxLen; omega) (Nat.le_refl _) ?_; intro w0 hown0 hgrow0)
  go_ret2
  have ho := made_blk hown0
  refine ⟨_, rfl, fun k => w.heap.size ≤ k ∧ k < w0.heap.size + 1, ⟨w.heap.size, .slice none 0 0, .slice none 0 0, ?_⟩, ?_, fun k hk => hk.1⟩
  · have hlt := ho.lt
    refine { top := ?_, cel := ho.alloc _, own := World.ownsRow_nil _ _ _ _, n1 := by simp; omega, n2 := by simp; omega, e2 := by simp, fp := ?_, fc := ?_, fo := ?_, fl := ?_ }
    · have := Blk.new w0 91 #[.slice (some ⟨w.heap.size, 0, none⟩) n n, .slice none 0 0, .slice none 0 0]
      simpa using this
    · exact ⟨by omega, by omega⟩
    · exact ⟨by omega, by omega⟩
    · intro g hg; cases hg
    · intro k hk; simpa using hk.2
  · exact Off.alloc (Off.grown (Off.refl _ _) hgrow0 (fun k hk => by cases hk)) _
end Go.Proofs.Ytlefjlclhmapaaa
