/-
  The arena of package arena as memory holds it: its cells and its steps; what asks about it (none, Has, Room, Steps) and what makes it (New).
-/
import Derived.Test.YtlefjlclhmapaaaRows
import Derived.Test.YtlefjlclhmapaaaBase
import Derived.Test.YtlefjlclhmapaaaMem
import Derived.Laws.EntriesVeiled
import Derived.Outline
import Derived.BigQuiet
namespace Go.Proofs.Ytlefjlclhmapaaa
open Go.RowKit

/-- A step: its kind, its address. -/
abbrev Ev := Nat × Nat
/-- A step as one number. -/
def enc (e : Ev) : Nat := e.2 * 4 + e.1
/-- Numbers of 64 bits as values. -/
def u64s (C : List (BitVec 64)) : List Value := C.map fun x => .int .u64 (n64 x)
/-- Page i of the steps. -/
def pageOf (E : List Ev) (i : Nat) : List Value := (List.range 4096).map fun j => .int .u32 (enc (E.getD (4096 * i + j) (0, 0)) : Nat)
def ptrs (ps : List Nat) : List Value := ps.map fun b => .pointer (some ⟨b, 0, none⟩)

theorem length_u64s (C : List (BitVec 64)) : (u64s C).length = C.length := by simp [u64s]
/-- The value of a cell. -/
def cl (C : List (BitVec 64)) (i : Nat) : BitVec 64 := C.getD i 0
theorem getElem_u64s (C : List (BitVec 64)) (i : Nat) (h : i < C.length) : (u64s C)[i]? = some (.int .u64 (n64 (cl C i))) := by simp [u64s, h, cl]

/-- The arena at block p: its parts. -/
structure ArAt (w : World) (F : Nat → Prop) (p : Nat) (C : List (BitVec 64)) (E : List Ev) (cb : Nat) (pv : Value) (ps : List Nat) (rg : Value) : Prop where
  top : Blk w p 89 #[pv, .int .i64 (E.length : Int), .slice (some ⟨cb, 0, none⟩) C.length C.length, rg, .func (.func 42) #[.pointer (some ⟨p, 0, none⟩)] #[]]
  cel : Blk w cb 39 (u64s C).toArray
  own : w.ownsRow 0 120 1 pv ps.length (ptrs ps)
  n1 : 1 ≤ C.length
  n2 : C.length ≤ 65536
  e2 : E.length ≤ 8388608
  ev : ∀ e ∈ E, e.1 < 4 ∧ e.2 < 65536
  pg : ∀ i, i < ps.length → Blk w (ps.getD i 0) 121 (pageOf E i).toArray
  nd : ps.Nodup
  fp : F p
  fc : F cb
  fo : ∀ g, pv.ownBlock = some g → F g
  fg : ∀ b ∈ ps, F b
  fl : ∀ k, F k → k < w.heap.size
/-- The arena at block p has the cells C and has made the steps E; its blocks lie in F. -/
def Ar (w : World) (F : Nat → Prop) (p : Nat) (C : List (BitVec 64)) (E : List Ev) : Prop := ∃ cb pv ps rg, ps.length = (E.length + 4095) / 4096 ∧ ArAt w F p C E cb pv ps rg
/-- Behind a call that has worked over the arena alone. -/
def ArTo (w : World) (F : Nat → Prop) (p : Nat) (C : List (BitVec 64)) (E : List Ev) (w' : World) : Prop := Ar w' (Grow F w w') p C E ∧ Off F w w'

section
variable {w w' w1 w2 : World} {F G : Nat → Prop} {p : Nat} {C C1 C2 : List (BitVec 64)} {E E1 E2 : List Ev} {cb : Nat} {pv : Value} {ps : List Nat} {rg : Value}
theorem own_to {base : Nat} {e : TypeId} {size n : Nat} {v : Value} {xs : List Value} (h : w.ownsRow base e size v n xs) (hb : ∀ g, v.ownBlock = some g → w'.heap[g]? = w.heap[g]?) : w'.ownsRow base e size v n xs := by
  refine ⟨h.1, ?_⟩
  rcases h.2 with hn | ⟨g, cap, cur, rfl, hb1, hgg, rest⟩
  · exact .inl hn
  · exact .inr ⟨g, cap, cur, rfl, hb1, (hb g rfl).trans hgg, rest⟩
theorem getD_mem {ps : List Nat} {i : Nat} (hi : i < ps.length) : ps.getD i 0 ∈ ps := by simp [hi]
theorem ArAt.to (h : ArAt w F p C E cb pv ps rg) (hs : w.heap.size ≤ w'.heap.size) (hb : ∀ k, F k → w'.heap[k]? = w.heap[k]?) : ArAt w' F p C E cb pv ps rg :=
  { h with
    top := h.top.to (hb _ h.fp)
    cel := h.cel.to (hb _ h.fc)
    own := own_to h.own fun g hg => hb _ (h.fo g hg)
    pg := fun i hi => (h.pg i hi).to (hb _ (h.fg _ (getD_mem hi)))
    fl := fun k hk => Nat.lt_of_lt_of_le (h.fl k hk) hs }
theorem ArAt.mono (h : ArAt w F p C E cb pv ps rg) (hs : ∀ k, F k → G k) (hl : ∀ k, G k → k < w.heap.size) : ArAt w G p C E cb pv ps rg :=
  { h with fp := hs _ h.fp, fc := hs _ h.fc, fo := fun g hg => hs _ (h.fo g hg), fg := fun b hb => hs _ (h.fg b hb), fl := hl }
theorem Ar.lt (h : Ar w F p C E) : ∀ k, F k → k < w.heap.size := by obtain ⟨_, _, _, _, _, h⟩ := h; exact h.fl
theorem Ar.n1 (h : Ar w F p C E) : 1 ≤ C.length := by obtain ⟨_, _, _, _, _, h⟩ := h; exact h.n1
theorem Ar.n2 (h : Ar w F p C E) : C.length ≤ 65536 := by obtain ⟨_, _, _, _, _, h⟩ := h; exact h.n2
theorem Ar.e2 (h : Ar w F p C E) : E.length ≤ 8388608 := by obtain ⟨_, _, _, _, _, h⟩ := h; exact h.e2
theorem Ar.keep (h : Ar w F p C E) (o : Off G w w') (hd : ∀ k, F k → ¬ G k) : Ar w' F p C E := by
  obtain ⟨cb, pv, ps, rg, hpl, h⟩ := h
  exact ⟨cb, pv, ps, rg, hpl, h.to o.size fun k hk => o.block k (h.fl k hk) (hd k hk)⟩
theorem Ar.mono (h : Ar w F p C E) (hs : ∀ k, F k → G k) (hl : ∀ k, G k → k < w.heap.size) : Ar w G p C E := by
  obtain ⟨cb, pv, ps, rg, hpl, h⟩ := h
  exact ⟨cb, pv, ps, rg, hpl, h.mono hs hl⟩
theorem Ar.drew (h : Ar w F p C E) : Ar w.drew F p C E := h.keep (Off.drew (Off.refl Nob w)) (fun _ _ hn => hn)
theorem ArTo.refl (h : Ar w F p C E) : ArTo w F p C E w := ⟨h.mono (fun _ hk => .inl hk) (Grow.lt h.lt (Nat.le_refl _)), Off.refl _ _⟩
theorem ArTo.trans (h : ArTo w F p C1 E1 w1) (k : ArTo w1 (Grow F w w1) p C2 E2 w2) : ArTo w F p C2 E2 w2 := by
  have hj := Grow.join (F := F) h.2.size k.2.size
  have ho := h.2.trans k.2
  obtain ⟨cb, pv, ps, rg, hpl, h3⟩ := k.1
  obtain ⟨_, _, _, _, _, h4⟩ := h.1
  refine ⟨⟨cb, pv, ps, rg, hpl, h3.mono hj ?_⟩, ho⟩
  intro i hi
  rcases hi with hi | hi
  · exact Nat.lt_of_lt_of_le (h4.fl i (.inl hi)) k.2.size
  · exact hi.2
end

/-- An arena of one's own: it was made behind w0, and nothing that w0 held has turned. -/
def Have (w0 w : World) (p : Nat) (C : List (BitVec 64)) (E : List Ev) : Prop := ∃ F, Ar w F p C E ∧ Off Nob w0 w ∧ ∀ k, F k → w0.heap.size ≤ k
theorem Off.own {F : Nat → Prop} {w w1 w2 : World} (h : Off Nob w w1) (k : Off F w1 w2) (hf : ∀ k, F k → w.heap.size ≤ k) : Off Nob w w2 :=
  ⟨k.os.trans h.os, k.tape.trans h.tape, k.output.trans h.output, Nat.le_trans h.size k.size, fun i hi hn =>
    (k.block i (Nat.lt_of_lt_of_le hi h.size) (fun hg => by have := hf i hg; omega)).trans (h.block i hi hn)⟩
theorem Have.call {w0 w : World} {p : Nat} {C C' : List (BitVec 64)} {E E' : List Ev} {P : Program} {f : FuncId} {xs : Array Value} {e0 : Ending} (h : Have w0 w p C E)
    (hc : ∀ F, Ar w F p C E → Calls P f xs w fun e w' => e = e0 ∧ ArTo w F p C' E' w') : Calls P f xs w fun e w' => e = e0 ∧ Have w0 w' p C' E' := by
  obtain ⟨F, h1, h2, h3⟩ := h
  exact (hc F h1).mono fun e w' ⟨he, ha, ho⟩ => ⟨he, _, ha, h2.own ho h3, Grow.from_ h3 h2.size⟩
theorem Have.off {w0 w w' : World} {p : Nat} {C : List (BitVec 64)} {E : List Ev} (h : Have w0 w p C E) (o : Off Nob w w') : Have w0 w' p C E := by
  obtain ⟨F, h1, h2, h3⟩ := h
  exact ⟨F, h1.keep o (fun _ _ hn => hn), h2.also o, h3⟩
theorem Have.ar {w0 w : World} {p : Nat} {C : List (BitVec 64)} {E : List Ev} (h : Have w0 w p C E) : ∃ F, Ar w F p C E := ⟨_, h.choose_spec.1⟩
theorem Have.old {w0 w : World} {p : Nat} {C : List (BitVec 64)} {E : List Ev} (h : Have w0 w p C E) : Off Nob w0 w := h.choose_spec.2.1

set_option maxRecDepth 100000
theorem run_find_nil (p : Nat) (w : World) : (binOp .eql 87 (.func (.func 42) #[.pointer (some ⟨p, 0, none⟩)] #[]) .nilFunc).run Try.prog w = .ok (.bool false) w := by kernel_rfl
theorem none_ok {w : World} {F : Nat → Prop} {p : Nat} {C : List (BitVec 64)} {E : List Ev} (h : Ar w F p C E) :
    Calls Try.prog 54 #[.pointer (some ⟨p, 0, none⟩)] w fun e w' => e = .returned (.bool false) ∧ w = w' := by
  obtain ⟨cb, pv, ps, rg, hpl, h⟩ := h
  have c4 := h.top.cell 4
  simp only [List.getElem?_toArray, List.getElem?_cons_succ, List.getElem?_cons_zero] at c4
  clear h
  have hq := run_find_nil p
  go_enter Try.func54, Try.ntmps54
  go_wp2
  go_ret
  exact ⟨rfl, rfl⟩
theorem none_nil (w : World) :
    Calls Try.prog 54 #[.pointer none] w fun e w' => e = .returned (.bool true) ∧ w = w' := by
  go_enter Try.func54, Try.ntmps54
  go_wp2
  go_ret
  exact ⟨rfl, rfl⟩

/-- What Has answers. -/
def hasE (n : Nat) (x k : Int) : Int := if x < 0 ∨ (n : Int) < x ∨ k < 0 ∨ (n : Int) - x < k then 7 else 0
/-- What Room answers. -/
def roomE (n : Nat) (s : Int) : Int := if s < 0 then 7 else if 8388608 - (n : Int) < s then 3 else 0

set_option maxHeartbeats 400000 in
theorem has_any {w : World} {F : Nat → Prop} {p : Nat} {C : List (BitVec 64)} {E : List Ev} (h : Ar w F p C E) (x k : Int) :
    Calls Try.prog 45 #[.pointer (some ⟨p, 0, none⟩), .int .i64 x, .int .i64 k] w fun e w' => e = .returned (.int .i64 (hasE C.length x k)) ∧ w = w' := by
  have hn := none_ok h
  have h2 := h.n2
  obtain ⟨cb, pv, ps, rg, hpl, h⟩ := h
  have c2 := h.top.cell 2
  simp only [List.getElem?_toArray, List.getElem?_cons_succ, List.getElem?_cons_zero] at c2
  clear h
  have HN := Lib.hid hn
  clear hn
  generalize C.length = n at *
  by_cases h1 : x < 0
  · go_enter Try.func45, Try.ntmps45
    go_wp2_with (go_at_call 54; refine HN.out.mono ?_; rintro e w' ⟨rfl, rfl⟩)
    go_ret
    exact ⟨ret_int (by unfold hasE; rw [if_pos (by omega)]), rfl⟩
  by_cases h3 : (n : Int) < x
  · go_enter Try.func45, Try.ntmps45
    go_wp2_with (go_at_call 54; refine HN.out.mono ?_; rintro e w' ⟨rfl, rfl⟩)
    go_ret
    exact ⟨ret_int (by unfold hasE; rw [if_pos (by omega)]), rfl⟩
  by_cases h4 : k < 0
  · go_enter Try.func45, Try.ntmps45
    go_wp2_with (go_at_call 54; refine HN.out.mono ?_; rintro e w' ⟨rfl, rfl⟩)
    go_ret
    exact ⟨ret_int (by unfold hasE; rw [if_pos (by omega)]), rfl⟩
  by_cases h5 : (n : Int) - x < k
  · go_enter Try.func45, Try.ntmps45
    go_wp2_with (go_at_call 54; refine HN.out.mono ?_; rintro e w' ⟨rfl, rfl⟩)
    go_ret
    exact ⟨ret_int (by unfold hasE; rw [if_pos (by omega)]), rfl⟩
  · go_enter Try.func45, Try.ntmps45
    go_wp2_with (go_at_call 54; refine HN.out.mono ?_; rintro e w' ⟨rfl, rfl⟩)
    go_ret
    exact ⟨ret_int (by unfold hasE; rw [if_neg (by omega)]), rfl⟩
theorem has_nil (w : World) (x k : Int) :
    Calls Try.prog 45 #[.pointer none, .int .i64 x, .int .i64 k] w fun e w' => e = .returned (.int .i64 1) ∧ w = w' := by
  go_enter Try.func45, Try.ntmps45
  go_wp2_with (go_at_call 54; refine (none_nil _).mono ?_; rintro e w' ⟨rfl, rfl⟩)
  go_ret
  exact ⟨rfl, rfl⟩

set_option maxHeartbeats 400000 in
theorem room_any {w : World} {F : Nat → Prop} {p : Nat} {C : List (BitVec 64)} {E : List Ev} (h : Ar w F p C E) (s : Int) :
    Calls Try.prog 46 #[.pointer (some ⟨p, 0, none⟩), .int .i64 s] w fun e w' => e = .returned (.int .i64 (roomE E.length s)) ∧ w = w' := by
  have hn := none_ok h
  have h2 := h.e2
  obtain ⟨cb, pv, ps, rg, hpl, h⟩ := h
  have c1 := h.top.cell 1
  simp only [List.getElem?_toArray, List.getElem?_cons_succ, List.getElem?_cons_zero] at c1
  clear h
  have HN := Lib.hid hn
  clear hn
  generalize E.length = n at *
  by_cases h1 : s < 0
  · go_enter Try.func46, Try.ntmps46
    go_wp2_with (go_at_call 54; refine HN.out.mono ?_; rintro e w' ⟨rfl, rfl⟩)
    go_ret
    exact ⟨ret_int (by unfold roomE; rw [if_pos (by omega)]), rfl⟩
  by_cases h3 : 8388608 - (n : Int) < s
  · go_enter Try.func46, Try.ntmps46
    go_wp2_with (go_at_call 54; refine HN.out.mono ?_; rintro e w' ⟨rfl, rfl⟩)
    go_ret
    exact ⟨ret_int (by unfold roomE; rw [if_neg (by omega), if_pos (by omega)]), rfl⟩
  · go_enter Try.func46, Try.ntmps46
    go_wp2_with (go_at_call 54; refine HN.out.mono ?_; rintro e w' ⟨rfl, rfl⟩)
    go_ret
    exact ⟨ret_int (by unfold roomE; rw [if_neg (by omega), if_neg (by omega)]), rfl⟩
theorem room_nil (w : World) (s : Int) :
    Calls Try.prog 46 #[.pointer none, .int .i64 s] w fun e w' => e = .returned (.int .i64 1) ∧ w = w' := by
  go_enter Try.func46, Try.ntmps46
  go_wp2_with (go_at_call 54; refine (none_nil _).mono ?_; rintro e w' ⟨rfl, rfl⟩)
  go_ret
  exact ⟨rfl, rfl⟩
theorem steps_any {w : World} {F : Nat → Prop} {p : Nat} {C : List (BitVec 64)} {E : List Ev} (h : Ar w F p C E) :
    Calls Try.prog 31 #[.pointer (some ⟨p, 0, none⟩)] w fun e w' => e = .returned (.int .i64 (E.length : Int)) ∧ w = w' := by
  have hn := none_ok h
  obtain ⟨cb, pv, ps, rg, hpl, h⟩ := h
  have c1 := h.top.cell 1
  simp only [List.getElem?_toArray, List.getElem?_cons_succ, List.getElem?_cons_zero] at c1
  clear h
  have HN := Lib.hid hn
  clear hn
  go_enter Try.func31, Try.ntmps31
  go_wp2_with (go_at_call 54; refine HN.out.mono ?_; rintro e w' ⟨rfl, rfl⟩)
  go_ret
  exact ⟨rfl, rfl⟩

theorem made_blk {w0 : World} {g n : Nat} (hown0 : w0.ownsRow g 39 1 (.slice (some ⟨g, 0, none⟩) n n) n (madeCells (Value.int .u64 0).cells (n * 1)).toList) : Blk w0 g 39 (u64s (List.replicate n 0)).toArray := by
  rcases hown0.2 with ⟨hx, _⟩ | ⟨g, cap, cur, hv, _, hh, _, _, hcs, ht⟩
  · cases hx
  · injection hv with hv1 _ hv3
    injection hv1 with hv1
    injection hv1 with hv1
    subst hv1 hv3
    have hcs2 : cur.toList.take (n * 1) = cur.toList := List.take_of_length_le (by simp [hcs])
    rw [hcs2, Nat.mul_one] at ht
    unfold Blk
    rw [hh]
    congr 2
    apply Array.toList_inj.1
    rw [ht]
    show (madeCells #[.int .u64 0] n).toList = _
    rw [toList_madeCells_one]
    simp [u64s, n64]
theorem Try.infoU : (Try.prog.info? 39).map (fun i => (i.zero, i.size, i.bytes)) = some (some (.int .u64 0), 1, 8) := by kernel_rfl
set_option maxHeartbeats 400000 in
theorem new_ok (n : Nat) (w : World) (h1 : 1 ≤ n) (h2 : n ≤ 65536) :
    Calls Try.prog 21 #[.int .i64 n] w fun e w' => ∃ p, e = .returned (.tuple #[.pointer (some ⟨p, 0, none⟩), .int .i64 0]) ∧ ∃ F, Ar w' F p (List.replicate n 0) [] ∧ Off Nob w w' ∧ ∀ k, F k → w.heap.size ≤ k := by
  obtain ⟨i0, hi, hz0, hz1, hz2⟩ := info_parts Try.infoU
  go_enter Try.func21, Try.ntmps21
  go_wp2_with (at_make; refine wpList_make_full _ rfl _ _ 58 rfl w.heap.size 39 i0 (.int .u64 0) 1 Try.underlying58 hi hz0 hz1 .i64 .i64 _ _ n rfl rfl rfl rfl (by rw [hz2]; omega) (by unfold maxLen; omega) (Nat.le_refl _) ?_; intro w0 hown0 hgrow0)
  go_ret2
  have ho := made_blk hown0
  refine ⟨_, rfl, fun k => w.heap.size ≤ k ∧ k < w0.heap.size + 1, ⟨w.heap.size, .slice none 0 0, [], .slice none 0 0, rfl, ?_⟩, ?_, fun k hk => hk.1⟩
  · have hlt := ho.lt
    refine { top := ?_, cel := ho.alloc _, own := World.ownsRow_nil _ _ _ _, n1 := by simp; omega, n2 := by simp; omega, e2 := by simp, ev := fun e he => (by cases he), pg := fun i hi => absurd hi (by simp), nd := List.nodup_nil, fp := ?_, fc := ?_, fo := ?_, fg := ?_, fl := ?_ }
    · have := Blk.new w0 89 #[.slice none 0 0, .int .i64 0, .slice (some ⟨w.heap.size, 0, none⟩) n n, .slice none 0 0, .func (.func 42) #[.pointer (some ⟨w0.heap.size, 0, none⟩)] #[]]
      simpa using this
    · exact ⟨by omega, by omega⟩
    · exact ⟨by omega, by omega⟩
    · intro g hg; cases hg
    · intro b hb; cases hb
    · intro k hk; simpa using hk.2
  · exact Off.alloc (Off.grown (Off.refl _ _) hgrow0 (fun k hk => by cases hk)) _

section
variable {w : World} {F : Nat → Prop} {p : Nat} {C : List (BitVec 64)} {E : List Ev}
theorem has_ok (h : Ar w F p C E) (x k : Int) (h0 : 0 ≤ x) (h1 : 0 ≤ k) (h2 : x + k ≤ C.length) :
    Calls Try.prog 45 #[.pointer (some ⟨p, 0, none⟩), .int .i64 x, .int .i64 k] w fun e w' => e = .returned (.int .i64 0) ∧ w = w' := by
  have := has_any h x k
  unfold hasE at this
  rwa [if_neg (by omega)] at this
theorem has_bad (h : Ar w F p C E) (x k : Int) (h0 : ¬ (0 ≤ x ∧ 0 ≤ k ∧ x + k ≤ C.length)) :
    Calls Try.prog 45 #[.pointer (some ⟨p, 0, none⟩), .int .i64 x, .int .i64 k] w fun e w' => e = .returned (.int .i64 7) ∧ w = w' := by
  have := has_any h x k
  unfold hasE at this
  rwa [if_pos (by omega)] at this
theorem room_ok (h : Ar w F p C E) (s : Int) (h0 : 0 ≤ s) (h1 : E.length + s ≤ 8388608) :
    Calls Try.prog 46 #[.pointer (some ⟨p, 0, none⟩), .int .i64 s] w fun e w' => e = .returned (.int .i64 0) ∧ w = w' := by
  have := room_any h s
  unfold roomE at this
  rwa [if_neg (by omega), if_neg (by omega)] at this
theorem room_long (h : Ar w F p C E) (s : Int) (h0 : 0 ≤ s) (h1 : 8388608 < E.length + s) :
    Calls Try.prog 46 #[.pointer (some ⟨p, 0, none⟩), .int .i64 s] w fun e w' => e = .returned (.int .i64 3) ∧ w = w' := by
  have := room_any h s
  unfold roomE at this
  rwa [if_neg (by omega), if_pos (by omega)] at this
end
end Go.Proofs.Ytlefjlclhmapaaa
