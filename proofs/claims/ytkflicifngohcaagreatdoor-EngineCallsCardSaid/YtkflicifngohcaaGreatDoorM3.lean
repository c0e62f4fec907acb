/-
 The arena of package arena as memory holds it: its cells and its steps; what asks about it (none, Has, Room, Steps) and what makes it (New).
-/
import Derived.Test.YtkflicifngohcaaGreatDoorRows
import Derived.Test.YtkflicifngohcaaGreatDoorM2
import Derived.Test.YtkflicifngohcaaGreatDoorM1
import Derived.Laws.EntriesVeiled
import Derived.Outline
import Derived.BigQuiet
set_option linter.unusedVariables false
set_option linter.unusedSimpArgs false
namespace Go.Proofs.YtkflicifngohcaaGreatDoor
open Go.RowKit
abbrev Ev := Nat × Nat
def enc (e : Ev) : Nat := e.2 * 4 + e.1
def u64s (C : List (BitVec 64)) : List Value := C.map fun x => .int .u64 (n64 x)
def pageOf (E : List Ev) (i : Nat) : List Value := (List.range 4096).map fun j => .int .u32 (enc (E.getD (4096 * i + j) (0, 0)) : Nat)
def ptrs (ps : List Nat) : List Value := ps.map fun b => .pointer (some ⟨b, 0, none⟩)
theorem length_u64s (C : List (BitVec 64)) : (u64s C).length = C.length := by simp [u64s]
def cl (C : List (BitVec 64)) (i : Nat) : BitVec 64 := C.getD i 0
theorem getElem_u64s (C : List (BitVec 64)) (i : Nat) (h : i < C.length) : (u64s C)[i]? = some (.int .u64 (n64 (cl C i))) := by simp [u64s, h, cl]
structure ArAt (w : World) (F : Nat → Prop) (p : Nat) (C : List (BitVec 64)) (E : List Ev) (cb : Nat) (pv : Value) (ps : List Nat) (rg : Value) : Prop where
 top : Blk w p 91 #[pv, .int .i64 (E.length : Int), .slice (some ⟨cb, 0, none⟩) C.length C.length, rg, .func (.func 39) #[.pointer (some ⟨p, 0, none⟩)] #[]]
 cel : Blk w cb 41 (u64s C).toArray
 own : w.ownsRow 0 183 1 pv ps.length (ptrs ps)
 n1 : 1 ≤ C.length
 n2 : C.length ≤ 65536
 e2 : E.length ≤ 8388608
 ev : ∀ e ∈ E, e.1 < 4 ∧ e.2 < 65536
 pg : ∀ i, i < ps.length → Blk w (ps.getD i 0) 235 (pageOf E i).toArray
 nd : ps.Nodup
 fp : F p
 fc : F cb
 fo : ∀ g, pv.ownBlock = some g → F g
 fg : ∀ b ∈ ps, F b
 fl : ∀ k, F k → k < w.heap.size
def Ar (w : World) (F : Nat → Prop) (p : Nat) (C : List (BitVec 64)) (E : List Ev) : Prop := ∃ cb pv ps rg, ps.length = (E.length + 4095) / 4096 ∧ ArAt w F p C E cb pv ps rg
def ArTo (w : World) (F : Nat → Prop) (p : Nat) (C : List (BitVec 64)) (E : List Ev) (w' : World) : Prop := Ar w' (Grow F w w') p C E ∧ Off F w w'
section
variable {w w' w1 w2 : World} {F G : Nat → Prop} {p : Nat} {C C1 C2 : List (BitVec 64)} {E E1 E2 : List Ev} {cb : Nat} {pv : Value} {ps : List Nat} {rg : Value}
theorem own_to {base : Nat} {e : TypeId} {size n : Nat} {v : Value} {xs : List Value} (h : w.ownsRow base e size v n xs) (hb : ∀ g, v.ownBlock = some g → w'.heap[g]? = w.heap[g]?) : w'.ownsRow base e size v n xs := by
 refine ⟨h.1, ?_⟩
 rcases h.2 with hn | ⟨g, cap, cur, rfl, hb1, hgg, rest⟩
 ·exact .inl hn
 ·exact .inr ⟨g, cap, cur, rfl, hb1, (hb g rfl).trans hgg, rest⟩
theorem getD_mem {ps : List Nat} {i : Nat} (hi : i < ps.length) : ps.getD i 0 ∈ ps := by simp [hi]
theorem ArAt.to (h : ArAt w F p C E cb pv ps rg) (hs : w.heap.size ≤ w'.heap.size) (hb : ∀ k, F k → w'.heap[k]? = w.heap[k]?) : ArAt w' F p C E cb pv ps rg :=
 { h with
  top := h.top.to (hb _ h.fp)
  cel := h.cel.to (hb _ h.fc)
  own := own_to h.own fun g hg => hb _ (h.fo g hg)
  pg := fun i hi => (h.pg i hi).to (hb _ (h.fg _ (getD_mem hi)))
  fl := fun k hk => Nat.lt_of_lt_of_le (h.fl k hk) hs }
theorem ArAt.mono (h : ArAt w F p C E cb pv ps rg) (hs : ∀ k, F k → G k) (hl : ∀ k, G k → k < w.heap.size) : ArAt w G p C E cb pv ps rg :=
 { h with fp := hs _ h.fp, fc := hs _ h.fc, fo := fun g hg => hs _ (h.fo g hg), fg := fun b hb => hs _ (h.fg b hb), fl := hl }
theorem Ar.lt (h : Ar w F p C E) : ∀ k, F k → k < w.heap.size := by obtain ⟨_, _, _, _, _, h⟩ := h; exact h.fl
theorem Ar.n1 (h : Ar w F p C E) : 1 ≤ C.length := by obtain ⟨_, _, _, _, _, h⟩ := h; exact h.n1
theorem Ar.n2 (h : Ar w F p C E) : C.length ≤ 65536 := by obtain ⟨_, _, _, _, _, h⟩ := h; exact h.n2
theorem Ar.e2 (h : Ar w F p C E) : E.length ≤ 8388608 := by obtain ⟨_, _, _, _, _, h⟩ := h; exact h.e2
theorem Ar.keep (h : Ar w F p C E) (o : Off G w w') (hd : ∀ k, F k → ¬ G k) : Ar w' F p C E := by
 obtain ⟨cb, pv, ps, rg, hpl, h⟩ := h
 exact ⟨cb, pv, ps, rg, hpl, h.to o.size fun k hk => o.block k (h.fl k hk) (hd k hk)⟩
theorem Ar.mono (h : Ar w F p C E) (hs : ∀ k, F k → G k) (hl : ∀ k, G k → k < w.heap.size) : Ar w G p C E := by
 obtain ⟨cb, pv, ps, rg, hpl, h⟩ := h
 exact ⟨cb, pv, ps, rg, hpl, h.mono hs hl⟩
theorem Ar.drew (h : Ar w F p C E) : Ar w.drew F p C E := h.keep (Off.drew (Off.refl Nob w)) (fun _ _ hn => hn)
theorem ArTo.refl (h : Ar w F p C E) : ArTo w F p C E w := ⟨h.mono (fun _ hk => .inl hk) (Grow.lt h.lt (Nat.le_refl _)), Off.refl _ _⟩
theorem ArTo.trans (h : ArTo w F p C1 E1 w1) (k : ArTo w1 (Grow F w w1) p C2 E2 w2) : ArTo w F p C2 E2 w2 := by
 have hj := Grow.join (F := F) h.2.size k.2.size
 have ho := h.2.trans k.2
 obtain ⟨cb, pv, ps, rg, hpl, h3⟩ := k.1
 obtain ⟨_, _, _, _, _, h4⟩ := h.1
 refine ⟨⟨cb, pv, ps, rg, hpl, h3.mono hj ?_⟩, ho⟩
 intro i hi
 rcases hi with hi | hi
 ·exact Nat.lt_of_lt_of_le (h4.fl i (.inl hi)) k.2.size
 ·exact hi.2
end
theorem Off.own {F : Nat → Prop} {w w1 w2 : World} (h : Off Nob w w1) (k : Off F w1 w2) (hf : ∀ k, F k → w.heap.size ≤ k) : Off Nob w w2 :=
 ⟨k.os.trans h.os, k.tape.trans h.tape, k.output.trans h.output, Nat.le_trans h.size k.size, fun i hi hn =>
  (k.block i (Nat.lt_of_lt_of_le hi h.size) (fun hg => by have := hf i hg; omega)).trans (h.block i hi hn)⟩
set_option maxRecDepth 100000
theorem run_find_nil (p : Nat) (w : World) : (binOp .eql 89 (.func (.func 39) #[.pointer (some ⟨p, 0, none⟩)] #[]) .nilFunc).run Tryz.prog w = .ok (.bool false) w := by kernel_rfl
theorem none_ok {w : World} {F : Nat → Prop} {p : Nat} {C : List (BitVec 64)} {E : List Ev} (h : Ar w F p C E) :
  Calls Tryz.prog 56 #[.pointer (some ⟨p, 0, none⟩)] w fun e w' => e = .returned (.bool false) ∧ w = w' := by
 obtain ⟨cb, pv, ps, rg, hpl, h⟩ := h
 have c4 := h.top.cell 4
 simp only [List.getElem?_toArray, List.getElem?_cons_succ, List.getElem?_cons_zero] at c4
 clear h
 have hq := run_find_nil p
 go_enter Tryz.func56, Tryz.ntmps56
 go_wp2
 go_ret
 exact ⟨rfl, rfl⟩
def hasE (n : Nat) (x k : Int) : Int := if x < 0 ∨ (n : Int) < x ∨ k < 0 ∨ (n : Int) - x < k then 7 else 0
def roomE (n : Nat) (s : Int) : Int := if s < 0 then 7 else if 8388608 - (n : Int) < s then 3 else 0
set_option maxHeartbeats 400000 in
theorem has_any {w : World} {F : Nat → Prop} {p : Nat} {C : List (BitVec 64)} {E : List Ev} (h : Ar w F p C E) (x k : Int) :
  Calls Tryz.prog 87 #[.pointer (some ⟨p, 0, none⟩), .int .i64 x, .int .i64 k] w fun e w' => e = .returned (.int .i64 (hasE C.length x k)) ∧ w = w' := by
 have hn := none_ok h
 have h2 := h.n2
 obtain ⟨cb, pv, ps, rg, hpl, h⟩ := h
 have c2 := h.top.cell 2
 simp only [List.getElem?_toArray, List.getElem?_cons_succ, List.getElem?_cons_zero] at c2
 clear h
 have HN := hID hn
 clear hn
 generalize C.length = n at *
 by_cases h1 : x < 0
 ·go_enter Tryz.func87, Tryz.ntmps87
  go_wp2_with (go_at_call 56; refine HN.out.mono ?_; rintro e w' ⟨rfl, rfl⟩)
  go_ret
  exact ⟨ret_int (by unfold hasE; rw [if_pos (by omega)]), rfl⟩
 by_cases h3 : (n : Int) < x
 ·go_enter Tryz.func87, Tryz.ntmps87
  go_wp2_with (go_at_call 56; refine HN.out.mono ?_; rintro e w' ⟨rfl, rfl⟩)
  go_ret
  exact ⟨ret_int (by unfold hasE; rw [if_pos (by omega)]), rfl⟩
 by_cases h4 : k < 0
 ·go_enter Tryz.func87, Tryz.ntmps87
  go_wp2_with (go_at_call 56; refine HN.out.mono ?_; rintro e w' ⟨rfl, rfl⟩)
  go_ret
  exact ⟨ret_int (by unfold hasE; rw [if_pos (by omega)]), rfl⟩
 by_cases h5 : (n : Int) - x < k
 ·go_enter Tryz.func87, Tryz.ntmps87
  go_wp2_with (go_at_call 56; refine HN.out.mono ?_; rintro e w' ⟨rfl, rfl⟩)
  go_ret
  exact ⟨ret_int (by unfold hasE; rw [if_pos (by omega)]), rfl⟩
 ·go_enter Tryz.func87, Tryz.ntmps87
  go_wp2_with (go_at_call 56; refine HN.out.mono ?_; rintro e w' ⟨rfl, rfl⟩)
  go_ret
  exact ⟨ret_int (by unfold hasE; rw [if_neg (by omega)]), rfl⟩
set_option maxHeartbeats 400000 in
theorem room_any {w : World} {F : Nat → Prop} {p : Nat} {C : List (BitVec 64)} {E : List Ev} (h : Ar w F p C E) (s : Int) :
  Calls Tryz.prog 90 #[.pointer (some ⟨p, 0, none⟩), .int .i64 s] w fun e w' => e = .returned (.int .i64 (roomE E.length s)) ∧ w = w' := by
 have hn := none_ok h
 have h2 := h.e2
 obtain ⟨cb, pv, ps, rg, hpl, h⟩ := h
 have c1 := h.top.cell 1
 simp only [List.getElem?_toArray, List.getElem?_cons_succ, List.getElem?_cons_zero] at c1
 clear h
 have HN := hID hn
 clear hn
 generalize E.length = n at *
 by_cases h1 : s < 0
 ·go_enter Tryz.func90, Tryz.ntmps90
  go_wp2_with (go_at_call 56; refine HN.out.mono ?_; rintro e w' ⟨rfl, rfl⟩)
  go_ret
  exact ⟨ret_int (by unfold roomE; rw [if_pos (by omega)]), rfl⟩
 by_cases h3 : 8388608 - (n : Int) < s
 ·go_enter Tryz.func90, Tryz.ntmps90
  go_wp2_with (go_at_call 56; refine HN.out.mono ?_; rintro e w' ⟨rfl, rfl⟩)
  go_ret
  exact ⟨ret_int (by unfold roomE; rw [if_neg (by omega), if_pos (by omega)]), rfl⟩
 ·go_enter Tryz.func90, Tryz.ntmps90
  go_wp2_with (go_at_call 56; refine HN.out.mono ?_; rintro e w' ⟨rfl, rfl⟩)
  go_ret
  exact ⟨ret_int (by unfold roomE; rw [if_neg (by omega), if_neg (by omega)]), rfl⟩
theorem steps_any {w : World} {F : Nat → Prop} {p : Nat} {C : List (BitVec 64)} {E : List Ev} (h : Ar w F p C E) :
  Calls Tryz.prog 32 #[.pointer (some ⟨p, 0, none⟩)] w fun e w' => e = .returned (.int .i64 (E.length : Int)) ∧ w = w' := by
 have hn := none_ok h
 obtain ⟨cb, pv, ps, rg, hpl, h⟩ := h
 have c1 := h.top.cell 1
 simp only [List.getElem?_toArray, List.getElem?_cons_succ, List.getElem?_cons_zero] at c1
 clear h
 have HN := hID hn
 clear hn
 go_enter Tryz.func32, Tryz.ntmps32
 go_wp2_with (go_at_call 56; refine HN.out.mono ?_; rintro e w' ⟨rfl, rfl⟩)
 go_ret
 exact ⟨rfl, rfl⟩
theorem made_blk {w0 : World} {g n : Nat} (hown0 : w0.ownsRow g 41 1 (.slice (some ⟨g, 0, none⟩) n n) n (madeCells (Value.int .u64 0).cells (n * 1)).toList) : Blk w0 g 41 (u64s (List.replicate n 0)).toArray := by
 rcases hown0.2 with ⟨hx, _⟩ | ⟨g, cap, cur, hv, _, hh, _, _, hcs, ht⟩
 ·cases hx
 ·injection hv with hv1 _ hv3
  injection hv1 with hv1
  injection hv1 with hv1
  subst hv1 hv3
  have hcs2 : cur.toList.take (n * 1) = cur.toList := List.take_of_length_le (by simp [hcs])
  rw [hcs2, Nat.mul_one] at ht
  unfold Blk
  rw [hh]
  congr 2
  apply Array.toList_inj.1
  rw [ht]
  show (madeCells #[.int .u64 0] n).toList = _
  rw [toList_madeCells_one]
  simp [u64s, n64]
theorem Tryz.infoU : (Tryz.prog.info? 41).map (fun i => (i.zero, i.size, i.bytes)) = some (some (.int .u64 0), 1, 8) := by kernel_rfl
set_option maxHeartbeats 400000 in
theorem new_ok (n : Nat) (w : World) (h1 : 1 ≤ n) (h2 : n ≤ 65536) :
  Calls Tryz.prog 14 #[.int .i64 n] w fun e w' => ∃ p, e = .returned (.tuple #[.pointer (some ⟨p, 0, none⟩), .int .i64 0]) ∧ ∃ F, Ar w' F p (List.replicate n 0) [] ∧ Off Nob w w' ∧ ∀ k, F k → w.heap.size ≤ k := by
 obtain ⟨i0, hi, hz0, hz1, hz2⟩ := info_parts Tryz.infoU
 go_enter Tryz.func14, Tryz.ntmps14
 go_wp2_with (at_make; refine wpList_make_full _ rfl _ _ 23 rfl w.heap.size 41 i0 (.int .u64 0) 1 Tryz.underlying23 hi hz0 hz1 .i64 .i64 _ _ n rfl rfl rfl rfl (by rw [hz2]; omega) (by unfold maxLen; omega) (Nat.le_refl _) ?_; intro w0 hown0 hgrow0)
 go_ret2
 have ho := made_blk hown0
 refine ⟨_, rfl, fun k => w.heap.size ≤ k ∧ k < w0.heap.size + 1, ⟨w.heap.size, .slice none 0 0, [], .slice none 0 0, rfl, ?_⟩, ?_, fun k hk => hk.1⟩
 ·have hlt := ho.lt
  refine { top := ?_, cel := ho.alloc _, own := World.ownsRow_nil _ _ _ _, n1 := by simp; omega, n2 := by simp; omega, e2 := by simp, ev := fun e he => (by cases he), pg := fun i hi => absurd hi (by simp), nd := List.nodup_nil, fp := ?_, fc := ?_, fo := ?_, fg := ?_, fl := ?_ }
  ·have := Blk.new w0 91 #[.slice none 0 0, .int .i64 0, .slice (some ⟨w.heap.size, 0, none⟩) n n, .slice none 0 0, .func (.func 39) #[.pointer (some ⟨w0.heap.size, 0, none⟩)] #[]]
   simpa using this
  ·exact ⟨by omega, by omega⟩
  ·exact ⟨by omega, by omega⟩
  ·intro g hg; cases hg
  ·intro b hb; cases hb
  ·intro k hk; simpa using hk.2
 ·exact Off.alloc (Off.grown (Off.refl _ _) hgrow0 (fun k hk => by cases hk)) _
section
variable {w : World} {F : Nat → Prop} {p : Nat} {C : List (BitVec 64)} {E : List Ev}
theorem has_ok (h : Ar w F p C E) (x k : Int) (h0 : 0 ≤ x) (h1 : 0 ≤ k) (h2 : x + k ≤ C.length) :
  Calls Tryz.prog 87 #[.pointer (some ⟨p, 0, none⟩), .int .i64 x, .int .i64 k] w fun e w' => e = .returned (.int .i64 0) ∧ w = w' := by
 have := has_any h x k
 unfold hasE at this
 rwa [if_neg (by omega)] at this
theorem room_ok (h : Ar w F p C E) (s : Int) (h0 : 0 ≤ s) (h1 : E.length + s ≤ 8388608) :
  Calls Tryz.prog 90 #[.pointer (some ⟨p, 0, none⟩), .int .i64 s] w fun e w' => e = .returned (.int .i64 0) ∧ w = w' := by
 have := room_any h s
 unfold roomE at this
 rwa [if_neg (by omega), if_neg (by omega)] at this
end
end Go.Proofs.YtkflicifngohcaaGreatDoor

namespace Go.Proofs.YtkflicifngohcaaGreatDoor
open Go.RowKit
set_option maxRecDepth 100000
def evs (E : List Ev) : List Value := E.flatMap fun e => [.int .i32 (e.1 : Int), .int .i32 (e.2 : Int)]
theorem length_evs (E : List Ev) : (evs E).length = E.length * 2 := by
 induction E with
 | nil => rfl
 | cons e E ih => simp [evs] at ih ⊢; omega
theorem evs_push (E : List Ev) (e : Ev) : evs (E ++ [e]) = evs E ++ [.int .i32 (e.1 : Int), .int .i32 (e.2 : Int)] := by simp [evs]
structure RfAt (w : World) (F : Nat → Prop) (r : Nat) (C : List (BitVec 64)) (E : List Ev) (cb : Nat) (ev rg : Value) : Prop where
 top : Blk w r 93 #[.slice (some ⟨cb, 0, none⟩) C.length C.length, rg, ev]
 cel : Blk w cb 41 (u64s C).toArray
 own : w.ownsRow 0 105 2 ev E.length (evs E)
 n1 : 1 ≤ C.length
 n2 : C.length ≤ 65536
 e2 : E.length ≤ 8388608
 fp : F r
 fc : F cb
 fo : ∀ g, ev.ownBlock = some g → F g
 fl : ∀ k, F k → k < w.heap.size
def Rf (w : World) (F : Nat → Prop) (r : Nat) (C : List (BitVec 64)) (E : List Ev) : Prop := ∃ cb ev rg, RfAt w F r C E cb ev rg
def RfTo (w : World) (F : Nat → Prop) (r : Nat) (C : List (BitVec 64)) (E : List Ev) (w' : World) : Prop := Rf w' (Grow F w w') r C E ∧ Off F w w'
section
variable {w w' w1 w2 : World} {F G : Nat → Prop} {r : Nat} {C C1 C2 : List (BitVec 64)} {E E1 E2 : List Ev} {cb : Nat} {ev rg : Value}
theorem RfAt.to (h : RfAt w F r C E cb ev rg) (hs : w.heap.size ≤ w'.heap.size) (hb : ∀ k, F k → w'.heap[k]? = w.heap[k]?) : RfAt w' F r C E cb ev rg :=
 { h with
  top := h.top.to (hb _ h.fp)
  cel := h.cel.to (hb _ h.fc)
  own := own_to h.own fun g hg => hb _ (h.fo g hg)
  fl := fun k hk => Nat.lt_of_lt_of_le (h.fl k hk) hs }
theorem RfAt.mono (h : RfAt w F r C E cb ev rg) (hs : ∀ k, F k → G k) (hl : ∀ k, G k → k < w.heap.size) : RfAt w G r C E cb ev rg :=
 { h with fp := hs _ h.fp, fc := hs _ h.fc, fo := fun g hg => hs _ (h.fo g hg), fl := hl }
theorem Rf.lt (h : Rf w F r C E) : ∀ k, F k → k < w.heap.size := by obtain ⟨_, _, _, h⟩ := h; exact h.fl
theorem Rf.n1 (h : Rf w F r C E) : 1 ≤ C.length := by obtain ⟨_, _, _, h⟩ := h; exact h.n1
theorem Rf.n2 (h : Rf w F r C E) : C.length ≤ 65536 := by obtain ⟨_, _, _, h⟩ := h; exact h.n2
theorem Rf.e2 (h : Rf w F r C E) : E.length ≤ 8388608 := by obtain ⟨_, _, _, h⟩ := h; exact h.e2
theorem Rf.keep (h : Rf w F r C E) (o : Off G w w') (hd : ∀ k, F k → ¬ G k) : Rf w' F r C E := by
 obtain ⟨cb, ev, rg, h⟩ := h
 exact ⟨cb, ev, rg, h.to o.size fun k hk => o.block k (h.fl k hk) (hd k hk)⟩
theorem Rf.mono (h : Rf w F r C E) (hs : ∀ k, F k → G k) (hl : ∀ k, G k → k < w.heap.size) : Rf w G r C E := by
 obtain ⟨cb, ev, rg, h⟩ := h
 exact ⟨cb, ev, rg, h.mono hs hl⟩
theorem RfTo.refl (h : Rf w F r C E) : RfTo w F r C E w := ⟨h.mono (fun _ hk => .inl hk) (Grow.lt h.lt (Nat.le_refl _)), Off.refl _ _⟩
theorem RfTo.trans (h : RfTo w F r C1 E1 w1) (k : RfTo w1 (Grow F w w1) r C2 E2 w2) : RfTo w F r C2 E2 w2 := by
 have hj := Grow.join (F := F) h.2.size k.2.size
 refine ⟨k.1.mono hj ?_, h.2.trans k.2⟩
 intro i hi
 rcases hi with hi | hi
 ·exact Nat.lt_of_lt_of_le (h.1.lt i (.inl hi)) k.2.size
 ·exact hi.2
theorem rnone_ok (h : Rf w F r C E) :
  Calls Tryz.prog 103 #[.pointer (some ⟨r, 0, none⟩)] w fun e w' => e = .returned (.bool false) ∧ w = w' := by
 have h1 := h.n1
 obtain ⟨cb, ev, rg, h⟩ := h
 have c0 := h.top.cell 0
 simp only [List.getElem?_toArray, List.getElem?_cons_zero] at c0
 have hz : ((C.length : Int) == 0) = false := by rw [beq_eq_false_iff_ne]; omega
 clear h
 go_enter Tryz.func103, Tryz.ntmps103
 go_wp2
 go_ret
 exact ⟨rfl, rfl⟩
theorem RfAt.form (h : RfAt w F r C E cb ev rg) : ∃ A c, ev = .slice A E.length c := by
 rcases h.own.2 with ⟨rfl, h0⟩ | ⟨g, cap, cur, rfl, _⟩
 ·exact ⟨none, 0, by rw [h0]⟩
 ·exact ⟨_, cap, rfl⟩
theorem RfAt.push {w1 : World} {v' o1 o2 : Value} {to : TypeId} (h : RfAt w F r C E cb ev rg) (he : E.length < 8388608) (e : Ev)
  (hg : (w.alloc (.cells #[o1, o2] to)).grownBy w1 ev.ownBlock)
  (hown : w1.ownsRow 0 105 2 v' (E.length + 1) (evs E ++ [.int .i32 (e.1 : Int), .int .i32 (e.2 : Int)]))
  (hat : v'.ownBlock = ev.ownBlock ∨ v'.ownBlock = some (w.heap.size + 1)) :
  RfTo w F r C (E ++ [e]) (w1.setCell ⟨r, 2, none⟩ v') := by
 have hs : w.heap.size + 1 ≤ w1.heap.size := by have := hg.size; simp at this; omega
 have ho : Off F w w1 := Off.grown (Off.alloc (Off.refl _ _) _) hg (fun k hk => .inl (h.fo k hk))
 have hold : ∀ k, k < w.heap.size → ev.ownBlock ≠ some k → w1.heap[k]? = w.heap[k]? := fun k hk hn => by
  rw [hg.block k (by simp; omega) (Ne.symm hn), Below.heap_alloc _ _ _ hk]
 have hdt : Blk w1 r 93 #[.slice (some ⟨cb, 0, none⟩) C.length C.length, rg, ev] :=
  h.top.to (hold _ h.top.lt (own_diff h.own h.top (by decide)))
 refine ⟨⟨cb, v', rg, ?_⟩, ho.put (.inl h.fp) _⟩
 refine { h with top := ?_, cel := ?_, own := ?_, e2 := ?_, fp := .inl h.fp, fc := .inl h.fc, fo := ?_, fl := ?_ }
 ·exact hdt.put 2 v'
 ·exact (h.cel.to (hold _ h.cel.lt (own_diff h.own h.cel (by decide)))).far (p := ⟨r, 2, none⟩) (h.cel.diff h.top (by decide)) _
 ·have hw : (w1.setCell ⟨r, 2, none⟩ v').ownsRow 0 105 2 v' (E.length + 1) (evs E ++ [.int .i32 (e.1 : Int), .int .i32 (e.2 : Int)]) := by
   refine own_to hown fun g hgo => Below.heap_setCell _ ⟨r, 2, none⟩ _ _ (fun e => ?_)
   subst e
   exact own_diff hown hdt (by decide) hgo
  rw [evs_push, List.length_append]
  exact hw
 ·rw [List.length_append]; show E.length + 1 ≤ _; omega
 ·intro g hg2
  rcases hat with e | e
  ·exact .inl (h.fo g (e ▸ hg2))
  ·rw [e] at hg2
   injection hg2 with hg2
   subst hg2
   refine .inr ⟨by omega, ?_⟩
   have := (hown.lt _ e).2
   simpa using this
 ·intro k hk
  have := Grow.lt h.fl (w' := w1.setCell ⟨r, 2, none⟩ v') (by simp; omega) k hk
  exact this
end
theorem Tryz.infoEv : (Tryz.prog.info? 105).map (fun i => (i.zero, i.size, i.bytes)) = some (some (.agg #[.int .i32 0, .int .i32 0]), 2, 8) := by kernel_rfl
theorem cell_two_new' (w : World) (x y : Value) (t : TypeId) : ∀ j u, [x, y][j]? = some u → (w.alloc (.cells #[x, y] t)).cell? ((⟨w.heap.size, 0, none⟩ : Addr).add j) = some u := by
 intro j u hj
 match j, hj with
 | 0, hj => simp at hj; subst hj; simp [Addr.add]
 | 1, hj => simp at hj; subst hj; simp [Addr.add]
section
variable {w : World} {F : Nat → Prop} {r : Nat} {C : List (BitVec 64)} {E : List Ev}
set_option maxHeartbeats 400000 in
theorem rstep_ok (h : Rf w F r C E) (k : Nat) (hk : k < 4) (x : Int) (h0 : 0 ≤ x) (h1 : x < C.length) (he : E.length < 8388608) :
  Calls Tryz.prog 100 #[.pointer (some ⟨r, 0, none⟩), .int .i64 k, .int .i64 x] w fun e w' => e = .returned (.int .i64 0) ∧ RfTo w F r C (E ++ [(k, x.toNat)]) w' := by
 obtain ⟨x, rfl⟩ := Int.eq_ofNat_of_zero_le h0
 have h2 := h.n2
 have HN := hID (rnone_ok h)
 obtain ⟨i0, hi, hz0, hz1, hz2⟩ := info_parts Tryz.infoEv
 obtain ⟨cb, ev, rg, h⟩ := h
 have H := hID h
 obtain ⟨A, c, hev⟩ := h.form
 subst hev
 have hlt := h.top.lt
 have hnp : (Value.slice A E.length c).ownBlock ≠ some r := own_diff h.own h.top (by decide)
 have c0 := h.top.cell 0
 have c2 := h.top.cell 2
 have f2 := h.top.frozen 2
 simp only [List.getElem?_toArray, List.getElem?_cons_succ, List.getElem?_cons_zero] at c0 c2
 have hx : ¬ (C.length : Int) ≤ x := by omega
 have HE := hID he
 have hd : decide ((8388608 : Int) ≤ (E.length : Int)) = false := by simp; omega
 clear h he
 go_enter Tryz.func100, Tryz.ntmps100
 go_wp2_with (first
  | (go_at_call 103; refine HN.out.mono ?_; rintro e w' ⟨rfl, rfl⟩)
  | (at_builtin; refine wpList_append_own_at _ rfl _ _ 76 rfl 0 105 i0 (.agg #[.int .i32 0, .int .i32 0]) 2 8 Tryz.underlying76 hi hz0 hz1 hz2 rfl (by decide) (.slice A E.length c) E.length (evs E) rfl (H.out.own.alloc _) ⟨w.heap.size, 0, none⟩ 1 1 [.int .i32 (k : Int), .int .i32 (x : Int)] rfl rfl ?c1 ?c2 ?c3 ?c4 ?c5 ?_))
 case c1 => exact cell_two_new' _ _ _ _
 case c2 => intro u hu; simp at hu; rcases hu with rfl | rfl <;> rfl
 case c3 => have := HE.out; unfold maxLen; omega
 case c4 => have := HE.out; omega
 case c5 => omega
 intro v' w1 hown' hgrow hnil hat
 clear hnil
 have c2' : w1.cell? ⟨r, 2, none⟩ = some (.slice A E.length c) := hgrow.cell (a := ⟨r, 2, none⟩) (by simp [World.cell?_alloc_lt, hlt, c2]) (Ne.symm hnp)
 have f2' : w1.frozen? ⟨r, 2, none⟩ = false := by
  have := World.frozen?_of_block (a := ⟨r, 2, none⟩) (hgrow.block r (by simp; omega) (Ne.symm hnp))
  rw [this, World.frozen?_alloc_old _ _ _ (by simp; omega)]
  exact f2
 have HP := hID (RfAt.push H.out HE.out (k, x) hgrow hown' (by simpa using hat))
 have hvf : ∃ B d, v' = .slice B (E.length + 1) d := by
  rcases hown'.2 with ⟨rfl, h0⟩ | ⟨g, cap, cur, rfl, _⟩
  ·omega
  ·exact ⟨_, cap, rfl⟩
 obtain ⟨B, d, rfl⟩ := hvf
 clear hown' hgrow hat c0 c2 f2 H hnp hi hz0 hz1 hz2
 go_wp2
 go_ret
 exact ⟨rfl, HP.out⟩
theorem Rf.stored (h : Rf w F r C E) (x : Nat) (v : BitVec 64) (hx : x < C.length) : ∃ cb, w.cell? ⟨r, 0, none⟩ = some (.slice (some ⟨cb, 0, none⟩) C.length C.length) ∧ w.cell? ⟨cb, x, none⟩ = some (.int .u64 (n64 (cl C x))) ∧ w.frozen? ⟨cb, x, none⟩ = false ∧
  Rf (w.setCell ⟨cb, x, none⟩ (.int .u64 (n64 v))) F r (C.set x v) E ∧ F cb := by
 obtain ⟨cb, ev, rg, h⟩ := h
 have cx := h.cel.cell x
 rw [List.getElem?_toArray, getElem_u64s _ _ hx] at cx
 refine ⟨cb, h.top.cell 0, cx, h.cel.frozen x, ⟨cb, ev, rg, ?_⟩, h.fc⟩
 have n1 : r ≠ cb := h.top.diff h.cel (by decide)
 refine { h with top := ?_, cel := ?_, own := ?_, n1 := ?_, n2 := ?_, fl := ?_ }
 ·rw [List.length_set]; exact h.top.far (p := ⟨cb, x, none⟩) n1 _
 ·have := h.cel.put x (.int .u64 (n64 v))
  have e1 : (u64s C).toArray.setIfInBounds x (.int .u64 (n64 v)) = (u64s (C.set x v)).toArray := by simp [u64s, List.map_set]
  rwa [e1] at this
 ·exact own_to h.own fun g hg => Below.heap_setCell _ ⟨cb, x, none⟩ _ _ (fun e => by subst e; exact own_diff h.own h.cel (by decide) hg)
 ·rw [List.length_set]; exact h.n1
 ·rw [List.length_set]; exact h.n2
 ·intro k hk; simpa using h.fl k hk
set_option maxHeartbeats 400000 in
theorem rstore_ok (h : Rf w F r C E) (x : Int) (v : BitVec 64) (h0 : 0 ≤ x) (h1 : x < C.length) (he : E.length < 8388608) :
  Calls Tryz.prog 60 #[.pointer (some ⟨r, 0, none⟩), .int .i64 x, .int .u64 (n64 v)] w fun e w' => e = .returned (.int .i64 0) ∧ RfTo w F r (C.set x.toNat v) (E ++ [(2, x.toNat)]) w' := by
 have HS := hID (rstep_ok h 2 (by decide) x h0 h1 he)
 obtain ⟨x, rfl⟩ := Int.eq_ofNat_of_zero_le h0
 go_enter Tryz.func60, Tryz.ntmps60
 go_wp2_with fail
 refine HS.out.mono ?_
 rintro e w1 ⟨rfl, hw⟩
 have hx : x < C.length := by omega
 obtain ⟨hw1, ho⟩ := hw
 obtain ⟨cb, c2, cx, fx, h3, hf⟩ := hw1.stored x v hx
 have H3 := hID h3
 have HO := hID ho
 have HF := hID hf
 clear h3 ho hf hw1
 go_wp2
 go_ret
 refine ⟨rfl, H3.out.mono (fun k hk => ?_) ?_, HO.out.trans (Off.put (Off.refl _ _) (.inl HF.out) _)⟩
 ·rcases hk with hk | hk
  ·exact .inl hk
  ·exact .inr ⟨hk.1, by simpa using hk.2⟩
 ·intro k hk
  rcases hk with hk | hk
  ·exact H3.out.lt k (.inl hk)
  ·exact hk.2
end
set_option maxHeartbeats 400000 in
theorem rnew_ok (n : Nat) (w : World) (h1 : 1 ≤ n) (h2 : n ≤ 65536) :
  Calls Tryz.prog 58 #[.int .i64 n] w fun e w' => ∃ p, e = .returned (.tuple #[.pointer (some ⟨p, 0, none⟩), .int .i64 0]) ∧ ∃ F, Rf w' F p (List.replicate n 0) [] ∧ Off Nob w w' ∧ ∀ k, F k → w.heap.size ≤ k := by
 obtain ⟨i0, hi, hz0, hz1, hz2⟩ := info_parts Tryz.infoU
 go_enter Tryz.func58, Tryz.ntmps58
 go_wp2_with (at_make; refine wpList_make_full _ rfl _ _ 23 rfl w.heap.size 41 i0 (.int .u64 0) 1 Tryz.underlying23 hi hz0 hz1 .i64 .i64 _ _ n rfl rfl rfl rfl (by rw [hz2]; omega) (by unfold maxLen; omega) (Nat.le_refl _) ?_; intro w0 hown0 hgrow0)
 go_ret2
 have ho := made_blk hown0
 refine ⟨_, rfl, fun k => w.heap.size ≤ k ∧ k < w0.heap.size + 1, ⟨w.heap.size, .slice none 0 0, .slice none 0 0, ?_⟩, ?_, fun k hk => hk.1⟩
 ·have hlt := ho.lt
  refine { top := ?_, cel := ho.alloc _, own := World.ownsRow_nil _ _ _ _, n1 := by simp; omega, n2 := by simp; omega, e2 := by simp, fp := ?_, fc := ?_, fo := ?_, fl := ?_ }
  ·have := Blk.new w0 93 #[.slice (some ⟨w.heap.size, 0, none⟩) n n, .slice none 0 0, .slice none 0 0]
   simpa using this
  ·exact ⟨by omega, by omega⟩
  ·exact ⟨by omega, by omega⟩
  ·intro g hg; cases hg
  ·intro k hk; simpa using hk.2
 ·exact Off.alloc (Off.grown (Off.refl _ _) hgrow0 (fun k hk => by cases hk)) _
end Go.Proofs.YtkflicifngohcaaGreatDoor

namespace Go.Proofs.YtkflicifngohcaaGreatDoor
open Go.RowKit
set_option maxRecDepth 100000
def NewU (w : World) (C : List (BitVec 64)) (e : Ending) (w' : World) : Prop := ∃ v, e = .returned v ∧ w'.ownsRow w.heap.size 41 1 v C.length (u64s C) ∧ Off Nob w w'
theorem NewU.rd {w w' : World} {C : List (BitVec 64)} {v : Value} (h : w'.ownsRow w.heap.size 41 1 v C.length (u64s C)) : Rd w' (fun k => w.heap.size ≤ k ∧ k < w'.heap.size) 1 v C.length (u64s C) := Rd.own h fun k hk => h.lt k hk
theorem u64s_one (C : List (BitVec 64)) : ∀ u ∈ u64s C, u.oneCell' = true := by
 intro u hu
 simp [u64s] at hu
 obtain ⟨x, _, rfl⟩ := hu
 rfl
set_option maxHeartbeats 400000 in
theorem clone_ok (w : World) (b o n c : Nat) (C : List (BitVec 64)) (hn : C.length = n) (hn1 : n ≤ 65536) (hb : b < w.heap.size)
  (hc : ∀ j u, (u64s C)[j]? = some u → w.cell? ⟨b, o + j, none⟩ = some u) :
  Calls Tryz.prog 57 #[.slice (some ⟨b, o, none⟩) n c] w (NewU w C) := by
 obtain ⟨i0, hi, hz0, hz1, hz2⟩ := info_parts Tryz.infoU
 have HC := hID hc
 have HL := hID hn
 clear hc hn
 have hq : ∀ w : World, (binOp .eql 23 (.slice (some ⟨b, o, none⟩) n c) (.slice none 0 0)).run Tryz.prog w = .ok (.bool false) w := fun _ => by kernel_rfl
 go_enter Tryz.func57, Tryz.ntmps57
 go_wp2_with (at_builtin; refine wpList_append_own_at _ rfl _ _ 23 rfl w.heap.size 41 i0 (.int .u64 0) 1 8 Tryz.underlying23 hi hz0 hz1 hz2 rfl (by decide) (.slice (some ⟨w.heap.size, 0, none⟩) 0 0) 0 [] rfl ?c0 ⟨b, o, none⟩ n c (u64s C) rfl ?c6 ?c1 ?c2 ?c3 ?c4 ?c5 ?_)
 case c0 => exact World.ownsRow_made w #[] 0 (Nat.le_refl _) (Nat.zero_le _) rfl
 case c6 => rw [length_u64s, HL.out]; omega
 case c1 => intro j u hu; rw [add_addr, World.cell?_alloc_lt _ _ _ hb]; exact HC.out j u hu
 case c2 => exact u64s_one C
 case c3 => unfold maxLen; omega
 case c4 => omega
 case c5 => simp
 intro v' w1 hown' hgrow hnil hat
 have HR : Hid (w1.ownsRow w.heap.size 41 1 v' C.length (u64s C)) := by
  rw [HL.out]; exact hown'
 have HO : Hid (Off Nob w w1) := Off.grown (Off.alloc (Off.refl _ _) _) hgrow (fun k hk => by simp [Value.ownBlock] at hk; right; omega)
 clear hown' hgrow hnil hat
 go_wp2
 go_ret
 exact ⟨_, rfl, HR.out, HO.out⟩
section
variable {w : World} {F : Nat → Prop} {p : Nat} {C : List (BitVec 64)} {E : List Ev}
theorem cells_ok (h : Ar w F p C E) : Calls Tryz.prog 20 #[.pointer (some ⟨p, 0, none⟩)] w (NewU w C) := by
 have HN := hID (none_ok h)
 have h2 := h.n2
 obtain ⟨cb, pv, ps, rg, hpl, h⟩ := h
 have HC := hID (clone_ok w cb 0 C.length C.length C rfl h2 h.cel.lt (fun j u hu => by rw [Nat.zero_add, h.cel.cell]; simpa using hu))
 have c2 := h.top.cell 2
 simp only [List.getElem?_toArray, List.getElem?_cons_succ, List.getElem?_cons_zero] at c2
 clear h hpl h2
 go_enter Tryz.func20, Tryz.ntmps20
 go_wp2_with fail
 refine HN.out.mono ?_
 rintro e w' ⟨rfl, rfl⟩
 go_wp2_with fail
 refine HC.out.mono ?_
 rintro e w' ⟨v, rfl, h1, h2⟩
 have H1 := hID h1
 have H2 := hID h2
 clear h1 h2
 go_wp2
 go_ret
 exact ⟨_, rfl, H1.out, H2.out⟩
end
def sameB (A B : List (BitVec 64)) : Bool := decide (A = B)
def BoolNew (b : Bool) (w : World) (e : Ending) (w' : World) : Prop := e = .returned (.bool b) ∧ Off Nob w w'
theorem eq_take_succ {A B : List (BitVec 64)} {k : Nat} (h : A.take k = B.take k) (ha : k < A.length) (hb : k < B.length) (hx : cl A k = cl B k) : A.take (k + 1) = B.take (k + 1) := by
 rw [List.take_succ_eq_append_getElem ha, List.take_succ_eq_append_getElem hb, h]
 simp [cl, List.getD, ha, hb] at hx
 rw [hx]
set_option maxHeartbeats 400000 in
theorem sameCells_some (w : World) (b o c b2 o2 c2 n : Nat) (A B : List (BitVec 64)) (ha : A.length = n) (hb : B.length = n) (hn : n ≤ maxLen)
  (hca : ∀ j u, (u64s A)[j]? = some u → w.cell? ⟨b, o + j, none⟩ = some u) (hcb : ∀ j u, (u64s B)[j]? = some u → w.cell? ⟨b2, o2 + j, none⟩ = some u) :
  Calls Tryz.prog 64 #[.slice (some ⟨b, o, none⟩) n c, .slice (some ⟨b2, o2, none⟩) n c2] w (BoolNew (sameB A B) w) := by
 have HA := hID ha
 have HB := hID hb
 have HCA := hID hca
 have HCB := hID hcb
 clear ha hb hca hcb
 unfold maxLen at hn
 go_enter Tryz.func64, Tryz.ntmps64
 go_wp2
 go_loopw [5] (fun i wr => ∃ k : Nat, k ≤ n ∧ i = .int .i64 k ∧ Off Nob w wr ∧ (∀ ad, wr.cell? ad = w.cell? ad) ∧ A.take k = B.take k) (fun i _ => n - (intOf i).toNat)
 case atStart => exact ⟨0, Nat.zero_le _, rfl, Off.refl _ _, fun _ => rfl, rfl⟩
 case round =>
  obtain ⟨k, hk, rfl, ho, hcl, htk⟩ := hrel
  have HO := hID ho
  have HT := hID htk
  have HX := hID hcl
  by_cases hlt : k < n
  ·have hka : k < A.length := by have := HA.out; omega
   have hkb : k < B.length := by have := HB.out; omega
   have hc1 : wr.cell? ⟨b, o + k, none⟩ = some (.int .u64 (n64 (cl A k))) := by rw [hcl]; exact HCA.out k _ (getElem_u64s _ _ hka)
   have hc2 : wr.cell? ⟨b2, o2 + k, none⟩ = some (.int .u64 (n64 (cl B k))) := by rw [hcl]; exact HCB.out k _ (getElem_u64s _ _ hkb)
   clear ho htk hcl
   by_cases hx : cl A k = cl B k
   ·have hq : (n64 (cl A k) == n64 (cl B k)) = true := by rw [hx]; simp
    have hq2 : (n64 (cl A k) != n64 (cl B k)) = false := by rw [hx]; simp
    have HQ := hID (eq_take_succ HT.out hka hkb hx)
    have HE := hID hx
    clear hx
    go_wp2
    go_quiet (fail)
    go_wp2
    go_roundw
    case rel => exact ⟨k + 1, by omega, by go_num, HO.out.drewN _, fun ad => HX.out ad, HQ.out⟩
    case measure => simp [intOf]; omega
   ·have hq2 : (n64 (cl A k) != n64 (cl B k)) = true := by rw [bne_iff_ne]; exact fun h => hx (n64_inj h)
    have HF : Hid (sameB A B = false) := by
     unfold sameB
     rw [decide_eq_false_iff_not]
     exact fun h => hx (by rw [h])
    clear hx
    go_wp2
    go_quiet (fail)
    go_wp2
    go_ret
    exact ⟨by rw [HF.out]; rfl, HO.out.drewN _⟩
  ·clear ho htk hcl
   have HF : Hid (sameB A B = true) := by
    unfold sameB
    rw [decide_eq_true_iff]
    have h1 := HT.out
    rwa [List.take_of_length_le (by have := HA.out; omega), List.take_of_length_le (by have := HB.out; omega)] at h1
   go_wp2
   go_ret
   exact ⟨by rw [HF.out]; rfl, HO.out⟩
theorem sameCells_len (w : World) (X Y : Option Addr) (n m c d : Nat) (h : n ≠ m) :
  Calls Tryz.prog 64 #[.slice X n c, .slice Y m d] w (BoolNew false w) := by
 have hq : ((n : Int) != (m : Int)) = true := by rw [bne_iff_ne]; omega
 go_enter Tryz.func64, Tryz.ntmps64
 go_wp2
 go_ret
 exact ⟨rfl, Off.refl _ _⟩
theorem sameCells_zero (w : World) (X Y : Option Addr) (c d : Nat) :
  Calls Tryz.prog 64 #[.slice X 0 c, .slice Y 0 d] w (BoolNew true w) := by
 go_enter Tryz.func64, Tryz.ntmps64
 go_wp2
 refine wp_loop_rounds 1 ?_
 rw [rounds_succ]
 go_wp2_with fail
 go_ret
 exact ⟨rfl, Off.refl _ _⟩
theorem sameCells_any {w : World} {F G : Nat → Prop} {v u : Value} {n m : Nat} {A B : List (BitVec 64)} (ha : Rd w F 1 v n (u64s A)) (hb : Rd w G 1 u m (u64s B)) :
  Calls Tryz.prog 64 #[v, u] w (BoolNew (sameB A B) w) := by
 obtain ⟨X, c, rfl, hm1, hl1, hc1⟩ := ha
 obtain ⟨Y, d, rfl, hm2, hl2, hc2⟩ := hb
 rw [length_u64s, Nat.mul_one] at hl1 hl2
 by_cases hnm : n = m
 ·subst hnm
  rcases Nat.eq_zero_or_pos n with h0 | h0
  ·subst h0
   have e1 : A = [] := List.eq_nil_of_length_eq_zero hl1
   have e2 : B = [] := List.eq_nil_of_length_eq_zero hl2
   subst e1 e2
   exact sameCells_zero w X Y c d
  ·obtain ⟨b, o, rfl, _, hb, hx⟩ := hc1 h0
   obtain ⟨b2, o2, rfl, _, hb2, hx2⟩ := hc2 h0
   exact sameCells_some w b o c b2 o2 d n A B hl1 hl2 hm1 hx hx2
 ·have : sameB A B = false := by
   unfold sameB
   rw [decide_eq_false_iff_not]
   intro h
   subst h
   omega
  rw [this]
  exact sameCells_len w X Y n m c d hnm
end Go.Proofs.YtkflicifngohcaaGreatDoor
