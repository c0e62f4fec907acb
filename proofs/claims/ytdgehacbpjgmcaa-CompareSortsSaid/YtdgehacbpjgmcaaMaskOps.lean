/-
  masks.check, swap, move, Swap, Move, Clear over an arena.
-/
import Derived.Test.YtdgehacbpjgmcaaMasks
import Derived.Test.YtdgehacbpjgmcaaLoad
namespace Go.Proofs.Ytdgehacbpjgmcaa
open Go.RowKit
attribute [local go_sem] bits_and_u64 bits_or_u64 bits_xor_u64 bits_andNot_u64 wrap_u64 bv_add bv_neg bv_sub bv_mul
set_option maxRecDepth 100000
/-- The first error of some rows. -/
def rowsE (nC : Nat) (n : Int) : List Int → Int
  | [] => 0
  | x :: r => if hasE nC x n = 0 then rowsE nC n r else hasE nC x n
/-- What check answers. -/
def ckE (nC nE : Nat) (m : BitVec 64) (n steps : Int) (rows : List Int) : Int :=
  if isM m = true then if rowsE nC n rows = 0 then roomE nE steps else rowsE nC n rows else 2
theorem rowsE_cons (nC : Nat) (n x : Int) (r : List Int) : rowsE nC n (x :: r) = if hasE nC x n = 0 then rowsE nC n r else hasE nC x n := rfl
theorem rowsE_drop (nC : Nat) (n : Int) (rows : List Int) (k : Nat) (hk : k < rows.length) (h : rowsE nC n rows = rowsE nC n (rows.drop k)) :
    (hasE nC (rows.getD k 0) n = 0 → rowsE nC n rows = rowsE nC n (rows.drop (k + 1))) ∧ (hasE nC (rows.getD k 0) n ≠ 0 → rowsE nC n rows = hasE nC (rows.getD k 0) n) := by
  rw [List.drop_eq_getElem_cons hk, rowsE_cons] at h
  have e1 : rows.getD k 0 = rows[k] := by simp [List.getD, hk]
  rw [e1]
  constructor
  · intro h0; rw [if_pos h0] at h; exact h
  · intro h0; rw [if_neg h0] at h; exact h

section
variable {w : World} {F : Nat → Prop} {p : Nat} {C : List (BitVec 64)} {E : List Ev}
set_option maxHeartbeats 1000000 in
theorem check_any (h : Ar w F p C E) (m : BitVec 64) (n steps : Int) (b k : Nat) (rows : List Int) (hl : rows.length = k) (hk : k ≤ 1000) (hc : ∀ j, j < k → w.cell? ⟨b, j, none⟩ = some (.int .i64 (rows.getD j 0))) :
    Calls Try.prog 86 #[.pointer (some ⟨p, 0, none⟩), .int .u64 (n64 m), .int .i64 n, .int .i64 steps, .slice (some ⟨b, 0, none⟩) k k] w fun e w' => e = .returned (.int .i64 (ckE C.length E.length m n steps rows)) ∧ w = w' := by
  have H := Lib.hid h
  have HL := Lib.hid hl
  have HC := Lib.hid hc
  clear h hl hc
  cases hm : isM m
  · have HF := Lib.hid (show ckE C.length E.length m n steps rows = 2 by unfold ckE; rw [hm]; rfl)
    have HM := Lib.hid hm
    clear hm
    go_enter Try.func86, Try.ntmps86
    go_wp2_with fail
    refine (is_any m _).mono ?_
    rintro e w' ⟨rfl, rfl⟩
    rw [HM.out]
    go_wp2_with fail
    go_ret
    exact ⟨by rw [HF.out]; rfl, rfl⟩
  · have HM := Lib.hid hm
    clear hm
    go_enter Try.func86, Try.ntmps86
    go_wp2_with fail
    refine (is_any m _).mono ?_
    rintro e w' ⟨rfl, rfl⟩
    rw [HM.out]
    go_wp2_with fail
    go_loop [19] (fun i => ∃ j : Nat, j ≤ k ∧ i = .int .i64 j ∧ rowsE C.length n rows = rowsE C.length n (rows.drop j)) (fun i => k - (intOf i).toNat)
    case atStart => exact ⟨0, Nat.zero_le _, rfl, rfl⟩
    case round =>
      obtain ⟨j, hj, rfl, hrel⟩ := hrel
      by_cases hlt : j < k
      · have hd := rowsE_drop C.length n rows j (by have := HL.out; omega) hrel
        have hcell : w.cell? ⟨b, j, none⟩ = some (.int .i64 (rows.getD j 0)) := HC.out j hlt
        have HD := Lib.hid hd
        clear hrel hd
        revert HD hcell
        generalize rows.getD j 0 = x
        intro hcell HD
        by_cases hz : hasE C.length x n = 0
        · have HZ := Lib.hid hz
          clear hz
          go_wp2_with fail
          refine Calls.mono (R := fun e w' => e = .returned (.int .i64 0) ∧ w = w') (by have := has_any H.out x n; rwa [HZ.out] at this) ?_
          rintro e w' ⟨rfl, rfl⟩
          go_wp2_with fail
          go_round
          case rel => exact ⟨j + 1, by omega, by go_num, HD.out.1 HZ.out⟩
          case measure => simp [intOf]; omega
        · have hq : (hasE C.length x n != 0) = true := by rw [bne_iff_ne]; exact hz
          have HF := Lib.hid (show ckE C.length E.length m n steps rows = hasE C.length x n by
            unfold ckE
            rw [HM.out, if_pos rfl, HD.out.2 hz, if_neg hz])
          have HZ := Lib.hid hz
          clear hz
          go_wp2_with fail
          refine (has_any H.out x n).mono ?_
          rintro e w' ⟨rfl, rfl⟩
          go_wp2_with fail
          go_ret
          exact ⟨by rw [HF.out]; rfl, rfl⟩
      · have hr0 : rowsE C.length n rows = 0 := by rw [hrel, List.drop_of_length_le (by have := HL.out; omega)]; rfl
        have HF := Lib.hid (show ckE C.length E.length m n steps rows = roomE E.length steps by
            unfold ckE
            rw [HM.out, if_pos rfl, if_pos hr0])
        clear hrel hr0
        go_wp2_with fail
        refine (room_any H.out steps).mono ?_
        rintro e w' ⟨rfl, rfl⟩
        go_wp2_with fail
        go_ret
        exact ⟨by rw [HF.out]; rfl, rfl⟩

/-- Two cells exchanged under a mask; one moved. -/
def swC (C : List (BitVec 64)) (m : BitVec 64) (x y : Nat) : List (BitVec 64) := (C.set x (cl C x ^^^ (m &&& (cl C x ^^^ cl C y)))).set y (cl C y ^^^ (m &&& (cl C x ^^^ cl C y)))
def mvC (C : List (BitVec 64)) (m : BitVec 64) (x y : Nat) : List (BitVec 64) := C.set y (selM m (cl C x) (cl C y))
set_option maxHeartbeats 1000000 in
theorem swap_ok (h : Ar w F p C E) (m : BitVec 64) (x y : Int) (hx0 : 0 ≤ x) (hx1 : x < C.length) (hy0 : 0 ≤ y) (hy1 : y < C.length) (he : E.length + 4 ≤ 8388608) :
    Calls Try.prog 82 #[.pointer (some ⟨p, 0, none⟩), .int .u64 (n64 m), .int .i64 x, .int .i64 y] w fun e w' => e = .returned (.tuple #[]) ∧ ArTo w F p (swC C m x.toNat y.toNat) (E ++ [(1, x.toNat), (1, y.toNat), (2, x.toNat), (2, y.toNat)]) w' := by
  have H := Lib.hid h
  have HE := Lib.hid he
  clear h he
  go_enter Try.func82, Try.ntmps82
  go_wp2_with fail
  refine (load_ok H.out x hx0 hx1 (by have := HE.out; omega)).mono ?_
  rintro e w1 ⟨rfl, h1⟩
  have H1 := Lib.hid h1
  clear h1
  go_wp2_with fail
  refine (load_ok H1.out.1 y hy0 hy1 (by have := HE.out; simp; omega)).mono ?_
  rintro e w2 ⟨rfl, h2⟩
  have H2 := Lib.hid (H1.out.trans h2)
  clear h2 H1
  go_wp2_with fail
  refine (store_ok H2.out.1 x _ hx0 hx1 (by have := HE.out; simp; omega)).mono ?_
  rintro e w3 ⟨rfl, h3⟩
  have H3 := Lib.hid (H2.out.trans h3)
  clear h3 H2
  go_wp2_with fail
  refine (store_ok H3.out.1 y _ hy0 (by simpa using hy1) (by have := HE.out; simp; omega)).mono ?_
  rintro e w4 ⟨rfl, h4⟩
  have H4 := Lib.hid (H3.out.trans h4)
  clear h4 H3
  go_wp2
  go_end0
  refine ⟨rfl, ?_⟩
  have := H4.out
  simp only [List.append_assoc, List.cons_append, List.nil_append] at this
  exact this

theorem rd2 (w : World) (t : TypeId) (x y : Int) : ∀ j, j < 2 → (w.alloc (.cells #[.int .i64 x, .int .i64 y] t)).cell? ⟨w.heap.size, j, none⟩ = some (.int .i64 ([x, y].getD j 0)) := by
  intro j hj
  rw [World.cell?_alloc_new]
  match j, hj with
  | 0, _ => rfl
  | 1, _ => rfl
theorem rd1 (w : World) (t : TypeId) (x : Int) : ∀ j, j < 1 → (w.alloc (.cells #[.int .i64 x] t)).cell? ⟨w.heap.size, j, none⟩ = some (.int .i64 ([x].getD j 0)) := by
  intro j hj
  rw [World.cell?_alloc_new]
  match j, hj with
  | 0, _ => rfl
theorem hasE_cases (n : Nat) (x k : Int) : (hasE n x k = 0 ∧ 0 ≤ x ∧ 0 ≤ k ∧ x + k ≤ n) ∨ (hasE n x k = 7 ∧ ¬ (0 ≤ x ∧ 0 ≤ k ∧ x + k ≤ n)) := by
  unfold hasE
  split
  · right; exact ⟨rfl, by omega⟩
  · left; exact ⟨rfl, by omega, by omega, by omega⟩
theorem roomE_zero {n : Nat} {s : Int} (h : roomE n s = 0) : 0 ≤ s ∧ n + s ≤ 8388608 := by
  unfold roomE at h
  split at h
  · cases h
  · split at h
    · cases h
    · omega
theorem ckE_zero {nC nE : Nat} {m : BitVec 64} {n s : Int} {rows : List Int} (h : ckE nC nE m n s rows = 0) : isM m = true ∧ rowsE nC n rows = 0 ∧ roomE nE s = 0 := by
  unfold ckE at h
  split at h
  · rename_i hm
    split at h
    · rename_i hr; exact ⟨hm, hr, h⟩
    · rename_i hr; exact absurd h hr
  · cases h
theorem rowsE_one {nC : Nat} {n x : Int} {r : List Int} (h : rowsE nC n (x :: r) = 0) : (0 ≤ x ∧ 0 ≤ n ∧ x + n ≤ nC) ∧ rowsE nC n r = 0 := by
  rw [rowsE_cons] at h
  rcases hasE_cases nC x n with ⟨h1, h2⟩ | ⟨h1, _⟩
  · rw [if_pos h1] at h; exact ⟨h2, h⟩
  · rw [if_neg (by rw [h1]; decide), h1] at h; cases h
/-- What Swap, Move and Clear return, and leave. -/
def swR (C : List (BitVec 64)) (E : List Ev) (m : BitVec 64) (x y : Int) : Int × (List (BitVec 64) × List Ev) :=
  if ckE C.length E.length m 1 4 [x, y] = 0 then (0, (swC C m x.toNat y.toNat, E ++ [(1, x.toNat), (1, y.toNat), (2, x.toNat), (2, y.toNat)])) else (ckE C.length E.length m 1 4 [x, y], (C, E))
def mvR (C : List (BitVec 64)) (E : List Ev) (m : BitVec 64) (x y : Int) : Int × (List (BitVec 64) × List Ev) :=
  if ckE C.length E.length m 1 3 [x, y] = 0 then (0, (mvC C m x.toNat y.toNat, E ++ [(1, x.toNat), (1, y.toNat), (2, y.toNat)])) else (ckE C.length E.length m 1 3 [x, y], (C, E))
def clR (C : List (BitVec 64)) (E : List Ev) (m : BitVec 64) (x : Int) : Int × (List (BitVec 64) × List Ev) :=
  if ckE C.length E.length m 1 2 [x] = 0 then (0, (C.set x.toNat (cl C x.toNat &&& ~~~ m), E ++ [(1, x.toNat), (2, x.toNat)])) else (ckE C.length E.length m 1 2 [x], (C, E))
end
end Go.Proofs.Ytdgehacbpjgmcaa
