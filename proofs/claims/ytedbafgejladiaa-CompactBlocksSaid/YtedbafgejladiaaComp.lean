import Derived.Test.YtedbafgejladiaaCompCk
import Derived.Test.YtedbafgejladiaaPrefTop
import Derived.Test.YtedbafgejladiaaCount
import Derived.Test.YtedbafgejladiaaNetRouteErr
import Derived.Test.YtedbafgejladiaaRef07
import Derived.Deep.RegionHeld3
/-
  compact.Compact over an arena: six calls, one after the other.
-/
namespace Go.Proofs.Ytedbafgejladiaa
open Go.RowKit
attribute [local go_sem] bits_and_u64 bits_or_u64 bits_xor_u64 bits_andNot_u64 wrap_u64 bv_add bv_neg bv_sub bv_mul
set_option linter.unusedVariables false
set_option linter.unusedSimpArgs false
set_option maxRecDepth 100000
theorem cnot_any (a : BitVec 64) (w : World) : Calls Try.prog 40 #[.int .u64 (n64 a)] w fun e w' => e = .returned (.int .u64 (n64 (~~~ a))) ∧ w = w' := by
  go_enter Try.func40, Try.ntmps40
  go_wp2_with fail
  go_ret
  exact ⟨ret_int (by rw [bv_max, inv_eq]), rfl⟩
/-- Cells, steps, what Split has dropped. -/
abbrev CpS := List (BitVec 64) × List Ev × BitVec 64
/-- One of the six calls. -/
def cpF (s r d f k n : Int) (x : CpS) : Nat → CpS
  | 0 => ((prR x.1 x.2.1 s (k + n) r 2 rkF).2.1, (prR x.1 x.2.1 s (k + n) r 2 rkF).2.2, x.2.2)
  | 1 => ((prR x.1 x.2.1 s (k + n) r 3 (spF (bv k))).2.1, (prR x.1 x.2.1 s (k + n) r 3 (spF (bv k))).2.2, (prR x.1 x.2.1 s (k + n) r 3 (spF (bv k))).1.1)
  | 2 => ((chRes x.1 x.2.1 d (fun v => sumM v x.2.2 65535#64)).2.1, (chRes x.1 x.2.1 d (fun v => sumM v x.2.2 65535#64)).2.2, x.2.2)
  | 3 => ((chRes x.1 x.2.1 f (fun v => v ||| ~~~ zeM x.2.2)).2.1, (chRes x.1 x.2.1 f (fun v => v ||| ~~~ zeM x.2.2)).2.2, x.2.2)
  | 4 => ((prR x.1 x.2.1 s (k + n) r 3 diF).2.1, (prR x.1 x.2.1 s (k + n) r 3 diF).2.2, x.2.2)
  | _ => ((rtR x.1 x.2.1 s (k + n) r).1, (rtR x.1 x.2.1 s (k + n) r).2, x.2.2)
def cpK (s r d f k n : Int) (C : List (BitVec 64)) (E : List Ev) : Nat → CpS
  | 0 => (C, E, 0#64)
  | j + 1 => cpF s r d f k n (cpK s r d f k n C E j) j
/-- How many steps the first j calls have made. -/
def cpV (a : Nat) : Nat → Nat
  | 0 => 0
  | 1 => 2 * a
  | 2 => 5 * a
  | 3 => 5 * a + 2
  | 4 => 5 * a + 4
  | 5 => 8 * a + 4
  | _ => 8 * a + 4 + 16 * (moves a).length
theorem prR_len (C : List (BitVec 64)) (E : List Ev) (base n out : Int) (s : Nat) (g : Nat → Nat → St → Nat → St) (hf : ∀ b o x i, (g b o x i).1.length = x.1.length ∧ (g b o x i).2.1.length = x.2.1.length + s) (hz : pkE C.length E.length base n out s = 0) :
    (prR C E base n out s g).2.1.length = C.length ∧ (prR C E base n out s g).2.2.length = E.length + s * n.toNat ∧ (prR C E base n out s g).1.2 = 0 := by
  obtain ⟨h1, h2⟩ := repS_len (g base.toNat out.toNat) s (hf base.toNat out.toNat) (C, E, 0#64) n.toNat
  unfold prR
  rw [if_pos hz]
  exact ⟨h1, h2, rfl⟩
theorem chRes_len (C : List (BitVec 64)) (E : List Ev) (x : Int) (g : BitVec 64 → BitVec 64) (h0 : 0 ≤ x) (h1 : x < C.length) (h2 : E.length + 2 ≤ 8388608) :
    (chRes C E x g).2.1.length = C.length ∧ (chRes C E x g).2.2.length = E.length + 2 ∧ (chRes C E x g).1.2 = 0 := by
  unfold chRes
  rw [if_pos ⟨h0, h1⟩, if_pos h2]
  simp
theorem rtR_len (C : List (BitVec 64)) (E : List Ev) (base n far : Int) (hz : rtE C.length E.length base n far = 0) :
    (rtR C E base n far).1.length = C.length ∧ (rtR C E base n far).2.length = E.length + 16 * (moves n.toNat).length := by
  unfold rtR
  rw [if_pos hz]
  exact rtL_len _ _ _ _
/-- What check's OK says. -/
structure CpOk (nC nE : Nat) (s r d f : Int) (k n : Nat) : Prop where
  k1 : 1 ≤ k
  k2 : k ≤ 32
  n1 : 1 ≤ n
  n2 : n ≤ 256
  s1 : 0 ≤ s
  s2 : s + 3 * ((k : Int) + (n : Int)) ≤ nC
  r1 : 0 ≤ r
  r2 : r + ((k : Int) + (n : Int)) ≤ nC
  d1 : 0 ≤ d
  d2 : d + 1 ≤ nC
  f1 : 0 ≤ f
  f2 : f + 1 ≤ nC
  sr : ¬ (r < s + 3 * ((k : Int) + (n : Int)) ∧ s < r + ((k : Int) + (n : Int)))
  ro : nE + cpN (k + n) ≤ 8388608
theorem hasL_all (nC : Nat) (L : List Prt) (h : hasL nC L = 0) (i : Nat) (hi : i < L.length) : hasE nC (pt L i).1 (pt L i).2 = 0 := by
  induction L generalizing i with
  | nil => simp at hi
  | cons q l ih =>
    unfold hasL at h
    split at h
    · rename_i h1
      cases i with
      | zero => exact h1
      | succ i => exact ih h i (by simpa using hi)
    · rename_i h1; exact absurd h h1
theorem cpE_ok {nC nE : Nat} {s r d f k n : Int} (h : cpE nC nE s r d f k n = 0) : ∃ k' n' : Nat, k = k' ∧ n = n' ∧ CpOk nC nE s r d f k' n' := by
  unfold cpE at h
  split at h
  · cases h
  rename_i hb
  obtain ⟨k', rfl⟩ := Int.eq_ofNat_of_zero_le (show 0 ≤ k by omega)
  obtain ⟨n', rfl⟩ := Int.eq_ofNat_of_zero_le (show 0 ≤ n by omega)
  split at h
  · rename_i hh
    have ha := hasL_all nC _ hh
    have a0 := ha 0 (by simp [cpL])
    have a1 := ha 1 (by simp [cpL])
    have a2 := ha 2 (by simp [cpL])
    have a3 := ha 3 (by simp [cpL])
    simp only [cpL, pt, List.getD_cons_zero, List.getD_cons_succ] at a0 a1 a2 a3
    rcases hasE_cases2 nC s (3 * ((k' : Int) + (n' : Int))) with ⟨_, b0⟩ | ⟨e, _⟩
    · rcases hasE_cases2 nC r ((k' : Int) + (n' : Int)) with ⟨_, b1⟩ | ⟨e, _⟩
      · rcases hasE_cases2 nC d 1 with ⟨_, b2⟩ | ⟨e, _⟩
        · rcases hasE_cases2 nC f 1 with ⟨_, b3⟩ | ⟨e, _⟩
          · split at h
            · cases h
            · rename_i hm
              have hr := (roomE_zero2 h).2
              have h9 : anyM (pt (cpL s r d f (k' : Int) (n' : Int)) 1) (cpL s r d f (k' : Int) (n' : Int)) 1 = false := by
                cases hq : anyM (pt (cpL s r d f (k' : Int) (n' : Int)) 1) (cpL s r d f (k' : Int) (n' : Int)) 1
                · rfl
                · exact absurd (meL_yes _ 1 (by simp [cpL]) hq) hm
              have h10 : meB r ((k' : Int) + (n' : Int)) s (3 * ((k' : Int) + (n' : Int))) = false := by simpa [anyM, cpL, pt] using h9
              refine ⟨k', n', rfl, rfl, by omega, by omega, by omega, by omega, by omega, by omega, by omega, by omega, by omega, by omega, by omega, by omega, ?_, ?_⟩
              · intro hx
                unfold meB at h10
                rw [decide_eq_true hx.1, decide_eq_true hx.2] at h10
                cases h10
              · rw [show ((k' : Int) + (n' : Int)).toNat = k' + n' by omega] at hr
                omega
          · rw [e] at a3; cases a3
        · rw [e] at a2; cases a2
      · rw [e] at a1; cases a1
    · rw [e] at a0; cases a0
  · rename_i hh; exact absurd h hh
theorem pk_ok {nC nE : Nat} {s r d f : Int} {k n : Nat} (h : CpOk nC nE s r d f k n) (nE2 steps : Nat) (he : nE2 + steps * (k + n) ≤ 8388608) : pkE nC nE2 s ((k : Int) + (n : Int)) r steps = 0 := by
  have e1 : hasE nC s (3 * ((k : Int) + (n : Int))) = 0 := by unfold hasE; rw [if_neg (by have := h.s1; have := h.s2; omega)]
  have e2 : hasE nC r ((k : Int) + (n : Int)) = 0 := by unfold hasE; rw [if_neg (by have := h.r1; have := h.r2; omega)]
  have q1 := h.k1; have q2 := h.k2; have q3 := h.n1; have q4 := h.n2
  unfold pkE
  rw [if_neg (by omega), e1, if_pos rfl, e2, if_pos rfl, if_neg h.sr]
  unfold roomE
  have e3 : (steps : Int) * ((k : Int) + (n : Int)) = ((steps * (k + n) : Nat) : Int) := by push_cast; rfl
  rw [e3, if_neg (by omega), if_neg (by omega)]
theorem rt_ok {nC nE : Nat} {s r d f : Int} {k n : Nat} (h : CpOk nC nE s r d f k n) (nE2 : Nat) (he : nE2 + 16 * (moves (k + n)).length ≤ 8388608) : rtE nC nE2 s ((k : Int) + (n : Int)) r = 0 := by
  have e1 : hasE nC s (3 * ((k : Int) + (n : Int))) = 0 := by unfold hasE; rw [if_neg (by have := h.s1; have := h.s2; omega)]
  have e2 : hasE nC r ((k : Int) + (n : Int)) = 0 := by unfold hasE; rw [if_neg (by have := h.r1; have := h.r2; omega)]
  have q1 := h.k1; have q2 := h.k2; have q3 := h.n1; have q4 := h.n2
  unfold rtE
  rw [if_neg (by omega), e1, if_pos rfl, e2, if_pos rfl, if_neg h.sr, show ((k : Int) + (n : Int)).toNat = k + n by omega]
  unfold roomE
  rw [if_neg (by omega), if_neg (by omega)]
theorem cpK_len {C : List (BitVec 64)} {E : List Ev} {s r d f : Int} {k n : Nat} (h : CpOk C.length E.length s r d f k n) (j : Nat) (hj : j ≤ 6) :
    (cpK s r d f k n C E j).1.length = C.length ∧ (cpK s r d f k n C E j).2.1.length = E.length + cpV (k + n) j := by
  have hro := h.ro
  unfold cpN at hro
  induction j with
  | zero => exact ⟨rfl, rfl⟩
  | succ j ih =>
    obtain ⟨i1, i2⟩ := ih (by omega)
    have hk := h
    rw [← i1] at hk
    have hn : ((k : Int) + (n : Int)).toNat = k + n := by omega
    show (cpF s r d f k n (cpK s r d f k n C E j) j).1.length = _ ∧ (cpF s r d f k n (cpK s r d f k n C E j) j).2.1.length = _
    generalize cpK s r d f k n C E j = x at i1 i2 hk
    have hj6 : j = 0 ∨ j = 1 ∨ j = 2 ∨ j = 3 ∨ j = 4 ∨ j = 5 := by omega
    rcases hj6 with rfl | rfl | rfl | rfl | rfl | rfl
    · obtain ⟨l1, l2, _⟩ := prR_len x.1 x.2.1 s ((k : Int) + (n : Int)) r 2 rkF (fun b o y i => rkF_len b o y i) (pk_ok hk x.2.1.length 2 (by rw [i2]; simp only [cpV]; omega))
      exact ⟨l1.trans i1, by rw [show (cpF s r d f k n x 0).2.1 = (prR x.1 x.2.1 s ((k : Int) + (n : Int)) r 2 rkF).2.2 from rfl, l2, i2, hn]; simp only [cpV]; omega⟩
    · obtain ⟨l1, l2, _⟩ := prR_len x.1 x.2.1 s ((k : Int) + (n : Int)) r 3 (spF (bv k)) (fun b o y i => spF_len (bv k) b o y i) (pk_ok hk x.2.1.length 3 (by rw [i2]; simp only [cpV]; omega))
      exact ⟨l1.trans i1, by rw [show (cpF s r d f k n x 1).2.1 = (prR x.1 x.2.1 s ((k : Int) + (n : Int)) r 3 (spF (bv k))).2.2 from rfl, l2, i2, hn]; simp only [cpV]; omega⟩
    · obtain ⟨l1, l2, _⟩ := chRes_len x.1 x.2.1 d (fun v => sumM v x.2.2 65535#64) hk.d1 (by have := hk.d2; omega) (by rw [i2]; simp only [cpV]; omega)
      exact ⟨l1.trans i1, by rw [show (cpF s r d f k n x 2).2.1 = (chRes x.1 x.2.1 d (fun v => sumM v x.2.2 65535#64)).2.2 from rfl, l2, i2]; simp only [cpV]; omega⟩
    · obtain ⟨l1, l2, _⟩ := chRes_len x.1 x.2.1 f (fun v => v ||| ~~~ zeM x.2.2) hk.f1 (by have := hk.f2; omega) (by rw [i2]; simp only [cpV]; omega)
      exact ⟨l1.trans i1, by rw [show (cpF s r d f k n x 3).2.1 = (chRes x.1 x.2.1 f (fun v => v ||| ~~~ zeM x.2.2)).2.2 from rfl, l2, i2]; simp only [cpV]; omega⟩
    · obtain ⟨l1, l2, _⟩ := prR_len x.1 x.2.1 s ((k : Int) + (n : Int)) r 3 diF (fun b o y i => diF_len b o y i) (pk_ok hk x.2.1.length 3 (by rw [i2]; simp only [cpV]; omega))
      exact ⟨l1.trans i1, by rw [show (cpF s r d f k n x 4).2.1 = (prR x.1 x.2.1 s ((k : Int) + (n : Int)) r 3 diF).2.2 from rfl, l2, i2, hn]; simp only [cpV]; omega⟩
    · obtain ⟨l1, l2⟩ := rtR_len x.1 x.2.1 s ((k : Int) + (n : Int)) r (rt_ok hk x.2.1.length (by rw [i2]; simp only [cpV]; omega))
      exact ⟨l1.trans i1, by rw [show (cpF s r d f k n x 5).2.1 = (rtR x.1 x.2.1 s ((k : Int) + (n : Int)) r).2 from rfl, l2, i2, hn]; simp only [cpV]; omega⟩
section
variable {w0 w : World} {F : Nat → Prop} {bs : Bks} {p b4 b5 b6 b10 b11 : Nat} {C : List (BitVec 64)} {E : List Ev} {s r d f a : Int}
theorem clo1 (h : Wk w0 F w bs p C E) (m4 : (b4, 29, #[.pointer (some ⟨p, 0, none⟩)]) ∈ bs) (m5 : (b5, 39, #[.int .i64 s, .int .i64 r, .int .i64 d, .int .i64 f]) ∈ bs) (m11 : (b11, 3, #[.int .i64 a]) ∈ bs) (hz : (prR C E s a r 2 rkF).1.2 = 0) :
    Calls Try.prog 32 #[.pointer (some ⟨b4, 0, none⟩), .pointer (some ⟨b5, 0, none⟩), .pointer (some ⟨b11, 0, none⟩)] w fun e w' => e = .returned (.int .i64 0) ∧ Wk w0 F w' bs p (prR C E s a r 2 rkF).2.1 (prR C E s a r 2 rkF).2.2 := by
  have q4_0 := (h.blk m4).cell 0
  have q5_0 := (h.blk m5).cell 0
  have q5_1 := (h.blk m5).cell 1
  have q11_0 := (h.blk m11).cell 0
  simp only [List.getElem?_toArray, List.getElem?_cons_succ, List.getElem?_cons_zero] at q4_0 q5_0 q5_1 q11_0
  have HC := Lib.hid (h.call (e0 := .returned (.tuple #[.int .u64 (n64 (prR C E s a r 2 rkF).1.1), .int .i64 (prR C E s a r 2 rkF).1.2])) (fun w F ha => ranks_any ha s a r))
  rw [hz] at HC
  clear h hz m4 m5 m11
  go_enter Try.func32, Try.ntmps32
  go_wp2_with fail
  refine HC.out.mono ?_
  rintro e w1 ⟨rfl, h1⟩
  have H1 := Lib.hid h1
  clear h1
  go_wp2_with fail
  go_ret
  exact ⟨rfl, H1.out⟩
theorem clo2 {k : Int} {v0 : Value} (h : Wk w0 F w ((b10, 33, #[v0]) :: bs) p C E) (m4 : (b4, 29, #[.pointer (some ⟨p, 0, none⟩)]) ∈ bs) (m5 : (b5, 39, #[.int .i64 s, .int .i64 r, .int .i64 d, .int .i64 f]) ∈ bs) (m11 : (b11, 3, #[.int .i64 a]) ∈ bs) (m6 : (b6, 3, #[.int .i64 k]) ∈ bs) (hk : 0 ≤ k ∧ k ≤ 32) (hz : (prR C E s a r 3 (spF (bv k))).1.2 = 0) :
    Calls Try.prog 34 #[.pointer (some ⟨b4, 0, none⟩), .pointer (some ⟨b5, 0, none⟩), .pointer (some ⟨b11, 0, none⟩), .pointer (some ⟨b6, 0, none⟩), .pointer (some ⟨b10, 0, none⟩)] w fun e w' => e = .returned (.int .i64 0) ∧ Wk w0 F w' ((b10, 33, #[.int .u64 (n64 (prR C E s a r 3 (spF (bv k))).1.1)]) :: bs) p (prR C E s a r 3 (spF (bv k))).2.1 (prR C E s a r 3 (spF (bv k))).2.2 := by
  have q4_0 := (h.blk (List.mem_cons_of_mem _ m4)).cell 0
  have q5_0 := (h.blk (List.mem_cons_of_mem _ m5)).cell 0
  have q5_1 := (h.blk (List.mem_cons_of_mem _ m5)).cell 1
  have q11_0 := (h.blk (List.mem_cons_of_mem _ m11)).cell 0
  have q6_0 := (h.blk (List.mem_cons_of_mem _ m6)).cell 0
  simp only [List.getElem?_toArray, List.getElem?_cons_succ, List.getElem?_cons_zero] at q4_0 q5_0 q5_1 q11_0 q6_0
  have HC := Lib.hid (h.call (e0 := .returned (.tuple #[.int .u64 (n64 (prR C E s a r 3 (spF (bv k))).1.1), .int .i64 (prR C E s a r 3 (spF (bv k))).1.2])) (fun w F ha => split_any ha s a r (bv k)))
  rw [hz] at HC
  clear h hz m4 m5 m11 m6
  go_enter Try.func34, Try.ntmps34
  go_wp2_with fail
  refine HC.out.mono ?_
  rintro e w1 ⟨rfl, h1⟩
  have H1 := Lib.hid h1
  have g0 : ∃ u, w1.cell? ⟨b10, 0, none⟩ = some u := ⟨_, (h1.blk (List.mem_cons_self ..)).cell 0⟩
  obtain ⟨u0, g0⟩ := g0
  have f0 := (h1.blk (List.mem_cons_self ..)).frozen 0
  clear h1
  go_wp2_with fail
  go_ret
  exact ⟨rfl, H1.out.put 0 _⟩
theorem clo3 {x : BitVec 64} (h : Wk w0 F w bs p C E) (m4 : (b4, 29, #[.pointer (some ⟨p, 0, none⟩)]) ∈ bs) (m5 : (b5, 39, #[.int .i64 s, .int .i64 r, .int .i64 d, .int .i64 f]) ∈ bs) (m10 : (b10, 33, #[.int .u64 (n64 x)]) ∈ bs) (hz : (chRes C E d (fun v => sumM v x 65535#64)).1.2 = 0) :
    Calls Try.prog 36 #[.pointer (some ⟨b4, 0, none⟩), .pointer (some ⟨b5, 0, none⟩), .pointer (some ⟨b10, 0, none⟩)] w fun e w' => e = .returned (.int .i64 0) ∧ Wk w0 F w' bs p (chRes C E d (fun v => sumM v x 65535#64)).2.1 (chRes C E d (fun v => sumM v x 65535#64)).2.2 := by
  have q4_0 := (h.blk m4).cell 0
  have q5_0 := (h.blk m5).cell 0
  have q5_1 := (h.blk m5).cell 1
  have q5_2 := (h.blk m5).cell 2
  have q10_0 := (h.blk m10).cell 0
  simp only [List.getElem?_toArray, List.getElem?_cons_succ, List.getElem?_cons_zero] at q4_0 q5_0 q5_1 q5_2 q10_0
  have HC := Lib.hid (h.call (e0 := .returned (.int .i64 (chRes C E d (fun v => sumM v x 65535#64)).1.2)) (fun w F ha => plusA_any ha d x 65535#64))
  rw [hz] at HC
  clear h hz m4 m5 m10
  go_enter Try.func36, Try.ntmps36
  go_wp2_with fail
  refine Calls.mono (R := fun e w' => e = .returned (.int .i64 0) ∧ Wk w0 F w' bs p (chRes C E d (fun v => sumM v x 65535#64)).2.1 (chRes C E d (fun v => sumM v x 65535#64)).2.2) HC.out ?_
  rintro e w1 ⟨rfl, h1⟩
  have H1 := Lib.hid h1
  clear h1
  go_wp2_with fail
  go_ret
  exact ⟨rfl, H1.out⟩
theorem isM_notze (x : BitVec 64) : isM (~~~ zeM x) = true := by unfold zeM; rw [msk_not]; exact isM_msk _
theorem clo4 {x : BitVec 64} (h : Wk w0 F w bs p C E) (m4 : (b4, 29, #[.pointer (some ⟨p, 0, none⟩)]) ∈ bs) (m5 : (b5, 39, #[.int .i64 s, .int .i64 r, .int .i64 d, .int .i64 f]) ∈ bs) (m10 : (b10, 33, #[.int .u64 (n64 x)]) ∈ bs) (hz : (chRes C E f (fun v => v ||| ~~~ zeM x)).1.2 = 0) :
    Calls Try.prog 38 #[.pointer (some ⟨b4, 0, none⟩), .pointer (some ⟨b5, 0, none⟩), .pointer (some ⟨b10, 0, none⟩)] w fun e w' => e = .returned (.int .i64 0) ∧ Wk w0 F w' bs p (chRes C E f (fun v => v ||| ~~~ zeM x)).2.1 (chRes C E f (fun v => v ||| ~~~ zeM x)).2.2 := by
  have q4_0 := (h.blk m4).cell 0
  have q5_0 := (h.blk m5).cell 0
  have q5_1 := (h.blk m5).cell 1
  have q5_2 := (h.blk m5).cell 2
  have q5_3 := (h.blk m5).cell 3
  have q10_0 := (h.blk m10).cell 0
  simp only [List.getElem?_toArray, List.getElem?_cons_succ, List.getElem?_cons_zero] at q4_0 q5_0 q5_1 q5_2 q5_3 q10_0
  have HC : Hid (∀ w', Off Nob w w' → Calls Try.prog 39 #[.pointer (some ⟨p, 0, none⟩), .int .i64 f, .int .u64 (n64 (~~~ zeM x))] w' fun e w'' => e = .returned (.int .i64 0) ∧ Wk w0 F w'' bs p (chRes C E f (fun v => v ||| ~~~ zeM x)).2.1 (chRes C E f (fun v => v ||| ~~~ zeM x)).2.2) := Lib.hid (fun w' o => by
    have := (h.off o).call (e0 := .returned (.int .i64 (chRes C E f (fun v => v ||| ~~~ zeM x)).1.2)) (fun w F ha => stick_any ha f (~~~ zeM x) (isM_notze x))
    rwa [hz] at this)
  have M4 := m4
  have M5 := m5
  have M10 := m10
  clear h hz m4 m5 m10
  go_enter Try.func38, Try.ntmps38
  go_wp2_with fail
  go_region_held3 (fun w' => w'.cell? ⟨b4, 0, none⟩ = some (.pointer (some ⟨p, 0, none⟩)) ∧ w'.cell? ⟨b5, 3, none⟩ = some (.int .i64 f) ∧ w'.cell? ⟨b10, 0, none⟩ = some (.int .u64 (n64 x)))
    (first | with_reducible assumption | go_keep)
    (first
      | (go_at_call 41; refine (zero_any x _).mono ?_; rintro e w' ⟨rfl, rfl⟩)
      | (go_at_call 40; refine (cnot_any (zeM x) _).mono ?_; rintro e w' ⟨rfl, rfl⟩)
      | (go_at_call 39; refine (HC.out _ (by first | with_reducible exact Off.refl _ _ | with_reducible exact Off.drew (Off.refl _ _) | with_reducible exact Off.drewN (Off.refl _ _) _)).mono ?_; rintro e w1 ⟨rfl, h1⟩; have k1 : w1.cell? ⟨b4, 0, none⟩ = some (.pointer (some ⟨p, 0, none⟩)) ∧ w1.cell? ⟨b5, 3, none⟩ = some (.int .i64 f) ∧ w1.cell? ⟨b10, 0, none⟩ = some (.int .u64 (n64 x)) := ⟨(h1.blk M4).cell 0, (h1.blk M5).cell 3, (h1.blk M10).cell 0⟩; have H1 := Lib.hid h1; clear h1))
  go_wp2_with fail
  go_ret
  exact ⟨rfl, H1.out⟩
theorem clo5 (h : Wk w0 F w bs p C E) (m4 : (b4, 29, #[.pointer (some ⟨p, 0, none⟩)]) ∈ bs) (m5 : (b5, 39, #[.int .i64 s, .int .i64 r, .int .i64 d, .int .i64 f]) ∈ bs) (m11 : (b11, 3, #[.int .i64 a]) ∈ bs) (hz : (prR C E s a r 3 diF).1.2 = 0) :
    Calls Try.prog 42 #[.pointer (some ⟨b4, 0, none⟩), .pointer (some ⟨b5, 0, none⟩), .pointer (some ⟨b11, 0, none⟩)] w fun e w' => e = .returned (.int .i64 0) ∧ Wk w0 F w' bs p (prR C E s a r 3 diF).2.1 (prR C E s a r 3 diF).2.2 := by
  have q4_0 := (h.blk m4).cell 0
  have q5_0 := (h.blk m5).cell 0
  have q5_1 := (h.blk m5).cell 1
  have q11_0 := (h.blk m11).cell 0
  simp only [List.getElem?_toArray, List.getElem?_cons_succ, List.getElem?_cons_zero] at q4_0 q5_0 q5_1 q11_0
  have HC := Lib.hid (h.call (e0 := .returned (.int .i64 (prR C E s a r 3 diF).1.2)) (fun w F ha => dist_any ha s a r))
  rw [hz] at HC
  clear h hz m4 m5 m11
  go_enter Try.func42, Try.ntmps42
  go_wp2_with fail
  refine HC.out.mono ?_
  rintro e w1 ⟨rfl, h1⟩
  have H1 := Lib.hid h1
  clear h1
  go_wp2_with fail
  go_ret
  exact ⟨rfl, H1.out⟩
theorem clo6 (h : Wk w0 F w bs p C E) (m4 : (b4, 29, #[.pointer (some ⟨p, 0, none⟩)]) ∈ bs) (m5 : (b5, 39, #[.int .i64 s, .int .i64 r, .int .i64 d, .int .i64 f]) ∈ bs) (m11 : (b11, 3, #[.int .i64 a]) ∈ bs) (hs : -9223372036854775808 ≤ s ∧ s ≤ 9223372036854775807) (hr : -9223372036854775808 ≤ r ∧ r ≤ 9223372036854775807) (hz : rtE C.length E.length s a r = 0) :
    Calls Try.prog 44 #[.pointer (some ⟨b4, 0, none⟩), .pointer (some ⟨b5, 0, none⟩), .pointer (some ⟨b11, 0, none⟩)] w fun e w' => e = .returned (.int .i64 0) ∧ Wk w0 F w' bs p (rtR C E s a r).1 (rtR C E s a r).2 := by
  have q4_0 := (h.blk m4).cell 0
  have q5_0 := (h.blk m5).cell 0
  have q5_1 := (h.blk m5).cell 1
  have q11_0 := (h.blk m11).cell 0
  simp only [List.getElem?_toArray, List.getElem?_cons_succ, List.getElem?_cons_zero] at q4_0 q5_0 q5_1 q11_0
  have HC := Lib.hid (h.call (e0 := .returned (.int .i64 (rtE C.length E.length s a r))) (fun w F ha => nroute_any ha s a r hs hr))
  rw [hz] at HC
  clear h hz m4 m5 m11 hs hr
  go_enter Try.func44, Try.ntmps44
  go_wp2_with fail
  refine HC.out.mono ?_
  rintro e w1 ⟨rfl, h1⟩
  have H1 := Lib.hid h1
  clear h1
  go_wp2_with fail
  go_ret
  exact ⟨rfl, H1.out⟩
theorem cpZ0 {C : List (BitVec 64)} {E : List Ev} {s r d f : Int} {k n : Nat} (h : CpOk C.length E.length s r d f k n) : (prR (cpK s r d f k n C E 0).1 (cpK s r d f k n C E 0).2.1 s ((k : Int) + (n : Int)) r 2 rkF).1.2 = 0 := by
  have hro := h.ro
  unfold cpN at hro
  obtain ⟨i1, i2⟩ := cpK_len h 0 (by decide)
  have hk := h
  rw [← i1] at hk
  exact (prR_len _ _ s _ r 2 rkF (fun b o y i => rkF_len b o y i) (pk_ok hk _ 2 (by rw [i2]; simp only [cpV]; omega))).2.2
theorem cpZ1 {C : List (BitVec 64)} {E : List Ev} {s r d f : Int} {k n : Nat} (h : CpOk C.length E.length s r d f k n) : (prR (cpK s r d f k n C E 1).1 (cpK s r d f k n C E 1).2.1 s ((k : Int) + (n : Int)) r 3 (spF (bv k))).1.2 = 0 := by
  have hro := h.ro
  unfold cpN at hro
  obtain ⟨i1, i2⟩ := cpK_len h 1 (by decide)
  have hk := h
  rw [← i1] at hk
  exact (prR_len _ _ s _ r 3 (spF (bv k)) (fun b o y i => spF_len (bv k) b o y i) (pk_ok hk _ 3 (by rw [i2]; simp only [cpV]; omega))).2.2
theorem cpZ2 {C : List (BitVec 64)} {E : List Ev} {s r d f : Int} {k n : Nat} (h : CpOk C.length E.length s r d f k n) : (chRes (cpK s r d f k n C E 2).1 (cpK s r d f k n C E 2).2.1 d (fun v => sumM v (cpK s r d f k n C E 2).2.2 65535#64)).1.2 = 0 := by
  have hro := h.ro
  unfold cpN at hro
  obtain ⟨i1, i2⟩ := cpK_len h 2 (by decide)
  have hk := h
  rw [← i1] at hk
  exact (chRes_len _ _ d _ hk.d1 (by have := hk.d2; omega) (by rw [i2]; simp only [cpV]; omega)).2.2
theorem cpZ3 {C : List (BitVec 64)} {E : List Ev} {s r d f : Int} {k n : Nat} (h : CpOk C.length E.length s r d f k n) : (chRes (cpK s r d f k n C E 3).1 (cpK s r d f k n C E 3).2.1 f (fun v => v ||| ~~~ zeM (cpK s r d f k n C E 3).2.2)).1.2 = 0 := by
  have hro := h.ro
  unfold cpN at hro
  obtain ⟨i1, i2⟩ := cpK_len h 3 (by decide)
  have hk := h
  rw [← i1] at hk
  exact (chRes_len _ _ f _ hk.f1 (by have := hk.f2; omega) (by rw [i2]; simp only [cpV]; omega)).2.2
theorem cpZ4 {C : List (BitVec 64)} {E : List Ev} {s r d f : Int} {k n : Nat} (h : CpOk C.length E.length s r d f k n) : (prR (cpK s r d f k n C E 4).1 (cpK s r d f k n C E 4).2.1 s ((k : Int) + (n : Int)) r 3 diF).1.2 = 0 := by
  have hro := h.ro
  unfold cpN at hro
  obtain ⟨i1, i2⟩ := cpK_len h 4 (by decide)
  have hk := h
  rw [← i1] at hk
  exact (prR_len _ _ s _ r 3 diF (fun b o y i => diF_len b o y i) (pk_ok hk _ 3 (by rw [i2]; simp only [cpV]; omega))).2.2
theorem cpZ5 {C : List (BitVec 64)} {E : List Ev} {s r d f : Int} {k n : Nat} (h : CpOk C.length E.length s r d f k n) : rtE (cpK s r d f k n C E 5).1.length (cpK s r d f k n C E 5).2.1.length s ((k : Int) + (n : Int)) r = 0 := by
  have hro := h.ro
  unfold cpN at hro
  obtain ⟨i1, i2⟩ := cpK_len h 5 (by decide)
  have hk := h
  rw [← i1] at hk
  exact rt_ok hk _ (by rw [i2]; simp only [cpV]; omega)
end
section
variable {w : World} {F : Nat → Prop} {p : Nat} {C : List (BitVec 64)} {E : List Ev}
theorem ccompact_err (h : Ar w F p C E) (s r d f k n : Int) (hz : cpE C.length E.length s r d f k n ≠ 0) :
    Calls Try.prog 12 #[.pointer (some ⟨p, 0, none⟩), .agg #[.int .i64 s, .int .i64 r, .int .i64 d, .int .i64 f], .int .i64 k, .int .i64 n] w fun e w' => e = .returned (.int .i64 (cpE C.length E.length s r d f k n)) ∧ ArTo w F p C E w' := by
  have HC : Hid (∀ W, Off Nob w W → Calls Try.prog 31 #[.pointer (some ⟨p, 0, none⟩), .agg #[.int .i64 s, .int .i64 r, .int .i64 d, .int .i64 f], .int .i64 k, .int .i64 n] W fun e w' => e = .returned (.int .i64 (cpE C.length E.length s r d f k n)) ∧ Off Nob W w') := Lib.hid (fun W o => cpck_any (h.keep o (fun _ _ h => h)) s r d f k n)
  have HA := Lib.hid h
  obtain ⟨c, hc⟩ : ∃ c, cpE C.length E.length s r d f k n = c := ⟨_, rfl⟩
  rw [hc] at HC hz ⊢
  have hq : (c != 0) = true := by rw [bne_iff_ne]; exact hz
  clear h hz hc
  go_enter Try.func12, Try.ntmps12
  go_wp2_with fail
  refine (HC.out _ (Off.alloc (Off.alloc (Off.alloc (Off.refl _ _) _) _) _)).mono ?_
  rintro e w1 ⟨rfl, o1⟩
  have O1 := Lib.hid ((Off.alloc (Off.alloc (Off.alloc (Off.refl Nob w) _) _) _).also o1)
  clear o1
  go_wp2_with fail
  go_ret
  exact ⟨rfl, ArTo.off HA.out O1.out⟩
set_option maxHeartbeats 8000000 in
theorem ccompact_ok (h : Ar w F p C E) (s r d f : Int) (k n : Nat) (hz : CpOk C.length E.length s r d f k n) (hz2 : cpE C.length E.length s r d f k n = 0) :
    Calls Try.prog 12 #[.pointer (some ⟨p, 0, none⟩), .agg #[.int .i64 s, .int .i64 r, .int .i64 d, .int .i64 f], .int .i64 (k : Int), .int .i64 (n : Int)] w fun e w' => e = .returned (.int .i64 0) ∧ ArTo w F p (cpK s r d f k n C E 6).1 (cpK s r d f k n C E 6).2.1 w' := by
  have HC : Hid (∀ W, Off Nob w W → Calls Try.prog 31 #[.pointer (some ⟨p, 0, none⟩), .agg #[.int .i64 s, .int .i64 r, .int .i64 d, .int .i64 f], .int .i64 (k : Int), .int .i64 (n : Int)] W fun e w' => e = .returned (.int .i64 0) ∧ Off Nob W w') := Lib.hid (fun W o => by have := cpck_any (h.keep o (fun _ _ h => h)) s r d f (k : Int) (n : Int); rwa [hz2] at this)
  have H3 := Lib.hid ((((Wk.start h).push 29 #[.pointer (some ⟨p, 0, none⟩)]).push 39 #[.int .i64 s, .int .i64 r, .int .i64 d, .int .i64 f]).push 3 #[.int .i64 (k : Int)])
  have HZ := Lib.hid hz
  have hk2 := hz.k2
  have hn2 := hz.n2
  have hc2 := Lib.hid h.n2
  clear h hz hz2
  go_enter Try.func12, Try.ntmps12
  go_wp2_with fail
  refine (HC.out _ (Off.alloc (Off.alloc (Off.alloc (Off.refl _ _) _) _) _)).mono ?_
  rintro e w1 ⟨rfl, o1⟩
  have H4 := Lib.hid (H3.out.off o1)
  clear o1 HC H3
  obtain ⟨g4, hg4⟩ : ∃ g, w.heap.size = g := ⟨_, rfl⟩
  simp only [World.size_alloc] at H4 ⊢
  rw [hg4] at H4 ⊢
  obtain ⟨g5, hg5⟩ : ∃ g, g4 + 1 = g := ⟨_, rfl⟩
  obtain ⟨g6, hg6⟩ : ∃ g, g4 + 1 + 1 = g := ⟨_, rfl⟩
  rw [hg5] at H4 hg6 ⊢
  rw [hg6] at H4 ⊢
  have H5 := Lib.hid (H4.out.push 33 #[.int .u64 0])
  have c6 := (H5.out.blk (b := g6) (t := 3) (cs := #[.int .i64 (k : Int)]) (by simp)).cell 0
  simp only [List.getElem?_toArray, List.getElem?_cons_zero] at c6
  go_wp2_with fail
  obtain ⟨g10, hg10⟩ : ∃ g, w1.heap.size = g := ⟨_, rfl⟩
  have H6 := Lib.hid (H5.out.push 3 #[.int .i64 ((k : Int) + (n : Int))])
  simp only [World.size_alloc] at H6
  rw [hg10] at H6 ⊢
  obtain ⟨g11, hg11⟩ : ∃ g, g10 + 1 = g := ⟨_, rfl⟩
  rw [hg11] at H6 ⊢
  have H7 := Lib.hid (H6.out.push 86 #[.func (.func 32) #[] #[.pointer (some ⟨g4, 0, none⟩), .pointer (some ⟨g5, 0, none⟩), .pointer (some ⟨g11, 0, none⟩)], .func (.func 34) #[] #[.pointer (some ⟨g4, 0, none⟩), .pointer (some ⟨g5, 0, none⟩), .pointer (some ⟨g11, 0, none⟩), .pointer (some ⟨g6, 0, none⟩), .pointer (some ⟨g10, 0, none⟩)], .func (.func 36) #[] #[.pointer (some ⟨g4, 0, none⟩), .pointer (some ⟨g5, 0, none⟩), .pointer (some ⟨g10, 0, none⟩)], .func (.func 38) #[] #[.pointer (some ⟨g4, 0, none⟩), .pointer (some ⟨g5, 0, none⟩), .pointer (some ⟨g10, 0, none⟩)], .func (.func 42) #[] #[.pointer (some ⟨g4, 0, none⟩), .pointer (some ⟨g5, 0, none⟩), .pointer (some ⟨g11, 0, none⟩)], .func (.func 44) #[] #[.pointer (some ⟨g4, 0, none⟩), .pointer (some ⟨g5, 0, none⟩), .pointer (some ⟨g11, 0, none⟩)]])
  simp only [World.size_alloc] at H7
  rw [hg10, hg11] at H7
  obtain ⟨gf, hgf⟩ : ∃ g, g11 + 1 = g := ⟨_, rfl⟩
  rw [hgf] at H7 ⊢
  obtain ⟨W, hW⟩ : ∃ W, ((w1.alloc (.cells #[.int .u64 0] 33)).alloc (.cells #[.int .i64 ((k : Int) + (n : Int))] 3)).alloc (.cells #[.func (.func 32) #[] #[.pointer (some ⟨g4, 0, none⟩), .pointer (some ⟨g5, 0, none⟩), .pointer (some ⟨g11, 0, none⟩)], .func (.func 34) #[] #[.pointer (some ⟨g4, 0, none⟩), .pointer (some ⟨g5, 0, none⟩), .pointer (some ⟨g11, 0, none⟩), .pointer (some ⟨g6, 0, none⟩), .pointer (some ⟨g10, 0, none⟩)], .func (.func 36) #[] #[.pointer (some ⟨g4, 0, none⟩), .pointer (some ⟨g5, 0, none⟩), .pointer (some ⟨g10, 0, none⟩)], .func (.func 38) #[] #[.pointer (some ⟨g4, 0, none⟩), .pointer (some ⟨g5, 0, none⟩), .pointer (some ⟨g10, 0, none⟩)], .func (.func 42) #[] #[.pointer (some ⟨g4, 0, none⟩), .pointer (some ⟨g5, 0, none⟩), .pointer (some ⟨g11, 0, none⟩)], .func (.func 44) #[] #[.pointer (some ⟨g4, 0, none⟩), .pointer (some ⟨g5, 0, none⟩), .pointer (some ⟨g11, 0, none⟩)]] 86) = W := ⟨_, rfl⟩
  rw [hW] at H7 ⊢
  have H8 : Hid (Wk w F W ((g10, 33, #[.int .u64 0]) :: [(gf, 86, #[.func (.func 32) #[] #[.pointer (some ⟨g4, 0, none⟩), .pointer (some ⟨g5, 0, none⟩), .pointer (some ⟨g11, 0, none⟩)], .func (.func 34) #[] #[.pointer (some ⟨g4, 0, none⟩), .pointer (some ⟨g5, 0, none⟩), .pointer (some ⟨g11, 0, none⟩), .pointer (some ⟨g6, 0, none⟩), .pointer (some ⟨g10, 0, none⟩)], .func (.func 36) #[] #[.pointer (some ⟨g4, 0, none⟩), .pointer (some ⟨g5, 0, none⟩), .pointer (some ⟨g10, 0, none⟩)], .func (.func 38) #[] #[.pointer (some ⟨g4, 0, none⟩), .pointer (some ⟨g5, 0, none⟩), .pointer (some ⟨g10, 0, none⟩)], .func (.func 42) #[] #[.pointer (some ⟨g4, 0, none⟩), .pointer (some ⟨g5, 0, none⟩), .pointer (some ⟨g11, 0, none⟩)], .func (.func 44) #[] #[.pointer (some ⟨g4, 0, none⟩), .pointer (some ⟨g5, 0, none⟩), .pointer (some ⟨g11, 0, none⟩)]]), (g11, 3, #[.int .i64 ((k : Int) + (n : Int))]), (g6, 3, #[.int .i64 (k : Int)]), (g5, 39, #[.int .i64 s, .int .i64 r, .int .i64 d, .int .i64 f]), (g4, 29, #[.pointer (some ⟨p, 0, none⟩)])]) p C E) := Lib.hid (H7.out.sub (fun x hx => by simp at hx ⊢; rcases hx with h | h | h | h | h | h <;> simp [h]) (by have := H7.out.nodup; simp at this ⊢; omega))
  clear hW hg10 hg11 hgf hg4 hg5 hg6 H4 H5 H6 H7 c6
  have hsr : (-9223372036854775808 ≤ s ∧ s ≤ 9223372036854775807) ∧ (-9223372036854775808 ≤ r ∧ r ≤ 9223372036854775807) := by
    have q1 := HZ.out.s1; have q2 := HZ.out.s2; have q3 := HZ.out.r1; have q4 := HZ.out.r2; have q5 := hc2.out
    omega
  have HSR := Lib.hid hsr
  clear hsr
  go_loopw [36] (fun i wr => ∃ j : Nat, j ≤ 6 ∧ i = .int .i64 (j : Int) ∧ Wk w F wr ((g10, 33, #[.int .u64 (n64 (cpK s r d f k n C E j).2.2)]) :: [(gf, 86, #[.func (.func 32) #[] #[.pointer (some ⟨g4, 0, none⟩), .pointer (some ⟨g5, 0, none⟩), .pointer (some ⟨g11, 0, none⟩)], .func (.func 34) #[] #[.pointer (some ⟨g4, 0, none⟩), .pointer (some ⟨g5, 0, none⟩), .pointer (some ⟨g11, 0, none⟩), .pointer (some ⟨g6, 0, none⟩), .pointer (some ⟨g10, 0, none⟩)], .func (.func 36) #[] #[.pointer (some ⟨g4, 0, none⟩), .pointer (some ⟨g5, 0, none⟩), .pointer (some ⟨g10, 0, none⟩)], .func (.func 38) #[] #[.pointer (some ⟨g4, 0, none⟩), .pointer (some ⟨g5, 0, none⟩), .pointer (some ⟨g10, 0, none⟩)], .func (.func 42) #[] #[.pointer (some ⟨g4, 0, none⟩), .pointer (some ⟨g5, 0, none⟩), .pointer (some ⟨g11, 0, none⟩)], .func (.func 44) #[] #[.pointer (some ⟨g4, 0, none⟩), .pointer (some ⟨g5, 0, none⟩), .pointer (some ⟨g11, 0, none⟩)]]), (g11, 3, #[.int .i64 ((k : Int) + (n : Int))]), (g6, 3, #[.int .i64 (k : Int)]), (g5, 39, #[.int .i64 s, .int .i64 r, .int .i64 d, .int .i64 f]), (g4, 29, #[.pointer (some ⟨p, 0, none⟩)])]) p (cpK s r d f k n C E j).1 (cpK s r d f k n C E j).2.1) (fun i _ => 6 - (intOf i).toNat)
  case atStart => exact ⟨0, Nat.zero_le _, rfl, H8.out⟩
  case round =>
    obtain ⟨j, hj, rfl, hrel⟩ := hrel
    have hj7 : j = 0 ∨ j = 1 ∨ j = 2 ∨ j = 3 ∨ j = 4 ∨ j = 5 ∨ j = 6 := by omega
    clear hj H8
    rcases hj7 with rfl | rfl | rfl | rfl | rfl | rfl | rfl
    · have h9 := hrel
      have kF := (hrel.blk (b := gf) (t := 86) (cs := #[.func (.func 32) #[] #[.pointer (some ⟨g4, 0, none⟩), .pointer (some ⟨g5, 0, none⟩), .pointer (some ⟨g11, 0, none⟩)], .func (.func 34) #[] #[.pointer (some ⟨g4, 0, none⟩), .pointer (some ⟨g5, 0, none⟩), .pointer (some ⟨g11, 0, none⟩), .pointer (some ⟨g6, 0, none⟩), .pointer (some ⟨g10, 0, none⟩)], .func (.func 36) #[] #[.pointer (some ⟨g4, 0, none⟩), .pointer (some ⟨g5, 0, none⟩), .pointer (some ⟨g10, 0, none⟩)], .func (.func 38) #[] #[.pointer (some ⟨g4, 0, none⟩), .pointer (some ⟨g5, 0, none⟩), .pointer (some ⟨g10, 0, none⟩)], .func (.func 42) #[] #[.pointer (some ⟨g4, 0, none⟩), .pointer (some ⟨g5, 0, none⟩), .pointer (some ⟨g11, 0, none⟩)], .func (.func 44) #[] #[.pointer (some ⟨g4, 0, none⟩), .pointer (some ⟨g5, 0, none⟩), .pointer (some ⟨g11, 0, none⟩)]]) (by simp)).cell 0
      simp only [List.getElem?_toArray, List.getElem?_cons_succ, List.getElem?_cons_zero] at kF
      have HC := Lib.hid (clo1 (bs := ((g10, 33, #[.int .u64 (n64 (cpK s r d f k n C E 0).2.2)]) :: [(gf, 86, #[.func (.func 32) #[] #[.pointer (some ⟨g4, 0, none⟩), .pointer (some ⟨g5, 0, none⟩), .pointer (some ⟨g11, 0, none⟩)], .func (.func 34) #[] #[.pointer (some ⟨g4, 0, none⟩), .pointer (some ⟨g5, 0, none⟩), .pointer (some ⟨g11, 0, none⟩), .pointer (some ⟨g6, 0, none⟩), .pointer (some ⟨g10, 0, none⟩)], .func (.func 36) #[] #[.pointer (some ⟨g4, 0, none⟩), .pointer (some ⟨g5, 0, none⟩), .pointer (some ⟨g10, 0, none⟩)], .func (.func 38) #[] #[.pointer (some ⟨g4, 0, none⟩), .pointer (some ⟨g5, 0, none⟩), .pointer (some ⟨g10, 0, none⟩)], .func (.func 42) #[] #[.pointer (some ⟨g4, 0, none⟩), .pointer (some ⟨g5, 0, none⟩), .pointer (some ⟨g11, 0, none⟩)], .func (.func 44) #[] #[.pointer (some ⟨g4, 0, none⟩), .pointer (some ⟨g5, 0, none⟩), .pointer (some ⟨g11, 0, none⟩)]]), (g11, 3, #[.int .i64 ((k : Int) + (n : Int))]), (g6, 3, #[.int .i64 (k : Int)]), (g5, 39, #[.int .i64 s, .int .i64 r, .int .i64 d, .int .i64 f]), (g4, 29, #[.pointer (some ⟨p, 0, none⟩)])])) (b4 := g4) (b5 := g5) (b11 := g11) (a := (k : Int) + (n : Int)) (d := d) (f := f) h9 (by simp) (by simp) (by simp) (cpZ0 HZ.out))
      clear hrel h9
      go_wp2_with fail
      refine HC.out.mono ?_
      rintro e w2 ⟨rfl, h2⟩
      have H2 := Lib.hid h2
      clear h2 HC
      go_wp2_with fail
      go_roundw
      case rel => exact ⟨1, by omega, by rfl, H2.out⟩
      case measure => simp [intOf]
    · have h9 := hrel
      have kF := (hrel.blk (b := gf) (t := 86) (cs := #[.func (.func 32) #[] #[.pointer (some ⟨g4, 0, none⟩), .pointer (some ⟨g5, 0, none⟩), .pointer (some ⟨g11, 0, none⟩)], .func (.func 34) #[] #[.pointer (some ⟨g4, 0, none⟩), .pointer (some ⟨g5, 0, none⟩), .pointer (some ⟨g11, 0, none⟩), .pointer (some ⟨g6, 0, none⟩), .pointer (some ⟨g10, 0, none⟩)], .func (.func 36) #[] #[.pointer (some ⟨g4, 0, none⟩), .pointer (some ⟨g5, 0, none⟩), .pointer (some ⟨g10, 0, none⟩)], .func (.func 38) #[] #[.pointer (some ⟨g4, 0, none⟩), .pointer (some ⟨g5, 0, none⟩), .pointer (some ⟨g10, 0, none⟩)], .func (.func 42) #[] #[.pointer (some ⟨g4, 0, none⟩), .pointer (some ⟨g5, 0, none⟩), .pointer (some ⟨g11, 0, none⟩)], .func (.func 44) #[] #[.pointer (some ⟨g4, 0, none⟩), .pointer (some ⟨g5, 0, none⟩), .pointer (some ⟨g11, 0, none⟩)]]) (by simp)).cell 1
      simp only [List.getElem?_toArray, List.getElem?_cons_succ, List.getElem?_cons_zero] at kF
      have HC := Lib.hid (clo2 (bs := [(gf, 86, #[.func (.func 32) #[] #[.pointer (some ⟨g4, 0, none⟩), .pointer (some ⟨g5, 0, none⟩), .pointer (some ⟨g11, 0, none⟩)], .func (.func 34) #[] #[.pointer (some ⟨g4, 0, none⟩), .pointer (some ⟨g5, 0, none⟩), .pointer (some ⟨g11, 0, none⟩), .pointer (some ⟨g6, 0, none⟩), .pointer (some ⟨g10, 0, none⟩)], .func (.func 36) #[] #[.pointer (some ⟨g4, 0, none⟩), .pointer (some ⟨g5, 0, none⟩), .pointer (some ⟨g10, 0, none⟩)], .func (.func 38) #[] #[.pointer (some ⟨g4, 0, none⟩), .pointer (some ⟨g5, 0, none⟩), .pointer (some ⟨g10, 0, none⟩)], .func (.func 42) #[] #[.pointer (some ⟨g4, 0, none⟩), .pointer (some ⟨g5, 0, none⟩), .pointer (some ⟨g11, 0, none⟩)], .func (.func 44) #[] #[.pointer (some ⟨g4, 0, none⟩), .pointer (some ⟨g5, 0, none⟩), .pointer (some ⟨g11, 0, none⟩)]]), (g11, 3, #[.int .i64 ((k : Int) + (n : Int))]), (g6, 3, #[.int .i64 (k : Int)]), (g5, 39, #[.int .i64 s, .int .i64 r, .int .i64 d, .int .i64 f]), (g4, 29, #[.pointer (some ⟨p, 0, none⟩)])]) (b10 := g10) (b4 := g4) (b5 := g5) (b11 := g11) (b6 := g6) (a := (k : Int) + (n : Int)) (d := d) (f := f) (k := (k : Int)) h9 (by simp) (by simp) (by simp) (by simp) (by omega) (cpZ1 HZ.out))
      clear hrel h9
      go_wp2_with fail
      refine HC.out.mono ?_
      rintro e w2 ⟨rfl, h2⟩
      have H2 := Lib.hid h2
      clear h2 HC
      go_wp2_with fail
      go_roundw
      case rel => exact ⟨2, by omega, by rfl, H2.out⟩
      case measure => simp [intOf]
    · have h9 := hrel
      have kF := (hrel.blk (b := gf) (t := 86) (cs := #[.func (.func 32) #[] #[.pointer (some ⟨g4, 0, none⟩), .pointer (some ⟨g5, 0, none⟩), .pointer (some ⟨g11, 0, none⟩)], .func (.func 34) #[] #[.pointer (some ⟨g4, 0, none⟩), .pointer (some ⟨g5, 0, none⟩), .pointer (some ⟨g11, 0, none⟩), .pointer (some ⟨g6, 0, none⟩), .pointer (some ⟨g10, 0, none⟩)], .func (.func 36) #[] #[.pointer (some ⟨g4, 0, none⟩), .pointer (some ⟨g5, 0, none⟩), .pointer (some ⟨g10, 0, none⟩)], .func (.func 38) #[] #[.pointer (some ⟨g4, 0, none⟩), .pointer (some ⟨g5, 0, none⟩), .pointer (some ⟨g10, 0, none⟩)], .func (.func 42) #[] #[.pointer (some ⟨g4, 0, none⟩), .pointer (some ⟨g5, 0, none⟩), .pointer (some ⟨g11, 0, none⟩)], .func (.func 44) #[] #[.pointer (some ⟨g4, 0, none⟩), .pointer (some ⟨g5, 0, none⟩), .pointer (some ⟨g11, 0, none⟩)]]) (by simp)).cell 2
      simp only [List.getElem?_toArray, List.getElem?_cons_succ, List.getElem?_cons_zero] at kF
      have HC := Lib.hid (clo3 (bs := ((g10, 33, #[.int .u64 (n64 (cpK s r d f k n C E 2).2.2)]) :: [(gf, 86, #[.func (.func 32) #[] #[.pointer (some ⟨g4, 0, none⟩), .pointer (some ⟨g5, 0, none⟩), .pointer (some ⟨g11, 0, none⟩)], .func (.func 34) #[] #[.pointer (some ⟨g4, 0, none⟩), .pointer (some ⟨g5, 0, none⟩), .pointer (some ⟨g11, 0, none⟩), .pointer (some ⟨g6, 0, none⟩), .pointer (some ⟨g10, 0, none⟩)], .func (.func 36) #[] #[.pointer (some ⟨g4, 0, none⟩), .pointer (some ⟨g5, 0, none⟩), .pointer (some ⟨g10, 0, none⟩)], .func (.func 38) #[] #[.pointer (some ⟨g4, 0, none⟩), .pointer (some ⟨g5, 0, none⟩), .pointer (some ⟨g10, 0, none⟩)], .func (.func 42) #[] #[.pointer (some ⟨g4, 0, none⟩), .pointer (some ⟨g5, 0, none⟩), .pointer (some ⟨g11, 0, none⟩)], .func (.func 44) #[] #[.pointer (some ⟨g4, 0, none⟩), .pointer (some ⟨g5, 0, none⟩), .pointer (some ⟨g11, 0, none⟩)]]), (g11, 3, #[.int .i64 ((k : Int) + (n : Int))]), (g6, 3, #[.int .i64 (k : Int)]), (g5, 39, #[.int .i64 s, .int .i64 r, .int .i64 d, .int .i64 f]), (g4, 29, #[.pointer (some ⟨p, 0, none⟩)])])) (b4 := g4) (b5 := g5) (b10 := g10) (s := s) (r := r) (f := f) h9 (by simp) (by simp) (by simp) (cpZ2 HZ.out))
      clear hrel h9
      go_wp2_with fail
      refine HC.out.mono ?_
      rintro e w2 ⟨rfl, h2⟩
      have H2 := Lib.hid h2
      clear h2 HC
      go_wp2_with fail
      go_roundw
      case rel => exact ⟨3, by omega, by rfl, H2.out⟩
      case measure => simp [intOf]
    · have h9 := hrel
      have kF := (hrel.blk (b := gf) (t := 86) (cs := #[.func (.func 32) #[] #[.pointer (some ⟨g4, 0, none⟩), .pointer (some ⟨g5, 0, none⟩), .pointer (some ⟨g11, 0, none⟩)], .func (.func 34) #[] #[.pointer (some ⟨g4, 0, none⟩), .pointer (some ⟨g5, 0, none⟩), .pointer (some ⟨g11, 0, none⟩), .pointer (some ⟨g6, 0, none⟩), .pointer (some ⟨g10, 0, none⟩)], .func (.func 36) #[] #[.pointer (some ⟨g4, 0, none⟩), .pointer (some ⟨g5, 0, none⟩), .pointer (some ⟨g10, 0, none⟩)], .func (.func 38) #[] #[.pointer (some ⟨g4, 0, none⟩), .pointer (some ⟨g5, 0, none⟩), .pointer (some ⟨g10, 0, none⟩)], .func (.func 42) #[] #[.pointer (some ⟨g4, 0, none⟩), .pointer (some ⟨g5, 0, none⟩), .pointer (some ⟨g11, 0, none⟩)], .func (.func 44) #[] #[.pointer (some ⟨g4, 0, none⟩), .pointer (some ⟨g5, 0, none⟩), .pointer (some ⟨g11, 0, none⟩)]]) (by simp)).cell 3
      simp only [List.getElem?_toArray, List.getElem?_cons_succ, List.getElem?_cons_zero] at kF
      have HC := Lib.hid (clo4 (bs := ((g10, 33, #[.int .u64 (n64 (cpK s r d f k n C E 3).2.2)]) :: [(gf, 86, #[.func (.func 32) #[] #[.pointer (some ⟨g4, 0, none⟩), .pointer (some ⟨g5, 0, none⟩), .pointer (some ⟨g11, 0, none⟩)], .func (.func 34) #[] #[.pointer (some ⟨g4, 0, none⟩), .pointer (some ⟨g5, 0, none⟩), .pointer (some ⟨g11, 0, none⟩), .pointer (some ⟨g6, 0, none⟩), .pointer (some ⟨g10, 0, none⟩)], .func (.func 36) #[] #[.pointer (some ⟨g4, 0, none⟩), .pointer (some ⟨g5, 0, none⟩), .pointer (some ⟨g10, 0, none⟩)], .func (.func 38) #[] #[.pointer (some ⟨g4, 0, none⟩), .pointer (some ⟨g5, 0, none⟩), .pointer (some ⟨g10, 0, none⟩)], .func (.func 42) #[] #[.pointer (some ⟨g4, 0, none⟩), .pointer (some ⟨g5, 0, none⟩), .pointer (some ⟨g11, 0, none⟩)], .func (.func 44) #[] #[.pointer (some ⟨g4, 0, none⟩), .pointer (some ⟨g5, 0, none⟩), .pointer (some ⟨g11, 0, none⟩)]]), (g11, 3, #[.int .i64 ((k : Int) + (n : Int))]), (g6, 3, #[.int .i64 (k : Int)]), (g5, 39, #[.int .i64 s, .int .i64 r, .int .i64 d, .int .i64 f]), (g4, 29, #[.pointer (some ⟨p, 0, none⟩)])])) (b4 := g4) (b5 := g5) (b10 := g10) (s := s) (r := r) (d := d) h9 (by simp) (by simp) (by simp) (cpZ3 HZ.out))
      clear hrel h9
      go_wp2_with fail
      refine HC.out.mono ?_
      rintro e w2 ⟨rfl, h2⟩
      have H2 := Lib.hid h2
      clear h2 HC
      go_wp2_with fail
      go_roundw
      case rel => exact ⟨4, by omega, by rfl, H2.out⟩
      case measure => simp [intOf]
    · have h9 := hrel
      have kF := (hrel.blk (b := gf) (t := 86) (cs := #[.func (.func 32) #[] #[.pointer (some ⟨g4, 0, none⟩), .pointer (some ⟨g5, 0, none⟩), .pointer (some ⟨g11, 0, none⟩)], .func (.func 34) #[] #[.pointer (some ⟨g4, 0, none⟩), .pointer (some ⟨g5, 0, none⟩), .pointer (some ⟨g11, 0, none⟩), .pointer (some ⟨g6, 0, none⟩), .pointer (some ⟨g10, 0, none⟩)], .func (.func 36) #[] #[.pointer (some ⟨g4, 0, none⟩), .pointer (some ⟨g5, 0, none⟩), .pointer (some ⟨g10, 0, none⟩)], .func (.func 38) #[] #[.pointer (some ⟨g4, 0, none⟩), .pointer (some ⟨g5, 0, none⟩), .pointer (some ⟨g10, 0, none⟩)], .func (.func 42) #[] #[.pointer (some ⟨g4, 0, none⟩), .pointer (some ⟨g5, 0, none⟩), .pointer (some ⟨g11, 0, none⟩)], .func (.func 44) #[] #[.pointer (some ⟨g4, 0, none⟩), .pointer (some ⟨g5, 0, none⟩), .pointer (some ⟨g11, 0, none⟩)]]) (by simp)).cell 4
      simp only [List.getElem?_toArray, List.getElem?_cons_succ, List.getElem?_cons_zero] at kF
      have HC := Lib.hid (clo5 (bs := ((g10, 33, #[.int .u64 (n64 (cpK s r d f k n C E 4).2.2)]) :: [(gf, 86, #[.func (.func 32) #[] #[.pointer (some ⟨g4, 0, none⟩), .pointer (some ⟨g5, 0, none⟩), .pointer (some ⟨g11, 0, none⟩)], .func (.func 34) #[] #[.pointer (some ⟨g4, 0, none⟩), .pointer (some ⟨g5, 0, none⟩), .pointer (some ⟨g11, 0, none⟩), .pointer (some ⟨g6, 0, none⟩), .pointer (some ⟨g10, 0, none⟩)], .func (.func 36) #[] #[.pointer (some ⟨g4, 0, none⟩), .pointer (some ⟨g5, 0, none⟩), .pointer (some ⟨g10, 0, none⟩)], .func (.func 38) #[] #[.pointer (some ⟨g4, 0, none⟩), .pointer (some ⟨g5, 0, none⟩), .pointer (some ⟨g10, 0, none⟩)], .func (.func 42) #[] #[.pointer (some ⟨g4, 0, none⟩), .pointer (some ⟨g5, 0, none⟩), .pointer (some ⟨g11, 0, none⟩)], .func (.func 44) #[] #[.pointer (some ⟨g4, 0, none⟩), .pointer (some ⟨g5, 0, none⟩), .pointer (some ⟨g11, 0, none⟩)]]), (g11, 3, #[.int .i64 ((k : Int) + (n : Int))]), (g6, 3, #[.int .i64 (k : Int)]), (g5, 39, #[.int .i64 s, .int .i64 r, .int .i64 d, .int .i64 f]), (g4, 29, #[.pointer (some ⟨p, 0, none⟩)])])) (b4 := g4) (b5 := g5) (b11 := g11) (a := (k : Int) + (n : Int)) (d := d) (f := f) h9 (by simp) (by simp) (by simp) (cpZ4 HZ.out))
      clear hrel h9
      go_wp2_with fail
      refine HC.out.mono ?_
      rintro e w2 ⟨rfl, h2⟩
      have H2 := Lib.hid h2
      clear h2 HC
      go_wp2_with fail
      go_roundw
      case rel => exact ⟨5, by omega, by rfl, H2.out⟩
      case measure => simp [intOf]
    · have h9 := hrel
      have kF := (hrel.blk (b := gf) (t := 86) (cs := #[.func (.func 32) #[] #[.pointer (some ⟨g4, 0, none⟩), .pointer (some ⟨g5, 0, none⟩), .pointer (some ⟨g11, 0, none⟩)], .func (.func 34) #[] #[.pointer (some ⟨g4, 0, none⟩), .pointer (some ⟨g5, 0, none⟩), .pointer (some ⟨g11, 0, none⟩), .pointer (some ⟨g6, 0, none⟩), .pointer (some ⟨g10, 0, none⟩)], .func (.func 36) #[] #[.pointer (some ⟨g4, 0, none⟩), .pointer (some ⟨g5, 0, none⟩), .pointer (some ⟨g10, 0, none⟩)], .func (.func 38) #[] #[.pointer (some ⟨g4, 0, none⟩), .pointer (some ⟨g5, 0, none⟩), .pointer (some ⟨g10, 0, none⟩)], .func (.func 42) #[] #[.pointer (some ⟨g4, 0, none⟩), .pointer (some ⟨g5, 0, none⟩), .pointer (some ⟨g11, 0, none⟩)], .func (.func 44) #[] #[.pointer (some ⟨g4, 0, none⟩), .pointer (some ⟨g5, 0, none⟩), .pointer (some ⟨g11, 0, none⟩)]]) (by simp)).cell 5
      simp only [List.getElem?_toArray, List.getElem?_cons_succ, List.getElem?_cons_zero] at kF
      have HC := Lib.hid (clo6 (bs := ((g10, 33, #[.int .u64 (n64 (cpK s r d f k n C E 5).2.2)]) :: [(gf, 86, #[.func (.func 32) #[] #[.pointer (some ⟨g4, 0, none⟩), .pointer (some ⟨g5, 0, none⟩), .pointer (some ⟨g11, 0, none⟩)], .func (.func 34) #[] #[.pointer (some ⟨g4, 0, none⟩), .pointer (some ⟨g5, 0, none⟩), .pointer (some ⟨g11, 0, none⟩), .pointer (some ⟨g6, 0, none⟩), .pointer (some ⟨g10, 0, none⟩)], .func (.func 36) #[] #[.pointer (some ⟨g4, 0, none⟩), .pointer (some ⟨g5, 0, none⟩), .pointer (some ⟨g10, 0, none⟩)], .func (.func 38) #[] #[.pointer (some ⟨g4, 0, none⟩), .pointer (some ⟨g5, 0, none⟩), .pointer (some ⟨g10, 0, none⟩)], .func (.func 42) #[] #[.pointer (some ⟨g4, 0, none⟩), .pointer (some ⟨g5, 0, none⟩), .pointer (some ⟨g11, 0, none⟩)], .func (.func 44) #[] #[.pointer (some ⟨g4, 0, none⟩), .pointer (some ⟨g5, 0, none⟩), .pointer (some ⟨g11, 0, none⟩)]]), (g11, 3, #[.int .i64 ((k : Int) + (n : Int))]), (g6, 3, #[.int .i64 (k : Int)]), (g5, 39, #[.int .i64 s, .int .i64 r, .int .i64 d, .int .i64 f]), (g4, 29, #[.pointer (some ⟨p, 0, none⟩)])])) (b4 := g4) (b5 := g5) (b11 := g11) (a := (k : Int) + (n : Int)) (d := d) (f := f) h9 (by simp) (by simp) (by simp) HSR.out.1 HSR.out.2 (cpZ5 HZ.out))
      clear hrel h9
      go_wp2_with fail
      refine HC.out.mono ?_
      rintro e w2 ⟨rfl, h2⟩
      have H2 := Lib.hid h2
      clear h2 HC
      go_wp2_with fail
      go_roundw
      case rel => exact ⟨6, by omega, by rfl, H2.out⟩
      case measure => simp [intOf]
    · have HD := Lib.hid hrel.done
      clear hrel
      go_wp2_with fail
      go_ret
      exact ⟨rfl, HD.out⟩
theorem ccompact_any (h : Ar w F p C E) (s r d f k n : Int) :
    Calls Try.prog 12 #[.pointer (some ⟨p, 0, none⟩), .agg #[.int .i64 s, .int .i64 r, .int .i64 d, .int .i64 f], .int .i64 k, .int .i64 n] w fun e w' => e = .returned (.int .i64 (cpE C.length E.length s r d f k n)) ∧ ArTo w F p (if cpE C.length E.length s r d f k n = 0 then (cpK s r d f k n C E 6).1 else C) (if cpE C.length E.length s r d f k n = 0 then (cpK s r d f k n C E 6).2.1 else E) w' := by
  by_cases hz : cpE C.length E.length s r d f k n = 0
  · obtain ⟨k, n, rfl, rfl, ho⟩ := cpE_ok hz
    have := ccompact_ok h s r d f k n ho hz
    rwa [if_pos hz, if_pos hz, hz]
  · have := ccompact_err h s r d f k n hz
    rwa [if_neg hz, if_neg hz]
end
end Go.Proofs.Ytedbafgejladiaa

