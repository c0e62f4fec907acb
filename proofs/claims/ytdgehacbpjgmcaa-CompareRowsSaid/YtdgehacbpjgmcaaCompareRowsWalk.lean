/-
  The walk of dragnetlaw08.CompareRows.
-/
import Derived.Test.YtdgehacbpjgmcaaAwake08
import Derived.Test.YtdgehacbpjgmcaaRef08
import Derived.Test.YtdgehacbpjgmcaaOpen
import Derived.Test.YtdgehacbpjgmcaaOpenCap
import Derived.Test.YtdgehacbpjgmcaaTwin
import Derived.RegionTactic
import Derived.BigQuiet
import Derived.Deep.RegionHeldLaw
import Derived.Deep.AppendLies
namespace Go.Proofs.Ytdgehacbpjgmcaa
open Go.RowKit Go.ChangeShapes Go.WideShapes Go.ChangeAt
attribute [local go_sem] bits_and_u64 bits_or_u64 bits_xor_u64 bits_andNot_u64 wrap_u64 bv_add bv_neg bv_sub bv_mul
set_option linter.unusedVariables false
set_option maxRecDepth 100000
theorem wp_append_own_at {P : Program} {w : World} {o : Oper} {a : Act} {K : Act → World → Prop} {Q : Exit → Act → World → Prop} (s x : Operand) (t : TypeId)
    (ho : o.op = .call { callee := .builtin .append, args := #[s, x], argTypes := #[t, t] })
    (base : Nat) (e : TypeId) (i : TypeInfo) (z : Value) (size bytes : Nat) (ht : P.underlying t = some (.slice e)) (hi : P.info? e = some i) (hz : i.zero = some z)
    (hsize : i.size = size) (hby : i.bytes = bytes) (hzs : z.cells.size = size) (hsz : 0 < size)
    (v : Value) (n : Nat) (xs : List Value) (hs : a.eval s = v) (hown : w.ownsRow base e size v n xs)
    (ad : Addr) (m c : Nat) (news : List Value) (hx : a.eval x = .slice (some ad) m c) (hl : news.length = m * size) (hnews : ∀ j u, news[j]? = some u → w.cell? (ad.add j) = some u) (h1 : ∀ u ∈ news, u.oneCell' = true)
    (h63 : n + m ≤ maxLen) (hbytes : (n + m) * bytes ≤ 140737488355328) (hbase : base ≤ w.heap.size)
    (h : ∀ v' w', w'.ownsRow base e size v' (n + m) (xs ++ news) → w.grownBy w' v.ownBlock → (v' = .slice none 0 0 ↔ v = .slice none 0 0 ∧ m = 0) → (v'.ownBlock = v.ownBlock ∨ v'.ownBlock = some w.heap.size) → K (a.put o.dst v') w') : o.wp P a w K Q := by
  obtain ⟨v', w', hr, h2, h3, h4, h5⟩ := run_append_own_at (P := P) w base t o.type e i z size bytes ht hi hz hsize hby hzs hsz v n xs hown ad m c news hl hnews h1 h63 hbytes hbase
  unfold Oper.wp execOp
  simp only [ho, resolve, invoke, builtin, Sem.run_bind, Sem.run_pure, Result.andThen_ok, List.map_toArray, List.map_cons, List.map_nil, hs, hx, hr]
  exact h v' w' h2 h3 h4 h5
/-- The lesser of two numbers. -/
def mnN (a b : Nat) : Nat := if b < a then b else a
theorem run_min_nat {P : Program} {w : World} (ts : Array TypeId) (t : TypeId) (a b : Nat) : (Builtin.min_ ts t #[.int .i64 (a : Int), .int .i64 (b : Int)]).run P w = .ok (.int .i64 (mnN a b : Int)) w := by
  rw [run_min_int2]
  congr 2
  unfold mnN
  split <;> split <;> omega
/-- The order of two rows up to k cells. -/
def ozN (X Y : List (BitVec 64)) : Nat → Int
  | 0 => 0
  | k + 1 => if ozN X Y k = 0 then (if (cl X k).toNat < (cl Y k).toNat then -1 else if (cl Y k).toNat < (cl X k).toNat then 1 else 0) else ozN X Y k
theorem ozN_stay (X Y : List (BitVec 64)) (i k : Nat) (h : ozN X Y i ≠ 0) : ozN X Y (i + k) = ozN X Y i := by
  induction k with
  | zero => rfl
  | succ k ih => show (if ozN X Y (i + k) = 0 then _ else ozN X Y (i + k)) = _; rw [ih, if_neg h]
theorem ozN_end (X Y : List (BitVec 64)) (i n : Nat) (hi : i ≤ n) (h : ozN X Y i ≠ 0) : ozN X Y n = ozN X Y i := by
  have := ozN_stay X Y i (n - i) h
  rwa [Nat.add_sub_cancel' hi] at this
theorem cl_left (A B : List (BitVec 64)) (k : Nat) (h : k < A.length) : cl (A ++ B) k = cl A k := by unfold cl; rw [List.getD_eq_getElem?_getD, List.getD_eq_getElem?_getD, List.getElem?_append_left h]
theorem cl_right (A B : List (BitVec 64)) (n k : Nat) (h : A.length = n) : cl (A ++ B) (n + k) = cl B k := by unfold cl; rw [List.getD_eq_getElem?_getD, List.getD_eq_getElem?_getD, List.getElem?_append_right (by omega), h, Nat.add_sub_cancel_left]
theorem cl_tk (A : List (BitVec 64)) (k i : Nat) (h : i < k) : cl (A.take k) i = cl A i := by unfold cl; rw [List.getD_eq_getElem?_getD, List.getD_eq_getElem?_getD, List.getElem?_take, if_pos h]
theorem ozN_range (X Y : List (BitVec 64)) (k : Nat) : ozN X Y k = 0 ∨ ozN X Y k = -1 ∨ ozN X Y k = 1 := by
  induction k with
  | zero => exact .inl rfl
  | succ k ih =>
    rw [show ozN X Y (k + 1) = if ozN X Y k = 0 then (if (cl X k).toNat < (cl Y k).toNat then -1 else if (cl Y k).toNat < (cl X k).toNat then 1 else 0) else ozN X Y k from rfl]
    split
    · split
      · exact .inr (.inl rfl)
      · split
        · exact .inr (.inr rfl)
        · exact .inl rfl
    · exact ih
theorem ord_oz (X Y : List (BitVec 64)) (n k : Nat) (hx : n ≤ X.length) (hy : n ≤ Y.length) (hk : k ≤ n) :
    ordR (X.take n ++ Y.take n) 0 n k = (decide (ozN X Y k = 0), decide (ozN X Y k < 0)) ∧ ordR (X.take n ++ Y.take n) n 0 k = (decide (ozN X Y k = 0), decide (ozN X Y k > 0)) := by
  induction k with
  | zero => exact ⟨rfl, rfl⟩
  | succ k ih =>
    obtain ⟨h1, h2⟩ := ih (by omega)
    have hl : (X.take n).length = n := by rw [List.length_take]; omega
    have c1 : cl (X.take n ++ Y.take n) (0 + k) = cl X k := by rw [Nat.zero_add, cl_left _ _ _ (by omega), cl_tk _ _ _ (by omega)]
    have c2 : cl (X.take n ++ Y.take n) (n + k) = cl Y k := by rw [cl_right _ _ n k hl, cl_tk _ _ _ (by omega)]
    have hs : ozN X Y (k + 1) = if ozN X Y k = 0 then (if (cl X k).toNat < (cl Y k).toNat then -1 else if (cl Y k).toNat < (cl X k).toNat then 1 else 0) else ozN X Y k := rfl
    rw [ordR_succ, ordR_succ, h1, h2, c1, c2, hs]
    have heq : ∀ a b : BitVec 64, (a = b) ↔ a.toNat = b.toNat := fun a b => BitVec.toNat_inj.symm
    rcases ozN_range X Y k with h | h | h
    · rw [h]
      simp only [if_pos]
      rcases Nat.lt_trichotomy (cl X k).toNat (cl Y k).toNat with g | g | g
      · rw [if_pos g]
        simp [heq, g, Nat.ne_of_lt g, Nat.not_lt_of_lt g, (Nat.ne_of_lt g).symm]
      · rw [if_neg (by omega), if_neg (by omega)]
        simp [heq, g]
      · rw [if_neg (by omega), if_pos g]
        simp [heq, g, (Nat.ne_of_lt g).symm, Nat.not_lt_of_lt g, Nat.ne_of_lt g]
    · rw [h]; simp
    · rw [h]; simp
theorem n64_ltB (a b : BitVec 64) : (n64 a < n64 b) ↔ a.toNat < b.toNat := by unfold n64; omega
section
variable {w0 w : World} {bs : Bks} {p : Nat} {C : List (BitVec 64)} {E : List Ev}
theorem One.lt (h : One w0 w bs p C E) (x y n : Nat) (hz : crE C.length E.length x y n = 0) :
    Calls Try.prog 11 #[.pointer (some ⟨p, 0, none⟩), .int .i64 (x : Int), .int .i64 (y : Int), .int .i64 (n : Int)] w fun e w' => e = .returned (.tuple #[.int .u64 (n64 (msk (ordR C x y n).2)), .int .i64 0]) ∧ One w0 w' bs p C (evR x y E n) :=
  h.call fun w F ha => (ltRows_any ha x y n).mono fun e w' ⟨he, ht⟩ => by
    unfold crR at he ht
    rw [if_pos hz] at he ht
    exact ⟨he, ht⟩
theorem One.eqr (h : One w0 w bs p C E) (x y n : Nat) (hz : crE C.length E.length x y n = 0) :
    Calls Try.prog 12 #[.pointer (some ⟨p, 0, none⟩), .int .i64 (x : Int), .int .i64 (y : Int), .int .i64 (n : Int)] w fun e w' => e = .returned (.tuple #[.int .u64 (n64 (msk (ordR C x y n).1)), .int .i64 0]) ∧ One w0 w' bs p C (evR x y E n) :=
  h.call fun w F ha => (eqRows_any ha x y n).mono fun e w' ⟨he, ht⟩ => by
    unfold crR at he ht
    rw [if_pos hz] at he ht
    exact ⟨he, ht⟩
end
theorem crE_ok {nC nE : Nat} {x y n : Nat} (h1 : 1 ≤ n) (h2 : n ≤ 64) (h3 : x + n ≤ nC) (h4 : y + n ≤ nC) (h5 : nE + 2 * n ≤ 100000) : crE nC nE x y n = 0 := by
  have e1 : hasE nC x n = 0 := by unfold hasE; rw [if_neg (by omega)]
  have e2 : hasE nC y n = 0 := by unfold hasE; rw [if_neg (by omega)]
  have e3 : ccE nC x y n = 0 := by unfold ccE; rw [if_neg (by omega), e1, if_pos rfl, e2]
  unfold crE
  rw [e3, if_pos rfl]
  unfold roomE
  rw [if_neg (by omega), if_neg (by omega)]
set_option maxHeartbeats 8000000 in
theorem rows_small {w : World} (b0 o0 c0 b1 o1 c1 n0 n1 n : Nat) (X Y : List (BitVec 64)) (hX : X.length = n0) (hY : Y.length = n1) (hb0 : b0 < w.heap.size) (hb1 : b1 < w.heap.size)
    (hc0 : ∀ j u, (u64s X)[j]? = some u → w.cell? ⟨b0, o0 + j, none⟩ = some u) (hc1 : ∀ j u, (u64s Y)[j]? = some u → w.cell? ⟨b1, o1 + j, none⟩ = some u)
    (hn : mnN n0 n1 = n) (hn1 : 1 ≤ n) (hn2 : n ≤ 64) (m0 : n0 ≤ c0) (m1 : n1 ≤ c1) :
    Calls Try.prog 3 #[.slice (some ⟨b0, o0, none⟩) n0 c0, .slice (some ⟨b1, o1, none⟩) n1 c1] w (BoolNew true w) := by
  obtain ⟨i0, hi, hz0, hz1, hz2⟩ := info_parts Try.infoU
  have hle : n ≤ n0 ∧ n ≤ n1 := by rw [← hn]; unfold mnN; split <;> omega
  obtain ⟨hle0, hle1⟩ := hle
  have hd1 : decide ((n : Int) < 1) = false := decide_eq_false (by omega)
  have hd2 : decide (64 < (n : Int)) = false := decide_eq_false (by omega)
  have s0 : n ≤ c0 := by omega
  have s1 : n ≤ c1 := by omega
  have s0i : (n : Int) ≤ (c0 : Int) := by omega
  have s1i : (n : Int) ≤ (c1 : Int) := by omega
  have HB := Lib.hid (And.intro hb0 (And.intro hb1 (And.intro hc0 (And.intro hc1 (And.intro hX hY)))))
  have hmn : ∀ w, (Builtin.min_ #[3, 3] 3 #[.int .i64 (n0 : Int), .int .i64 (n1 : Int)]).run Try.prog w = .ok (.int .i64 (n : Int)) w := fun w => by
    have := run_min_nat (P := Try.prog) (w := w) #[3, 3] 3 n0 n1
    rwa [hn] at this
  have TX : Hid (∀ W, Off Nob w W → ∀ (j : Nat) (y : Value), (u64s (X.take n))[j]? = some y → W.cell? ((⟨b0, o0, none⟩ : Addr).add j) = some y) := Lib.hid (fun W o j y hy => by
    rw [add_addr, o.cell_old hb0]
    refine hc0 j y ?_
    unfold u64s at hy ⊢
    rw [List.map_take, List.getElem?_take] at hy
    split at hy
    · exact hy
    · cases hy)
  have TY : Hid (∀ W, Off Nob w W → ∀ (j : Nat) (y : Value), (u64s (Y.take n))[j]? = some y → W.cell? ((⟨b1, o1, none⟩ : Addr).add j) = some y) := Lib.hid (fun W o j y hy => by
    rw [add_addr, o.cell_old hb1]
    refine hc1 j y ?_
    unfold u64s at hy ⊢
    rw [List.map_take, List.getElem?_take] at hy
    split at hy
    · exact hy
    · cases hy)
  have LX : Hid ((X.take n).length = n) := Lib.hid (by rw [List.length_take]; omega)
  have LY : Hid ((Y.take n).length = n) := Lib.hid (by rw [List.length_take]; omega)
  clear hn hX hY hb0 hb1 hc0 hc1
  go_enter Try.func3, Try.ntmps3
  go_wp2_with fail
  have hp : 0 < n := hn1
  go_region_held_law (fun _ => True) (trivial)
    (first
      | (go_at_call 10; refine (arena_any (W3.out.keep (by first | with_reducible exact Off.refl _ _ | with_reducible exact Off.drew (Off.refl _ _) | with_reducible exact Off.alloc (Off.refl _ _) _ | with_reducible exact Off.drew (Off.alloc (Off.refl _ _) _) | with_reducible exact Off.alloc (Off.drew (Off.refl _ _)) _ | with_reducible exact Off.drew (Off.alloc (Off.drew (Off.refl _ _)) _)) (fun _ _ h => h)) (by rw [List.length_append, LX.out, LY.out]; omega)).mono ?_; rintro e w3 h3; obtain ⟨p, r, rfl, k3⟩ := h3.one (w0 := w) (bs := []) (O2.out.also (by first | with_reducible exact Off.refl _ _ | with_reducible exact Off.drew (Off.refl _ _) | with_reducible exact Off.alloc (Off.refl _ _) _ | with_reducible exact Off.drew (Off.alloc (Off.refl _ _) _) | with_reducible exact Off.alloc (Off.drew (Off.refl _ _)) _ | with_reducible exact Off.drew (Off.alloc (Off.drew (Off.refl _ _)) _))) (fun x hx => by cases hx); have H3 := Lib.hid k3; clear h3 k3)
      | (refine step_append_lies _ rfl _ _ 22 rfl w.heap.size 28 i0 (.int .u64 0) 1 8 Try.underlying22 hi hz0 hz1 hz2 rfl (by decide) (.slice (some ⟨w.heap.size, 0, none⟩) 0 0) 0 [] rfl (by first | with_reducible exact World.ownsRow_made w #[] 0 (Nat.le_refl _) (Nat.zero_le _) rfl | exact own_to (World.ownsRow_made w #[] 0 (Nat.le_refl _) (Nat.zero_le _) rfl) (fun _ _ => rfl)) ⟨b0, o0, none⟩ n c0 (u64s (X.take n)) rfl (by rw [length_u64s, LX.out, Nat.mul_one]) (TX.out _ (by first | with_reducible exact Off.refl _ _ | with_reducible exact Off.drew (Off.refl _ _) | with_reducible exact Off.alloc (Off.refl _ _) _ | with_reducible exact Off.drew (Off.alloc (Off.refl _ _) _) | with_reducible exact Off.alloc (Off.drew (Off.refl _ _)) _ | with_reducible exact Off.drew (Off.alloc (Off.drew (Off.refl _ _)) _))) (u64s_one' _) hp (by unfold maxLen; omega) (by omega) (by simp) _ rfl ?_; intro g1 cap1 w1 hw1 hg1 ha1 hl1; have O1 : Hid (Off Nob w w1) := Lib.hid (Off.grown (by first | with_reducible exact Off.refl _ _ | with_reducible exact Off.drew (Off.refl _ _) | with_reducible exact Off.alloc (Off.refl _ _) _ | with_reducible exact Off.drew (Off.alloc (Off.refl _ _) _) | with_reducible exact Off.alloc (Off.drew (Off.refl _ _)) _ | with_reducible exact Off.drew (Off.alloc (Off.drew (Off.refl _ _)) _)) hg1 (fun k hk => .inr (by simp [Value.ownBlock] at hk; omega))); have W1 := Lib.hid hw1; clear hw1 hg1 ha1 hl1)
      | (refine step_append_lies _ rfl _ _ 22 rfl w.heap.size 28 i0 (.int .u64 0) 1 8 Try.underlying22 hi hz0 hz1 hz2 rfl (by decide) (.slice (some ⟨g1, 0, none⟩) (0 + n) cap1) (0 + n) ([] ++ u64s (X.take n)) rfl (by first | with_reducible exact W1.out | exact own_to W1.out (fun _ _ => rfl)) ⟨b1, o1, none⟩ n c1 (u64s (Y.take n)) rfl (by rw [length_u64s, LY.out, Nat.mul_one]) (TY.out _ (O1.out.also (by first | with_reducible exact Off.refl _ _ | with_reducible exact Off.drew (Off.refl _ _) | with_reducible exact Off.alloc (Off.refl _ _) _ | with_reducible exact Off.drew (Off.alloc (Off.refl _ _) _) | with_reducible exact Off.alloc (Off.drew (Off.refl _ _)) _ | with_reducible exact Off.drew (Off.alloc (Off.drew (Off.refl _ _)) _)))) (u64s_one' _) hp (by unfold maxLen; omega) (by omega) (by have := O1.out.size; first | exact this | (simp; exact this)) _ rfl ?_; intro g2 cap2 w2 hw2 hg2 ha2 hl2; have O2 : Hid (Off Nob w w2) := Lib.hid (Off.grown (O1.out.also (by first | with_reducible exact Off.refl _ _ | with_reducible exact Off.drew (Off.refl _ _) | with_reducible exact Off.alloc (Off.refl _ _) _ | with_reducible exact Off.drew (Off.alloc (Off.refl _ _) _) | with_reducible exact Off.alloc (Off.drew (Off.refl _ _)) _ | with_reducible exact Off.drew (Off.alloc (Off.drew (Off.refl _ _)) _))) hg2 (fun k hk => .inr (by have := (W1.out.lt g1 rfl).1; simp [Value.ownBlock] at hk; omega))); have W3 : Hid (Rd w2 (fun _ => True) 1 (.slice (some ⟨g2, 0, none⟩) (n + n) cap2) (n + n) (u64s (X.take n ++ Y.take n))) := Lib.hid (by have := Rd.own hw2 (F := fun _ => True) (fun _ _ => trivial); rwa [Nat.zero_add, show [] ++ u64s (X.take n) ++ u64s (Y.take n) = u64s (X.take n ++ Y.take n) by simp [u64s]] at this); clear hw2 hg2 ha2 hl2)
      | fail)
  have HPD : Hid (pad (X.take n ++ Y.take n) = X.take n ++ Y.take n ∧ (X.take n ++ Y.take n).length = n + n) := Lib.hid (by
    have hl : (X.take n ++ Y.take n).length = n + n := by rw [List.length_append, LX.out, LY.out]
    refine ⟨?_, hl⟩
    unfold pad
    rw [if_neg (fun e => by rw [e] at hl; simp at hl; omega)])
  obtain ⟨E0, hE0⟩ : ∃ E0, stores (X.take n ++ Y.take n).length = E0 := ⟨_, rfl⟩
  have EL : Hid (E0.length = n + n) := Lib.hid (by rw [← hE0, length_stores, HPD.out.2])
  rw [HPD.out.1, hE0] at H3
  have HOZ := Lib.hid (ord_oz X Y n n (by rw [HB.out.2.2.2.2.1]; exact hle0) (by rw [HB.out.2.2.2.2.2]; exact hle1) (Nat.le_refl _))
  have HCL := Lib.hid HPD.out.2
  obtain ⟨C, hC⟩ : ∃ C, X.take n ++ Y.take n = C := ⟨_, rfl⟩
  rw [hC] at H3 HOZ HCL
  clear hE0 hC HPD TX TY O1 O2 W1 W3
  go_wp2_with fail
  refine Calls.mono (R := fun e w' => e = .returned (.tuple #[.int .u64 (n64 (msk (decide (ozN X Y n < 0)))), .int .i64 0]) ∧ One w w' [] p C (evR 0 n E0 n)) (by have := H3.out.lt 0 n n (crE_ok hn1 hn2 (by rw [HCL.out]; omega) (by rw [HCL.out]; omega) (by rw [EL.out]; omega)); rw [HOZ.out.1] at this; exact this) ?_
  rintro e w4 ⟨rfl, h4⟩
  have H4 := Lib.hid h4
  clear h4
  go_wp2_with fail
  refine Calls.mono (R := fun e w' => e = .returned (.tuple #[.int .u64 (n64 (msk (decide (ozN X Y n > 0)))), .int .i64 0]) ∧ One w w' [] p C (evR n 0 (evR 0 n E0 n) n)) (by have := H4.out.lt n 0 n (crE_ok hn1 hn2 (by rw [HCL.out]; omega) (by rw [HCL.out]; omega) (by rw [length_evR, EL.out]; omega)); rw [HOZ.out.2] at this; exact this) ?_
  rintro e w5 ⟨rfl, h5⟩
  have H5 := Lib.hid h5
  clear h5
  go_wp2_with fail
  refine Calls.mono (R := fun e w' => e = .returned (.tuple #[.int .u64 (n64 (msk (decide (ozN X Y n = 0)))), .int .i64 0]) ∧ One w w' [] p C (evR 0 n (evR n 0 (evR 0 n E0 n) n) n)) (by have := H5.out.eqr 0 n n (crE_ok hn1 hn2 (by rw [HCL.out]; omega) (by rw [HCL.out]; omega) (by rw [length_evR, length_evR, EL.out]; omega)); rw [HOZ.out.1] at this; exact this) ?_
  rintro e w6 ⟨rfl, h6⟩
  have O6 := Lib.hid h6.old
  clear h6 H3 H4 H5 HOZ HCL EL
  go_wp2_with fail
  go_loopw [14, 15] (fun o i wr => ∃ j : Nat, j ≤ n ∧ i = .int .i64 (j : Int) ∧ o = .int .i64 (ozN X Y j) ∧ Off Nob w wr) (fun _ i _ => n - (intOf i).toNat)
  case atStart => exact ⟨0, Nat.zero_le _, rfl, rfl, O6.out⟩
  case round =>
    obtain ⟨j, hj, rfl, rfl, hoff⟩ := hrel
    have HO := Lib.hid hoff
    by_cases hlt : j < n ∧ ozN X Y j = 0
    · obtain ⟨g1, g2⟩ := hlt
      have d0 := (hoff.cell_old HB.out.1 _).trans (HB.out.2.2.1 j _ (getElem_u64s X j (by rw [HB.out.2.2.2.2.1]; omega)))
      have d1 := (hoff.cell_old HB.out.2.1 _).trans (HB.out.2.2.2.1 j _ (getElem_u64s Y j (by rw [HB.out.2.2.2.2.2]; omega)))
      have hs : ozN X Y (j + 1) = if ozN X Y j = 0 then (if (cl X j).toNat < (cl Y j).toNat then -1 else if (cl Y j).toNat < (cl X j).toNat then 1 else 0) else ozN X Y j := rfl
      rw [g2, if_pos rfl] at hs
      rw [g2]
      have jl0 : j < n0 := by omega
      have jl1 : j < n1 := by omega
      clear hoff g2
      rcases Nat.lt_trichotomy (cl X j).toNat (cl Y j).toNat with g | g | g
      · rw [if_pos g] at hs
        have q1 : decide (n64 (cl X j) < n64 (cl Y j)) = true := decide_eq_true ((n64_ltB _ _).2 g)
        have q2 : decide (n64 (cl Y j) < n64 (cl X j)) = false := decide_eq_false (fun h => by have := (n64_ltB _ _).1 h; omega)
        go_wp2_with fail
        go_quiet (fail)
        go_wp2_with fail
        go_quiet (fail)
        go_wp2_with fail
        go_roundw
        case rel => exact ⟨j + 1, g1, by go_num, by rw [hs], HO.out.drewN _⟩
        case measure => simp [intOf]; omega
      · rw [if_neg (by omega), if_neg (by omega)] at hs
        have q1 : decide (n64 (cl X j) < n64 (cl Y j)) = false := decide_eq_false (fun h => by have := (n64_ltB _ _).1 h; omega)
        have q2 : decide (n64 (cl Y j) < n64 (cl X j)) = false := decide_eq_false (fun h => by have := (n64_ltB _ _).1 h; omega)
        go_wp2_with fail
        go_quiet (fail)
        go_wp2_with fail
        go_quiet (fail)
        go_wp2_with fail
        go_roundw
        case rel => exact ⟨j + 1, g1, by go_num, by rw [hs], HO.out.drewN _⟩
        case measure => simp [intOf]; omega
      · rw [if_neg (by omega), if_pos g] at hs
        have q1 : decide (n64 (cl X j) < n64 (cl Y j)) = false := decide_eq_false (fun h => by have := (n64_ltB _ _).1 h; omega)
        have q2 : decide (n64 (cl Y j) < n64 (cl X j)) = true := decide_eq_true ((n64_ltB _ _).2 g)
        go_wp2_with fail
        go_quiet (fail)
        go_wp2_with fail
        go_quiet (fail)
        go_wp2_with fail
        go_roundw
        case rel => exact ⟨j + 1, g1, by go_num, by rw [hs], HO.out.drewN _⟩
        case measure => simp [intOf]; omega
    · have he : ozN X Y n = ozN X Y j := by
        by_cases hz : ozN X Y j = 0
        · have : j = n := by
            by_cases hjn : j < n
            · exact absurd ⟨hjn, hz⟩ hlt
            · omega
          rw [this]
        · exact ozN_end X Y j n hj hz
      have ht : ¬ j < n ∨ (j < n ∧ (ozN X Y j == 0) = false) := by
        by_cases hjn : j < n
        · refine .inr ⟨hjn, ?_⟩
          rw [beq_eq_false_iff_ne]
          exact fun h => hlt ⟨hjn, h⟩
        · exact .inl hjn
      rw [he]
      clear he hlt hoff
      generalize ozN X Y j = z at ht
      have hq : (z = 0 ∧ ¬ j < n) ∨ (decide (z = 0) = false ∧ (z == 0) = false ∧ ¬ j < n) ∨ (decide (z = 0) = false ∧ (z == 0) = false ∧ j < n) := by
        by_cases h0 : z = 0
        · rcases ht with ht | ⟨ht, hz⟩
          · exact .inl ⟨h0, ht⟩
          · rw [h0] at hz; cases hz
        · have e1 : decide (z = 0) = false := decide_eq_false h0
          have e2 : (z == 0) = false := by rw [beq_eq_false_iff_ne]; exact h0
          rcases ht with ht | ⟨ht, hz⟩
          · exact .inr (.inl ⟨e1, e2, ht⟩)
          · exact .inr (.inr ⟨e1, e2, ht⟩)
      clear ht
      rcases hq with ⟨rfl, ht⟩ | ⟨e1, hz, ht⟩ | ⟨e1, hz, ht⟩
      all_goals
        (try rw [e1])
        go_wp2_with fail
        refine (rmask_any _ _).mono ?_
        rintro e w' ⟨rfl, rfl⟩
        go_wp2_with fail
        refine (rmask_any _ _).mono ?_
        rintro e w' ⟨rfl, rfl⟩
        go_wp2_with fail
        refine (rmask_any _ _).mono ?_
        rintro e w' ⟨rfl, rfl⟩
        go_wp2_with fail
        refine (awake_ok _).mono ?_
        rintro e w9 ⟨rfl, o9⟩
        have O9 := Lib.hid (HO.out.also o9)
        clear o9
        go_wp2
        go_ret
        exact ⟨ret_bool (by simp), O9.out⟩
theorem rows_none {w : World} (A0 A1 : Option Addr) (n0 c0 n1 c1 : Nat) (h : mnN n0 n1 < 1 ∨ 64 < mnN n0 n1) (b0 : n0 ≤ maxLen) (b1 : n1 ≤ maxLen) :
    Calls Try.prog 3 #[.slice A0 n0 c0, .slice A1 n1 c1] w (BoolNew true w) := by
  obtain ⟨n, hn⟩ : ∃ n, mnN n0 n1 = n := ⟨_, rfl⟩
  have hmn : ∀ w, (Builtin.min_ #[3, 3] 3 #[.int .i64 (n0 : Int), .int .i64 (n1 : Int)]).run Try.prog w = .ok (.int .i64 (n : Int)) w := fun w => by
    have := run_min_nat (P := Try.prog) (w := w) #[3, 3] 3 n0 n1
    rwa [hn] at this
  rw [hn] at h
  unfold maxLen at b0 b1
  have t : decide ((n : Int) < 1) = true ∨ (decide ((n : Int) < 1) = false ∧ decide (64 < (n : Int)) = true) := by
    by_cases q : (n : Int) < 1
    · exact .inl (decide_eq_true q)
    · exact .inr ⟨decide_eq_false q, decide_eq_true (by omega)⟩
  clear h hn
  rcases t with t1 | ⟨t1, t2⟩
  all_goals
    go_enter Try.func3, Try.ntmps3
    go_wp2_with fail
    refine (awake_ok _).mono ?_
    rintro e w4 ⟨rfl, h4⟩
    have H4 := Lib.hid h4
    clear h4
    go_wp2
    go_ret
    exact ⟨rfl, H4.out⟩
theorem compareRows_walk {w : World} {v0 v1 : Value} {n0 n1 : Nat} {X Y : List (BitVec 64)} (h0 : Rd w (Old w) 1 v0 n0 (u64s X)) (z0 : CapOk v0) (h1 : Rd w (Old w) 1 v1 n1 (u64s Y)) (z1 : CapOk v1) :
    Calls Try.prog 3 #[v0, v1] w (BoolNew true w) := by
  obtain ⟨A0, c0, rfl, m0, hl0, hx0⟩ := h0
  obtain ⟨A1, c1, rfl, m1, hl1, hx1⟩ := h1
  rw [length_u64s] at hl0 hl1
  by_cases g : mnN n0 n1 < 1 ∨ 64 < mnN n0 n1
  · exact rows_none _ _ _ _ _ _ g m0 m1
  · have hm : mnN n0 n1 ≤ n0 ∧ mnN n0 n1 ≤ n1 := by unfold mnN; split <;> omega
    obtain ⟨b0, o0, rfl, _, hb0, hc0⟩ := hx0 (by omega)
    obtain ⟨b1, o1, rfl, _, hb1, hc1⟩ := hx1 (by omega)
    exact rows_small b0 o0 c0 b1 o1 c1 n0 n1 _ X Y (by omega) (by omega) hb0 hb1 hc0 hc1 rfl (by omega) (by omega) (z0 _ _ _ rfl) (z1 _ _ _ rfl)

end Go.Proofs.Ytdgehacbpjgmcaa
