/-
  The walk of dragnetlaw25.CompactFirst.
-/
import Derived.Test.YtedbafgejladiaaCompVal
import Derived.Test.YtedbafgejladiaaAwake25
import Derived.Test.YtedbafgejladiaaOpen
import Derived.Deep.RegionHeld3
import Derived.Laws.Bits64
import Derived.IntWalk
import Derived.Test.YtedbafgejladiaaOneRow
namespace Go.Proofs.Ytedbafgejladiaa
open Go.RowKit Go.ChangeShapes Go.WideShapes Go.ChangeAt
open PackZ (cnt cnt_succ cnt_le cnt_step cnt_lt)
set_option linter.unusedVariables false
set_option linter.unusedSimpArgs false
set_option maxRecDepth 100000
def oth (c k : Nat) : Nat := c - min c k
theorem oth_le (c k : Nat) : oth c k ≤ c := Nat.sub_le _ _
theorem run_max_oth {P : Program} {w : World} (ts : Array TypeId) (t : TypeId) (c k : Nat) : (Builtin.max_ ts t #[.int .i64 ((c : Int) - (k : Int)), .int .i64 0]).run P w = .ok (.int .i64 (oth c k : Int)) w := by
  rw [run_max_int2]
  congr 2
  unfold oth
  split <;> omega
attribute [local go_sem ↓] run_max_oth
theorem a5c_cell {w w' : World} {C : List (BitVec 64)} {h c n base : Nat} (hw : w.ownsRow base 33 1 (.slice (some ⟨h, 0, none⟩) n c) n (u64s C)) (o : Off Nob w w') (i : Nat) (hi : i < C.length) (u : Int) (hu : n64 (cl C i) = u) : w'.cell? ⟨h, i, none⟩ = some (.int .u64 u) := by
  have := (own_to hw (fun g hg => o.block g (hw.lt g hg).2 (fun h => h))).cells (g := h) rfl i (.int .u64 (n64 (cl C i))) (getElem_u64s C i hi)
  rw [← hu, ← this, add_addr, Nat.zero_add]
theorem n64_msk_true : n64 (msk true) = 18446744073709551615 := by rw [msk_true]; rfl

set_option maxHeartbeats 16000000 in
theorem first_t (w : World) (b0 o0 k c0 b1 o1 n c1 : Nat) (X Y : List Bool) (hX : X.length = k) (hY : Y.length = n) (hk1 : 1 ≤ k) (hk2 : k ≤ 32) (hn1 : 1 ≤ n) (hn2 : n ≤ 256)
    (hb0 : b0 < w.heap.size) (hc0 : ∀ j, j < k → w.cell? ⟨b0, o0 + j, none⟩ = some (.bool (X.getD j false))) (hb1 : b1 < w.heap.size) (hc1 : ∀ j, j < n → w.cell? ⟨b1, o1 + j, none⟩ = some (.bool (Y.getD j false))) (dr : Nat) (hdr : dr ≤ 65535) :
    Calls Try.prog 3 #[.slice (some ⟨b0, o0, none⟩) k c0, .slice (some ⟨b1, o1, none⟩) n c1, .agg #[.int .u16 (dr : Int), .bool true]] w (BoolNew true w) := by
  obtain ⟨is0, his, hsz0, hsz1, hsz2⟩ := info_parts Try.infoSl
  have HV : Hid (∀ W, Off Nob w W → Calls Try.prog 7 #[.slice (some ⟨b0, o0, none⟩) k c0, .int .i64 1] W fun e w' => ∃ g, e = .returned (.slice (some ⟨g, 0, none⟩) k k) ∧ w'.ownsRow W.heap.size 47 3 (.slice (some ⟨g, 0, none⟩) k k) k (slC (vaT X 1 k k)) ∧ Off Nob W w') := Lib.hid (fun W o => cvalid_ok W b0 o0 k c0 X 1 hX hk1 (by omega) (by omega) (Nat.lt_of_lt_of_le hb0 o.size) (fun j hj => (o.cell_old hb0 _).trans (hc0 j hj)))
  have HU : Hid (∀ W, Off Nob w W → Calls Try.prog 7 #[.slice (some ⟨b1, o1, none⟩) n c1, .int .i64 (1 + (k : Int))] W fun e w' => ∃ g, e = .returned (.slice (some ⟨g, 0, none⟩) n n) ∧ w'.ownsRow W.heap.size 47 3 (.slice (some ⟨g, 0, none⟩) n n) n (slC (vaT Y (1 + k) n n)) ∧ Off Nob W w') := Lib.hid (fun W o => cvalid_ok W b1 o1 n c1 Y (1 + k) hY hn1 (by omega) (by omega) (Nat.lt_of_lt_of_le hb1 o.size) (fun j hj => (o.cell_old hb1 _).trans (hc1 j hj)))
  obtain ⟨hAl, hAs⟩ := va_two X Y k n 1 (1 + k) hX hY
  obtain ⟨V, hV⟩ : ∃ V : Nat → Bool, (fun i => (X ++ Y).getD i false) = V := ⟨_, rfl⟩
  have hAs2 : ∀ i, i < k + n → (sl (vaT X 1 k k ++ vaT Y (1 + k) n n) i).1 = msk (V i) ∧ (V i = false → sl (vaT X 1 k k ++ vaT Y (1 + k) n n) i = sl0) := fun i hi => by rw [← hV]; exact hAs i hi
  have HL2 : Hid ((slC (vaT Y (1 + k) n n)).length = n * 3) := Lib.hid (by rw [slC_len, vaT_len])
  clear hAs hV hc0 hc1 hb0 hb1 hX hY
  revert hAl hAs2 HV HU HL2
  generalize vaT X 1 k k = AX
  generalize vaT Y (1 + k) n n = AY
  intro HV HU hAl hAs2 HL2
  have hSA : slC AX ++ slC AY = slC (AX ++ AY) := (slC_append _ _).symm
  have HSA := Lib.hid hSA
  clear hSA
  have hg0 : decide ((k : Int) < 1) = false := decide_eq_false (by omega)
  have hg1 : decide ((32 : Int) < (k : Int)) = false := decide_eq_false (by omega)
  have hg2 : decide ((n : Int) < 1) = false := decide_eq_false (by omega)
  have hg3 : decide ((256 : Int) < (n : Int)) = false := decide_eq_false (by omega)
  have HA := Lib.hid (And.intro hAl hAs2)
  clear hAl hAs2
  go_enter Try.func3, Try.ntmps3
  go_wp2_with fail
  refine (HV.out _ (Off.alloc (Off.refl _ _) _)).mono ?_
  have BX0 : Hid (Blk (w.alloc (.cells #[.int .u16 (dr : Int), .bool true] 25)) w.heap.size 25 #[.int .u16 (dr : Int), .bool true]) := Lib.hid (Blk.new _ _ _)
  have O0 : Hid (Off Nob w (w.alloc (.cells #[.int .u16 (dr : Int), .bool true] 25))) := Lib.hid (Off.alloc (Off.refl _ _) _)
  generalize hW0 : w.alloc (.cells #[.int .u16 (dr : Int), .bool true] 25) = W0 at *
  rintro e w1 ⟨g1, rfl, h1, o1⟩
  have R1 := Lib.hid h1
  have O1 := Lib.hid o1
  clear h1 o1 HV
  have hW0' := Lib.hid hW0
  clear hW0
  clear hg0 hg1 hg2 hg3
  go_wp2_with fail
  refine (HU.out _ (O0.out.also O1.out)).mono ?_
  rintro e w2 ⟨g2, rfl, h2, o2⟩
  have R2 : Hid (w2.ownsRow W0.heap.size 47 3 (.slice (some ⟨g1, 0, none⟩) k k) k (slC AX)) := Lib.hid (own_keep R1.out o2)
  have HN : Hid (∀ j u, (slC AY)[j]? = some u → w2.cell? ((⟨g2, 0, none⟩ : Addr).add j) = some u) := Lib.hid (fun j u hu => by
    have hj := (List.getElem?_eq_some_iff.1 hu).1
    rw [HL2.out] at hj
    rw [add_addr, Nat.zero_add, h2.cellAt j hj]; exact hu)
  have O2 := Lib.hid (O1.out.also o2)
  clear h2 o2 HU R1 O1
  go_wp2_with (at_builtin; refine wpList_append_own_at _ rfl _ _ 27 rfl W0.heap.size 47 is0 (.agg #[.int .u64 0, .int .u64 0, .int .u64 0]) 3 24 Try.underlying27 his hsz0 hsz1 hsz2 rfl (by decide) (.slice (some ⟨g1, 0, none⟩) k k) k (slC AX) rfl R2.out ⟨g2, 0, none⟩ n _ (slC AY) rfl HL2.out HN.out (slC_one _) ?c3 ?c4 ?c5 ?_)
  case c3 => unfold maxLen; omega
  case c4 => omega
  case c5 => exact O2.out.size
  intro v' w3 hown' hgrow hnil hat
  rw [HSA.out] at hown'
  obtain ⟨h, c, rfl⟩ := own_form3 hown' (by omega)
  have O3 : Hid (Off Nob W0 w3) := Lib.hid (Off.grown O2.out hgrow (fun k hk => .inr (R2.out.lt k hk).1))
  obtain ⟨cs, hbs, hbk, hcx⟩ := own_rdC hown'
  have BL := Lib.hid hbk
  have BC := Lib.hid hcx
  have BX : Hid (Blk w3 w.heap.size 25 #[.int .u16 (dr : Int), .bool true]) := Lib.hid (BX0.out.to (O3.out.block _ BX0.out.lt (fun h => h)))
  have OW : Hid (Off Nob w w3) := Lib.hid (O0.out.also O3.out)
  clear hown' hgrow hnil hat hbk hcx hbs R2 HN O2 O3 BX0 O0 hW0' HSA HL2 his hsz0 hsz1 hsz2
  obtain ⟨A, hA⟩ : ∃ A, AX ++ AY = A := ⟨_, rfl⟩
  rw [hA] at HA BC
  clear hA
  have HLEN := Lib.hid HA.out.1
  have HS := Lib.hid HA.out.2
  clear HA
  have HQ : Hid (ckS (List.replicate (4 * (k + n) + 2) (0 : BitVec 64)).length ([] : List Ev).length (0 : Nat) (k + n : Nat) = 0) := Lib.hid (ckS_ok (by simp; omega))
  have HST := Lib.hid (fun w => csteps_ok k n hk1 hk2 hn1 hn2 w)
  have hcN := cpN_le (a := k + n) (by omega) (by omega)
  obtain ⟨l1, l2⟩ := fiW_len (sl A) (k + n) (BitVec.ofNat 64 dr) (msk true)
  obtain ⟨m1, m2, m3⟩ := fiW_cl (sl A) (k + n) (BitVec.ofNat 64 dr) (msk true)
  obtain ⟨wl1, wl2⟩ := wrS_len 0 (sl A) (List.replicate (4 * (k + n) + 2) (0 : BitVec 64), []) (k + n)
  rw [List.length_replicate] at wl1
  rw [List.length_nil, Nat.zero_add] at wl2
  have hok := first_ok _ _ k n hk1 hk2 hn1 hn2 l1 (show (fiW (sl A) (k + n) (BitVec.ofNat 64 dr) (msk true)).2.length + cpN (k + n) ≤ 8388608 by rw [l2]; omega)
  have hce := first_cpE _ _ k n hk1 hk2 hn1 hn2 l1 (show (fiW (sl A) (k + n) (BitVec.ofNat 64 dr) (msk true)).2.length + cpN (k + n) ≤ 8388608 by rw [l2]; omega)
  have PL := comp_plain (k + n) k n rfl rfl rfl rfl hok V (fun i hi => by
    have := (HS.out i hi).1
    rw [← m1 i hi] at this
    exact this) (fun i hi hv => (m1 i hi).trans ((HS.out i hi).2 hv))
  obtain ⟨q1, q2⟩ := cpK_len hok 6 (by omega)
  have HCP : Hid (∀ W F p, Ar W F p (fiW (sl A) (k + n) (BitVec.ofNat 64 dr) (msk true)).1 (fiW (sl A) (k + n) (BitVec.ofNat 64 dr) (msk true)).2 → Calls Try.prog 12 #[.pointer (some ⟨p, 0, none⟩), .agg #[.int .i64 0, .int .i64 (3 * ((k : Int) + (n : Int))), .int .i64 (4 * ((k : Int) + (n : Int))), .int .i64 (4 * ((k : Int) + (n : Int)) + 1)], .int .i64 (k : Int), .int .i64 (n : Int)] W fun e w' => e = .returned (.int .i64 0) ∧ ArTo W F p (cpK 0 (3 * ((k : Int) + (n : Int))) (4 * ((k : Int) + (n : Int))) (4 * ((k : Int) + (n : Int)) + 1) k n (fiW (sl A) (k + n) (BitVec.ofNat 64 dr) (msk true)).1 (fiW (sl A) (k + n) (BitVec.ofNat 64 dr) (msk true)).2 6).1 (cpK 0 (3 * ((k : Int) + (n : Int))) (4 * ((k : Int) + (n : Int))) (4 * ((k : Int) + (n : Int)) + 1) k n (fiW (sl A) (k + n) (BitVec.ofNat 64 dr) (msk true)).1 (fiW (sl A) (k + n) (BitVec.ofNat 64 dr) (msk true)).2 6).2.1 w') := Lib.hid (fun W F p ha => ccompact_ok ha 0 _ _ _ k n hok hce)
  have hwa := waL_rd PL (sl A) m1
  have hdrop := PL.drop
  have hflag := PL.flag
  rw [m2] at hdrop
  rw [m3] at hflag
  have hcl := cnt_le (v := V) (k + n)
  have e1 := sum_drop dr (PackZ.cnt V (k + n) - min (PackZ.cnt V (k + n)) k) hdr (by omega)
  rw [← hdrop] at e1
  rw [flag_or _ _ (by omega)] at hflag
  rw [l1] at q1
  rw [l2] at q2
  obtain ⟨C0, hC0⟩ : ∃ C0, (wrS 0 (sl A) (List.replicate (4 * (k + n) + 2) (0 : BitVec 64), []) (k + n)).1 = C0 := ⟨_, rfl⟩
  obtain ⟨E0, hE0⟩ : ∃ E0, (wrS 0 (sl A) (List.replicate (4 * (k + n) + 2) (0 : BitVec 64), []) (k + n)).2 = E0 := ⟨_, rfl⟩
  have HF : Hid ((fiW (sl A) (k + n) (BitVec.ofNat 64 dr) (msk true)) = (((C0.set (4 * (k + n)) (BitVec.ofNat 64 dr)).set (4 * (k + n) + 1) (msk true)), (E0 ++ [(2, 4 * (k + n))]) ++ [(2, 4 * (k + n) + 1)])) := Lib.hid (by rw [← hC0, ← hE0]; rfl)
  have HWR : Hid (∀ w0 w bs p, One w0 w bs p (List.replicate (4 * (k + n) + 2) 0) [] → (h, 47, cs) ∈ bs → Calls Try.prog 9 #[.pointer (some ⟨p, 0, none⟩), .int .i64 0, .slice (some ⟨h, 0, none⟩) (k + n) c] w fun e w' => e = .returned (.int .i64 0) ∧ One w0 w' bs p C0 E0) := Lib.hid (fun w0 w bs p h1 hm => by
    have := h1.writeC hm BC.out HLEN.out c 0 HQ.out
    rw [hC0, hE0] at this
    exact this)
  rw [hC0] at wl1
  rw [hE0] at wl2
  obtain ⟨cN, hcNe⟩ : ∃ c, cpN (k + n) = c := ⟨_, rfl⟩
  have hE6 : ∃ x, x = 3 * (k + n) + 2 + cN ∧ (cpK 0 (3 * ((k : Int) + (n : Int))) (4 * ((k : Int) + (n : Int))) (4 * ((k : Int) + (n : Int)) + 1) k n (fiW (sl A) (k + n) (BitVec.ofNat 64 dr) (msk true)).1 (fiW (sl A) (k + n) (BitVec.ofNat 64 dr) (msk true)).2 6).2.1.length = x := ⟨_, rfl, by rw [q2, ← hcNe]; unfold cpN; simp only [cpV]⟩
  clear hC0 hE0 hok hce PL q2 HQ l1 l2 m1 m2 m3 hdrop
  have ALL := And.intro HCP.out (And.intro hwa (And.intro e1 (And.intro hflag (And.intro q1 hE6))))
  clear HCP hwa e1 hflag q1 hE6
  revert ALL
  generalize (cpK 0 (3 * ((k : Int) + (n : Int))) (4 * ((k : Int) + (n : Int))) (4 * ((k : Int) + (n : Int)) + 1) k n (fiW (sl A) (k + n) (BitVec.ofNat 64 dr) (msk true)).1 (fiW (sl A) (k + n) (BitVec.ofNat 64 dr) (msk true)).2 6).1 = C6
  generalize (cpK 0 (3 * ((k : Int) + (n : Int))) (4 * ((k : Int) + (n : Int))) (4 * ((k : Int) + (n : Int)) + 1) k n (fiW (sl A) (k + n) (BitVec.ofNat 64 dr) (msk true)).1 (fiW (sl A) (k + n) (BitVec.ofNat 64 dr) (msk true)).2 6).2.1 = E6
  intro ALL
  obtain ⟨hcp, hwa, e1, hflag, q1, hE6⟩ := ALL
  rw [HF.out] at hcp
  have HCP := Lib.hid hcp
  clear hcp
  have HWA := Lib.hid hwa
  have HD := Lib.hid e1
  have HFL := Lib.hid hflag
  have HC6 := Lib.hid q1
  have HE6 := Lib.hid hE6
  rw [hcNe] at HST hcN
  have HCN := Lib.hid (And.intro hcN hcNe)
  have WL := Lib.hid (And.intro wl1 wl2)
  have HCL := Lib.hid hcl
  clear hwa e1 hflag q1 hE6 HF wl1 wl2 hcN hcNe hcl
  go_wp2_with fail
  refine Calls.mono (R := fun e w' => ∃ p, e = .returned (.tuple #[.pointer (some ⟨p, 0, none⟩), .int .i64 0]) ∧ One w3 w' [] p (List.replicate (4 * (k + n) + 2) 0) []) (by
    have := new_ok (4 * (k + n) + 2) w3 (by omega) (by omega)
    rw [show ((4 * (k + n) + 2 : Nat) : Int) = 4 * ((k : Int) + (n : Int)) + 2 by push_cast; rfl] at this
    exact this.mono fun e w' ⟨p, he, F, ha, ho, hf⟩ => ⟨p, he, F, ha, ho, hf, fun x hx => by cases hx⟩) ?_
  rintro e w4 ⟨p, rfl, u4⟩
  have U4 : Hid (One w3 w4 [(w.heap.size, 25, #[.int .u16 (dr : Int), .bool true]), (h, 47, cs)] p (List.replicate (4 * (k + n) + 2) 0) []) := Lib.hid ((u4.add (BL.out.to (u4.oldR.block _ BL.out.lt (fun h => h))) BL.out.lt).add (BX.out.to (u4.oldR.block _ BX.out.lt (fun h => h))) BX.out.lt)
  clear u4 BL BX
  have x1 := (U4.out.blk (List.mem_cons_self)).cell 1
  simp only [List.getElem?_toArray, List.getElem?_cons_succ, List.getElem?_cons_zero] at x1
  go_wp2_with fail
  refine (HWR.out _ _ _ _ U4.out (List.mem_cons_of_mem _ (List.mem_cons_self))).mono ?_
  rintro e w5 ⟨rfl, u5⟩
  have U5 := Lib.hid u5
  have x0 := (u5.blk (List.mem_cons_self)).cell 0
  simp only [List.getElem?_toArray, List.getElem?_cons_succ, List.getElem?_cons_zero] at x0
  clear u5 HWR x1 U4
  go_wp2_with fail
  refine Calls.mono (R := fun e w' => e = .returned (.int .i64 0) ∧ One w3 w' [(w.heap.size, 25, #[.int .u16 (dr : Int), .bool true]), (h, 47, cs)] p (C0.set (4 * (k + n)) (BitVec.ofNat 64 dr)) (E0 ++ [(2, 4 * (k + n))])) (by
    have := U5.out.call (fun W F ha => store_ok ha (4 * ((k : Int) + (n : Int))) (BitVec.ofNat 64 dr) (by omega) (by rw [WL.out.1]; omega) (by rw [WL.out.2]; omega))
    rw [show (4 * ((k : Int) + (n : Int))).toNat = 4 * (k + n) by omega, show n64 (BitVec.ofNat 64 dr) = (dr : Int) by unfold n64; simp; omega] at this
    exact this) ?_
  rintro e w6 ⟨rfl, u6⟩
  have U6 := Lib.hid u6
  clear u6 x0 U5
  go_wp2_with fail
  refine Calls.mono (R := fun e w' => e = .returned (.int .i64 0) ∧ One w3 w' [(w.heap.size, 25, #[.int .u16 (dr : Int), .bool true]), (h, 47, cs)] p ((C0.set (4 * (k + n)) (BitVec.ofNat 64 dr)).set (4 * (k + n) + 1) (msk true)) ((E0 ++ [(2, 4 * (k + n))]) ++ [(2, 4 * (k + n) + 1)])) (by
    have := U6.out.call (fun W F ha => store_ok ha (4 * ((k : Int) + (n : Int)) + 1) (msk true) (by omega) (by rw [List.length_set, WL.out.1]; omega) (by rw [List.length_append, WL.out.2]; simp only [List.length_cons, List.length_nil]; omega))
    rw [show (4 * ((k : Int) + (n : Int)) + 1).toNat = 4 * (k + n) + 1 by omega] at this
    exact this) ?_
  rintro e w7 ⟨rfl, u7⟩
  have U7 := Lib.hid u7
  clear u7 U6
  go_wp2_with fail
  refine Calls.mono (R := fun e w' => e = .returned (.int .i64 (3 * ((k : Int) + (n : Int)) + 2)) ∧ w7 = w') (by
    obtain ⟨F, ha⟩ := U7.out.ar
    have := steps_any ha
    rwa [show ((((E0 ++ [(2, 4 * (k + n))] : List Ev) ++ [(2, 4 * (k + n) + 1)] : List Ev).length : Nat) : Int) = 3 * ((k : Int) + (n : Int)) + 2 by simp only [List.length_append, List.length_cons, List.length_nil, WL.out.2]; omega] at this) ?_
  rintro e w' ⟨rfl, rfl⟩
  clear WL
  go_wp2_with fail
  refine Calls.mono (R := fun e w' => e = .returned (.int .i64 0) ∧ One w3 w' [(w.heap.size, 25, #[.int .u16 (dr : Int), .bool true]), (h, 47, cs)] p C6 E6) (U7.out.call (fun W F ha => HCP.out W F p ha)) ?_
  rintro e w8 ⟨rfl, u8⟩
  have U8 := Lib.hid u8
  clear u8 U7 HCP
  go_wp2_with fail
  refine (HST.out _).mono ?_
  rintro e w' ⟨rfl, rfl⟩
  go_wp2_with fail
  refine Calls.mono (R := fun e w' => ∃ g, e = .returned (.tuple #[.slice (some ⟨g, 0, none⟩) k k, .int .i64 0]) ∧ One w3 w' [(g, 47, (slC (rdL 0 C6 k)).toArray), (w.heap.size, 25, #[.int .u16 (dr : Int), .bool true]), (h, 47, cs)] p C6 (rdE 0 E6 k)) (by
    obtain ⟨x6, hx6, hl6⟩ := HE6.out
    have hcn := HCN.out.1
    exact U8.out.row (fun F ha => read_ok ha 0 k (ckS_ok (by rw [HC6.out, hl6]; omega)))) ?_
  rintro e w9 ⟨g, rfl, u9⟩
  have U9 := Lib.hid u9
  clear u9 U8
  go_wp2_with fail
  refine Calls.mono (R := fun e w' => ∃ h c, e = .returned (.slice (some ⟨h, 0, none⟩) (4 * (k + n) + 2) c) ∧ w'.ownsRow w9.heap.size 33 1 (.slice (some ⟨h, 0, none⟩) (4 * (k + n) + 2) c) (4 * (k + n) + 2) (u64s C6) ∧ Off Nob w9 w') (by
    obtain ⟨F, ha⟩ := U9.out.ar
    refine (cells_ok ha).mono fun e w' he => ?_
    have := a5_row he (by rw [HC6.out]; omega)
    rw [HC6.out] at this
    exact this) ?_
  rintro e w10 ⟨hh, cc, rfl, hr, o10⟩
  have U10 := Lib.hid (U9.out.offR o10)
  have HR := Lib.hid hr
  clear hr o10 U9
  have hcn := HCN.out.1
  have hcn2 : (cN : Int) ≤ 8000000 := by omega
  clear hcn
  have hkn : 3 * ((k : Int) + (n : Int)) + 2 + (cN : Int) + 3 * (k : Int) ≤ 9000000 := by omega
  have HSX : Hid (Calls Try.prog 11 #[.pointer (some ⟨p, 0, none⟩)] w10 fun e w' => e = .returned (.int .i64 (3 * ((k : Int) + (n : Int)) + 2 + (cN : Int) + 3 * (k : Int))) ∧ w10 = w') := Lib.hid (by
    obtain ⟨F, ha⟩ := U10.out.ar
    have := steps_any ha
    obtain ⟨x6, hx6, hl6⟩ := HE6.out
    rwa [show (((rdE 0 E6 k).length : Nat) : Int) = 3 * ((k : Int) + (n : Int)) + 2 + (cN : Int) + 3 * (k : Int) by rw [rdE_len, hl6, hx6]; omega] at this)
  have hoth : (oth (cnt V (k + n)) k : Int) ≤ 300 := by have := HCL.out; have := oth_le (cnt V (k + n)) k; omega
  obtain ⟨is1, his, hsz0, hsz1, hsz2⟩ := info_parts Try.infoSl
  have kA := U10.out.blk (b := h) (t := 47) (cs := cs) (by simp)
  have kG := U10.out.blk (b := g) (t := 47) (cs := (slC (rdL 0 C6 k)).toArray) (by simp)
  have kX := U10.out.blk (b := w.heap.size) (t := 25) (cs := #[.int .u16 (dr : Int), .bool true]) (by simp)
  have LA : Hid (h < w10.heap.size) := Lib.hid kA.lt
  have CA : Hid (∀ j, j < k + n → w10.cell? ⟨h, j * 3, none⟩ = some (.int .u64 (n64 (sl A j).1)) ∧ w10.cell? ⟨h, j * 3 + 1, none⟩ = some (.int .u64 (n64 (sl A j).2.1)) ∧ w10.cell? ⟨h, j * 3 + 2, none⟩ = some (.int .u64 (n64 (sl A j).2.2))) := Lib.hid (fun j hj => by
    obtain ⟨a0, a1, a2⟩ := slC_at A j (by rw [HLEN.out]; exact hj)
    exact ⟨(kA.cell _).trans (BC.out _ _ a0), (kA.cell _).trans (BC.out _ _ a1), (kA.cell _).trans (BC.out _ _ a2)⟩)
  have RG : Hid (Rd w10 (fun x => x = g) 3 (.slice (some ⟨g, 0, none⟩) k k) k (slC (waL V (sl A) k (k + n)))) := Lib.hid (by
    rw [HWA.out]
    exact ⟨_, _, rfl, by unfold maxLen; omega, by rw [slC_len, rdL_len], fun _ => ⟨g, 0, rfl, rfl, kG.lt, fun j u hu => by rw [Nat.zero_add, kG.cell, List.getElem?_toArray]; exact hu⟩⟩)
  have CC : Hid (∀ W, Off Nob w10 W → W.cell? ⟨w.heap.size, 0, none⟩ = some (.int .u16 (dr : Int)) ∧ W.cell? ⟨hh, 4 * (k + n), none⟩ = some (.int .u64 (min ((dr : Int) + (oth (cnt V (k + n)) k : Int)) 65535)) ∧ W.cell? ⟨hh, 4 * (k + n) + 1, none⟩ = some (.int .u64 (if 0 < oth (cnt V (k + n)) k then 18446744073709551615 else 18446744073709551615))) := Lib.hid (fun W o => by
    refine ⟨?_, a5c_cell HR.out o _ (by rw [HC6.out]; omega) _ HD.out, a5c_cell HR.out o _ (by rw [HC6.out]; omega) _ ?_⟩
    · rw [o.cell_old kX.lt, kX.cell]; rfl
    · rw [HFL.out]
      by_cases hp : 0 < oth (cnt V (k + n)) k
      · rw [if_pos hp, if_pos (show 0 < cnt V (k + n) - min (cnt V (k + n)) k from hp)]; exact n64_msk_true
      · rw [if_neg hp, if_neg (show ¬ 0 < cnt V (k + n) - min (cnt V (k + n)) k from hp)]; first | exact n64_msk_true | rfl)
  have OW10 : Hid (Off Nob w w10) := Lib.hid (OW.out.also U10.out.oldR)
  clear kA kG kX U10 HR HD HFL HWA BC OW HE6 HCN HC6 HLEN HCL HST
  go_wp2_with (first | (refine HSX.out.mono ?_; rintro e w' ⟨rfl, rfl⟩; clear HSX) | (at_make; refine wpList_make_full _ rfl _ _ 27 rfl w10.heap.size 47 is1 (.agg #[.int .u64 0, .int .u64 0, .int .u64 0]) 3 Try.underlying27 his hsz0 hsz1 .i64 .i64 _ _ k rfl rfl rfl rfl (by rw [hsz2]; omega) (by unfold maxLen; omega) (Nat.le_refl _) ?_; intro w11 hown2 hgrow2))
  have PK : Hid (VaI w10.heap.size w10 w10.heap.size (waL V (sl A) k 0) k w11) := by
    refine Lib.hid ⟨?_, Off.grown (Off.refl _ _) hgrow2 (fun k hk => by cases hk)⟩
    rw [show (madeCells (Value.agg #[.int .u64 0, .int .u64 0, .int .u64 0]).cells (k * 3)).toList = slC (List.replicate k (0#64, 0#64, 0#64)) from made_slots k] at hown2
    exact hown2
  clear hown2 hgrow2 his hsz0 hsz1 hsz2
  have HB : Hid (w10.heap.size ≤ w10.heap.size) := Lib.hid (Nat.le_refl _)
  revert PK HB
  generalize hbase : w10.heap.size = base
  intro PK HB
  have HSB := Lib.hid hbase
  clear hbase
  go_loopw [25, 26] (fun m i wr => ∃ j : Nat, j ≤ k + n ∧ m = .int .i64 (cnt V j : Int) ∧ i = .int .i64 (j : Int) ∧ VaI base w10 base (waL V (sl A) k j) k wr) (fun _ i _ => k + n - (intOf i).toNat)
  case atStart => exact ⟨0, Nat.zero_le _, rfl, rfl, PK.out⟩
  case round =>
    obtain ⟨j, hj, rfl, rfl, hrel⟩ := hrel
    have T0 := Lib.hid hrel
    clear hrel PK
    have hcj : cnt V j ≤ 300 := by have := cnt_le (v := V) j; omega
    by_cases hlt : j < k + n
    · obtain ⟨a0, a1, a2⟩ := CA.out j hlt
      have hx1 := (HS.out j hlt).1
      have hcs := cnt_succ (v := V) j
      rw [← T0.out.2.cell_old (by exact LA.out) _] at a0 a1 a2
      cases hv : V j
      · rw [hx1, hv, show n64 (msk false) = 0 from rfl] at a0
        rw [hv] at hcs
        simp at hcs
        have HW : Hid (waL V (sl A) k (j + 1) = waL V (sl A) k j) := Lib.hid (by rw [waL, if_neg]; rw [hv]; simp)
        clear hx1
        go_wp2_with fail
        go_roundw
        case rel => exact ⟨j + 1, hlt, by rw [hcs], rfl, by rw [HW.out]; exact T0.out⟩
        case measure => simp [intOf]; omega
      · have b0 := a0
        rw [hx1, hv, n64_msk_true] at a0
        rw [hv] at hcs
        simp at hcs
        by_cases hk : cnt V j < k
        · have hd : decide ((cnt V j : Int) < (k : Int)) = true := decide_eq_true (by omega)
          have HW : Hid (waL V (sl A) k (j + 1) = (waL V (sl A) k j).set (cnt V j) (sl A j)) := Lib.hid (by rw [waL, if_pos ⟨hv, hk⟩])
          have T1 := Lib.hid (T0.out.put (by rw [HSB.out]; exact Nat.le_refl _) (cnt V j) (sl A j))
          rw [← HW.out, hx1, hv, n64_msk_true] at T1
          obtain ⟨c0, c1, c2⟩ := slC_at (waL V (sl A) k j) (cnt V j) (by rw [waL_len]; exact hk)
          rw [← T0.out.1.cellAt _ (by omega)] at c0 c1 c2
          have f0 := T0.out.1.frozenAt (cnt V j * 3)
          have f1 := T0.out.1.frozenAt (cnt V j * 3 + 1)
          have f2 := T0.out.1.frozenAt (cnt V j * 3 + 2)
          clear hx1 HW b0
          go_wp2_with fail
          go_roundw
          case rel => exact ⟨j + 1, hlt, by rw [hcs]; rfl, rfl, T1.out⟩
          case measure => simp [intOf]; omega
        · have hd : decide ((cnt V j : Int) < (k : Int)) = false := decide_eq_false (by omega)
          have HW : Hid (waL V (sl A) k (j + 1) = waL V (sl A) k j) := Lib.hid (by rw [waL, if_neg]; rintro ⟨_, h2⟩; exact hk h2)
          clear hx1 b0
          go_wp2_with fail
          go_roundw
          case rel => exact ⟨j + 1, hlt, by rw [hcs]; rfl, rfl, by rw [HW.out]; exact T0.out⟩
          case measure => simp [intOf]; omega
    · obtain rfl : j = k + n := by omega
      have RW : Hid (Rd wr (Old wr) 3 (.slice (some ⟨base, 0, none⟩) k k) k (slC (waL V (sl A) k (k + n)))) := Lib.hid (Rd.own T0.out.1 (fun q hq => (T0.out.1.lt q hq).2))
      have RG2 := Lib.hid (RG.out.keep T0.out.2 (fun _ _ h => h))
      by_cases hp : 0 < oth (cnt V (k + n)) k
      · have hd : decide ((0 : Int) < (oth (cnt V (k + n)) k : Int)) = true := decide_eq_true (by omega)
        have C2 : Hid (∀ w', Off Nob wr w' → w'.cell? ⟨w.heap.size, 0, none⟩ = some (.int .u16 (dr : Int)) ∧ w'.cell? ⟨hh, 4 * (k + n), none⟩ = some (.int .u64 (min ((dr : Int) + (oth (cnt V (k + n)) k : Int)) 65535)) ∧ w'.cell? ⟨hh, 4 * (k + n) + 1, none⟩ = some (.int .u64 18446744073709551615)) := Lib.hid (fun W o => by have := CC.out W (T0.out.2.also o); rw [if_pos hp] at this; exact this)
        have kk := C2.out _ (Off.refl _ _)
        have OX : Hid (Off Nob wr wr) := Lib.hid (Off.refl _ _)
        obtain ⟨a4, ha4⟩ : ∃ a4, 4 * (k + n) = a4 := ⟨_, rfl⟩
        have hb4 : 4 * ((k : Int) + (n : Int)) = (a4 : Int) := by omega
        have hc4 : a4 ≤ 1152 := by omega
        rw [ha4] at C2 kk
        obtain ⟨oo, hoo⟩ : ∃ oo, oth (cnt V (k + n)) k = oo := ⟨_, rfl⟩
        rw [hoo] at C2 kk
        have ho1 : (oo : Int) ≤ 300 := by rw [← hoo]; exact hoth
        have ho2 : (dr : Int) + (oo : Int) ≤ 70000 := by omega
        have ho3 : IntKind.u64.wrap (dr : Int) = (dr : Int) := by rw [IntKind.wrap_u64]; omega
        have ho4 : IntKind.u64.wrap (oo : Int) = (oo : Int) := by rw [IntKind.wrap_u64]; omega
        have ho5 : IntKind.u64.wrap ((dr : Int) + (oo : Int)) = (dr : Int) + (oo : Int) := by rw [IntKind.wrap_u64]; omega
        obtain ⟨n4, hn4⟩ : ∃ n4, a4 + 2 = n4 := ⟨_, rfl⟩
        have hd4 : (a4 : Int) < (n4 : Int) := by omega
        have he4 : (a4 : Int) + 1 < (n4 : Int) := by omega
        have hf4 : (a4 : Int) + 1 ≤ 2000 := by omega
        have hg4 : (0 : Int) ≤ (a4 : Int) := by omega
        have hh4 : (0 : Int) ≤ (a4 : Int) + 1 := by omega
        have hi4 : IntKind.i64.wrap ((a4 : Int) + 1) = (a4 : Int) + 1 := IntWalk.i64_in _ (by omega)
        have hj4 : ((a4 : Int) + 1).toNat = a4 + 1 := by omega
        clear CC CA HSB HB
        go_wp2_with fail
        simp only [ha4, hb4, hn4, hoo]
        go_region_held3 (fun w' => w'.cell? ⟨w.heap.size, 0, none⟩ = some (.int .u16 (dr : Int)) ∧ w'.cell? ⟨hh, a4, none⟩ = some (.int .u64 (min ((dr : Int) + (oo : Int)) 65535)) ∧ w'.cell? ⟨hh, a4 + 1, none⟩ = some (.int .u64 18446744073709551615))
          (first | with_reducible assumption | go_keep)
          (first
            | (go_at_call 16; refine (sameSl_eq (RG2.out.keep (show Off Nob wr _ by first | with_reducible exact OX.out | with_reducible exact Off.drew OX.out | with_reducible exact Off.drewN OX.out _) (fun _ _ h => h)) (RW.out.keep (show Off Nob wr _ by first | with_reducible exact OX.out | with_reducible exact Off.drew OX.out | with_reducible exact Off.drewN OX.out _) (fun _ _ h => h))).mono ?_; rintro e w' ⟨rfl, o1⟩; have OY : Hid (Off Nob wr w') := Lib.hid (Off.also (show Off Nob wr _ by first | with_reducible exact OX.out | with_reducible exact Off.drew OX.out | with_reducible exact Off.drewN OX.out _) o1); have kq := C2.out _ OY.out; clear o1 OX; have OX := Lib.hid OY.out; clear OY)
            | (go_at_call 6; refine (awake_ok _).mono ?_; rintro e w' ⟨rfl, o1⟩; have OY : Hid (Off Nob wr w') := Lib.hid (Off.also (show Off Nob wr _ by first | with_reducible exact OX.out | with_reducible exact Off.drew OX.out | with_reducible exact Off.drewN OX.out _) o1); have kq := C2.out _ OY.out; clear o1 OX; have OX := Lib.hid OY.out; clear OY))
        go_wp2_with fail
        go_ret
        exact ⟨rfl, (OW10.out.also T0.out.2).also OX.out⟩
      · have hd : decide ((0 : Int) < (oth (cnt V (k + n)) k : Int)) = false := decide_eq_false (by omega)
        have C2 : Hid (∀ w', Off Nob wr w' → w'.cell? ⟨w.heap.size, 0, none⟩ = some (.int .u16 (dr : Int)) ∧ w'.cell? ⟨hh, 4 * (k + n), none⟩ = some (.int .u64 (min ((dr : Int) + (oth (cnt V (k + n)) k : Int)) 65535)) ∧ w'.cell? ⟨hh, 4 * (k + n) + 1, none⟩ = some (.int .u64 18446744073709551615)) := Lib.hid (fun W o => by have := CC.out W (T0.out.2.also o); rw [if_neg hp] at this; exact this)
        have kk := C2.out _ (Off.refl _ _)
        have OX : Hid (Off Nob wr wr) := Lib.hid (Off.refl _ _)
        obtain ⟨a4, ha4⟩ : ∃ a4, 4 * (k + n) = a4 := ⟨_, rfl⟩
        have hb4 : 4 * ((k : Int) + (n : Int)) = (a4 : Int) := by omega
        have hc4 : a4 ≤ 1152 := by omega
        rw [ha4] at C2 kk
        obtain ⟨oo, hoo⟩ : ∃ oo, oth (cnt V (k + n)) k = oo := ⟨_, rfl⟩
        rw [hoo] at C2 kk
        have ho1 : (oo : Int) ≤ 300 := by rw [← hoo]; exact hoth
        have ho2 : (dr : Int) + (oo : Int) ≤ 70000 := by omega
        have ho3 : IntKind.u64.wrap (dr : Int) = (dr : Int) := by rw [IntKind.wrap_u64]; omega
        have ho4 : IntKind.u64.wrap (oo : Int) = (oo : Int) := by rw [IntKind.wrap_u64]; omega
        have ho5 : IntKind.u64.wrap ((dr : Int) + (oo : Int)) = (dr : Int) + (oo : Int) := by rw [IntKind.wrap_u64]; omega
        obtain ⟨n4, hn4⟩ : ∃ n4, a4 + 2 = n4 := ⟨_, rfl⟩
        have hd4 : (a4 : Int) < (n4 : Int) := by omega
        have he4 : (a4 : Int) + 1 < (n4 : Int) := by omega
        have hf4 : (a4 : Int) + 1 ≤ 2000 := by omega
        have hg4 : (0 : Int) ≤ (a4 : Int) := by omega
        have hh4 : (0 : Int) ≤ (a4 : Int) + 1 := by omega
        have hi4 : IntKind.i64.wrap ((a4 : Int) + 1) = (a4 : Int) + 1 := IntWalk.i64_in _ (by omega)
        have hj4 : ((a4 : Int) + 1).toNat = a4 + 1 := by omega
        clear CC CA HSB HB
        go_wp2_with fail
        simp only [ha4, hb4, hn4, hoo]
        go_region_held3 (fun w' => w'.cell? ⟨w.heap.size, 0, none⟩ = some (.int .u16 (dr : Int)) ∧ w'.cell? ⟨hh, a4, none⟩ = some (.int .u64 (min ((dr : Int) + (oo : Int)) 65535)) ∧ w'.cell? ⟨hh, a4 + 1, none⟩ = some (.int .u64 18446744073709551615))
          (first | with_reducible assumption | go_keep)
          (first
            | (go_at_call 16; refine (sameSl_eq (RG2.out.keep (show Off Nob wr _ by first | with_reducible exact OX.out | with_reducible exact Off.drew OX.out | with_reducible exact Off.drewN OX.out _) (fun _ _ h => h)) (RW.out.keep (show Off Nob wr _ by first | with_reducible exact OX.out | with_reducible exact Off.drew OX.out | with_reducible exact Off.drewN OX.out _) (fun _ _ h => h))).mono ?_; rintro e w' ⟨rfl, o1⟩; have OY : Hid (Off Nob wr w') := Lib.hid (Off.also (show Off Nob wr _ by first | with_reducible exact OX.out | with_reducible exact Off.drew OX.out | with_reducible exact Off.drewN OX.out _) o1); have kq := C2.out _ OY.out; clear o1 OX; have OX := Lib.hid OY.out; clear OY)
            | (go_at_call 6; refine (awake_ok _).mono ?_; rintro e w' ⟨rfl, o1⟩; have OY : Hid (Off Nob wr w') := Lib.hid (Off.also (show Off Nob wr _ by first | with_reducible exact OX.out | with_reducible exact Off.drew OX.out | with_reducible exact Off.drewN OX.out _) o1); have kq := C2.out _ OY.out; clear o1 OX; have OX := Lib.hid OY.out; clear OY))
        go_wp2_with fail
        go_ret
        exact ⟨rfl, (OW10.out.also T0.out.2).also OX.out⟩

set_option maxHeartbeats 16000000 in
theorem first_f (w : World) (b0 o0 k c0 b1 o1 n c1 : Nat) (X Y : List Bool) (hX : X.length = k) (hY : Y.length = n) (hk1 : 1 ≤ k) (hk2 : k ≤ 32) (hn1 : 1 ≤ n) (hn2 : n ≤ 256)
    (hb0 : b0 < w.heap.size) (hc0 : ∀ j, j < k → w.cell? ⟨b0, o0 + j, none⟩ = some (.bool (X.getD j false))) (hb1 : b1 < w.heap.size) (hc1 : ∀ j, j < n → w.cell? ⟨b1, o1 + j, none⟩ = some (.bool (Y.getD j false))) (dr : Nat) (hdr : dr ≤ 65535) :
    Calls Try.prog 3 #[.slice (some ⟨b0, o0, none⟩) k c0, .slice (some ⟨b1, o1, none⟩) n c1, .agg #[.int .u16 (dr : Int), .bool false]] w (BoolNew true w) := by
  obtain ⟨is0, his, hsz0, hsz1, hsz2⟩ := info_parts Try.infoSl
  have HV : Hid (∀ W, Off Nob w W → Calls Try.prog 7 #[.slice (some ⟨b0, o0, none⟩) k c0, .int .i64 1] W fun e w' => ∃ g, e = .returned (.slice (some ⟨g, 0, none⟩) k k) ∧ w'.ownsRow W.heap.size 47 3 (.slice (some ⟨g, 0, none⟩) k k) k (slC (vaT X 1 k k)) ∧ Off Nob W w') := Lib.hid (fun W o => cvalid_ok W b0 o0 k c0 X 1 hX hk1 (by omega) (by omega) (Nat.lt_of_lt_of_le hb0 o.size) (fun j hj => (o.cell_old hb0 _).trans (hc0 j hj)))
  have HU : Hid (∀ W, Off Nob w W → Calls Try.prog 7 #[.slice (some ⟨b1, o1, none⟩) n c1, .int .i64 (1 + (k : Int))] W fun e w' => ∃ g, e = .returned (.slice (some ⟨g, 0, none⟩) n n) ∧ w'.ownsRow W.heap.size 47 3 (.slice (some ⟨g, 0, none⟩) n n) n (slC (vaT Y (1 + k) n n)) ∧ Off Nob W w') := Lib.hid (fun W o => cvalid_ok W b1 o1 n c1 Y (1 + k) hY hn1 (by omega) (by omega) (Nat.lt_of_lt_of_le hb1 o.size) (fun j hj => (o.cell_old hb1 _).trans (hc1 j hj)))
  obtain ⟨hAl, hAs⟩ := va_two X Y k n 1 (1 + k) hX hY
  obtain ⟨V, hV⟩ : ∃ V : Nat → Bool, (fun i => (X ++ Y).getD i false) = V := ⟨_, rfl⟩
  have hAs2 : ∀ i, i < k + n → (sl (vaT X 1 k k ++ vaT Y (1 + k) n n) i).1 = msk (V i) ∧ (V i = false → sl (vaT X 1 k k ++ vaT Y (1 + k) n n) i = sl0) := fun i hi => by rw [← hV]; exact hAs i hi
  have HL2 : Hid ((slC (vaT Y (1 + k) n n)).length = n * 3) := Lib.hid (by rw [slC_len, vaT_len])
  clear hAs hV hc0 hc1 hb0 hb1 hX hY
  revert hAl hAs2 HV HU HL2
  generalize vaT X 1 k k = AX
  generalize vaT Y (1 + k) n n = AY
  intro HV HU hAl hAs2 HL2
  have hSA : slC AX ++ slC AY = slC (AX ++ AY) := (slC_append _ _).symm
  have HSA := Lib.hid hSA
  clear hSA
  have hg0 : decide ((k : Int) < 1) = false := decide_eq_false (by omega)
  have hg1 : decide ((32 : Int) < (k : Int)) = false := decide_eq_false (by omega)
  have hg2 : decide ((n : Int) < 1) = false := decide_eq_false (by omega)
  have hg3 : decide ((256 : Int) < (n : Int)) = false := decide_eq_false (by omega)
  have HA := Lib.hid (And.intro hAl hAs2)
  clear hAl hAs2
  go_enter Try.func3, Try.ntmps3
  go_wp2_with fail
  refine (HV.out _ (Off.alloc (Off.refl _ _) _)).mono ?_
  have BX0 : Hid (Blk (w.alloc (.cells #[.int .u16 (dr : Int), .bool false] 25)) w.heap.size 25 #[.int .u16 (dr : Int), .bool false]) := Lib.hid (Blk.new _ _ _)
  have O0 : Hid (Off Nob w (w.alloc (.cells #[.int .u16 (dr : Int), .bool false] 25))) := Lib.hid (Off.alloc (Off.refl _ _) _)
  generalize hW0 : w.alloc (.cells #[.int .u16 (dr : Int), .bool false] 25) = W0 at *
  rintro e w1 ⟨g1, rfl, h1, o1⟩
  have R1 := Lib.hid h1
  have O1 := Lib.hid o1
  clear h1 o1 HV
  have hW0' := Lib.hid hW0
  clear hW0
  clear hg0 hg1 hg2 hg3
  go_wp2_with fail
  refine (HU.out _ (O0.out.also O1.out)).mono ?_
  rintro e w2 ⟨g2, rfl, h2, o2⟩
  have R2 : Hid (w2.ownsRow W0.heap.size 47 3 (.slice (some ⟨g1, 0, none⟩) k k) k (slC AX)) := Lib.hid (own_keep R1.out o2)
  have HN : Hid (∀ j u, (slC AY)[j]? = some u → w2.cell? ((⟨g2, 0, none⟩ : Addr).add j) = some u) := Lib.hid (fun j u hu => by
    have hj := (List.getElem?_eq_some_iff.1 hu).1
    rw [HL2.out] at hj
    rw [add_addr, Nat.zero_add, h2.cellAt j hj]; exact hu)
  have O2 := Lib.hid (O1.out.also o2)
  clear h2 o2 HU R1 O1
  go_wp2_with (at_builtin; refine wpList_append_own_at _ rfl _ _ 27 rfl W0.heap.size 47 is0 (.agg #[.int .u64 0, .int .u64 0, .int .u64 0]) 3 24 Try.underlying27 his hsz0 hsz1 hsz2 rfl (by decide) (.slice (some ⟨g1, 0, none⟩) k k) k (slC AX) rfl R2.out ⟨g2, 0, none⟩ n _ (slC AY) rfl HL2.out HN.out (slC_one _) ?c3 ?c4 ?c5 ?_)
  case c3 => unfold maxLen; omega
  case c4 => omega
  case c5 => exact O2.out.size
  intro v' w3 hown' hgrow hnil hat
  rw [HSA.out] at hown'
  obtain ⟨h, c, rfl⟩ := own_form3 hown' (by omega)
  have O3 : Hid (Off Nob W0 w3) := Lib.hid (Off.grown O2.out hgrow (fun k hk => .inr (R2.out.lt k hk).1))
  obtain ⟨cs, hbs, hbk, hcx⟩ := own_rdC hown'
  have BL := Lib.hid hbk
  have BC := Lib.hid hcx
  have BX : Hid (Blk w3 w.heap.size 25 #[.int .u16 (dr : Int), .bool false]) := Lib.hid (BX0.out.to (O3.out.block _ BX0.out.lt (fun h => h)))
  have OW : Hid (Off Nob w w3) := Lib.hid (O0.out.also O3.out)
  clear hown' hgrow hnil hat hbk hcx hbs R2 HN O2 O3 BX0 O0 hW0' HSA HL2 his hsz0 hsz1 hsz2
  obtain ⟨A, hA⟩ : ∃ A, AX ++ AY = A := ⟨_, rfl⟩
  rw [hA] at HA BC
  clear hA
  have HLEN := Lib.hid HA.out.1
  have HS := Lib.hid HA.out.2
  clear HA
  have HQ : Hid (ckS (List.replicate (4 * (k + n) + 2) (0 : BitVec 64)).length ([] : List Ev).length (0 : Nat) (k + n : Nat) = 0) := Lib.hid (ckS_ok (by simp; omega))
  have HST := Lib.hid (fun w => csteps_ok k n hk1 hk2 hn1 hn2 w)
  have hcN := cpN_le (a := k + n) (by omega) (by omega)
  obtain ⟨l1, l2⟩ := fiW_len (sl A) (k + n) (BitVec.ofNat 64 dr) (msk false)
  obtain ⟨m1, m2, m3⟩ := fiW_cl (sl A) (k + n) (BitVec.ofNat 64 dr) (msk false)
  obtain ⟨wl1, wl2⟩ := wrS_len 0 (sl A) (List.replicate (4 * (k + n) + 2) (0 : BitVec 64), []) (k + n)
  rw [List.length_replicate] at wl1
  rw [List.length_nil, Nat.zero_add] at wl2
  have hok := first_ok _ _ k n hk1 hk2 hn1 hn2 l1 (show (fiW (sl A) (k + n) (BitVec.ofNat 64 dr) (msk false)).2.length + cpN (k + n) ≤ 8388608 by rw [l2]; omega)
  have hce := first_cpE _ _ k n hk1 hk2 hn1 hn2 l1 (show (fiW (sl A) (k + n) (BitVec.ofNat 64 dr) (msk false)).2.length + cpN (k + n) ≤ 8388608 by rw [l2]; omega)
  have PL := comp_plain (k + n) k n rfl rfl rfl rfl hok V (fun i hi => by
    have := (HS.out i hi).1
    rw [← m1 i hi] at this
    exact this) (fun i hi hv => (m1 i hi).trans ((HS.out i hi).2 hv))
  obtain ⟨q1, q2⟩ := cpK_len hok 6 (by omega)
  have HCP : Hid (∀ W F p, Ar W F p (fiW (sl A) (k + n) (BitVec.ofNat 64 dr) (msk false)).1 (fiW (sl A) (k + n) (BitVec.ofNat 64 dr) (msk false)).2 → Calls Try.prog 12 #[.pointer (some ⟨p, 0, none⟩), .agg #[.int .i64 0, .int .i64 (3 * ((k : Int) + (n : Int))), .int .i64 (4 * ((k : Int) + (n : Int))), .int .i64 (4 * ((k : Int) + (n : Int)) + 1)], .int .i64 (k : Int), .int .i64 (n : Int)] W fun e w' => e = .returned (.int .i64 0) ∧ ArTo W F p (cpK 0 (3 * ((k : Int) + (n : Int))) (4 * ((k : Int) + (n : Int))) (4 * ((k : Int) + (n : Int)) + 1) k n (fiW (sl A) (k + n) (BitVec.ofNat 64 dr) (msk false)).1 (fiW (sl A) (k + n) (BitVec.ofNat 64 dr) (msk false)).2 6).1 (cpK 0 (3 * ((k : Int) + (n : Int))) (4 * ((k : Int) + (n : Int))) (4 * ((k : Int) + (n : Int)) + 1) k n (fiW (sl A) (k + n) (BitVec.ofNat 64 dr) (msk false)).1 (fiW (sl A) (k + n) (BitVec.ofNat 64 dr) (msk false)).2 6).2.1 w') := Lib.hid (fun W F p ha => ccompact_ok ha 0 _ _ _ k n hok hce)
  have hwa := waL_rd PL (sl A) m1
  have hdrop := PL.drop
  have hflag := PL.flag
  rw [m2] at hdrop
  rw [m3] at hflag
  have hcl := cnt_le (v := V) (k + n)
  have e1 := sum_drop dr (PackZ.cnt V (k + n) - min (PackZ.cnt V (k + n)) k) hdr (by omega)
  rw [← hdrop] at e1
  rw [flag_or _ _ (by omega)] at hflag
  rw [l1] at q1
  rw [l2] at q2
  obtain ⟨C0, hC0⟩ : ∃ C0, (wrS 0 (sl A) (List.replicate (4 * (k + n) + 2) (0 : BitVec 64), []) (k + n)).1 = C0 := ⟨_, rfl⟩
  obtain ⟨E0, hE0⟩ : ∃ E0, (wrS 0 (sl A) (List.replicate (4 * (k + n) + 2) (0 : BitVec 64), []) (k + n)).2 = E0 := ⟨_, rfl⟩
  have HF : Hid ((fiW (sl A) (k + n) (BitVec.ofNat 64 dr) (msk false)) = (((C0.set (4 * (k + n)) (BitVec.ofNat 64 dr)).set (4 * (k + n) + 1) (msk false)), (E0 ++ [(2, 4 * (k + n))]) ++ [(2, 4 * (k + n) + 1)])) := Lib.hid (by rw [← hC0, ← hE0]; rfl)
  have HWR : Hid (∀ w0 w bs p, One w0 w bs p (List.replicate (4 * (k + n) + 2) 0) [] → (h, 47, cs) ∈ bs → Calls Try.prog 9 #[.pointer (some ⟨p, 0, none⟩), .int .i64 0, .slice (some ⟨h, 0, none⟩) (k + n) c] w fun e w' => e = .returned (.int .i64 0) ∧ One w0 w' bs p C0 E0) := Lib.hid (fun w0 w bs p h1 hm => by
    have := h1.writeC hm BC.out HLEN.out c 0 HQ.out
    rw [hC0, hE0] at this
    exact this)
  rw [hC0] at wl1
  rw [hE0] at wl2
  obtain ⟨cN, hcNe⟩ : ∃ c, cpN (k + n) = c := ⟨_, rfl⟩
  have hE6 : ∃ x, x = 3 * (k + n) + 2 + cN ∧ (cpK 0 (3 * ((k : Int) + (n : Int))) (4 * ((k : Int) + (n : Int))) (4 * ((k : Int) + (n : Int)) + 1) k n (fiW (sl A) (k + n) (BitVec.ofNat 64 dr) (msk false)).1 (fiW (sl A) (k + n) (BitVec.ofNat 64 dr) (msk false)).2 6).2.1.length = x := ⟨_, rfl, by rw [q2, ← hcNe]; unfold cpN; simp only [cpV]⟩
  clear hC0 hE0 hok hce PL q2 HQ l1 l2 m1 m2 m3 hdrop
  have ALL := And.intro HCP.out (And.intro hwa (And.intro e1 (And.intro hflag (And.intro q1 hE6))))
  clear HCP hwa e1 hflag q1 hE6
  revert ALL
  generalize (cpK 0 (3 * ((k : Int) + (n : Int))) (4 * ((k : Int) + (n : Int))) (4 * ((k : Int) + (n : Int)) + 1) k n (fiW (sl A) (k + n) (BitVec.ofNat 64 dr) (msk false)).1 (fiW (sl A) (k + n) (BitVec.ofNat 64 dr) (msk false)).2 6).1 = C6
  generalize (cpK 0 (3 * ((k : Int) + (n : Int))) (4 * ((k : Int) + (n : Int))) (4 * ((k : Int) + (n : Int)) + 1) k n (fiW (sl A) (k + n) (BitVec.ofNat 64 dr) (msk false)).1 (fiW (sl A) (k + n) (BitVec.ofNat 64 dr) (msk false)).2 6).2.1 = E6
  intro ALL
  obtain ⟨hcp, hwa, e1, hflag, q1, hE6⟩ := ALL
  rw [HF.out] at hcp
  have HCP := Lib.hid hcp
  clear hcp
  have HWA := Lib.hid hwa
  have HD := Lib.hid e1
  have HFL := Lib.hid hflag
  have HC6 := Lib.hid q1
  have HE6 := Lib.hid hE6
  rw [hcNe] at HST hcN
  have HCN := Lib.hid (And.intro hcN hcNe)
  have WL := Lib.hid (And.intro wl1 wl2)
  have HCL := Lib.hid hcl
  clear hwa e1 hflag q1 hE6 HF wl1 wl2 hcN hcNe hcl
  go_wp2_with fail
  refine Calls.mono (R := fun e w' => ∃ p, e = .returned (.tuple #[.pointer (some ⟨p, 0, none⟩), .int .i64 0]) ∧ One w3 w' [] p (List.replicate (4 * (k + n) + 2) 0) []) (by
    have := new_ok (4 * (k + n) + 2) w3 (by omega) (by omega)
    rw [show ((4 * (k + n) + 2 : Nat) : Int) = 4 * ((k : Int) + (n : Int)) + 2 by push_cast; rfl] at this
    exact this.mono fun e w' ⟨p, he, F, ha, ho, hf⟩ => ⟨p, he, F, ha, ho, hf, fun x hx => by cases hx⟩) ?_
  rintro e w4 ⟨p, rfl, u4⟩
  have U4 : Hid (One w3 w4 [(w.heap.size, 25, #[.int .u16 (dr : Int), .bool false]), (h, 47, cs)] p (List.replicate (4 * (k + n) + 2) 0) []) := Lib.hid ((u4.add (BL.out.to (u4.oldR.block _ BL.out.lt (fun h => h))) BL.out.lt).add (BX.out.to (u4.oldR.block _ BX.out.lt (fun h => h))) BX.out.lt)
  clear u4 BL BX
  have x1 := (U4.out.blk (List.mem_cons_self)).cell 1
  simp only [List.getElem?_toArray, List.getElem?_cons_succ, List.getElem?_cons_zero] at x1
  go_wp2_with fail
  refine (HWR.out _ _ _ _ U4.out (List.mem_cons_of_mem _ (List.mem_cons_self))).mono ?_
  rintro e w5 ⟨rfl, u5⟩
  have U5 := Lib.hid u5
  have x0 := (u5.blk (List.mem_cons_self)).cell 0
  simp only [List.getElem?_toArray, List.getElem?_cons_succ, List.getElem?_cons_zero] at x0
  clear u5 HWR x1 U4
  go_wp2_with fail
  refine Calls.mono (R := fun e w' => e = .returned (.int .i64 0) ∧ One w3 w' [(w.heap.size, 25, #[.int .u16 (dr : Int), .bool false]), (h, 47, cs)] p (C0.set (4 * (k + n)) (BitVec.ofNat 64 dr)) (E0 ++ [(2, 4 * (k + n))])) (by
    have := U5.out.call (fun W F ha => store_ok ha (4 * ((k : Int) + (n : Int))) (BitVec.ofNat 64 dr) (by omega) (by rw [WL.out.1]; omega) (by rw [WL.out.2]; omega))
    rw [show (4 * ((k : Int) + (n : Int))).toNat = 4 * (k + n) by omega, show n64 (BitVec.ofNat 64 dr) = (dr : Int) by unfold n64; simp; omega] at this
    exact this) ?_
  rintro e w6 ⟨rfl, u6⟩
  have U6 := Lib.hid u6
  clear u6 x0 U5
  go_wp2_with fail
  refine Calls.mono (R := fun e w' => e = .returned (.int .i64 0) ∧ One w3 w' [(w.heap.size, 25, #[.int .u16 (dr : Int), .bool false]), (h, 47, cs)] p ((C0.set (4 * (k + n)) (BitVec.ofNat 64 dr)).set (4 * (k + n) + 1) (msk false)) ((E0 ++ [(2, 4 * (k + n))]) ++ [(2, 4 * (k + n) + 1)])) (by
    have := U6.out.call (fun W F ha => store_ok ha (4 * ((k : Int) + (n : Int)) + 1) (msk false) (by omega) (by rw [List.length_set, WL.out.1]; omega) (by rw [List.length_append, WL.out.2]; simp only [List.length_cons, List.length_nil]; omega))
    rw [show (4 * ((k : Int) + (n : Int)) + 1).toNat = 4 * (k + n) + 1 by omega] at this
    exact this) ?_
  rintro e w7 ⟨rfl, u7⟩
  have U7 := Lib.hid u7
  clear u7 U6
  go_wp2_with fail
  refine Calls.mono (R := fun e w' => e = .returned (.int .i64 (3 * ((k : Int) + (n : Int)) + 2)) ∧ w7 = w') (by
    obtain ⟨F, ha⟩ := U7.out.ar
    have := steps_any ha
    rwa [show ((((E0 ++ [(2, 4 * (k + n))] : List Ev) ++ [(2, 4 * (k + n) + 1)] : List Ev).length : Nat) : Int) = 3 * ((k : Int) + (n : Int)) + 2 by simp only [List.length_append, List.length_cons, List.length_nil, WL.out.2]; omega] at this) ?_
  rintro e w' ⟨rfl, rfl⟩
  clear WL
  go_wp2_with fail
  refine Calls.mono (R := fun e w' => e = .returned (.int .i64 0) ∧ One w3 w' [(w.heap.size, 25, #[.int .u16 (dr : Int), .bool false]), (h, 47, cs)] p C6 E6) (U7.out.call (fun W F ha => HCP.out W F p ha)) ?_
  rintro e w8 ⟨rfl, u8⟩
  have U8 := Lib.hid u8
  clear u8 U7 HCP
  go_wp2_with fail
  refine (HST.out _).mono ?_
  rintro e w' ⟨rfl, rfl⟩
  go_wp2_with fail
  refine Calls.mono (R := fun e w' => ∃ g, e = .returned (.tuple #[.slice (some ⟨g, 0, none⟩) k k, .int .i64 0]) ∧ One w3 w' [(g, 47, (slC (rdL 0 C6 k)).toArray), (w.heap.size, 25, #[.int .u16 (dr : Int), .bool false]), (h, 47, cs)] p C6 (rdE 0 E6 k)) (by
    obtain ⟨x6, hx6, hl6⟩ := HE6.out
    have hcn := HCN.out.1
    exact U8.out.row (fun F ha => read_ok ha 0 k (ckS_ok (by rw [HC6.out, hl6]; omega)))) ?_
  rintro e w9 ⟨g, rfl, u9⟩
  have U9 := Lib.hid u9
  clear u9 U8
  go_wp2_with fail
  refine Calls.mono (R := fun e w' => ∃ h c, e = .returned (.slice (some ⟨h, 0, none⟩) (4 * (k + n) + 2) c) ∧ w'.ownsRow w9.heap.size 33 1 (.slice (some ⟨h, 0, none⟩) (4 * (k + n) + 2) c) (4 * (k + n) + 2) (u64s C6) ∧ Off Nob w9 w') (by
    obtain ⟨F, ha⟩ := U9.out.ar
    refine (cells_ok ha).mono fun e w' he => ?_
    have := a5_row he (by rw [HC6.out]; omega)
    rw [HC6.out] at this
    exact this) ?_
  rintro e w10 ⟨hh, cc, rfl, hr, o10⟩
  have U10 := Lib.hid (U9.out.offR o10)
  have HR := Lib.hid hr
  clear hr o10 U9
  have hcn := HCN.out.1
  have hcn2 : (cN : Int) ≤ 8000000 := by omega
  clear hcn
  have hkn : 3 * ((k : Int) + (n : Int)) + 2 + (cN : Int) + 3 * (k : Int) ≤ 9000000 := by omega
  have HSX : Hid (Calls Try.prog 11 #[.pointer (some ⟨p, 0, none⟩)] w10 fun e w' => e = .returned (.int .i64 (3 * ((k : Int) + (n : Int)) + 2 + (cN : Int) + 3 * (k : Int))) ∧ w10 = w') := Lib.hid (by
    obtain ⟨F, ha⟩ := U10.out.ar
    have := steps_any ha
    obtain ⟨x6, hx6, hl6⟩ := HE6.out
    rwa [show (((rdE 0 E6 k).length : Nat) : Int) = 3 * ((k : Int) + (n : Int)) + 2 + (cN : Int) + 3 * (k : Int) by rw [rdE_len, hl6, hx6]; omega] at this)
  have hoth : (oth (cnt V (k + n)) k : Int) ≤ 300 := by have := HCL.out; have := oth_le (cnt V (k + n)) k; omega
  obtain ⟨is1, his, hsz0, hsz1, hsz2⟩ := info_parts Try.infoSl
  have kA := U10.out.blk (b := h) (t := 47) (cs := cs) (by simp)
  have kG := U10.out.blk (b := g) (t := 47) (cs := (slC (rdL 0 C6 k)).toArray) (by simp)
  have kX := U10.out.blk (b := w.heap.size) (t := 25) (cs := #[.int .u16 (dr : Int), .bool false]) (by simp)
  have LA : Hid (h < w10.heap.size) := Lib.hid kA.lt
  have CA : Hid (∀ j, j < k + n → w10.cell? ⟨h, j * 3, none⟩ = some (.int .u64 (n64 (sl A j).1)) ∧ w10.cell? ⟨h, j * 3 + 1, none⟩ = some (.int .u64 (n64 (sl A j).2.1)) ∧ w10.cell? ⟨h, j * 3 + 2, none⟩ = some (.int .u64 (n64 (sl A j).2.2))) := Lib.hid (fun j hj => by
    obtain ⟨a0, a1, a2⟩ := slC_at A j (by rw [HLEN.out]; exact hj)
    exact ⟨(kA.cell _).trans (BC.out _ _ a0), (kA.cell _).trans (BC.out _ _ a1), (kA.cell _).trans (BC.out _ _ a2)⟩)
  have RG : Hid (Rd w10 (fun x => x = g) 3 (.slice (some ⟨g, 0, none⟩) k k) k (slC (waL V (sl A) k (k + n)))) := Lib.hid (by
    rw [HWA.out]
    exact ⟨_, _, rfl, by unfold maxLen; omega, by rw [slC_len, rdL_len], fun _ => ⟨g, 0, rfl, rfl, kG.lt, fun j u hu => by rw [Nat.zero_add, kG.cell, List.getElem?_toArray]; exact hu⟩⟩)
  have CC : Hid (∀ W, Off Nob w10 W → W.cell? ⟨w.heap.size, 0, none⟩ = some (.int .u16 (dr : Int)) ∧ W.cell? ⟨hh, 4 * (k + n), none⟩ = some (.int .u64 (min ((dr : Int) + (oth (cnt V (k + n)) k : Int)) 65535)) ∧ W.cell? ⟨hh, 4 * (k + n) + 1, none⟩ = some (.int .u64 (if 0 < oth (cnt V (k + n)) k then 18446744073709551615 else 0))) := Lib.hid (fun W o => by
    refine ⟨?_, a5c_cell HR.out o _ (by rw [HC6.out]; omega) _ HD.out, a5c_cell HR.out o _ (by rw [HC6.out]; omega) _ ?_⟩
    · rw [o.cell_old kX.lt, kX.cell]; rfl
    · rw [HFL.out]
      by_cases hp : 0 < oth (cnt V (k + n)) k
      · rw [if_pos hp, if_pos (show 0 < cnt V (k + n) - min (cnt V (k + n)) k from hp)]; exact n64_msk_true
      · rw [if_neg hp, if_neg (show ¬ 0 < cnt V (k + n) - min (cnt V (k + n)) k from hp)]; first | exact n64_msk_true | rfl)
  have OW10 : Hid (Off Nob w w10) := Lib.hid (OW.out.also U10.out.oldR)
  clear kA kG kX U10 HR HD HFL HWA BC OW HE6 HCN HC6 HLEN HCL HST
  go_wp2_with (first | (refine HSX.out.mono ?_; rintro e w' ⟨rfl, rfl⟩; clear HSX) | (at_make; refine wpList_make_full _ rfl _ _ 27 rfl w10.heap.size 47 is1 (.agg #[.int .u64 0, .int .u64 0, .int .u64 0]) 3 Try.underlying27 his hsz0 hsz1 .i64 .i64 _ _ k rfl rfl rfl rfl (by rw [hsz2]; omega) (by unfold maxLen; omega) (Nat.le_refl _) ?_; intro w11 hown2 hgrow2))
  have PK : Hid (VaI w10.heap.size w10 w10.heap.size (waL V (sl A) k 0) k w11) := by
    refine Lib.hid ⟨?_, Off.grown (Off.refl _ _) hgrow2 (fun k hk => by cases hk)⟩
    rw [show (madeCells (Value.agg #[.int .u64 0, .int .u64 0, .int .u64 0]).cells (k * 3)).toList = slC (List.replicate k (0#64, 0#64, 0#64)) from made_slots k] at hown2
    exact hown2
  clear hown2 hgrow2 his hsz0 hsz1 hsz2
  have HB : Hid (w10.heap.size ≤ w10.heap.size) := Lib.hid (Nat.le_refl _)
  revert PK HB
  generalize hbase : w10.heap.size = base
  intro PK HB
  have HSB := Lib.hid hbase
  clear hbase
  go_loopw [25, 26] (fun m i wr => ∃ j : Nat, j ≤ k + n ∧ m = .int .i64 (cnt V j : Int) ∧ i = .int .i64 (j : Int) ∧ VaI base w10 base (waL V (sl A) k j) k wr) (fun _ i _ => k + n - (intOf i).toNat)
  case atStart => exact ⟨0, Nat.zero_le _, rfl, rfl, PK.out⟩
  case round =>
    obtain ⟨j, hj, rfl, rfl, hrel⟩ := hrel
    have T0 := Lib.hid hrel
    clear hrel PK
    have hcj : cnt V j ≤ 300 := by have := cnt_le (v := V) j; omega
    by_cases hlt : j < k + n
    · obtain ⟨a0, a1, a2⟩ := CA.out j hlt
      have hx1 := (HS.out j hlt).1
      have hcs := cnt_succ (v := V) j
      rw [← T0.out.2.cell_old (by exact LA.out) _] at a0 a1 a2
      cases hv : V j
      · rw [hx1, hv, show n64 (msk false) = 0 from rfl] at a0
        rw [hv] at hcs
        simp at hcs
        have HW : Hid (waL V (sl A) k (j + 1) = waL V (sl A) k j) := Lib.hid (by rw [waL, if_neg]; rw [hv]; simp)
        clear hx1
        go_wp2_with fail
        go_roundw
        case rel => exact ⟨j + 1, hlt, by rw [hcs], rfl, by rw [HW.out]; exact T0.out⟩
        case measure => simp [intOf]; omega
      · have b0 := a0
        rw [hx1, hv, n64_msk_true] at a0
        rw [hv] at hcs
        simp at hcs
        by_cases hk : cnt V j < k
        · have hd : decide ((cnt V j : Int) < (k : Int)) = true := decide_eq_true (by omega)
          have HW : Hid (waL V (sl A) k (j + 1) = (waL V (sl A) k j).set (cnt V j) (sl A j)) := Lib.hid (by rw [waL, if_pos ⟨hv, hk⟩])
          have T1 := Lib.hid (T0.out.put (by rw [HSB.out]; exact Nat.le_refl _) (cnt V j) (sl A j))
          rw [← HW.out, hx1, hv, n64_msk_true] at T1
          obtain ⟨c0, c1, c2⟩ := slC_at (waL V (sl A) k j) (cnt V j) (by rw [waL_len]; exact hk)
          rw [← T0.out.1.cellAt _ (by omega)] at c0 c1 c2
          have f0 := T0.out.1.frozenAt (cnt V j * 3)
          have f1 := T0.out.1.frozenAt (cnt V j * 3 + 1)
          have f2 := T0.out.1.frozenAt (cnt V j * 3 + 2)
          clear hx1 HW b0
          go_wp2_with fail
          go_roundw
          case rel => exact ⟨j + 1, hlt, by rw [hcs]; rfl, rfl, T1.out⟩
          case measure => simp [intOf]; omega
        · have hd : decide ((cnt V j : Int) < (k : Int)) = false := decide_eq_false (by omega)
          have HW : Hid (waL V (sl A) k (j + 1) = waL V (sl A) k j) := Lib.hid (by rw [waL, if_neg]; rintro ⟨_, h2⟩; exact hk h2)
          clear hx1 b0
          go_wp2_with fail
          go_roundw
          case rel => exact ⟨j + 1, hlt, by rw [hcs]; rfl, rfl, by rw [HW.out]; exact T0.out⟩
          case measure => simp [intOf]; omega
    · obtain rfl : j = k + n := by omega
      have RW : Hid (Rd wr (Old wr) 3 (.slice (some ⟨base, 0, none⟩) k k) k (slC (waL V (sl A) k (k + n)))) := Lib.hid (Rd.own T0.out.1 (fun q hq => (T0.out.1.lt q hq).2))
      have RG2 := Lib.hid (RG.out.keep T0.out.2 (fun _ _ h => h))
      by_cases hp : 0 < oth (cnt V (k + n)) k
      · have hd : decide ((0 : Int) < (oth (cnt V (k + n)) k : Int)) = true := decide_eq_true (by omega)
        have C2 : Hid (∀ w', Off Nob wr w' → w'.cell? ⟨w.heap.size, 0, none⟩ = some (.int .u16 (dr : Int)) ∧ w'.cell? ⟨hh, 4 * (k + n), none⟩ = some (.int .u64 (min ((dr : Int) + (oth (cnt V (k + n)) k : Int)) 65535)) ∧ w'.cell? ⟨hh, 4 * (k + n) + 1, none⟩ = some (.int .u64 18446744073709551615)) := Lib.hid (fun W o => by have := CC.out W (T0.out.2.also o); rw [if_pos hp] at this; exact this)
        have kk := C2.out _ (Off.refl _ _)
        have OX : Hid (Off Nob wr wr) := Lib.hid (Off.refl _ _)
        obtain ⟨a4, ha4⟩ : ∃ a4, 4 * (k + n) = a4 := ⟨_, rfl⟩
        have hb4 : 4 * ((k : Int) + (n : Int)) = (a4 : Int) := by omega
        have hc4 : a4 ≤ 1152 := by omega
        rw [ha4] at C2 kk
        obtain ⟨oo, hoo⟩ : ∃ oo, oth (cnt V (k + n)) k = oo := ⟨_, rfl⟩
        rw [hoo] at C2 kk
        have ho1 : (oo : Int) ≤ 300 := by rw [← hoo]; exact hoth
        have ho2 : (dr : Int) + (oo : Int) ≤ 70000 := by omega
        have ho3 : IntKind.u64.wrap (dr : Int) = (dr : Int) := by rw [IntKind.wrap_u64]; omega
        have ho4 : IntKind.u64.wrap (oo : Int) = (oo : Int) := by rw [IntKind.wrap_u64]; omega
        have ho5 : IntKind.u64.wrap ((dr : Int) + (oo : Int)) = (dr : Int) + (oo : Int) := by rw [IntKind.wrap_u64]; omega
        obtain ⟨n4, hn4⟩ : ∃ n4, a4 + 2 = n4 := ⟨_, rfl⟩
        have hd4 : (a4 : Int) < (n4 : Int) := by omega
        have he4 : (a4 : Int) + 1 < (n4 : Int) := by omega
        have hf4 : (a4 : Int) + 1 ≤ 2000 := by omega
        have hg4 : (0 : Int) ≤ (a4 : Int) := by omega
        have hh4 : (0 : Int) ≤ (a4 : Int) + 1 := by omega
        have hi4 : IntKind.i64.wrap ((a4 : Int) + 1) = (a4 : Int) + 1 := IntWalk.i64_in _ (by omega)
        have hj4 : ((a4 : Int) + 1).toNat = a4 + 1 := by omega
        clear CC CA HSB HB
        go_wp2_with fail
        simp only [ha4, hb4, hn4, hoo]
        go_region_held3 (fun w' => w'.cell? ⟨w.heap.size, 0, none⟩ = some (.int .u16 (dr : Int)) ∧ w'.cell? ⟨hh, a4, none⟩ = some (.int .u64 (min ((dr : Int) + (oo : Int)) 65535)) ∧ w'.cell? ⟨hh, a4 + 1, none⟩ = some (.int .u64 18446744073709551615))
          (first | with_reducible assumption | go_keep)
          (first
            | (go_at_call 16; refine (sameSl_eq (RG2.out.keep (show Off Nob wr _ by first | with_reducible exact OX.out | with_reducible exact Off.drew OX.out | with_reducible exact Off.drewN OX.out _) (fun _ _ h => h)) (RW.out.keep (show Off Nob wr _ by first | with_reducible exact OX.out | with_reducible exact Off.drew OX.out | with_reducible exact Off.drewN OX.out _) (fun _ _ h => h))).mono ?_; rintro e w' ⟨rfl, o1⟩; have OY : Hid (Off Nob wr w') := Lib.hid (Off.also (show Off Nob wr _ by first | with_reducible exact OX.out | with_reducible exact Off.drew OX.out | with_reducible exact Off.drewN OX.out _) o1); have kq := C2.out _ OY.out; clear o1 OX; have OX := Lib.hid OY.out; clear OY)
            | (go_at_call 6; refine (awake_ok _).mono ?_; rintro e w' ⟨rfl, o1⟩; have OY : Hid (Off Nob wr w') := Lib.hid (Off.also (show Off Nob wr _ by first | with_reducible exact OX.out | with_reducible exact Off.drew OX.out | with_reducible exact Off.drewN OX.out _) o1); have kq := C2.out _ OY.out; clear o1 OX; have OX := Lib.hid OY.out; clear OY))
        go_wp2_with fail
        go_ret
        exact ⟨rfl, (OW10.out.also T0.out.2).also OX.out⟩
      · have hd : decide ((0 : Int) < (oth (cnt V (k + n)) k : Int)) = false := decide_eq_false (by omega)
        have C2 : Hid (∀ w', Off Nob wr w' → w'.cell? ⟨w.heap.size, 0, none⟩ = some (.int .u16 (dr : Int)) ∧ w'.cell? ⟨hh, 4 * (k + n), none⟩ = some (.int .u64 (min ((dr : Int) + (oth (cnt V (k + n)) k : Int)) 65535)) ∧ w'.cell? ⟨hh, 4 * (k + n) + 1, none⟩ = some (.int .u64 0)) := Lib.hid (fun W o => by have := CC.out W (T0.out.2.also o); rw [if_neg hp] at this; exact this)
        have kk := C2.out _ (Off.refl _ _)
        have OX : Hid (Off Nob wr wr) := Lib.hid (Off.refl _ _)
        obtain ⟨a4, ha4⟩ : ∃ a4, 4 * (k + n) = a4 := ⟨_, rfl⟩
        have hb4 : 4 * ((k : Int) + (n : Int)) = (a4 : Int) := by omega
        have hc4 : a4 ≤ 1152 := by omega
        rw [ha4] at C2 kk
        obtain ⟨oo, hoo⟩ : ∃ oo, oth (cnt V (k + n)) k = oo := ⟨_, rfl⟩
        rw [hoo] at C2 kk
        have ho1 : (oo : Int) ≤ 300 := by rw [← hoo]; exact hoth
        have ho2 : (dr : Int) + (oo : Int) ≤ 70000 := by omega
        have ho3 : IntKind.u64.wrap (dr : Int) = (dr : Int) := by rw [IntKind.wrap_u64]; omega
        have ho4 : IntKind.u64.wrap (oo : Int) = (oo : Int) := by rw [IntKind.wrap_u64]; omega
        have ho5 : IntKind.u64.wrap ((dr : Int) + (oo : Int)) = (dr : Int) + (oo : Int) := by rw [IntKind.wrap_u64]; omega
        obtain ⟨n4, hn4⟩ : ∃ n4, a4 + 2 = n4 := ⟨_, rfl⟩
        have hd4 : (a4 : Int) < (n4 : Int) := by omega
        have he4 : (a4 : Int) + 1 < (n4 : Int) := by omega
        have hf4 : (a4 : Int) + 1 ≤ 2000 := by omega
        have hg4 : (0 : Int) ≤ (a4 : Int) := by omega
        have hh4 : (0 : Int) ≤ (a4 : Int) + 1 := by omega
        have hi4 : IntKind.i64.wrap ((a4 : Int) + 1) = (a4 : Int) + 1 := IntWalk.i64_in _ (by omega)
        have hj4 : ((a4 : Int) + 1).toNat = a4 + 1 := by omega
        clear CC CA HSB HB
        go_wp2_with fail
        simp only [ha4, hb4, hn4, hoo]
        go_region_held3 (fun w' => w'.cell? ⟨w.heap.size, 0, none⟩ = some (.int .u16 (dr : Int)) ∧ w'.cell? ⟨hh, a4, none⟩ = some (.int .u64 (min ((dr : Int) + (oo : Int)) 65535)) ∧ w'.cell? ⟨hh, a4 + 1, none⟩ = some (.int .u64 0))
          (first | with_reducible assumption | go_keep)
          (first
            | (go_at_call 16; refine (sameSl_eq (RG2.out.keep (show Off Nob wr _ by first | with_reducible exact OX.out | with_reducible exact Off.drew OX.out | with_reducible exact Off.drewN OX.out _) (fun _ _ h => h)) (RW.out.keep (show Off Nob wr _ by first | with_reducible exact OX.out | with_reducible exact Off.drew OX.out | with_reducible exact Off.drewN OX.out _) (fun _ _ h => h))).mono ?_; rintro e w' ⟨rfl, o1⟩; have OY : Hid (Off Nob wr w') := Lib.hid (Off.also (show Off Nob wr _ by first | with_reducible exact OX.out | with_reducible exact Off.drew OX.out | with_reducible exact Off.drewN OX.out _) o1); have kq := C2.out _ OY.out; clear o1 OX; have OX := Lib.hid OY.out; clear OY)
            | (go_at_call 6; refine (awake_ok _).mono ?_; rintro e w' ⟨rfl, o1⟩; have OY : Hid (Off Nob wr w') := Lib.hid (Off.also (show Off Nob wr _ by first | with_reducible exact OX.out | with_reducible exact Off.drew OX.out | with_reducible exact Off.drewN OX.out _) o1); have kq := C2.out _ OY.out; clear o1 OX; have OX := Lib.hid OY.out; clear OY))
        go_wp2_with fail
        go_ret
        exact ⟨rfl, (OW10.out.also T0.out.2).also OX.out⟩
theorem first_out {w : World} (A0 A1 : Option Addr) (k c0 n c1 : Nat) (u x : Value) (h : k < 1 ∨ 32 < k ∨ n < 1 ∨ 256 < n) (hk : k ≤ maxLen) (hn : n ≤ maxLen) :
    Calls Try.prog 3 #[.slice A0 k c0, .slice A1 n c1, .agg #[u, x]] w (BoolNew true w) := by
  unfold maxLen at hk hn
  have d0 : decide ((k : Int) < 1) = true ∨ (decide ((k : Int) < 1) = false ∧ decide ((32 : Int) < (k : Int)) = true) ∨ (decide ((k : Int) < 1) = false ∧ decide ((32 : Int) < (k : Int)) = false ∧ decide ((n : Int) < 1) = true) ∨ (decide ((k : Int) < 1) = false ∧ decide ((32 : Int) < (k : Int)) = false ∧ decide ((n : Int) < 1) = false ∧ decide ((256 : Int) < (n : Int)) = true) := by
    simp only [decide_eq_true_eq, decide_eq_false_iff_not]; omega
  rcases d0 with d0 | ⟨d0, d1⟩ | ⟨d0, d1, d2⟩ | ⟨d0, d1, d2, d3⟩
  all_goals
    go_enter Try.func3, Try.ntmps3
    go_wp2_with fail
    refine (awake_ok _).mono ?_
    rintro e w4 ⟨rfl, h4⟩
    have H4 := Lib.hid ((Off.alloc (Off.refl Nob w) _).also h4)
    clear h4
    go_wp2
    go_ret
    exact ⟨rfl, H4.out⟩
theorem compactFirst_walk {w : World} {v0 v1 : Value} {n0 n1 : Nat} {X Y : List Bool} (h0 : Rd w (Old w) 1 v0 n0 (boolsV X)) (h1 : Rd w (Old w) 1 v1 n1 (boolsV Y))
    (l : List Value) (hl : l.length = 2) (hk : ∀ f j κ, kindAt Try.prog f 25 j = some κ → ∃ u, l[j]? = some u ∧ okV κ u) :
    Calls Try.prog 3 #[v0, v1, .agg l.toArray] w (BoolNew true w) := by
  have hx : X.length = n0 := by obtain ⟨_, _, _, _, hl, _⟩ := h0; rw [boolsV, List.length_map] at hl; omega
  have hy : Y.length = n1 := by obtain ⟨_, _, _, _, hl, _⟩ := h1; rw [boolsV, List.length_map] at hl; omega
  obtain ⟨u0, e0, o0⟩ := hk 4 0 (some .u16) (by kernel_rfl)
  obtain ⟨u1, e1, o1⟩ := hk 4 1 none (by kernel_rfl)
  obtain ⟨d, rfl, wf⟩ := o0
  obtain ⟨fl, rfl⟩ := o1
  have hb : 0 ≤ d ∧ d ≤ 65535 := by simp [Lit.wf, IntKind.bits, IntKind.signed, IntKind.min, IntKind.max] at wf; omega
  obtain ⟨dr, rfl⟩ := Int.eq_ofNat_of_zero_le hb.1
  match l, hl with
  | [a, b], _ =>
    simp at e0 e1
    subst e0 e1
    obtain ⟨A0, c0, rfl, m0, p0⟩ := h0.form
    obtain ⟨A1, c1, rfl, m1, p1⟩ := h1.form
    by_cases g : n0 < 1 ∨ 32 < n0 ∨ n1 < 1 ∨ 256 < n1
    · exact first_out _ _ _ _ _ _ _ _ g m0 m1
    · obtain ⟨b0, o0, rfl, hb0, x0⟩ := p0 (by omega)
      obtain ⟨b1, o1, rfl, hb1, x1⟩ := p1 (by omega)
      have y0 : ∀ j, j < n0 → w.cell? ⟨b0, o0 + j, none⟩ = some (.bool (X.getD j false)) := fun j hj => x0 j _ (by simp [boolsV, List.getD, List.getElem?_eq_getElem (show j < X.length by omega)])
      have y1 : ∀ j, j < n1 → w.cell? ⟨b1, o1 + j, none⟩ = some (.bool (Y.getD j false)) := fun j hj => x1 j _ (by simp [boolsV, List.getD, List.getElem?_eq_getElem (show j < Y.length by omega)])
      cases fl
      · exact first_f w b0 o0 n0 c0 b1 o1 n1 c1 X Y hx hy (by omega) (by omega) (by omega) (by omega) hb0 y0 hb1 y1 dr (by omega)
      · exact first_t w b0 o0 n0 c0 b1 o1 n1 c1 X Y hx hy (by omega) (by omega) (by omega) (by omega) hb0 y0 hb1 y1 dr (by omega)
end Go.Proofs.Ytedbafgejladiaa
