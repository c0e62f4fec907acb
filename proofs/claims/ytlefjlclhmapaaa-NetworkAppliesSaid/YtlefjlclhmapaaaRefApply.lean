/-
  dragnetref24.Apply.
-/
import Derived.Test.YtlefjlclhmapaaaNetApply
import Derived.Test.YtlefjlclhmapaaaRef24Route
namespace Go.Proofs.Ytlefjlclhmapaaa
open Go.RowKit
set_option linter.unusedVariables false
set_option linter.unusedSimpArgs false
set_option maxRecDepth 100000
theorem Try.infoSl3r : (Try.prog.info? 41).map (·.size) = some 3 := by kernel_rfl
/-- What Apply holds: two rows, and the moves. -/
def RpI (w : World) (g1 c1 g2 c2 n : Nat) (A : List Sl) (D : List Nat) (g : Nat) (cur : Array Value) (W : World) : Prop :=
  W.ownsRow w.heap.size 41 3 (.slice (some ⟨g1, 0, none⟩) n c1) n (slC A) ∧ W.ownsRow w.heap.size 3 1 (.slice (some ⟨g2, 0, none⟩) n c2) n (inC D) ∧ Off Nob w W ∧ Blk W g 29 cur ∧ g ≠ g1 ∧ g ≠ g2
theorem own_thereR {w : World} {base : Nat} {e : TypeId} {size n g c : Nat} {xs : List Value} (h : w.ownsRow base e size (.slice (some ⟨g, 0, none⟩) n c) n xs) (o k : Nat) (hk : o + k ≤ n * size) : w.there g o k := own_there h o k hk
section
variable {w W : World} {g1 c1 g2 c2 n g : Nat} {A : List Sl} {D : List Nat} {cur : Array Value}
theorem RpI.off (h : RpI w g1 c1 g2 c2 n A D g cur W) {W' : World} (o : Off Nob W W') : RpI w g1 c1 g2 c2 n A D g cur W' := by
  obtain ⟨h1, h2, h3, h4, h5, h6⟩ := h
  exact ⟨own_to h1 (fun g hg => o.block g (h1.lt g hg).2 (fun h => h)), own_to h2 (fun g hg => o.block g (h2.lt g hg).2 (fun h => h)), h3.also o, h4.to (o.block _ h4.lt (fun h => h)), h5, h6⟩
theorem RpI.put1 (h : RpI w g1 c1 g2 c2 n A D g cur W) (n4 : g2 ≠ g1) (n5 : g ≠ g1) (k : Nat) (x : Sl) : RpI w g1 c1 g2 c2 n (A.set k x) D g cur (W.setCells g1 (k * 3) [.int .u64 (n64 x.1), .int .u64 (n64 x.2.1), .int .u64 (n64 x.2.2)]) := by
  obtain ⟨i3, i4, i5, i6, i7, i8⟩ := h
  have hw := (i3.lt g1 rfl).1
  show RpI w g1 c1 g2 c2 n (A.set k x) D g cur (((W.setCell ⟨g1, k * 3, none⟩ (.int .u64 (n64 x.1))).setCell ⟨g1, k * 3 + 1, none⟩ (.int .u64 (n64 x.2.1))).setCell ⟨g1, k * 3 + 1 + 1, none⟩ (.int .u64 (n64 x.2.2)))
  refine ⟨?_, ?_, ((i5.put (p := ⟨g1, _, none⟩) (.inr hw) _).put (p := ⟨g1, _, none⟩) (.inr hw) _).put (p := ⟨g1, _, none⟩) (.inr hw) _, ((i6.far (p := ⟨g1, _, none⟩) n5 _).far (p := ⟨g1, _, none⟩) n5 _).far (p := ⟨g1, _, none⟩) n5 _, i7, i8⟩
  · have := (((i3.stored (k * 3) (.int .u64 (n64 x.1))).1.stored (k * 3 + 1) (.int .u64 (n64 x.2.1))).1.stored (k * 3 + 2) (.int .u64 (n64 x.2.2))).1
    rw [slC_set] at this
    exact this
  · exact own_to i4 (fun g hg => by
      have e : g2 = g := by simpa [Value.ownBlock] using hg
      subst e
      rw [Below.heap_setCell _ ⟨g1, _, none⟩ _ _ n4, Below.heap_setCell _ ⟨g1, _, none⟩ _ _ n4, Below.heap_setCell _ ⟨g1, _, none⟩ _ _ n4])
theorem RpI.put2 (h : RpI w g1 c1 g2 c2 n A D g cur W) (n4 : g2 ≠ g1) (k : Nat) (d : Nat) : RpI w g1 c1 g2 c2 n A (D.set k d) g cur (W.setCell ⟨g2, k, none⟩ (.int .i64 (d : Int))) := by
  obtain ⟨i3, i4, i5, i6, i7, i8⟩ := h
  have hw := (i4.lt g2 rfl).1
  refine ⟨?_, ?_, i5.put (p := ⟨g2, _, none⟩) (.inr hw) _, i6.far (p := ⟨g2, _, none⟩) i8 _, i7, i8⟩
  · exact own_to i3 (fun g hg => by
      have e : g1 = g := by simpa [Value.ownBlock] using hg
      subst e
      rw [Below.heap_setCell _ ⟨g2, _, none⟩ _ _ (Ne.symm n4)])
  · have := (i4.stored k (.int .i64 (d : Int))).1
    rw [inC_set] at this
    exact this
end
/-- What the two exchanges hold on to. -/
def Ap8 (g1 Bx mi mk : Nat) (W : World) : Prop := W.cell? ⟨Bx, 1, none⟩ = some (.int .i64 (mi : Int)) ∧ W.cell? ⟨Bx, 2, none⟩ = some (.int .i64 (mk : Int)) ∧ W.there g1 (mk * 3) 3 ∧ W.there g1 (mi * 3) 3
def Ap9 (g2 Bx mi mk : Nat) (W : World) : Prop := W.cell? ⟨Bx, 1, none⟩ = some (.int .i64 (mi : Int)) ∧ W.cell? ⟨Bx, 2, none⟩ = some (.int .i64 (mk : Int)) ∧ W.there g2 mk 1 ∧ W.there g2 mi 1
theorem Ap8.put {g1 Bx mi mk : Nat} {W : World} (h : Ap8 g1 Bx mi mk W) (ne : g1 ≠ g1 ∨ Bx ≠ g1) (o : Nat) (x y z : Value) : Ap8 g1 Bx mi mk (W.setCells g1 o [x, y, z]) := by
  obtain ⟨h0, h1, h8, h9⟩ := h
  have n := ne.resolve_left (fun h => h rfl)
  exact ⟨cell_apart h0 _ _ _ (.inl n), cell_apart h1 _ _ _ (.inl n), World.there_setCells h8 _ _ _, World.there_setCells h9 _ _ _⟩
theorem Ap9.put {g2 Bx mi mk : Nat} {W : World} (h : Ap9 g2 Bx mi mk W) (ne : Bx ≠ g2) (o : Nat) (x : Value) : Ap9 g2 Bx mi mk (W.setCell ⟨g2, o, none⟩ x) := by
  obtain ⟨h0, h1, h8, h9⟩ := h
  exact ⟨cell_apart h0 g2 o [x] (.inl ne), cell_apart h1 g2 o [x] (.inl ne), World.there_setCells h8 g2 o [x], World.there_setCells h9 g2 o [x]⟩
set_option maxHeartbeats 8000000 in
theorem rapply_ok (n b o c b2 o2 c2 : Nat) (A : List Sl) (D : List Nat) (hA : A.length = n) (hD : D.length = n) (h1 : 1 ≤ n) (h2 : n ≤ 288) (w : World) (hb : b < w.heap.size) (hb2 : b2 < w.heap.size)
    (hcA : ∀ j u, (slC A)[j]? = some u → w.cell? ⟨b, o + j, none⟩ = some u) (hcD : ∀ j u, (inC D)[j]? = some u → w.cell? ⟨b2, o2 + j, none⟩ = some u) (hd : ∀ i, i < n → D.getD i 0 ≤ i) :
    Calls Try.prog 20 #[.slice (some ⟨b, o, none⟩) n c, .slice (some ⟨b2, o2, none⟩) n c2] w fun e w' => ∃ g cap, e = .returned (.tuple #[.slice (some ⟨g, 0, none⟩) n cap, .int .i64 0]) ∧ n ≤ cap ∧ w'.ownsRow w.heap.size 41 3 (.slice (some ⟨g, 0, none⟩) n cap) n (slC (apL A D (moves n)).1) ∧ Off Nob w w' := by
  have HA := Lib.hid hA
  have HD := Lib.hid hD
  have HCA := Lib.hid hcA
  have HCD := Lib.hid hcD
  have HDB := Lib.hid hd
  have HPL := Lib.hid (rplan_ok n h1 h2 w)
  obtain ⟨ML, hML⟩ : ∃ ML, moves n = ML := ⟨_, rfl⟩
  have HMM := Lib.hid (fun (m : Mv) (hm : m ∈ ML) => moves_mem (n := n) (by rw [hML]; exact hm))
  have HRN := Lib.hid (rn_ok h1 h2).1
  have hL3 := (moves_le h1 h2).2.2
  rw [hML] at HPL hL3 ⊢
  obtain ⟨q, hq⟩ : ∃ q, ML.length = q := ⟨_, rfl⟩
  have HQ := Lib.hid hq
  rw [hq] at hL3
  clear hA hD hcA hcD hd hML hq
  obtain ⟨is0, his, hs0, hs1, hs2⟩ := info_parts Try.infoSl
  obtain ⟨ii0, hii, hi0, hi1, hi2⟩ := info_parts Try.infoI
  go_enter Try.func20, Try.ntmps20
  go_wp2_with fail
  refine HPL.out.mono ?_
  rintro e w1 ⟨v, rfl, r1, o1⟩
  obtain ⟨AA, cap, rfl⟩ := CoR.form (w := w) (W := w1) ⟨r1, o1⟩
  rw [HQ.out] at r1 ⊢
  have R1 := Lib.hid r1
  have O1 := Lib.hid o1
  clear r1 o1 HPL
  go_wp2_with fail
  go_loopw [7, 8] (fun e i wr => ∃ k : Nat, k ≤ n ∧ i = .int .i64 (k : Int) ∧ e = .int .i64 0 ∧ wr = w1) (fun _ i _ => n - (intOf i).toNat)
  case atStart => exact ⟨0, Nat.zero_le _, rfl, rfl, rfl⟩
  case round =>
    obtain ⟨k, hk, rfl, rfl, rfl⟩ := hrel
    by_cases hlt : k < n
    · have hcell : wr.cell? ⟨b2, o2 + k, none⟩ = some (.int .i64 (D.getD k 0 : Nat)) := (O1.out.cell_old hb2 _).trans (HCD.out k _ (inC_at D k (by have := HD.out; omega)))
      have hdk := HDB.out k hlt
      revert hcell hdk
      generalize D.getD k 0 = d
      intro hcell hdk
      have q1 : decide ((d : Int) < 0) = false := decide_eq_false (by omega)
      have q2 : decide ((k : Int) < (d : Int)) = false := decide_eq_false (by omega)
      go_wp2_with fail
      go_roundw
      case rel => exact ⟨k + 1, by omega, by go_num, rfl, trivial⟩
      case measure => simp [intOf]; omega
    · obtain rfl : n = k := by omega
      go_wp2_with (at_builtin; refine wpList_append_own_at _ rfl _ _ 33 rfl wr.heap.size 41 is0 (.agg #[.int .u64 0, .int .u64 0, .int .u64 0]) 3 24 Try.underlying33 his hs0 hs1 hs2 rfl (by decide) (.slice (some ⟨wr.heap.size, 0, none⟩) 0 0) 0 [] rfl ?c0 ⟨b, o, none⟩ n c (slC A) rfl ?c6 ?c1 ?c2 ?c3 ?c4 ?c5 ?_)
      case c0 => exact World.ownsRow_made wr #[] 0 (Nat.le_refl _) (Nat.zero_le _) rfl
      case c6 => rw [slC_len, HA.out]
      case c1 => intro j u hu; rw [add_addr, World.cell?_alloc_lt _ _ _ (Nat.lt_of_lt_of_le hb O1.out.size), O1.out.cell_old hb]; exact HCA.out j u hu
      case c2 => exact slC_one A
      case c3 => unfold maxLen; omega
      case c4 => omega
      case c5 => simp
      intro v1 w2 ho2 hg2 hn2 ha2
      have o2' : Off Nob wr w2 := Off.grown (Off.alloc (Off.refl _ _) _) hg2 (fun k hk => by simp [Value.ownBlock] at hk; right; omega)
      obtain ⟨g1, c1, rfl⟩ : ∃ g c, v1 = .slice (some ⟨g, 0, none⟩) n c := by
        rcases id ho2.2 with ⟨_, h0⟩ | ⟨g, cap, cur, hv, _⟩
        · omega
        · exact ⟨g, cap, hv⟩
      have R2 := Lib.hid ho2
      have O2 := Lib.hid (O1.out.also o2')
      have O2' := Lib.hid o2'
      clear ho2 hg2 hn2 ha2 o2'
      go_wp2_with (at_builtin; refine wpList_append_own_at _ rfl _ _ 34 rfl w2.heap.size 3 ii0 (.int .i64 0) 1 8 Try.underlying34 hii hi0 hi1 hi2 rfl (by decide) (.slice (some ⟨w2.heap.size, 0, none⟩) 0 0) 0 [] rfl ?d0 ⟨b2, o2, none⟩ n c2 (inC D) rfl ?d6 ?d1 ?d2 ?d3 ?d4 ?d5 ?_)
      case d0 => exact World.ownsRow_made w2 #[] 0 (Nat.le_refl _) (Nat.zero_le _) rfl
      case d6 => rw [inC_len, HD.out, Nat.mul_one]
      case d1 => intro j u hu; rw [add_addr, World.cell?_alloc_lt _ _ _ (Nat.lt_of_lt_of_le hb2 O2.out.size), O2.out.cell_old hb2]; exact HCD.out j u hu
      case d2 => intro u hu; simp [inC] at hu; obtain ⟨x, _, rfl⟩ := hu; rfl
      case d3 => unfold maxLen; omega
      case d4 => omega
      case d5 => simp
      intro v2 w3 ho3 hg3 hn3 ha3
      have o3' : Off Nob w2 w3 := Off.grown (Off.alloc (Off.refl _ _) _) hg3 (fun k hk => by simp [Value.ownBlock] at hk; right; omega)
      obtain ⟨g2, c2', rfl⟩ : ∃ g c, v2 = .slice (some ⟨g, 0, none⟩) n c := by
        rcases id ho3.2 with ⟨_, h0⟩ | ⟨g, cap, cur, hv, _⟩
        · omega
        · exact ⟨g, cap, hv⟩
      have R3 := Lib.hid ho3
      have O3' := Lib.hid o3'
      clear ho3 hg3 hn3 ha3 o3'
      have HFIN : Hid (∀ W g cap, W.ownsRow w.heap.size 41 3 (.slice (some ⟨g, 0, none⟩) n cap) n (slC (apL A D ML).1) → Off Nob w W → ∃ g' cap', (Ending.returned (.tuple #[.slice (some ⟨g, 0, none⟩) n cap, .int .i64 0])) = .returned (.tuple #[.slice (some ⟨g', 0, none⟩) n cap', .int .i64 0]) ∧ n ≤ cap' ∧ W.ownsRow w.heap.size 41 3 (.slice (some ⟨g', 0, none⟩) n cap') n (slC (apL A D ML).1) ∧ Off Nob w W) := Lib.hid (fun W g cap h1 h2 => ⟨g, cap, rfl, by
        rcases h1.2 with ⟨hx, _⟩ | ⟨g', cap', cur, hv, h3, h4, h5, _⟩
        · cases hx
        · injection hv with _ _ hv3; subst hv3; first | exact h5 | exact h3 | omega, h1, h2⟩)
      by_cases hq0 : q = 0
      · have hME : ML = [] := List.eq_nil_of_length_eq_zero (by rw [HQ.out]; exact hq0)
        subst hq0
        have RR : Hid (w3.ownsRow w.heap.size 41 3 (.slice (some ⟨g1, 0, none⟩) n c1) n (slC (apL A D ML).1)) := Lib.hid (by rw [hME]; exact own_low O1.out.size (own_to R2.out (fun g hg => O3'.out.block g (R2.out.lt g hg).2 (fun h => h))))
        clear hME
        go_wp2_with fail
        refine wp_loop_rounds 1 ?_
        rw [rounds_succ]
        go_wp2_with fail
        go_ret2
        exact HFIN.out _ _ _ RR.out (O2.out.also O3'.out)
      have hAf : ∃ g, AA = some ⟨g, 0, none⟩ ∧ w.heap.size ≤ g ∧ g < wr.heap.size := by
        have hl := R1.out.lt
        rcases R1.out.2 with ⟨hx, h0⟩ | ⟨g, cap', cur, hx, _⟩
        · exact absurd h0 hq0
        · injection hx with hx1
          exact ⟨g, hx1, hl g (by rw [hx1]; rfl)⟩
      obtain ⟨g, rfl, hg1, hg2⟩ := hAf
      obtain ⟨cur, hcur⟩ := own_blkR R1.out
      have HCU : Hid (∀ j, j < q * 3 → cur[j]? = (mvC ML)[j]?) := Lib.hid (fun j hj => by rw [← hcur.cell, R1.out.cellAt j hj])
      have NE0 : Hid (g2 ≠ g1 ∧ g ≠ g1 ∧ g ≠ g2 ∧ g1 < w3.heap.size ∧ g2 < w3.heap.size) := Lib.hid (by
        have a1 := R2.out.lt g1 rfl
        have a2 := R3.out.lt g2 rfl
        have a3 := O3'.out.size
        have a4 := O2'.out.size
        omega)
      have T0 : Hid (RpI w g1 c1 g2 c2' n A D g cur w3) := Lib.hid ⟨own_low O1.out.size (own_to R2.out (fun g hg => O3'.out.block g (R2.out.lt g hg).2 (fun h => h))), own_low O2.out.size R3.out, O2.out.also O3'.out, hcur.to ((O3'.out.block _ (Nat.lt_of_lt_of_le hg2 O2'.out.size) (fun h => h)).trans (O2'.out.block _ hg2 (fun h => h))), NE0.out.2.1, NE0.out.2.2.1⟩
      clear R1 R2 R3 O1 O2 O2' O3' hcur hg1 hg2 his hs0 hs1 hs2 hii hi0 hi1 hi2 HCA HCD hb hb2
      have hs3 : Hid (∃ s, w3.heap.size = s) := Lib.hid ⟨_, rfl⟩
      go_wp2_with fail
      go_loopw [11] (fun i wr => ∃ k : Nat, k ≤ q ∧ i = .int .i64 (k : Int) ∧ RpI w g1 c1 g2 c2' n (apL A D (ML.take k)).1 (apL A D (ML.take k)).2 g cur wr) (fun i _ => q - (intOf i).toNat)
      case atStart => exact ⟨0, Nat.zero_le _, rfl, T0.out⟩
      case round =>
        obtain ⟨k, hk, rfl, hrel⟩ := hrel
        by_cases hlt : k < q
        rotate_left
        · obtain rfl : k = q := by omega
          have HF : Hid (wr.ownsRow w.heap.size 41 3 (.slice (some ⟨g1, 0, none⟩) n c1) n (slC (apL A D ML).1) ∧ Off Nob w wr) := Lib.hid (by
            rw [List.take_of_length_le (by rw [HQ.out]; exact Nat.le_refl _)] at hrel
            exact ⟨hrel.1, hrel.2.2.1⟩)
          clear hrel T0
          go_wp2_with fail
          go_ret2
          exact HFIN.out _ _ _ HF.out.1 HF.out.2
        have hkm : k < ML.length := by rw [HQ.out]; exact hlt
        obtain ⟨⟨mj, mi, mk⟩, hmm⟩ : ∃ m, ML[k]'hkm = m := ⟨_, rfl⟩
        have hmem := HMM.out (mj, mi, mk) (by rw [← hmm]; exact List.getElem_mem hkm)
        obtain ⟨m1, m2, m3, m4⟩ := hmem
        dsimp only at m1 m2 m3 m4
        obtain ⟨z1, z2, z3⟩ := mvC_at ML k hkm
        rw [hmm] at z1 z2 z3
        rw [← HCU.out _ (by omega)] at z1 z2 z3
        have hbk := hrel.2.2.2.1
        have e1 := (hbk.cell (3 * k)).trans z1
        have e2 := (hbk.cell (3 * k + 1)).trans z2
        have e3 := (hbk.cell (3 * k + 2)).trans z3
        simp only [Nat.mul_comm 3 k] at e1 e2 e3
        have HAP := Lib.hid (show apL A D (ML.take (k + 1)) = apM (apL A D (ML.take k)) (mj, mi, mk) by rw [List.take_succ_eq_append_getElem hkm, hmm, apL_snoc])
        obtain ⟨q1, q2⟩ := apL_len A D (ML.take k)
        have q3 := apL_bd A D (ML.take k) 288 (fun i => by
          by_cases h : i < n
          · have := HDB.out i h; omega
          · simp [List.getD, List.getElem?_eq_none (show D.length ≤ i by have := HD.out; omega)])
        obtain ⟨⟨A1, D1⟩, hAD⟩ : ∃ x, apL A D (ML.take k) = x := ⟨_, rfl⟩
        rw [hAD] at hrel q1 q2 q3 HAP
        dsimp only at hrel q1 q2 q3 HAP
        rw [HA.out] at q1
        rw [HD.out] at q2
        have hpp := Nat.one_le_two_pow (n := mj)
        have hki : mk < mi := by omega
        have hj : mj ≤ 9 := by have := HRN.out; omega
        have hkn : mk < n := by omega
        have T1 := Lib.hid (RpI.off hrel (Off.alloc (Off.refl _ _) (.cells #[.int .i64 (mj : Int), .int .i64 (mi : Int), .int .i64 (mk : Int)] 29)))
        have NE : Hid (g2 ≠ g1 ∧ (g1 ≠ g1 ∨ wr.heap.size ≠ g1) ∧ wr.heap.size ≠ g2) := Lib.hid (by
          have a1 := (hrel.1.lt g1 rfl).2
          have a2 := (hrel.2.1.lt g2 rfl).2
          exact ⟨NE0.out.1, .inr (by omega), by omega⟩)
        have hbx := Blk.new wr 29 #[.int .i64 (mj : Int), .int .i64 (mi : Int), .int .i64 (mk : Int)]
        have x0 := hbx.cell 0
        have x1 := hbx.cell 1
        have x2 := hbx.cell 2
        simp only [List.getElem?_toArray, List.getElem?_cons_succ, List.getElem?_cons_zero] at x0 x1 x2
        have d1 := (T1.out.2.1.cellAt mi (by omega)).trans (inC_at D1 mi (by omega))
        have hdq := q3 mi
        have HAPM := Lib.hid (show apM (A1, D1) (mj, mi, mk) = if D1.getD mi 0 / 2 ^ mj % 2 = 1 then ((A1.set mk (sl A1 mi)).set mi (0#64, 0#64, 0#64), (D1.set mk (D1.getD mi 0)).set mi 0) else (A1, D1) from rfl)
        obtain ⟨dn, hdn⟩ : ∃ dn, D1.getD mi 0 = dn := ⟨_, rfl⟩
        have HDN := Lib.hid hdn
        rw [hdn] at d1 hdq HAPM
        have hbit0 : bitB (BitVec.ofNat 64 dn) mj = decide (dn / 2 ^ mj % 2 = 1) := by
          unfold bitB
          rw [BitVec.toNat_ofNat, Nat.mod_eq_of_lt (show dn < 2 ^ 64 by omega)]
        have HB : Hid (∀ w, Calls Try.prog 41 #[.int .u64 (dn : Int), .int .i64 (mj : Int)] w fun e w' => e = .returned (.bool (decide (dn / 2 ^ mj % 2 = 1))) ∧ w = w') := Lib.hid (fun w => by
          have := rbit_any (BitVec.ofNat 64 dn) mj (by omega) w
          rwa [hbit0, show n64 (BitVec.ofNat 64 dn) = (dn : Int) by unfold n64; rw [BitVec.toNat_ofNat, Nat.mod_eq_of_lt (by omega)]] at this)
        obtain ⟨a0, a1, a2⟩ := slC_at A1 mi (by omega)
        rw [← T1.out.1.cellAt _ (by omega)] at a0 a1 a2
        obtain ⟨v0, hv0⟩ : ∃ v, n64 (sl A1 mi).1 = v := ⟨_, rfl⟩
        obtain ⟨v1, hv1⟩ : ∃ v, n64 (sl A1 mi).2.1 = v := ⟨_, rfl⟩
        obtain ⟨v2, hv2⟩ : ∃ v, n64 (sl A1 mi).2.2 = v := ⟨_, rfl⟩
        rw [hv0] at a0
        rw [hv1] at a1
        rw [hv2] at a2
        have HV := Lib.hid (And.intro hv0 (And.intro hv1 hv2))
        obtain ⟨dv, hdv⟩ : ∃ dv : Int, (dn : Int) = dv := ⟨_, rfl⟩
        have HDV := Lib.hid hdv
        have hdv0 : 0 ≤ dv := by omega
        have hdv1 : dv ≤ 288 := by omega
        have hdw : IntKind.u64.wrap dv = dv := by rw [IntKind.wrap_u64]; omega
        rw [hdv] at d1 HB
        clear hv0 hv1 hv2 hdv hdn hdq q3 hAD m1 m2 m4 hpp hmm z1 z2 z3 hbk hrel T0 hbx hbit0
        by_cases hbit : dn / 2 ^ mj % 2 = 1
        rotate_left
        · have HX := Lib.hid (HAPM.out.trans (if_neg hbit))
          rw [decide_eq_false hbit] at HB
          clear hbit HAPM
          go_wp2_with fail
          revert x0 x1 x2 d1 T1 a0 a1 a2 NE
          generalize wr.alloc (.cells #[.int .i64 (mj : Int), .int .i64 (mi : Int), .int .i64 (mk : Int)] 29) = W0
          generalize wr.heap.size = Bx
          intro T1 NE x0 x1 x2 a0 a1 a2 d1
          go_region_held3 (fun w' => w'.cell? ⟨Bx, 0, none⟩ = some (.int .i64 (mj : Int)) ∧ w'.cell? ⟨Bx, 1, none⟩ = some (.int .i64 (mi : Int)) ∧ w'.cell? ⟨g2, mi, none⟩ = some (.int .i64 dv))
            (first | with_reducible assumption | go_keep)
            (first
              | (go_at_call 41; refine (HB.out _).mono ?_; rintro e w' ⟨rfl, rfl⟩))
          go_wp2_with fail
          go_roundw
          case rel => exact ⟨k + 1, hlt, by go_num, by rw [HAP.out, HX.out]; exact T1.out.off (Off.drew (Off.refl _ _))⟩
          case measure => simp [intOf]; omega
        · have HX := Lib.hid (HAPM.out.trans (if_pos hbit))
          rw [decide_eq_true hbit] at HB
          clear hbit HAPM
          go_wp2_with fail
          revert x0 x1 x2 d1 T1 a0 a1 a2 NE
          generalize wr.alloc (.cells #[.int .i64 (mj : Int), .int .i64 (mi : Int), .int .i64 (mk : Int)] 29) = W0
          generalize wr.heap.size = Bx
          intro T1 NE x0 x1 x2 a0 a1 a2 d1
          go_region_held3 (fun w' => w'.cell? ⟨Bx, 0, none⟩ = some (.int .i64 (mj : Int)) ∧ w'.cell? ⟨Bx, 1, none⟩ = some (.int .i64 (mi : Int)) ∧ w'.cell? ⟨g2, mi, none⟩ = some (.int .i64 dv))
            (first | with_reducible assumption | go_keep)
            (first
              | (go_at_call 41; refine (HB.out _).mono ?_; rintro e w' ⟨rfl, rfl⟩))
          replace T1 := Lib.hid (T1.out.off (Off.drew (Off.refl _ _)))
          go_wp2_with fail
          have y1 : W0.drew.cell? ⟨Bx, 1, none⟩ = some (.int .i64 (mi : Int)) := x1
          have y2 : W0.drew.cell? ⟨Bx, 2, none⟩ = some (.int .i64 (mk : Int)) := x2
          have b0 : W0.drew.cell? ⟨g1, mi * 3, none⟩ = some (.int .u64 v0) := a0
          have b1 : W0.drew.cell? ⟨g1, mi * 3 + 1, none⟩ = some (.int .u64 v1) := a1
          have bb2 : W0.drew.cell? ⟨g1, mi * 3 + 2, none⟩ = some (.int .u64 v2) := a2
          clear x0 x1 x2 d1 a0 a1 a2 HB
          revert T1 y1 y2 b0 b1 bb2
          generalize W0.drew = W1
          intro T1 x1 x2 a0 a1 a2
          have th1 : W1.there g1 (mk * 3) 3 := own_thereR T1.out.1 (mk * 3) 3 (by omega)
          have th2 : W1.there g1 (mi * 3) 3 := own_thereR T1.out.1 (mi * 3) 3 (by omega)
          refine wp_region_held_drew (S := fun W => W.cell? ⟨Bx, 1, none⟩ = some (.int .i64 (mi : Int)) ∧ W.cell? ⟨Bx, 2, none⟩ = some (.int .i64 (mk : Int)) ∧ W.there g1 (mk * 3) 3 ∧ W.there g1 (mi * 3) 3) (by kernel_rfl) ⟨x1, x2, th1, th2⟩ (fun hHeld => ?_)
          refine wpAnyH_take (i := 0) (v := ?v100) rfl (by kernel_rfl) (by kernel_rfl) (by kernel_rfl) (fun _ _ _ h => h) (Or.inl ⟨by rfl, ?h100⟩) (by assumption) ?r100
          case h100 => (intro w hSw; (try dsimp only at hSw); go_simp <;> with_reducible rfl)
          try simp only [Act.put, List.getElem_toArray, List.getElem_cons_zero, List.getElem_cons_succ, List.setIfInBounds_toArray, List.set_cons_zero, List.set_cons_succ]
          refine wpAnyH_take (i := 1) (v := ?v101) rfl (by kernel_rfl) (by kernel_rfl) (by kernel_rfl) (fun _ _ _ h => h) (Or.inl ⟨by rfl, ?h101⟩) (by assumption) ?r101
          case h101 => (intro w hSw; (try dsimp only at hSw); go_simp <;> with_reducible rfl)
          try simp only [Act.put, List.getElem_toArray, List.getElem_cons_zero, List.getElem_cons_succ, List.setIfInBounds_toArray, List.set_cons_zero, List.set_cons_succ]
          refine wpAnyH_take (i := 2) (v := ?v102) rfl (by kernel_rfl) (by kernel_rfl) (by kernel_rfl) (fun _ _ _ h => h) (Or.inl ⟨by rfl, ?h102⟩) (by assumption) ?r102
          case h102 => (intro w hSw; (try dsimp only at hSw); go_simp <;> with_reducible rfl)
          try simp only [Act.put, List.getElem_toArray, List.getElem_cons_zero, List.getElem_cons_succ, List.setIfInBounds_toArray, List.set_cons_zero, List.set_cons_succ]
          refine wpAnyH_take (i := 3) (v := ?v103) rfl (by kernel_rfl) (by kernel_rfl) (by kernel_rfl) (fun _ _ _ h => h) (Or.inl ⟨by rfl, ?h103⟩) (by assumption) ?r103
          case h103 => (intro w hSw; (try dsimp only at hSw); go_simp <;> with_reducible rfl)
          try simp only [Act.put, List.getElem_toArray, List.getElem_cons_zero, List.getElem_cons_succ, List.setIfInBounds_toArray, List.set_cons_zero, List.set_cons_succ]
          refine wpAnyH_take (i := 4) (v := ?v104) rfl (by kernel_rfl) (by kernel_rfl) (by kernel_rfl) (fun _ _ _ h => h) (Or.inl ⟨by rfl, ?h104⟩) (by assumption) ?r104
          case h104 => (intro w hSw; (try dsimp only at hSw); go_simp <;> with_reducible rfl)
          try simp only [Act.put, List.getElem_toArray, List.getElem_cons_zero, List.getElem_cons_succ, List.setIfInBounds_toArray, List.set_cons_zero, List.set_cons_succ]
          refine wpAnyH_take (i := 5) (v := ?v105) rfl (by kernel_rfl) (by kernel_rfl) (by kernel_rfl) (fun _ _ _ h => h) (Or.inl ⟨by rfl, ?h105⟩) (by assumption) ?r105
          case h105 => (intro w hSw; (try dsimp only at hSw); go_simp <;> with_reducible rfl)
          try simp only [Act.put, List.getElem_toArray, List.getElem_cons_zero, List.getElem_cons_succ, List.setIfInBounds_toArray, List.set_cons_zero, List.set_cons_succ]
          refine wpAnyH_take (i := 6) (v := ?v106) rfl (by kernel_rfl) (by kernel_rfl) (by kernel_rfl) (fun _ _ _ h => h) (Or.inl ⟨by rfl, ?h106⟩) (by assumption) ?r106
          case h106 => (intro w hSw; (try dsimp only at hSw); go_simp <;> with_reducible rfl)
          try simp only [Act.put, List.getElem_toArray, List.getElem_cons_zero, List.getElem_cons_succ, List.setIfInBounds_toArray, List.set_cons_zero, List.set_cons_succ]
          refine wpAnyH_take (i := 7) (v := ?v107) rfl (by kernel_rfl) (by kernel_rfl) (by kernel_rfl) (fun _ _ _ h => h) (Or.inl ⟨by rfl, ?h107⟩) (by assumption) ?r107
          case h107 => (intro w hSw; (try dsimp only at hSw); go_simp <;> with_reducible rfl)
          try simp only [Act.put, List.getElem_toArray, List.getElem_cons_zero, List.getElem_cons_succ, List.setIfInBounds_toArray, List.set_cons_zero, List.set_cons_succ]
          refine wpAnyH_take (i := 8) (v := ?v108) rfl (by kernel_rfl) (by kernel_rfl) (by kernel_rfl) (fun _ _ _ h => h) (Or.inl ⟨by rfl, ?h108⟩) (by assumption) ?r108
          case h108 => (intro w hSw; (try dsimp only at hSw); go_simp <;> with_reducible rfl)
          try simp only [Act.put, List.getElem_toArray, List.getElem_cons_zero, List.getElem_cons_succ, List.setIfInBounds_toArray, List.set_cons_zero, List.set_cons_succ]
          refine wpAnyH_take (i := 9) (v := ?v109) rfl (by kernel_rfl) (by kernel_rfl) (by kernel_rfl) (fun _ _ _ h => h) (Or.inl ⟨by rfl, ?h109⟩) (by assumption) ?r109
          case h109 => (intro w hSw; (try dsimp only at hSw); go_simp <;> with_reducible rfl)
          try simp only [Act.put, List.getElem_toArray, List.getElem_cons_zero, List.getElem_cons_succ, List.setIfInBounds_toArray, List.set_cons_zero, List.set_cons_succ]
          refine wpAnyH_take (i := 11) (v := ?v110) rfl (by kernel_rfl) (by kernel_rfl) (by kernel_rfl) (fun _ _ _ h => h) (Or.inl ⟨by rfl, ?h110⟩) (by assumption) ?r110
          case h110 => (intro w hSw; (try dsimp only at hSw); go_simp <;> with_reducible rfl)
          try simp only [Act.put, List.getElem_toArray, List.getElem_cons_zero, List.getElem_cons_succ, List.setIfInBounds_toArray, List.set_cons_zero, List.set_cons_succ]
          refine wpAnyH_ready (rs := [10]) (by kernel_rfl) (by simp) ?_
          refine AllReadyH.cons rfl (fun K hK => ?s111) ?m111
          case s111 =>
            go_simp
            refine hK.out _ _ ?_ (fun hHeld => ?_)
            · first | exact hHeld | go_keep
            clear hK K
            try simp only [Act.put, List.getElem_toArray, List.getElem_cons_zero, List.getElem_cons_succ, List.setIfInBounds_toArray, List.set_cons_zero, List.set_cons_succ]
            refine wpAnyH_take (i := 12) (v := ?v112) rfl (by kernel_rfl) (by kernel_rfl) (by kernel_rfl) (fun _ _ _ h => h) (Or.inl ⟨by rfl, ?h112⟩) (by assumption) ?r112
            case h112 => (intro w hSw; (try dsimp only at hSw); go_simp <;> with_reducible rfl)
            try simp only [Act.put, List.getElem_toArray, List.getElem_cons_zero, List.getElem_cons_succ, List.setIfInBounds_toArray, List.set_cons_zero, List.set_cons_succ]
            refine wpAnyH_ready (rs := [13]) (by kernel_rfl) (by simp) ?_
            refine AllReadyH.cons rfl (fun K hK => ?s113) ?m113
            case s113 =>
              refine wp_store_mid 41 _ _ rfl g1 (mk * 3) #[.int .u64 v0, .int .u64 v1, .int .u64 v2] rfl rfl hHeld.2.2.1 Try.infoSl3r (by simp [Value.oneCell']) ?_
              refine hK.out _ _ ?_ (fun hHeld => ?_)
              · first | exact Ap8.put hHeld NE.out.2.1 _ _ _ _ | go_keep
              clear hK K
              try simp only [Act.put, List.getElem_toArray, List.getElem_cons_zero, List.getElem_cons_succ, List.setIfInBounds_toArray, List.set_cons_zero, List.set_cons_succ]
              refine wpAnyH_take (i := 14) (v := ?v114) rfl (by kernel_rfl) (by kernel_rfl) (by kernel_rfl) (fun _ _ _ h => h) (Or.inl ⟨by rfl, ?h114⟩) (by assumption) ?r114
              case h114 => (intro w hSw; (try dsimp only at hSw); go_simp <;> with_reducible rfl)
              try simp only [Act.put, List.getElem_toArray, List.getElem_cons_zero, List.getElem_cons_succ, List.setIfInBounds_toArray, List.set_cons_zero, List.set_cons_succ]
              refine wpAnyH_ready (rs := [15]) (by kernel_rfl) (by simp) ?_
              refine AllReadyH.cons rfl (fun K hK => ?s115) ?m115
              case s115 =>
                refine wp_store_mid 41 _ _ rfl g1 (mi * 3) #[.int .u64 0, .int .u64 0, .int .u64 0] rfl rfl hHeld.2.2.2 Try.infoSl3r (by simp [Value.oneCell']) ?_
                refine hK.out _ _ ?_ (fun hHeld => ?_)
                · first | exact Ap8.put hHeld NE.out.2.1 _ _ _ _ | go_keep
                clear hK K
                try simp only [Act.put, List.getElem_toArray, List.getElem_cons_zero, List.getElem_cons_succ, List.setIfInBounds_toArray, List.set_cons_zero, List.set_cons_succ]
                refine wpAnyH_done (by kernel_rfl) ?_ _
                have T2 := Lib.hid (RpI.put1 (RpI.put1 (T1.out.off (Off.drew (Off.refl _ _))) NE.out.1 NE0.out.2.1 mk (sl A1 mi)) NE.out.1 NE0.out.2.1 mi (0#64, 0#64, 0#64))
                rw [HV.out.1, HV.out.2.1, HV.out.2.2] at T2
                replace T2 : Hid (RpI w g1 c1 g2 c2' n ((A1.set mk (sl A1 mi)).set mi (0#64, 0#64, 0#64)) D1 g cur ((W1.drew.setCells g1 (mk * 3) [.int .u64 v0, .int .u64 v1, .int .u64 v2]).setCells g1 (mi * 3) [.int .u64 0, .int .u64 0, .int .u64 0])) := T2
                obtain ⟨x1', x2', _, _⟩ := hHeld
                clear x1 x2 a0 a1 a2 T1
                obtain ⟨W3, hW3⟩ : ∃ W3, ((W1.drew.setCells g1 (mk * 3) [.int .u64 v0, .int .u64 v1, .int .u64 v2]).setCells g1 (mi * 3) [.int .u64 0, .int .u64 0, .int .u64 0]) = W3 := ⟨_, rfl⟩
                rw [hW3] at T2 x1' x2' ⊢
                clear hW3
                have d1 := (T2.out.2.1.cellAt mi (by omega)).trans (inC_at D1 mi (by omega))
                rw [HDN.out, HDV.out] at d1
                have th1 : W3.there g2 mk 1 := own_thereR T2.out.2.1 mk 1 (by omega)
                have th2 : W3.there g2 mi 1 := own_thereR T2.out.2.1 mi 1 (by omega)
                go_wp2_with fail
                refine wp_region_held_drew (S := fun W => W.cell? ⟨Bx, 1, none⟩ = some (.int .i64 (mi : Int)) ∧ W.cell? ⟨Bx, 2, none⟩ = some (.int .i64 (mk : Int)) ∧ W.there g2 mk 1 ∧ W.there g2 mi 1) (by kernel_rfl) ⟨x1', x2', th1, th2⟩ (fun hHeld => ?_)
                refine wpAnyH_take (i := 0) (v := ?v300) rfl (by kernel_rfl) (by kernel_rfl) (by kernel_rfl) (fun _ _ _ h => h) (Or.inl ⟨by rfl, ?h300⟩) (by assumption) ?r300
                case h300 => (intro w hSw; (try dsimp only at hSw); go_simp <;> with_reducible rfl)
                try simp only [Act.put, List.getElem_toArray, List.getElem_cons_zero, List.getElem_cons_succ, List.setIfInBounds_toArray, List.set_cons_zero, List.set_cons_succ]
                refine wpAnyH_take (i := 1) (v := ?v301) rfl (by kernel_rfl) (by kernel_rfl) (by kernel_rfl) (fun _ _ _ h => h) (Or.inl ⟨by rfl, ?h301⟩) (by assumption) ?r301
                case h301 => (intro w hSw; (try dsimp only at hSw); go_simp <;> with_reducible rfl)
                try simp only [Act.put, List.getElem_toArray, List.getElem_cons_zero, List.getElem_cons_succ, List.setIfInBounds_toArray, List.set_cons_zero, List.set_cons_succ]
                refine wpAnyH_take (i := 2) (v := ?v302) rfl (by kernel_rfl) (by kernel_rfl) (by kernel_rfl) (fun _ _ _ h => h) (Or.inl ⟨by rfl, ?h302⟩) (by assumption) ?r302
                case h302 => (intro w hSw; (try dsimp only at hSw); go_simp <;> with_reducible rfl)
                try simp only [Act.put, List.getElem_toArray, List.getElem_cons_zero, List.getElem_cons_succ, List.setIfInBounds_toArray, List.set_cons_zero, List.set_cons_succ]
                refine wpAnyH_take (i := 3) (v := ?v303) rfl (by kernel_rfl) (by kernel_rfl) (by kernel_rfl) (fun _ _ _ h => h) (Or.inl ⟨by rfl, ?h303⟩) (by assumption) ?r303
                case h303 => (intro w hSw; (try dsimp only at hSw); go_simp <;> with_reducible rfl)
                try simp only [Act.put, List.getElem_toArray, List.getElem_cons_zero, List.getElem_cons_succ, List.setIfInBounds_toArray, List.set_cons_zero, List.set_cons_succ]
                refine wpAnyH_take (i := 4) (v := ?v304) rfl (by kernel_rfl) (by kernel_rfl) (by kernel_rfl) (fun _ _ _ h => h) (Or.inl ⟨by rfl, ?h304⟩) (by assumption) ?r304
                case h304 => (intro w hSw; (try dsimp only at hSw); go_simp <;> with_reducible rfl)
                try simp only [Act.put, List.getElem_toArray, List.getElem_cons_zero, List.getElem_cons_succ, List.setIfInBounds_toArray, List.set_cons_zero, List.set_cons_succ]
                refine wpAnyH_take (i := 5) (v := ?v305) rfl (by kernel_rfl) (by kernel_rfl) (by kernel_rfl) (fun _ _ _ h => h) (Or.inl ⟨by rfl, ?h305⟩) (by assumption) ?r305
                case h305 => (intro w hSw; (try dsimp only at hSw); go_simp <;> with_reducible rfl)
                try simp only [Act.put, List.getElem_toArray, List.getElem_cons_zero, List.getElem_cons_succ, List.setIfInBounds_toArray, List.set_cons_zero, List.set_cons_succ]
                refine wpAnyH_take (i := 6) (v := ?v306) rfl (by kernel_rfl) (by kernel_rfl) (by kernel_rfl) (fun _ _ _ h => h) (Or.inl ⟨by rfl, ?h306⟩) (by assumption) ?r306
                case h306 => (intro w hSw; (try dsimp only at hSw); go_simp <;> with_reducible rfl)
                try simp only [Act.put, List.getElem_toArray, List.getElem_cons_zero, List.getElem_cons_succ, List.setIfInBounds_toArray, List.set_cons_zero, List.set_cons_succ]
                refine wpAnyH_take (i := 7) (v := ?v307) rfl (by kernel_rfl) (by kernel_rfl) (by kernel_rfl) (fun _ _ _ h => h) (Or.inl ⟨by rfl, ?h307⟩) (by assumption) ?r307
                case h307 => (intro w hSw; (try dsimp only at hSw); go_simp <;> with_reducible rfl)
                try simp only [Act.put, List.getElem_toArray, List.getElem_cons_zero, List.getElem_cons_succ, List.setIfInBounds_toArray, List.set_cons_zero, List.set_cons_succ]
                refine wpAnyH_take (i := 8) (v := ?v308) rfl (by kernel_rfl) (by kernel_rfl) (by kernel_rfl) (fun _ _ _ h => h) (Or.inl ⟨by rfl, ?h308⟩) (by assumption) ?r308
                case h308 => (intro w hSw; (try dsimp only at hSw); go_simp <;> with_reducible rfl)
                try simp only [Act.put, List.getElem_toArray, List.getElem_cons_zero, List.getElem_cons_succ, List.setIfInBounds_toArray, List.set_cons_zero, List.set_cons_succ]
                refine wpAnyH_take (i := 9) (v := ?v309) rfl (by kernel_rfl) (by kernel_rfl) (by kernel_rfl) (fun _ _ _ h => h) (Or.inl ⟨by rfl, ?h309⟩) (by assumption) ?r309
                case h309 => (intro w hSw; (try dsimp only at hSw); go_simp <;> with_reducible rfl)
                try simp only [Act.put, List.getElem_toArray, List.getElem_cons_zero, List.getElem_cons_succ, List.setIfInBounds_toArray, List.set_cons_zero, List.set_cons_succ]
                refine wpAnyH_ready (rs := [10]) (by kernel_rfl) (by simp) ?_
                refine AllReadyH.cons rfl (fun K hK => ?s310) ?m310
                case s310 =>
                  go_simp
                  refine hK.out _ _ ?_ (fun hHeld => ?_)
                  · first | exact hHeld | go_keep
                  clear hK K
                  try simp only [Act.put, List.getElem_toArray, List.getElem_cons_zero, List.getElem_cons_succ, List.setIfInBounds_toArray, List.set_cons_zero, List.set_cons_succ]
                  refine wpAnyH_take (i := 11) (v := ?v311) rfl (by kernel_rfl) (by kernel_rfl) (by kernel_rfl) (fun _ _ _ h => h) (Or.inl ⟨by rfl, ?h311⟩) (by assumption) ?r311
                  case h311 => (intro w hSw; (try dsimp only at hSw); go_simp <;> with_reducible rfl)
                  try simp only [Act.put, List.getElem_toArray, List.getElem_cons_zero, List.getElem_cons_succ, List.setIfInBounds_toArray, List.set_cons_zero, List.set_cons_succ]
                  refine wpAnyH_ready (rs := [12]) (by kernel_rfl) (by simp) ?_
                  refine AllReadyH.cons rfl (fun K hK => ?s312) ?m312
                  case s312 =>
                    obtain ⟨yy, hyy⟩ := Option.isSome_iff_exists.1 (hHeld.2.2.1 0 (by decide)).1
                    have hff := (hHeld.2.2.1 0 (by decide)).2
                    simp only [Nat.add_zero] at hyy hff
                    go_simp
                    refine hK.out _ _ ?_ (fun hHeld => ?_)
                    · first | exact Ap9.put hHeld NE.out.2.2 _ _ | go_keep
                    clear hK K
                    try simp only [Act.put, List.getElem_toArray, List.getElem_cons_zero, List.getElem_cons_succ, List.setIfInBounds_toArray, List.set_cons_zero, List.set_cons_succ]
                    refine wpAnyH_take (i := 13) (v := ?v313) rfl (by kernel_rfl) (by kernel_rfl) (by kernel_rfl) (fun _ _ _ h => h) (Or.inl ⟨by rfl, ?h313⟩) (by assumption) ?r313
                    case h313 => (intro w hSw; (try dsimp only at hSw); go_simp <;> with_reducible rfl)
                    try simp only [Act.put, List.getElem_toArray, List.getElem_cons_zero, List.getElem_cons_succ, List.setIfInBounds_toArray, List.set_cons_zero, List.set_cons_succ]
                    refine wpAnyH_ready (rs := [14]) (by kernel_rfl) (by simp) ?_
                    refine AllReadyH.cons rfl (fun K hK => ?s314) ?m314
                    case s314 =>
                      obtain ⟨yy, hyy⟩ := Option.isSome_iff_exists.1 (hHeld.2.2.2 0 (by decide)).1
                      have hff := (hHeld.2.2.2 0 (by decide)).2
                      simp only [Nat.add_zero] at hyy hff
                      go_simp
                      refine hK.out _ _ ?_ (fun hHeld => ?_)
                      · first | exact Ap9.put hHeld NE.out.2.2 _ _ | go_keep
                      clear hK K
                      try simp only [Act.put, List.getElem_toArray, List.getElem_cons_zero, List.getElem_cons_succ, List.setIfInBounds_toArray, List.set_cons_zero, List.set_cons_succ]
                      refine wpAnyH_done (by kernel_rfl) ?_ _
                      have T3 := Lib.hid (((RpI.put2 (RpI.put2 (T2.out.off (Off.drew (Off.refl _ _))) NE.out.1 mk dn) NE.out.1 mi 0)))
                      rw [HDV.out] at T3
                      have HX2 := Lib.hid (HAP.out.trans HX.out)
                      go_wp2_with fail
                      go_roundw
                      case rel => exact ⟨k + 1, hlt, by go_num, by rw [HX2.out]; exact T3.out⟩
                      case measure => simp [intOf]; omega
                    exact AllReadyH.nil
                  exact AllReadyH.nil
                exact AllReadyH.nil
              exact AllReadyH.nil
            exact AllReadyH.nil
          exact AllReadyH.nil
end Go.Proofs.Ytlefjlclhmapaaa
