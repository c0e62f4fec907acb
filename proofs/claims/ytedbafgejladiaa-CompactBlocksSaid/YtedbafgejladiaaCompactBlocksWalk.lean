/-
  The walk of dragnetlaw25.CompactBlocks.
-/
import Derived.Test.YtedbafgejladiaaBlkMem
import Derived.Test.YtedbafgejladiaaCompVal
import Derived.Test.YtedbafgejladiaaSlSame
import Derived.Test.YtedbafgejladiaaAwake25
import Derived.Test.YtedbafgejladiaaOpenDeep
import Derived.Deep.RegionHeld3
import Derived.Laws.Bits64
import Derived.IntWalk
namespace Go.Proofs.Ytedbafgejladiaa
open Go.RowKit Go.ChangeShapes Go.WideShapes Go.ChangeAt
set_option linter.unusedVariables false
set_option linter.unusedSimpArgs false
set_option maxRecDepth 100000
theorem vaT_more (l : List Bool) (f n j : Nat) (h : l.length ≤ j) : vaT l f n j = vaT l f n n := by
  unfold vaT
  apply List.map_congr_left
  intro i hi
  have hi2 : i < n := by simpa using hi
  rw [if_pos hi2]
  by_cases e : i < j
  · rw [if_pos e]
  · rw [if_neg e]
    unfold vaS
    rw [show l.getD i false = false by rw [List.getD_eq_getElem?_getD, List.getElem?_eq_none (show l.length ≤ i by omega)]; rfl]
    rfl
theorem hbL_full (X : List Bool) (f n j : Nat) (h : X.length ≤ j) (hj : j ≤ n) : hbL X f j = hbL X f n := by
  have := hbL_more X f j 0 h (n - j)
  rw [show j + (n - j) = n by omega] at this
  exact this.symm
theorem BX.sl {w0 w : World} {b p : Nat} {t : TypeId} {cs : Array Value} {C : List (BitVec 64)} {E : List Ev} {v : Value} {H : List Hi} {G : Nat → Prop} (h : BX w0 w b t cs p C E v H G) : ∃ A c, v = .slice A H.length c := by
  rcases h.form with ⟨rfl, h0⟩ | ⟨g, c, rfl, _⟩
  · exact ⟨none, 0, by rw [h0]; rfl⟩
  · exact ⟨_, c, rfl⟩
theorem a5b_cell {w w' : World} {C : List (BitVec 64)} {h c n base : Nat} (hw : w.ownsRow base 33 1 (.slice (some ⟨h, 0, none⟩) n c) n (u64s C)) (o : Off Nob w w') (i : Nat) (hi : i < C.length) (u : Int) (hu : n64 (cl C i) = u) : w'.cell? ⟨h, i, none⟩ = some (.int .u64 u) := by
  have := (own_to hw (fun g hg => o.block g (hw.lt g hg).2 (fun h => h))).cells (g := h) rfl i (.int .u64 (n64 (cl C i))) (getElem_u64s C i hi)
  rw [← hu, ← this, add_addr, Nat.zero_add]
theorem BX.putS {w0 w : World} {b p : Nat} {t : TypeId} {cs : Array Value} {C : List (BitVec 64)} {E : List Ev} {v : Value} {H : List Hi} {g n : Nat} {A : List Sl} (h : BX w0 w b t cs p C E v H (fun k => k = g)) (ho : w.ownsRow w0.heap.size 47 3 (.slice (some ⟨g, 0, none⟩) n n) n (slC A)) (k : Nat) (x : Sl) :
    BX w0 (w.setCells g (k * 3) [.int .u64 (n64 x.1), .int .u64 (n64 x.2.1), .int .u64 (n64 x.2.2)]) b t cs p C E v H (fun k => k = g) ∧ (w.setCells g (k * 3) [.int .u64 (n64 x.1), .int .u64 (n64 x.2.1), .int .u64 (n64 x.2.2)]).ownsRow w0.heap.size 47 3 (.slice (some ⟨g, 0, none⟩) n n) n (slC (A.set k x)) := by
  have h0 := (ho.lt g rfl).1
  refine ⟨?_, ?_⟩
  · show BX w0 (((w.setCell ⟨g, k * 3, none⟩ (.int .u64 (n64 x.1))).setCell ⟨g, k * 3 + 1, none⟩ (.int .u64 (n64 x.2.1))).setCell ⟨g, k * 3 + 1 + 1, none⟩ (.int .u64 (n64 x.2.2))) b t cs p C E v H (fun k => k = g)
    exact ((h.put rfl h0 _ _).put rfl h0 _ _).put rfl h0 _ _
  · show (((w.setCell ⟨g, k * 3, none⟩ (.int .u64 (n64 x.1))).setCell ⟨g, k * 3 + 1, none⟩ (.int .u64 (n64 x.2.1))).setCell ⟨g, k * 3 + 1 + 1, none⟩ (.int .u64 (n64 x.2.2))).ownsRow w0.heap.size 47 3 (.slice (some ⟨g, 0, none⟩) n n) n (slC (A.set k x))
    have := (((ho.stored (k * 3) (.int .u64 (n64 x.1))).1.stored (k * 3 + 1) (.int .u64 (n64 x.2.1))).1.stored (k * 3 + 2) (.int .u64 (n64 x.2.2))).1
    rw [slC_set] at this
    exact this
/-- The blocks that came in. -/
def BlkArg (w : World) (bb bo N : Nat) (A : Nat → Option Addr) (m c : Nat → Nat) (R : Nat → List Bool) : Prop :=
  bb < w.heap.size ∧ ∀ i, i < N → w.cell? ⟨bb, bo + i, none⟩ = some (.slice (A i) (m i) (c i)) ∧ (R i).length = m i ∧ m i ≤ maxLen ∧ ∀ j, j < m i → ∃ b o, A i = some ⟨b, o, none⟩ ∧ b < w.heap.size ∧ w.cell? ⟨b, o + j, none⟩ = some (.bool ((R i).getD j false))
set_option maxHeartbeats 16000000 in
theorem blocks_small (w : World) (bb bo bc N kk : Nat) (A : Nat → Option Addr) (m c : Nat → Nat) (R : Nat → List Bool) (n : Nat) (hn0 : m 0 = n) (HARG : Hid (BlkArg w bb bo N A m c R)) (hN1 : 1 ≤ N) (hN2 : N ≤ 8) (hn1 : 1 ≤ n) (hn2 : n ≤ 40) (hk : kk ≤ 255) :
    Calls Try.prog 4 #[.slice (some ⟨bb, bo, none⟩) N bc, .int .u8 (kk : Int)] w (BoolNew true w) := by
  obtain ⟨is0, his, hsz0, hsz1, hsz2⟩ := info_parts Try.infoSl
  obtain ⟨ih0, hI, hh0, hh1, hh2⟩ := info_parts Try.infoHi
  have g0 : decide ((N : Int) < 1) = false := decide_eq_false (by omega)
  have g1 : decide ((8 : Int) < (N : Int)) = false := decide_eq_false (by omega)
  have g2 : decide ((n : Int) < 1) = false := decide_eq_false (by omega)
  have g3 : decide ((40 : Int) < (n : Int)) = false := decide_eq_false (by omega)
  have e0 : w.cell? ⟨bb, bo, none⟩ = some (.slice (A 0) n (c 0)) := by rw [← hn0]; exact (HARG.out.2 0 (by omega)).1
  have q0 : (0 : Int) < (N : Int) := by omega
  go_enter Try.func4, Try.ntmps4
  go_wp2_with fail
  go_quiet (fail)
  obtain ⟨k, hkk⟩ : ∃ k : Nat, (kk : Int) % 12 + 1 = (k : Int) := ⟨kk % 12 + 1, by omega⟩
  have hk1 : 1 ≤ k := by omega
  have hk2 : k ≤ 12 := by omega
  clear e0 q0 g0 g1 g2 g3
  go_wp2_with fail
  rw [hkk]
  have OW0 : Hid (Off Nob w (w.drewN nq)) := Lib.hid (Off.drewN (Off.refl _ _) _)
  generalize w.drewN nq = W0 at *
  refine Calls.mono (R := fun e w' => ∃ p, e = .returned (.tuple #[.pointer (some ⟨p, 0, none⟩), .int .i64 0]) ∧ One W0 w' [] p (List.replicate (4 * (k + n) + 2) 0) []) (by
    have := new_ok (4 * (k + n) + 2) W0 (by omega) (by omega)
    rw [show ((4 * (k + n) + 2 : Nat) : Int) = 4 * ((k : Int) + (n : Int)) + 2 by push_cast; rfl] at this
    exact this.mono fun e w' ⟨p, he, F, ha, ho, hf⟩ => ⟨p, he, F, ha, ho, hf, fun x hx => by cases hx⟩) ?_
  rintro e w1 ⟨p, rfl, u1⟩
  have U1 := Lib.hid u1
  clear u1
  go_wp2_with fail
  have B0 : Hid (BX W0 (w1.alloc (.cells #[.int .i64 0, .int .i64 (3 * ((k : Int) + (n : Int))), .int .i64 (4 * ((k : Int) + (n : Int))), .int .i64 (4 * ((k : Int) + (n : Int)) + 1)] 39)) w1.heap.size 39 #[.int .i64 0, .int .i64 (3 * ((k : Int) + (n : Int))), .int .i64 (4 * ((k : Int) + (n : Int))), .int .i64 (4 * ((k : Int) + (n : Int)) + 1)] p (List.replicate (4 * (k + n) + 2) 0) [] (.slice none 0 0) [] Nob) := Lib.hid (BX.start (U1.out.push _ _) U1.out.old.size)
  clear U1
  generalize hW1 : w1.alloc (.cells #[.int .i64 0, .int .i64 (3 * ((k : Int) + (n : Int))), .int .i64 (4 * ((k : Int) + (n : Int))), .int .i64 (4 * ((k : Int) + (n : Int)) + 1)] 39) = W1 at *
  generalize hbb : w1.heap.size = b at *
  clear hW1 hbb
  go_loopw [11, 12] (fun v iv wr => ∃ i : Nat, i ≤ N ∧ iv = .int .i64 (i : Int) ∧ ∃ C E, BX W0 wr b 39 #[.int .i64 0, .int .i64 (3 * ((k : Int) + (n : Int))), .int .i64 (4 * ((k : Int) + (n : Int))), .int .i64 (4 * ((k : Int) + (n : Int)) + 1)] p C E v (allH R n i) Nob ∧ Inv (allH R n i) k (k + n) C ∧ E.length ≤ i * 60000) (fun _ iv _ => N - (intOf iv).toNat)
  case atStart => exact ⟨0, Nat.zero_le _, rfl, _, _, B0.out, Inv.start k (k + n), Nat.zero_le _⟩
  case round =>
    obtain ⟨i, hi, rfl, C, E, hbx, hinv, hel⟩ := hrel
    clear B0
    by_cases hlt : i < N
    · have hA := allH_asc R n hn2 i (by omega)
      have hH' : allH R n (i + 1) = allH R n i ++ hbL (R i) (1 + i * n) n := rfl
      have hA' := allH_asc R n hn2 (i + 1) (by omega)
      have hin : i * n ≤ 320 := Nat.mul_le_mul (show i ≤ 8 by omega) hn2
      have hin' : (i + 1) * n ≤ 320 := Nat.mul_le_mul (show i + 1 ≤ 8 by omega) hn2
      rw [hH'] at hA'
      obtain ⟨H, hH⟩ : ∃ H, allH R n i = H := ⟨_, rfl⟩
      rw [hH] at hbx hinv hA hA' hH'
      obtain ⟨AV, cv, rfl⟩ := hbx.sl
      have T0 := Lib.hid hbx
      have HI := Lib.hid hinv
      have HAS := Lib.hid hA
      have HAS2 := Lib.hid hA'
      have HEL := Lib.hid hel
      have HH := Lib.hid hH'
      have hi1 : (i : Int) * (n : Int) ≤ 320 := by exact_mod_cast hin
      have hi0 : 0 ≤ (i : Int) * (n : Int) := Int.mul_nonneg (by omega) (by omega)
      have ARG : Hid (∀ W, Off Nob W0 W → W.cell? ⟨bb, bo + i, none⟩ = some (.slice (A i) (m i) (c i)) ∧ ∀ j, j < m i → ∃ b o, A i = some ⟨b, o, none⟩ ∧ W.cell? ⟨b, o + j, none⟩ = some (.bool ((R i).getD j false))) := Lib.hid (fun W o => by
        have o2 := OW0.out.also o
        obtain ⟨a1, a2, a3, a4⟩ := HARG.out.2 i hlt
        refine ⟨(o2.cell_old HARG.out.1 _).trans a1, fun j hj => ?_⟩
        obtain ⟨b, o, h1, h2, h3⟩ := a4 j hj
        exact ⟨b, o, h1, (o2.cell_old h2 _).trans h3⟩)
      have HRL : Hid ((R i).length = m i) := Lib.hid (HARG.out.2 i hlt).2.1
      clear hbx hinv hA hA' hel hH' hH hin hin'
      go_wp2_with (at_make; refine wpList_make_full _ rfl _ _ 27 rfl W0.heap.size 47 is0 (.agg #[.int .u64 0, .int .u64 0, .int .u64 0]) 3 Try.underlying27 his hsz0 hsz1 .i64 .i64 _ _ n rfl rfl rfl rfl (by rw [hsz2]; omega) (by unfold maxLen; omega) ((BX.old T0.out).size) ?_; intro w2 hown2 hgrow2)
      have T1 := Lib.hid (BX.fresh T0.out hgrow2 (hown2.lt _ rfl).2)
      have OF : Hid (w2.ownsRow W0.heap.size 47 3 (.slice (some ⟨wr.heap.size, 0, none⟩) n n) n (slC (vaT (R i) (1 + i * n) n 0))) := by
        refine Lib.hid ?_
        rw [show (madeCells (Value.agg #[.int .u64 0, .int .u64 0, .int .u64 0]).cells (n * 3)).toList = slC (List.replicate n (0#64, 0#64, 0#64)) from made_slots n] at hown2
        rw [vaT_zero]
        exact hown2
      clear hown2 hgrow2 T0
      generalize hgf : wr.heap.size = gf at *
      clear hgf
      go_loopw [11, 14] (fun v jv wx => ∃ j : Nat, j ≤ n ∧ j ≤ m i ∧ jv = .int .i64 (j : Int) ∧ BX W0 wx b 39 #[.int .i64 0, .int .i64 (3 * ((k : Int) + (n : Int))), .int .i64 (4 * ((k : Int) + (n : Int))), .int .i64 (4 * ((k : Int) + (n : Int)) + 1)] p C E v (H ++ hbL (R i) (1 + i * n) j) (fun k => k = gf) ∧ wx.ownsRow W0.heap.size 47 3 (.slice (some ⟨gf, 0, none⟩) n n) n (slC (vaT (R i) (1 + i * n) n j))) (fun _ jv _ => n - (intOf jv).toNat)
      case atStart => exact ⟨0, Nat.zero_le _, Nat.zero_le _, rfl, by rw [show hbL (R i) (1 + i * n) 0 = [] from rfl, List.append_nil]; exact T1.out, OF.out⟩
      case round =>
        obtain ⟨j, hj, hjm, rfl, hb2, ho2⟩ := hrel
        obtain ⟨M, hM⟩ : ∃ M, H ++ hbL (R i) (1 + i * n) j = M := ⟨_, rfl⟩
        have HM := Lib.hid hM
        rw [hM] at hb2
        have hMl : M.length ≤ 1000 := by
          have h1 := hbL_len (R i) (1 + i * n) j
          have h2 := HAS.out.2
          have h3 : i * n ≤ 320 := by exact_mod_cast hi1
          rw [← hM, List.length_append]
          omega
        clear hM
        obtain ⟨AU, cu, rfl⟩ := hb2.sl
        have T2 := Lib.hid hb2
        have OF2 := Lib.hid ho2
        obtain ⟨a1, a2⟩ := ARG.out _ hb2.old
        clear hb2 ho2 T1 OF
        by_cases hgo : j < n ∧ j < m i
        · obtain ⟨hj1, hj2⟩ := hgo
          obtain ⟨b', o', hAi, a3⟩ := a2 j hj2
          rw [hAi] at a1
          clear a2 hAi
          cases hbt : (R i).getD j false <;> rw [hbt] at a3
          · have HN : Hid (hbL (R i) (1 + i * n) (j + 1) = hbL (R i) (1 + i * n) j ∧ vaT (R i) (1 + i * n) n (j + 1) = vaT (R i) (1 + i * n) n j) := Lib.hid ⟨by rw [hbL_succ, hbt]; rfl, vaT_no _ _ _ _ hbt⟩
            clear hbt
            go_wp2_with fail
            go_roundw
            case rel => exact ⟨j + 1, by omega, by omega, by go_num, by rw [HN.out.1, HM.out]; exact T2.out, by rw [HN.out.2]; exact OF2.out⟩
            case measure => simp [intOf]; omega
          · have HN : Hid (hbL (R i) (1 + i * n) (j + 1) = hbL (R i) (1 + i * n) j ++ [(((1 + i * n + j : Nat) : Int), ((j % 16 : Nat) : Int))] ∧ vaT (R i) (1 + i * n) n (j + 1) = (vaT (R i) (1 + i * n) n j).set j (BitVec.ofNat 64 18446744073709551615, BitVec.ofNat 64 (1 + i * n + j), BitVec.ofNat 64 (j % 16))) := Lib.hid ⟨by rw [hbL_succ, if_pos hbt], vaT_yes _ _ _ _ hj1 hbt⟩
            clear hbt
            have hwz := T2.out.old.size
            go_wp2_with (at_builtin; refine wpList_append_own_at _ rfl _ _ 51 rfl W0.heap.size 53 ih0 (.agg #[.int .i64 0, .int .i64 0]) 2 16 Try.underlying51 hI hh0 hh1 hh2 rfl (by decide) (.slice AU M.length cu) M.length (hiC M) rfl ((T2.out.own.alloc _).alloc _) ⟨wr.heap.size + 1, 0, none⟩ 1 1 [.int .i64 (1 + (i : Int) * (n : Int) + (j : Int)), .int .i64 ((j : Int) % 16)] rfl rfl ?c1 ?c2 ?c3 ?c4 ?c5 ?_)
            case c1 => have := cell_two_new' (wr.alloc (.cells #[.int .i64 (1 + (i : Int) * (n : Int) + (j : Int)), .int .i64 ((j : Int) % 16)] 53)) (.int .i64 (1 + (i : Int) * (n : Int) + (j : Int))) (.int .i64 ((j : Int) % 16)) 53; simpa using this
            case c2 => intro u hu; simp at hu; rcases hu with rfl | rfl <;> rfl
            case c3 => unfold maxLen; omega
            case c4 => omega
            case c5 => simp; omega
            intro v' w4 hown' hgrow hnil hat
            have bx : Blk w4 wr.heap.size 53 #[.int .i64 (1 + (i : Int) * (n : Int) + (j : Int)), .int .i64 ((j : Int) % 16)] := by
              have h1 : Blk ((wr.alloc (.cells #[.int .i64 (1 + (i : Int) * (n : Int) + (j : Int)), .int .i64 ((j : Int) % 16)] 53)).alloc (.cells #[.int .i64 (1 + (i : Int) * (n : Int) + (j : Int)), .int .i64 ((j : Int) % 16)] 53)) wr.heap.size 53 #[.int .i64 (1 + (i : Int) * (n : Int) + (j : Int)), .int .i64 ((j : Int) % 16)] := (Blk.new _ _ _).alloc _
              exact h1.to (hgrow.block _ h1.lt (fun e => by have := (T2.out.own.lt _ e.symm).2; omega))
            have hx : ((1 + (i : Int) * (n : Int) + (j : Int), (j : Int) % 16) : Hi) = (((1 + i * n + j : Nat) : Int), ((j % 16 : Nat) : Int)) := by push_cast; rfl
            obtain ⟨T3, OK3⟩ := BX.more (x := (1 + (i : Int) * (n : Int) + (j : Int), (j : Int) % 16)) T2.out (Off.alloc (Off.alloc (Off.refl _ _) _) _) hown' hgrow (by simpa using hat)
            obtain ⟨AX, cx, rfl⟩ := T3.sl
            have T4 := Lib.hid T3
            have OF3 : Hid (w4.ownsRow W0.heap.size 47 3 (.slice (some ⟨gf, 0, none⟩) n n) n (slC (vaT (R i) (1 + i * n) n j))) := Lib.hid (own_to OF2.out (fun g hg => OK3 g (by injection hg with hg; exact hg.symm)))
            have x0 := bx.cell 0
            have x1 := bx.cell 1
            simp only [List.getElem?_toArray, List.getElem?_cons_succ, List.getElem?_cons_zero] at x0 x1
            obtain ⟨a4, a5, a6⟩ := slC_at (vaT (R i) (1 + i * n) n j) j (by rw [vaT_len]; exact hj1)
            rw [← OF3.out.cellAt _ (by omega)] at a4 a5 a6
            have f0 := OF3.out.frozenAt (j * 3)
            have f1 := OF3.out.frozenAt (j * 3 + 1)
            have f2 := OF3.out.frozenAt (j * 3 + 2)
            have T5 := BX.putS T4.out OF3.out j (BitVec.ofNat 64 18446744073709551615, BitVec.ofNat 64 (1 + i * n + j), BitVec.ofNat 64 (j % 16))
            have hin : i * n ≤ 320 := by exact_mod_cast hi1
            rw [← HN.out.2, show n64 (BitVec.ofNat 64 18446744073709551615, BitVec.ofNat 64 (1 + i * n + j), BitVec.ofNat 64 (j % 16)).1 = 18446744073709551615 by rfl, show n64 (BitVec.ofNat 64 18446744073709551615, BitVec.ofNat 64 (1 + i * n + j), BitVec.ofNat 64 (j % 16)).2.1 = 1 + (i : Int) * (n : Int) + (j : Int) by
              show ((BitVec.ofNat 64 (1 + i * n + j)).toNat : Int) = _
              rw [BitVec.toNat_ofNat, Nat.mod_eq_of_lt (by omega)]
              push_cast
              rfl, show n64 (BitVec.ofNat 64 18446744073709551615, BitVec.ofNat 64 (1 + i * n + j), BitVec.ofNat 64 (j % 16)).2.2 = (j : Int) % 16 by unfold n64; simp; omega] at T5
            have HX := Lib.hid T5
            have HT : Hid (M ++ [(1 + (i : Int) * (n : Int) + (j : Int), (j : Int) % 16)] = H ++ hbL (R i) (1 + i * n) (j + 1)) := Lib.hid (by rw [HN.out.1, ← List.append_assoc, HM.out, hx])
            clear T3 OK3 T5 hx bx hown' hgrow hnil hat hin T4 OF3 T2 OF2 HN
            go_wp2_with fail
            go_roundw
            case rel => exact ⟨j + 1, by omega, by omega, by go_num, by rw [← HT.out]; exact HX.out.1, HX.out.2⟩
            case measure => simp [intOf]; omega
        · have hfin : hbL (R i) (1 + i * n) j = hbL (R i) (1 + i * n) n ∧ vaT (R i) (1 + i * n) n j = vaT (R i) (1 + i * n) n n := by
            by_cases e : j = n
            · rw [e]; exact ⟨rfl, rfl⟩
            · have : (R i).length ≤ j := by rw [HRL.out]; omega
              exact ⟨hbL_full _ _ _ _ this hj, vaT_more _ _ _ _ this⟩
          have HM2 : Hid (H ++ hbL (R i) (1 + i * n) n = M) := Lib.hid (by rw [← hfin.1, HM.out])
          have HAS2X : Hid (Asc M ((i + 1) * n)) := Lib.hid (by have := HAS2.out.1; rwa [HM2.out] at this)
          have OF3 : Hid (wr.ownsRow W0.heap.size 47 3 (.slice (some ⟨gf, 0, none⟩) n n) n (slC (vaT (R i) (1 + i * n) n n))) := by rw [← hfin.2]; exact OF2
          have hd : ¬ j < n ∨ (j < n ∧ ¬ j < m i) := by omega
          have hCl := HI.out.1
          have hel := HEL.out
          have hel2 : i * 60000 ≤ 8 * 60000 := Nat.mul_le_mul_right _ (by omega)
          have hcN := cpN_le (a := k + n) (by omega) (by omega)
          obtain ⟨l1, l2⟩ := wrB_len (R i) (1 + i * n) k n C E
          rw [hCl] at l1
          have hok := first_ok (wrB (R i) (1 + i * n) k n C E).1.length (wrB (R i) (1 + i * n) k n C E).2.length k n hk1 (by omega) hn1 (by omega) l1 (by rw [l2]; omega)
          have hce := first_cpE (wrB (R i) (1 + i * n) k n C E).1.length (wrB (R i) (1 + i * n) k n C E).2.length k n hk1 (by omega) hn1 (by omega) l1 (by rw [l2]; omega)
          obtain ⟨q1, q2⟩ := cpK_len hok 6 (by omega)
          have q3 : (cpK 0 (3 * ((k : Int) + (n : Int))) (4 * ((k : Int) + (n : Int))) (4 * ((k : Int) + (n : Int)) + 1) k n (wrB (R i) (1 + i * n) k n C E).1 (wrB (R i) (1 + i * n) k n C E).2 6).2.1.length = (wrB (R i) (1 + i * n) k n C E).2.length + cpN (k + n) := by rw [q2]; unfold cpN; simp only [cpV]
          have hHl : H.length ≤ 1000 := by
            have h2 := HAS.out.2
            have h3 : i * n ≤ 320 := by exact_mod_cast hi1
            omega
          have hst := Inv.step HI.out hk1 (by omega) hn1 hn2 hHl (R i) (1 + i * n) E (by omega)
          have HWR : Hid (∀ F, Ar wr F p C E → (∀ g, g = gf → ¬ F g) → Calls Try.prog 9 #[.pointer (some ⟨p, 0, none⟩), .int .i64 (3 * (k : Int)), .slice (some ⟨gf, 0, none⟩) n n] wr fun e w' => e = .returned (.int .i64 0) ∧ ArTo wr F p (wrB (R i) (1 + i * n) k n C E).1 (wrB (R i) (1 + i * n) k n C E).2 w') := Lib.hid (fun F ha hG => by
            have := write_ok ha (3 * k) n gf 0 n (vaT (R i) (1 + i * n) n n) (vaT_len _ _ _ _) (OF3.out.lt gf rfl).2 (hG gf rfl) (fun q u hu => by
              have := OF3.out.cells (g := gf) rfl q u hu
              rw [add_addr] at this
              exact this) (ckS_ok ⟨by omega, by omega, by omega, by rw [hCl]; omega, by omega⟩)
            rw [show ((3 * k : Nat) : Int) = 3 * (k : Int) by push_cast; rfl] at this
            exact this)
          have HCP : Hid (∀ W F, Ar W F p (wrB (R i) (1 + i * n) k n C E).1 (wrB (R i) (1 + i * n) k n C E).2 → Calls Try.prog 12 #[.pointer (some ⟨p, 0, none⟩), .agg #[.int .i64 0, .int .i64 (3 * ((k : Int) + (n : Int))), .int .i64 (4 * ((k : Int) + (n : Int))), .int .i64 (4 * ((k : Int) + (n : Int)) + 1)], .int .i64 (k : Int), .int .i64 (n : Int)] W fun e w' => e = .returned (.int .i64 0) ∧ ArTo W F p (cpK 0 (3 * ((k : Int) + (n : Int))) (4 * ((k : Int) + (n : Int))) (4 * ((k : Int) + (n : Int)) + 1) k n (wrB (R i) (1 + i * n) k n C E).1 (wrB (R i) (1 + i * n) k n C E).2 6).1 (cpK 0 (3 * ((k : Int) + (n : Int))) (4 * ((k : Int) + (n : Int))) (4 * ((k : Int) + (n : Int)) + 1) k n (wrB (R i) (1 + i * n) k n C E).1 (wrB (R i) (1 + i * n) k n C E).2 6).2.1 w') := Lib.hid (fun W F ha => ccompact_ok ha 0 _ _ _ k n hok hce)
          rw [HM2.out] at hst
          have q4 : (cpK 0 (3 * ((k : Int) + (n : Int))) (4 * ((k : Int) + (n : Int))) (4 * ((k : Int) + (n : Int)) + 1) k n (wrB (R i) (1 + i * n) k n C E).1 (wrB (R i) (1 + i * n) k n C E).2 6).2.1.length + 3 * k ≤ (i + 1) * 60000 := by rw [q3, l2, Nat.succ_mul]; omega
          have q5 : (cpK 0 (3 * ((k : Int) + (n : Int))) (4 * ((k : Int) + (n : Int))) (4 * ((k : Int) + (n : Int)) + 1) k n (wrB (R i) (1 + i * n) k n C E).1 (wrB (R i) (1 + i * n) k n C E).2 6).2.1.length ≤ 600000 := by rw [q3, l2]; omega
          clear hok hce q1 q2 q3 l1 l2 hel hel2 hcN hCl hfin a2 HI HEL
          revert HWR HCP hst q4 q5
          generalize (cpK 0 (3 * ((k : Int) + (n : Int))) (4 * ((k : Int) + (n : Int))) (4 * ((k : Int) + (n : Int)) + 1) k n (wrB (R i) (1 + i * n) k n C E).1 (wrB (R i) (1 + i * n) k n C E).2 6).1 = C6
          generalize (cpK 0 (3 * ((k : Int) + (n : Int))) (4 * ((k : Int) + (n : Int))) (4 * ((k : Int) + (n : Int)) + 1) k n (wrB (R i) (1 + i * n) k n C E).1 (wrB (R i) (1 + i * n) k n C E).2 6).2.1 = E6
          generalize (wrB (R i) (1 + i * n) k n C E).1 = C1
          generalize (wrB (R i) (1 + i * n) k n C E).2 = E1
          intro hst HWR HCP q4 q5
          have HI6 := Lib.hid hst
          have HQ := Lib.hid (And.intro q4 q5)
          clear hst q4 q5
          obtain ⟨d, hdd⟩ : ∃ d, M.length - k = d := ⟨_, rfl⟩
          have HD := Lib.hid hdd
          have hd3 : (d : Int) ≤ 1000 := by omega
          obtain ⟨LT, hLT⟩ : ∃ L, M.take k = L := ⟨_, rfl⟩
          have HLT := Lib.hid hLT
          clear hLT
          clear hdd
          rcases hd with hd | ⟨hd, hd2⟩
          all_goals
            go_wp2_with fail
            refine (T2.out.callF (fun F ha hG => HWR.out F ha hG)).mono ?_
            rintro e w5 ⟨rfl, h5, _⟩
            have T5 := Lib.hid h5.less
            have kb := h5.blk
            have x0 := kb.cell 0
            have x1 := kb.cell 1
            have x2 := kb.cell 2
            have x3 := kb.cell 3
            simp only [List.getElem?_toArray, List.getElem?_cons_succ, List.getElem?_cons_zero] at x0 x1 x2 x3
            clear h5 kb HWR T2 OF3 OF2
            go_wp2_with fail
            refine (T5.out.callF (fun F ha hG => HCP.out _ F ha)).mono ?_
            rintro e w6 ⟨rfl, h6, _⟩
            have T6 := Lib.hid h6
            clear h6 T5 HCP x0 x1 x2 x3
            go_wp2_with fail
            refine Calls.mono (R := fun e w' => ∃ g, e = .returned (.tuple #[.slice (some ⟨g, 0, none⟩) k k, .int .i64 0]) ∧ BX W0 w' b 39 #[.int .i64 0, .int .i64 (3 * ((k : Int) + (n : Int))), .int .i64 (4 * ((k : Int) + (n : Int))), .int .i64 (4 * ((k : Int) + (n : Int)) + 1)] p C6 (rdE 0 E6 k) (.slice AU M.length cu) M Nob ∧ Blk w' g 47 (slC (rdL 0 C6 k)).toArray) (by
              have hC6 := HI6.out.1
              have hE6 := HQ.out.2
              exact T6.out.less.row (fun F ha => read_ok ha 0 k (ckS_ok ⟨by omega, by omega, by omega, by rw [hC6]; omega, by omega⟩))) ?_
            rintro e w7 ⟨g, rfl, h7, k7⟩
            have T7 := Lib.hid h7
            have KB := Lib.hid k7
            clear h7 k7 T6
            have HFI : Hid (Calls Try.prog 17 #[.slice AU M.length cu, .int .i64 (k : Int)] w7 fun e w' => ∃ u, e = .returned (.tuple #[u, .int .i64 (d : Int), .int .i64 0]) ∧ Rd w' (Old w') 2 u LT.length (hiC LT) ∧ Off Nob w7 w') := Lib.hid (by
              have eLT := HLT.out
              subst eLT
              have hdr : drI M.length (mnK k M.length) = (d : Int) := by unfold drI mnK; have := HD.out; omega
              have hmk : (M.take k).length = mnK k M.length := by rw [List.length_take]; rfl
              have htk : M.take (mnK k M.length) = M.take k := by
                unfold mnK
                by_cases h : k ≤ M.length
                · rw [Nat.min_eq_left h]
                · rw [Nat.min_eq_right (by omega), List.take_of_length_le (Nat.le_refl _), List.take_of_length_le (by omega)]
              have := (show Calls Try.prog 17 #[.slice AU M.length cu, .int .i64 (k : Int)] w7 (FirP w7 M M.length k) by
                rcases T7.out.form with ⟨e1, e2⟩ | ⟨g, c, e1, e2, e3, e4⟩
                · rw [e1, e2]; exact first_zero w7 k (by omega)
                · rw [e1]
                  have hasc := HAS2.out.1.1
                  rw [HM2.out] at hasc
                  exact first_some w7 g M.length c M k rfl (by omega) e2 (by omega) e3 e4 hasc)
              refine this.mono fun e w' ⟨u, he, hu, ho⟩ => ⟨u, by rw [he, hdr], ?_, ho⟩
              rw [hmk]
              rw [htk] at hu
              exact Rd.own hu (fun q hq => (hu.lt q hq).2))
            go_wp2_with fail
            refine HFI.out.mono ?_
            rintro e w8 ⟨u, rfl, r8, o8⟩
            obtain ⟨XU, cu8, rfl, _⟩ := id r8
            have R8 := Lib.hid r8
            have T8 := Lib.hid (T7.out.off o8)
            have KB8 := Lib.hid (KB.out.to (o8.block _ KB.out.lt (fun h => h)))
            clear r8 o8 T7 KB HFI
            go_wp2_with fail
            refine Calls.mono (R := fun e w' => ∃ h c, e = .returned (.slice (some ⟨h, 0, none⟩) (4 * (k + n) + 2) c) ∧ w'.ownsRow w8.heap.size 33 1 (.slice (some ⟨h, 0, none⟩) (4 * (k + n) + 2) c) (4 * (k + n) + 2) (u64s C6) ∧ Off Nob w8 w') (by
              obtain ⟨F, ha⟩ := T8.out.ar
              refine (cells_ok ha).mono fun e w' he => ?_
              have hC6 := HI6.out.1
              have := a5_row he (by rw [hC6]; omega)
              rw [hC6] at this
              exact this) ?_
            rintro e w9 ⟨hh, cc, rfl, hr, o9⟩
            have T9 := Lib.hid (T8.out.off o9)
            have R9 := Lib.hid (R8.out.keep o9 (fun q hq h => h))
            have KB9 := Lib.hid (KB8.out.to (o9.block _ KB8.out.lt (fun h => h)))
            have CC : Hid (∀ W, Off Nob w9 W → W.cell? ⟨hh, 4 * (k + n), none⟩ = some (.int .u64 (d : Int)) ∧ W.cell? ⟨hh, 4 * (k + n) + 1, none⟩ = some (.int .u64 (if 0 < d then 18446744073709551615 else 0))) := Lib.hid (fun W o => by
              obtain ⟨c1, _, c3, c4⟩ := HI6.out
              refine ⟨a5b_cell hr o _ (by rw [c1]; omega) _ ?_, a5b_cell hr o _ (by rw [c1]; omega) _ ?_⟩
              · rw [c3, HD.out]; unfold n64; rw [BitVec.toNat_ofNat]; omega
              · rw [c4]
                by_cases hp : 0 < d
                · rw [if_pos hp, decide_eq_true (by have := HD.out; omega), msk_true]; rfl
                · rw [if_neg hp, decide_eq_false (by have := HD.out; omega)]; rfl)
            clear hr o9 T8 R8 KB8
            have HHI : Hid (Calls Try.prog 19 #[.slice (some ⟨g, 0, none⟩) k k] w9 fun e w' => ∃ v, e = .returned v ∧ Rd w' (Old w') 2 v LT.length (hiC LT) ∧ Off Nob w9 w') := Lib.hid (by
              have eLT := HLT.out
              subst eLT
              have := hits_some w9 g 0 k k (rdL 0 C6 k) (rdL_len _ _ _) (by omega) (by omega) KB9.out.lt (fun q u hu => by rw [Nat.zero_add, KB9.out.cell, List.getElem?_toArray]; exact hu)
              refine this.mono fun e w' ⟨v, he, hv, ho⟩ => ⟨v, he, ?_, ho⟩
              have hih := HI6.out.hits HAS2X.out
              rw [hih] at hv
              exact Rd.own hv (fun q hq => (hv.lt q hq).2))
            go_wp2_with fail
            refine HHI.out.mono ?_
            rintro e w10 ⟨v, rfl, r10, o10⟩
            obtain ⟨XV, cv10, rfl, _⟩ := id r10
            have R10 := Lib.hid r10
            have R10' := Lib.hid (R9.out.keep o10 (fun q hq h => h))
            have T10 := Lib.hid (T9.out.off o10)
            have O10 := Lib.hid o10
            clear r10 o10 HHI KB9 R9 T9
            go_wp2_with fail
            refine (sameHi_eq R10.out R10'.out).mono ?_
            rintro e w11 ⟨rfl, o11⟩
            have T11 := Lib.hid (T10.out.off o11)
            have x01 := CC.out _ (O10.out.also o11)
            obtain ⟨x0, x1⟩ := x01
            clear o11 T10 R10 R10' O10 CC
            by_cases hp : 0 < d
            all_goals
              first | rw [if_pos hp] at x1 | rw [if_neg hp] at x1
              go_wp2_with fail
              go_roundw
              case rel => exact ⟨i + 1, by omega, by go_num, C6, rdE 0 E6 k, by rw [HH.out, HM2.out]; exact T11.out, by rw [HH.out, HM2.out]; exact HI6.out, by rw [rdE_len]; exact HQ.out.1⟩
              case measure => simp [intOf]; omega
    · obtain rfl : i = N := by omega
      have T0 := Lib.hid hbx.old
      clear hbx hinv hel
      go_wp2_with fail
      refine (awake_ok _).mono ?_
      rintro e w9 ⟨rfl, o9⟩
      have O9 := Lib.hid ((OW0.out.also T0.out).also o9)
      clear o9
      go_wp2
      go_ret
      exact ⟨rfl, O9.out⟩
theorem blocks_long (w : World) (A : Option Addr) (N bc : Nat) (x : Value) (h : N < 1 ∨ 8 < N) (hN : N ≤ maxLen) :
    Calls Try.prog 4 #[.slice A N bc, x] w (BoolNew true w) := by
  unfold maxLen at hN
  have hd : decide ((N : Int) < 1) = true ∨ (decide ((N : Int) < 1) = false ∧ decide ((8 : Int) < (N : Int)) = true) := by simp only [decide_eq_true_eq, decide_eq_false_iff_not]; omega
  rcases hd with hd | ⟨hd, hd2⟩
  all_goals
    go_enter Try.func4, Try.ntmps4
    go_wp2_with fail
    refine (awake_ok _).mono ?_
    rintro e w4 ⟨rfl, h4⟩
    have H4 := Lib.hid h4
    clear h4
    go_wp2
    go_ret
    exact ⟨rfl, H4.out⟩
theorem blocks_first (w : World) (bb bo N bc n c : Nat) (A : Option Addr) (x : Value) (hc : w.cell? ⟨bb, bo, none⟩ = some (.slice A n c)) (h : n < 1 ∨ 40 < n) (hN1 : 1 ≤ N) (hN2 : N ≤ 8) (hn : n ≤ maxLen) :
    Calls Try.prog 4 #[.slice (some ⟨bb, bo, none⟩) N bc, x] w (BoolNew true w) := by
  unfold maxLen at hn
  have g0 : decide ((N : Int) < 1) = false := decide_eq_false (by omega)
  have g1 : decide ((8 : Int) < (N : Int)) = false := decide_eq_false (by omega)
  have q0 : (0 : Int) < (N : Int) := by omega
  have hd : decide ((n : Int) < 1) = true ∨ (decide ((n : Int) < 1) = false ∧ decide ((40 : Int) < (n : Int)) = true) := by simp only [decide_eq_true_eq, decide_eq_false_iff_not]; omega
  rcases hd with hd | ⟨hd, hd2⟩
  all_goals
    go_enter Try.func4, Try.ntmps4
    go_wp2_with fail
    refine (awake_ok _).mono ?_
    rintro e w4 ⟨rfl, h4⟩
    have H4 := Lib.hid h4
    clear h4
    go_wp2
    go_ret
    exact ⟨rfl, H4.out⟩
theorem compactBlocks_walk {w : World} {v : Value} {N : Nat} {xs : List Value} (h : Rd w (Old w) 1 v N xs) (hx : ∀ i, i < N → ∃ (u : Value) (m : Nat) (X : List Bool), xs[i]? = some u ∧ Rd w (Old w) 1 u m (boolsV X)) (kk : Int) (hk : 0 ≤ kk ∧ kk < 256) :
    Calls Try.prog 4 #[v, .int .u8 kk] w (BoolNew true w) := by
  obtain ⟨A, bc, rfl, hm, hc⟩ := h.form
  by_cases g : N < 1 ∨ 8 < N
  · exact blocks_long _ _ _ _ _ g hm
  · obtain ⟨bb, bo, rfl, hb, hcell⟩ := hc (by omega)
    obtain ⟨kk, rfl⟩ := Int.eq_ofNat_of_zero_le hk.1
    have hh : ∀ i, ∃ (A : Option Addr) (m c : Nat) (X : List Bool), i < N → w.cell? ⟨bb, bo + i, none⟩ = some (.slice A m c) ∧ X.length = m ∧ m ≤ maxLen ∧ ∀ j, j < m → ∃ b o, A = some ⟨b, o, none⟩ ∧ b < w.heap.size ∧ w.cell? ⟨b, o + j, none⟩ = some (.bool (X.getD j false)) := by
      intro i
      by_cases hi : i < N
      · obtain ⟨u, m, X, h1, h2⟩ := hx i hi
        have hl : X.length = m := by obtain ⟨_, _, _, _, hl, _⟩ := h2; rw [boolsV, List.length_map] at hl; omega
        obtain ⟨A, c, rfl, hm2, hc2⟩ := h2.form
        refine ⟨A, m, c, X, fun _ => ⟨hcell i _ h1, hl, hm2, fun j hj => ?_⟩⟩
        obtain ⟨b, o, rfl, hb2, hcc⟩ := hc2 (by omega)
        exact ⟨b, o, rfl, hb2, hcc j _ (by simp [boolsV, List.getD, List.getElem?_eq_getElem (show j < X.length by omega)])⟩
      · exact ⟨none, 0, 0, [], fun h => absurd h hi⟩
    have hA := fun i => Classical.choose_spec (hh i)
    have hB := fun i => Classical.choose_spec (hA i)
    have hC := fun i => Classical.choose_spec (hB i)
    have hD := fun i => Classical.choose_spec (hC i)
    obtain ⟨FA, hFA⟩ : ∃ F : Nat → Option Addr, F = fun i => Classical.choose (hh i) := ⟨_, rfl⟩
    obtain ⟨FM, hFM⟩ : ∃ F : Nat → Nat, F = fun i => Classical.choose (hA i) := ⟨_, rfl⟩
    obtain ⟨FC, hFC⟩ : ∃ F : Nat → Nat, F = fun i => Classical.choose (hB i) := ⟨_, rfl⟩
    obtain ⟨FR, hFR⟩ : ∃ F : Nat → List Bool, F = fun i => Classical.choose (hC i) := ⟨_, rfl⟩
    have arg : BlkArg w bb bo N FA FM FC FR := ⟨hb, fun i hi => by rw [hFA, hFM, hFC, hFR]; exact hD i hi⟩
    obtain ⟨c1, _, c3, _⟩ := arg.2 0 (by omega)
    by_cases g2 : FM 0 < 1 ∨ 40 < FM 0
    · exact blocks_first w bb bo N bc (FM 0) (FC 0) (FA 0) _ c1 g2 (by omega) (by omega) c3
    · exact blocks_small w bb bo bc N kk FA FM FC FR (FM 0) rfl (Lib.hid arg) (by omega) (by omega) (by omega) (by omega) (by omega)
end Go.Proofs.Ytedbafgejladiaa
