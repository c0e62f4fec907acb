/-
  The walk of dragnetlaw22.SlotsBlocks.
-/
import Derived.Test.YtonkhgmfeakbcaaSbPlain
import Derived.Test.YtonkhgmfeakbcaaSlRd
import Derived.Test.YtonkhgmfeakbcaaSlFill
import Derived.Test.YtonkhgmfeakbcaaSlSame
import Derived.Test.YtonkhgmfeakbcaaBX
import Derived.Test.YtonkhgmfeakbcaaSlHit
import Derived.Test.YtonkhgmfeakbcaaAwake22
import Derived.Test.YtonkhgmfeakbcaaOpen
import Derived.Deep.RegionHeld3
import Derived.Laws.Bits64
import Derived.Laws.BitsAllLaws
import Derived.IntWalk
namespace Go.Proofs.Ytonkhgmfeakbcaa
open Go.RowKit Go.ChangeShapes Go.WideShapes Go.ChangeAt
set_option linter.unusedVariables false
set_option linter.unusedSimpArgs false
set_option maxRecDepth 100000
def mnB (a b : Nat) : Nat := min a b
theorem run_min_mnB {P : Program} {w : World} (ts : Array TypeId) (t : TypeId) (a b : Nat) : (Builtin.min_ ts t #[.int .i64 (a : Int), .int .i64 (b : Int)]).run P w = .ok (.int .i64 (mnB a b : Int)) w := by
  rw [run_min_int2]
  congr 2
  unfold mnB
  split <;> omega
attribute [local go_sem ↓] run_min_mnB
theorem u64s_setS (l : List (BitVec 64)) (i : Nat) (v : BitVec 64) : (u64s l).set i (.int .u64 (n64 v)) = u64s (l.set i v) := by simp [u64s, List.map_set]
def SbM (w wr : World) (b : Nat) (bv : Array Value) (g N : Nat) : Prop := Off Nob w wr ∧ (Blk wr b 39 bv ∧ g ≠ b) ∧ ∃ C : List (BitVec 64), C.length = N ∧ wr.ownsRow w.heap.size 41 1 (.slice (some ⟨g, 0, none⟩) N N) N (u64s C)
theorem SbM.put {w wr : World} {b g N : Nat} {bv : Array Value} (h : SbM w wr b bv g N) (j : Nat) (x : BitVec 64) : SbM w (wr.setCell ⟨g, j, none⟩ (.int .u64 (n64 x))) b bv g N := by
  obtain ⟨h1, ⟨h2, h3⟩, C, h4, h5⟩ := h
  refine ⟨h1.put (p := ⟨g, _, none⟩) (.inr (h5.lt g rfl).1) _, ⟨h2.far (p := ⟨g, j, none⟩) (fun e => h3 e.symm) _, h3⟩, C.set j x, by rw [List.length_set, h4], ?_⟩
  have := (h5.stored j (.int .u64 (n64 x))).1
  rw [u64s_setS] at this
  exact this
theorem SbM.box {w wr : World} {b g N : Nat} {bv : Array Value} (h : SbM w wr b bv g N) {F : Prop} (k : (∀ i u, bv[i]? = some u → wr.cell? ⟨b, i, none⟩ = some u) → F) : F := k (fun i u hu => (h.2.1.1.cell i).trans hu)
theorem pad_of (C : List (BitVec 64)) (h : 1 ≤ C.length) : pad C = C := by unfold pad; rw [if_neg (fun e => by rw [e] at h; exact absurd h (by decide))]
theorem made_u (N : Nat) : (madeCells (Value.int .u64 0).cells (N * 1)).toList = u64s (List.replicate N 0#64) := by
  rw [Nat.mul_one]
  show (madeCells #[.int .u64 0] N).toList = _
  rw [toList_madeCells_one]
  simp [u64s, n64]
theorem stv_eq (x r i : Nat) (hx : x ≤ 65535) (hi : i ≤ 16) : IntKind.u64.wrap (bits .and .u64 (IntKind.u64.wrap ((x : Int) / 2 ^ r)) 1 + 2 * (i : Int)) = n64 (BitVec.ofNat 64 (x / 2 ^ r % 2 + 2 * i)) := by
  have e : (x : Int) / 2 ^ r = ((x / 2 ^ r : Nat) : Int) := by push_cast; rfl
  have hle : x / 2 ^ r ≤ x := Nat.div_le_self _ _
  have wu : ∀ y : Int, 0 ≤ y → y < 18446744073709551616 → IntKind.u64.wrap y = y := fun y h1 h2 => by rw [IntKind.wrap_u64]; omega
  rw [e]
  generalize x / 2 ^ r = y at *
  rw [wu (y : Int) (by omega) (by omega)]
  have h1 : (y : Int) = n64 (BitVec.ofNat 64 y) := by unfold n64; rw [BitVec.toNat_ofNat]; omega
  rw [h1, vaB_bits, show (BitVec.ofNat 64 y).toNat = y by rw [BitVec.toNat_ofNat]; omega]
  have h2 : n64 (BitVec.ofNat 64 (y % 2 + 2 * i)) = ((y % 2 + 2 * i : Nat) : Int) := by unfold n64; rw [BitVec.toNat_ofNat]; omega
  rw [h2]
  by_cases h : y % 2 = 1
  · rw [if_pos h, wu _ (by omega) (by omega)]; omega
  · rw [if_neg h, wu _ (by omega) (by omega)]; omega
theorem stv_bit (B : List Nat) (i r : Nat) (hx : B.getD i 0 ≤ 65535) (hi : i ≤ 16) : (BitVec.ofNat 64 (B.getD i 0 / 2 ^ r % 2 + 2 * i)).toNat % 2 = 1 ↔ bB B i r = true := by
  unfold bB
  rw [decide_eq_true_iff, BitVec.toNat_ofNat]
  omega
theorem fiE_sb (nC nE q P n i : Nat) (hq : n * P = q) (hn : n ≤ 16) (hP1 : 1 ≤ P) (hP2 : P ≤ 16) (hi : i < n) (hC : nC = 3 * q + P) (hE : nE ≤ 8000000) : fiE nC nE ((0 : Nat) : Int) ((3 * q : Nat) : Int) (P : Int) (i : Int) true = 0 := by
  have h1 : P * i + P ≤ q := by rw [← hq]; have := Nat.mul_le_mul_right P (show i + 1 ≤ n by omega); rw [Nat.add_mul, Nat.one_mul, Nat.mul_comm i P] at this; exact this
  have h2 : 3 * (P : Int) * (i : Int) = 3 * ((P * i : Nat) : Int) := by push_cast; rw [Int.mul_assoc]
  unfold fiE
  rw [h2, if_neg (by omega), if_neg (by decide)]
  generalize P * i = m at *
  have g1 : hasE nC ((3 * q : Nat) : Int) (P : Int) = 0 := by unfold hasE; rw [if_neg (by omega)]
  have g2 : hasE nC (((0 : Nat) : Int) + 3 * (m : Int)) (3 * (P : Int)) = 0 := by unfold hasE; rw [if_neg (by omega)]
  rw [if_pos g1, if_pos g2, if_neg (by omega)]
  unfold roomE
  rw [if_neg (by omega), if_neg (by omega)]
theorem BX.sl {w0 w : World} {b p : Nat} {t : TypeId} {cs : Array Value} {C : List (BitVec 64)} {E : List Ev} {v : Value} {H : List Hi} {G : Nat → Prop} (h : BX w0 w b t cs p C E v H G) : ∃ A c, v = .slice A H.length c := by
  rcases h.form with ⟨rfl, h0⟩ | ⟨g, c, rfl, _⟩
  · exact ⟨none, 0, by rw [h0]; rfl⟩
  · exact ⟨_, c, rfl⟩
theorem sorted_own {w : World} {base : Nat} {v : Value} {H : List Hi} (h : w.ownsRow base 50 2 v H.length (hiC H)) (hs : HiAsc H) (hn : H.length ≤ 70000) : Calls Try.prog 22 #[v] w (SortP w) := by
  rcases h.2 with ⟨rfl, h0⟩ | ⟨g, c, cur, rfl, h1, h2, h3, h4, h5, h6⟩
  · exact sorted_zero w none 0
  · exact sorted_some w g 0 c H.length H rfl hn (h.lt g rfl).2 (fun j u hu => by
      have := h.cells (g := g) rfl j u hu
      rwa [add_addr] at this) hs
theorem bit16 (y : Nat) (h : y ≤ 65535) : bits .and .u16 (y : Int) 1 = ((y % 2 : Nat) : Int) := by
  have := u16_and_nat y 1 (by omega) (by decide)
  rw [Nat.and_one_is_mod] at this
  exact this
/-- What came in. -/
def SbArg (w : World) (b1 o1 b2 o2 n m3 : Nat) (A3 : Option Addr) (B : List Nat) (R : List Bool) (Z : List (BitVec 64)) : Prop := ∀ W, Off Nob w W → (∀ i, i < n → W.cell? ⟨b1, o1 + i, none⟩ = some (.int .u16 ((B.getD i 0 : Nat) : Int)) ∧ W.cell? ⟨b2, o2 + i, none⟩ = some (.bool (R.getD i false))) ∧ ∀ i, i < m3 → ∃ b o, A3 = some ⟨b, o, none⟩ ∧ W.cell? ⟨b, o + i, none⟩ = some (.int .u64 (n64 (Z.getD i 0)))
set_option maxHeartbeats 16000000 in
theorem sb_small (w : World) (P b1 o1 b2 o2 m1 m2 d1 d2 last m3 d3 : Nat) (A3 : Option Addr) (B : List Nat) (R : List Bool) (Z : List (BitVec 64)) (n : Nat) (hn : mnB m1 m2 = n)
    (HARG : Hid (SbArg w b1 o1 b2 o2 n m3 A3 B R Z)) (HB : Hid (∀ i, B.getD i 0 ≤ 65535))
    (hP1 : 1 ≤ P) (hP2 : P ≤ 16) (hn1 : 1 ≤ n) (hn2 : n ≤ 16) (hm1 : m1 ≤ maxLen) (hm2 : m2 ≤ maxLen) (hm3 : m3 ≤ 1000) (hlast : last < 4294967296) :
    Calls Try.prog 4 #[.agg #[.int .i64 (P : Int), .slice (some ⟨b1, o1, none⟩) m1 d1, .slice (some ⟨b2, o2, none⟩) m2 d2, .int .u32 (last : Int)], .slice A3 m3 d3] w (BoolNew true w) := by
  obtain ⟨iu0, hiu, hu0, hu1, hu2⟩ := info_parts Try.infoU
  obtain ⟨ih0, hI, hh0, hh1, hh2⟩ := info_parts Try.infoHi
  unfold maxLen at hm1 hm2
  have hnm1 : n ≤ m1 := by rw [← hn]; exact Nat.min_le_left _ _
  have hnm2 : n ≤ m2 := by rw [← hn]; exact Nat.min_le_right _ _
  have g0 : decide ((P : Int) < 1) = false := decide_eq_false (by omega)
  have g1 : decide ((16 : Int) < (P : Int)) = false := decide_eq_false (by omega)
  have g2 : decide ((n : Int) < 1) = false := decide_eq_false (by omega)
  have g3 : decide ((16 : Int) < (n : Int)) = false := decide_eq_false (by omega)
  have g4 : decide ((1000 : Int) < (m3 : Int)) = false := decide_eq_false (by omega)
  go_enter Try.func4, Try.ntmps4
  obtain ⟨q, hq⟩ : ∃ q, n * P = q := ⟨_, rfl⟩
  have hqle : q ≤ 256 := by rw [← hq]; exact Nat.mul_le_mul hn2 hP2
  have hq1 : 1 ≤ q := by rw [← hq]; exact Nat.mul_le_mul hn1 hP1
  have hqi : 3 * (n : Int) * (P : Int) = 3 * (q : Int) := by rw [← hq]; push_cast; rw [Int.mul_assoc]
  have hqb : 3 * (n : Int) * (P : Int) ≤ 768 := by omega
  have hqc : 0 ≤ 3 * (n : Int) * (P : Int) := by omega
  obtain ⟨N, hN⟩ : ∃ N, 3 * q + P = N := ⟨_, rfl⟩
  have hNi : 3 * (q : Int) + (P : Int) = (N : Int) := by omega
  have hNl : N ≤ 784 := by omega
  have hN1 : 4 ≤ N := by omega
  have bg : Blk (w.alloc (.cells #[.int .i64 (P : Int), .slice (some ⟨b1, o1, none⟩) m1 d1, .slice (some ⟨b2, o2, none⟩) m2 d2, .int .u32 (last : Int)] 39)) w.heap.size 39 #[.int .i64 (P : Int), .slice (some ⟨b1, o1, none⟩) m1 d1, .slice (some ⟨b2, o2, none⟩) m2 d2, .int .u32 (last : Int)] := Blk.new _ _ _
  have BG := Lib.hid bg
  clear bg
  go_wp2_with (at_make; refine wpList_make_full _ rfl _ _ 40 rfl w.heap.size 41 iu0 (.int .u64 0) 1 Try.underlying40 hiu hu0 hu1 .i64 .i64 _ _ N rfl rfl rfl rfl (by rw [hu2]; omega) (by unfold maxLen; omega) (by simp) ?_; intro w2 hown2 hgrow2)
  have of2 : Off Nob w w2 := Off.grown (Off.alloc (Off.refl _ _) _) hgrow2 (fun k hk => by cases hk)
  have hne : (w.alloc (.cells #[.int .i64 (P : Int), .slice (some ⟨b1, o1, none⟩) m1 d1, .slice (some ⟨b2, o2, none⟩) m2 d2, .int .u32 (last : Int)] 39)).heap.size ≠ w.heap.size := by simp
  have M0 : Hid (SbM w w2 w.heap.size #[.int .i64 (P : Int), .slice (some ⟨b1, o1, none⟩) m1 d1, .slice (some ⟨b2, o2, none⟩) m2 d2, .int .u32 (last : Int)] (w.alloc (.cells #[.int .i64 (P : Int), .slice (some ⟨b1, o1, none⟩) m1 d1, .slice (some ⟨b2, o2, none⟩) m2 d2, .int .u32 (last : Int)] 39)).heap.size N) := by
    refine Lib.hid ⟨of2, ⟨BG.out.to (hgrow2.block _ BG.out.lt (fun e => by cases e)), hne⟩, List.replicate N 0#64, by rw [List.length_replicate], ?_⟩
    rw [show (madeCells (Value.int .u64 0).cells (N * 1)).toList = u64s (List.replicate N 0#64) from made_u _] at hown2
    exact hown2
  clear hown2 hgrow2 BG of2 hne
  rw [show (w.alloc (.cells #[.int .i64 (P : Int), .slice (some ⟨b1, o1, none⟩) m1 d1, .slice (some ⟨b2, o2, none⟩) m2 d2, .int .u32 (last : Int)] 39)).heap.size = w.heap.size + 1 by simp] at M0
  generalize w.heap.size + 1 = g at *
  obtain ⟨b, hb⟩ : ∃ b, w.heap.size = b := ⟨_, rfl⟩
  have hbw : w.heap.size ≤ b := by omega
  have HBW := Lib.hid hbw
  rw [hb] at M0 ⊢
  clear hb hbw
  go_loopw [7] (fun iv wr => ∃ j : Nat, j ≤ N ∧ iv = .int .i64 (j : Int) ∧ SbM w wr b #[.int .i64 (P : Int), .slice (some ⟨b1, o1, none⟩) m1 d1, .slice (some ⟨b2, o2, none⟩) m2 d2, .int .u32 (last : Int)] g N) (fun iv _ => N - (intOf iv).toNat)
  case atStart => exact ⟨0, Nat.zero_le _, rfl, M0.out⟩
  case round =>
    obtain ⟨j, hj, rfl, hrel⟩ := hrel
    have M1 := Lib.hid hrel
    clear hrel M0
    by_cases hgo : j < N ∧ j < m3
    · obtain ⟨hj1, hj2⟩ := hgo
      obtain ⟨b3, o3, hA3, hz⟩ := (HARG.out _ M1.out.1).2 j hj2
      subst hA3
      have M2 := Lib.hid (M1.out.put j (Z.getD j 0))
      obtain ⟨C, hC, ho⟩ := M1.out.2.2
      have fz := ho.frozenAt j
      have cz : wr.cell? ⟨g, j, none⟩ = some (.int .u64 (n64 (cl C j))) := by rw [ho.cellAt j (by omega)]; exact getElem_u64s C j (by omega)
      clear ho hC
      revert M2 hz
      generalize n64 (Z.getD j 0) = z
      generalize n64 (cl C j) = z2 at cz
      intro hz M2
      clear C
      go_wp2_with fail
      go_roundw
      case rel => exact ⟨j + 1, by omega, by go_num, M2.out⟩
      case measure => simp [intOf]; omega
    · have hd : ¬ j < N ∨ (j < N ∧ ¬ j < m3) := by omega
      clear hgo
      rcases hd with hd | ⟨hd, hd2⟩
      all_goals
        go_wp2_with fail
        obtain ⟨o1', ⟨b1', hgb⟩, C, hC, ho⟩ := M1.out
        have H0 : Hid (∀ e w', Made wr C e w' → ∃ p r, e = .returned (.tuple #[.pointer (some ⟨p, 0, none⟩), .pointer (some ⟨r, 0, none⟩)]) ∧ One w w' [(b, 39, #[.int .i64 (P : Int), .slice (some ⟨b1, o1, none⟩) m1 d1, .slice (some ⟨b2, o2, none⟩) m2 d2, .int .u32 (last : Int)])] p C (stores C.length)) := Lib.hid (fun e w' k => by
          have := Made.one (bs := [(b, 39, #[.int .i64 (P : Int), .slice (some ⟨b1, o1, none⟩) m1 d1, .slice (some ⟨b2, o2, none⟩) m2 d2, .int .u32 (last : Int)])]) k o1' (fun x hx => by rw [List.mem_singleton.1 hx]; exact b1')
          rwa [pad_of C (by omega)] at this)
        have HA0 := Lib.hid (arena_any (Rd.own ho (F := fun k => True) (fun k _ => trivial)) (by omega))
        have HCL := Lib.hid hC
        clear o1' b1' hgb hC ho M1
        refine HA0.out.mono ?_
        rintro e w3 k
        obtain ⟨p, r, rfl, u0⟩ := H0.out _ _ k
        clear k H0 HA0
        have U0 := Lib.hid u0
        have x0 := (u0.blk (List.mem_singleton.2 rfl)).cell 0
        have x3 := (u0.blk (List.mem_singleton.2 rfl)).cell 3
        simp only [List.getElem?_toArray, List.getElem?_cons_succ, List.getElem?_cons_zero] at x0 x3
        clear u0
        obtain ⟨lm, hlm⟩ : ∃ lm : Nat, (last : Int) % 1000000 = (lm : Int) := ⟨last % 1000000, by omega⟩
        have hlm2 : lm < 1000000 := by omega
        go_wp2_with fail
        rw [hlm]
        clear hlm
        obtain ⟨odd, hod⟩ : ∃ o, decide (last % 2 = 1) = o := ⟨_, rfl⟩
        have hS0 : SbI B R lm P n odd 0 C := ⟨by rw [HCL.out, hq, hN], fun j h => absurd h (Nat.not_lt_zero _)⟩
        have HS0 := Lib.hid hS0
        clear hS0
        go_loopw [13] (fun kv wr => ∃ k : Nat, k ≤ n ∧ kv = .int .i64 (k : Int) ∧ ∃ C E, One w wr [(b, 39, #[.int .i64 (P : Int), .slice (some ⟨b1, o1, none⟩) m1 d1, .slice (some ⟨b2, o2, none⟩) m2 d2, .int .u32 (last : Int)])] p C E ∧ SbI B R lm P n odd k C ∧ E.length ≤ 1000 + 100 * k) (fun kv _ => n - (intOf kv).toNat)
        case atStart => exact ⟨0, Nat.zero_le _, rfl, C, _, U0.out, HS0.out, by rw [length_stores, HCL.out]; omega⟩
        case round =>
          obtain ⟨k, hk, rfl, C2, E2, hu, hs, hel⟩ := hrel
          clear HS0 HCL U0 x0 x3
          have U1 := Lib.hid hu
          have HS1 := Lib.hid hs
          clear hu hs
          by_cases hkn : k < n
          · have y0 := (U1.out.blk (List.mem_singleton.2 rfl)).cell 0
            have y1 := (U1.out.blk (List.mem_singleton.2 rfl)).cell 1
            have y2 := (U1.out.blk (List.mem_singleton.2 rfl)).cell 2
            have y3 := (U1.out.blk (List.mem_singleton.2 rfl)).cell 3
            simp only [List.getElem?_toArray, List.getElem?_cons_succ, List.getElem?_cons_zero] at y0 y1 y2 y3
            obtain ⟨i, hi⟩ : ∃ i, od odd n k = i := ⟨_, rfl⟩
            have hin : i < n := by rw [← hi]; unfold od; split <;> omega
            have HI := Lib.hid hi
            cases odd
            · obtain rfl : k = i := hi
              have hl2 : ((last : Int) % 2 == 1) = false := by rw [decide_eq_false_iff_not] at hod; exact beq_eq_false_iff_ne.2 (by omega)
              go_wp2_with fail
              go_loopw [15] (fun rv wx => ∃ r : Nat, r ≤ P ∧ rv = .int .i64 (r : Int) ∧ ∃ C1 E1, One w wx [(b, 39, #[.int .i64 (P : Int), .slice (some ⟨b1, o1, none⟩) m1 d1, .slice (some ⟨b2, o2, none⟩) m2 d2, .int .u32 (last : Int)])] p C1 E1 ∧ StI B P n k C2 C1 r ∧ E1.length ≤ 1000 + 100 * k + r) (fun rv _ => P - (intOf rv).toNat)
              case atStart => exact ⟨0, Nat.zero_le _, rfl, C2, E2, U1.out, StI.start _ _ _ _ _, hel⟩
              case round =>
                obtain ⟨r', hr, rfl, C3, E3, hu3, hst, hel3⟩ := hrel
                clear y0 y1 y2 y3
                have z0 := (hu3.blk (List.mem_singleton.2 rfl)).cell 0
                have z1 := (hu3.blk (List.mem_singleton.2 rfl)).cell 1
                have z2 := (hu3.blk (List.mem_singleton.2 rfl)).cell 2
                simp only [List.getElem?_toArray, List.getElem?_cons_succ, List.getElem?_cons_zero] at z0 z1 z2
                have U3 := Lib.hid hu3
                have HST := Lib.hid hst
                have hCl : C3.length = 3 * q + P := by rw [hst.1, HS1.out.1, hq]
                obtain ⟨a1, a2⟩ := (HARG.out _ hu3.old).1 k (by omega)
                clear hu3 hst U1
                by_cases hrP : r' < P
                · obtain ⟨x, hx⟩ : ∃ x, B.getD k 0 = x := ⟨_, rfl⟩
                  have hxb : x ≤ 65535 := by rw [← hx]; exact HB.out _
                  have HBIT := Lib.hid (stv_bit B k r' (HB.out _) (by omega))
                  rw [hx] at a1 HBIT
                  clear hx
                  have HVAL := Lib.hid (stv_eq x r' k hxb (by omega))
                  go_wp2_with fail
                  rw [HVAL.out]
                  refine Calls.mono (R := fun e w' => e = .returned (.int .i64 0) ∧ One w w' [(b, 39, #[.int .i64 (P : Int), .slice (some ⟨b1, o1, none⟩) m1 d1, .slice (some ⟨b2, o2, none⟩) m2 d2, .int .u32 (last : Int)])] p (C3.set (3 * (n * P) + r') (BitVec.ofNat 64 (x / 2 ^ r' % 2 + 2 * k))) (E3 ++ [(2, 3 * (n * P) + r')])) (by
                    have := U3.out.call (fun w F ha => store_ok ha (3 * (q : Int) + (r' : Int)) (BitVec.ofNat 64 (x / 2 ^ r' % 2 + 2 * k)) (by omega) (by omega) (by omega))
                    rw [show (3 * (q : Int) + (r' : Int)).toNat = 3 * (n * P) + r' by rw [hq]; omega] at this
                    exact this) ?_
                  rintro e w5 ⟨rfl, h5⟩
                  have U5 := Lib.hid h5
                  clear h5 z0 z1 z2 U3 a1 a2
                  go_wp2_with fail
                  go_roundw
                  have MARK := True.intro
                  case rel => exact ⟨r' + 1, by omega, by go_num, _, _, U5.out, HST.out.put HS1.out.1 hrP _ HBIT.out, by rw [List.length_append, List.length_singleton]; omega⟩
                  case measure => simp [intOf]; omega
                · obtain rfl : r' = P := by omega
                  have HFI : Hid (∀ (w : World) (F : Nat → Prop), Ar w F p C3 E3 → Calls Try.prog 20 #[.pointer (some ⟨p, 0, none⟩), .int .i64 0, .int .i64 (3 * (q : Int)), .int .i64 (r' : Int), .int .i64 (k : Int), .int .u64 (n64 (msk (R.getD k false))), .int .u64 ((lm : Int) + (k : Int) + 1)] w fun e w' => e = .returned (.int .i64 0) ∧ ArTo w F p (fiS (3 * (n * r')) (0 + 3 * r' * k) (R.getD k false) (BitVec.ofNat 64 (lm + k + 1)) (C3, E3) r').1 (fiS (3 * (n * r')) (0 + 3 * r' * k) (R.getD k false) (BitVec.ofNat 64 (lm + k + 1)) (C3, E3) r').2 w') := Lib.hid (fun w F ha => by
                    have := fill_ok ha 0 (3 * q) r' k (R.getD k false) (BitVec.ofNat 64 (lm + k + 1)) (fiE_sb _ _ q r' n k hq hn2 hP1 hP2 (by omega) hCl (by omega))
                    rw [show n64 (BitVec.ofNat 64 (lm + k + 1)) = (lm : Int) + (k : Int) + 1 by unfold n64; rw [BitVec.toNat_ofNat]; omega, show ((3 * q : Nat) : Int) = 3 * (q : Int) by push_cast; rfl] at this
                    rw [hq]
                    exact this)
                  have hstep : SbI B R lm r' n false (k + 1) (fiS (3 * (n * r')) (0 + 3 * r' * k) (R.getD k false) (BitVec.ofNat 64 (lm + k + 1)) (C3, E3) r').1 := by
                    have := SbI.step HS1.out hkn hP1 (by rw [HI.out]; exact HST.out) E3
                    rwa [HI.out] at this
                  have HSTEP := Lib.hid hstep
                  have hln := (fiS_len (3 * (n * r')) (0 + 3 * r' * k) (R.getD k false) (BitVec.ofNat 64 (lm + k + 1)) (C3, E3) r').2
                  have hln2 : (fiS (3 * (n * r')) (0 + 3 * r' * k) (R.getD k false) (BitVec.ofNat 64 (lm + k + 1)) (C3, E3) r').2.length ≤ 1000 + 100 * (k + 1) := by rw [hln]; dsimp only; omega
                  have HLN := Lib.hid hln2
                  clear hstep hln hln2 HST hCl
                  have hw1 : IntKind.u64.wrap ((lm : Int) + (k : Int) + 1) = (lm : Int) + (k : Int) + 1 := by rw [IntKind.wrap_u64]; omega
                  cases hR : R.getD k false <;> rw [hR] at a2 HFI HSTEP HLN
                  · rw [show n64 (msk false) = 0 from rfl] at HFI
                    go_wp2_with fail
                    refine (U3.out.call HFI.out).mono ?_
                    rintro e w5 ⟨rfl, h5⟩
                    have U5 := Lib.hid h5
                    clear h5 z0 z1 z2 U3 a1 a2 HFI
                    go_wp2_with fail
                    go_roundw
                    case rel => exact ⟨k + 1, by omega, by go_num, _, _, U5.out, HSTEP.out, HLN.out⟩
                    case measure => simp [intOf]; omega
                  · rw [show n64 (msk true) = 18446744073709551615 from rfl] at HFI
                    go_wp2_with fail
                    refine (U3.out.call HFI.out).mono ?_
                    rintro e w5 ⟨rfl, h5⟩
                    have U5 := Lib.hid h5
                    clear h5 z0 z1 z2 U3 a1 a2 HFI
                    go_wp2_with fail
                    go_roundw
                    case rel => exact ⟨k + 1, by omega, by go_num, _, _, U5.out, HSTEP.out, HLN.out⟩
                    case measure => simp [intOf]; omega
            · have hik : (n : Int) - 1 - (k : Int) = (i : Int) := by rw [← hi]; unfold od; rw [if_pos rfl]; omega
              have hl2 : ((last : Int) % 2 == 1) = true := by rw [decide_eq_true_iff] at hod; exact beq_iff_eq.2 (by omega)
              clear hi
              go_wp2_with fail
              go_loopw [15] (fun rv wx => ∃ r : Nat, r ≤ P ∧ rv = .int .i64 (r : Int) ∧ ∃ C1 E1, One w wx [(b, 39, #[.int .i64 (P : Int), .slice (some ⟨b1, o1, none⟩) m1 d1, .slice (some ⟨b2, o2, none⟩) m2 d2, .int .u32 (last : Int)])] p C1 E1 ∧ StI B P n i C2 C1 r ∧ E1.length ≤ 1000 + 100 * k + r) (fun rv _ => P - (intOf rv).toNat)
              case atStart => exact ⟨0, Nat.zero_le _, rfl, C2, E2, U1.out, StI.start _ _ _ _ _, hel⟩
              case round =>
                obtain ⟨r', hr, rfl, C3, E3, hu3, hst, hel3⟩ := hrel
                clear y0 y1 y2 y3
                have z0 := (hu3.blk (List.mem_singleton.2 rfl)).cell 0
                have z1 := (hu3.blk (List.mem_singleton.2 rfl)).cell 1
                have z2 := (hu3.blk (List.mem_singleton.2 rfl)).cell 2
                simp only [List.getElem?_toArray, List.getElem?_cons_succ, List.getElem?_cons_zero] at z0 z1 z2
                have U3 := Lib.hid hu3
                have HST := Lib.hid hst
                have hCl : C3.length = 3 * q + P := by rw [hst.1, HS1.out.1, hq]
                obtain ⟨a1, a2⟩ := (HARG.out _ hu3.old).1 i (by omega)
                clear hu3 hst U1
                by_cases hrP : r' < P
                · obtain ⟨x, hx⟩ : ∃ x, B.getD i 0 = x := ⟨_, rfl⟩
                  have hxb : x ≤ 65535 := by rw [← hx]; exact HB.out _
                  have HBIT := Lib.hid (stv_bit B i r' (HB.out _) (by omega))
                  rw [hx] at a1 HBIT
                  clear hx
                  have HVAL := Lib.hid (stv_eq x r' i hxb (by omega))
                  go_wp2_with fail
                  rw [HVAL.out]
                  refine Calls.mono (R := fun e w' => e = .returned (.int .i64 0) ∧ One w w' [(b, 39, #[.int .i64 (P : Int), .slice (some ⟨b1, o1, none⟩) m1 d1, .slice (some ⟨b2, o2, none⟩) m2 d2, .int .u32 (last : Int)])] p (C3.set (3 * (n * P) + r') (BitVec.ofNat 64 (x / 2 ^ r' % 2 + 2 * i))) (E3 ++ [(2, 3 * (n * P) + r')])) (by
                    have := U3.out.call (fun w F ha => store_ok ha (3 * (q : Int) + (r' : Int)) (BitVec.ofNat 64 (x / 2 ^ r' % 2 + 2 * i)) (by omega) (by omega) (by omega))
                    rw [show (3 * (q : Int) + (r' : Int)).toNat = 3 * (n * P) + r' by rw [hq]; omega] at this
                    exact this) ?_
                  rintro e w5 ⟨rfl, h5⟩
                  have U5 := Lib.hid h5
                  clear h5 z0 z1 z2 U3 a1 a2
                  go_wp2_with fail
                  go_roundw
                  have MARK := True.intro
                  case rel => exact ⟨r' + 1, by omega, by go_num, _, _, U5.out, HST.out.put HS1.out.1 hrP _ HBIT.out, by rw [List.length_append, List.length_singleton]; omega⟩
                  case measure => simp [intOf]; omega
                · obtain rfl : r' = P := by omega
                  have HFI : Hid (∀ (w : World) (F : Nat → Prop), Ar w F p C3 E3 → Calls Try.prog 20 #[.pointer (some ⟨p, 0, none⟩), .int .i64 0, .int .i64 (3 * (q : Int)), .int .i64 (r' : Int), .int .i64 (i : Int), .int .u64 (n64 (msk (R.getD i false))), .int .u64 ((lm : Int) + (i : Int) + 1)] w fun e w' => e = .returned (.int .i64 0) ∧ ArTo w F p (fiS (3 * (n * r')) (0 + 3 * r' * i) (R.getD i false) (BitVec.ofNat 64 (lm + i + 1)) (C3, E3) r').1 (fiS (3 * (n * r')) (0 + 3 * r' * i) (R.getD i false) (BitVec.ofNat 64 (lm + i + 1)) (C3, E3) r').2 w') := Lib.hid (fun w F ha => by
                    have := fill_ok ha 0 (3 * q) r' i (R.getD i false) (BitVec.ofNat 64 (lm + i + 1)) (fiE_sb _ _ q r' n i hq hn2 hP1 hP2 (by omega) hCl (by omega))
                    rw [show n64 (BitVec.ofNat 64 (lm + i + 1)) = (lm : Int) + (i : Int) + 1 by unfold n64; rw [BitVec.toNat_ofNat]; omega, show ((3 * q : Nat) : Int) = 3 * (q : Int) by push_cast; rfl] at this
                    rw [hq]
                    exact this)
                  have hstep : SbI B R lm r' n true (k + 1) (fiS (3 * (n * r')) (0 + 3 * r' * i) (R.getD i false) (BitVec.ofNat 64 (lm + i + 1)) (C3, E3) r').1 := by
                    have := SbI.step HS1.out hkn hP1 (by rw [HI.out]; exact HST.out) E3
                    rwa [HI.out] at this
                  have HSTEP := Lib.hid hstep
                  have hln := (fiS_len (3 * (n * r')) (0 + 3 * r' * i) (R.getD i false) (BitVec.ofNat 64 (lm + i + 1)) (C3, E3) r').2
                  have hln2 : (fiS (3 * (n * r')) (0 + 3 * r' * i) (R.getD i false) (BitVec.ofNat 64 (lm + i + 1)) (C3, E3) r').2.length ≤ 1000 + 100 * (k + 1) := by rw [hln]; dsimp only; omega
                  have HLN := Lib.hid hln2
                  clear hstep hln hln2 HST hCl
                  have hw1 : IntKind.u64.wrap ((lm : Int) + (i : Int) + 1) = (lm : Int) + (i : Int) + 1 := by rw [IntKind.wrap_u64]; omega
                  cases hR : R.getD i false <;> rw [hR] at a2 HFI HSTEP HLN
                  · rw [show n64 (msk false) = 0 from rfl] at HFI
                    go_wp2_with fail
                    refine (U3.out.call HFI.out).mono ?_
                    rintro e w5 ⟨rfl, h5⟩
                    have U5 := Lib.hid h5
                    clear h5 z0 z1 z2 U3 a1 a2 HFI
                    go_wp2_with fail
                    go_roundw
                    case rel => exact ⟨k + 1, by omega, by go_num, _, _, U5.out, HSTEP.out, HLN.out⟩
                    case measure => simp [intOf]; omega
                  · rw [show n64 (msk true) = 18446744073709551615 from rfl] at HFI
                    go_wp2_with fail
                    refine (U3.out.call HFI.out).mono ?_
                    rintro e w5 ⟨rfl, h5⟩
                    have U5 := Lib.hid h5
                    clear h5 z0 z1 z2 U3 a1 a2 HFI
                    go_wp2_with fail
                    go_roundw
                    case rel => exact ⟨k + 1, by omega, by go_num, _, _, U5.out, HSTEP.out, HLN.out⟩
                    case measure => simp [intOf]; omega
          · obtain rfl : n = k := by omega
            have B0 : Hid (BX w wr b 39 #[.int .i64 (P : Int), .slice (some ⟨b1, o1, none⟩) m1 d1, .slice (some ⟨b2, o2, none⟩) m2 d2, .int .u32 (last : Int)] p C2 E2 (.slice none 0 0) [] Nob) := Lib.hid (BX.start U1.out HBW.out)
            have y0 := (U1.out.blk (List.mem_singleton.2 rfl)).cell 0
            simp only [List.getElem?_toArray, List.getElem?_cons_succ, List.getElem?_cons_zero] at y0
            have hE2 : E2.length ≤ 3000 := by omega
            have HC2 : Hid (C2.length = 3 * q + P) := Lib.hid (by rw [HS1.out.1, hq])
            have HHI : Hid (hiL (rdL 0 C2 q) = wB B R lm P q) := Lib.hid (by have := SbI.hits HS1.out hP1 hP2 hn2 (by omega); rwa [hq] at this)
            have HAS : Hid (HiAsc (wB B R lm P q)) := Lib.hid (wB_asc B R lm P hP1 hP2 (by omega) q hqle).1
            clear U1 HS1 hel
            go_wp2_with fail
            go_loopw [12, 17] (fun v iv wy => ∃ i : Nat, i ≤ n ∧ iv = .int .i64 (i : Int) ∧ BX w wy b 39 #[.int .i64 (P : Int), .slice (some ⟨b1, o1, none⟩) m1 d1, .slice (some ⟨b2, o2, none⟩) m2 d2, .int .u32 (last : Int)] p C2 E2 v (wB B R lm P (P * i)) Nob) (fun _ iv _ => n - (intOf iv).toNat)
            case atStart => exact ⟨0, Nat.zero_le _, rfl, by rw [Nat.mul_zero]; exact B0.out⟩
            case round =>
              obtain ⟨i, hi, rfl, hb⟩ := hrel
              clear B0 y0
              obtain ⟨M, hM⟩ : ∃ M, wB B R lm P (P * i) = M := ⟨_, rfl⟩
              rw [hM] at hb
              have hMl : M.length ≤ 300 := by
                have := wB_len B R lm P (P * i)
                rw [hM] at this
                have h2 : P * i ≤ P * n := Nat.mul_le_mul_left _ hi
                have h3 : P * n = q := by rw [Nat.mul_comm]; exact hq
                omega
              obtain ⟨AV, cv, rfl⟩ := hb.sl
              have T0 := Lib.hid hb
              have HM := Lib.hid hM
              clear hM
              have y0 := hb.blk.cell 0
              simp only [List.getElem?_toArray, List.getElem?_cons_succ, List.getElem?_cons_zero] at y0
              clear hb
              by_cases hin : i < n
              · have hPi : P * i + P ≤ 256 := by
                  have h2 : P * (i + 1) ≤ P * n := Nat.mul_le_mul_left _ hin
                  have h3 : P * n = q := by rw [Nat.mul_comm]; exact hq
                  rw [Nat.mul_add, Nat.mul_one] at h2
                  omega
                go_wp2_with fail
                go_loopw [12, 18] (fun v rv wx => ∃ r : Nat, r ≤ P ∧ rv = .int .i64 (r : Int) ∧ BX w wx b 39 #[.int .i64 (P : Int), .slice (some ⟨b1, o1, none⟩) m1 d1, .slice (some ⟨b2, o2, none⟩) m2 d2, .int .u32 (last : Int)] p C2 E2 v (wB B R lm P (P * i + r)) Nob) (fun _ rv _ => P - (intOf rv).toNat)
                case atStart => exact ⟨0, Nat.zero_le _, rfl, by rw [Nat.add_zero, HM.out]; exact T0.out⟩
                case round =>
                  obtain ⟨r', hr, rfl, hb⟩ := hrel
                  clear y0 T0 HM
                  obtain ⟨M2, hM2⟩ : ∃ M, wB B R lm P (P * i + r') = M := ⟨_, rfl⟩
                  rw [hM2] at hb
                  have hMl2 : M2.length ≤ 300 := by
                    have := wB_len B R lm P (P * i + r')
                    rw [hM2] at this
                    omega
                  obtain ⟨AU, cu, rfl⟩ := hb.sl
                  have T1 := Lib.hid hb
                  have y0 := hb.blk.cell 0
                  have y1 := hb.blk.cell 1
                  have y2 := hb.blk.cell 2
                  simp only [List.getElem?_toArray, List.getElem?_cons_succ, List.getElem?_cons_zero] at y0 y1 y2
                  obtain ⟨a1, a2⟩ := (HARG.out _ hb.old).1 i hin
                  have hwz := hb.old.size
                  clear hb
                  by_cases hrP : r' < P
                  · have hat := wB_at B R lm P i r' hrP
                    unfold vB bB at hat
                    rw [hM2] at hat
                    have HM2 := Lib.hid hM2
                    clear hM2
                    obtain ⟨x, hx⟩ : ∃ x, B.getD i 0 = x := ⟨_, rfl⟩
                    have hxb : x ≤ 65535 := by rw [← hx]; exact HB.out _
                    rw [hx] at a1 hat
                    clear hx
                    have HAT := Lib.hid hat
                    clear hat
                    cases hR : R.getD i false <;> rw [hR] at a2 HAT
                    · have HN : Hid (wB B R lm P (P * i + (r' + 1)) = M2) := Lib.hid (by have := HAT.out; rwa [Bool.false_and, if_neg (by decide)] at this)
                      clear HAT hR
                      go_wp2_with fail
                      go_roundw
                      case rel => exact ⟨r' + 1, by omega, by go_num, by rw [HN.out]; exact T1.out⟩
                      case measure => simp [intOf]; omega
                    · clear hR
                      have hb16 := bit16 (x / 2 ^ r') (Nat.le_trans (Nat.div_le_self _ _) hxb)
                      rw [show ((x / 2 ^ r' : Nat) : Int) = (x : Int) / 2 ^ r' by push_cast; rfl] at hb16
                      by_cases hbt : x / 2 ^ r' % 2 = 1
                      · have HN : Hid (wB B R lm P (P * i + (r' + 1)) = M2 ++ [(((lm + i + 1 : Nat) : Int), ((r' : Nat) : Int))]) := Lib.hid (by have := HAT.out; rwa [Bool.true_and, if_pos (decide_eq_true hbt)] at this)
                        rw [hbt] at hb16
                        clear HAT hbt
                        go_wp2_with (at_builtin; refine wpList_append_own_at _ rfl _ _ 23 rfl w.heap.size 50 ih0 (.agg #[.int .i64 0, .int .i64 0]) 2 16 Try.underlying23 hI hh0 hh1 hh2 rfl (by decide) (.slice AU M2.length cu) M2.length (hiC M2) rfl (T1.out.own.alloc _) ⟨wr.heap.size, 0, none⟩ 1 1 [.int .i64 ((lm : Int) + (i : Int) + 1), .int .i64 (r' : Int)] rfl rfl ?c1 ?c2 ?c3 ?c4 ?c5 ?_)
                        case c1 => have := cell_two_new' wr (.int .i64 ((lm : Int) + (i : Int) + 1)) (.int .i64 (r' : Int)) 50; simpa using this
                        case c2 => intro u hu; simp at hu; rcases hu with rfl | rfl <;> rfl
                        case c3 => unfold maxLen; omega
                        case c4 => omega
                        case c5 => simp; omega
                        intro v' w4 hown' hgrow hnil hat
                        have T3 := (BX.more (x := ((lm : Int) + (i : Int) + 1, (r' : Int))) T1.out (Off.alloc (Off.refl _ _) _) hown' hgrow (by simpa using hat)).1
                        have T4 : Hid (BX w w4 b 39 #[.int .i64 (P : Int), .slice (some ⟨b1, o1, none⟩) m1 d1, .slice (some ⟨b2, o2, none⟩) m2 d2, .int .u32 (last : Int)] p C2 E2 v' (wB B R lm P (P * i + (r' + 1))) Nob) := Lib.hid (by rw [HN.out, show ((lm + i + 1 : Nat) : Int) = (lm : Int) + (i : Int) + 1 by push_cast; rfl]; exact T3)
                        clear T3 HN T1 hown' hgrow hnil hat y0 y1 y2 a1 a2 hb16
                        go_wp2_with fail
                        go_roundw
                        case rel => exact ⟨r' + 1, by omega, by go_num, T4.out⟩
                        case measure => simp [intOf]; omega
                      · have HN : Hid (wB B R lm P (P * i + (r' + 1)) = M2) := Lib.hid (by have := HAT.out; rwa [Bool.true_and, if_neg (by rw [decide_eq_true_iff]; exact hbt)] at this)
                        rw [show x / 2 ^ r' % 2 = 0 by omega] at hb16
                        clear HAT hbt
                        go_wp2_with fail
                        go_roundw
                        case rel => exact ⟨r' + 1, by omega, by go_num, by rw [HN.out]; exact T1.out⟩
                        case measure => simp [intOf]; omega
                  · obtain rfl : P = r' := by omega
                    have HN : Hid (wB B R lm P (P * (i + 1)) = M2) := Lib.hid (by rw [Nat.mul_add, Nat.mul_one]; exact hM2)
                    clear hM2 y1 y2 a1 a2
                    go_wp2_with fail
                    go_roundw
                    case rel => exact ⟨i + 1, by omega, by go_num, by rw [HN.out]; exact T1.out⟩
                    case measure => simp [intOf]; omega
              · obtain rfl : n = i := by omega
                have HMq : Hid (wB B R lm P q = M) := Lib.hid (by rw [← hq, Nat.mul_comm]; exact HM.out)
                rw [HMq.out] at HHI HAS
                clear HM HMq
                have hnp : (n : Int) * (P : Int) = (q : Int) := by rw [← hq]; push_cast; rfl
                go_wp2_with fail
                have MARK2 := True.intro
                refine Calls.mono (R := fun e w' => ∃ g, e = .returned (.tuple #[.slice (some ⟨g, 0, none⟩) q q, .int .i64 0]) ∧ BX w w' b 39 #[.int .i64 (P : Int), .slice (some ⟨b1, o1, none⟩) m1 d1, .slice (some ⟨b2, o2, none⟩) m2 d2, .int .u32 (last : Int)] p C2 (rdE 0 E2 q) (.slice AV M.length cv) M Nob ∧ Blk w' g 75 (slC (rdL 0 C2 q)).toArray) (by
                  have hC6 := HC2.out
                  exact T0.out.row (fun F ha => read_ok ha 0 q (ckS_ok ⟨by omega, by omega, by omega, by rw [hC6]; omega, by omega⟩))) ?_
                rintro e w7 ⟨g7, rfl, h7, k7⟩
                have T7 := Lib.hid h7
                have KB := Lib.hid k7
                clear h7 k7 T0 y0
                have HHC : Hid (Calls Try.prog 16 #[.slice (some ⟨g7, 0, none⟩) q q] w7 fun e w' => ∃ v, e = .returned v ∧ w'.ownsRow w7.heap.size 50 2 v M.length (hiC M) ∧ Off Nob w7 w') := Lib.hid (by
                  have := hits_some w7 g7 0 q q (rdL 0 C2 q) (rdL_len _ _ _) (by omega) (by omega) KB.out.lt (fun x u hu => by rw [Nat.zero_add, KB.out.cell, List.getElem?_toArray]; exact hu)
                  rwa [HHI.out] at this)
                go_wp2_with fail
                refine HHC.out.mono ?_
                rintro e w8 ⟨v8, rfl, r8, o8⟩
                have OW8 := Lib.hid r8
                have T8 := Lib.hid (T7.out.off o8)
                clear r8 o8 T7 KB HHC
                go_wp2_with fail
                refine (sorted_own OW8.out HAS.out (by omega)).mono ?_
                rintro e w9 ⟨rfl, o9⟩
                have OW9 := Lib.hid (own_to OW8.out (fun g hg => o9.block g (OW8.out.lt g hg).2 (fun h => h)))
                have T9 := Lib.hid (T8.out.off o9)
                clear o9 OW8 T8
                go_wp2_with fail
                refine (sameHi_eq (Rd.own OW9.out (F := fun _ => True) (fun _ _ => trivial)) (Rd.own T9.out.own (F := fun _ => True) (fun _ _ => trivial))).mono ?_
                rintro e w10 ⟨rfl, o10⟩
                have O10 := Lib.hid (T9.out.old.also o10)
                clear o10 OW9 T9
                go_wp2_with fail
                refine (awake_ok _).mono ?_
                rintro e w11 ⟨rfl, o11⟩
                have O11 := Lib.hid (O10.out.also o11)
                clear o11 O10
                go_wp2
                go_ret
                exact ⟨rfl, O11.out⟩
theorem sb_long (w : World) (P : Int) (A1 A2 A3 : Option Addr) (m1 m2 d1 d2 m3 d3 n : Nat) (last : Int) (hn : mnB m1 m2 = n) (hm1 : m1 ≤ maxLen) (hm2 : m2 ≤ maxLen) (hm3 : m3 ≤ maxLen) (h : (P < 1 ∨ 16 < P) ∨ (n < 1 ∨ 16 < n) ∨ 1000 < m3) :
    Calls Try.prog 4 #[.agg #[.int .i64 P, .slice A1 m1 d1, .slice A2 m2 d2, .int .u32 last], .slice A3 m3 d3] w (BoolNew true w) := by
  unfold maxLen at hm1 hm2 hm3
  have hd : decide (P < 1) = true ∨ (decide (P < 1) = false ∧ decide ((16 : Int) < P) = true) ∨ (decide (P < 1) = false ∧ decide ((16 : Int) < P) = false ∧ decide ((n : Int) < 1) = true) ∨ (decide (P < 1) = false ∧ decide ((16 : Int) < P) = false ∧ decide ((n : Int) < 1) = false ∧ decide ((16 : Int) < (n : Int)) = true) ∨ (decide (P < 1) = false ∧ decide ((16 : Int) < P) = false ∧ decide ((n : Int) < 1) = false ∧ decide ((16 : Int) < (n : Int)) = false ∧ decide ((1000 : Int) < (m3 : Int)) = true) := by
    simp only [decide_eq_true_eq, decide_eq_false_iff_not]
    omega
  clear h
  rcases hd with hd | ⟨hd, hd2⟩ | ⟨hd, hd2, hd3⟩ | ⟨hd, hd2, hd3, hd4⟩ | ⟨hd, hd2, hd3, hd4, hd5⟩
  all_goals
    go_enter Try.func4, Try.ntmps4
    go_wp2_with fail
    refine (awake_ok _).mono ?_
    rintro e w4 ⟨rfl, h4⟩
    have H4 := Lib.hid ((Off.alloc (Off.refl Nob w) _).also h4)
    clear h4
    go_wp2
    go_ret
    exact ⟨rfl, H4.out⟩
theorem slotsBlocks_walk {w : World} {P last : Int} {v1 v2 v3 : Value} {m1 m2 m3 : Nat} {zs : List Int} {R : List Bool} {Z : List (BitVec 64)} (h1 : Rd w (Old w) 1 v1 m1 (zs.map (Value.int .u16))) (hz : ∀ z ∈ zs, (Lit.int .u16 z).wf = true) (h2 : Rd w (Old w) 1 v2 m2 (boolsV R)) (hl : 0 ≤ last ∧ last < 4294967296) (h3 : Rd w (Old w) 1 v3 m3 (u64s Z)) :
    Calls Try.prog 4 #[.agg #[.int .i64 P, v1, v2, .int .u32 last], v3] w (BoolNew true w) := by
  obtain ⟨A1, d1, rfl, q1, c1⟩ := h1.form
  obtain ⟨A2, d2, rfl, q2, c2⟩ := h2.form
  obtain ⟨A3, d3, rfl, q3, c3⟩ := h3.form
  obtain ⟨n, hn⟩ : ∃ n, mnB m1 m2 = n := ⟨_, rfl⟩
  by_cases g : (P < 1 ∨ 16 < P) ∨ (n < 1 ∨ 16 < n) ∨ 1000 < m3
  · exact sb_long w P A1 A2 A3 m1 m2 d1 d2 m3 d3 n last hn q1 q2 q3 g
  · have hn1 : n ≤ m1 := by rw [← hn]; exact Nat.min_le_left _ _
    have hn2 : n ≤ m2 := by rw [← hn]; exact Nat.min_le_right _ _
    obtain ⟨P, rfl⟩ := Int.eq_ofNat_of_zero_le (show 0 ≤ P by omega)
    obtain ⟨last, rfl⟩ := Int.eq_ofNat_of_zero_le hl.1
    obtain ⟨b1, o1, rfl, hb1, cc1⟩ := c1 (by omega)
    obtain ⟨b2, o2, rfl, hb2, cc2⟩ := c2 (by omega)
    have hz2 : ∀ z ∈ zs, 0 ≤ z ∧ z ≤ 65535 := fun z h => bounds_u16 (hz z h)
    have l1 : zs.length = m1 := by obtain ⟨_, _, _, _, hl, _⟩ := h1; rw [List.length_map] at hl; omega
    have l2 : R.length = m2 := by obtain ⟨_, _, _, _, hl, _⟩ := h2; rw [boolsV, List.length_map] at hl; omega
    have l3 : Z.length = m3 := by obtain ⟨_, _, _, _, hl, _⟩ := h3; rw [u64s, List.length_map] at hl; omega
    have arg : SbArg w b1 o1 b2 o2 n m3 A3 (zs.map Int.toNat) R Z := fun W o => by
      refine ⟨fun i hi => ⟨?_, ?_⟩, fun i hi => ?_⟩
      · rw [o.cell_old hb1, cc1 i (.int .u16 (zs[i]'(by omega))) (by rw [List.getElem?_map, List.getElem?_eq_getElem (by omega)]; rfl)]
        congr 2
        rw [List.getD_eq_getElem?_getD, List.getElem?_map, List.getElem?_eq_getElem (show i < zs.length by omega)]
        have := (hz2 _ (List.getElem_mem (show i < zs.length by omega))).1
        simp
        omega
      · rw [o.cell_old hb2, cc2 i (.bool (R[i]'(by omega))) (by rw [boolsV, List.getElem?_map, List.getElem?_eq_getElem (by omega)]; rfl)]
        rw [List.getD_eq_getElem?_getD, List.getElem?_eq_getElem (show i < R.length by omega)]
        rfl
      · obtain ⟨b3, o3, rfl, hb3, cc3⟩ := c3 (by omega)
        refine ⟨b3, o3, rfl, ?_⟩
        rw [o.cell_old hb3, cc3 i (.int .u64 (n64 (Z[i]'(by omega)))) (by rw [u64s, List.getElem?_map, List.getElem?_eq_getElem (by omega)]; rfl)]
        rw [List.getD_eq_getElem?_getD, List.getElem?_eq_getElem (show i < Z.length by omega)]
        rfl
    have hB : ∀ i, (zs.map Int.toNat).getD i 0 ≤ 65535 := fun i => by
      rw [List.getD_eq_getElem?_getD, List.getElem?_map]
      cases e : zs[i]? with
      | none => simp
      | some z =>
        have := hz2 z (List.mem_of_getElem? e)
        simp
        omega
    exact sb_small w P b1 o1 b2 o2 m1 m2 d1 d2 last m3 d3 A3 (zs.map Int.toNat) R Z n hn (Lib.hid arg) (Lib.hid hB) (by omega) (by omega) (by omega) (by omega) q1 q2 (by omega) (by omega)
end Go.Proofs.Ytonkhgmfeakbcaa
