/-
  The walk of dragnetlaw22.SlotsLarge.
-/
import Derived.Test.YtonkhgmfeakbcaaAwake22
import Derived.Test.YtonkhgmfeakbcaaSlLaw
import Derived.Test.YtonkhgmfeakbcaaDo22
import Derived.Deep.RegionHeld3
namespace Go.Proofs.Ytonkhgmfeakbcaa
open Go.RowKit
attribute [local go_sem] bits_and_u64 bits_or_u64 bits_xor_u64 bits_andNot_u64 wrap_u64 bv_add bv_neg bv_sub bv_mul
set_option linter.unusedVariables false
set_option maxRecDepth 100000
/-- Slot j of the law, and the first k of them. -/
def lgS (x : BitVec 64) (j : Nat) : Sl := (x * bv (j : Int), x + bv (j : Int), x ^^^ bv (j : Int))
def lgL (x : BitVec 64) (k : Nat) : List Sl := (List.range k).map (lgS x)
theorem lgL_len (x : BitVec 64) (k : Nat) : (lgL x k).length = k := by simp [lgL]
theorem lgL_succ (x : BitVec 64) (k : Nat) : slC (lgL x (k + 1)) = slC (lgL x k) ++ [.int .u64 (n64 (x * bv (k : Int))), .int .u64 (n64 (x + bv (k : Int))), .int .u64 (n64 (x ^^^ bv (k : Int)))] := by
  rw [show lgL x (k + 1) = lgL x k ++ [lgS x k] by unfold lgL; rw [List.range_succ]; simp, slC_snoc]
  rfl
theorem lgL_take (x : BitVec 64) (k n : Nat) (h : k ≤ n) : lgL x k = (lgL x n).take k := by
  unfold lgL
  rw [← List.map_take, List.take_range, Nat.min_eq_left h]
theorem slC_pre {L M : List Sl} {k : Nat} (h : L = M.take k) {j : Nat} {u : Value} (hu : (slC L)[j]? = some u) : (slC M)[j]? = some u := by
  have e : slC M = slC L ++ slC (M.drop k) := by rw [← slC_append, h, List.take_append_drop]
  rw [e, List.getElem?_append_left (List.getElem?_eq_some_iff.1 hu).1]
  exact hu
/-- 867 zeros. -/
def lgZ : List (BitVec 64) := List.replicate 867 0
theorem lgZ_len : lgZ.length = 867 := by unfold lgZ; rw [List.length_replicate]
theorem own_rd {W : World} {base n : Nat} {t : TypeId} {v : Value} {L : List Sl} (h : W.ownsRow base t 3 v n (slC L)) (hn : 0 < n) : ∃ g c cs, v = .slice (some ⟨g, 0, none⟩) n c ∧ n ≤ c ∧ base ≤ g ∧ Blk W g t cs ∧ ∀ (j : Nat) (u : Value), (slC L)[j]? = some u → cs[j]? = some u := by
  rcases h.2 with ⟨_, h2⟩ | ⟨g, cap, cur, hv, hg, hh, hc, hr⟩
  · have := h.1; rw [h2] at this; simp at this; omega
  · refine ⟨g, cap, cur, hv, hc, hg, hh, fun j u hu => ?_⟩
    obtain ⟨_, _, ht⟩ := hr
    rw [← ht] at hu
    rw [List.getElem?_take] at hu
    split at hu
    · simpa using hu
    · cases hu
section
variable {w0 w : World} {bs : Bks} {p n : Nat} {C : List (BitVec 64)} {E : List Ev} {g : Nat} {t : TypeId} {cs : Array Value} {L : List Sl}
theorem One.rdS (h : One w0 w bs p C E) (hm : (g, t, cs) ∈ bs) (hr : ∀ (j : Nat) (u : Value), (slC L)[j]? = some u → cs[j]? = some u) (hL : L.length = n) (hn : n ≤ maxLen) (c : Nat) : Rd w (fun k => k = g) 3 (.slice (some ⟨g, 0, none⟩) n c) n (slC L) :=
  ⟨_, _, rfl, hn, by rw [slC_len, hL], fun _ => ⟨g, 0, rfl, rfl, (h.blk hm).lt, fun j u hu => by rw [Nat.zero_add, (h.blk hm).cell]; exact hr j u hu⟩⟩
theorem One.write (h : One w0 w bs p C E) (hm : (g, t, cs) ∈ bs) (hr : ∀ (j : Nat) (u : Value), (slC L)[j]? = some u → cs[j]? = some u) (hL : L.length = n) (hn : n ≤ maxLen) (c : Nat) (base : Int) :
    Calls Try.prog 23 #[.pointer (some ⟨p, 0, none⟩), .int .i64 base, .slice (some ⟨g, 0, none⟩) n c] w fun e w' => e = .returned (.int .i64 (wlP C E base L).1) ∧ One w0 w' bs p (wlP C E base L).2.1 (wlP C E base L).2.2 := by
  have hR := h.rdS hm hr hL hn c
  obtain ⟨F, ha, ho, hf, hb⟩ := h
  refine (write_all ha base hR (fun k hk => by rw [hk]; exact (hb _ hm).2)).mono fun e w' ⟨he, a3, o3⟩ => ⟨he, _, a3, ho.own o3 hf, Grow.from_ hf ho.size, fun x hx => ?_⟩
  obtain ⟨g1, g2⟩ := hb x hx
  exact ⟨g1.to (o3.block _ g1.lt g2), fun h => h.elim g2 (fun h => by have := g1.lt; omega)⟩
theorem One.cellsZ (h : One w0 w bs p lgZ E) :
    Calls Try.prog 24 #[.pointer (some ⟨p, 0, none⟩)] w fun e w' => ∃ v, e = .returned v ∧ Off Nob w w' ∧ Rd w' (fun k => w.heap.size ≤ k ∧ k < w'.heap.size) 1 v 867 (u64s lgZ) := by
  obtain ⟨F, hF⟩ := h.ar
  refine (cells_ok hF).mono fun e w' ⟨v, he, hv, ho⟩ => ⟨v, he, ho, ?_⟩
  have := NewU.rd hv
  rwa [lgZ_len] at this
end
theorem zlit1 {w w' : World} {F : Nat → Prop} {v : Value} (h : Rd w F 1 v 867 (u64s lgZ)) (o : Off Nob (w.alloc (.cells (u64s lgZ).toArray 41)) w') :
    Calls Try.prog 25 #[v, .slice (some ⟨w.heap.size, 0, none⟩) 867 867] w' (BoolNew true w') := by
  have hz := Rd.lit w 41 lgZ (by rw [lgZ_len]; unfold maxLen; omega)
  rw [lgZ_len] at hz
  have := sameCells_any ((h.keep (Off.alloc (Off.refl Nob w) (.cells (u64s lgZ).toArray 41)) (fun _ _ h => h)).keep o (fun _ _ h => h)) (hz.keep o (fun _ _ h => h))
  rwa [show ∀ L, sameB L L = true from fun L => by simp [sameB]] at this
theorem zlit2 {w w' : World} {F : Nat → Prop} {v : Value} (h : Rd w' F 1 v 867 (u64s lgZ)) (o : Off Nob (w.alloc (.cells (u64s lgZ).toArray 41)) w') :
    Calls Try.prog 25 #[v, .slice (some ⟨w.heap.size, 0, none⟩) 867 867] w' (BoolNew true w') := by
  have hz := Rd.lit w 41 lgZ (by rw [lgZ_len]; unfold maxLen; omega)
  rw [lgZ_len] at hz
  have := sameCells_any h (hz.keep o (fun _ _ h => h))
  rwa [show ∀ L, sameB L L = true from fun L => by simp [sameB]] at this
/-- What the law's calls come to. -/
theorem lg_write0 (x : BitVec 64) : wlP lgZ [] 0 (lgL x 289) = (7, (lgZ, [])) := by
  have h : ckS lgZ.length ([] : List Ev).length 0 (lgL x 289).length = 7 := by rw [lgL_len, lgZ_len]; decide
  unfold wlP
  rw [h, if_neg (by decide)]
theorem lg_write1 (x : BitVec 64) : wlP lgZ [] 3 (lgL x 288) = (0, wrS 3 (sl (lgL x 288)) (lgZ, []) 288) := by
  have h : ckS lgZ.length ([] : List Ev).length 3 (lgL x 288).length = 0 := by rw [lgL_len, lgZ_len]; decide
  unfold wlP
  rw [h, if_pos rfl, lgL_len]
  rfl
theorem lgZ_zero (i : Nat) : cl lgZ i = 0#64 := by
  unfold cl lgZ
  rw [List.getD_eq_getElem?_getD, List.getElem?_replicate]
  split <;> rfl
theorem wiped_all (Z : List (BitVec 64)) (base n : Nat) (L : Nat → Sl) (E0 E : List Ev) (hn : base + 3 * n ≤ Z.length) (hz : ∀ i, cl Z i = 0#64) : (wrS base (fun _ => sl0) ((wrS base L (Z, E0) n).1, E) n).1 = Z := by
  have l1 : (wrS base L (Z, E0) n).1.length = Z.length := (wrS_len base L (Z, E0) n).1
  have e2 : ∀ i, cl (wrS base L (Z, E0) n).1 i = if base ≤ i ∧ i < base + 3 * n then slc (L ((i - base) / 3)) ((i - base) % 3) else cl Z i := fun i => cl_wrS base L (Z, E0) n i hn
  generalize (wrS base L (Z, E0) n).1 = M at l1 e2
  have l2 : (wrS base (fun _ => sl0) (M, E) n).1.length = M.length := (wrS_len base (fun _ => sl0) (M, E) n).1
  have e1 : ∀ i, cl (wrS base (fun _ => sl0) (M, E) n).1 i = if base ≤ i ∧ i < base + 3 * n then slc sl0 ((i - base) % 3) else cl M i := fun i => cl_wrS base (fun _ => sl0) (M, E) n i (by show base + 3 * n ≤ M.length; omega)
  refine cl_ext (l2.trans l1) fun i hi => ?_
  rw [e1, hz]
  split
  · unfold slc sl0
    repeat' split
    all_goals rfl
  · rename_i h
    rw [e2, if_neg h, hz]
theorem lg_wiped (L : Nat → Sl) (E : List Ev) : (wrS 3 (fun _ => sl0) ((wrS 3 L (lgZ, []) 288).1, E) 288).1 = lgZ := wiped_all lgZ 3 288 L [] E (by rw [lgZ_len]; decide) lgZ_zero
theorem made_lg : (madeCells (Value.int .u64 0).cells (867 * 1)).toList = u64s lgZ := by
  rw [Nat.mul_one]
  show (madeCells #[.int .u64 0] 867).toList = _
  rw [toList_madeCells_one]
  unfold lgZ u64s
  rw [List.map_replicate]
  rfl
theorem lg_make (w : World) : (Instr.makeSlice 40 (.int .i64 867) (.int .i64 867)).run Try.prog w = .ok (.slice (some ⟨w.heap.size, 0, none⟩) 867 867) (w.alloc (.cells (u64s lgZ).toArray 41)) := by
  obtain ⟨iu, hI, hz0, hz1, hz2⟩ := info_parts Try.infoU22
  have := run_makeSlice (P := Try.prog) (w := w) 40 41 iu _ Try.underlying40 hI hz0 .i64 .i64 867 867 (by omega) (by omega) (by rw [hz1]; omega) (by rw [hz2]; omega) (by omega)
  rw [this, hz1]
  have e : madeCells (Value.int .u64 0).cells ((867 : Int).toNat * 1) = (u64s lgZ).toArray := by
    rw [show (867 : Int).toNat * 1 = 867 * 1 from rfl, ← made_lg, Array.toArray_toList]
  rw [e]
  rfl
set_option maxHeartbeats 8000000 in
theorem slotsLarge_walk {w : World} (x : BitVec 64) : Calls Try.prog 7 #[.int .u64 (n64 x)] w (BoolNew true w) := by
  obtain ⟨is0, his, hsz0, hsz1, hsz2⟩ := info_parts Try.infoSl
  have hmk := lg_make
  go_enter Try.func7, Try.ntmps7
  go_wp2_with fail
  refine (new_ok 867 w (by decide) (by decide)).mono ?_
  rintro e w1 ⟨p, rfl, F, ha, ho, hf⟩
  have HA : Hid (Ar w1 F p lgZ []) := Lib.hid ha
  have HF := Lib.hid hf
  have HO := Lib.hid ho
  clear ha ho hf
  go_wp2_with fail
  go_loopw [5, 6] (fun v i wr => ∃ j : Nat, j ≤ 289 ∧ i = .int .i64 (j : Int) ∧ wr.ownsRow w1.heap.size 75 3 v j (slC (lgL x j)) ∧ Off Nob w1 wr) (fun _ i _ => 289 - (intOf i).toNat)
  case atStart => exact ⟨0, Nat.zero_le _, rfl, World.ownsRow_nil _ _ _ _, Off.refl _ _⟩
  case round =>
    obtain ⟨j, hj, rfl, hown, hoff⟩ := hrel
    have HR := Lib.hid hown
    have HOF := Lib.hid hoff
    by_cases hlt : j < 289
    · have hfm : ∃ A c, u5 = .slice A j c := by
        rcases hown.2 with ⟨rfl, h0⟩ | ⟨g, cap, cur, rfl, _⟩
        · have e0 : j = 0 := by have := hown.1; rw [h0] at this; simp at this; omega
          exact ⟨none, 0, by rw [e0]⟩
        · exact ⟨_, cap, rfl⟩
      obtain ⟨A, cap, rfl⟩ := hfm
      clear hown hoff
      go_wp2_with (at_builtin; refine wpList_append_own_at _ rfl _ _ 22 rfl w1.heap.size 75 is0 (.agg #[.int .u64 0, .int .u64 0, .int .u64 0]) 3 24 Try.underlying22 his hsz0 hsz1 hsz2 rfl (by decide) (.slice A j cap) j (slC (lgL x j)) rfl (HR.out.alloc _) ⟨wr.heap.size, 0, none⟩ 1 1 [.int .u64 (n64 (x * bv (j : Int))), .int .u64 (n64 (x + bv (j : Int))), .int .u64 (n64 (x ^^^ bv (j : Int)))] rfl rfl ?c1 ?c2 ?c3 ?c4 ?c5 ?_)
      case c1 => exact cell_threeR _ _ _ _ _
      case c2 => intro u hu; simp at hu; rcases hu with rfl | rfl | rfl <;> rfl
      case c3 => unfold maxLen; omega
      case c4 => omega
      case c5 => have := HOF.out.size; simp; omega
      intro v' w4 hown' hgrow hnil hat
      rw [← lgL_succ] at hown'
      have HR4 := Lib.hid hown'
      have HO4 : Hid (Off Nob w1 w4) := Lib.hid ((HOF.out.alloc _).grown hgrow (fun k hk => .inr (HR.out.lt k hk).1))
      clear hown' hgrow hnil hat
      go_wp2_with fail
      go_roundw
      case rel => exact ⟨j + 1, by omega, by go_num, HR4.out, HO4.out⟩
      case measure => simp [intOf]; omega
    · obtain rfl : j = 289 := by omega
      obtain ⟨g, c, cs, rfl, hcap, hbg, hblk, hcs⟩ := own_rd hown (by decide)
      have H1 : Hid (One w wr [(g, 75, cs)] p lgZ []) := Lib.hid ⟨F, HA.out.keep HOF.out (fun _ _ h => h), HO.out.also HOF.out, HF.out, fun y hy => by
        rw [List.mem_singleton] at hy
        rw [hy]
        exact ⟨hblk, fun hk => by have h9 := HA.out.lt _ hk; exact absurd h9 (by omega)⟩⟩
      have HC1 := Lib.hid hcs
      have HC2 : Hid (∀ (j : Nat) (u : Value), (slC (lgL x 288))[j]? = some u → cs[j]? = some u) := Lib.hid (fun j u hu => hcs j u (slC_pre (lgL_take x 288 289 (by decide)) hu))
      have hcap2 : 289 ≤ c := hcap
      have hcap3 : 288 ≤ c := by omega
      have hci : (288 : Int) ≤ (c : Int) := by omega
      have hci0 : (0 : Int) ≤ (c : Int) := by omega
      clear hown hoff HR HA HF hblk hcs hcap hbg hj hlt
      go_wp2_with fail
      refine Calls.mono (R := fun e w' => e = .returned (.int .i64 7) ∧ One w w' [(g, 75, cs)] p lgZ []) (by have := H1.out.write (List.mem_cons_self ..) HC1.out (lgL_len x 289) (by unfold maxLen; omega) c 0; rwa [lg_write0] at this) ?_
      rintro e w2 ⟨rfl, h2⟩
      have H2 := Lib.hid h2
      clear h2 H1
      go_wp2_with fail
      refine Calls.mono (R := fun e w' => e = .returned (.int .i64 0) ∧ One w w' [(g, 75, cs)] p (wrS 3 (sl (lgL x 288)) (lgZ, []) 288).1 (wrS 3 (sl (lgL x 288)) (lgZ, []) 288).2) (by have := H2.out.write (List.mem_cons_self ..) HC2.out (lgL_len x 288) (by unfold maxLen; omega) c 3; rwa [lg_write1] at this) ?_
      rintro e w3 ⟨rfl, h3⟩
      have hr1 : rdL 3 (wrS 3 (sl (lgL x 288)) (lgZ, []) 288).1 288 = lgL x 288 := by
        have := rd_wr 3 (lgZ, []) (lgL x 288) (by rw [lgL_len]; show _ ≤ lgZ.length; rw [lgZ_len]; omega)
        rwa [lgL_len] at this
      have hr2 := lg_wiped (sl (lgL x 288))
      obtain ⟨hl1, hl2⟩ := wrS_len 3 (sl (lgL x 288)) (lgZ, []) 288
      generalize (wrS 3 (sl (lgL x 288)) (lgZ, []) 288).1 = C2 at h3 hl1 hr1 hr2
      generalize (wrS 3 (sl (lgL x 288)) (lgZ, []) 288).2 = E2 at h3 hl2
      have HCL : Hid (C2.length = 867) := Lib.hid (hl1.trans lgZ_len)
      have HEL : Hid (E2.length = 864) := Lib.hid (hl2.trans rfl)
      have HR1 := Lib.hid hr1
      have HR2 := Lib.hid hr2
      have H3 := Lib.hid h3
      clear h3 hl1 hl2 hr1 hr2 H2
      go_wp2_with fail
      refine Calls.mono (R := fun e w' => ∃ g2, e = .returned (.tuple #[.slice (some ⟨g2, 0, none⟩) 288 288, .int .i64 0]) ∧ One w w' [(g2, 75, (slC (lgL x 288)).toArray), (g, 75, cs)] p C2 (rdE 3 E2 288)) (H3.out.row (fun F ha => by
        have := read_ok ha 3 288 (ckS_ok ⟨by decide, by decide, by decide, by rw [HCL.out]; decide, by rw [HEL.out]; decide⟩)
        rw [HR1.out] at this
        exact this)) ?_
      rintro e w4 ⟨g2, rfl, h4⟩
      have HEL4 : Hid ((rdE 3 E2 288).length = 1728) := Lib.hid (by rw [rdE_len, HEL.out])
      generalize rdE 3 E2 288 = E4 at h4 HEL4
      have H4 := Lib.hid h4
      clear h4 H3
      go_wp2_with fail
      refine Calls.mono (R := fun e w' => e = .returned (.tuple #[.slice none 0 0, .int .i64 7]) ∧ One w w' [(g2, 75, (slC (lgL x 288)).toArray), (g, 75, cs)] p C2 E4) (H4.out.call (fun w F ha => by
        have hk : ckS C2.length E4.length 0 289 = 7 := by rw [HCL.out, HEL4.out]; decide
        have := read_bad ha 0 289 (by rw [hk]; decide)
        rw [hk] at this
        exact this)) ?_
      rintro e w5 ⟨rfl, h5⟩
      have H5 := Lib.hid h5
      clear h5 H4
      go_wp2_with fail
      refine Calls.mono (R := fun e w' => e = .returned (.int .i64 0) ∧ One w w' [(g2, 75, (slC (lgL x 288)).toArray), (g, 75, cs)] p lgZ (wrS 3 (fun _ => sl0) (C2, E4) 288).2) (H5.out.call (fun w F ha => by
        have := wipe_ok ha 3 288 (ckS_ok ⟨by decide, by decide, by decide, by rw [HCL.out]; decide, by rw [HEL4.out]; decide⟩)
        rw [HR2.out] at this
        exact this)) ?_
      rintro e w6 ⟨rfl, h6⟩
      have H6 := Lib.hid h6
      clear h6 H5
      have RG : Hid (∀ W, Off Nob w6 W → Rd W (fun k => k = g2) 3 (.slice (some ⟨g2, 0, none⟩) 288 288) 288 (slC (lgL x 288))) := Lib.hid (fun W o => (H6.out.offR o).rdS (List.mem_cons_self ..) (fun j u hu => by simpa using hu) (lgL_len x 288) (by unfold maxLen; omega) 288)
      have RL : Hid (∀ W, Off Nob w6 W → Rd W (fun k => k = g) 3 (.slice (some ⟨g, 0, none⟩) 288 c) 288 (slC (lgL x 288))) := Lib.hid (fun W o => (H6.out.offR o).rdS (List.mem_cons_of_mem _ (List.mem_cons_self ..)) HC2.out (lgL_len x 288) (by unfold maxLen; omega) c)
      go_wp2_with fail
      go_region_held3 (fun _ => True) (trivial)
        (first
          | (go_at_call 14; refine (sameSl_eq (RG.out _ (by first | with_reducible exact Off.refl _ _ | with_reducible exact Off.drew (Off.refl _ _) | with_reducible exact Off.alloc (Off.refl _ _) _ | with_reducible exact Off.drew (Off.alloc (Off.refl _ _) _) | with_reducible exact Off.alloc (Off.drew (Off.refl _ _)) _ | with_reducible exact Off.drew (Off.alloc (Off.drew (Off.refl _ _)) _))) (RL.out _ (by first | with_reducible exact Off.refl _ _ | with_reducible exact Off.drew (Off.refl _ _) | with_reducible exact Off.alloc (Off.refl _ _) _ | with_reducible exact Off.drew (Off.alloc (Off.refl _ _) _) | with_reducible exact Off.alloc (Off.drew (Off.refl _ _)) _ | with_reducible exact Off.drew (Off.alloc (Off.drew (Off.refl _ _)) _)))).mono ?_; rintro e w7 ⟨rfl, o7⟩; have O7 : Hid (Off Nob w6 w7) := Lib.hid (Off.also (by first | with_reducible exact Off.refl _ _ | with_reducible exact Off.drew (Off.refl _ _) | with_reducible exact Off.alloc (Off.refl _ _) _ | with_reducible exact Off.drew (Off.alloc (Off.refl _ _) _) | with_reducible exact Off.alloc (Off.drew (Off.refl _ _)) _ | with_reducible exact Off.drew (Off.alloc (Off.drew (Off.refl _ _)) _)) o7); clear o7)
          | (go_at_call 24; refine (((H6.out.offR O7.out).offR (by first | with_reducible exact Off.refl _ _ | with_reducible exact Off.drew (Off.refl _ _) | with_reducible exact Off.alloc (Off.refl _ _) _ | with_reducible exact Off.drew (Off.alloc (Off.refl _ _) _) | with_reducible exact Off.alloc (Off.drew (Off.refl _ _)) _ | with_reducible exact Off.drew (Off.alloc (Off.drew (Off.refl _ _)) _))).cellsZ).mono ?_; rintro e w8 ⟨v8, rfl, o8, hv8⟩; have OQ := Lib.hid o8; have O8 : Hid (Off Nob w6 w8) := Lib.hid (O7.out.also (Off.also (by first | with_reducible exact Off.refl _ _ | with_reducible exact Off.drew (Off.refl _ _) | with_reducible exact Off.alloc (Off.refl _ _) _ | with_reducible exact Off.drew (Off.alloc (Off.refl _ _) _) | with_reducible exact Off.alloc (Off.drew (Off.refl _ _)) _ | with_reducible exact Off.drew (Off.alloc (Off.drew (Off.refl _ _)) _)) o8)); have RV := Lib.hid hv8; clear o8 hv8)
          | (go_at_call 25; (with_reducible refine Calls.mono (zlit1 RV.out (by first | with_reducible exact Off.refl _ _ | with_reducible exact Off.drew (Off.refl _ _))) ?_); rintro e w9 ⟨rfl, o9⟩; have O9 : Hid (Off Nob w6 w9) := Lib.hid ((O8.out.also (by first | with_reducible exact Off.refl _ _ | with_reducible exact Off.drew (Off.refl _ _) | with_reducible exact Off.alloc (Off.refl _ _) _ | with_reducible exact Off.drew (Off.alloc (Off.refl _ _) _) | with_reducible exact Off.alloc (Off.drew (Off.refl _ _)) _ | with_reducible exact Off.drew (Off.alloc (Off.drew (Off.refl _ _)) _))).also o9); clear o9)
          | (go_at_call 25; (with_reducible refine Calls.mono (zlit2 RV.out OQ.out) ?_); rintro e w9 ⟨rfl, o9⟩; have O9 : Hid (Off Nob w6 w9) := Lib.hid ((O8.out.also (by first | with_reducible exact Off.refl _ _ | with_reducible exact Off.drew (Off.refl _ _) | with_reducible exact Off.alloc (Off.refl _ _) _ | with_reducible exact Off.drew (Off.alloc (Off.refl _ _) _) | with_reducible exact Off.alloc (Off.drew (Off.refl _ _)) _ | with_reducible exact Off.drew (Off.alloc (Off.drew (Off.refl _ _)) _))).also o9); clear o9)
          | (go_at_call 25; (with_reducible refine Calls.mono (zlit2 RV.out (Off.also (Off.drew (Off.refl _ _)) OQ.out)) ?_); rintro e w9 ⟨rfl, o9⟩; have O9 : Hid (Off Nob w6 w9) := Lib.hid ((O8.out.also (by first | with_reducible exact Off.refl _ _ | with_reducible exact Off.drew (Off.refl _ _) | with_reducible exact Off.alloc (Off.refl _ _) _ | with_reducible exact Off.drew (Off.alloc (Off.refl _ _) _) | with_reducible exact Off.alloc (Off.drew (Off.refl _ _)) _ | with_reducible exact Off.drew (Off.alloc (Off.drew (Off.refl _ _)) _))).also o9); clear o9)
          | (go_at_call 25; trace_state; fail)
          | (go_at_call 9; refine (awake_ok _).mono ?_; rintro e w10 ⟨rfl, o10⟩; have O10 : Hid (Off Nob w6 w10) := Lib.hid ((O9.out.also (by first | with_reducible exact Off.refl _ _ | with_reducible exact Off.drew (Off.refl _ _) | with_reducible exact Off.alloc (Off.refl _ _) _ | with_reducible exact Off.drew (Off.alloc (Off.refl _ _) _) | with_reducible exact Off.alloc (Off.drew (Off.refl _ _)) _ | with_reducible exact Off.drew (Off.alloc (Off.drew (Off.refl _ _)) _))).also o10); clear o10))
      all_goals go_wp2
      all_goals go_ret
      all_goals exact ⟨ret_bool (by simp), H6.out.oldR.also O10.out⟩
end Go.Proofs.Ytonkhgmfeakbcaa
