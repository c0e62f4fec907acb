/-
  dragnetlaw22.do: a call in both arenas.
-/
import Derived.Test.YtonkhgmfeakbcaaSlErr
import Derived.Test.YtonkhgmfeakbcaaSlErr2
import Derived.Test.YtonkhgmfeakbcaaSlOf
import Derived.Test.YtonkhgmfeakbcaaSlSame
import Derived.Test.YtonkhgmfeakbcaaPG
namespace Go.Proofs.Ytonkhgmfeakbcaa
open Go.RowKit
attribute [local go_sem] bits_and_u64 bits_or_u64 bits_xor_u64 bits_andNot_u64 wrap_u64 bv_add bv_neg bv_sub bv_mul
set_option linter.unusedVariables false
set_option maxRecDepth 100000
/-- The cells of a Call. -/
def scs (base hits n byte : Int) (m e : BitVec 64) : Array Value := #[.int .i64 base, .int .i64 hits, .int .i64 n, .int .i64 byte, .int .u64 (n64 m), .int .u64 (n64 e)]
section
variable {base hits n byte : Int} {m e : BitVec 64}
theorem scs_cells {w : World} {b : Nat} {t : TypeId} (h : Blk w b t (scs base hits n byte m e)) :
    w.cell? ⟨b, 0, none⟩ = some (.int .i64 base) ∧ w.cell? ⟨b, 1, none⟩ = some (.int .i64 hits) ∧ w.cell? ⟨b, 2, none⟩ = some (.int .i64 n) ∧ w.cell? ⟨b, 3, none⟩ = some (.int .i64 byte) ∧ w.cell? ⟨b, 4, none⟩ = some (.int .u64 (n64 m)) ∧ w.cell? ⟨b, 5, none⟩ = some (.int .u64 (n64 e)) := ⟨h.cell 0, h.cell 1, h.cell 2, h.cell 3, h.cell 4, h.cell 5⟩
theorem Pair.s6 {w0 w : World} {b : Nat} {t : TypeId} {p r : Nat} {C C' : List (BitVec 64)} {E E' : List Ev} (h : Pair w0 w b t (scs base hits n byte m e) p r C E C' E') :
    w.cell? ⟨b, 0, none⟩ = some (.int .i64 base) ∧ w.cell? ⟨b, 1, none⟩ = some (.int .i64 hits) ∧ w.cell? ⟨b, 2, none⟩ = some (.int .i64 n) ∧ w.cell? ⟨b, 3, none⟩ = some (.int .i64 byte) ∧ w.cell? ⟨b, 4, none⟩ = some (.int .u64 (n64 m)) ∧ w.cell? ⟨b, 5, none⟩ = some (.int .u64 (n64 e)) := scs_cells h.blk
theorem PR.s6 {w0 w : World} {b : Nat} {t : TypeId} {p r sz N : Nat} {C C' : List (BitVec 64)} {E E' : List Ev} {u : Value} {xs : List Value} (h : PR w0 w b t (scs base hits n byte m e) sz u N xs p r C E C' E') :
    w.cell? ⟨b, 0, none⟩ = some (.int .i64 base) ∧ w.cell? ⟨b, 1, none⟩ = some (.int .i64 hits) ∧ w.cell? ⟨b, 2, none⟩ = some (.int .i64 n) ∧ w.cell? ⟨b, 3, none⟩ = some (.int .i64 byte) ∧ w.cell? ⟨b, 4, none⟩ = some (.int .u64 (n64 m)) ∧ w.cell? ⟨b, 5, none⟩ = some (.int .u64 (n64 e)) := scs_cells h.blk
theorem Solo.s6 {w0 w : World} {b : Nat} {t : TypeId} (h : Solo w0 w b t (scs base hits n byte m e)) :
    w.cell? ⟨b, 0, none⟩ = some (.int .i64 base) ∧ w.cell? ⟨b, 1, none⟩ = some (.int .i64 hits) ∧ w.cell? ⟨b, 2, none⟩ = some (.int .i64 n) ∧ w.cell? ⟨b, 3, none⟩ = some (.int .i64 byte) ∧ w.cell? ⟨b, 4, none⟩ = some (.int .u64 (n64 m)) ∧ w.cell? ⟨b, 5, none⟩ = some (.int .u64 (n64 e)) := scs_cells h.2
end
/-- What Fill answers and leaves. -/
def fiP (C : List (BitVec 64)) (E : List Ev) (base hits n byte : Int) (m e : BitVec 64) : Int × St :=
  if fiE C.length E.length base hits n byte (isM m) = 0 then (0, fiS hits.toNat (base.toNat + 3 * n.toNat * byte.toNat) (decide (m = msk true)) e (C, E) n.toNat) else (fiE C.length E.length base hits n byte (isM m), (C, E))
/-- What Wipe answers and leaves. -/
def wiP (C : List (BitVec 64)) (E : List Ev) (base n : Int) : Int × St :=
  if ckS C.length E.length base n = 0 then (0, wrS base.toNat (fun _ => sl0) (C, E) n.toNat) else (ckS C.length E.length base n, (C, E))
/-- What Write answers and leaves. -/
def wlP (C : List (BitVec 64)) (E : List Ev) (base : Int) (L : List Sl) : Int × St :=
  if ckS C.length E.length base L.length = 0 then (0, wrS base.toNat (sl L) (C, E) L.length) else (ckS C.length E.length base L.length, (C, E))
theorem fiE_im {nC nE : Nat} {base hits p byte : Int} {im : Bool} (h : fiE nC nE base hits p byte im = 0) : im = true := (fiE_zero h).2.2.2.2.2.2.1
theorem msk_dec (b : Bool) : decide (msk b = msk true) = b := by cases b <;> decide
section
variable {w : World} {F : Nat → Prop} {p : Nat} {C : List (BitVec 64)} {E : List Ev}
theorem fill_all (ha : Ar w F p C E) (base hits n byte : Int) (m e : BitVec 64) :
    Calls Try.prog 20 #[.pointer (some ⟨p, 0, none⟩), .int .i64 base, .int .i64 hits, .int .i64 n, .int .i64 byte, .int .u64 (n64 m), .int .u64 (n64 e)] w fun e' w' => e' = .returned (.int .i64 (fiP C E base hits n byte m e).1) ∧ ArTo w F p (fiP C E base hits n byte m e).2.1 (fiP C E base hits n byte m e).2.2 w' := by
  unfold fiP
  split
  · rename_i hz
    have hm := fiE_im hz
    obtain ⟨b, rfl⟩ := isM_or hm
    rw [hm] at hz
    obtain ⟨g1, g2, g3, g4, g5, g6, -, g7, g8, g9, g10, g11, g12, g13⟩ := fiE_zero hz
    obtain ⟨base, rfl⟩ := Int.eq_ofNat_of_zero_le g5
    obtain ⟨hits, rfl⟩ := Int.eq_ofNat_of_zero_le g7
    obtain ⟨n, rfl⟩ := Int.eq_ofNat_of_zero_le (show 0 ≤ n by omega)
    obtain ⟨byte, rfl⟩ := Int.eq_ofNat_of_zero_le g3
    rw [msk_dec]
    exact fill_ok ha base hits n byte b e hz
  · rename_i hz
    exact (fill_err ha base hits n byte m e hz).mono fun e' w' ⟨h1, h⟩ => ⟨h1, (h ▸ ArTo.refl ha)⟩
theorem wipe_all (ha : Ar w F p C E) (base n : Int) :
    Calls Try.prog 31 #[.pointer (some ⟨p, 0, none⟩), .int .i64 base, .int .i64 n] w fun e' w' => e' = .returned (.int .i64 (wiP C E base n).1) ∧ ArTo w F p (wiP C E base n).2.1 (wiP C E base n).2.2 w' := by
  unfold wiP
  split
  · rename_i hz
    obtain ⟨g1, g2, g3, g4, g5⟩ := ckS_zero hz
    obtain ⟨base, rfl⟩ := Int.eq_ofNat_of_zero_le g3
    obtain ⟨n, rfl⟩ := Int.eq_ofNat_of_zero_le (show 0 ≤ n by omega)
    exact wipe_ok ha base n hz
  · rename_i hz
    exact (wipe_c (some ⟨p, 0, none⟩) base n _ hz w (fun w' o => check_any (ha.keep o (fun _ _ h => h)) base n)).mono fun e' w' ⟨h1, h⟩ => ⟨h1, ArTo.off ha h⟩
theorem read_bad (ha : Ar w F p C E) (base n : Int) (hz : ckS C.length E.length base n ≠ 0) :
    Calls Try.prog 21 #[.pointer (some ⟨p, 0, none⟩), .int .i64 base, .int .i64 n] w fun e' w' => e' = .returned (.tuple #[.slice none 0 0, .int .i64 (ckS C.length E.length base n)]) ∧ ArTo w F p C E w' :=
  (read_c (some ⟨p, 0, none⟩) base n _ hz w (fun w' o => check_any (ha.keep o (fun _ _ h => h)) base n)).mono fun e' w' ⟨h1, h⟩ => ⟨h1, ArTo.off ha h⟩
theorem write_all {G : Nat → Prop} {n : Nat} {v : Value} {L : List Sl} (ha : Ar w F p C E) (base : Int) (hr : Rd w G 3 v n (slC L)) (hG : ∀ k, G k → ¬ F k) :
    Calls Try.prog 23 #[.pointer (some ⟨p, 0, none⟩), .int .i64 base, v] w fun e' w' => e' = .returned (.int .i64 (wlP C E base L).1) ∧ ArTo w F p (wlP C E base L).2.1 (wlP C E base L).2.2 w' := by
  obtain ⟨A, c, rfl, hm, hl, hx⟩ := hr
  rw [slC_len] at hl
  have hl2 : L.length = n := by omega
  unfold wlP
  rw [hl2]
  split
  · rename_i hz
    obtain ⟨g1, g2, g3, g4, g5⟩ := ckS_zero hz
    obtain ⟨base, rfl⟩ := Int.eq_ofNat_of_zero_le g3
    obtain ⟨b, o, rfl, hf, hb, hc⟩ := hx (by omega)
    exact write_ok ha base n b o c L hl2 hb (hG _ hf) hc hz
  · rename_i hz
    exact (write_c (some ⟨p, 0, none⟩) base _ A n c hm hz w (fun w' o => check_any (ha.keep o (fun _ _ h => h)) base n)).mono fun e' w' ⟨h1, h⟩ => ⟨h1, ArTo.off ha h⟩
theorem rfill_all (ha : Rf w F p C E) (base hits n byte : Int) (m e : BitVec 64) :
    Calls Try.prog 52 #[.pointer (some ⟨p, 0, none⟩), .int .i64 base, .int .i64 hits, .int .i64 n, .int .i64 byte, .int .u64 (n64 m), .int .u64 (n64 e)] w fun e' w' => e' = .returned (.int .i64 (fiP C E base hits n byte m e).1) ∧ RfTo w F p (fiP C E base hits n byte m e).2.1 (fiP C E base hits n byte m e).2.2 w' := by
  unfold fiP
  split
  · rename_i hz
    have hm := fiE_im hz
    obtain ⟨b, rfl⟩ := isM_or hm
    rw [hm] at hz
    obtain ⟨g1, g2, g3, g4, g5, g6, -, g7, g8, g9, g10, g11, g12, g13⟩ := fiE_zero hz
    obtain ⟨base, rfl⟩ := Int.eq_ofNat_of_zero_le g5
    obtain ⟨hits, rfl⟩ := Int.eq_ofNat_of_zero_le g7
    obtain ⟨n, rfl⟩ := Int.eq_ofNat_of_zero_le (show 0 ≤ n by omega)
    obtain ⟨byte, rfl⟩ := Int.eq_ofNat_of_zero_le g3
    rw [msk_dec]
    exact rfill_ok ha base hits n byte b e hz
  · rename_i hz
    exact (rfill_err ha base hits n byte m e hz).mono fun e' w' ⟨h1, h⟩ => ⟨h1, (h ▸ RfTo.refl ha)⟩
theorem rwipe_all (ha : Rf w F p C E) (base n : Int) (hn : -9223372036854775808 ≤ n ∧ n ≤ 9223372036854775807) :
    Calls Try.prog 53 #[.pointer (some ⟨p, 0, none⟩), .int .i64 base, .int .i64 n] w fun e' w' => e' = .returned (.int .i64 (wiP C E base n).1) ∧ RfTo w F p (wiP C E base n).2.1 (wiP C E base n).2.2 w' := by
  unfold wiP
  split
  · rename_i hz
    obtain ⟨g1, g2, g3, g4, g5⟩ := ckS_zero hz
    obtain ⟨base, rfl⟩ := Int.eq_ofNat_of_zero_le g3
    obtain ⟨n, rfl⟩ := Int.eq_ofNat_of_zero_le (show 0 ≤ n by omega)
    exact rwipe_ok ha base n hz
  · rename_i hz
    exact (rwipe_c (some ⟨p, 0, none⟩) base n _ hz hn w (fun w' o => rrow_any (ha.keep o (fun _ _ h => h)) base n)).mono fun e' w' ⟨h1, h⟩ => ⟨h1, RfTo.off ha h⟩
theorem rread_bad (ha : Rf w F p C E) (base n : Int) (hz : ckS C.length E.length base n ≠ 0) :
    Calls Try.prog 54 #[.pointer (some ⟨p, 0, none⟩), .int .i64 base, .int .i64 n] w fun e' w' => e' = .returned (.tuple #[.slice none 0 0, .int .i64 (ckS C.length E.length base n)]) ∧ RfTo w F p C E w' :=
  (rread_c (some ⟨p, 0, none⟩) base n _ hz w (fun w' o => rrow_any (ha.keep o (fun _ _ h => h)) base n)).mono fun e' w' ⟨h1, h⟩ => ⟨h1, RfTo.off ha h⟩
theorem rwrite_all {G : Nat → Prop} {n : Nat} {v : Value} {L : List Sl} (ha : Rf w F p C E) (base : Int) (hr : Rd w G 3 v n (slC L)) (hG : ∀ k, G k → ¬ F k) :
    Calls Try.prog 55 #[.pointer (some ⟨p, 0, none⟩), .int .i64 base, v] w fun e' w' => e' = .returned (.int .i64 (wlP C E base L).1) ∧ RfTo w F p (wlP C E base L).2.1 (wlP C E base L).2.2 w' := by
  obtain ⟨A, c, rfl, hm, hl, hx⟩ := hr
  rw [slC_len] at hl
  have hl2 : L.length = n := by omega
  unfold wlP
  rw [hl2]
  split
  · rename_i hz
    obtain ⟨g1, g2, g3, g4, g5⟩ := ckS_zero hz
    obtain ⟨base, rfl⟩ := Int.eq_ofNat_of_zero_le g3
    obtain ⟨b, o, rfl, hf, hb, hc⟩ := hx (by omega)
    exact rwrite_ok ha base n b o c L hl2 hb (hG _ hf) hc hz
  · rename_i hz
    exact (rwrite_c (some ⟨p, 0, none⟩) base _ A n c hm hz w (fun w' o => rrow_any (ha.keep o (fun _ _ h => h)) base n)).mono fun e' w' ⟨h1, h⟩ => ⟨h1, RfTo.off ha h⟩
theorem rread_list (ha : Rf w F p C E) (base n : Nat) (hz : ckS C.length E.length base n = 0) :
    Calls Try.prog 54 #[.pointer (some ⟨p, 0, none⟩), .int .i64 (base : Int), .int .i64 (n : Int)] w fun e' w' => ∃ v F1, e' = .returned (.tuple #[v, .int .i64 0]) ∧ Rf w' F1 p C (rdE base E n) ∧ (∀ j, F1 j → Grow F w w' j) ∧ Off F w w' ∧ Rd w' (fun k => w.heap.size ≤ k ∧ ¬ F1 k) 3 v n (slC (rdL base C n)) :=
  (rread_ok ha base n hz).mono fun e' w' ⟨v, h1, F1, h2, h3, h4, h5, h6, h7⟩ => ⟨v, F1, h1, h2, fun j hj => (h3 j hj).elim .inl (fun h => .inr ⟨h, h2.lt j hj⟩), h4, Rd.own h6 fun g hg => ⟨(h6.lt g hg).1, h7 g hg⟩⟩
end
section
variable {w0 w : World} {p r : Nat} {C : List (BitVec 64)} {E : List Ev}
set_option maxHeartbeats 8000000 in
theorem do_0 (h : Both w0 w p r C E) (z : Int) (h0 : 0 ≤ z) (h1 : z ≤ 255) (hz : z % 4 = 0) (base hits n byte : Int) (m e : BitVec 64) :
    Calls Try.prog 33 #[.pointer (some ⟨p, 0, none⟩), .pointer (some ⟨r, 0, none⟩), .int .u8 z, .agg #[.int .i64 base, .int .i64 hits, .int .i64 n, .int .i64 byte, .int .u64 (n64 m), .int .u64 (n64 e)]] w (DoPost w0 p r) := by
  have HP := Lib.hid (h.pair 59 (scs base hits n byte m e))
  have k0 := HP.out.s6
  have hq0 : (z % 4 == 0) = true := by rw [beq_iff_eq]; omega
  clear h hz
  go_enter Try.func33, Try.ntmps33
  go_wp2_with fail
  go_region_held3 (fun w' => w'.cell? ⟨w.heap.size, 0, none⟩ = some (.int .i64 base) ∧ w'.cell? ⟨w.heap.size, 1, none⟩ = some (.int .i64 hits) ∧ w'.cell? ⟨w.heap.size, 2, none⟩ = some (.int .i64 n) ∧ w'.cell? ⟨w.heap.size, 3, none⟩ = some (.int .i64 byte) ∧ w'.cell? ⟨w.heap.size, 4, none⟩ = some (.int .u64 (n64 m)) ∧ w'.cell? ⟨w.heap.size, 5, none⟩ = some (.int .u64 (n64 e)))
    (first | with_reducible assumption | go_keep)
    (first
      | (go_at_call 20; refine (Pair.first (HP.out.off (by first | with_reducible exact Off.refl _ _ | with_reducible exact Off.drew (Off.refl _ _) | with_reducible exact Off.drewN (Off.refl _ _) _)) (fun w F ha => fill_all ha base hits n byte m e)).mono ?_; rintro e w1 ⟨rfl, h1⟩; have k1 := h1.s6; have H1 := Lib.hid h1; clear h1)
      | (go_at_call 52; refine (Pair.second (H1.out.off (by first | with_reducible exact Off.refl _ _ | with_reducible exact Off.drew (Off.refl _ _) | with_reducible exact Off.drewN (Off.refl _ _) _)) (fun w F ha => rfill_all ha base hits n byte m e)).mono ?_; rintro e w2 ⟨rfl, h2⟩; have k2 := h2.s6; have H2 := Lib.hid h2; clear h2))
  go_wp2
  go_ret
  exact ⟨ret_bool (by simp), _, _, H2.out.both⟩
set_option maxHeartbeats 8000000 in
theorem do_1 (h : Both w0 w p r C E) (z : Int) (h0 : 0 ≤ z) (h1 : z ≤ 255) (hz : z % 4 = 1) (base hits n byte : Int) (m e : BitVec 64) :
    Calls Try.prog 33 #[.pointer (some ⟨p, 0, none⟩), .pointer (some ⟨r, 0, none⟩), .int .u8 z, .agg #[.int .i64 base, .int .i64 hits, .int .i64 n, .int .i64 byte, .int .u64 (n64 m), .int .u64 (n64 e)]] w (DoPost w0 p r) := by
  have HP := Lib.hid (h.pair 59 (scs base hits n byte m e))
  have k0 := HP.out.s6
  have hq0 : (z % 4 == 0) = false := by rw [beq_eq_false_iff_ne]; omega
  have hq1 : (z % 4 == 1) = true := by rw [beq_iff_eq]; omega
  clear h hz
  go_enter Try.func33, Try.ntmps33
  go_wp2_with fail
  go_region_held3 (fun w' => w'.cell? ⟨w.heap.size, 0, none⟩ = some (.int .i64 base) ∧ w'.cell? ⟨w.heap.size, 1, none⟩ = some (.int .i64 hits) ∧ w'.cell? ⟨w.heap.size, 2, none⟩ = some (.int .i64 n) ∧ w'.cell? ⟨w.heap.size, 3, none⟩ = some (.int .i64 byte) ∧ w'.cell? ⟨w.heap.size, 4, none⟩ = some (.int .u64 (n64 m)) ∧ w'.cell? ⟨w.heap.size, 5, none⟩ = some (.int .u64 (n64 e)))
    (first | with_reducible assumption | go_keep)
    (first
      | (go_at_call 20; refine (Pair.first (HP.out.off (by first | with_reducible exact Off.refl _ _ | with_reducible exact Off.drew (Off.refl _ _) | with_reducible exact Off.drewN (Off.refl _ _) _)) (fun w F ha => fill_all ha base hits n byte m e)).mono ?_; rintro e w1 ⟨rfl, h1⟩; have k1 := h1.s6; have H1 := Lib.hid h1; clear h1)
      | (go_at_call 52; refine (Pair.second (H1.out.off (by first | with_reducible exact Off.refl _ _ | with_reducible exact Off.drew (Off.refl _ _) | with_reducible exact Off.drewN (Off.refl _ _) _)) (fun w F ha => rfill_all ha base hits n byte m e)).mono ?_; rintro e w2 ⟨rfl, h2⟩; have k2 := h2.s6; have H2 := Lib.hid h2; clear h2))
  go_wp2
  go_ret
  exact ⟨ret_bool (by simp), _, _, H2.out.both⟩
set_option maxHeartbeats 8000000 in
theorem do_2 (h : Both w0 w p r C E) (z : Int) (h0 : 0 ≤ z) (h1 : z ≤ 255) (hz : z % 4 = 2) (base hits n byte : Int) (m e : BitVec 64) (hn : -9223372036854775808 ≤ n ∧ n ≤ 9223372036854775807) :
    Calls Try.prog 33 #[.pointer (some ⟨p, 0, none⟩), .pointer (some ⟨r, 0, none⟩), .int .u8 z, .agg #[.int .i64 base, .int .i64 hits, .int .i64 n, .int .i64 byte, .int .u64 (n64 m), .int .u64 (n64 e)]] w (DoPost w0 p r) := by
  have HP := Lib.hid (h.pair 59 (scs base hits n byte m e))
  have k0 := HP.out.s6
  have hq0 : (z % 4 == 0) = false := by rw [beq_eq_false_iff_ne]; omega
  have hq1 : (z % 4 == 1) = false := by rw [beq_eq_false_iff_ne]; omega
  have hq2 : (z % 4 == 2) = true := by rw [beq_iff_eq]; omega
  clear h hz
  have HN := Lib.hid hn
  clear hn
  go_enter Try.func33, Try.ntmps33
  go_wp2_with fail
  go_region_held3 (fun w' => w'.cell? ⟨w.heap.size, 0, none⟩ = some (.int .i64 base) ∧ w'.cell? ⟨w.heap.size, 1, none⟩ = some (.int .i64 hits) ∧ w'.cell? ⟨w.heap.size, 2, none⟩ = some (.int .i64 n) ∧ w'.cell? ⟨w.heap.size, 3, none⟩ = some (.int .i64 byte) ∧ w'.cell? ⟨w.heap.size, 4, none⟩ = some (.int .u64 (n64 m)) ∧ w'.cell? ⟨w.heap.size, 5, none⟩ = some (.int .u64 (n64 e)))
    (first | with_reducible assumption | go_keep)
    (first
      | (go_at_call 31; refine (Pair.first (HP.out.off (by first | with_reducible exact Off.refl _ _ | with_reducible exact Off.drew (Off.refl _ _) | with_reducible exact Off.drewN (Off.refl _ _) _)) (fun w F ha => wipe_all ha base n)).mono ?_; rintro e w1 ⟨rfl, h1⟩; have k1 := h1.s6; have H1 := Lib.hid h1; clear h1)
      | (go_at_call 53; refine (Pair.second (H1.out.off (by first | with_reducible exact Off.refl _ _ | with_reducible exact Off.drew (Off.refl _ _) | with_reducible exact Off.drewN (Off.refl _ _) _)) (fun w F ha => rwipe_all ha base n HN.out)).mono ?_; rintro e w2 ⟨rfl, h2⟩; have k2 := h2.s6; have H2 := Lib.hid h2; clear h2))
  go_wp2
  go_ret
  exact ⟨ret_bool (by simp), _, _, H2.out.both⟩
set_option maxHeartbeats 8000000 in
theorem do_3a (h : Both w0 w p r C E) (z : Int) (h0 : 0 ≤ z) (h1 : z ≤ 255) (hz : z % 4 = 3) (base hits n byte : Int) (m e : BitVec 64) (c : Int) (hc : ckS C.length E.length base n = c) (hcz : c ≠ 0) :
    Calls Try.prog 33 #[.pointer (some ⟨p, 0, none⟩), .pointer (some ⟨r, 0, none⟩), .int .u8 z, .agg #[.int .i64 base, .int .i64 hits, .int .i64 n, .int .i64 byte, .int .u64 (n64 m), .int .u64 (n64 e)]] w (DoPost w0 p r) := by
  have HP := Lib.hid (h.pair 59 (scs base hits n byte m e))
  have k0 := HP.out.s6
  have hq0 : (z % 4 == 0) = false := by rw [beq_eq_false_iff_ne]; omega
  have hq1 : (z % 4 == 1) = false := by rw [beq_eq_false_iff_ne]; omega
  have hq2 : (z % 4 == 2) = false := by rw [beq_eq_false_iff_ne]; omega
  clear h hz
  have HC := Lib.hid hc
  have HCZ := Lib.hid hcz
  clear hc hcz
  go_enter Try.func33, Try.ntmps33
  go_wp2_with fail
  refine Calls.mono (R := fun e1 w' => e1 = .returned (.tuple #[.slice none 0 0, .int .i64 c]) ∧ Pair w0 w' w.heap.size 59 (scs base hits n byte m e) p r C E C E) (Pair.first HP.out (fun w F ha => by have := read_bad ha base n (by rw [HC.out]; exact HCZ.out); rwa [HC.out] at this)) ?_
  rintro e w1 ⟨rfl, h1⟩
  have k1 := h1.s6
  have H1 := Lib.hid h1
  clear h1 k0 HP
  go_wp2_with fail
  refine Calls.mono (R := fun e1 w' => e1 = .returned (.tuple #[.slice none 0 0, .int .i64 c]) ∧ Pair w0 w' w.heap.size 59 (scs base hits n byte m e) p r C E C E) (Pair.second H1.out (fun w F ha => by have := rread_bad ha base n (by rw [HC.out]; exact HCZ.out); rwa [HC.out] at this)) ?_
  rintro e w2 ⟨rfl, h2⟩
  have k2 := h2.s6
  have H2 := Lib.hid h2
  clear h2 k1 H1
  go_wp2_with fail
  refine (sameSl_eq (A := []) (n := 0) (Rd.nil w2 Nob 3) (Rd.nil w2 Nob 3)).mono ?_
  rintro e w3 ⟨rfl, o3⟩
  have O3 : Hid (Off Nob w2 w3) := Lib.hid o3
  clear o3
  go_wp2_with fail
  refine (hits_any (L := []) (n := 0) (Rd.nil w3 Nob 3) (by decide)).mono ?_
  rintro e w4 ⟨u4, rfl, h4, o4⟩
  have O4 : Hid (Off Nob w2 w4) := Lib.hid (O3.out.also o4)
  have U4 := Lib.hid (Rd.own h4 (F := fun _ => True) (fun _ _ => trivial))
  clear h4 o4
  go_wp2_with fail
  refine (rhits_any (L := []) (n := 0) (Rd.nil w4 Nob 3) (by decide)).mono ?_
  rintro e w5 ⟨u5, rfl, h5, o5⟩
  have O5 : Hid (Off Nob w2 w5) := Lib.hid (O4.out.also o5)
  have U45 := Lib.hid (U4.out.keep o5 (fun _ _ h => h))
  have U5 := Lib.hid (Rd.own h5 (F := fun _ => True) (fun _ _ => trivial))
  clear h5 o5 U4 O4 O3
  go_wp2_with fail
  refine (sameHi_eq U45.out U5.out).mono ?_
  rintro e w6 ⟨rfl, o6⟩
  have O6 : Hid (Off Nob w2 w6) := Lib.hid (O5.out.also o6)
  clear o6 O5 U45 U5
  have HR6 : Hid (PR w0 w6 w.heap.size 59 (scs base hits n byte m e) 3 (.slice none 0 0) 0 (slC []) p r C E C E) := Lib.hid (H2.out.pr O6.out (Rd.nil w6 _ 3))
  have k6 := HR6.out.s6
  go_wp2_with fail
  go_region_held3 (fun w' => w'.cell? ⟨w.heap.size, 0, none⟩ = some (.int .i64 base) ∧ w'.cell? ⟨w.heap.size, 1, none⟩ = some (.int .i64 hits) ∧ w'.cell? ⟨w.heap.size, 2, none⟩ = some (.int .i64 n) ∧ w'.cell? ⟨w.heap.size, 3, none⟩ = some (.int .i64 byte) ∧ w'.cell? ⟨w.heap.size, 4, none⟩ = some (.int .u64 (n64 m)) ∧ w'.cell? ⟨w.heap.size, 5, none⟩ = some (.int .u64 (n64 e)))
    (first | with_reducible assumption | go_keep)
    (first
      | (go_at_call 23; refine (PR.first (HR6.out.off (by first | with_reducible exact Off.refl _ _ | with_reducible exact Off.drew (Off.refl _ _) | with_reducible exact Off.drewN (Off.refl _ _) _)) (fun w F G ha hr hd => write_all ha hits hr hd)).mono ?_; rintro e w7 ⟨rfl, h7⟩; have k7 := h7.s6; have H7 := Lib.hid h7; clear h7)
      | (go_at_call 55; refine (PR.second (H7.out.off (by first | with_reducible exact Off.refl _ _ | with_reducible exact Off.drew (Off.refl _ _) | with_reducible exact Off.drewN (Off.refl _ _) _)) (fun w F G ha hr hd => rwrite_all ha hits hr hd)).mono ?_; rintro e w8 ⟨rfl, h8⟩; have k8 := h8.s6; have H8 := Lib.hid h8; clear h8))
  go_wp2
  go_ret
  exact ⟨ret_bool (by simp), _, _, H8.out.pair.both⟩
set_option maxHeartbeats 8000000 in
theorem do_3b (h : Both w0 w p r C E) (z : Int) (h0 : 0 ≤ z) (h1 : z ≤ 255) (hz : z % 4 = 3) (base hits n byte : Int) (m e : BitVec 64) (hc : ckS C.length E.length base n = 0) :
    Calls Try.prog 33 #[.pointer (some ⟨p, 0, none⟩), .pointer (some ⟨r, 0, none⟩), .int .u8 z, .agg #[.int .i64 base, .int .i64 hits, .int .i64 n, .int .i64 byte, .int .u64 (n64 m), .int .u64 (n64 e)]] w (DoPost w0 p r) := by
  have HP := Lib.hid (h.pair 59 (scs base hits n byte m e))
  have k0 := HP.out.s6
  have hq0 : (z % 4 == 0) = false := by rw [beq_eq_false_iff_ne]; omega
  have hq1 : (z % 4 == 1) = false := by rw [beq_eq_false_iff_ne]; omega
  have hq2 : (z % 4 == 2) = false := by rw [beq_eq_false_iff_ne]; omega
  clear h hz
  obtain ⟨g1, g2, g3, g4, g5⟩ := ckS_zero hc
  obtain ⟨bs, rfl⟩ := Int.eq_ofNat_of_zero_le g3
  obtain ⟨nn, rfl⟩ := Int.eq_ofNat_of_zero_le (show 0 ≤ n by omega)
  have HC := Lib.hid hc
  have HNN : Hid (nn ≤ 288) := Lib.hid (by omega)
  have hp : 0 < nn := by omega
  obtain ⟨L, hL⟩ : ∃ L, rdL bs C nn = L := ⟨_, rfl⟩
  have HLL : Hid (L.length = nn) := Lib.hid (by rw [← hL, rdL_len])
  have HL := Lib.hid hL
  clear hc hL g1 g2 g3 g4 g5
  go_enter Try.func33, Try.ntmps33
  go_wp2_with fail
  refine (PG.firstRow (ret := fun g => .returned (.tuple #[.slice (some ⟨g, 0, none⟩) nn nn, .int .i64 0])) (t := 75) (cs := (slC L).toArray) (C2 := C) (E2 := rdE bs E nn) HP.out.pg (fun w F ha => by have := read_ok ha bs nn HC.out; rwa [HL.out] at this)).mono ?_
  rintro e w1 ⟨g, rfl, h1, hb1, o1⟩
  have K1 := Lib.hid (HP.out.blk.keepG o1 rfl)
  have k1 := scs_cells K1.out
  have H1 := Lib.hid h1
  have B1 := Lib.hid hb1
  clear h1 hb1 o1 k0 HP
  go_wp2_with fail
  refine (PG.secondList H1.out (ret := fun v => .returned (.tuple #[v, .int .i64 0])) (sz := 3) (n := nn) (ys := slC L) (C2 := C) (E2 := rdE bs E nn) (fun w F ha => by have := rread_list ha bs nn HC.out; rwa [HL.out] at this)).mono ?_
  rintro e w2 ⟨u, H, rfl, h2, r2, o2⟩
  have K2 := Lib.hid (K1.out.keepG o2 (.inl rfl))
  have k2 := scs_cells K2.out
  have B2 := Lib.hid (B1.out.keepG o2 (.inr rfl))
  have H2 := Lib.hid h2
  have R2 := Lib.hid r2
  have RG2 : Hid (Rd w2 (fun k => k = g) 3 (.slice (some ⟨g, 0, none⟩) nn nn) nn (slC L)) := Lib.hid ⟨_, _, rfl, by have := HNN.out; unfold maxLen; omega, by rw [slC_len, HLL.out], fun _ => ⟨g, 0, rfl, rfl, B2.out.lt, fun j u hu => by rw [Nat.zero_add, B2.out.cell]; simpa using hu⟩⟩
  clear h2 o2 r2 k1 H1 K1 B1
  go_wp2_with fail
  refine (sameSl_eq RG2.out R2.out).mono ?_
  rintro e w3 ⟨rfl, o3⟩
  have O3 : Hid (Off Nob w2 w3) := Lib.hid o3
  clear o3
  go_wp2_with fail
  refine (hits_any (RG2.out.keep O3.out (fun _ _ h => h)) (by have := HNN.out; omega)).mono ?_
  rintro e w4 ⟨u4, rfl, h4, o4⟩
  have O4 : Hid (Off Nob w2 w4) := Lib.hid (O3.out.also o4)
  have U4 := Lib.hid (Rd.own h4 (F := fun _ => True) (fun _ _ => trivial))
  clear h4 o4
  go_wp2_with fail
  refine (rhits_any (RG2.out.keep O4.out (fun _ _ h => h)) (by have := HNN.out; omega)).mono ?_
  rintro e w5 ⟨u5, rfl, h5, o5⟩
  have O5 : Hid (Off Nob w2 w5) := Lib.hid (O4.out.also o5)
  have U45 := Lib.hid (U4.out.keep o5 (fun _ _ h => h))
  have U5 := Lib.hid (Rd.own h5 (F := fun _ => True) (fun _ _ => trivial))
  clear h5 o5 U4 O4 O3
  go_wp2_with fail
  refine (sameHi_eq U45.out U5.out).mono ?_
  rintro e w6 ⟨rfl, o6⟩
  have O6 : Hid (Off Nob w2 w6) := Lib.hid (O5.out.also o6)
  clear o6 O5 U45 U5
  have HR6 : Hid (PR w0 w6 w.heap.size 59 (scs bs hits nn byte m e) 3 (.slice (some ⟨g, 0, none⟩) nn nn) nn (slC L) p r C (rdE bs E nn) C (rdE bs E nn)) := Lib.hid ⟨_, H2.out.off O6.out, K2.out.to (O6.out.block _ K2.out.lt (fun h => h)), .inl (.inl rfl), (RG2.out.keep O6.out (fun _ _ h => h)).mono (fun k hk => .inl (.inr hk))⟩
  have k6 := HR6.out.s6
  go_wp2_with fail
  go_region_held3 (fun w' => w'.cell? ⟨w.heap.size, 0, none⟩ = some (.int .i64 (bs : Int)) ∧ w'.cell? ⟨w.heap.size, 1, none⟩ = some (.int .i64 hits) ∧ w'.cell? ⟨w.heap.size, 2, none⟩ = some (.int .i64 (nn : Int)) ∧ w'.cell? ⟨w.heap.size, 3, none⟩ = some (.int .i64 byte) ∧ w'.cell? ⟨w.heap.size, 4, none⟩ = some (.int .u64 (n64 m)) ∧ w'.cell? ⟨w.heap.size, 5, none⟩ = some (.int .u64 (n64 e)))
    (first | with_reducible assumption | go_keep)
    (first
      | (go_at_call 23; refine (PR.first (HR6.out.off (by first | with_reducible exact Off.refl _ _ | with_reducible exact Off.drew (Off.refl _ _) | with_reducible exact Off.drewN (Off.refl _ _) _)) (fun w F G ha hr hd => write_all ha hits hr hd)).mono ?_; rintro e w7 ⟨rfl, h7⟩; have k7 := h7.s6; have H7 := Lib.hid h7; clear h7)
      | (go_at_call 55; refine (PR.second (H7.out.off (by first | with_reducible exact Off.refl _ _ | with_reducible exact Off.drew (Off.refl _ _) | with_reducible exact Off.drewN (Off.refl _ _) _)) (fun w F G ha hr hd => rwrite_all ha hits hr hd)).mono ?_; rintro e w8 ⟨rfl, h8⟩; have k8 := h8.s6; have H8 := Lib.hid h8; clear h8))
  go_wp2
  go_ret
  exact ⟨ret_bool (by simp), _, _, H8.out.pair.both⟩
theorem do_any (h : Both w0 w p r C E) (z : Int) (h0 : 0 ≤ z) (h1 : z ≤ 255) (base hits n byte : Int) (m e : BitVec 64) (hn : -9223372036854775808 ≤ n ∧ n ≤ 9223372036854775807) :
    Calls Try.prog 33 #[.pointer (some ⟨p, 0, none⟩), .pointer (some ⟨r, 0, none⟩), .int .u8 z, .agg #[.int .i64 base, .int .i64 hits, .int .i64 n, .int .i64 byte, .int .u64 (n64 m), .int .u64 (n64 e)]] w (DoPost w0 p r) := by
  have h5 : z % 4 = 0 ∨ z % 4 = 1 ∨ z % 4 = 2 ∨ z % 4 = 3 := by omega
  rcases h5 with h5 | h5 | h5 | h5
  · exact do_0 h z h0 h1 h5 base hits n byte m e
  · exact do_1 h z h0 h1 h5 base hits n byte m e
  · exact do_2 h z h0 h1 h5 base hits n byte m e hn
  · by_cases hc : ckS C.length E.length base n = 0
    · exact do_3b h z h0 h1 h5 base hits n byte m e hc
    · exact do_3a h z h0 h1 h5 base hits n byte m e _ rfl hc
end

end Go.Proofs.Ytonkhgmfeakbcaa
