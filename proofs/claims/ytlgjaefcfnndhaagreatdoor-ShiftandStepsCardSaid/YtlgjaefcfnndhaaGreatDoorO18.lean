/-
 dragnetref02's get, with, Check, Get, Ones and Of, for any row.
-/
import Derived.Test.YtlgjaefcfnndhaaGreatDoorO14
import Derived.Test.YtlgjaefcfnndhaaGreatDoorO11
import Derived.Test.YtlgjaefcfnndhaaGreatDoorO17
import Derived.Test.YtlgjaefcfnndhaaGreatDoorO16
import Derived.Laws.Bits64b
set_option linter.unusedVariables false
set_option linter.unusedSimpArgs false
set_option maxHeartbeats 16000000
set_option maxRecDepth 100000
namespace Go.Proofs.YtlgjaefcfnndhaaGreatDoor
section
open Go.RowKit
theorem qds {L : List Nat} {q : Nat} (h : q < L.length) : (qab L)[q]? = some (.int .u64 ((L.getD q 0 : Nat) : Int)) := by
 simp [qab, gDe, gEe h]
theorem qxn {x : Nat} (hx : x < 18446744073709551616) (k : Nat) : (bits .and .u64 ((x : Int) / 2 ^ k) 1 == 1) = x.testBit k := by
 have e : ((x : Int) / 2 ^ k) = ((x / 2 ^ k : Nat) : Int) := by push_cast; rfl
 have hq : x / 2 ^ k < 18446744073709551616 := Nat.lt_of_le_of_lt (Nat.div_le_self _ _) hx
 rw [e, show (1 : Int) = ((1 : Nat) : Int) from rfl, bits_and_u64_nat _ 1 hq (by decide), Nat.and_one_is_mod, Nat.testBit_eq_decide_div_mod_eq]
 rw [Bool.eq_iff_iff, beq_iff_eq, decide_eq_true_eq]
 omega
theorem g_get (L : List Nat) (hL : ∀ x ∈ L, x < 18446744073709551616) (i : Nat) (hi : i < 64 * L.length) (hn : L.length ≤ 8) (w : World) (v : Value) (hv : Rd w (fun _ => True) 1 v L.length (qab L)) :
  Calls Tryz.prog 67 #[v, .int .i64 i] w (RetV w (.bool (bitAt L i))) := by
 obtain ⟨b, o, c, rfl, hc⟩ := hv.cellsT (by omega)
 have HB : Hid (bitAt L i = (L.getD (i / 64) 0).testBit (i % 64)) := hID rfl
 rw [HB.out]
 clear HB
 have hx64 : L.getD (i / 64) 0 < 18446744073709551616 := qbg hL _
 have c0 := hc w oRf (i / 64) _ (qds (by omega))
 have hd : ((i : Int) / 64) = ((i / 64 : Nat) : Int) := by omega
 have hm : ((i : Int) % 64) = ((i % 64 : Nat) : Int) := by omega
 have hk : i % 64 < 64 := Nat.mod_lt _ (by decide)
 have hq : i / 64 < L.length := by omega
 revert c0 hd hm hk hq hx64
 generalize L.getD (i / 64) 0 = x
 generalize i / 64 = q
 generalize i % 64 = k
 intro hx64 hq hk hm hd c0
 clear hc hv hL
 go_enter Tryz.func67, Tryz.ntmps67
 have hv : (bits .and .u64 ((x : Int) / 2 ^ k) 1 == 1) = x.testBit k := qxn hx64 k
 go_wp2_with fail
 go_ret
 exact ⟨rfl, Off.refl _ _⟩
def qf6 (L : List Nat) (i : Nat) (v : Bool) : List Nat := if bitAt L i = v then L else L.set (i / 64) (L.getD (i / 64) 0 ^^^ 2 ^ (i % 64))
theorem qio (L : List Nat) (i : Nat) : qf6 L i true = qcz L i := rfl
theorem qj6 (L : List Nat) : (qab L).length = L.length := by simp [qab]
theorem qip (L : List Nat) : ∀ v ∈ qab L, v.oneCell' = true := by
 intro v hv
 obtain ⟨x, _, rfl⟩ := List.mem_map.1 hv
 rfl
theorem qj7 (L : List Nat) (k x : Nat) : (qab L).set k (.int .u64 (x : Int)) = qab (L.set k x) := by
 unfold qab
 rw [List.map_set]
theorem qhw (L : List Nat) (hL : ∀ x ∈ L, x < 18446744073709551616) (i : Nat) (hi : i < 64 * L.length) (hn : L.length ≤ 8) (v : Bool) (w : World) (u : Value) (hu : Rd w (fun _ => True) 1 u L.length (qab L)) :
  Calls Tryz.prog 103 #[u, .int .i64 i, .bool v] w (fun e w' => ∃ u', e = .returned u' ∧ Rd w' (fun k => w.heap.size ≤ k) 1 u' L.length (qab (qf6 L i v)) ∧ Off Nob w w') := by
 obtain ⟨i_u64, h_u64, z_u64, s_u64, b_u64⟩ := info_parts Tryz.infoU64
 have hq : i / 64 < L.length := by omega
 obtain ⟨b, o, c, rfl, hc⟩ := hu.cellsT (by omega)
 have HC := hID hc
 have HU := hID hu
 have HG := hID (fun (W : World) (V : Value) (h : Rd W (fun _ => True) 1 V L.length (qab L)) => g_get L hL i hi hn W V h)
 have hx64 : L.getD (i / 64) 0 < 18446744073709551616 := qbg hL _
 have HP : Hid (qf6 L i v = if bitAt L i = v then L else L.set (i / 64) (L.getD (i / 64) 0 ^^^ 2 ^ (i % 64))) := hID rfl
 have HX : Hid ((qab L)[i / 64]? = some (.int .u64 ((L.getD (i / 64) 0 : Nat) : Int))) := hID (qds hq)
 rw [HP.out]
 have hd : ((i : Int) / 64) = ((i / 64 : Nat) : Int) := by omega
 have hm : ((i : Int) % 64) = ((i % 64 : Nat) : Int) := by omega
 have hk : i % 64 < 64 := Nat.mod_lt _ (by decide)
 have HB : Hid (bits .xor .u64 ((L.getD (i / 64) 0 : Nat) : Int) ((2 ^ (i % 64) : Nat) : Int) = ((L.getD (i / 64) 0 ^^^ 2 ^ (i % 64) : Nat) : Int)) := hID (bits_xor_u64_nat _ _ hx64 (pow64 i))
 have hp64 := pow64 i
 revert HB HX hd hm hk hq hx64 hp64
 clear HP
 generalize bitAt L i = bt at *
 generalize L.getD (i / 64) 0 = x
 generalize i / 64 = q
 generalize i % 64 = k
 generalize hP2 : 2 ^ k = p2
 intro hq hx64 HX hd hm hk HB hp64
 have hw : IntKind.u64.wrap (2 ^ k) = (p2 : Int) := by
  have hpc : ((2 : Int) ^ k) = ((2 ^ k : Nat) : Int) := by push_cast; rfl
  rw [IntKind.wrap_u64, hpc, hP2]
  exact Int.emod_eq_of_lt (Int.natCast_nonneg _) (Int.ofNat_lt.2 hp64)
 have hxor := HB.out
 obtain ⟨R, hR⟩ : ∃ R, (if bt = v then L else L.set q (x ^^^ p2)) = R := ⟨_, rfl⟩
 have HR := hID hR
 rw [hR]
 clear hc hu hP2 HB hR
 go_enter Tryz.func103, Tryz.ntmps103
 go_wp2_with (at_builtin; refine @wpList_append_lies _ _ _ _ _ _ _ rfl _ _ 23 rfl w.heap.size 71 i_u64 (.int .u64 0) 1 8 Tryz.underlying23 h_u64 z_u64 s_u64 b_u64 rfl (by decide) (.slice (some ⟨w.heap.size, 0, none⟩) 0 0) 0 [] rfl (World.ownsRow_made w #[] 0 (Nat.le_refl _) (by decide) rfl) ⟨b, o, none⟩ L.length c (qab L) rfl (by rw [qj6, Nat.mul_one]) ?c1 (qip L) (by omega) (by unfold maxLen; omega) (by omega) (oAl (Off.refl Nob w) (.cells #[] 71)).size _ rfl ?_)
 case c1 => intro j u hj; rw [qaj]; exact HC.out _ (oAl oRf _) j u hj
 intro g cap w1 oW gW hat hlt
 have OW1 : Hid (OwnL w w1 71 1 (.slice (some ⟨g, 0, none⟩) L.length cap) L.length (qab L)) := hID ⟨oW, Off.grown (oAl oRf _) gW (fun k hk => by simp [Value.ownBlock] at hk; right; omega)⟩
 clear oW gW hat hlt
 go_wp2_with fail
 refine (HG.out _ _ (HU.out.keepT OW1.out.2)).mono ?_
 rintro e w2 ⟨rfl, o1⟩
 have OW2 := hID (OW1.out.off o1)
 clear o1 OW1
 cases bt <;> cases v
 ·have HV : Hid (R = L) := hID (by rw [← HR.out]; rfl)
  go_wp2_with fail
  go_ret
  exact ⟨_, rfl, by rw [HV.out]; exact Rd.own OW2.out.1 (fun k hk => (OW2.out.1.lt k hk).1), OW2.out.2⟩
 ·have HV : Hid (R = L.set q (x ^^^ p2)) := hID (by rw [← HR.out]; rfl)
  have c0 : w2.cell? ⟨g, q, none⟩ = some (.int .u64 (x : Int)) := by
   have h2 := OW2.out.1.cellAt q (by rw [Nat.mul_one]; exact hq)
   rw [HX.out] at h2
   exact h2
  have f0 := OW2.out.1.frozenAt q
  have HS : Hid (OwnL w (w2.setCell ⟨g, q, none⟩ (.int .u64 ((x ^^^ p2 : Nat) : Int))) 71 1 (.slice (some ⟨g, 0, none⟩) L.length cap) L.length (qab (L.set q (x ^^^ p2)))) := hID ⟨by rw [← qj7]; exact (OW2.out.1.stored q _).1, OW2.out.2.put (.inr (OW2.out.1.lt g rfl).1) _⟩
  clear OW2
  go_wp2_with fail
  go_ret
  exact ⟨_, rfl, by rw [HV.out]; exact Rd.own HS.out.1 (fun k hk => (HS.out.1.lt k hk).1), HS.out.2⟩
 ·have HV : Hid (R = L.set q (x ^^^ p2)) := hID (by rw [← HR.out]; rfl)
  have c0 : w2.cell? ⟨g, q, none⟩ = some (.int .u64 (x : Int)) := by
   have h2 := OW2.out.1.cellAt q (by rw [Nat.mul_one]; exact hq)
   rw [HX.out] at h2
   exact h2
  have f0 := OW2.out.1.frozenAt q
  have HS : Hid (OwnL w (w2.setCell ⟨g, q, none⟩ (.int .u64 ((x ^^^ p2 : Nat) : Int))) 71 1 (.slice (some ⟨g, 0, none⟩) L.length cap) L.length (qab (L.set q (x ^^^ p2)))) := hID ⟨by rw [← qj7]; exact (OW2.out.1.stored q _).1, OW2.out.2.put (.inr (OW2.out.1.lt g rfl).1) _⟩
  clear OW2
  go_wp2_with fail
  go_ret
  exact ⟨_, rfl, by rw [HV.out]; exact Rd.own HS.out.1 (fun k hk => (HS.out.1.lt k hk).1), HS.out.2⟩
 ·have HV : Hid (R = L) := hID (by rw [← HR.out]; rfl)
  go_wp2_with fail
  go_ret
  exact ⟨_, rfl, by rw [HV.out]; exact Rd.own OW2.out.1 (fun k hk => (OW2.out.1.lt k hk).1), OW2.out.2⟩
theorem qf7 (a : Option Addr) (n c : Nat) (h1 : 1 ≤ n) (h2 : n ≤ 8) (w : World) : Calls Tryz.prog 66 #[.slice a n c] w fun e w' => e = .returned (.int .i64 0) ∧ w = w' := by
 have d0 : ((n : Int) == 0) = false := by simp; omega
 have d1 : decide ((8 : Int) < (n : Int)) = false := dcF
 go_enter Tryz.func66, Tryz.ntmps66
 go_wp2_with fail
 go_ret
 exact ⟨rfl, rfl⟩
theorem g_Get (L : List Nat) (hL : ∀ x ∈ L, x < 18446744073709551616) (i : Nat) (hi : i < 64 * L.length) (hn : L.length ≤ 8) (w : World) (v : Value) (hv : Rd w (fun _ => True) 1 v L.length (qab L)) :
  Calls Tryz.prog 36 #[v, .int .i64 i] w (RetV w (.tuple #[.bool (bitAt L i), .int .i64 0])) := by
 have h0 : 1 ≤ L.length := by omega
 have HG := hID (g_get L hL i hi hn w v hv)
 obtain ⟨A, c, rfl, _⟩ := hv.form
 have d0 : decide ((i : Int) < 0) = false := dcF
 have d1 : decide (64 * (L.length : Int) ≤ (i : Int)) = false := dcF
 generalize bitAt L i = bt at *
 clear hv hL
 go_enter Tryz.func36, Tryz.ntmps36
 go_wp2_with fail
 refine (qf7 _ _ _ h0 hn _).mono ?_
 rintro e w1 ⟨rfl, rfl⟩
 go_wp2_with fail
 refine HG.out.mono ?_
 rintro e w1 ⟨rfl, o1⟩
 go_wp2_with fail
 go_ret2
 exact ⟨rfl, o1⟩
def qc0 (L : List Nat) (k : Nat) : List Nat := (List.range k).filter (bitAt L)
theorem qrc {L : List Nat} {k : Nat} (h : bitAt L k = true) : qc0 L (k + 1) = qc0 L k ++ [k] := by
 unfold qc0
 rw [List.range_succ, List.filter_append]
 simp [h]
theorem qtr {L : List Nat} {k : Nat} (h : bitAt L k = false) : qc0 L (k + 1) = qc0 L k := by
 unfold qc0
 rw [List.range_succ, List.filter_append]
 simp [h]
theorem qrd (L : List Nat) (k : Nat) : (qc0 L k).length ≤ k := by
 unfold qc0
 exact Nat.le_trans (List.length_filter_le _ _) (by simp)
def NewN (w : World) (L : List Nat) (e : Ending) (w' : World) : Prop := ∃ v, e = .returned (.tuple #[v, .int .i64 0]) ∧ OwnL w w' 3 1 v L.length (natsV L)
theorem qf8 (L : List Nat) (hL : ∀ x ∈ L, x < 18446744073709551616) (h1 : 1 ≤ L.length) (hn : L.length ≤ 8) (w : World) (v : Value) (hv : Rd w (fun _ => True) 1 v L.length (qab L)) :
  Calls Tryz.prog 46 #[v] w (NewN w (onesN L)) := by
 obtain ⟨i0, hi, hz0, hz1, hz2⟩ := info_parts Tryz.infoOn
 have HV := hID hv
 obtain ⟨A, c, rfl, _⟩ := hv.form
 have HG := hID (fun (i : Nat) (hi : i < 64 * L.length) (W : World) (o : Off Nob w W) => g_get L hL i hi hn W _ (HV.out.keepT o))
 have HE : Hid (onesN L = qc0 L (64 * L.length)) := hID rfl
 clear hv hL
 go_enter Tryz.func46, Tryz.ntmps46
 go_wp2_with fail
 refine (qf7 _ _ _ h1 hn _).mono ?_
 rintro e w1 ⟨rfl, rfl⟩
 go_wp2_with fail
 go_loopw [5, 6] (fun v i wr => ∃ k : Nat, k ≤ 64 * L.length ∧ i = .int .i64 (k : Int) ∧ OwnL w wr 3 1 v (qc0 L k).length (natsV (qc0 L k))) (fun _ i _ => 64 * L.length - (intOf i).toNat)
 case atStart => exact ⟨0, Nat.zero_le _, rfl, OwnL.nilAt oRf _ _⟩
 case round =>
  obtain ⟨k, hk, rfl, oW⟩ := hrel
  obtain ⟨AA, cc, rfl⟩ := oW.form
  have HO := hID oW
  clear oW
  by_cases hlt : k < 64 * L.length
  ·have d1 : decide ((k : Int) < 64 * (L.length : Int)) = true := dcT
   have hl := qrd L k
   go_wp2_with fail
   refine (HG.out k hlt _ HO.out.2).mono ?_
   rintro e w1 ⟨rfl, o1⟩
   have O1 := hID (HO.out.off o1)
   clear o1 HO
   cases hbt : bitAt L k
   ·have HX := hID (qtr hbt)
    clear hbt
    go_wp2_with fail
    go_roundw
    case rel => exact ⟨k + 1, hlt, by go_num, by rw [HX.out]; exact O1.out⟩
    case measure => simp [intOf]; omega
   ·have HX := hID (qrc hbt)
    obtain ⟨M, hM⟩ : ∃ M, qc0 L k = M := ⟨_, rfl⟩
    rw [hM] at hl O1 HX ⊢
    clear hbt hM
    obtain ⟨q, hq⟩ : ∃ q, M.length = q := ⟨_, rfl⟩
    have HQ := hID hq
    rw [hq] at hl O1 ⊢
    clear hq
    go_wp2_with (at_builtin; refine wpList_append_own_at _ rfl _ _ 22 rfl w.heap.size 3 i0 (.int .i64 0) 1 8 Tryz.underlying22 hi hz0 hz1 hz2 rfl (by decide) (.slice AA q cc) q (natsV M) rfl (O1.out.1.alloc _) ⟨w1.heap.size, 0, none⟩ 1 1 [.int .i64 (k : Int)] rfl rfl ?c1 ?c2 ?c3 ?c4 ?c5 ?_)
    case c1 => exact qb0 _ _ _
    case c2 => intro u hu; simp at hu; subst hu; rfl
    case c3 => unfold maxLen; omega
    case c4 => omega
    case c5 => have := O1.out.2.size; simp; omega
    intro v' w4 hown' gW hnil hat
    have O4 : Hid (OwnL w w4 3 1 v' (M ++ [k]).length (natsV (M ++ [k]))) := hID (by
     have := O1.out.grown (oAl oRf _) hown' gW
     rw [List.length_append, HQ.out, qeo]
     exact this)
    clear hown' gW hnil hat
    go_wp2_with fail
    go_roundw
    case rel => exact ⟨k + 1, hlt, by go_num, by rw [HX.out]; exact O4.out⟩
    case measure => simp [intOf]; omega
  ·obtain rfl : k = 64 * L.length := by omega
   have d1 : decide (((64 * L.length : Nat) : Int) < 64 * (L.length : Int)) = false := dcF
   go_wp2_with fail
   go_ret2
   exact ⟨_, rfl, by rw [HE.out]; exact HO.out⟩
def ofTo (W : Nat) (l : List Nat) (k : Nat) : List Nat := ofN W (l.take k)
theorem qts {W : Nat} {l : List Nat} {k : Nat} (h : k < l.length) : ofTo W l (k + 1) = qcz (ofTo W l k) (l.getD k 0) := by
 unfold ofTo ofN
 rw [List.take_succ_eq_append_getElem h, List.foldl_append, gDe, gEe h]
 rfl
theorem qgq (W : Nat) (l : List Nat) (k : Nat) : (ofTo W l k).length = W := qcm _ _
theorem qtt (W : Nat) (l : List Nat) : qab (ofTo W l 0) = List.replicate W (.int .u64 0) := by
 simp [ofTo, ofN, qab]
theorem qdz (n : Nat) : (madeCells (Value.int .u64 0).cells (n * 1)).toList = List.replicate n (.int .u64 0) := by
 rw [Nat.mul_one]
 show (madeCells #[.int .u64 0] n).toList = _
 rw [toList_madeCells_one]
theorem g_of (W : Nat) (h1 : 1 ≤ W) (hW : W ≤ 8) (l : List Nat) (hl : ∀ i ∈ l, i < 64 * W) (hn : l.length ≤ 4096) (w : World) (v : Value) (hv : Rd w (fun _ => True) 1 v l.length (natsV l)) :
  Calls Tryz.prog 71 #[.int .i64 W, v] w (fun e w' => ∃ u, e = .returned (.tuple #[u, .int .i64 0]) ∧ Rd w' (fun k => w.heap.size ≤ k) 1 u W (qab (ofN W l)) ∧ Off Nob w w') := by
 obtain ⟨i0, hi, hz0, hz1, hz2⟩ := info_parts Tryz.infoU64
 obtain ⟨A, c, rfl, _, hcell⟩ := hv.form
 have HC : Hid (∀ W', Off Nob w W' → ∀ k, k < l.length → ∃ b o, A = some ⟨b, o, none⟩ ∧ W'.cell? ⟨b, o + k, none⟩ = some (.int .i64 ((l.getD k 0 : Nat) : Int))) := hID (fun W' o k hk => by
  obtain ⟨b, q, rfl, hlt, hc⟩ := hcell (by omega)
  refine ⟨b, q, rfl, ?_⟩
  rw [o.cell_old hlt]
  exact hc k _ (qcq hk))
 have HL := hID (fun k (hk : k < l.length) => hl (l.getD k 0) (by rw [gDe, gEe hk]; exact List.getElem_mem hk))
 have HE : Hid (ofN W l = ofTo W l l.length) := hID (by unfold ofTo; rw [List.take_length])
 rw [HE.out]
 clear hv hcell hl HE
 have d1 : decide ((W : Int) < 1) = false := dcF
 have d2 : decide ((8 : Int) < (W : Int)) = false := dcF
 go_enter Tryz.func71, Tryz.ntmps71
 go_wp2_with (at_make; refine wpList_make_full _ rfl _ _ 23 rfl w.heap.size 71 i0 (.int .u64 0) 1 Tryz.underlying23 hi hz0 hz1 .i64 .i64 _ _ W rfl rfl rfl rfl (by rw [hz2]; omega) (by unfold maxLen; omega) (Nat.le_refl _) ?_; intro w1 oW gW)
 rw [qdz] at oW
 have X1 : Hid (Rd w1 (fun k => w.heap.size ≤ k) 1 (.slice (some ⟨w.heap.size, 0, none⟩) W W) W (qab (ofTo W l 0)) ∧ Off Nob w w1) := hID ⟨by rw [qtt]; exact Rd.own oW (fun k hk => (oW.lt k hk).1), Off.grown oRf gW (fun k hk => by cases hk)⟩
 clear oW gW
 go_wp2_with fail
 go_loopw [6, 7] (fun v i wr => ∃ k : Nat, k ≤ l.length ∧ i = .int .i64 (k : Int) ∧ Rd wr (fun k => w.heap.size ≤ k) 1 v W (qab (ofTo W l k)) ∧ Off Nob w wr) (fun _ i _ => l.length - (intOf i).toNat)
 case atStart => exact ⟨0, Nat.zero_le _, rfl, X1.out⟩
 case round =>
  obtain ⟨k, hk, rfl, hr, ho⟩ := hrel
  obtain ⟨AA, cc, rfl, _⟩ := hr.form
  have HR := hID (And.intro hr ho)
  clear hr ho X1
  by_cases hlt : k < l.length
  ·have hx := HL.out k hlt
   have HS := hID (qts (W := W) hlt)
   obtain ⟨b, o, rfl, c0⟩ := HC.out wr HR.out.2 k hlt
   revert hx c0 HS
   generalize l.getD k 0 = x
   intro hx HS c0
   have d3 : decide ((k : Int) < (l.length : Int)) = true := dcT
   have d4 : decide ((x : Int) < 0) = false := dcF
   have d5 : decide (64 * (W : Int) ≤ (x : Int)) = false := dcF
   have hW8 : W ≤ 8 := hW
   have HW := hID (fun (u : Value) (hu : Rd wr (fun _ => True) 1 u W (qab (ofTo W l k))) => by
    have h := qhw (ofTo W l k) (qhq _ _) x (by rw [qgq]; exact hx) (by rw [qgq]; exact hW8) true wr u (by rw [qgq]; exact hu)
    rw [qgq, qio] at h
    exact h)
   go_wp2_with fail
   refine (HW.out _ HR.out.1.any).mono ?_
   rintro e w2 ⟨u, rfl, hr, o1⟩
   obtain ⟨A2, c2, rfl, _⟩ := hr.form
   have HR2 : Hid (Rd w2 (fun k => w.heap.size ≤ k) 1 (.slice A2 W c2) W (qab (ofTo W l (k + 1))) ∧ Off Nob w w2) := hID ⟨by rw [HS.out]; exact Rd.mono hr (fun j hj => Nat.le_trans HR.out.2.size hj), HR.out.2.also o1⟩
   clear hr o1 HW HR
   go_wp2_with fail
   go_roundw
   case rel => exact ⟨k + 1, hlt, by go_num, HR2.out⟩
   case measure => simp [intOf]; omega
  ·obtain rfl : k = l.length := by omega
   have d3 : decide ((l.length : Int) < (l.length : Int)) = false := dcF
   go_wp2_with fail
   go_ret2
   exact ⟨_, rfl, HR.out⟩
end
section
open Go.RowKit
def rowTo (W : Nat) (f : Nat → Bool) (k : Nat) : List Nat := ofN W ((List.range k).filter f)
def rowOf (W : Nat) (f : Nat → Bool) : List Nat := rowTo W f (64 * W)
theorem qa6 (W : Nat) (f : Nat → Bool) (k : Nat) : (rowTo W f k).length = W := qcm _ _
theorem qgr (W : Nat) (f : Nat → Bool) (k : Nat) : ∀ x ∈ rowTo W f k, x < 18446744073709551616 := qhq _ _
theorem qdb (W : Nat) (f : Nat → Bool) : (rowOf W f).length = W := qcm _ _
theorem qgs (W : Nat) (f : Nat → Bool) : ∀ x ∈ rowOf W f, x < 18446744073709551616 := qhq _ _
theorem qlg {W k : Nat} (f : Nat → Bool) (hk : k ≤ 64 * W) (i : Nat) : bitAt (rowTo W f k) i = (decide (i < k) && f i) := by
 unfold rowTo
 rw [qex (fun j hj => by have := List.mem_range.1 (List.mem_filter.1 hj).1; omega), Bool.eq_iff_iff, decide_eq_true_eq, List.mem_filter, List.mem_range, Bool.and_eq_true, decide_eq_true_eq]
theorem qee {W : Nat} (f : Nat → Bool) (i : Nat) : bitAt (rowOf W f) i = (decide (i < 64 * W) && f i) := qlg f (Nat.le_refl _) i
theorem qeq {W k : Nat} (f : Nat → Bool) (hk : k < 64 * W) : rowTo W f (k + 1) = qf6 (rowTo W f k) k (f k) := by
 cases h : f k
 ·unfold qf6
  rw [qlg f (Nat.le_of_lt hk), if_pos (by rw [h, Bool.and_false])]
  unfold rowTo
  rw [List.range_succ, List.filter_append]
  simp [h]
 ·rw [qio]
  unfold rowTo ofN
  rw [List.range_succ, List.filter_append]
  simp [h]
theorem qgt (W : Nat) (f : Nat → Bool) : qab (rowTo W f 0) = List.replicate W (.int .u64 0) := by
 simp [rowTo, ofN, qab]
def NewW (W : Nat) (L : List Nat) (w : World) (e : Ending) (w' : World) : Prop := ∃ u, e = .returned (.tuple #[u, .int .i64 0]) ∧ Rd w' (fun k => w.heap.size ≤ k) 1 u W (qab L) ∧ Off Nob w w'
theorem g_two (A B : Option Addr) (n c d : Nat) (h1 : 1 ≤ n) (h2 : n ≤ 8) (w : World) : Calls Tryz.prog 111 #[.slice A n c, .slice B n d] w fun e w' => e = .returned (.int .i64 0) ∧ w = w' := by
 go_enter Tryz.func111, Tryz.ntmps111
 go_wp2_with fail
 refine (qf7 _ _ _ h1 h2 _).mono ?_
 rintro e w1 ⟨rfl, rfl⟩
 go_wp2_with fail
 refine (qf7 _ _ _ h1 h2 _).mono ?_
 rintro e w1 ⟨rfl, rfl⟩
 go_wp2_with fail
 go_ret
 exact ⟨rfl, rfl⟩
theorem g_and (W : Nat) (L M : List Nat) (hL : ∀ x ∈ L, x < 18446744073709551616) (hM : ∀ x ∈ M, x < 18446744073709551616) (h1 : 1 ≤ W) (hn : W ≤ 8) (hll : L.length = W) (hml : M.length = W) (w : World) (v u : Value) (hv : Rd w (fun _ => True) 1 v W (qab L)) (hu : Rd w (fun _ => True) 1 u W (qab M)) :
  Calls Tryz.prog 84 #[v, u] w (NewW W (rowOf W (fun i => bitAt L i && bitAt M i)) w) := by
 obtain ⟨i0, hi, hz0, hz1, hz2⟩ := info_parts Tryz.infoU64
 have HV := hID hv
 have HU := hID hu
 obtain ⟨A, ca, rfl, _⟩ := hv.form
 obtain ⟨B, cb, rfl, _⟩ := hu.form
 have HG := hID (fun (i : Nat) (hi : i < 64 * W) (V : World) (o : Off Nob w V) => g_get L hL i (by rw [hll]; exact hi) (by rw [hll]; exact hn) V _ (by rw [hll]; exact HV.out.keepT o))
 have HG2 := hID (fun (i : Nat) (hi : i < 64 * W) (V : World) (o : Off Nob w V) => g_get M hM i (by rw [hml]; exact hi) (by rw [hml]; exact hn) V _ (by rw [hml]; exact HU.out.keepT o))
 obtain ⟨f, hf⟩ : ∃ f : Nat → Bool, (fun i => bitAt L i && bitAt M i) = f := ⟨_, rfl⟩
 have HF := hID (fun k => (congrFun hf k).symm)
 rw [hf]
 have HE : Hid (rowOf W f = rowTo W f (64 * W)) := hID rfl
 rw [HE.out]
 clear hv hu hL hM hf HE hml hll
 go_enter Tryz.func84, Tryz.ntmps84
 go_wp2_with fail
 refine (g_two _ _ _ _ _ h1 hn _).mono ?_
 rintro e w1 ⟨rfl, rfl⟩
 go_wp2_with (at_make; refine wpList_make_full _ rfl _ _ 23 rfl w.heap.size 71 i0 (.int .u64 0) 1 Tryz.underlying23 hi hz0 hz1 .i64 .i64 _ _ W rfl rfl rfl rfl (by rw [hz2]; omega) (by unfold maxLen; omega) (Nat.le_refl _) ?_; intro w1 oW gW)
 rw [qdz] at oW
 have X1 : Hid (Rd w1 (fun k => w.heap.size ≤ k) 1 (.slice (some ⟨w.heap.size, 0, none⟩) W W) W (qab (rowTo W f 0)) ∧ Off Nob w w1) := hID ⟨by rw [qgt]; exact Rd.own oW (fun k hk => (oW.lt k hk).1), Off.grown oRf gW (fun k hk => by cases hk)⟩
 clear oW gW
 go_wp2_with fail
 go_loopw [7, 8] (fun v i wr => ∃ k : Nat, k ≤ 64 * W ∧ i = .int .i64 (k : Int) ∧ Rd wr (fun k => w.heap.size ≤ k) 1 v W (qab (rowTo W f k)) ∧ Off Nob w wr) (fun _ i _ => 64 * W - (intOf i).toNat)
 case atStart => exact ⟨0, Nat.zero_le _, rfl, X1.out⟩
 case round =>
  obtain ⟨k, hk, rfl, hr, ho⟩ := hrel
  obtain ⟨AA, cc, rfl, _⟩ := hr.form
  have HR := hID (And.intro hr ho)
  clear hr ho X1
  by_cases hlt : k < 64 * W
  ·have d3 : decide ((k : Int) < 64 * (W : Int)) = true := dcT
   have HS := hID (qeq (W := W) f hlt)
   have HW := hID (fun (V : World) (o : Off Nob wr V) (t : Bool) => by
    have h := qhw (rowTo W f k) (qgr _ _ _) k (by rw [qa6]; exact hlt) (by rw [qa6]; exact hn) t V (.slice AA W cc) (by rw [qa6]; exact HR.out.1.any.keepT o)
    rw [qa6] at h
    exact h)
   have HGA := hID (HG.out k hlt)
   have HGB := hID (HG2.out k hlt)
   have HFK := hID (HF.out k)
   revert HGA HGB HFK
   generalize bitAt L k = ba
   generalize bitAt M k = bb
   intro HGA HGB HFK
   cases ba
   case false =>
    go_wp2_with fail
    refine (HGA.out _ HR.out.2).mono ?_
    rintro e w2 ⟨rfl, o1⟩
    have Y1 := hID o1
    clear o1
    go_wp2_with fail
    refine (HW.out _ Y1.out _).mono ?_
    rintro e w3 ⟨u, rfl, hr, o1⟩
    obtain ⟨A2, c2, rfl, _⟩ := hr.form
    have HR2 : Hid (Rd w3 (fun k => w.heap.size ≤ k) 1 (.slice A2 W c2) W (qab (rowTo W f (k + 1))) ∧ Off Nob w w3) := hID ⟨by rw [HS.out, HFK.out]; exact Rd.mono hr (fun j hj => Nat.le_trans (HR.out.2.also Y1.out).size hj), (HR.out.2.also Y1.out).also o1⟩
    clear hr o1 HW HR Y1 HGA HGB
    go_wp2_with fail
    go_roundw
    case rel => exact ⟨k + 1, hlt, by go_num, HR2.out⟩
    case measure => simp [intOf]; omega
   case true =>
    go_wp2_with fail
    refine (HGA.out _ HR.out.2).mono ?_
    rintro e w2 ⟨rfl, o1⟩
    have Y1 := hID o1
    clear o1
    go_wp2_with fail
    refine (HGB.out _ (HR.out.2.also Y1.out)).mono ?_
    rintro e w2' ⟨rfl, o1⟩
    have Y2 := hID (Y1.out.also o1)
    clear o1 Y1
    go_wp2_with fail
    refine (HW.out _ Y2.out _).mono ?_
    rintro e w3 ⟨u, rfl, hr, o1⟩
    obtain ⟨A2, c2, rfl, _⟩ := hr.form
    have HR2 : Hid (Rd w3 (fun k => w.heap.size ≤ k) 1 (.slice A2 W c2) W (qab (rowTo W f (k + 1))) ∧ Off Nob w w3) := hID ⟨by rw [HS.out, HFK.out]; exact Rd.mono hr (fun j hj => Nat.le_trans (HR.out.2.also Y2.out).size hj), (HR.out.2.also Y2.out).also o1⟩
    clear hr o1 HW HR Y2 HGA HGB
    go_wp2_with fail
    go_roundw
    case rel => exact ⟨k + 1, hlt, by go_num, HR2.out⟩
    case measure => simp [intOf]; omega
  ·obtain rfl : k = 64 * W := by omega
   have d3 : decide (64 * (W : Int) < 64 * (W : Int)) = false := dcF
   go_wp2_with fail
   go_ret2
   exact ⟨_, rfl, HR.out⟩
theorem g_or (W : Nat) (L M : List Nat) (hL : ∀ x ∈ L, x < 18446744073709551616) (hM : ∀ x ∈ M, x < 18446744073709551616) (h1 : 1 ≤ W) (hn : W ≤ 8) (hll : L.length = W) (hml : M.length = W) (w : World) (v u : Value) (hv : Rd w (fun _ => True) 1 v W (qab L)) (hu : Rd w (fun _ => True) 1 u W (qab M)) :
  Calls Tryz.prog 83 #[v, u] w (NewW W (rowOf W (fun i => bitAt L i || bitAt M i)) w) := by
 obtain ⟨i0, hi, hz0, hz1, hz2⟩ := info_parts Tryz.infoU64
 have HV := hID hv
 have HU := hID hu
 obtain ⟨A, ca, rfl, _⟩ := hv.form
 obtain ⟨B, cb, rfl, _⟩ := hu.form
 have HG := hID (fun (i : Nat) (hi : i < 64 * W) (V : World) (o : Off Nob w V) => g_get L hL i (by rw [hll]; exact hi) (by rw [hll]; exact hn) V _ (by rw [hll]; exact HV.out.keepT o))
 have HG2 := hID (fun (i : Nat) (hi : i < 64 * W) (V : World) (o : Off Nob w V) => g_get M hM i (by rw [hml]; exact hi) (by rw [hml]; exact hn) V _ (by rw [hml]; exact HU.out.keepT o))
 obtain ⟨f, hf⟩ : ∃ f : Nat → Bool, (fun i => bitAt L i || bitAt M i) = f := ⟨_, rfl⟩
 have HF := hID (fun k => (congrFun hf k).symm)
 rw [hf]
 have HE : Hid (rowOf W f = rowTo W f (64 * W)) := hID rfl
 rw [HE.out]
 clear hv hu hL hM hf HE hml hll
 go_enter Tryz.func83, Tryz.ntmps83
 go_wp2_with fail
 refine (g_two _ _ _ _ _ h1 hn _).mono ?_
 rintro e w1 ⟨rfl, rfl⟩
 go_wp2_with (at_make; refine wpList_make_full _ rfl _ _ 23 rfl w.heap.size 71 i0 (.int .u64 0) 1 Tryz.underlying23 hi hz0 hz1 .i64 .i64 _ _ W rfl rfl rfl rfl (by rw [hz2]; omega) (by unfold maxLen; omega) (Nat.le_refl _) ?_; intro w1 oW gW)
 rw [qdz] at oW
 have X1 : Hid (Rd w1 (fun k => w.heap.size ≤ k) 1 (.slice (some ⟨w.heap.size, 0, none⟩) W W) W (qab (rowTo W f 0)) ∧ Off Nob w w1) := hID ⟨by rw [qgt]; exact Rd.own oW (fun k hk => (oW.lt k hk).1), Off.grown oRf gW (fun k hk => by cases hk)⟩
 clear oW gW
 go_wp2_with fail
 go_loopw [7, 8] (fun v i wr => ∃ k : Nat, k ≤ 64 * W ∧ i = .int .i64 (k : Int) ∧ Rd wr (fun k => w.heap.size ≤ k) 1 v W (qab (rowTo W f k)) ∧ Off Nob w wr) (fun _ i _ => 64 * W - (intOf i).toNat)
 case atStart => exact ⟨0, Nat.zero_le _, rfl, X1.out⟩
 case round =>
  obtain ⟨k, hk, rfl, hr, ho⟩ := hrel
  obtain ⟨AA, cc, rfl, _⟩ := hr.form
  have HR := hID (And.intro hr ho)
  clear hr ho X1
  by_cases hlt : k < 64 * W
  ·have d3 : decide ((k : Int) < 64 * (W : Int)) = true := dcT
   have HS := hID (qeq (W := W) f hlt)
   have HW := hID (fun (V : World) (o : Off Nob wr V) (t : Bool) => by
    have h := qhw (rowTo W f k) (qgr _ _ _) k (by rw [qa6]; exact hlt) (by rw [qa6]; exact hn) t V (.slice AA W cc) (by rw [qa6]; exact HR.out.1.any.keepT o)
    rw [qa6] at h
    exact h)
   have HGA := hID (HG.out k hlt)
   have HGB := hID (HG2.out k hlt)
   have HFK := hID (HF.out k)
   revert HGA HGB HFK
   generalize bitAt L k = ba
   generalize bitAt M k = bb
   intro HGA HGB HFK
   cases ba
   case true =>
    go_wp2_with fail
    refine (HGA.out _ HR.out.2).mono ?_
    rintro e w2 ⟨rfl, o1⟩
    have Y1 := hID o1
    clear o1
    go_wp2_with fail
    refine (HW.out _ Y1.out _).mono ?_
    rintro e w3 ⟨u, rfl, hr, o1⟩
    obtain ⟨A2, c2, rfl, _⟩ := hr.form
    have HR2 : Hid (Rd w3 (fun k => w.heap.size ≤ k) 1 (.slice A2 W c2) W (qab (rowTo W f (k + 1))) ∧ Off Nob w w3) := hID ⟨by rw [HS.out, HFK.out]; exact Rd.mono hr (fun j hj => Nat.le_trans (HR.out.2.also Y1.out).size hj), (HR.out.2.also Y1.out).also o1⟩
    clear hr o1 HW HR Y1 HGA HGB
    go_wp2_with fail
    go_roundw
    case rel => exact ⟨k + 1, hlt, by go_num, HR2.out⟩
    case measure => simp [intOf]; omega
   case false =>
    go_wp2_with fail
    refine (HGA.out _ HR.out.2).mono ?_
    rintro e w2 ⟨rfl, o1⟩
    have Y1 := hID o1
    clear o1
    go_wp2_with fail
    refine (HGB.out _ (HR.out.2.also Y1.out)).mono ?_
    rintro e w2' ⟨rfl, o1⟩
    have Y2 := hID (Y1.out.also o1)
    clear o1 Y1
    go_wp2_with fail
    refine (HW.out _ Y2.out _).mono ?_
    rintro e w3 ⟨u, rfl, hr, o1⟩
    obtain ⟨A2, c2, rfl, _⟩ := hr.form
    have HR2 : Hid (Rd w3 (fun k => w.heap.size ≤ k) 1 (.slice A2 W c2) W (qab (rowTo W f (k + 1))) ∧ Off Nob w w3) := hID ⟨by rw [HS.out, HFK.out]; exact Rd.mono hr (fun j hj => Nat.le_trans (HR.out.2.also Y2.out).size hj), (HR.out.2.also Y2.out).also o1⟩
    clear hr o1 HW HR Y2 HGA HGB
    go_wp2_with fail
    go_roundw
    case rel => exact ⟨k + 1, hlt, by go_num, HR2.out⟩
    case measure => simp [intOf]; omega
  ·obtain rfl : k = 64 * W := by omega
   have d3 : decide (64 * (W : Int) < 64 * (W : Int)) = false := dcF
   go_wp2_with fail
   go_ret2
   exact ⟨_, rfl, HR.out⟩
theorem qxo (W : Nat) (L : List Nat) (hL : ∀ x ∈ L, x < 18446744073709551616) (h1 : 1 ≤ W) (hn : W ≤ 8) (hll : L.length = W) (w : World) (v : Value) (hv : Rd w (fun _ => True) 1 v W (qab L)) :
  Calls Tryz.prog 82 #[v, .bool false] w (fun e w' => ∃ u, e = .returned (.tuple #[u, .bool (bitAt L (64 * W - 1)), .int .i64 0]) ∧ Rd w' (fun k => w.heap.size ≤ k) 1 u W (qab (rowOf W (fun i => decide (1 ≤ i) && bitAt L (i - 1)))) ∧ Off Nob w w') := by
 obtain ⟨i0, hi, hz0, hz1, hz2⟩ := info_parts Tryz.infoU64
 have HV := hID hv
 obtain ⟨A, ca, rfl, _⟩ := hv.form
 have HG := hID (fun (i : Nat) (hi : i < 64 * W) (V : World) (o : Off Nob w V) => g_get L hL i (by rw [hll]; exact hi) (by rw [hll]; exact hn) V _ (by rw [hll]; exact HV.out.keepT o))
 obtain ⟨f, hf⟩ : ∃ f : Nat → Bool, (fun i => decide (1 ≤ i) && bitAt L (i - 1)) = f := ⟨_, rfl⟩
 have HF := hID (fun k => (congrFun hf k).symm)
 rw [hf]
 have HE : Hid (rowOf W f = rowTo W f (64 * W)) := hID rfl
 rw [HE.out]
 have HGE := hID (HG.out (64 * W - 1) (by omega))
 revert HGE
 generalize bitAt L (64 * W - 1) = be
 intro HGE
 have HN0 : Hid (rowTo W f 1 = qf6 (rowTo W f 0) 0 false) := hID (by
  rw [qeq (W := W) f (show 0 < 64 * W by omega), HF.out 0]
  rfl)
 have HW0 := hID (fun (V : World) (u : Value) (hu : Rd V (fun _ => True) 1 u W (qab (rowTo W f 0))) => by
  have h := qhw (rowTo W f 0) (qgr _ _ _) 0 (by rw [qa6]; omega) (by rw [qa6]; exact hn) false V u (by rw [qa6]; exact hu)
  rw [qa6, ← HN0.out] at h
  exact h)
 have hsub : ((64 * W - 1 : Nat) : Int) = 64 * (W : Int) - 1 := by omega
 rw [hsub] at HGE
 clear hv hL hf HE hll
 go_enter Tryz.func82, Tryz.ntmps82
 go_wp2_with fail
 refine (qf7 _ _ _ h1 hn _).mono ?_
 rintro e w1 ⟨rfl, rfl⟩
 go_wp2_with (at_make; refine wpList_make_full _ rfl _ _ 23 rfl w.heap.size 71 i0 (.int .u64 0) 1 Tryz.underlying23 hi hz0 hz1 .i64 .i64 _ _ W rfl rfl rfl rfl (by rw [hz2]; omega) (by unfold maxLen; omega) (Nat.le_refl _) ?_; intro w1 oW gW)
 rw [qdz] at oW
 have X1 : Hid (Rd w1 (fun k => w.heap.size ≤ k) 1 (.slice (some ⟨w.heap.size, 0, none⟩) W W) W (qab (rowTo W f 0)) ∧ Off Nob w w1) := hID ⟨by rw [qgt]; exact Rd.own oW (fun k hk => (oW.lt k hk).1), Off.grown oRf gW (fun k hk => by cases hk)⟩
 clear oW gW
 go_wp2_with fail
 refine (HW0.out _ _ X1.out.1.any).mono ?_
 rintro e w2 ⟨u, rfl, hr, o1⟩
 obtain ⟨A2, c2, rfl, _⟩ := hr.form
 have X2 : Hid (Rd w2 (fun k => w.heap.size ≤ k) 1 (.slice A2 W c2) W (qab (rowTo W f 1)) ∧ Off Nob w w2) := hID ⟨Rd.mono hr (fun j hj => Nat.le_trans X1.out.2.size hj), X1.out.2.also o1⟩
 clear hr o1 X1 HW0
 go_wp2_with fail
 go_loopw [9, 10] (fun v i wr => ∃ k : Nat, 1 ≤ k ∧ k ≤ 64 * W ∧ i = .int .i64 (k : Int) ∧ Rd wr (fun k => w.heap.size ≤ k) 1 v W (qab (rowTo W f k)) ∧ Off Nob w wr) (fun _ i _ => 64 * W - (intOf i).toNat)
 case atStart => exact ⟨1, Nat.le_refl _, by omega, rfl, X2.out⟩
 case round =>
  obtain ⟨k, hk1, hk, rfl, hr, ho⟩ := hrel
  obtain ⟨AA, cc, rfl, _⟩ := hr.form
  have HR := hID (And.intro hr ho)
  clear hr ho X2
  by_cases hlt : k < 64 * W
  ·have d3 : decide ((k : Int) < 64 * (W : Int)) = true := dcT
   have HS := hID (qeq (W := W) f hlt)
   have HW := hID (fun (V : World) (o : Off Nob wr V) (t : Bool) => by
    have h := qhw (rowTo W f k) (qgr _ _ _) k (by rw [qa6]; exact hlt) (by rw [qa6]; exact hn) t V (.slice AA W cc) (by rw [qa6]; exact HR.out.1.any.keepT o)
    rw [qa6] at h
    exact h)
   have HGA := hID (HG.out (k - 1) (by omega))
   have HFK : Hid (f k = bitAt L (k - 1)) := hID (by rw [HF.out k, dT hk1, Bool.true_and])
   have hks : ((k - 1 : Nat) : Int) = (k : Int) - 1 := by omega
   rw [hks] at HGA
   clear hks
   revert HGA HFK
   generalize bitAt L (k - 1) = ba
   intro HGA HFK
   go_wp2_with fail
   refine (HGA.out _ HR.out.2).mono ?_
   rintro e w2 ⟨rfl, o1⟩
   have Y1 := hID o1
   clear o1
   go_wp2_with fail
   refine (HW.out _ Y1.out _).mono ?_
   rintro e w3 ⟨u, rfl, hr, o1⟩
   obtain ⟨A3, c3, rfl, _⟩ := hr.form
   have HR2 : Hid (Rd w3 (fun k => w.heap.size ≤ k) 1 (.slice A3 W c3) W (qab (rowTo W f (k + 1))) ∧ Off Nob w w3) := hID ⟨by rw [HS.out, HFK.out]; exact Rd.mono hr (fun j hj => Nat.le_trans (HR.out.2.also Y1.out).size hj), (HR.out.2.also Y1.out).also o1⟩
   clear hr o1 HW HR Y1 HGA
   go_wp2_with fail
   go_roundw
   case rel => exact ⟨k + 1, by omega, hlt, by go_num, HR2.out⟩
   case measure => simp [intOf]; omega
  ·obtain rfl : k = 64 * W := by omega
   have d3 : decide (64 * (W : Int) < 64 * (W : Int)) = false := dcF
   go_wp2_with fail
   refine (HGE.out _ HR.out.2).mono ?_
   rintro e w2 ⟨rfl, o1⟩
   have HR2 := hID (And.intro (HR.out.1.keep o1 (fun _ _ h => h)) (HR.out.2.also o1))
   clear o1
   go_wp2_with fail
   go_ret3
   exact ⟨_, rfl, HR2.out⟩
theorem qxp (L : List Nat) (hL : ∀ x ∈ L, x < 18446744073709551616) (h1 : 1 ≤ L.length) (hn : L.length ≤ 8) (w : World) (v : Value) (hv : Rd w (fun _ => True) 1 v L.length (qab L)) :
  Calls Tryz.prog 85 #[v] w (RetV w (.tuple #[.int .i64 (onesN L).length, .int .i64 0])) := by
 have HO := hID (qf8 L hL h1 hn w v hv)
 go_enter Tryz.func85, Tryz.ntmps85
 go_wp2_with fail
 refine HO.out.mono ?_
 rintro e w1 ⟨u, rfl, oW⟩
 obtain ⟨A, c, rfl⟩ := oW.form
 have HW := hID oW.2
 clear oW
 go_wp2_with fail
 go_ret2
 exact ⟨rfl, HW.out⟩
end
end Go.Proofs.YtlgjaefcfnndhaaGreatDoor
