/-
 dragnetref02's get, with, Check, Get, Ones and Of, for any row.
-/
import Derived.Test.YtlgjaefcfnndhaaGreatDoorP13
import Derived.Test.YtlgjaefcfnndhaaGreatDoorP10
import Derived.Test.YtlgjaefcfnndhaaGreatDoorP16
import Derived.Test.YtlgjaefcfnndhaaGreatDoorP15
import Derived.Laws.Bits64b
set_option linter.unusedVariables false
set_option linter.unusedSimpArgs false
set_option maxHeartbeats 16000000
set_option maxRecDepth 100000
namespace Go.Proofs.YtlgjaefcfnndhaaGreatDoor
section
open Go.RowKit
theorem qdq {L : List Nat} {q : Nat} (h : q < L.length) : (qab L)[q]? = some (.int .u64 ((L.getD q 0 : Nat) : Int)) := by
 simp [qab, gDe, gEe h]
theorem qzl {x : Nat} (hx : x < 18446744073709551616) (k : Nat) : (bits .and .u64 ((x : Int) / 2 ^ k) 1 == 1) = x.testBit k := by
 have e : ((x : Int) / 2 ^ k) = ((x / 2 ^ k : Nat) : Int) := by push_cast; rfl
 have hq : x / 2 ^ k < 18446744073709551616 := Nat.lt_of_le_of_lt (Nat.div_le_self _ _) hx
 rw [e, show (1 : Int) = ((1 : Nat) : Int) from rfl, bits_and_u64_nat _ 1 hq (by decide), Nat.and_one_is_mod, Nat.testBit_eq_decide_div_mod_eq]
 rw [Bool.eq_iff_iff, beq_iff_eq, decide_eq_true_eq]
 omega
theorem g_get (L : List Nat) (hL : ∀ x ∈ L, x < 18446744073709551616) (i : Nat) (hi : i < 64 * L.length) (hn : L.length ≤ 8) (w : World) (v : Value) (hv : Rd w (fun _ => True) 1 v L.length (qab L)) :
  Calls Tryz.prog 67 #[v, .int .i64 i] w (RetV w (.bool (bitAt L i))) := by
 obtain ⟨b, o, c, rfl, hc⟩ := hv.cellsT (by omega)
 have HB : Hid (bitAt L i = (L.getD (i / 64) 0).testBit (i % 64)) := hID rfl
 rw [HB.out]
 clear HB
 have hx64 : L.getD (i / 64) 0 < 18446744073709551616 := qbp hL _
 have c0 := hc w oRf (i / 64) _ (qdq (by omega))
 have hd : ((i : Int) / 64) = ((i / 64 : Nat) : Int) := by omega
 have hm : ((i : Int) % 64) = ((i % 64 : Nat) : Int) := by omega
 have hk : i % 64 < 64 := Nat.mod_lt _ (by decide)
 have hq : i / 64 < L.length := by omega
 revert c0 hd hm hk hq hx64
 generalize L.getD (i / 64) 0 = x
 generalize i / 64 = q
 generalize i % 64 = k
 intro hx64 hq hk hm hd c0
 clear hc hv hL
 go_enter Tryz.func67, Tryz.ntmps67
 have hv : (bits .and .u64 ((x : Int) / 2 ^ k) 1 == 1) = x.testBit k := qzl hx64 k
 go_wp2_with fail
 go_ret
 exact ⟨rfl, Off.refl _ _⟩
def qn4 (L : List Nat) (i : Nat) (v : Bool) : List Nat := if bitAt L i = v then L else L.set (i / 64) (L.getD (i / 64) 0 ^^^ 2 ^ (i % 64))
theorem qpw (L : List Nat) (i : Nat) : qn4 L i true = qcx L i := rfl
theorem qsl (L : List Nat) : (qab L).length = L.length := by simp [qab]
theorem qpx (L : List Nat) : ∀ v ∈ qab L, v.oneCell' = true := by
 intro v hv
 obtain ⟨x, _, rfl⟩ := List.mem_map.1 hv
 rfl
theorem qkg (L : List Nat) (k x : Nat) : (qab L).set k (.int .u64 (x : Int)) = qab (L.set k x) := by
 unfold qab
 rw [List.map_set]
theorem q1e (L : List Nat) (hL : ∀ x ∈ L, x < 18446744073709551616) (i : Nat) (hi : i < 64 * L.length) (hn : L.length ≤ 8) (v : Bool) (w : World) (u : Value) (hu : Rd w (fun _ => True) 1 u L.length (qab L)) :
  Calls Tryz.prog 103 #[u, .int .i64 i, .bool v] w (fun e w' => ∃ u', e = .returned u' ∧ Rd w' (fun k => w.heap.size ≤ k) 1 u' L.length (qab (qn4 L i v)) ∧ Off Nob w w') := by
 obtain ⟨i_u64, h_u64, z_u64, s_u64, b_u64⟩ := info_parts Tryz.infoU64
 have hq : i / 64 < L.length := by omega
 obtain ⟨b, o, c, rfl, hc⟩ := hu.cellsT (by omega)
 have HC := hID hc
 have HU := hID hu
 have HG := hID (fun (W : World) (V : Value) (h : Rd W (fun _ => True) 1 V L.length (qab L)) => g_get L hL i hi hn W V h)
 have hx64 : L.getD (i / 64) 0 < 18446744073709551616 := qbp hL _
 have HP : Hid (qn4 L i v = if bitAt L i = v then L else L.set (i / 64) (L.getD (i / 64) 0 ^^^ 2 ^ (i % 64))) := hID rfl
 have HX : Hid ((qab L)[i / 64]? = some (.int .u64 ((L.getD (i / 64) 0 : Nat) : Int))) := hID (qdq hq)
 rw [HP.out]
 have hd : ((i : Int) / 64) = ((i / 64 : Nat) : Int) := by omega
 have hm : ((i : Int) % 64) = ((i % 64 : Nat) : Int) := by omega
 have hk : i % 64 < 64 := Nat.mod_lt _ (by decide)
 have HB : Hid (bits .xor .u64 ((L.getD (i / 64) 0 : Nat) : Int) ((2 ^ (i % 64) : Nat) : Int) = ((L.getD (i / 64) 0 ^^^ 2 ^ (i % 64) : Nat) : Int)) := hID (bits_xor_u64_nat _ _ hx64 (pow64 i))
 have hp64 := pow64 i
 revert HB HX hd hm hk hq hx64 hp64
 clear HP
 generalize bitAt L i = bt at *
 generalize L.getD (i / 64) 0 = x
 generalize i / 64 = q
 generalize i % 64 = k
 generalize hP2 : 2 ^ k = p2
 intro hq hx64 HX hd hm hk HB hp64
 have hw : IntKind.u64.wrap (2 ^ k) = (p2 : Int) := by
  have hpc : ((2 : Int) ^ k) = ((2 ^ k : Nat) : Int) := by push_cast; rfl
  rw [IntKind.wrap_u64, hpc, hP2]
  exact Int.emod_eq_of_lt (Int.natCast_nonneg _) (Int.ofNat_lt.2 hp64)
 have hxor := HB.out
 obtain ⟨R, hR⟩ : ∃ R, (if bt = v then L else L.set q (x ^^^ p2)) = R := ⟨_, rfl⟩
 have HR := hID hR
 rw [hR]
 clear hc hu hP2 HB hR
 go_enter Tryz.func103, Tryz.ntmps103
 go_wp2_with (at_builtin; refine @wpList_append_lies _ _ _ _ _ _ _ rfl _ _ 23 rfl w.heap.size 71 i_u64 (.int .u64 0) 1 8 Tryz.underlying23 h_u64 z_u64 s_u64 b_u64 rfl (by decide) (.slice (some ⟨w.heap.size, 0, none⟩) 0 0) 0 [] rfl (World.ownsRow_made w #[] 0 (Nat.le_refl _) (by decide) rfl) ⟨b, o, none⟩ L.length c (qab L) rfl (by rw [qsl, Nat.mul_one]) ?c1 (qpx L) (by omega) (by unfold maxLen; omega) (by omega) (oAl (Off.refl Nob w) (.cells #[] 71)).size _ rfl ?_)
 case c1 => intro j u hj; rw [qam]; exact HC.out _ (oAl oRf _) j u hj
 intro g cap w1 oW gW hat hlt
 have OW1 : Hid (OwnL w w1 71 1 (.slice (some ⟨g, 0, none⟩) L.length cap) L.length (qab L)) := hID ⟨oW, Off.grown (oAl oRf _) gW (fun k hk => by simp [Value.ownBlock] at hk; right; omega)⟩
 clear oW gW hat hlt
 go_wp2_with fail
 refine (HG.out _ _ (HU.out.keepT OW1.out.2)).mono ?_
 rintro e w2 ⟨rfl, o1⟩
 have OW2 := hID (OW1.out.off o1)
 clear o1 OW1
 cases bt <;> cases v
 ·have HV : Hid (R = L) := hID (by rw [← HR.out]; rfl)
  go_wp2_with fail
  go_ret
  exact ⟨_, rfl, by rw [HV.out]; exact Rd.own OW2.out.1 (fun k hk => (OW2.out.1.lt k hk).1), OW2.out.2⟩
 ·have HV : Hid (R = L.set q (x ^^^ p2)) := hID (by rw [← HR.out]; rfl)
  have c0 : w2.cell? ⟨g, q, none⟩ = some (.int .u64 (x : Int)) := by
   have h2 := OW2.out.1.cellAt q (by rw [Nat.mul_one]; exact hq)
   rw [HX.out] at h2
   exact h2
  have f0 := OW2.out.1.frozenAt q
  have HS : Hid (OwnL w (w2.setCell ⟨g, q, none⟩ (.int .u64 ((x ^^^ p2 : Nat) : Int))) 71 1 (.slice (some ⟨g, 0, none⟩) L.length cap) L.length (qab (L.set q (x ^^^ p2)))) := hID ⟨by rw [← qkg]; exact (OW2.out.1.stored q _).1, OW2.out.2.put (.inr (OW2.out.1.lt g rfl).1) _⟩
  clear OW2
  go_wp2_with fail
  go_ret
  exact ⟨_, rfl, by rw [HV.out]; exact Rd.own HS.out.1 (fun k hk => (HS.out.1.lt k hk).1), HS.out.2⟩
 ·have HV : Hid (R = L.set q (x ^^^ p2)) := hID (by rw [← HR.out]; rfl)
  have c0 : w2.cell? ⟨g, q, none⟩ = some (.int .u64 (x : Int)) := by
   have h2 := OW2.out.1.cellAt q (by rw [Nat.mul_one]; exact hq)
   rw [HX.out] at h2
   exact h2
  have f0 := OW2.out.1.frozenAt q
  have HS : Hid (OwnL w (w2.setCell ⟨g, q, none⟩ (.int .u64 ((x ^^^ p2 : Nat) : Int))) 71 1 (.slice (some ⟨g, 0, none⟩) L.length cap) L.length (qab (L.set q (x ^^^ p2)))) := hID ⟨by rw [← qkg]; exact (OW2.out.1.stored q _).1, OW2.out.2.put (.inr (OW2.out.1.lt g rfl).1) _⟩
  clear OW2
  go_wp2_with fail
  go_ret
  exact ⟨_, rfl, by rw [HV.out]; exact Rd.own HS.out.1 (fun k hk => (HS.out.1.lt k hk).1), HS.out.2⟩
 ·have HV : Hid (R = L) := hID (by rw [← HR.out]; rfl)
  go_wp2_with fail
  go_ret
  exact ⟨_, rfl, by rw [HV.out]; exact Rd.own OW2.out.1 (fun k hk => (OW2.out.1.lt k hk).1), OW2.out.2⟩
def ofTo (W : Nat) (l : List Nat) (k : Nat) : List Nat := ofN W (l.take k)
theorem quw {W : Nat} {l : List Nat} {k : Nat} (h : k < l.length) : ofTo W l (k + 1) = qcx (ofTo W l k) (l.getD k 0) := by
 unfold ofTo ofN
 rw [List.take_succ_eq_append_getElem h, List.foldl_append, gDe, gEe h]
 rfl
theorem qgs (W : Nat) (l : List Nat) (k : Nat) : (ofTo W l k).length = W := qb4 _ _
theorem qux (W : Nat) (l : List Nat) : qab (ofTo W l 0) = List.replicate W (.int .u64 0) := by
 simp [ofTo, ofN, qab]
theorem qn5 (n : Nat) : (madeCells (Value.int .u64 0).cells (n * 1)).toList = List.replicate n (.int .u64 0) := by
 rw [Nat.mul_one]
 show (madeCells #[.int .u64 0] n).toList = _
 rw [toList_madeCells_one]
theorem g_of (W : Nat) (h1 : 1 ≤ W) (hW : W ≤ 8) (l : List Nat) (hl : ∀ i ∈ l, i < 64 * W) (hn : l.length ≤ 4096) (w : World) (v : Value) (hv : Rd w (fun _ => True) 1 v l.length (natsV l)) :
  Calls Tryz.prog 71 #[.int .i64 W, v] w (fun e w' => ∃ u, e = .returned (.tuple #[u, .int .i64 0]) ∧ Rd w' (fun k => w.heap.size ≤ k) 1 u W (qab (ofN W l)) ∧ Off Nob w w') := by
 obtain ⟨i0, hi, hz0, hz1, hz2⟩ := info_parts Tryz.infoU64
 obtain ⟨A, c, rfl, _, hcell⟩ := hv.form
 have HC : Hid (∀ W', Off Nob w W' → ∀ k, k < l.length → ∃ b o, A = some ⟨b, o, none⟩ ∧ W'.cell? ⟨b, o + k, none⟩ = some (.int .i64 ((l.getD k 0 : Nat) : Int))) := hID (fun W' o k hk => by
  obtain ⟨b, q, rfl, hlt, hc⟩ := hcell (by omega)
  refine ⟨b, q, rfl, ?_⟩
  rw [o.cell_old hlt]
  exact hc k _ (qdk hk))
 have HL := hID (fun k (hk : k < l.length) => hl (l.getD k 0) (by rw [gDe, gEe hk]; exact List.getElem_mem hk))
 have HE : Hid (ofN W l = ofTo W l l.length) := hID (by unfold ofTo; rw [List.take_length])
 rw [HE.out]
 clear hv hcell hl HE
 have d1 : decide ((W : Int) < 1) = false := dcF
 have d2 : decide ((8 : Int) < (W : Int)) = false := dcF
 go_enter Tryz.func71, Tryz.ntmps71
 go_wp2_with (at_make; refine wpList_make_full _ rfl _ _ 23 rfl w.heap.size 71 i0 (.int .u64 0) 1 Tryz.underlying23 hi hz0 hz1 .i64 .i64 _ _ W rfl rfl rfl rfl (by rw [hz2]; omega) (by unfold maxLen; omega) (Nat.le_refl _) ?_; intro w1 oW gW)
 rw [qn5] at oW
 have X1 : Hid (Rd w1 (fun k => w.heap.size ≤ k) 1 (.slice (some ⟨w.heap.size, 0, none⟩) W W) W (qab (ofTo W l 0)) ∧ Off Nob w w1) := hID ⟨by rw [qux]; exact Rd.own oW (fun k hk => (oW.lt k hk).1), Off.grown oRf gW (fun k hk => by cases hk)⟩
 clear oW gW
 go_wp2_with fail
 go_loopw [6, 7] (fun v i wr => ∃ k : Nat, k ≤ l.length ∧ i = .int .i64 (k : Int) ∧ Rd wr (fun k => w.heap.size ≤ k) 1 v W (qab (ofTo W l k)) ∧ Off Nob w wr) (fun _ i _ => l.length - (intOf i).toNat)
 case atStart => exact ⟨0, Nat.zero_le _, rfl, X1.out⟩
 case round =>
  obtain ⟨k, hk, rfl, hr, ho⟩ := hrel
  obtain ⟨AA, cc, rfl, _⟩ := hr.form
  have HR := hID (And.intro hr ho)
  clear hr ho X1
  by_cases hlt : k < l.length
  ·have hx := HL.out k hlt
   have HS := hID (quw (W := W) hlt)
   obtain ⟨b, o, rfl, c0⟩ := HC.out wr HR.out.2 k hlt
   revert hx c0 HS
   generalize l.getD k 0 = x
   intro hx HS c0
   have d3 : decide ((k : Int) < (l.length : Int)) = true := dcT
   have d4 : decide ((x : Int) < 0) = false := dcF
   have d5 : decide (64 * (W : Int) ≤ (x : Int)) = false := dcF
   have hW8 : W ≤ 8 := hW
   have HW := hID (fun (u : Value) (hu : Rd wr (fun _ => True) 1 u W (qab (ofTo W l k))) => by
    have h := q1e (ofTo W l k) (qf9 _ _) x (by rw [qgs]; exact hx) (by rw [qgs]; exact hW8) true wr u (by rw [qgs]; exact hu)
    rw [qgs, qpw] at h
    exact h)
   go_wp2_with fail
   refine (HW.out _ HR.out.1.any).mono ?_
   rintro e w2 ⟨u, rfl, hr, o1⟩
   obtain ⟨A2, c2, rfl, _⟩ := hr.form
   have HR2 : Hid (Rd w2 (fun k => w.heap.size ≤ k) 1 (.slice A2 W c2) W (qab (ofTo W l (k + 1))) ∧ Off Nob w w2) := hID ⟨by rw [HS.out]; exact Rd.mono hr (fun j hj => Nat.le_trans HR.out.2.size hj), HR.out.2.also o1⟩
   clear hr o1 HW HR
   go_wp2_with fail
   go_roundw
   case rel => exact ⟨k + 1, hlt, by go_num, HR2.out⟩
   case measure => simp [intOf]; omega
  ·obtain rfl : k = l.length := by omega
   have d3 : decide ((l.length : Int) < (l.length : Int)) = false := dcF
   go_wp2_with fail
   go_ret2
   exact ⟨_, rfl, HR.out⟩
end
section
open Go.RowKit
def rowTo (W : Nat) (f : Nat → Bool) (k : Nat) : List Nat := ofN W ((List.range k).filter f)
def rowOf (W : Nat) (f : Nat → Bool) : List Nat := rowTo W f (64 * W)
theorem quy (W : Nat) (f : Nat → Bool) : (rowOf W f).length = W := qb4 _ _
theorem quz {W k : Nat} (f : Nat → Bool) (hk : k ≤ 64 * W) (i : Nat) : bitAt (rowTo W f k) i = (decide (i < k) && f i) := by
 unfold rowTo
 rw [qdf (fun j hj => by have := List.mem_range.1 (List.mem_filter.1 hj).1; omega), Bool.eq_iff_iff, decide_eq_true_eq, List.mem_filter, List.mem_range, Bool.and_eq_true, decide_eq_true_eq]
theorem ql0 {W : Nat} (f : Nat → Bool) (i : Nat) : bitAt (rowOf W f) i = (decide (i < 64 * W) && f i) := quz f (Nat.le_refl _) i
end
end Go.Proofs.YtlgjaefcfnndhaaGreatDoor
