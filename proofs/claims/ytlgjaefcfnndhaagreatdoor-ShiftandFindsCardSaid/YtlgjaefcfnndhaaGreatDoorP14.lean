/-
 dragnetref03.Count, Runs and Print at the set of a and b.
-/
import Derived.Test.YtlgjaefcfnndhaaGreatDoorP10
import Derived.Deep.AppendLies
import Derived.Lib.SlBytesRow
set_option linter.unusedVariables false
set_option linter.unusedSimpArgs false
set_option maxHeartbeats 16000000
set_option maxRecDepth 100000
namespace Go.Proofs.YtlgjaefcfnndhaaGreatDoor
section
open Go.RowKit
theorem q1c : fltB 0 25769803776 0 0 256 = [97, 98] := by decide +kernel
theorem qkf (w : World) : Calls Tryz.prog 138 #[.agg #[.int .u64 0, .int .u64 25769803776, .int .u64 0, .int .u64 0]] w (RetL w 1 2 [.int .u8 97, .int .u8 98]) := by
 have := qzg 0 25769803776 0 0 w
 rw [q1c] at this
 exact this
theorem qpn (w : World) : Calls Tryz.prog 133 #[.agg #[.int .u64 0, .int .u64 25769803776, .int .u64 0, .int .u64 0]] w (RetV w (.int .i64 2)) := by
 go_enter Tryz.func133, Tryz.ntmps133
 go_wp2_with fail
 refine (qkf _).mono ?_
 rintro e w1 ⟨v, rfl, hr, o1⟩
 obtain ⟨A, c, rfl, _⟩ := hr.form
 have O1 := hID o1
 clear hr o1
 go_wp2_with fail
 go_ret
 exact ⟨rfl, (oAl oRf _).also O1.out⟩
theorem Tryz.infoTw : (Tryz.prog.info? 199).map (fun i => (i.zero, i.size, i.bytes)) = some (some (.agg #[.int .u8 0, .int .u8 0]), 2, 2) := by kernel_rfl
theorem qxk (w : World) (x y : Value) (t : TypeId) : ∀ j u, [x, y][j]? = some u → (w.alloc (.cells #[x, y] t)).cell? ((⟨w.heap.size, 0, none⟩ : Addr).add j) = some u := by
 intro j u hj
 rw [qam, Nat.zero_add, (Blk.new w t #[x, y]).cell]
 simpa using hj
theorem qr7 (w : World) : Calls Tryz.prog 139 #[.agg #[.int .u64 0, .int .u64 25769803776, .int .u64 0, .int .u64 0]] w (RetL w 2 1 [.int .u8 97, .int .u8 98]) := by
 obtain ⟨i0, hi, hz0, hz1, hz2⟩ := info_parts Tryz.infoTw
 go_enter Tryz.func139, Tryz.ntmps139
 go_wp2_with fail
 refine (qkf _).mono ?_
 rintro e w1 ⟨v, rfl, hr, o1⟩
 obtain ⟨b, o, c, rfl, hc⟩ := hr.cellsT (by decide)
 have HC := hID hc
 have O1 := hID ((oAl oRf _).also o1)
 clear hr hc o1
 go_wp2_with fail
 refine wp_loop_rounds 3 ?_
 rw [rounds_succ]
 go_wp2_with fail
 go_quiet (fail)
 have O2 := hID (O1.out.drewN nq)
 have X2 := hID (Off.drewN (Off.refl Nob w1) nq)
 clear O1
 generalize w1.drewN nq = w2 at *
 have c0 := HC.out _ X2.out 0 _ rfl
 simp only [Nat.add_zero] at c0
 go_wp2_with fail
 refine wp_region_held_drew (S := fun W => W.cell? ⟨b, o, none⟩ = some (.int .u8 97)) (by kernel_rfl) c0 (fun hHeld => ?_)
 refine tkH 0 ?_
 refine tkH 1 ?_
 refine tkH 2 ?_
 refine tkH 3 ?_
 refine tkH 4 ?_
 refine tkH 5 ?_
 refine tkH 6 ?_
 refine tkH 7 ?_
 refine tkH 8 ?_
 refine tkH 9 ?_
 refine wpAnyH_ready (rs := [10]) (by kernel_rfl) (by simp) ?_
 refine AllReadyH.cons rfl (fun K hK => ?s10) ?m10
 case s10 =>
  go_simp
  refine hK.out _ _ ?_ (fun hHeld => ?_)
  ·first | (simp; exact c0) | go_keep
  clear hK K
  try simp only [Act.put, qL]
  refine wpAnyH_ready (rs := [11]) (by kernel_rfl) (by simp) ?_
  refine AllReadyH.cons rfl (fun K hK => ?s11) ?m11
  case s11 =>
   refine wp_append_lies _ _ _ 197 rfl w.heap.size 199 i0 (.agg #[.int .u8 0, .int .u8 0]) 2 2 Tryz.underlying197 hi hz0 hz1 hz2 rfl (by decide) (.slice none 0 0) 0 [] rfl (World.ownsRow_nil _ _ _ _) ⟨w2.heap.size, 0, none⟩ 1 1 [.int .u8 97, .int .u8 97] rfl rfl (qxk _ _ _ _) (by intro u hu; simp at hu; subst hu; rfl) (by decide) (by decide) (by decide) (by have := O2.out.size; simp; omega) _ rfl ?_
   intro g cap w3 oW hg hat hlt3
   have O3 := hID ((O2.out.also (oAl (Off.drew (Off.refl Nob w2)) (.cells #[.int .u8 97, .int .u8 97] 199))).grown hg (fun k hk => by cases hk))
   have X3 := hID ((X2.out.also (oAl (Off.drew (Off.refl Nob w2)) (.cells #[.int .u8 97, .int .u8 97] 199))).grown hg (fun k hk => by cases hk))
   have KG : Hid (w1.heap.size ≤ g) := hID (by
    rcases hat with h | h
    ·cases h
    ·have := X2.out.size
     rw [h]; simp; omega)
   have W3 := hID oW
   have d0 := HC.out _ X3.out 0 _ rfl
   simp only [Nat.add_zero] at d0
   refine hK.out _ _ ?_ (fun hHeld => ?_)
   ·first | exact d0 | go_keep
   clear hK K
   try simp only [Act.put, qL]
   refine tkH 12 ?_
   refine wpAnyH_done (by kernel_rfl) ?_ _
   clear hHeld
   go_wp2_with fail
   rw [rounds_succ]
   have c0 := HC.out _ X3.out 0 _ rfl
   have c1 := HC.out _ X3.out 1 _ rfl
   simp only [Nat.add_zero] at c0
   clear d0 O2 X2
   go_wp2_with fail
   go_quiet (fail)
   have O4 := hID (O3.out.drewN nq)
   have X4 := hID (X3.out.drewN nq)
   have R4 := hID (qas W3.out (w' := w3.drewN nq) (fun g hg => rfl))
   clear O3 X3 W3
   generalize w3.drewN nq = w4 at *
   have c1 := HC.out _ X4.out 1 _ rfl
   have hw0 : IntKind.i64.wrap 0 = 0 := rfl
   have th : w4.there g 1 1 := fun j hj => by
    have : j = 0 := by omega
    subst this
    exact ⟨by rw [R4.out.cellAt _ (by decide)]; rfl, R4.out.frozenAt _⟩
   clear c0
   go_wp2_with fail
   refine wp_region_held_drew (S := fun W => W.cell? ⟨b, o + 1, none⟩ = some (.int .u8 98) ∧ W.there g 1 1) (by kernel_rfl) ⟨c1, th⟩ (fun hHeld => ?_)
   refine tkH 0 ?_
   refine tkH 1 ?_
   refine tkH 2 ?_
   refine tkH 3 ?_
   refine tkH 4 ?_
   refine tkH 5 ?_
   refine tkH 6 ?_
   refine tkH 7 ?_
   refine tkH 8 ?_
   refine tkH 9 ?_
   refine wpAnyH_ready (rs := [10]) (by kernel_rfl) (by simp) ?_
   refine AllReadyH.cons rfl (fun K hK => ?s710) ?m710
   case s710 =>
    obtain ⟨yy, hyy⟩ := Option.isSome_iff_exists.1 (hHeld.2 0 (by decide)).1
    have hff := (hHeld.2 0 (by decide)).2
    simp only [Nat.add_zero] at hyy hff
    go_simp
    refine hK.out _ _ ?_ (fun hHeld => ?_)
    ·first | exact ⟨(HC.out _ (qax X4.out.drew (by exact KG.out) _ [_]) 1 _ rfl), World.there_setCells hHeld.2 g 1 [_]⟩ | go_keep
    clear hK K
    try simp only [Act.put, qL]
    refine wpAnyH_done (by kernel_rfl) ?_ _
    clear hHeld
    have R5 := hID (qas (w' := w4.drew) R4.out (fun _ _ => rfl))
    have R6 : Hid (OwnL w (w4.drew.setCell ⟨g, 1, none⟩ (.int .u8 98)) 199 2 (.slice (some ⟨g, 0, none⟩) 1 cap) 1 [.int .u8 97, .int .u8 98]) := hID ⟨(R5.out.stored 1 (.int .u8 98)).1, (O4.out.drew).put (.inr (R4.out.lt g rfl).1) _⟩
    clear R4 R5 O4 X4
    go_wp2_with fail
    rw [rounds_succ]
    go_wp2_with fail
    go_ret
    exact ⟨_, rfl, R6.out.rd, R6.out.2⟩
   exact AllReadyH.nil
  exact AllReadyH.nil
 exact AllReadyH.nil
end
section
open Go.RowKit
theorem qqs (w : World) (b o c n : Nat) (xs : List Int) (hn : xs.length = n) (hc : ∀ i, i < n → w.cell? ⟨b, o + i, none⟩ = some (.int .u8 (xs.getD i 0))) :
  (convert 45 9 (.slice (some ⟨b, o, none⟩) n c)).run Tryz.prog w = .ok (.string (strOfNums xs)) w :=
 run_convert_bytes_arg (P := Tryz.prog) w 45 5 Tryz.underlying45 Tryz.underlying5 b o n c xs hn hc 9 Tryz.underlying9
theorem qnt (w : World) (x : Int) : (convert 45 9 (.slice (some ⟨w.heap.size, 0, none⟩) 1 1)).run Tryz.prog (w.alloc (.cells #[.int .u8 x] 5)) = .ok (.string (strOfNums [x])) (w.alloc (.cells #[.int .u8 x] 5)) :=
 qqs _ _ 0 1 1 [x] rfl (fun i hi => by
  have : i = 0 := by omega
  subst this
  exact (Blk.new w 5 #[.int .u8 x]).cell 0)
attribute [local go_sem] qnt
theorem qmz (w : World) : Calls Tryz.prog 142 #[.int .u8 97] w (RetV w (.bool false)) := by
 go_enter Tryz.func142, Tryz.ntmps142
 go_wp2_with fail
 go_ret
 exact ⟨rfl, Off.refl _ _⟩
theorem qr8 (w : World) : Calls Tryz.prog 140 #[.int .u8 97] w (RetV w (.string ⟨#[97]⟩)) := by
 have hs : strOfNums [97] = ⟨#[97]⟩ := by decide
 go_enter Tryz.func140, Tryz.ntmps140
 go_wp2_with fail
 refine (qmz _).mono ?_
 rintro e w1 ⟨rfl, o1⟩
 have O1 := hID o1
 clear o1
 go_wp2_with fail
 go_ret
 exact ⟨rfl, O1.out.also (oAl oRf _)⟩
theorem qm0 (w : World) : Calls Tryz.prog 142 #[.int .u8 98] w (RetV w (.bool false)) := by
 go_enter Tryz.func142, Tryz.ntmps142
 go_wp2_with fail
 go_ret
 exact ⟨rfl, Off.refl _ _⟩
theorem qr9 (w : World) : Calls Tryz.prog 140 #[.int .u8 98] w (RetV w (.string ⟨#[98]⟩)) := by
 have hs : strOfNums [98] = ⟨#[98]⟩ := by decide
 go_enter Tryz.func140, Tryz.ntmps140
 go_wp2_with fail
 refine (qm0 _).mono ?_
 rintro e w1 ⟨rfl, o1⟩
 have O1 := hID o1
 clear o1
 go_wp2_with fail
 go_ret
 exact ⟨rfl, O1.out.also (oAl oRf _)⟩
theorem qpo (w : World) : Calls Tryz.prog 129 #[.int .i64 5] w (RetV w (.string ⟨#[53]⟩)) := by
 have hs : strOfNums [53] = ⟨#[53]⟩ := by decide
 go_enter Tryz.func129, Tryz.ntmps129
 go_wp2_with fail
 go_ret
 exact ⟨rfl, oAl oRf _⟩
theorem qpp (w : World) : Calls Tryz.prog 129 #[.int .i64 9] w (RetV w (.string ⟨#[57]⟩)) := by
 have hs : strOfNums [57] = ⟨#[57]⟩ := by decide
 go_enter Tryz.func129, Tryz.ntmps129
 go_wp2_with fail
 go_ret
 exact ⟨rfl, oAl oRf _⟩
end
section
open Go.RowKit
theorem qpq (w : World) : Calls Tryz.prog 134 #[.agg #[.int .u64 0, .int .u64 25769803776, .int .u64 0, .int .u64 0]] w (RetV w (.string ⟨#[97, 98]⟩)) := by
 have s1 : (⟨#[]⟩ : ByteArray) ++ ⟨#[97]⟩ = ⟨#[97]⟩ := by decide
 have s2 : (⟨#[97]⟩ : ByteArray) ++ ⟨#[98]⟩ = ⟨#[97, 98]⟩ := by decide
 have hw0 : IntKind.u8.wrap 1 = 1 := rfl
 go_enter Tryz.func134, Tryz.ntmps134
 go_wp2_with fail
 refine (qr7 _).mono ?_
 rintro e w1 ⟨v, rfl, hr, o1⟩
 obtain ⟨b, o, c, rfl, hc⟩ := hr.cellsT (by decide)
 have HC := hID hc
 have O1 := hID ((oAl oRf _).also o1)
 clear hr hc o1
 go_wp2_with fail
 refine wp_loop_rounds 2 ?_
 rw [rounds_succ]
 have c0 := HC.out _ oRf 0 _ rfl
 have c1 := HC.out _ oRf 1 _ rfl
 simp only [Nat.add_zero] at c0
 go_wp2_with fail
 refine (qr8 _).mono ?_
 rintro e w2 ⟨rfl, o2⟩
 have O2 := hID (O1.out.also o2)
 have X2 := hID o2
 clear o2 O1 c0 c1
 have c0 := HC.out _ X2.out 0 _ rfl
 have c1 := HC.out _ X2.out 1 _ rfl
 simp only [Nat.add_zero] at c0
 go_wp2_with fail
 go_quiet (fail)
 have O3 := hID (O2.out.drewN nq)
 have X3 := hID (X2.out.drewN nq)
 clear O2 X2 c0 c1
 generalize w2.drewN nq = w3 at *
 have c0 := HC.out _ X3.out 0 _ rfl
 have c1 := HC.out _ X3.out 1 _ rfl
 simp only [Nat.add_zero] at c0
 go_wp2_with fail
 go_quiet (fail)
 have O4 := hID (O3.out.drewN nq)
 have X4 := hID (X3.out.drewN nq)
 clear O3 X3 c0 c1
 generalize w3.drewN nq = w4 at *
 have c0 := HC.out _ X4.out 0 _ rfl
 have c1 := HC.out _ X4.out 1 _ rfl
 simp only [Nat.add_zero] at c0
 go_wp2_with fail
 refine (qr9 _).mono ?_
 rintro e w5 ⟨rfl, o5⟩
 have O5 := hID (O4.out.also o5)
 clear o5 O4 c0 c1
 go_wp2_with fail
 rw [rounds_succ]
 go_wp2_with fail
 go_ret
 exact ⟨rfl, O5.out⟩
theorem qpr (w : World) : Calls Tryz.prog 131 #[.agg #[.int .u64 0, .int .u64 25769803776, .int .u64 0, .int .u64 0]] w (RetV w (.string ⟨#[91, 97, 98, 93]⟩)) := by
 have s1 : (⟨#[91]⟩ : ByteArray) ++ ⟨#[97, 98]⟩ = ⟨#[91, 97, 98]⟩ := by decide
 have s2 : (⟨#[91, 97, 98]⟩ : ByteArray) ++ ⟨#[93]⟩ = ⟨#[91, 97, 98, 93]⟩ := by decide
 go_enter Tryz.func131, Tryz.ntmps131
 go_wp2_with fail
 refine (qpn _).mono ?_
 rintro e w1 ⟨rfl, o1⟩
 have hb := (Blk.new w 73 #[.int .u64 0, .int .u64 25769803776, .int .u64 0, .int .u64 0])
 have B1 := hID (hb.to (o1.block _ hb.lt (fun h => h)))
 have O1 := hID ((oAl oRf _).also o1)
 clear o1 hb
 have t0 := B1.out.cell 0
 have t1 := B1.out.cell 1
 have t2 := B1.out.cell 2
 have t3 := B1.out.cell 3
 simp only [qG] at t0 t1 t2 t3
 go_wp2_with fail
 refine (qpq _).mono ?_
 rintro e w2 ⟨rfl, o2⟩
 have O2 := hID (O1.out.also o2)
 clear o2
 go_wp2_with fail
 go_ret
 exact ⟨rfl, O2.out⟩
theorem qnu (b : Nat) (h : b = 97 ∨ b = 98) (w : World) : Calls Tryz.prog 136 #[.int .u8 (b : Int)] w (RetV w (.bool true)) := by
 rcases h with rfl | rfl
 all_goals
  go_enter Tryz.func136, Tryz.ntmps136
  go_wp2_with fail
  go_ret
  exact ⟨rfl, Off.refl _ _⟩
attribute [local go_sem] qnt
theorem qm1 (w : World) : Calls Tryz.prog 132 #[.int .u8 97] w (RetV w (.string ⟨#[97]⟩)) := by
 have hs : strOfNums [97] = ⟨#[97]⟩ := by decide
 go_enter Tryz.func132, Tryz.ntmps132
 go_wp2_with fail
 refine Calls.mono (R := RetV w (.bool true)) (qnu 97 (by decide) _) ?_
 rintro e w1 ⟨rfl, o1⟩
 have O1 := hID o1
 clear o1
 go_wp2_with fail
 go_ret
 exact ⟨rfl, O1.out.also (oAl oRf _)⟩
theorem qm2 (w : World) : Calls Tryz.prog 132 #[.int .u8 98] w (RetV w (.string ⟨#[98]⟩)) := by
 have hs : strOfNums [98] = ⟨#[98]⟩ := by decide
 go_enter Tryz.func132, Tryz.ntmps132
 go_wp2_with fail
 refine Calls.mono (R := RetV w (.bool true)) (qnu 98 (by decide) _) ?_
 rintro e w1 ⟨rfl, o1⟩
 have O1 := hID o1
 clear o1
 go_wp2_with fail
 go_ret
 exact ⟨rfl, O1.out.also (oAl oRf _)⟩
end
end Go.Proofs.YtlgjaefcfnndhaaGreatDoor
