/-
 masks.Of, masks.Is, masks.Select, compare.Less: their contracts.
-/
import Derived.Test.YtkflicifngohcaaGreatDoorRows
import Derived.Test.YtkflicifngohcaaGreatDoorK3
import Derived.Test.YtkflicifngohcaaGreatDoorK2
import Derived.WalkLawsBesides
import Derived.Test.YtkflicifngohcaaGreatDoorK23
import Derived.Test.YtkflicifngohcaaGreatDoorK25
set_option linter.unusedVariables false
set_option linter.unusedSimpArgs false
namespace Go.Proofs.YtkflicifngohcaaGreatDoor
open Go.RowKit
attribute [local go_sem] bits_and_u64 bits_or_u64 bits_xor_u64 bits_andNot_u64 wrap_u64 bv_add bv_neg bv_sub bv_mul
set_option maxRecDepth 100000
theorem spread_any (a : BitVec 64) (w : World) :
  Calls Tryz.prog 98 #[.int .u64 (n64 a)] w fun e w' => e = .returned (.int .u64 (n64 (ofM a))) ∧ w = w' := by
 go_enter Tryz.func98, Tryz.ntmps98
 go_wp2
 go_ret
 exact ⟨ret_int (by rw [bv_one, of_eq]), rfl⟩
theorem of_any (a : BitVec 64) (w : World) :
  Calls Tryz.prog 92 #[.int .u64 (n64 a)] w fun e w' => e = .returned (.int .u64 (n64 (ofM a))) ∧ w = w' := by
 go_enter Tryz.func92, Tryz.ntmps92
 go_wp2_with fail
 refine (spread_any a w).mono ?_
 rintro e w' ⟨rfl, rfl⟩
 go_wp2
 go_ret
 exact ⟨rfl, rfl⟩
theorem is_any (a : BitVec 64) (w : World) :
  Calls Tryz.prog 46 #[.int .u64 (n64 a)] w fun e w' => e = .returned (.bool (isM a)) ∧ w = w' := by
 have HI := hID (show (n64 a == n64 (ofM a)) = isM a from by rw [isM_iff, n64_beq, Bool.eq_iff_iff]; simp)
 go_enter Tryz.func46, Tryz.ntmps46
 go_wp2_with fail
 refine (of_any a w).mono ?_
 rintro e w' ⟨rfl, rfl⟩
 go_wp2
 go_ret
 exact ⟨ret_bool HI.out, rfl⟩
theorem select_any (m a b : BitVec 64) (w : World) :
  Calls Tryz.prog 51 #[.int .u64 (n64 m), .int .u64 (n64 a), .int .u64 (n64 b)] w fun e w' => e = .returned (.int .u64 (n64 (selM m a b))) ∧ w = w' := by
 go_enter Tryz.func51, Tryz.ntmps51
 go_wp2
 go_ret
 exact ⟨rfl, rfl⟩
end Go.Proofs.YtkflicifngohcaaGreatDoor

namespace Go.Proofs.YtkflicifngohcaaGreatDoor
open Go.RowKit
attribute [local go_sem] bits_and_u64 bits_or_u64 bits_xor_u64 bits_andNot_u64 wrap_u64 bv_add bv_neg bv_sub bv_mul
set_option maxRecDepth 100000
theorem zero_eq (x : BitVec 64) : ~~~ (ofM ((x ||| -x) >>> 63)) = zeM x := by
 rw [shr63, zero_shr]
 unfold zeM ofM
 by_cases h : x.toNat = 0
 ·rw [decide_eq_true h]; rfl
 ·rw [decide_eq_false h]; rfl
theorem top_any (a : BitVec 64) (w : World) :
  Calls Tryz.prog 97 #[.int .u64 (n64 a)] w fun e w' => e = .returned (.int .u64 (n64 (a >>> 63))) ∧ w = w' := by
 go_enter Tryz.func97, Tryz.ntmps97
 go_wp2
 go_ret
 exact ⟨ret_int (by rw [n64_shr63]), rfl⟩
theorem zero_any (a : BitVec 64) (w : World) :
  Calls Tryz.prog 53 #[.int .u64 (n64 a)] w fun e w' => e = .returned (.int .u64 (n64 (zeM a))) ∧ w = w' := by
 go_enter Tryz.func53, Tryz.ntmps53
 go_wp2_with fail
 refine (top_any _ w).mono ?_
 rintro e w' ⟨rfl, rfl⟩
 go_wp2_with fail
 refine (spread_any _ w).mono ?_
 rintro e w' ⟨rfl, rfl⟩
 go_wp2
 go_ret
 exact ⟨ret_int (by rw [bv_max, inv_eq, zero_eq]), rfl⟩
def maxM (a b : BitVec 64) : BitVec 64 := BitVec.ofNat 64 (max a.toNat b.toNat)
def minM (a b : BitVec 64) : BitVec 64 := BitVec.ofNat 64 (min a.toNat b.toNat)
theorem maxM_toNat (a b : BitVec 64) : (maxM a b).toNat = max a.toNat b.toNat := by
 unfold maxM; have := a.isLt; have := b.isLt; rw [BitVec.toNat_ofNat, Nat.mod_eq_of_lt (by omega)]
theorem minM_toNat (a b : BitVec 64) : (minM a b).toNat = min a.toNat b.toNat := by
 unfold minM; have := a.isLt; have := b.isLt; rw [BitVec.toNat_ofNat, Nat.mod_eq_of_lt (by omega)]
theorem n64_max (a b : BitVec 64) : max (n64 a) (n64 b) = n64 (maxM a b) := by unfold n64; rw [maxM_toNat]; omega
theorem n64_min (a b : BitVec 64) : min (n64 a) (n64 b) = n64 (minM a b) := by unfold n64; rw [minM_toNat]; omega
theorem run_max_u64 {P : Program} {w : World} (ts : Array TypeId) (t : TypeId) (a b : BitVec 64) : (Builtin.max_ ts t #[.int .u64 (n64 a), .int .u64 (n64 b)]).run P w = .ok (.int .u64 (n64 (maxM a b))) w := by
 rw [run_max_int2]
 congr 2
 rw [← n64_max]
 split <;> omega
theorem run_min_u64 {P : Program} {w : World} (ts : Array TypeId) (t : TypeId) (a b : BitVec 64) : (Builtin.min_ ts t #[.int .u64 (n64 a), .int .u64 (n64 b)]).run P w = .ok (.int .u64 (n64 (minM a b))) w := by
 rw [run_min_int2]
 congr 2
 rw [← n64_min]
 split <;> omega
end Go.Proofs.YtkflicifngohcaaGreatDoor

namespace Go.Proofs.YtkflicifngohcaaGreatDoor
open Go.RowKit
attribute [local go_sem] bits_and_u64 bits_or_u64 bits_xor_u64 bits_andNot_u64 wrap_u64 bv_add bv_neg bv_sub bv_mul
set_option maxRecDepth 100000
end Go.Proofs.YtkflicifngohcaaGreatDoor

namespace Go.Proofs.YtkflicifngohcaaGreatDoor
open Go.RowKit
set_option maxRecDepth 100000
structure ExSet (w : World) (VI VT VS VF : Value) : Prop where
 i : Rd w (fun _ => True) 1 VI 2 [.int .i64 5, .int .i64 9]
 t : Rd w (fun _ => True) 1 VT 256 (tabV 256)
 s : Rd w (fun _ => True) 1 VS 1 [.int .u64 5]
 f : Rd w (fun _ => True) 1 VF 2 [.int .u64 2, .int .u64 4]
 ct : CapOk VT
 cf : CapOk VF
theorem ExSet.keep {w w' : World} {VI VT VS VF : Value} (h : ExSet w VI VT VS VF) (o : Off Nob w w') : ExSet w' VI VT VS VF := ⟨h.i.keepT o, h.t.keepT o, h.s.keepT o, h.f.keepT o, h.ct, h.cf⟩
set_option maxHeartbeats 1000000 in
theorem nask_setup (l : Lay) (h1 : l.a = 1) (h2 : l.b = 2) (w : World) (gs gl : Nat) (VI VT VS VF : Value) (h : ExSet w VI VT VS VF) (hs : Blk w gs 25 #[VI, .int .i64 1, VT, VS, VF]) (hl : Blk w gl 33 l.cells) (hZ : TzT w) :
  Calls Tryz.prog 41 #[.pointer (some ⟨gs, 0, none⟩), .pointer (some ⟨gl, 0, none⟩)] w (RetV w (.int .i64 0)) := by
 have HP := hID (tCheck_ex w VI VT VS VF h.i h.t h.s h.f h.ct h.cf hZ)
 obtain ⟨AI, ci, rfl, _⟩ := h.i.form
 obtain ⟨AT, ct, rfl, _⟩ := h.t.form
 obtain ⟨AS, cs, rfl, _⟩ := h.s.form
 obtain ⟨AF, cf, rfl, _⟩ := h.f.form
 obtain ⟨a, b, t, s, f, st, n, hh⟩ := l
 simp only at h1 h2
 subst h1 h2
 unfold Lay.cells at hl
 have HS := hID hs
 have HL := hID hl
 clear h hZ hs hl
 have s0 := HS.out.cell 0
 have s1 := HS.out.cell 1
 have s2 := HS.out.cell 2
 have s3 := HS.out.cell 3
 have s4 := HS.out.cell 4
 go_enter Tryz.func41, Tryz.ntmps41
 go_wp2_with fail
 refine HP.out.mono ?_
 rintro e w1 ⟨rfl, o1⟩
 clear s0 s1 s2 s3 s4
 have s0 := (HS.out.to (o1.block _ HS.out.lt id)).cell 0
 have s1 := (HS.out.to (o1.block _ HS.out.lt id)).cell 1
 have l0 := (HL.out.to (o1.block _ HL.out.lt id)).cell 0
 have l1 := (HL.out.to (o1.block _ HL.out.lt id)).cell 1
 have HO := hID o1
 clear o1
 go_wp2_with fail
 go_ret
 exact ⟨rfl, HO.out⟩
theorem nask_byte (m : BitVec 64) (hm : isM m = true) (w : World) (g : Nat) (h : w.cell? ⟨g, 0, none⟩ = some (.int .u64 (n64 m))) :
  Calls Tryz.prog 45 #[.pointer (some ⟨g, 0, none⟩)] w (RetV w (.int .i64 0)) := by
 have HI := hID (is_any m w)
 rw [hm] at HI
 go_enter Tryz.func45, Tryz.ntmps45
 go_wp2_with fail
 refine HI.out.mono ?_
 rintro e w1 ⟨rfl, rfl⟩
 go_wp2_with fail
 go_ret
 exact ⟨rfl, Off.refl _ _⟩
end Go.Proofs.YtkflicifngohcaaGreatDoor
