import Derived.Test.YtedbafgejladiaaOneRow
import Derived.Test.YtedbafgejladiaaRef07
import Derived.IntWalk
import Derived.Deep.RegionHeld3
/-
  prefix.row: valid, number, add.
-/
namespace Go.Proofs.Ytedbafgejladiaa
open Go.RowKit
attribute [local go_sem] bits_and_u64 bits_or_u64 bits_xor_u64 bits_andNot_u64 wrap_u64 bv_add bv_neg bv_sub bv_mul
set_option linter.unusedVariables false
set_option maxRecDepth 100000
/-- Slots that are gone through: the cells, the steps, how many. -/
abbrev St := List (BitVec 64) × List Ev × BitVec 64
def repS (f : St → Nat → St) (s : St) (k : Nat) : St := (List.range k).foldl f s
theorem repS_zero (f : St → Nat → St) (s : St) : repS f s 0 = s := rfl
theorem repS_succ (f : St → Nat → St) (s : St) (k : Nat) : repS f s (k + 1) = f (repS f s k) k := by unfold repS; rw [List.range_succ, List.foldl_append]; rfl
/-- One slot of Ranks, of Split, of Distances. -/
def rkF (base out : Nat) (s : St) (i : Nat) : St := (s.1.set (out + i) s.2.2, s.2.1 ++ [(1, base + 3 * i), (2, out + i)], s.2.2 + (ofM (cl s.1 (base + 3 * i)) &&& 1#64))
def spK (k : BitVec 64) (base out : Nat) (C : List (BitVec 64)) (i : Nat) : BitVec 64 := ofM (cl C (base + 3 * i)) &&& ltM (cl C (out + i)) k
def spF (k : BitVec 64) (base out : Nat) (s : St) (i : Nat) : St := (s.1.set (base + 3 * i) (spK k base out s.1 i), s.2.1 ++ [(1, base + 3 * i), (1, out + i), (2, base + 3 * i)], s.2.2 + ((ofM (cl s.1 (base + 3 * i)) &&& ~~~ spK k base out s.1 i) &&& 1#64))
def diF (base out : Nat) (s : St) (i : Nat) : St := (s.1.set (out + i) (ofM (cl s.1 (base + 3 * i)) &&& (BitVec.ofNat 64 i - cl s.1 (out + i))), s.2.1 ++ [(1, base + 3 * i), (1, out + i), (2, out + i)], s.2.2)
/-- What check answers. -/
def pkE (nC nE : Nat) (base n out steps : Int) : Int :=
  if n < 1 ∨ 288 < n then 7 else if hasE nC base (3 * n) = 0 then if hasE nC out n = 0 then if out < base + 3 * n ∧ base < out + n then 2 else roomE nE (steps * n) else hasE nC out n else hasE nC base (3 * n)
section
variable {w0 w : World} {F : Nat → Prop} {bs : Bks} {p : Nat} {C : List (BitVec 64)} {E : List Ev}
set_option maxHeartbeats 1000000 in
theorem valid_ok {rb base out n i : Nat} {many : BitVec 64} (h : Wk w0 F w bs p C E) (hm : (rb, 128, #[.pointer (some ⟨p, 0, none⟩), .int .u64 (n64 many), .int .i64 (base : Int), .int .i64 (n : Int), .int .i64 (out : Int)]) ∈ bs) (hi : i < 288) (hx : base + 3 * i < C.length) (he : E.length < 8388608) :
    Calls Try.prog 66 #[.pointer (some ⟨rb, 0, none⟩), .int .i64 (i : Int)] w fun e w' => e = .returned (.int .u64 (n64 (ofM (cl C (base + 3 * i))))) ∧ Wk w0 F w' bs p C (E ++ [(1, base + 3 * i)]) := by
  have hB := h.blk hm
  have b0 := hB.cell 0
  have b2 := hB.cell 2
  simp only [List.getElem?_toArray, List.getElem?_cons_succ, List.getElem?_cons_zero] at b0 b2
  have hn2 := h.n2
  have kk : w.cell? ⟨rb, 0, none⟩ = some (.pointer (some ⟨p, 0, none⟩)) ∧ w.cell? ⟨rb, 2, none⟩ = some (.int .i64 (base : Int)) := ⟨b0, b2⟩
  have H := Lib.hid h
  have HM := Lib.hid hm
  have HL := Lib.hid (fun (W : World) (o : Off Nob w W) => Wk.call (C2 := C) (E2 := E ++ [(1, base + 3 * i)]) (e0 := .returned (.tuple #[.int .u64 (n64 (cl C (base + 3 * i))), .int .i64 0])) (h.off o) (fun w F ha => by
    have := load_ok ha ((base : Int) + 3 * (i : Int)) (by omega) (by omega) he
    rw [show ((base : Int) + 3 * (i : Int)).toNat = base + 3 * i by omega] at this
    exact this))
  have hs1 : IntKind.i64.wrap (3 * (i : Int)) = 3 * (i : Int) := IntWalk.i64_in _ (by omega)
  have hs2 : IntKind.i64.wrap ((base : Int) + 3 * (i : Int)) = (base : Int) + 3 * (i : Int) := IntWalk.i64_in _ (by omega)
  clear h hm hB b0 b2 he
  go_enter Try.func66, Try.ntmps66
  go_wp2_with fail
  go_region_held3 (fun w' => w'.cell? ⟨rb, 0, none⟩ = some (.pointer (some ⟨p, 0, none⟩)) ∧ w'.cell? ⟨rb, 2, none⟩ = some (.int .i64 (base : Int)))
    (first | with_reducible assumption | go_keep)
    (first
      | (go_at_call 47; refine (HL.out _ (by first | with_reducible exact Off.refl _ _ | with_reducible exact Off.drew (Off.refl _ _) | with_reducible exact Off.drewN (Off.refl _ _) _)).mono ?_; rintro e w1 ⟨rfl, h1⟩; have H1 := Lib.hid h1; have k1 : w1.cell? ⟨rb, 0, none⟩ = some (.pointer (some ⟨p, 0, none⟩)) ∧ w1.cell? ⟨rb, 2, none⟩ = some (.int .i64 (base : Int)) := ⟨(h1.blk HM.out).cell 0, (h1.blk HM.out).cell 2⟩; clear h1))
  clear hs1 hs2
  go_wp2_with fail
  refine (of_any _ _).mono ?_
  rintro e w' ⟨rfl, rfl⟩
  go_wp2
  go_ret
  exact ⟨rfl, H1.out⟩
set_option maxHeartbeats 1000000 in
theorem number_ok {rb base out n i : Nat} {many : BitVec 64} (h : Wk w0 F w bs p C E) (hm : (rb, 128, #[.pointer (some ⟨p, 0, none⟩), .int .u64 (n64 many), .int .i64 (base : Int), .int .i64 (n : Int), .int .i64 (out : Int)]) ∈ bs) (hi : i < 288) (hx : out + i < C.length) (he : E.length < 8388608) :
    Calls Try.prog 70 #[.pointer (some ⟨rb, 0, none⟩), .int .i64 (i : Int)] w fun e w' => e = .returned (.int .u64 (n64 (cl C (out + i)))) ∧ Wk w0 F w' bs p C (E ++ [(1, out + i)]) := by
  have hB := h.blk hm
  have b0 := hB.cell 0
  have b2 := hB.cell 4
  simp only [List.getElem?_toArray, List.getElem?_cons_succ, List.getElem?_cons_zero] at b0 b2
  have hn2 := h.n2
  have kk : w.cell? ⟨rb, 0, none⟩ = some (.pointer (some ⟨p, 0, none⟩)) ∧ w.cell? ⟨rb, 4, none⟩ = some (.int .i64 (out : Int)) := ⟨b0, b2⟩
  have H := Lib.hid h
  have HM := Lib.hid hm
  have HL := Lib.hid (fun (W : World) (o : Off Nob w W) => Wk.call (C2 := C) (E2 := E ++ [(1, out + i)]) (e0 := .returned (.tuple #[.int .u64 (n64 (cl C (out + i))), .int .i64 0])) (h.off o) (fun w F ha => by
    have := load_ok ha ((out : Int) + (i : Int)) (by omega) (by omega) he
    rw [show ((out : Int) + (i : Int)).toNat = out + i by omega] at this
    exact this))
  have hs1 : IntKind.i64.wrap (3 * (i : Int)) = 3 * (i : Int) := IntWalk.i64_in _ (by omega)
  have hs2 : IntKind.i64.wrap ((out : Int) + (i : Int)) = (out : Int) + (i : Int) := IntWalk.i64_in _ (by omega)
  clear h hm hB b0 b2 he
  go_enter Try.func70, Try.ntmps70
  go_wp2_with fail
  go_region_held3 (fun w' => w'.cell? ⟨rb, 0, none⟩ = some (.pointer (some ⟨p, 0, none⟩)) ∧ w'.cell? ⟨rb, 4, none⟩ = some (.int .i64 (out : Int)))
    (first | with_reducible assumption | go_keep)
    (first
      | (go_at_call 47; refine (HL.out _ (by first | with_reducible exact Off.refl _ _ | with_reducible exact Off.drew (Off.refl _ _) | with_reducible exact Off.drewN (Off.refl _ _) _)).mono ?_; rintro e w1 ⟨rfl, h1⟩; have H1 := Lib.hid h1; have k1 : w1.cell? ⟨rb, 0, none⟩ = some (.pointer (some ⟨p, 0, none⟩)) ∧ w1.cell? ⟨rb, 4, none⟩ = some (.int .i64 (out : Int)) := ⟨(h1.blk HM.out).cell 0, (h1.blk HM.out).cell 4⟩; clear h1))
  go_wp2
  go_ret
  exact ⟨rfl, H1.out⟩
theorem add_ok {rb base out n : Nat} {many : BitVec 64} (h : Wk w0 F w ((rb, 128, #[.pointer (some ⟨p, 0, none⟩), .int .u64 (n64 many), .int .i64 (base : Int), .int .i64 (n : Int), .int .i64 (out : Int)]) :: bs) p C E) (m : BitVec 64) :
    Calls Try.prog 67 #[.pointer (some ⟨rb, 1, none⟩), .int .u64 (n64 m)] w fun e w' => e = .returned (.tuple #[]) ∧ Wk w0 F w' ((rb, 128, #[.pointer (some ⟨p, 0, none⟩), .int .u64 (n64 (many + (m &&& 1#64))), .int .i64 (base : Int), .int .i64 (n : Int), .int .i64 (out : Int)]) :: bs) p C E := by
  have hB := h.blk (List.mem_cons_self ..)
  have b1 := hB.cell 1
  have f1 := hB.frozen 1
  simp only [List.getElem?_toArray, List.getElem?_cons_succ, List.getElem?_cons_zero] at b1
  have H := Lib.hid h
  clear h hB
  go_enter Try.func67, Try.ntmps67
  go_wp2
  go_end0
  refine ⟨rfl, ?_⟩
  have := H.out.put 1 (.int .u64 (n64 (many + (m &&& 1#64))))
  rw [bv_one]
  exact this
end

end Go.Proofs.Ytedbafgejladiaa

