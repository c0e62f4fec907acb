import Derived.Test.YtedbafgejladiaaRef07
import Derived.Test.YtedbafgejladiaaMake
/-
  counters.change, Count, Plus, Stick, Take, Above over an arena.
-/
namespace Go.Proofs.Ytedbafgejladiaa
open Go.RowKit
attribute [local go_sem] bits_and_u64 bits_or_u64 bits_xor_u64 bits_andNot_u64 wrap_u64 bv_add bv_neg bv_sub bv_mul
set_option maxRecDepth 100000

section
variable {w : World} {F : Nat → Prop} {p : Nat} {C : List (BitVec 64)} {E : List Ev}
/-- What change leaves. -/
def Chg (w : World) (F : Nat → Prop) (p : Nat) (C : List (BitVec 64)) (E : List Ev) (x : Nat) (g : BitVec 64 → BitVec 64) (w' : World) : Prop :=
  ArTo w F p (C.set x (g (cl C x))) (E ++ [(1, x), (2, x)]) w'
/-- The function that change is handed. -/
def Does (w : World) (F : Nat → Prop) (fn : FuncId) (caps : Array Value) (g : BitVec 64 → BitVec 64) : Prop :=
  (∀ (xs : Array Value) (w1 : World), (callFunc fn xs).run Try.prog w1 = .ok (.enter fn xs) w1) ∧ ∀ (w1 : World) (v : BitVec 64), Off F w w1 → Calls Try.prog fn (#[.int .u64 (n64 v)] ++ caps) w1 fun e w2 => e = .returned (.int .u64 (n64 (g v))) ∧ w1 = w2

set_option maxHeartbeats 400000 in
theorem change_ok (h : Ar w F p C E) (x : Int) (fn : FuncId) (caps : Array Value) (g : BitVec 64 → BitVec 64) (hg : Does w F fn caps g) (h0 : 0 ≤ x) (h1 : x < C.length) (he : E.length + 2 ≤ 8388608) :
    Calls Try.prog 71 #[.pointer (some ⟨p, 0, none⟩), .int .i64 x, .func (.func fn) #[] caps] w fun e w' => e = .returned (.tuple #[.int .u64 (n64 (cl C x.toNat)), .int .i64 0]) ∧ Chg w F p C E x.toNat g w' := by
  have hcf := hg.1
  have HG := Lib.hid hg.2
  have H := Lib.hid h
  have HE := Lib.hid he
  clear hg h he
  go_enter Try.func71, Try.ntmps71
  go_wp2_with fail
  refine (has_ok H.out x 1 h0 (by decide) (by omega)).mono ?_
  rintro e w' ⟨rfl, rfl⟩
  go_wp2_with fail
  refine (room_ok H.out 2 (by decide) (by have := HE.out; omega)).mono ?_
  rintro e w' ⟨rfl, rfl⟩
  go_wp2_with fail
  refine (load_ok H.out x h0 h1 (by have := HE.out; omega)).mono ?_
  rintro e w1 ⟨rfl, hw1⟩
  have H1 := Lib.hid hw1
  clear hw1
  go_wp2_with fail
  refine (HG.out w1 (cl C x.toNat) H1.out.2).mono ?_
  rintro e w2 ⟨rfl, rfl⟩
  go_wp2_with fail
  refine (store_ok H1.out.1 x (g (cl C x.toNat)) h0 h1 (by have := HE.out; simp; omega)).mono ?_
  rintro e w3 ⟨rfl, hw3⟩
  have H3 := Lib.hid hw3
  clear hw3
  go_wp2
  go_ret2
  refine ⟨rfl, ?_⟩
  have := H1.out.trans H3.out
  unfold Chg
  simpa using this
set_option maxHeartbeats 400000 in
theorem change_has (h : Ar w F p C E) (x : Int) (fv : Value) (h0 : ¬ (0 ≤ x ∧ x < C.length)) :
    Calls Try.prog 71 #[.pointer (some ⟨p, 0, none⟩), .int .i64 x, fv] w fun e w' => e = .returned (.tuple #[.int .u64 0, .int .i64 7]) ∧ w = w' := by
  have H := Lib.hid h
  have H0 := Lib.hid h0
  clear h h0
  go_enter Try.func71, Try.ntmps71
  go_wp2_with fail
  refine (has_bad H.out x 1 (by have := H0.out; omega)).mono ?_
  rintro e w' ⟨rfl, rfl⟩
  go_wp2
  go_ret2
  exact ⟨rfl, rfl⟩
set_option maxHeartbeats 400000 in
theorem change_long (h : Ar w F p C E) (x : Int) (fv : Value) (h0 : 0 ≤ x) (h1 : x < C.length) (he : 8388608 < E.length + 2) :
    Calls Try.prog 71 #[.pointer (some ⟨p, 0, none⟩), .int .i64 x, fv] w fun e w' => e = .returned (.tuple #[.int .u64 0, .int .i64 3]) ∧ w = w' := by
  have H := Lib.hid h
  have HE := Lib.hid he
  clear h he
  go_enter Try.func71, Try.ntmps71
  go_wp2_with fail
  refine (has_ok H.out x 1 h0 (by decide) (by omega)).mono ?_
  rintro e w' ⟨rfl, rfl⟩
  go_wp2_with fail
  refine (room_long H.out 2 (by decide) (by have := HE.out; omega)).mono ?_
  rintro e w' ⟨rfl, rfl⟩
  go_wp2
  go_ret2
  exact ⟨rfl, rfl⟩
theorem change_nil (w : World) (x : Int) (fv : Value) :
    Calls Try.prog 71 #[.pointer none, .int .i64 x, fv] w fun e w' => e = .returned (.tuple #[.int .u64 0, .int .i64 1]) ∧ w = w' := by
  go_enter Try.func71, Try.ntmps71
  go_wp2_with fail
  refine (has_nil w x 1).mono ?_
  rintro e w' ⟨rfl, rfl⟩
  go_wp2
  go_ret2
  exact ⟨rfl, rfl⟩

theorem stick_does (w : World) (F : Nat → Prop) (b : Nat) (m : BitVec 64) (hb : b < w.heap.size) (hf : ¬ F b) (hm : w.cell? ⟨b, 0, none⟩ = some (.int .u64 (n64 m))) :
    Does w F 75 #[.pointer (some ⟨b, 0, none⟩)] (fun v => v ||| m) := by
  refine ⟨fun _ _ => by kernel_rfl, fun w1 v ho => ?_⟩
  have hm1 : w1.cell? ⟨b, 0, none⟩ = some (.int .u64 (n64 m)) := (World.cell?_of_block (a := ⟨b, 0, none⟩) (ho.block b hb hf)).trans hm
  clear hm ho
  go_enter Try.func75, Try.ntmps75
  go_wp2
  go_ret
  exact ⟨rfl, rfl⟩
theorem plus_does (w : World) (F : Nat → Prop) (b c : Nat) (m k : BitVec 64) (hb : b < w.heap.size) (hf : ¬ F b) (hm : w.cell? ⟨b, 0, none⟩ = some (.int .u64 (n64 m))) (hc : c < w.heap.size) (hg : ¬ F c) (hk : w.cell? ⟨c, 0, none⟩ = some (.int .u64 (n64 k))) :
    Does w F 72 #[.pointer (some ⟨b, 0, none⟩), .pointer (some ⟨c, 0, none⟩)] (fun v => sumM v m k) := by
  refine ⟨fun _ _ => by kernel_rfl, fun w1 v ho => ?_⟩
  have hm1 : w1.cell? ⟨b, 0, none⟩ = some (.int .u64 (n64 m)) := (World.cell?_of_block (a := ⟨b, 0, none⟩) (ho.block b hb hf)).trans hm
  have hk1 : w1.cell? ⟨c, 0, none⟩ = some (.int .u64 (n64 k)) := (World.cell?_of_block (a := ⟨c, 0, none⟩) (ho.block c hc hg)).trans hk
  clear hm hk ho
  go_enter Try.func72, Try.ntmps72
  go_wp2_with fail
  refine (sum_any v m k w1).mono ?_
  rintro e w' ⟨rfl, rfl⟩
  go_wp2
  go_ret
  exact ⟨rfl, rfl⟩
/-- What change returns, and leaves. -/
def chRes (C : List (BitVec 64)) (E : List Ev) (x : Int) (g : BitVec 64 → BitVec 64) : (BitVec 64 × Int) × (List (BitVec 64) × List Ev) :=
  if 0 ≤ x ∧ x < C.length then if E.length + 2 ≤ 8388608 then ((cl C x.toNat, 0), (C.set x.toNat (g (cl C x.toNat)), E ++ [(1, x.toNat), (2, x.toNat)])) else ((0, 3), (C, E)) else ((0, 7), (C, E))
def ChPost (w : World) (F : Nat → Prop) (p : Nat) (r : (BitVec 64 × Int) × (List (BitVec 64) × List Ev)) (e : Ending) (w' : World) : Prop :=
  e = .returned (.tuple #[.int .u64 (n64 r.1.1), .int .i64 r.1.2]) ∧ ArTo w F p r.2.1 r.2.2 w'
theorem change_any (h : Ar w F p C E) (x : Int) (fn : FuncId) (caps : Array Value) (g : BitVec 64 → BitVec 64) (hg : Does w F fn caps g) :
    Calls Try.prog 71 #[.pointer (some ⟨p, 0, none⟩), .int .i64 x, .func (.func fn) #[] caps] w (ChPost w F p (chRes C E x g)) := by
  unfold chRes
  by_cases h1 : 0 ≤ x ∧ x < C.length
  · rw [if_pos h1]
    by_cases h2 : E.length + 2 ≤ 8388608
    · rw [if_pos h2]
      exact change_ok h x fn caps g hg h1.1 h1.2 h2
    · rw [if_neg h2]
      exact (change_long h x _ h1.1 h1.2 (by omega)).mono fun e w' ⟨he, hw⟩ => ⟨he, hw ▸ ArTo.refl h⟩
  · rw [if_neg h1]
    exact (change_has h x _ h1).mono fun e w' ⟨he, hw⟩ => ⟨he, hw ▸ ArTo.refl h⟩

set_option maxHeartbeats 400000 in
theorem plusA_any (h : Ar w F p C E) (x : Int) (m k : BitVec 64) :
    Calls Try.prog 37 #[.pointer (some ⟨p, 0, none⟩), .int .i64 x, .int .u64 (n64 m), .int .u64 (n64 k)] w (ErPost w F p (chRes C E x (fun v => sumM v m k)).1.2 (chRes C E x (fun v => sumM v m k)).2) := by
  have H := Lib.hid h
  skip
  have hlt := h.lt
  have hn0 : ¬ F w.heap.size := fun hf => by have := hlt _ hf; omega
  have hn1 : ¬ F (w.heap.size + 1) := fun hf => by have := hlt _ hf; omega
  have HD := Lib.hid (plus_does ((w.alloc (.cells #[.int .u64 (n64 m)] 33)).alloc (.cells #[.int .u64 (n64 k)] 33)) F w.heap.size (w.heap.size + 1) m k (by simp; omega) hn0 (by rw [World.cell?_alloc_lt _ _ _ (by simp)]; simp) (by simp) hn1 (by rw [← World.size_alloc w (.cells #[.int .u64 (n64 m)] 33), World.cell?_alloc_new]; rfl))
  have HC := Lib.hid (change_any ((h.box _).box _) x _ _ _ HD.out)
  clear h hlt hn0 hn1 HD
  go_enter Try.func37, Try.ntmps37
  go_wp2_with fail
  refine HC.out.mono ?_
  rintro e w' ⟨rfl, h2⟩
  have H2 := Lib.hid h2
  clear h2
  go_wp2
  go_ret
  exact ⟨rfl, ArTo.box H.out (ArTo.box (H.out.box _) H2.out)⟩

set_option maxHeartbeats 400000 in
theorem stick_any (h : Ar w F p C E) (x : Int) (m : BitVec 64) (hm : isM m = true) :
    Calls Try.prog 39 #[.pointer (some ⟨p, 0, none⟩), .int .i64 x, .int .u64 (n64 m)] w (ErPost w F p (chRes C E x (fun v => v ||| m)).1.2 (chRes C E x (fun v => v ||| m)).2) := by
  have H := Lib.hid h
  have HM := Lib.hid hm
  have hlt := h.lt
  have hn0 : ¬ F w.heap.size := fun hf => by have := hlt _ hf; omega
  have HD := Lib.hid (stick_does (w.alloc (.cells #[.int .u64 (n64 m)] 33)) F w.heap.size m (by simp) hn0 (by simp))
  have HC := Lib.hid (change_any (h.box _) x _ _ _ HD.out)
  clear h hm hlt hn0 HD
  go_enter Try.func39, Try.ntmps39
  go_wp2_with fail
  refine (is_any m _).mono ?_
  rintro e w' ⟨rfl, rfl⟩
  rw [HM.out]
  go_wp2_with fail
  refine HC.out.mono ?_
  rintro e w' ⟨rfl, h2⟩
  have H2 := Lib.hid h2
  clear h2
  go_wp2
  go_ret
  exact ⟨rfl, ArTo.box H.out H2.out⟩
theorem stick_arg (w : World) (a : Value) (x : Int) (m : BitVec 64) (hm : isM m = false) :
    Calls Try.prog 39 #[a, .int .i64 x, .int .u64 (n64 m)] w fun e w' => e = .returned (.int .i64 2) ∧ Off Nob w w' := by
  go_enter Try.func39, Try.ntmps39
  go_wp2_with fail
  refine (is_any m _).mono ?_
  rintro e w' ⟨rfl, rfl⟩
  rw [hm]
  go_wp2
  go_ret
  exact ⟨rfl, Off.alloc (Off.refl _ _) _⟩
/-- What Above returns, and leaves. -/
def abRes (C : List (BitVec 64)) (E : List Ev) (x : Int) (k : BitVec 64) : (BitVec 64 × Int) × (List (BitVec 64) × List Ev) :=
  if 0 ≤ x ∧ x < C.length then if E.length + 1 ≤ 8388608 then ((restM (cl C x.toNat) k, 0), (C, E ++ [(1, x.toNat)])) else ((0, 3), (C, E)) else ((0, 7), (C, E))
end
end Go.Proofs.Ytedbafgejladiaa

