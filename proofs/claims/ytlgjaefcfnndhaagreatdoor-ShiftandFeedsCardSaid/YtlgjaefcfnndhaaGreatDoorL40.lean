/-
 A set that came in, opened in whole; slices of bytes that came in.
-/
import Derived.Test.YtlgjaefcfnndhaaGreatDoorL39
import Derived.Test.YtlgjaefcfnndhaaGreatDoorL34
import Derived.Lib.LaidTab
set_option linter.unusedVariables false
set_option linter.unusedSimpArgs false
set_option maxHeartbeats 16000000
namespace Go.Proofs.YtlgjaefcfnndhaaGreatDoor
open Go.ChangeShapes Go.WideShapes Go.ChangeAt Go.RowKit Go.Deep
def qbw (L : List Nat) : List Value := L.map (fun x : Nat => Value.int .u8 (x : Int))
structure OSet (w : World) (VI VT VS VF : Value) (ids : List Int) (Wd : Int) (T S F : List Nat) : Prop where
 i : Rd w (Old w) 1 VI ids.length (ids.map (Value.int .i64))
 t : Rd w (Old w) 1 VT T.length (qab T)
 s : Rd w (Old w) 1 VS S.length (qab S)
 f : Rd w (Old w) 1 VF F.length (qab F)
 ct : CapOk VT
 cf : CapOk VF
 i64 : ∀ x ∈ ids, -9223372036854775808 ≤ x ∧ x ≤ 9223372036854775807
 w64 : -9223372036854775808 ≤ Wd ∧ Wd ≤ 9223372036854775807
 t64 : ∀ x ∈ T, x < 18446744073709551616
 s64 : ∀ x ∈ S, x < 18446744073709551616
 f64 : ∀ x ∈ F, x < 18446744073709551616
theorem OSet.setV {w w' : World} {VI VT VS VF : Value} {ids : List Int} {Wd : Int} {T S F : List Nat} (h : OSet w VI VT VS VF ids Wd T S F) (o : Off Nob w w') (hi : ids.length ≤ 4096) (ht : T.length ≤ 4096) (hs : S.length ≤ 4096) (hf : F.length ≤ 4096) : SetV w' VI VT VS VF ids Wd T S F :=
 ⟨h.i.any.keepT o, h.t.any.keepT o, h.s.any.keepT o, h.f.any.keepT o, h.ct, h.cf, h.i64, h.w64, h.t64, h.s64, h.f64, hi, ht, hs, hf⟩
theorem qpw {k : IntKind} : ∀ zs : List Int, (∀ z ∈ zs, 0 ≤ z) → zs.map (Value.int k) = (zs.map Int.toNat).map (fun x : Nat => Value.int k (x : Int)) := by
 intro zs h
 rw [List.map_map]
 apply List.map_congr_left
 intro z hz
 have := h z hz
 show Value.int k z = Value.int k ((z.toNat : Nat) : Int)
 rw [show ((z.toNat : Nat) : Int) = z by omega]
section
variable {H : Type} {enc : TypeId × Value → H} {P : Program} {w : World} {b0 base : Nat} {spare : Nat → Bool} {held : Bool} {r : Reach} {t : TypeId} {v : Value} {d : DataW H} {ps : List MemPlace}
theorem qr5 {fuel : Nat} {e : TypeId} {a : Value} {x : DataW H × List MemPlace} (ht : P.underlying t = some (.slice e)) (h : DataW.trod enc P w base spare held fuel t [a] = some x) : CapOk a := by
 intro A n c hv
 subst hv
 rcases DataW.trod_slice ht h with ⟨hc, _⟩ | ⟨b, len, cap, el, rs, m, _, hc, _, _, hl, _⟩
 ·simp at hc
  omega
 ·simp at hc
  omega
theorem qfu {k : IntKind} {fuel : Nat} {e : TypeId} {a : Value} {x : DataW H × List MemPlace} (ht : P.underlying t = some (.slice e)) (he : P.underlying e = some (.int k)) (hce : P.cellsOf e = 1) (h : DataW.trod enc P w base spare held fuel t [a] = some x) :
  ∃ zs : List Int, Rd w (Old w) 1 a zs.length (zs.map (Value.int k)) ∧ (∀ z ∈ zs, (Lit.int k z).wf = true) ∧ CapOk a := by
 have hc := qr5 ht h
 obtain ⟨v, n, zs, hv, hr, hz⟩ := qt6 ht he hce h
 simp at hv
 subst hv
 have hl : zs.length = n := by obtain ⟨_, _, _, _, hl, _⟩ := hr; simpa using hl
 subst hl
 exact ⟨zs, hr, hz, hc⟩
theorem qet {fuel : Nat} {e : TypeId} {a : Value} {x : DataW H × List MemPlace} (ht : P.underlying t = some (.slice e)) (he : P.underlying e = some (.int .u64)) (hce : P.cellsOf e = 1) (h : DataW.trod enc P w base spare held fuel t [a] = some x) :
  ∃ L : List Nat, Rd w (Old w) 1 a L.length (qab L) ∧ (∀ z ∈ L, z < 18446744073709551616) ∧ CapOk a := by
 obtain ⟨zs, hr, hz, hc⟩ := qfu ht he hce h
 rw [qpw zs (fun z hm => (bounds_u64 (hz z hm)).1)] at hr
 refine ⟨zs.map Int.toNat, by rw [List.length_map]; exact hr, fun z hm => ?_, hc⟩
 obtain ⟨y, hy, rfl⟩ := List.mem_map.1 hm
 have := bounds_u64 (hz y hy)
 omega
theorem qt7 {fuel : Nat} {e : TypeId} {a : Value} {x : DataW H × List MemPlace} (ht : P.underlying t = some (.slice e)) (he : P.underlying e = some (.int .u8)) (hce : P.cellsOf e = 1) (h : DataW.trod enc P w base spare held fuel t [a] = some x) :
  ∃ L : List Nat, Rd w (Old w) 1 a L.length (qbw L) ∧ (∀ z ∈ L, z < 256) ∧ CapOk a := by
 obtain ⟨zs, hr, hz, hc⟩ := qfu ht he hce h
 rw [qpw zs (fun z hm => (bounds_u8 (hz z hm)).1)] at hr
 refine ⟨zs.map Int.toNat, by rw [List.length_map]; exact hr, fun z hm => ?_, hc⟩
 obtain ⟨y, hy, rfl⟩ := List.mem_map.1 hm
 have := bounds_u8 (hz y hy)
 omega
theorem qox {fs : Array Field} {t0 t1 t2 t3 t4 e0 e2 e3 e4 : TypeId} (ht : P.underlying t = some (.struct fs)) (hc : P.cellsOf t = 5)
  (y0 : (fs[0]?).map (fun y => (y.offset, y.type)) = some (0, t0)) (y1 : (fs[1]?).map (fun y => (y.offset, y.type)) = some (1, t1)) (y2 : (fs[2]?).map (fun y => (y.offset, y.type)) = some (2, t2)) (y3 : (fs[3]?).map (fun y => (y.offset, y.type)) = some (3, t3)) (y4 : (fs[4]?).map (fun y => (y.offset, y.type)) = some (4, t4))
  (c0 : P.cellsOf t0 = 1) (c1 : P.cellsOf t1 = 1) (c2 : P.cellsOf t2 = 1) (c3 : P.cellsOf t3 = 1) (c4 : P.cellsOf t4 = 1)
  (u0 : P.underlying t0 = some (.slice e0)) (u1 : P.underlying t1 = some (.int .i64)) (u2 : P.underlying t2 = some (.slice e2)) (u3 : P.underlying t3 = some (.slice e3)) (u4 : P.underlying t4 = some (.slice e4))
  (v0 : P.underlying e0 = some (.int .i64)) (v2 : P.underlying e2 = some (.int .u64)) (v3 : P.underlying e3 = some (.int .u64)) (v4 : P.underlying e4 = some (.int .u64))
  (z0 : P.cellsOf e0 = 1) (z2 : P.cellsOf e2 = 1) (z3 : P.cellsOf e3 = 1) (z4 : P.cellsOf e4 = 1)
  (hval : Value.okWide P w r b0 t v) (hd : DataW.Trod enc P w base spare held t v d ps) :
  ∃ (VI VT VS VF : Value) (ids : List Int) (wd : Int) (T S F : List Nat), v = .agg #[VI, .int .i64 wd, VT, VS, VF] ∧ OSet w VI VT VS VF ids wd T S F := by
 obtain ⟨cs, rfl, hs⟩ : ∃ cs, v = .agg cs ∧ cs.size = P.cellsOf t := by
  unfold Value.okWide at hval
  rw [ht] at hval
  obtain ⟨cs, h1, h2, _⟩ := hval
  exact ⟨cs, h1, h2⟩
 obtain ⟨fuel, hf⟩ := hd
 rw [hc] at hs
 obtain ⟨ls, rfl⟩ : ∃ ls : List Value, cs = ls.toArray := ⟨cs.toList, by simp⟩
 match ls, hs with
 | [a, b, c, d, e], _ =>
  have hf2 : DataW.trod enc P w base spare held fuel t [a, b, c, d, e] = _ := hf
  obtain ⟨f0, x0, h0⟩ := qd2 ht hf2 0 0 1 t0 y0 c0
  obtain ⟨f1, x1, h1⟩ := qd2 ht hf2 1 1 1 t1 y1 c1
  obtain ⟨f2, x2, h2⟩ := qd2 ht hf2 2 2 1 t2 y2 c2
  obtain ⟨f3, x3, h3⟩ := qd2 ht hf2 3 3 1 t3 y3 c3
  obtain ⟨f4, x4, h4⟩ := qd2 ht hf2 4 4 1 t4 y4 c4
  simp only [List.drop_zero, List.drop_succ_cons, List.take_succ_cons, List.take_zero] at h0 h1 h2 h3 h4
  obtain ⟨ids, r0, w0, _⟩ := qfu u0 v0 z0 h0
  obtain ⟨q1, e1, o1⟩ := qhx 1 t1 0 (some .i64) (by unfold qeg; rw [u1]; rfl) f1 _ _ h1
  simp at e1
  subst e1
  obtain ⟨wd, rfl, wf⟩ := o1
  obtain ⟨T, r2, w2, k2⟩ := qet u2 v2 z2 h2
  obtain ⟨S, r3, w3, _⟩ := qet u3 v3 z3 h3
  obtain ⟨F, r4, w4, k4⟩ := qet u4 v4 z4 h4
  have hw := bounds_i64 wf
  exact ⟨a, c, d, e, ids, wd, T, S, F, rfl, r0, r2, r3, r4, k2, k4, fun x hx => by have := bounds_i64 (w0 x hx); omega, by omega, w2, w3, w4⟩
theorem qnu {e : TypeId} (ht : P.underlying t = some (.slice e)) (he : P.underlying e = some (.int .u8)) (hce : P.cellsOf e = 1) (hval : Value.okWide P w r b0 t v) (hd : DataW.Trod enc P w base spare held t v d ps) :
  ∃ L : List Nat, Rd w (Old w) 1 v L.length (qbw L) ∧ (∀ z ∈ L, z < 256) ∧ CapOk v := by
 obtain ⟨a, len, cap, rfl⟩ := okWide_slice ht hval
 obtain ⟨fuel, hf⟩ := hd
 exact qt7 ht he hce (by simpa [Value.cells] using hf)
end
end Go.Proofs.YtlgjaefcfnndhaaGreatDoor
