/-
  masks.SwapRows and MoveRows.
-/
import Derived.Test.YtdgehacbpjgmcaaMaskRows
namespace Go.Proofs.Ytdgehacbpjgmcaa
open Go.RowKit
set_option maxRecDepth 100000

set_option maxHeartbeats 1000000 in
theorem swapRows_does (w : World) (F : Nat → Prop) (p b c x y n : Nat) (C : List (BitVec 64)) (E : List Ev) (m : BitVec 64) (hb : b < w.heap.size) (hf : ¬ F b) (hp : w.cell? ⟨b, 0, none⟩ = some (.pointer (some ⟨p, 0, none⟩))) (hc : c < w.heap.size) (hg : ¬ F c) (hm : w.cell? ⟨c, 0, none⟩ = some (.int .u64 (n64 m)))
    (hx : x + n ≤ C.length) (hy : y + n ≤ C.length) (he : E.length + 4 * n ≤ 8388608) :
    DoesR w F p C E x y n 4 81 #[.pointer (some ⟨b, 0, none⟩), .pointer (some ⟨c, 0, none⟩)] (swF m x y) := by
  refine ⟨fun _ _ => by kernel_rfl, fun w1 i hi ha hl1 hl2 => ?_⟩
  have hp1 : w1.cell? ⟨b, 0, none⟩ = some (.pointer (some ⟨p, 0, none⟩)) := (World.cell?_of_block (a := ⟨b, 0, none⟩) (ha.2.block b hb hf)).trans hp
  have hm1 : w1.cell? ⟨c, 0, none⟩ = some (.int .u64 (n64 m)) := (World.cell?_of_block (a := ⟨c, 0, none⟩) (ha.2.block c hc hg)).trans hm
  have HS := Lib.hid (swap_ok ha.1 m ((x : Int) + i) ((y : Int) + i) (by omega) (by rw [hl1]; omega) (by omega) (by rw [hl1]; omega) (by rw [hl2]; omega))
  have HR := Lib.hid (rep_succ (swF m x y) (C, E) i)
  clear ha hl1 hl2 hp hm
  go_enter Try.func81, Try.ntmps81
  go_wp2_with fail
  refine HS.out.mono ?_
  rintro e w2 ⟨rfl, h2⟩
  have H2 := Lib.hid h2
  clear h2
  go_wp2
  go_end0
  refine ⟨rfl, ?_⟩
  rw [HR.out]
  exact H2.out
set_option maxHeartbeats 1000000 in
theorem swapRows_any {w : World} {F : Nat → Prop} {p : Nat} {C : List (BitVec 64)} {E : List Ev} (h : Ar w F p C E) (m : BitVec 64) (x y n : Int) :
    Calls Try.prog 66 #[.pointer (some ⟨p, 0, none⟩), .int .u64 (n64 m), .int .i64 x, .int .i64 y, .int .i64 n] w (ErPost w F p (rwR C E m x y n 4 (swF m x.toNat y.toNat)).1 (rwR C E m x y n 4 (swF m x.toNat y.toNat)).2) := by
  have H := Lib.hid h
  have hlt := h.lt
  have hn0 : ¬ F w.heap.size := fun hf => by have := hlt _ hf; omega
  have hn1 : ¬ F (w.heap.size + 1) := fun hf => by have := hlt _ hf; omega
  have hb2 := (h.box (.cells #[.pointer (some ⟨p, 0, none⟩)] 24)).box (.cells #[.int .u64 (n64 m)] 28)
  by_cases hz : rwE C.length E.length m x y n 4 = 0
  · obtain ⟨_, g1, g2, g3, g4, g5, g6, _, g7⟩ := rwE_zero hz
    have g8 := roomE_zero g7
    obtain ⟨x, rfl⟩ := Int.eq_ofNat_of_zero_le g3
    obtain ⟨y, rfl⟩ := Int.eq_ofNat_of_zero_le g5
    obtain ⟨n, rfl⟩ := Int.eq_ofNat_of_zero_le (show 0 ≤ n by omega)
    have HR := Lib.hid (show rwR C E m x y n 4 (swF m x y) = (0, rep (swF m x y) (C, E) n) from by unfold rwR; rw [if_pos hz]; rfl)
    have HD := swapRows_does ((w.alloc (.cells #[.pointer (some ⟨p, 0, none⟩)] 24)).alloc (.cells #[.int .u64 (n64 m)] 28)) F p w.heap.size (w.heap.size + 1) x y n C E m (by simp; omega) hn0 (by rw [World.cell?_alloc_lt _ _ _ (by simp)]; simp) (by simp) hn1 (by rw [← World.size_alloc w (.cells #[.pointer (some ⟨p, 0, none⟩)] 24), World.cell?_alloc_new]; rfl) (by omega) (by omega) (by omega)
    have HO := Lib.hid (rows_ok hb2 m x y n 4 _ _ _ (fun i _ => rep_sw_len m x y (C, E) i) (by decide) HD hz)
    clear h hlt hn0 hn1 hb2 hz g1 g2 g3 g4 g5 g6 g7 g8 HD
    go_enter Try.func66, Try.ntmps66
    go_wp2_with fail
    refine HO.out.mono ?_
    rintro e w1 ⟨rfl, h1⟩
    have H1 := Lib.hid h1
    clear h1
    go_wp2
    go_ret
    rw [Int.toNat_natCast, Int.toNat_natCast, HR.out]
    exact ⟨rfl, ArTo.box H.out (ArTo.box (H.out.box _) H1.out)⟩
  · have HR := Lib.hid (show rwR C E m x y n 4 (swF m x.toNat y.toNat) = (rwE C.length E.length m x y n 4, (C, E)) from by unfold rwR; rw [if_neg hz])
    have HO := Lib.hid (rows_err hb2 m x y n 4 (.func (.func 81) #[] #[.pointer (some ⟨w.heap.size, 0, none⟩), .pointer (some ⟨w.heap.size + 1, 0, none⟩)]) (by decide) hz)
    clear h hlt hn0 hn1 hb2 hz
    go_enter Try.func66, Try.ntmps66
    go_wp2_with fail
    refine HO.out.mono ?_
    rintro e w1 ⟨rfl, h1⟩
    have H1 := Lib.hid h1
    clear h1
    go_wp2
    go_ret
    rw [HR.out]
    exact ⟨rfl, ArTo.box H.out (ArTo.box (H.out.box _) H1.out)⟩

end Go.Proofs.Ytdgehacbpjgmcaa
