/-
 dragnetlaw18.Example.
-/
import Derived.Test.YtkflicifngohcaaGreatDoorM11
import Derived.Test.YtkflicifngohcaaGreatDoorM8
import Derived.Lib.SlBytesConst
import Derived.Test.YtkflicifngohcaaGreatDoorM25
import Derived.Test.YtkflicifngohcaaGreatDoorM26
import Derived.Test.YtkflicifngohcaaGreatDoorM5
import Derived.Test.YtkflicifngohcaaGreatDoorM3
import Derived.Great.BuildSlice
import Derived.Laws.Tables
set_option linter.unusedVariables false
set_option linter.unusedSimpArgs false
namespace Go.Proofs.YtkflicifngohcaaGreatDoor
open Go.RowKit
set_option maxRecDepth 100000
theorem rd_alloc (w : World) (xs : List Value) (t : TypeId) (size n : Nat) (hl : xs.length = n * size) (hn : n ≤ maxLen) : Rd (w.alloc (.cells xs.toArray t)) (fun _ => True) size (.slice (some ⟨w.heap.size, 0, none⟩) n n) n xs :=
 ⟨_, _, rfl, hn, hl, fun _ => ⟨w.heap.size, 0, rfl, trivial, by simp, fun j u hu => by rw [← add_addr]; exact cell_lit w xs t j u hu⟩⟩
set_option maxHeartbeats 1000000 in
theorem co_example (w : World) : Calls Tryz.prog 38 #[] w fun e w' => ∃ v va vb, e = .returned v ∧ Rd w' (fun _ => True) 2 v 2 [.int .i64 5, va, .int .i64 9, vb] ∧ Rd w' (fun _ => True) 8 va 1 el_a ∧ Rd w' (fun _ => True) 8 vb 1 el_b ∧ Off Nob w w' := by
 go_enter Tryz.func38, Tryz.ntmps38
 go_wp2_with fail
 have hcv := Lib.run_convert_bytes_const (P := Tryz.prog) (w.alloc (.cells #[.int .i64 1, .string ⟨#[97, 98]⟩, .int .u64 0, .int .u64 0, .int .u64 0, .int .u64 0, .int .i64 0, .int .i64 0] 148)) 26 5 #[.int .u8 97, .int .u8 98] 2 2 Tryz.underlying26 Tryz.underlying5
 rw [World.size_alloc] at hcv
 rw [hcv]
 clear hcv
 go_wp2_with fail
 have X2 : Hid (Off Nob w ((w.alloc (.cells #[.int .i64 1, .string ⟨#[97, 98]⟩, .int .u64 0, .int .u64 0, .int .u64 0, .int .u64 0, .int .i64 0, .int .i64 0] 148)).alloc (.cells #[.int .u8 97, .int .u8 98] 5 (2, 3)))) := hID ((Off.alloc (Off.refl _ _) _).alloc _)
 have RA : Hid (Rd ((w.alloc (.cells #[.int .i64 1, .string ⟨#[97, 98]⟩, .int .u64 0, .int .u64 0, .int .u64 0, .int .u64 0, .int .i64 0, .int .i64 0] 148)).alloc (.cells #[.int .u8 97, .int .u8 98] 5 (2, 3))) (fun _ => True) 8 (.slice (some ⟨w.heap.size, 0, none⟩) 1 1) 1 el_a) := hID ⟨_, _, rfl, by decide, rfl, fun _ => ⟨w.heap.size, 0, rfl, trivial, by simp; omega, fun j u hu => by rw [Nat.zero_add, cell_of_row _ w.heap.size j #[.int .i64 1, .string ⟨#[97, 98]⟩, .int .u64 0, .int .u64 0, .int .u64 0, .int .u64 0, .int .i64 0, .int .i64 0] 148 (0, 0) ((Blk.new w 148 #[.int .i64 1, .string ⟨#[97, 98]⟩, .int .u64 0, .int .u64 0, .int .u64 0, .int .u64 0, .int .i64 0, .int .i64 0]).alloc _)]; simpa [el_a] using hu⟩⟩
 have RC : Hid (Rd ((w.alloc (.cells #[.int .i64 1, .string ⟨#[97, 98]⟩, .int .u64 0, .int .u64 0, .int .u64 0, .int .u64 0, .int .i64 0, .int .i64 0] 148)).alloc (.cells #[.int .u8 97, .int .u8 98] 5 (2, 3))) (fun _ => True) 1 (.slice (some ⟨w.heap.size + 1, 0, none⟩) 2 2) 2 [.int .u8 97, .int .u8 98]) := hID ⟨_, _, rfl, by decide, rfl, fun _ => ⟨w.heap.size + 1, 0, rfl, trivial, by simp, fun j u hu => by
  have h : ((w.alloc (.cells #[.int .i64 1, .string ⟨#[97, 98]⟩, .int .u64 0, .int .u64 0, .int .u64 0, .int .u64 0, .int .i64 0, .int .i64 0] 148)).alloc (.cells #[.int .u8 97, .int .u8 98] 5 (2, 3))).heap[w.heap.size + 1]? = some (.cells #[.int .u8 97, .int .u8 98] 5 (2, 3)) := by
   have := heap_alloc_new (w.alloc (.cells #[.int .i64 1, .string ⟨#[97, 98]⟩, .int .u64 0, .int .u64 0, .int .u64 0, .int .u64 0, .int .i64 0, .int .i64 0] 148)) (.cells #[.int .u8 97, .int .u8 98] 5 (2, 3))
   rwa [World.size_alloc] at this
  rw [Nat.zero_add, cell_of_row _ (w.heap.size + 1) j #[.int .u8 97, .int .u8 98] 5 (2, 3) h]
  simpa using hu⟩⟩
 revert X2 RA RC
 generalize ((w.alloc (.cells #[.int .i64 1, .string ⟨#[97, 98]⟩, .int .u64 0, .int .u64 0, .int .u64 0, .int .u64 0, .int .i64 0, .int .i64 0] 148)).alloc (.cells #[.int .u8 97, .int .u8 98] 5 (2, 3))) = w2
 intro X2 RA RC
 refine (co_of_ab _ _ RC.out).mono ?_
 rintro e w3 ⟨rfl, o3⟩
 have X3 := hID (X2.out.also o3)
 have RA3 := hID (RA.out.keepT o3)
 clear o3 RC RA X2
 go_wp2_with fail
 have R1 := rd_alloc w3 el_b 148 8 1 rfl (by decide)
 have o1 : Off Nob w3 (w3.alloc (.cells el_b.toArray 148)) := Off.alloc (Off.refl _ _) _
 have R2 := rd_alloc (w3.alloc (.cells el_b.toArray 148)) [.int .i64 5, .slice (some ⟨w.heap.size, 0, none⟩) 1 1, .int .i64 9, .slice (some ⟨w3.heap.size, 0, none⟩) 1 1] 143 2 2 rfl (by decide)
 rw [World.size_alloc] at R2
 have o2 : Off Nob (w3.alloc (.cells el_b.toArray 148)) ((w3.alloc (.cells el_b.toArray 148)).alloc (.cells [.int .i64 5, .slice (some ⟨w.heap.size, 0, none⟩) 1 1, .int .i64 9, .slice (some ⟨w3.heap.size, 0, none⟩) 1 1].toArray 143)) := Off.alloc (Off.refl _ _) _
 go_ret
 exact ⟨_, _, _, rfl, R2, (RA3.out.keepT (o1.also o2)), R1.keepT o2, X3.out.also (o1.also o2)⟩
end Go.Proofs.YtkflicifngohcaaGreatDoor

namespace Go.Proofs.YtkflicifngohcaaGreatDoor
open Go.RowKit
set_option maxRecDepth 100000
def exT : List Ev := (List.range 256).map (fun i => (1, i)) ++ [(2, 260), (1, 256), (1, 260), (1, 259), (2, 259), (1, 257), (1, 259), (2, 261), (1, 258), (1, 259), (2, 262)]
theorem exT_eq : (byE11 ([] ++ exE)).drop 260 = exT := by kernel_rfl
theorem exE_len : (([] : List Ev) ++ exE).length = 260 := by kernel_rfl
theorem exT_len : exT.length = 267 := by simp [exT]
theorem exT_lo (k : Nat) (h : k < 256) : evAt exT k = (1, k) := by simp [evAt, exT, List.getD_eq_getElem?_getD, List.getElem?_append, h]
theorem ex4_259 : exC4.getD 259 0 = 5#64 := by kernel_rfl
theorem ex4_261 : exC4.getD 261 0 = 0#64 := by kernel_rfl
theorem ex4_262 : exC4.getD 262 0 = 18446744073709551615#64 := by kernel_rfl
def wantC : List Value := [.int .i32 2, .int .i32 260, .int .i32 1, .int .i32 256, .int .i32 1, .int .i32 260, .int .i32 1, .int .i32 259, .int .i32 2, .int .i32 259, .int .i32 1, .int .i32 257, .int .i32 1, .int .i32 259, .int .i32 2, .int .i32 261, .int .i32 1, .int .i32 258, .int .i32 1, .int .i32 259, .int .i32 2, .int .i32 262]
def wantE : List Ev := [(2, 260), (1, 256), (1, 260), (1, 259), (2, 259), (1, 257), (1, 259), (2, 261), (1, 258), (1, 259), (2, 262)]
theorem wantE_len : wantE.length = 11 := rfl
theorem want_evs : evs wantE = wantC := by kernel_rfl
theorem want_at (k : Nat) (h : k < 11) : evAt exT (256 + k) = evAt wantE k := by
 have e : ∀ k : Fin 11, evAt exT (256 + k.val) = evAt wantE k.val := by decide
 exact e ⟨k, h⟩
theorem rrow_ex (w : World) : Calls Tryz.prog 13 #[.int .i64 1, .int .i64 2, .int .i64 0] w fun e w' => e = .returned (.tuple #[.agg #[.int .i64 1, .int .i64 2, .int .i64 0, .int .i64 256, .int .i64 257, .int .i64 259, .int .i64 260, .int .i64 261], .int .i64 263]) ∧ Off Nob w w' := rrow 1 2 0 (by decide) (by decide) (by decide) (by decide) (by decide) (by decide) w
theorem steps_ex (w : World) : Calls Tryz.prog 27 #[.int .i64 1, .int .i64 2] w fun e w' => e = .returned (.tuple #[.int .i64 260, .int .i64 267, .int .i64 0]) ∧ w = w' := nsteps_yes 1 2 (by decide) (by decide) (by decide) (by decide) w
theorem new_ex (w : World) : Calls Tryz.prog 14 #[.int .i64 263] w fun e w' => ∃ p, e = .returned (.tuple #[.pointer (some ⟨p, 0, none⟩), .int .i64 0]) ∧ ∃ F, Ar w' F p (List.replicate 263 0) [] ∧ Off Nob w w' ∧ ∀ k, F k → w.heap.size ≤ k := new_ok 263 w (by decide) (by decide)
theorem rd_far {w w' : World} {F : Nat → Prop} {size n : Nat} {v : Value} {xs : List Value} (h : Rd w (fun _ => True) size v n xs) (o : Off Nob w w') (hF : ∀ k, F k → w.heap.size ≤ k) : Rd w' (fun k => ¬ F k) size v n xs := by
 obtain ⟨A, c, rfl, h1, h2, h3⟩ := h.keep o (fun _ _ hn => hn)
 obtain ⟨A', c', he, _, _, h4⟩ := h
 cases he
 refine ⟨A, c, rfl, h1, h2, fun hn => ?_⟩
 obtain ⟨b, of, rfl, _, h5, h6⟩ := h3 hn
 obtain ⟨b', of', he, _, h7, _⟩ := h4 hn
 cases he
 exact ⟨b, of, rfl, fun hf => by have := hF b hf; omega, h5, h6⟩
def exEa : List Ev := [] ++ exE
def exEb : List Ev := byE11 exEa
theorem exEa_len : exEa.length = 260 := exE_len
theorem exEb_len : exEb.length = 527 := by unfold exEb; rw [byE11_len, exEa_len]
theorem exEb_drop : exEb.drop 260 = exT := exT_eq
theorem setup_shown (w : World) (F : Nat → Prop) (p : Nat) (h : Ar w F p (List.replicate 263 0) []) (VI VT VS VF : Value) (hs : ExSet w VI VT VS VF)
  (hT : Rd w (fun k => ¬ F k) 1 VT 256 (tabV 256)) (hS : Rd w (fun k => ¬ F k) 1 VS 1 [.int .u64 5]) (hF : Rd w (fun k => ¬ F k) 1 VF 2 [.int .u64 2, .int .u64 4]) (hZ : TzT w) :
  Calls Tryz.prog 15 #[.pointer (some ⟨p, 0, none⟩), .agg #[.int .i64 1, .int .i64 2, .int .i64 0, .int .i64 256, .int .i64 257, .int .i64 259, .int .i64 260, .int .i64 261], .agg #[VI, .int .i64 1, VT, VS, VF]] w fun e w' => e = .returned (.int .i64 0) ∧ ArTo w F p exC0 exEa w' := by
 have h1 : ([] : List Ev).length + 260 < 8388608 := by decide
 have := nsetup_ex w F p (List.replicate 263 0) [] h (List.length_replicate ..) h1 VI VT VS VF hs hT hS hF hZ
 unfold exL Lay.val at this
 unfold exC0 exEa
 exact this
theorem byte_shown (w : World) (F : Nat → Prop) (p : Nat) (h : Ar w F p exC0 exEa) :
  Calls Tryz.prog 16 #[.pointer (some ⟨p, 0, none⟩), .agg #[.int .i64 1, .int .i64 2, .int .i64 0, .int .i64 256, .int .i64 257, .int .i64 259, .int .i64 260, .int .i64 261], .int .u64 97, .int .u64 18446744073709551615] w fun e w' => e = .returned (.int .i64 0) ∧ ArTo w F p exC4 exEb w' := by
 have h1 : exEa.length + 267 < 8388608 := by rw [exEa_len]; decide
 have := nbyte_ex w F p exEa h h1
 unfold exL Lay.val at this
 unfold exEb
 exact this
theorem steps_shown (w : World) (F : Nat → Prop) (p : Nat) (h : Ar w F p exC0 exEa) : Calls Tryz.prog 32 #[.pointer (some ⟨p, 0, none⟩)] w fun e w' => e = .returned (.int .i64 260) ∧ w = w' := by
 have h2 := steps_any h
 rw [exEa_len] at h2
 exact h2
theorem since_shown (w : World) (F : Nat → Prop) (p : Nat) (h : Ar w F p exC4 exEb) : Calls Tryz.prog 34 #[.pointer (some ⟨p, 0, none⟩), .int .i64 260] w (NewE2 w exT) := by
 have h1 : 260 ≤ exEb.length := by rw [exEb_len]; decide
 have h2 := since_ok h 260 h1
 rw [exEb_drop] at h2
 exact h2
theorem want_size : (Tryz.prog.info? 106).map (·.size) = some wantC.toArray.size := by kernel_rfl
theorem want_len : (#[.int .i32 0, .int .i32 0, .int .i32 0, .int .i32 0, .int .i32 0, .int .i32 0, .int .i32 0, .int .i32 0, .int .i32 0, .int .i32 0, .int .i32 0, .int .i32 0, .int .i32 0, .int .i32 0, .int .i32 0, .int .i32 0, .int .i32 0, .int .i32 0, .int .i32 0, .int .i32 0, .int .i32 0, .int .i32 0] : Array Value).size = wantC.toArray.size := by kernel_rfl
theorem want_one : wantC.toArray.all (·.oneCell') = true := by kernel_rfl
set_option maxHeartbeats 4000000 in
theorem shown_true (w : World) (hZ : TzT w) : Calls Tryz.prog 12 #[] w fun e w' => e = .returned (.bool true) ∧ Off Nob w w' := by
 have HZ := hID hZ
 clear hZ
 go_enter Tryz.func12, Tryz.ntmps12
 go_wp2_with fail
 refine (co_example w).mono ?_
 rintro e w1 ⟨v, va, vb, rfl, h1, h2, h3, o1⟩
 have HK := hID (co_compile w1 v va vb h1 h2 h3)
 have hvf : ∃ A c, v = .slice A 2 c := by
  obtain ⟨A, c, rfl, _⟩ := h1.form
  exact ⟨A, c, rfl⟩
 obtain ⟨A0, c0, rfl⟩ := hvf
 have X1 := hID o1
 clear h1 h2 h3 o1
 go_wp2_with fail
 refine HK.out.mono ?_
 rintro e w2 ⟨ids, tab, st, fi, rfl, hi, ht, hs, hf, hc1, hc2, o2⟩
 have HS : Hid (ExSet w2 ids tab st fi) := hID ⟨hi, ht, hs, hf, hc1, hc2⟩
 obtain ⟨AI, ci, rfl, _⟩ := hi.form
 obtain ⟨AT, ct, rfl, _⟩ := ht.form
 obtain ⟨AS, cs, rfl, _⟩ := hs.form
 obtain ⟨AF, cf, rfl, _⟩ := hf.form
 have X2 := hID (X1.out.also o2)
 clear hi ht hs hf hc1 hc2 o2 X1 HK
 go_wp2_with fail
 have X3 : Hid (Off Nob w2 (w2.alloc (.cells #[.slice AI 2 ci, .int .i64 1, .slice AT 256 ct, .slice AS 1 cs, .slice AF 2 cf] 25)) ∧ Blk (w2.alloc (.cells #[.slice AI 2 ci, .int .i64 1, .slice AT 256 ct, .slice AS 1 cs, .slice AF 2 cf] 25)) w2.heap.size 25 #[.slice AI 2 ci, .int .i64 1, .slice AT 256 ct, .slice AS 1 cs, .slice AF 2 cf]) := hID ⟨(Off.refl _ _).alloc _, Blk.new _ _ _⟩
 refine (rrow_ex _).mono ?_
 rintro e w3 ⟨rfl, o3⟩
 have X4 : Hid (Off Nob w2 (w3.alloc (.cells #[.int .i64 1, .int .i64 2, .int .i64 0, .int .i64 256, .int .i64 257, .int .i64 259, .int .i64 260, .int .i64 261] 33)) ∧ Blk (w3.alloc (.cells #[.int .i64 1, .int .i64 2, .int .i64 0, .int .i64 256, .int .i64 257, .int .i64 259, .int .i64 260, .int .i64 261] 33)) w2.heap.size 25 #[.slice AI 2 ci, .int .i64 1, .slice AT 256 ct, .slice AS 1 cs, .slice AF 2 cf] ∧ Blk (w3.alloc (.cells #[.int .i64 1, .int .i64 2, .int .i64 0, .int .i64 256, .int .i64 257, .int .i64 259, .int .i64 260, .int .i64 261] 33)) w3.heap.size 33 #[.int .i64 1, .int .i64 2, .int .i64 0, .int .i64 256, .int .i64 257, .int .i64 259, .int .i64 260, .int .i64 261]) := hID ⟨(X3.out.1.also o3).alloc _, (X3.out.2.to (o3.block _ X3.out.2.lt id)).alloc _, Blk.new _ _ _⟩
 clear o3 X3
 go_wp2_with fail
 refine (new_ex _).mono ?_
 rintro e w5 ⟨p, rfl, F, hA, o5, hF⟩
 have HF := hID hF
 have HA := hID hA
 have X5 : Hid (Off Nob w2 w5 ∧ Blk w5 w2.heap.size 25 #[.slice AI 2 ci, .int .i64 1, .slice AT 256 ct, .slice AS 1 cs, .slice AF 2 cf] ∧ Blk w5 w3.heap.size 33 #[.int .i64 1, .int .i64 2, .int .i64 0, .int .i64 256, .int .i64 257, .int .i64 259, .int .i64 260, .int .i64 261] ∧ w2.heap.size < (w3.alloc (.cells #[.int .i64 1, .int .i64 2, .int .i64 0, .int .i64 256, .int .i64 257, .int .i64 259, .int .i64 260, .int .i64 261] 33)).heap.size ∧ w3.heap.size < (w3.alloc (.cells #[.int .i64 1, .int .i64 2, .int .i64 0, .int .i64 256, .int .i64 257, .int .i64 259, .int .i64 260, .int .i64 261] 33)).heap.size ∧ Off Nob (w3.alloc (.cells #[.int .i64 1, .int .i64 2, .int .i64 0, .int .i64 256, .int .i64 257, .int .i64 259, .int .i64 260, .int .i64 261] 33)) w5) := hID ⟨X4.out.1.also o5, X4.out.2.1.to (o5.block _ X4.out.2.1.lt id), X4.out.2.2.to (o5.block _ X4.out.2.2.lt id), X4.out.2.1.lt, X4.out.2.2.lt, o5⟩
 have GC : Hid (∀ W, Off F w5 W → W.cell? ⟨w3.heap.size, 0, none⟩ = some (.int .i64 1) ∧ W.cell? ⟨w3.heap.size, 1, none⟩ = some (.int .i64 2) ∧ W.cell? ⟨w3.heap.size, 2, none⟩ = some (.int .i64 0) ∧ W.cell? ⟨w3.heap.size, 3, none⟩ = some (.int .i64 256) ∧ W.cell? ⟨w3.heap.size, 4, none⟩ = some (.int .i64 257) ∧ W.cell? ⟨w3.heap.size, 5, none⟩ = some (.int .i64 259) ∧ W.cell? ⟨w3.heap.size, 6, none⟩ = some (.int .i64 260) ∧ W.cell? ⟨w3.heap.size, 7, none⟩ = some (.int .i64 261) ∧ W.cell? ⟨w2.heap.size, 0, none⟩ = some (.slice AI 2 ci) ∧ W.cell? ⟨w2.heap.size, 1, none⟩ = some (.int .i64 1) ∧ W.cell? ⟨w2.heap.size, 2, none⟩ = some (.slice AT 256 ct) ∧ W.cell? ⟨w2.heap.size, 3, none⟩ = some (.slice AS 1 cs) ∧ W.cell? ⟨w2.heap.size, 4, none⟩ = some (.slice AF 2 cf)) := hID (fun W o => by
  have k1 := X5.out.2.2.1.to (o.block _ X5.out.2.2.1.lt (fun h => by have := HF.out _ h; have := X5.out.2.2.2.2.1; omega))
  have k2 := X5.out.2.1.to (o.block _ X5.out.2.1.lt (fun h => by have := HF.out _ h; have := X5.out.2.2.2.1; omega))
  exact ⟨k1.cell 0, k1.cell 1, k1.cell 2, k1.cell 3, k1.cell 4, k1.cell 5, k1.cell 6, k1.cell 7, k2.cell 0, k2.cell 1, k2.cell 2, k2.cell 3, k2.cell 4⟩)
 have HSU : Hid (Calls Tryz.prog 15 #[.pointer (some ⟨p, 0, none⟩), .agg #[.int .i64 1, .int .i64 2, .int .i64 0, .int .i64 256, .int .i64 257, .int .i64 259, .int .i64 260, .int .i64 261], .agg #[.slice AI 2 ci, .int .i64 1, .slice AT 256 ct, .slice AS 1 cs, .slice AF 2 cf]] w5 fun e w' => e = .returned (.int .i64 0) ∧ ArTo w5 F p exC0 exEa w') := hID (by
  have hFF : ∀ k, F k → w2.heap.size ≤ k := fun k hk => by have := HF.out k hk; have := X4.out.1.size; omega
  exact setup_shown w5 F p hA _ _ _ _ (HS.out.keep X5.out.1) (rd_far HS.out.t X5.out.1 hFF) (rd_far HS.out.s X5.out.1 hFF) (rd_far HS.out.f X5.out.1 hFF) (tz_keep HZ.out (X2.out.also X5.out.1)))
 clear hA o5 hF X4
 obtain ⟨l0, l1, l2, l3, l4, l5, l6, l7, s0, s1, s2, s3, s4⟩ := GC.out _ (Off.refl _ _)
 go_wp2_with fail
 refine (steps_ex _).mono ?_
 rintro e w' ⟨rfl, rfl⟩
 go_wp2_with fail
 refine HSU.out.mono ?_
 rintro e w6 ⟨rfl, a6⟩
 have Y6 := hID a6
 clear l0 l1 l2 l3 l4 l5 l6 l7 s0 s1 s2 s3 s4
 clear a6 HSU
 obtain ⟨l0, l1, l2, l3, l4, l5, l6, l7, s0, s1, s2, s3, s4⟩ := GC.out _ (Y6.out.2)
 go_wp2_with fail
 have HST := hID (steps_shown w6 _ p Y6.out.1)
 refine HST.out.mono ?_
 rintro e w' ⟨rfl, rfl⟩
 go_wp2_with fail
 have HBY := hID (byte_shown w6 _ p Y6.out.1)
 refine HBY.out.mono ?_
 rintro e w7 ⟨rfl, a7⟩
 have Y7 := hID (Y6.out.trans a7)
 clear l0 l1 l2 l3 l4 l5 l6 l7 s0 s1 s2 s3 s4
 clear a7 HBY HST
 go_wp2_with fail
 have HSI := hID (since_shown w7 _ p Y7.out.1)
 refine HSI.out.mono ?_
 rintro e w8 ⟨t, rfl, ht, o8⟩
 have HT := hID ht
 have ht2 := Rd.own (F := fun _ => True) ht (fun _ _ => trivial)
 obtain ⟨bt, ot, ct2, rfl, hct⟩ := ht2.cellsT (by rw [exT_len]; decide)
 have HC := hID hct
 rw [exT_len]
 have Y8 := hID (Y7.out.nob o8)
 clear ht ht2 hct o8 HSI
 go_wp2_with (first
  | (refine wpList_buildTo rfl 106 _ rfl _ rfl wantC.toArray (by kernel_rfl) ?_)
  | (refine wpList_store_row rfl 106 _ _ rfl w8.heap.size wantC.toArray ?x1 ?x2 106 #[.int .i32 0, .int .i32 0, .int .i32 0, .int .i32 0, .int .i32 0, .int .i32 0, .int .i32 0, .int .i32 0, .int .i32 0, .int .i32 0, .int .i32 0, .int .i32 0, .int .i32 0, .int .i32 0, .int .i32 0, .int .i32 0, .int .i32 0, .int .i32 0, .int .i32 0, .int .i32 0, .int .i32 0, .int .i32 0] ?x3 ?x4 ?x5 ?x6 ?_))
 case x1 => rfl
 case x2 => rfl
 case x3 => exact heap_alloc_new _ _
 case x4 => exact want_size
 case x5 => exact want_len
 case x6 => exact want_one
 have X9 : Hid (Off Nob w8 ((w8.alloc (.cells #[.int .i32 0, .int .i32 0, .int .i32 0, .int .i32 0, .int .i32 0, .int .i32 0, .int .i32 0, .int .i32 0, .int .i32 0, .int .i32 0, .int .i32 0, .int .i32 0, .int .i32 0, .int .i32 0, .int .i32 0, .int .i32 0, .int .i32 0, .int .i32 0, .int .i32 0, .int .i32 0, .int .i32 0, .int .i32 0] 106)).setRow w8.heap.size wantC.toArray) ∧ Blk ((w8.alloc (.cells #[.int .i32 0, .int .i32 0, .int .i32 0, .int .i32 0, .int .i32 0, .int .i32 0, .int .i32 0, .int .i32 0, .int .i32 0, .int .i32 0, .int .i32 0, .int .i32 0, .int .i32 0, .int .i32 0, .int .i32 0, .int .i32 0, .int .i32 0, .int .i32 0, .int .i32 0, .int .i32 0, .int .i32 0, .int .i32 0] 106)).setRow w8.heap.size wantC.toArray) w8.heap.size 106 wantC.toArray) := hID ⟨off_setRow (Off.alloc (Off.refl _ _) _) (Nat.le_refl _) _, setRow_heap _ _ _ _ _ _ (heap_alloc_new _ _)⟩
 revert X9
 obtain ⟨bw, hbw⟩ : ∃ bw, w8.heap.size = bw := ⟨_, rfl⟩
 generalize ((w8.alloc (.cells #[.int .i32 0, .int .i32 0, .int .i32 0, .int .i32 0, .int .i32 0, .int .i32 0, .int .i32 0, .int .i32 0, .int .i32 0, .int .i32 0, .int .i32 0, .int .i32 0, .int .i32 0, .int .i32 0, .int .i32 0, .int .i32 0, .int .i32 0, .int .i32 0, .int .i32 0, .int .i32 0, .int .i32 0, .int .i32 0] 106)).setRow w8.heap.size wantC.toArray) = w9
 rw [hbw]
 intro X9
 clear hbw
 have Y9 := hID (Y8.out.nob X9.out.1)
 go_loopw [0, 12] (fun q i wr => ∃ k : Nat, q = .bool false ∧ k ≤ 256 ∧ i = .int .i64 k ∧ wr = w9) (fun q i _ => 256 - (intOf i).toNat)
 case atStart => exact ⟨0, rfl, by decide, rfl, rfl⟩
 case round =>
  obtain ⟨k, rfl, hk, rfl, rfl⟩ := hrel
  by_cases hlt : k < 256
  ·have d1 : decide ((k : Int) < 256) = true := decide_eq_true (by omega)
   have hev := evs_at exT k (by rw [exT_len]; omega)
   rw [exT_lo k hlt] at hev
   have e1 : wr.cell? ⟨bt, ot + k * 2, none⟩ = some (.int .i32 1) := by rw [Nat.mul_comm]; exact HC.out _ X9.out.1 _ _ hev.1
   have e2 : wr.cell? ⟨bt, ot + k * 2 + 1, none⟩ = some (.int .i32 (k : Int)) := by rw [Nat.mul_comm, Nat.add_assoc]; exact HC.out _ X9.out.1 _ _ hev.2
   clear hev
   go_wp2_with fail
   go_roundw
   case rel => exact ⟨k + 1, rfl, by omega, by go_num, trivial⟩
   case measure => simp [intOf]; omega
  ·obtain rfl : k = 256 := by omega
   obtain ⟨wo, rfl⟩ : ∃ wo : World, wo = wr := ⟨_, rfl⟩
   go_wp2_with fail
   go_loopw [0, 13] (fun q i wq => ∃ k : Nat, q = .bool false ∧ k ≤ 11 ∧ i = .int .i64 k ∧ Off Nob wo wq) (fun q i _ => 11 - (intOf i).toNat)
   case atStart => exact ⟨0, rfl, by decide, rfl, Off.refl _ _⟩
   case round =>
    obtain ⟨k, rfl, hk2, rfl, ho⟩ := hrel
    have HO := hID ho
    clear ho
    by_cases hlt2 : k < 11
    ·have d1 : decide ((k : Int) < 11) = true := decide_eq_true (by omega)
     have hev := evs_at exT (256 + k) (by rw [exT_len]; omega)
     have hew := evs_at wantE k (by rw [wantE_len]; omega)
     rw [want_at k hlt2] at hev
     rw [want_evs] at hew
     have hb := X9.out.2.to (HO.out.block _ X9.out.2.lt id)
     have e1 : wr.cell? ⟨bt, ot + (256 + k) * 2, none⟩ = some (.int .i32 ((evAt wantE k).1 : Int)) := by rw [Nat.mul_comm]; exact HC.out _ (X9.out.1.also HO.out) _ _ hev.1
     have e2 : wr.cell? ⟨bt, ot + (256 + k) * 2 + 1, none⟩ = some (.int .i32 ((evAt wantE k).2 : Int)) := by rw [Nat.mul_comm, Nat.add_assoc]; exact HC.out _ (X9.out.1.also HO.out) _ _ hev.2
     have e3 : wr.cell? ⟨bw, k * 2, none⟩ = some (.int .i32 ((evAt wantE k).1 : Int)) := by rw [Nat.mul_comm]; exact (hb.cell _).trans (by simpa using hew.1)
     have e4 : wr.cell? ⟨bw, k * 2 + 1, none⟩ = some (.int .i32 ((evAt wantE k).2 : Int)) := by rw [Nat.mul_comm]; exact (hb.cell _).trans (by simpa using hew.2)
     clear hev hew hb
     revert e1 e2 e3 e4
     generalize ((evAt wantE k).1 : Int) = a1
     generalize ((evAt wantE k).2 : Int) = a2
     intro e1 e2 e3 e4
     go_wp2_with fail
     go_quiet (fail)
     go_wp2_with fail
     go_roundw
     case rel => exact ⟨k + 1, rfl, by omega, by go_num, HO.out.drewN _⟩
     case measure => simp [intOf]; omega
    ·obtain rfl : k = 11 := by omega
     have YA := hID (Y9.out.nob HO.out)
     go_wp2_with fail
     refine (cells_ok YA.out.1).mono ?_
     rintro e wc ⟨u, rfl, hu, oc⟩
     rw [exC4_len] at hu
     have hu2 := Rd.own (F := fun _ => True) hu (fun _ _ => trivial)
     obtain ⟨bu, ou, cu, rfl, hcu⟩ := hu2.cellsT (by decide)
     have d1 : wc.cell? ⟨bu, ou + 259, none⟩ = some (.int .u64 5) := by
      have h := hcu wc (Off.refl _ _) 259 _ (getElem_u64s exC4 259 (by rw [exC4_len]; decide))
      unfold cl at h
      rw [ex4_259] at h
      exact h
     have d2 : wc.cell? ⟨bu, ou + 261, none⟩ = some (.int .u64 0) := by
      have h := hcu wc (Off.refl _ _) 261 _ (getElem_u64s exC4 261 (by rw [exC4_len]; decide))
      unfold cl at h
      rw [ex4_261] at h
      exact h
     have d3 : wc.cell? ⟨bu, ou + 262, none⟩ = some (.int .u64 18446744073709551615) := by
      have h := hcu wc (Off.refl _ _) 262 _ (getElem_u64s exC4 262 (by rw [exC4_len]; decide))
      unfold cl at h
      rw [ex4_262] at h
      exact h
     have YB := hID (YA.out.nob oc)
     clear hu hu2 hcu oc YA
     go_wp2_with fail
     go_ret
     refine ⟨rfl, ?_⟩
     have h0 := X2.out.also X5.out.1
     exact Off.own h0 YB.out.2 (fun k hk => by have := HF.out k hk; have := X2.out.size; have := X5.out.2.2.2.2.1; have := X5.out.2.2.2.1; omega)
end Go.Proofs.YtkflicifngohcaaGreatDoor

namespace Go.Proofs.YtkflicifngohcaaGreatDoor
open Go.RowKit
set_option maxRecDepth 100000
set_option maxHeartbeats 2000000 in
theorem rparts_yes (l : Lay) (a1 : 1 ≤ l.a) (a4 : l.a ≤ 4) (b1 : 1 ≤ l.b) (b16 : l.b ≤ 16) (w : World) :
  Calls Tryz.prog 101 #[.agg #[.int .i64 l.a, .int .i64 l.b, .int .i64 l.t, .int .i64 l.s, .int .i64 l.f, .int .i64 l.st, .int .i64 l.n, .int .i64 l.h]] w fun e w' => ∃ g, e = .returned (.slice (some ⟨g, 0, none⟩) 6 6) ∧ Blk w' g 171 #[.int .i64 l.t, .int .i64 (256 * l.a), .int .i64 l.s, .int .i64 l.a, .int .i64 l.f, .int .i64 (l.b * l.a), .int .i64 l.st, .int .i64 l.a, .int .i64 l.n, .int .i64 l.a, .int .i64 l.h, .int .i64 l.b] ∧ Off Nob w w' := by
 have hba0 : 0 ≤ l.b * l.a := Int.mul_nonneg (by omega) (by omega)
 have hba1 : l.b * l.a ≤ 64 := by
  have : l.a = 1 ∨ l.a = 2 ∨ l.a = 3 ∨ l.a = 4 := by omega
  rcases this with e | e | e | e <;> rw [e] <;> omega
 obtain ⟨q, hq⟩ : ∃ q, l.b * l.a = q := ⟨_, rfl⟩
 have HQ := hID hq
 have X0 : Hid (Off Nob w (w.alloc (.cells #[.int .i64 l.a, .int .i64 l.b, .int .i64 l.t, .int .i64 l.s, .int .i64 l.f, .int .i64 l.st, .int .i64 l.n, .int .i64 l.h] 33)) ∧ Blk (w.alloc (.cells #[.int .i64 l.a, .int .i64 l.b, .int .i64 l.t, .int .i64 l.s, .int .i64 l.f, .int .i64 l.st, .int .i64 l.n, .int .i64 l.h] 33)) w.heap.size 33 #[.int .i64 l.a, .int .i64 l.b, .int .i64 l.t, .int .i64 l.s, .int .i64 l.f, .int .i64 l.st, .int .i64 l.n, .int .i64 l.h]) := hID ⟨(Off.refl _ _).alloc _, Blk.new _ _ _⟩
 have c0 := X0.out.2.cell 0
 have c1 := X0.out.2.cell 1
 have c2 := X0.out.2.cell 2
 have c3 := X0.out.2.cell 3
 have c4 := X0.out.2.cell 4
 have c5 := X0.out.2.cell 5
 have c6 := X0.out.2.cell 6
 have c7 := X0.out.2.cell 7
 go_enter Tryz.func101, Tryz.ntmps101
 go_wp2_with fail
 go_ret
 exact ⟨_, rfl, by rw [HQ.out]; exact blk_second _ _ _ _, X0.out.1.alloc _⟩
end Go.Proofs.YtkflicifngohcaaGreatDoor

namespace Go.Proofs.YtkflicifngohcaaGreatDoor
open Go.RowKit
set_option maxRecDepth 100000
def fitA (n : Nat) (P : List (Int × Int)) : Bool := (List.range 6).all fun k => decide (hasE n (pAt P k).1 (pAt P k).2 = 0)
theorem fitA_iff {n : Nat} {P : List (Int × Int)} : fitA n P = true ↔ ∀ k, k < 6 → hasE n (pAt P k).1 (pAt P k).2 = 0 := by
 unfold fitA
 rw [List.all_eq_true]
 exact ⟨fun h k hk => of_decide_eq_true (h k (List.mem_range.2 hk)), fun h k hk => decide_eq_true (h k (List.mem_range.1 hk))⟩
def askE (n : Nat) (l : Lay) : Int :=
 if 1 ≤ l.a ∧ l.a ≤ 4 ∧ 1 ≤ l.b ∧ l.b ≤ 16 then
  if fitA n l.parts = true then if apAll l.parts = true then 0 else 2 else 7
 else 7
theorem hasE_or (n : Nat) (x k : Int) : hasE n x k = 0 ∨ hasE n x k = 7 := by
 unfold hasE
 split
 ·exact .inr rfl
 ·exact .inl rfl
theorem hasE_fit {n : Nat} {x k : Int} (h : hasE n x k = 0) : 0 ≤ x ∧ 0 ≤ k ∧ x + k ≤ n := by
 unfold hasE at h
 split at h
 ·exact absurd h (by decide)
 ·omega
theorem askE_ok {n : Nat} {l : Lay} (h : askE n l = 0) : l.Ok n := by
 unfold askE at h
 split at h
 ·rename_i h1
  split at h
  ·rename_i h2
   split at h
   ·rename_i h3
    exact ⟨h1.1, h1.2.1, h1.2.2.1, h1.2.2.2, fun k hk => hasE_fit (fitA_iff.1 h2 k hk), h3⟩
   ·exact absurd h (by decide)
  ·exact absurd h (by decide)
 ·exact absurd h (by decide)
theorem askE_no (n : Nat) {l : Lay} (h : ¬ (1 ≤ l.a ∧ l.a ≤ 4 ∧ 1 ≤ l.b ∧ l.b ≤ 16)) : askE n l = 7 := by
 unfold askE
 rw [if_neg h]
theorem askE_bad {n : Nat} {l : Lay} {k : Nat} (hk : k < 6) (h : hasE n (pAt l.parts k).1 (pAt l.parts k).2 ≠ 0) : askE n l = 7 := by
 unfold askE
 by_cases h1 : 1 ≤ l.a ∧ l.a ≤ 4 ∧ 1 ≤ l.b ∧ l.b ≤ 16
 ·rw [if_pos h1, if_neg (fun h2 => h (fitA_iff.1 h2 k hk))]
 ·rw [if_neg h1]
theorem askE_all {n : Nat} {l : Lay} (h1 : 1 ≤ l.a ∧ l.a ≤ 4 ∧ 1 ≤ l.b ∧ l.b ≤ 16) (h : ∀ k, k < 6 → hasE n (pAt l.parts k).1 (pAt l.parts k).2 = 0) : askE n l = if apAll l.parts = true then 0 else 2 := by
 unfold askE
 rw [if_pos h1, if_pos (fitA_iff.2 h)]
theorem askE_nat {n : Nat} {l : Lay} (h : askE n l = 0) : ∃ L : LayN, L.lay = l ∧ L.In n ∧ L.lay.Ok n := by
 have hk := askE_ok h
 obtain ⟨a, b, t, s, f, st, nn, hh⟩ := l
 have p0 := hk.pos 0 (by decide)
 have p1 := hk.pos 1 (by decide)
 have p2 := hk.pos 2 (by decide)
 have p3 := hk.pos 3 (by decide)
 have p4 := hk.pos 4 (by decide)
 have p5 := hk.pos 5 (by decide)
 have a1 := hk.a1
 have a4 := hk.a4
 have b1 := hk.b1
 have b16 := hk.b16
 simp only [Lay.parts, pAt, List.getD_cons_zero, List.getD_cons_succ] at p0 p1 p2 p3 p4 p5 a1 a4 b1 b16
 have e : LayN.lay ⟨a.toNat, b.toNat, t.toNat, s.toNat, f.toNat, st.toNat, nn.toNat, hh.toNat⟩ = ⟨a, b, t, s, f, st, nn, hh⟩ := by
  simp only [LayN.lay, Lay.mk.injEq]
  omega
 have hba : ((b.toNat * a.toNat : Nat) : Int) = b * a := by
  rw [Int.natCast_mul, Int.toNat_of_nonneg (by omega), Int.toNat_of_nonneg (by omega)]
 refine ⟨⟨a.toNat, b.toNat, t.toNat, s.toNat, f.toNat, st.toNat, nn.toNat, hh.toNat⟩, e, ⟨?_, ?_, ?_, ?_, ?_, ?_, ?_, ?_, ?_, ?_⟩, by rw [e]; exact hk⟩ <;> simp only <;> omega
theorem askE_ne {c : Int} (h : c ≠ 0) : (c == 0) = false ∧ (c != 0) = true := by
 have h1 : (c == 0) = false := by rw [beq_eq_false_iff_ne]; exact h
 exact ⟨h1, by unfold bne; rw [h1]; rfl⟩
set_option maxHeartbeats 4000000 in
theorem begin_err (l : Lay) {w : World} {F : Nat → Prop} {p : Nat} {C : List (BitVec 64)} {E : List Ev} (h : Ar w F p C E) (hne : askE C.length l ≠ 0) (steps : Int) (fn : Fn) (bs caps : Array Value) :
  Calls Tryz.prog 40 #[.pointer (some ⟨p, 0, none⟩), .agg #[.int .i64 l.a, .int .i64 l.b, .int .i64 l.t, .int .i64 l.s, .int .i64 l.f, .int .i64 l.st, .int .i64 l.n, .int .i64 l.h], .int .i64 steps, .func fn bs caps] w fun e w' => e = .returned (.tuple #[.pointer none, .int .i64 (askE C.length l)]) ∧ Off Nob w w' := by
 have hC := h.n2
 have HA : Hid (∀ W, Off Nob w W → Ar W F p C E) := hID (fun W o => h.keep o (fun _ _ hn => hn))
 clear h
 have X0 : Hid (Off Nob w (w.alloc (.cells #[.int .i64 l.a, .int .i64 l.b, .int .i64 l.t, .int .i64 l.s, .int .i64 l.f, .int .i64 l.st, .int .i64 l.n, .int .i64 l.h] 33)) ∧ Blk (w.alloc (.cells #[.int .i64 l.a, .int .i64 l.b, .int .i64 l.t, .int .i64 l.s, .int .i64 l.f, .int .i64 l.st, .int .i64 l.n, .int .i64 l.h] 33)) w.heap.size 33 #[.int .i64 l.a, .int .i64 l.b, .int .i64 l.t, .int .i64 l.s, .int .i64 l.f, .int .i64 l.st, .int .i64 l.n, .int .i64 l.h]) := hID ⟨(Off.refl _ _).alloc _, Blk.new _ _ _⟩
 have GC : Hid (∀ W, Off Nob (w.alloc (.cells #[.int .i64 l.a, .int .i64 l.b, .int .i64 l.t, .int .i64 l.s, .int .i64 l.f, .int .i64 l.st, .int .i64 l.n, .int .i64 l.h] 33)) W → W.cell? ⟨w.heap.size, 0, none⟩ = some (.int .i64 l.a) ∧ W.cell? ⟨w.heap.size, 1, none⟩ = some (.int .i64 l.b) ∧ W.cell? ⟨w.heap.size, 2, none⟩ = some (.int .i64 l.t) ∧ W.cell? ⟨w.heap.size, 3, none⟩ = some (.int .i64 l.s) ∧ W.cell? ⟨w.heap.size, 4, none⟩ = some (.int .i64 l.f) ∧ W.cell? ⟨w.heap.size, 5, none⟩ = some (.int .i64 l.st) ∧ W.cell? ⟨w.heap.size, 6, none⟩ = some (.int .i64 l.n) ∧ W.cell? ⟨w.heap.size, 7, none⟩ = some (.int .i64 l.h)) := hID (fun W o => by
  have h := X0.out.2.to (o.block _ X0.out.2.lt id)
  exact ⟨h.cell 0, h.cell 1, h.cell 2, h.cell 3, h.cell 4, h.cell 5, h.cell 6, h.cell 7⟩)
 by_cases hr : 1 ≤ l.a ∧ l.a ≤ 4 ∧ 1 ≤ l.b ∧ l.b ≤ 16
 ·have HLW : Hid ((∀ k, k < 6 → hasE C.length (pAt l.parts k).1 (pAt l.parts k).2 ≠ 0 → askE C.length l = 7) ∧ ((∀ k, k < 6 → hasE C.length (pAt l.parts k).1 (pAt l.parts k).2 = 0) → apAll l.parts = false ∧ askE C.length l = 2)) := hID ⟨fun k hk h => askE_bad hk h, fun h => by
   have e := askE_all hr h
   by_cases ha : apAll l.parts = true
   ·rw [if_pos ha] at e
    exact absurd e hne
   ·rw [if_neg ha] at e
    exact ⟨by simpa using ha, e⟩⟩
  obtain ⟨a1, a4, b1, b16⟩ := hr
  clear hne
  obtain ⟨c, hc⟩ : ∃ c, askE C.length l = c := ⟨_, rfl⟩
  rw [hc] at HLW ⊢
  clear hc
  have hba0 : 0 ≤ l.b * l.a := Int.mul_nonneg (by omega) (by omega)
  have hba1 : l.b * l.a ≤ 64 := by
   have : l.a = 1 ∨ l.a = 2 ∨ l.a = 3 ∨ l.a = 4 := by omega
   rcases this with e | e | e | e <;> rw [e] <;> omega
  have HR : Hid (∀ W, Calls Tryz.prog 74 #[.int .i64 l.a, .int .i64 l.b] W fun e w' => e = .returned (.bool true) ∧ W = w') := hID (fun W => nright_yes l.a l.b a1 a4 b1 b16 W)
  obtain ⟨q, hq⟩ : ∃ q, l.b * l.a = q := ⟨_, rfl⟩
  have HQ := hID hq
  go_enter Tryz.func40, Tryz.ntmps40
  go_wp2_with fail
  revert X0 GC
  generalize (w.alloc (.cells #[.int .i64 l.a, .int .i64 l.b, .int .i64 l.t, .int .i64 l.s, .int .i64 l.f, .int .i64 l.st, .int .i64 l.n, .int .i64 l.h] 33)) = w0
  intro X0 GC
  refine (HR.out _).mono ?_
  rintro e w1 ⟨rfl, rfl⟩
  obtain ⟨c0, c1, c2, c3, c4, c5, c6, c7⟩ := GC.out _ (Off.refl _ _)
  go_wp2_with fail
  clear c0 c1 c2 c3 c4 c5 c6 c7
  obtain ⟨N, hN⟩ : ∃ N, w0.heap.size = N := ⟨_, rfl⟩
  have X1 : Hid (Off Nob w (w0.alloc (.cells #[.int .i64 l.t, .int .i64 (256 * l.a), .int .i64 l.s, .int .i64 l.a, .int .i64 l.f, .int .i64 q, .int .i64 l.st, .int .i64 l.a, .int .i64 l.n, .int .i64 l.a, .int .i64 l.h, .int .i64 l.b] 155)) ∧ Blk (w0.alloc (.cells #[.int .i64 l.t, .int .i64 (256 * l.a), .int .i64 l.s, .int .i64 l.a, .int .i64 l.f, .int .i64 q, .int .i64 l.st, .int .i64 l.a, .int .i64 l.n, .int .i64 l.a, .int .i64 l.h, .int .i64 l.b] 155)) N 155 #[.int .i64 l.t, .int .i64 (256 * l.a), .int .i64 l.s, .int .i64 l.a, .int .i64 l.f, .int .i64 q, .int .i64 l.st, .int .i64 l.a, .int .i64 l.n, .int .i64 l.a, .int .i64 l.h, .int .i64 l.b]) := hID ⟨X0.out.1.alloc _, by rw [← hN]; exact Blk.new _ _ _⟩
  rw [hN]
  revert X1
  generalize w0.alloc (.cells #[.int .i64 l.t, .int .i64 (256 * l.a), .int .i64 l.s, .int .i64 l.a, .int .i64 l.f, .int .i64 q, .int .i64 l.st, .int .i64 l.a, .int .i64 l.n, .int .i64 l.a, .int .i64 l.h, .int .i64 l.b] 155) = w1
  intro X1
  clear hN
  have HPC : Hid (partC l.parts = (#[.int .i64 l.t, .int .i64 (256 * l.a), .int .i64 l.s, .int .i64 l.a, .int .i64 l.f, .int .i64 q, .int .i64 l.st, .int .i64 l.a, .int .i64 l.n, .int .i64 l.a, .int .i64 l.h, .int .i64 l.b] : Array Value).toList ∧ l.parts.length = 6) := hID (by rw [← HQ.out]; exact ⟨rfl, rfl⟩)
  obtain ⟨P, hPe⟩ : ∃ P, l.parts = P := ⟨_, rfl⟩
  rw [hPe] at HPC HLW
  clear hPe
  have HC : Hid (∀ W, Off Nob w1 W → ∀ k, k < 6 → W.cell? ⟨N, k * 2, none⟩ = some (.int .i64 (pAt P k).1) ∧ W.cell? ⟨N, k * 2 + 1, none⟩ = some (.int .i64 (pAt P k).2)) := hID (fun W o k hk => by
   obtain ⟨e1, e2⟩ := partC_at P k (by rw [HPC.out.2]; exact hk)
   rw [HPC.out.1, Nat.mul_comm 2 k] at e1 e2
   have hb := X1.out.2.to (o.block _ X1.out.2.lt id)
   exact ⟨(hb.cell _).trans (by simpa using e1), (hb.cell _).trans (by simpa using e2)⟩)
  go_loopw [59] (fun p wr => ∃ k : Nat, p = .int .i64 (k : Int) ∧ k ≤ 6 ∧ Off Nob w1 wr ∧ ∀ j, j < k → hasE C.length (pAt P j).1 (pAt P j).2 = 0) (fun p wr => 6 - (intOf p).toNat)
  case atStart => exact ⟨0, rfl, by decide, Off.refl _ _, fun j hj => by omega⟩
  case round =>
   obtain ⟨k, rfl, hk, ho, hall⟩ := hrel
   have HO := hID (And.intro ho hall)
   clear ho hall
   by_cases hlt : k < 6
   ·have d1 : decide ((k : Int) < 6) = true := decide_eq_true (by omega)
    obtain ⟨c0, c1⟩ := HC.out _ HO.out.1 k hlt
    obtain ⟨x, y, hxy⟩ : ∃ x y, pAt P k = (x, y) := ⟨_, _, rfl⟩
    have HXY := hID hxy
    rw [hxy] at c0 c1
    clear hxy
    have HO2 := hID (HO.out.1.alloc (.cells #[.int .i64 x, .int .i64 y] 155))
    have HX := hID (Blk.new wr 155 #[.int .i64 x, .int .i64 y])
    have x0 := HX.out.cell 0
    have x1 := HX.out.cell 1
    have hh := has_any (HA.out _ (X1.out.1.also HO2.out)) x y
    rcases hasE_or C.length x y with hz | hz
    ·have HN0 : Hid (hasE C.length (pAt P k).1 (pAt P k).2 = 0) := hID (by rw [HXY.out]; exact hz)
     rw [hz] at hh
     have HH := hID hh
     clear hh hz
     go_wp2_with fail
     refine HH.out.mono ?_
     rintro e w2 ⟨rfl, rfl⟩
     go_wp2_with fail
     go_roundw
     case rel => exact ⟨k + 1, rfl, by omega, HO2.out, fun j hj => by
      by_cases e : j = k
      ·rw [e]; exact HN0.out
      ·exact HO.out.2 j (by omega)⟩
     case measure => simp [intOf]; omega
    ·have HN7 : Hid (hasE C.length (pAt P k).1 (pAt P k).2 ≠ 0) := hID (by rw [HXY.out]; intro e; rw [hz] at e; exact absurd e (by decide))
     rw [hz] at hh
     have HH := hID hh
     clear hh hz
     go_wp2_with fail
     refine HH.out.mono ?_
     rintro e w2 ⟨rfl, rfl⟩
     go_wp2_with fail
     go_ret2
     exact ⟨by rw [HLW.out.1 k hlt HN7.out]; rfl, X1.out.1.also HO2.out⟩
   ·obtain rfl : k = 6 := by omega
    go_wp2_with fail
    have HPR := hID (npairs P (fun k hk => by
     have := hasE_fit (HO.out.2 k (by have := HPC.out.2; omega))
     omega) (by rw [HPC.out.2]; decide) (by rw [HPC.out.2]; decide) wr (.slice (some ⟨N, 0, none⟩) 6 6) (by
     rw [HPC.out.2, HPC.out.1]
     exact rd_blk (X1.out.2.to (HO.out.1.block _ X1.out.2.lt id)) rfl (by decide)) (fun A n c he => by cases he; exact Nat.le_refl _))
    have hlw := HLW.out.2 HO.out.2
    have HL2 := hID hlw.2
    rw [hlw.1] at HPR
    clear hlw
    refine HPR.out.mono ?_
    rintro e w2 ⟨rfl, o2⟩
    have Y1 := hID (HO.out.1.also o2)
    clear o2 HPR HO
    go_wp2_with fail
    go_ret2
    exact ⟨by rw [HL2.out]; rfl, X1.out.1.also Y1.out⟩
 ·have HE := hID (askE_no C.length hr)
  have HR : Hid (∀ W, Calls Tryz.prog 74 #[.int .i64 l.a, .int .i64 l.b] W fun e w' => e = .returned (.bool false) ∧ W = w') := hID (fun W => nright_no l.a l.b hr W)
  rw [HE.out]
  clear hr
  go_enter Tryz.func40, Tryz.ntmps40
  go_wp2_with fail
  revert X0 GC
  generalize (w.alloc (.cells #[.int .i64 l.a, .int .i64 l.b, .int .i64 l.t, .int .i64 l.s, .int .i64 l.f, .int .i64 l.st, .int .i64 l.n, .int .i64 l.h] 33)) = w0
  intro X0 GC
  refine (HR.out _).mono ?_
  rintro e w1 ⟨rfl, rfl⟩
  go_wp2_with fail
  go_ret2
  exact ⟨rfl, X0.out.1⟩
set_option maxHeartbeats 4000000 in
theorem begin_askA (l : Lay) {w : World} {F : Nat → Prop} {p : Nat} {C : List (BitVec 64)} {E : List Ev} (h : Ar w F p C E) (hl : l.Ok C.length) (steps : Int) (fn : FuncId) (caps : Array Value) (hf : (fn = 41 ∧ ∃ sa la : Addr, caps = #[.pointer (some sa), .pointer (some la)]) ∨ (fn = 45 ∧ ∃ ma : Addr, caps = #[.pointer (some ma)])) (c : Int) (hc : c ≠ 0) (hask : ∀ W, Off Nob w W → Calls Tryz.prog fn caps W (RetV W (.int .i64 c))) :
  Calls Tryz.prog 40 #[.pointer (some ⟨p, 0, none⟩), .agg #[.int .i64 l.a, .int .i64 l.b, .int .i64 l.t, .int .i64 l.s, .int .i64 l.f, .int .i64 l.st, .int .i64 l.n, .int .i64 l.h], .int .i64 steps, .func (.func fn) #[] caps] w fun e w' => e = .returned (.tuple #[.pointer none, .int .i64 (c)]) ∧ Off Nob w w' := by
 have hC := h.n2
 have HA : Hid (∀ W, Off Nob w W → Ar W F p C E) := hID (fun W o => h.keep o (fun _ _ hn => hn))
 clear h
 have X0 : Hid (Off Nob w (w.alloc (.cells #[.int .i64 l.a, .int .i64 l.b, .int .i64 l.t, .int .i64 l.s, .int .i64 l.f, .int .i64 l.st, .int .i64 l.n, .int .i64 l.h] 33)) ∧ Blk (w.alloc (.cells #[.int .i64 l.a, .int .i64 l.b, .int .i64 l.t, .int .i64 l.s, .int .i64 l.f, .int .i64 l.st, .int .i64 l.n, .int .i64 l.h] 33)) w.heap.size 33 #[.int .i64 l.a, .int .i64 l.b, .int .i64 l.t, .int .i64 l.s, .int .i64 l.f, .int .i64 l.st, .int .i64 l.n, .int .i64 l.h]) := hID ⟨(Off.refl _ _).alloc _, Blk.new _ _ _⟩
 have GC : Hid (∀ W, Off Nob (w.alloc (.cells #[.int .i64 l.a, .int .i64 l.b, .int .i64 l.t, .int .i64 l.s, .int .i64 l.f, .int .i64 l.st, .int .i64 l.n, .int .i64 l.h] 33)) W → W.cell? ⟨w.heap.size, 0, none⟩ = some (.int .i64 l.a) ∧ W.cell? ⟨w.heap.size, 1, none⟩ = some (.int .i64 l.b) ∧ W.cell? ⟨w.heap.size, 2, none⟩ = some (.int .i64 l.t) ∧ W.cell? ⟨w.heap.size, 3, none⟩ = some (.int .i64 l.s) ∧ W.cell? ⟨w.heap.size, 4, none⟩ = some (.int .i64 l.f) ∧ W.cell? ⟨w.heap.size, 5, none⟩ = some (.int .i64 l.st) ∧ W.cell? ⟨w.heap.size, 6, none⟩ = some (.int .i64 l.n) ∧ W.cell? ⟨w.heap.size, 7, none⟩ = some (.int .i64 l.h)) := hID (fun W o => by
  have h := X0.out.2.to (o.block _ X0.out.2.lt id)
  exact ⟨h.cell 0, h.cell 1, h.cell 2, h.cell 3, h.cell 4, h.cell 5, h.cell 6, h.cell 7⟩)
 have hr : 1 ≤ l.a ∧ l.a ≤ 4 ∧ 1 ≤ l.b ∧ l.b ≤ 16 := ⟨hl.a1, hl.a4, hl.b1, hl.b16⟩
 have HLW : Hid ((∀ k, k < 6 → hasE C.length (pAt l.parts k).1 (pAt l.parts k).2 = 0) ∧ apAll l.parts = true) := hID ⟨fun k hk => by
  obtain ⟨z1, z2, z3⟩ := hl.pos k hk
  unfold hasE
  rw [if_neg (by omega)], hl.apart⟩
 have HK := hID hask
 obtain ⟨a1, a4, b1, b16⟩ := hr
 obtain ⟨hc1, hc2⟩ := askE_ne hc
 clear hl hask hc
 have hba0 : 0 ≤ l.b * l.a := Int.mul_nonneg (by omega) (by omega)
 have hba1 : l.b * l.a ≤ 64 := by
  have : l.a = 1 ∨ l.a = 2 ∨ l.a = 3 ∨ l.a = 4 := by omega
  rcases this with e | e | e | e <;> rw [e] <;> omega
 have HR : Hid (∀ W, Calls Tryz.prog 74 #[.int .i64 l.a, .int .i64 l.b] W fun e w' => e = .returned (.bool true) ∧ W = w') := hID (fun W => nright_yes l.a l.b a1 a4 b1 b16 W)
 obtain ⟨q, hq⟩ : ∃ q, l.b * l.a = q := ⟨_, rfl⟩
 have HQ := hID hq
 go_enter Tryz.func40, Tryz.ntmps40
 go_wp2_with fail
 revert X0 GC
 generalize (w.alloc (.cells #[.int .i64 l.a, .int .i64 l.b, .int .i64 l.t, .int .i64 l.s, .int .i64 l.f, .int .i64 l.st, .int .i64 l.n, .int .i64 l.h] 33)) = w0
 intro X0 GC
 refine (HR.out _).mono ?_
 rintro e w1 ⟨rfl, rfl⟩
 obtain ⟨c0, c1, c2, c3, c4, c5, c6, c7⟩ := GC.out _ (Off.refl _ _)
 go_wp2_with fail
 clear c0 c1 c2 c3 c4 c5 c6 c7
 obtain ⟨N, hN⟩ : ∃ N, w0.heap.size = N := ⟨_, rfl⟩
 have X1 : Hid (Off Nob w (w0.alloc (.cells #[.int .i64 l.t, .int .i64 (256 * l.a), .int .i64 l.s, .int .i64 l.a, .int .i64 l.f, .int .i64 q, .int .i64 l.st, .int .i64 l.a, .int .i64 l.n, .int .i64 l.a, .int .i64 l.h, .int .i64 l.b] 155)) ∧ Blk (w0.alloc (.cells #[.int .i64 l.t, .int .i64 (256 * l.a), .int .i64 l.s, .int .i64 l.a, .int .i64 l.f, .int .i64 q, .int .i64 l.st, .int .i64 l.a, .int .i64 l.n, .int .i64 l.a, .int .i64 l.h, .int .i64 l.b] 155)) N 155 #[.int .i64 l.t, .int .i64 (256 * l.a), .int .i64 l.s, .int .i64 l.a, .int .i64 l.f, .int .i64 q, .int .i64 l.st, .int .i64 l.a, .int .i64 l.n, .int .i64 l.a, .int .i64 l.h, .int .i64 l.b]) := hID ⟨X0.out.1.alloc _, by rw [← hN]; exact Blk.new _ _ _⟩
 rw [hN]
 revert X1
 generalize w0.alloc (.cells #[.int .i64 l.t, .int .i64 (256 * l.a), .int .i64 l.s, .int .i64 l.a, .int .i64 l.f, .int .i64 q, .int .i64 l.st, .int .i64 l.a, .int .i64 l.n, .int .i64 l.a, .int .i64 l.h, .int .i64 l.b] 155) = w1
 intro X1
 clear hN
 have HPC : Hid (partC l.parts = (#[.int .i64 l.t, .int .i64 (256 * l.a), .int .i64 l.s, .int .i64 l.a, .int .i64 l.f, .int .i64 q, .int .i64 l.st, .int .i64 l.a, .int .i64 l.n, .int .i64 l.a, .int .i64 l.h, .int .i64 l.b] : Array Value).toList ∧ l.parts.length = 6) := hID (by rw [← HQ.out]; exact ⟨rfl, rfl⟩)
 obtain ⟨P, hPe⟩ : ∃ P, l.parts = P := ⟨_, rfl⟩
 rw [hPe] at HPC HLW
 clear hPe
 have HC : Hid (∀ W, Off Nob w1 W → ∀ k, k < 6 → W.cell? ⟨N, k * 2, none⟩ = some (.int .i64 (pAt P k).1) ∧ W.cell? ⟨N, k * 2 + 1, none⟩ = some (.int .i64 (pAt P k).2)) := hID (fun W o k hk => by
  obtain ⟨e1, e2⟩ := partC_at P k (by rw [HPC.out.2]; exact hk)
  rw [HPC.out.1, Nat.mul_comm 2 k] at e1 e2
  have hb := X1.out.2.to (o.block _ X1.out.2.lt id)
  exact ⟨(hb.cell _).trans (by simpa using e1), (hb.cell _).trans (by simpa using e2)⟩)
 go_loopw [59] (fun p wr => ∃ k : Nat, p = .int .i64 (k : Int) ∧ k ≤ 6 ∧ Off Nob w1 wr ∧ ∀ j, j < k → hasE C.length (pAt P j).1 (pAt P j).2 = 0) (fun p wr => 6 - (intOf p).toNat)
 case atStart => exact ⟨0, rfl, by decide, Off.refl _ _, fun j hj => by omega⟩
 case round =>
  obtain ⟨k, rfl, hk, ho, hall⟩ := hrel
  have HO := hID (And.intro ho hall)
  clear ho hall
  by_cases hlt : k < 6
  ·have d1 : decide ((k : Int) < 6) = true := decide_eq_true (by omega)
   obtain ⟨c0, c1⟩ := HC.out _ HO.out.1 k hlt
   obtain ⟨x, y, hxy⟩ : ∃ x y, pAt P k = (x, y) := ⟨_, _, rfl⟩
   have HXY := hID hxy
   rw [hxy] at c0 c1
   clear hxy
   have HO2 := hID (HO.out.1.alloc (.cells #[.int .i64 x, .int .i64 y] 155))
   have HX := hID (Blk.new wr 155 #[.int .i64 x, .int .i64 y])
   have x0 := HX.out.cell 0
   have x1 := HX.out.cell 1
   have hh := has_any (HA.out _ (X1.out.1.also HO2.out)) x y
   rcases hasE_or C.length x y with hz | hz
   ·have HN0 : Hid (hasE C.length (pAt P k).1 (pAt P k).2 = 0) := hID (by rw [HXY.out]; exact hz)
    rw [hz] at hh
    have HH := hID hh
    clear hh hz
    go_wp2_with fail
    refine HH.out.mono ?_
    rintro e w2 ⟨rfl, rfl⟩
    go_wp2_with fail
    go_roundw
    case rel => exact ⟨k + 1, rfl, by omega, HO2.out, fun j hj => by
     by_cases e : j = k
     ·rw [e]; exact HN0.out
     ·exact HO.out.2 j (by omega)⟩
    case measure => simp [intOf]; omega
   ·have HN7 : Hid (hasE C.length (pAt P k).1 (pAt P k).2 ≠ 0) := hID (by rw [HXY.out]; intro e; rw [hz] at e; exact absurd e (by decide))
    rw [hz] at hh
    have HH := hID hh
    clear hh hz
    exact absurd (HLW.out.1 k hlt) HN7.out
  ·obtain rfl : k = 6 := by omega
   go_wp2_with fail
   have HPR := hID (npairs P (fun k hk => by
    have := hasE_fit (HO.out.2 k (by have := HPC.out.2; omega))
    omega) (by rw [HPC.out.2]; decide) (by rw [HPC.out.2]; decide) wr (.slice (some ⟨N, 0, none⟩) 6 6) (by
    rw [HPC.out.2, HPC.out.1]
    exact rd_blk (X1.out.2.to (HO.out.1.block _ X1.out.2.lt id)) rfl (by decide)) (fun A n c he => by cases he; exact Nat.le_refl _))
   rw [HLW.out.2] at HPR
   refine HPR.out.mono ?_
   rintro e w2 ⟨rfl, o2⟩
   have Y1 := hID (HO.out.1.also o2)
   clear o2 HPR HO
   rcases hf with ⟨rfl, sa, la, rfl⟩ | ⟨rfl, ma, rfl⟩
   all_goals
    go_wp2_with fail
    refine (HK.out _ (X1.out.1.also Y1.out)).mono ?_
    rintro e w3 ⟨rfl, o2⟩
    have Y2 := hID (Y1.out.also o2)
    clear o2 Y1
    go_wp2_with fail
    go_ret2
    exact ⟨rfl, X1.out.1.also Y2.out⟩
theorem begin_askS (l : Lay) {w : World} {F : Nat → Prop} {p : Nat} {C : List (BitVec 64)} {E : List Ev} (h : Ar w F p C E) (hl : l.Ok C.length) (steps : Int) (sa la : Addr) (c : Int) (hc : c ≠ 0) (hask : ∀ W, Off Nob w W → Calls Tryz.prog 41 #[.pointer (some sa), .pointer (some la)] W (RetV W (.int .i64 c))) :
  Calls Tryz.prog 40 #[.pointer (some ⟨p, 0, none⟩), .agg #[.int .i64 l.a, .int .i64 l.b, .int .i64 l.t, .int .i64 l.s, .int .i64 l.f, .int .i64 l.st, .int .i64 l.n, .int .i64 l.h], .int .i64 steps, .func (.func 41) #[] #[.pointer (some sa), .pointer (some la)]] w fun e w' => e = .returned (.tuple #[.pointer none, .int .i64 (c)]) ∧ Off Nob w w' := begin_askA l h hl steps 41 #[.pointer (some sa), .pointer (some la)] (.inl ⟨rfl, sa, la, rfl⟩) c hc hask
theorem begin_askB (l : Lay) {w : World} {F : Nat → Prop} {p : Nat} {C : List (BitVec 64)} {E : List Ev} (h : Ar w F p C E) (hl : l.Ok C.length) (steps : Int) (ma : Addr) (c : Int) (hc : c ≠ 0) (hask : ∀ W, Off Nob w W → Calls Tryz.prog 45 #[.pointer (some ma)] W (RetV W (.int .i64 c))) :
  Calls Tryz.prog 40 #[.pointer (some ⟨p, 0, none⟩), .agg #[.int .i64 l.a, .int .i64 l.b, .int .i64 l.t, .int .i64 l.s, .int .i64 l.f, .int .i64 l.st, .int .i64 l.n, .int .i64 l.h], .int .i64 steps, .func (.func 45) #[] #[.pointer (some ma)]] w fun e w' => e = .returned (.tuple #[.pointer none, .int .i64 (c)]) ∧ Off Nob w w' := begin_askA l h hl steps 45 #[.pointer (some ma)] (.inr ⟨rfl, ma, rfl⟩) c hc hask
set_option maxHeartbeats 2000000 in
theorem nstate_err (l : Lay) (c : Int) (hc0 : c ≠ 0)  {w : World} {v : Value} (h : ∀ (W : World) (steps : Int), Off Nob w W → Calls Tryz.prog 40 #[v, .agg #[.int .i64 l.a, .int .i64 l.b, .int .i64 l.t, .int .i64 l.s, .int .i64 l.f, .int .i64 l.st, .int .i64 l.n, .int .i64 l.h], .int .i64 steps, .func (.func 54) #[] #[]] W fun e w' => e = .returned (.tuple #[.pointer none, .int .i64 c]) ∧ Off Nob W w') :
  Calls Tryz.prog 18 #[v, .agg #[.int .i64 l.a, .int .i64 l.b, .int .i64 l.t, .int .i64 l.s, .int .i64 l.f, .int .i64 l.st, .int .i64 l.n, .int .i64 l.h]] w fun e w' => e = .returned (.tuple #[.slice none 0 0, .int .i64 (c)]) ∧ Off Nob w w' := by
 have hmf : ∀ (fn : Fn) (first cap : Array Value) (w : World), (Instr.makeFunc fn first cap).run Tryz.prog w = .ok (.func fn first cap) w := fun _ _ _ _ => rfl
 have HA := hID h
 obtain ⟨hc1, hc2⟩ := askE_ne hc0
 clear h hc0
 go_enter Tryz.func18, Tryz.ntmps18
 go_wp2_with fail
 have X0 : Hid (Off Nob w (w.alloc (.cells #[.int .i64 l.a, .int .i64 l.b, .int .i64 l.t, .int .i64 l.s, .int .i64 l.f, .int .i64 l.st, .int .i64 l.n, .int .i64 l.h] 33)) ∧ Blk (w.alloc (.cells #[.int .i64 l.a, .int .i64 l.b, .int .i64 l.t, .int .i64 l.s, .int .i64 l.f, .int .i64 l.st, .int .i64 l.n, .int .i64 l.h] 33)) w.heap.size 33 #[.int .i64 l.a, .int .i64 l.b, .int .i64 l.t, .int .i64 l.s, .int .i64 l.f, .int .i64 l.st, .int .i64 l.n, .int .i64 l.h]) := hID ⟨((Off.refl Nob w).alloc _), (show Blk (w.alloc (.cells #[.int .i64 l.a, .int .i64 l.b, .int .i64 l.t, .int .i64 l.s, .int .i64 l.f, .int .i64 l.st, .int .i64 l.n, .int .i64 l.h] 33)) (w.heap.size) 33 #[.int .i64 l.a, .int .i64 l.b, .int .i64 l.t, .int .i64 l.s, .int .i64 l.f, .int .i64 l.st, .int .i64 l.n, .int .i64 l.h] from by
  have := Blk.new w 33 #[.int .i64 l.a, .int .i64 l.b, .int .i64 l.t, .int .i64 l.s, .int .i64 l.f, .int .i64 l.st, .int .i64 l.n, .int .i64 l.h]
  simpa using this)⟩
 revert X0
 generalize (w.alloc (.cells #[.int .i64 l.a, .int .i64 l.b, .int .i64 l.t, .int .i64 l.s, .int .i64 l.f, .int .i64 l.st, .int .i64 l.n, .int .i64 l.h] 33)) = W0
 intro X0
 refine (HA.out _ _ X0.out.1).mono ?_
 rintro e w1 ⟨rfl, o1⟩
 have X1 := hID (X0.out.1.also o1)
 go_wp2_with fail
 go_ret2
 exact ⟨rfl, X1.out⟩
set_option maxHeartbeats 2000000 in
theorem nclear_err (l : Lay) (c : Int) (hc0 : c ≠ 0)  {w : World} {v : Value} (h : ∀ (W : World) (steps : Int), Off Nob w W → Calls Tryz.prog 40 #[v, .agg #[.int .i64 l.a, .int .i64 l.b, .int .i64 l.t, .int .i64 l.s, .int .i64 l.f, .int .i64 l.st, .int .i64 l.n, .int .i64 l.h], .int .i64 steps, .func (.func 54) #[] #[]] W fun e w' => e = .returned (.tuple #[.pointer none, .int .i64 c]) ∧ Off Nob W w') :
  Calls Tryz.prog 17 #[v, .agg #[.int .i64 l.a, .int .i64 l.b, .int .i64 l.t, .int .i64 l.s, .int .i64 l.f, .int .i64 l.st, .int .i64 l.n, .int .i64 l.h]] w fun e w' => e = .returned (.int .i64 (c)) ∧ Off Nob w w' := by
 have hmf : ∀ (fn : Fn) (first cap : Array Value) (w : World), (Instr.makeFunc fn first cap).run Tryz.prog w = .ok (.func fn first cap) w := fun _ _ _ _ => rfl
 have HA := hID h
 obtain ⟨hc1, hc2⟩ := askE_ne hc0
 clear h hc0
 go_enter_defers Tryz.func17, Tryz.ntmps17
 go_wp2_with fail
 have X0 : Hid (Off Nob w ((w.alloc (.cells #[.int .i64 l.a, .int .i64 l.b, .int .i64 l.t, .int .i64 l.s, .int .i64 l.f, .int .i64 l.st, .int .i64 l.n, .int .i64 l.h] 33)).alloc (.cells #[.int .i64 0] 29)) ∧ Blk ((w.alloc (.cells #[.int .i64 l.a, .int .i64 l.b, .int .i64 l.t, .int .i64 l.s, .int .i64 l.f, .int .i64 l.st, .int .i64 l.n, .int .i64 l.h] 33)).alloc (.cells #[.int .i64 0] 29)) w.heap.size 33 #[.int .i64 l.a, .int .i64 l.b, .int .i64 l.t, .int .i64 l.s, .int .i64 l.f, .int .i64 l.st, .int .i64 l.n, .int .i64 l.h] ∧ Blk ((w.alloc (.cells #[.int .i64 l.a, .int .i64 l.b, .int .i64 l.t, .int .i64 l.s, .int .i64 l.f, .int .i64 l.st, .int .i64 l.n, .int .i64 l.h] 33)).alloc (.cells #[.int .i64 0] 29)) (w.heap.size + 1) 29 #[.int .i64 0]) := hID ⟨(((Off.refl Nob w).alloc _).alloc _), (Blk.alloc (show Blk (w.alloc (.cells #[.int .i64 l.a, .int .i64 l.b, .int .i64 l.t, .int .i64 l.s, .int .i64 l.f, .int .i64 l.st, .int .i64 l.n, .int .i64 l.h] 33)) (w.heap.size) 33 #[.int .i64 l.a, .int .i64 l.b, .int .i64 l.t, .int .i64 l.s, .int .i64 l.f, .int .i64 l.st, .int .i64 l.n, .int .i64 l.h] from by
  have := Blk.new w 33 #[.int .i64 l.a, .int .i64 l.b, .int .i64 l.t, .int .i64 l.s, .int .i64 l.f, .int .i64 l.st, .int .i64 l.n, .int .i64 l.h]
  simpa using this) _), (show Blk ((w.alloc (.cells #[.int .i64 l.a, .int .i64 l.b, .int .i64 l.t, .int .i64 l.s, .int .i64 l.f, .int .i64 l.st, .int .i64 l.n, .int .i64 l.h] 33)).alloc (.cells #[.int .i64 0] 29)) ((w.heap.size + 1)) 29 #[.int .i64 0] from by
  have := Blk.new (w.alloc (.cells #[.int .i64 l.a, .int .i64 l.b, .int .i64 l.t, .int .i64 l.s, .int .i64 l.f, .int .i64 l.st, .int .i64 l.n, .int .i64 l.h] 33)) 29 #[.int .i64 0]
  simpa using this)⟩
 revert X0
 generalize ((w.alloc (.cells #[.int .i64 l.a, .int .i64 l.b, .int .i64 l.t, .int .i64 l.s, .int .i64 l.f, .int .i64 l.st, .int .i64 l.n, .int .i64 l.h] 33)).alloc (.cells #[.int .i64 0] 29)) = W0
 intro X0
 refine (HA.out _ _ X0.out.1).mono ?_
 rintro e w1 ⟨rfl, o1⟩
 have R1 := hID ((X0.out.2.2.to (o1.block _ X0.out.2.2.lt id)).alloc (.cells #[.pointer none] 107))
 have X1 := hID ((X0.out.1.also o1).alloc (.cells #[.pointer none] 107))
 clear o1
 have r1 := R1.out.cell 0
 have f1 := R1.out.frozen 0
 have R2 := hID (R1.out.put 0 (.int .i64 c))
 have r2 := R2.out.cell 0
 have f2 := R2.out.frozen 0
 have R3 := hID (R2.out.put 0 (.int .i64 c))
 have r3 := R3.out.cell 0
 go_wp2_with fail
 simp [bodyPostD, Leaves, settle, results, Tryz.results17, go_sem, r3]
 first
  | exact (X1.out.put (p := ⟨w.heap.size + 1, 0, none⟩) (.inr (Nat.le_add_right _ _)) _).put (p := ⟨w.heap.size + 1, 0, none⟩) (.inr (Nat.le_add_right _ _)) _
  | exact ⟨rfl, (X1.out.put (p := ⟨w.heap.size + 1, 0, none⟩) (.inr (Nat.le_add_right _ _)) _).put (p := ⟨w.heap.size + 1, 0, none⟩) (.inr (Nat.le_add_right _ _)) _⟩
set_option maxHeartbeats 2000000 in
theorem nsetup_err (l : Lay) (c : Int) (hc0 : c ≠ 0) (A0 A1 A2 A3 : Option Addr) (n0 n1 n2 n3 k0 k1 k2 k3 : Nat) (wd : Int) {w : World} {v : Value} (h : ∀ (W : World) (steps : Int) (gs gl : Nat), Off Nob w W → Blk W gs 25 #[.slice A0 n0 k0, .int .i64 wd, .slice A1 n1 k1, .slice A2 n2 k2, .slice A3 n3 k3] → Blk W gl 33 #[.int .i64 l.a, .int .i64 l.b, .int .i64 l.t, .int .i64 l.s, .int .i64 l.f, .int .i64 l.st, .int .i64 l.n, .int .i64 l.h] → Calls Tryz.prog 40 #[v, .agg #[.int .i64 l.a, .int .i64 l.b, .int .i64 l.t, .int .i64 l.s, .int .i64 l.f, .int .i64 l.st, .int .i64 l.n, .int .i64 l.h], .int .i64 steps, .func (.func 41) #[] #[.pointer (some ⟨gs, 0, none⟩), .pointer (some ⟨gl, 0, none⟩)]] W fun e w' => e = .returned (.tuple #[.pointer none, .int .i64 c]) ∧ Off Nob W w') :
  Calls Tryz.prog 15 #[v, .agg #[.int .i64 l.a, .int .i64 l.b, .int .i64 l.t, .int .i64 l.s, .int .i64 l.f, .int .i64 l.st, .int .i64 l.n, .int .i64 l.h], .agg #[.slice A0 n0 k0, .int .i64 wd, .slice A1 n1 k1, .slice A2 n2 k2, .slice A3 n3 k3]] w fun e w' => e = .returned (.int .i64 (c)) ∧ Off Nob w w' := by
 have hmf : ∀ (fn : Fn) (first cap : Array Value) (w : World), (Instr.makeFunc fn first cap).run Tryz.prog w = .ok (.func fn first cap) w := fun _ _ _ _ => rfl
 have HA := hID h
 obtain ⟨hc1, hc2⟩ := askE_ne hc0
 clear h hc0
 have HN : Hid (∃ x y z : Int, ∀ W, Calls Tryz.prog 27 #[.int .i64 l.a, .int .i64 l.b] W fun e w' => e = .returned (.tuple #[.int .i64 x, .int .i64 y, .int .i64 z]) ∧ W = w') := hID (by
  by_cases h : 1 ≤ l.a ∧ l.a ≤ 4 ∧ 1 ≤ l.b ∧ l.b ≤ 16
  ·obtain ⟨h0, h1, h2, h3⟩ := h
   exact ⟨_, _, _, fun W => nsteps_yes l.a l.b h0 h1 h2 h3 W⟩
  ·exact ⟨_, _, _, fun W => nsteps_no l.a l.b h W⟩)
 obtain ⟨sx, sy, sz, hst⟩ := HN.out
 have HST := hID hst
 clear hst HN
 go_enter_defers Tryz.func15, Tryz.ntmps15
 go_wp2_with fail
 have X0 : Hid (Off Nob w (((w.alloc (.cells #[.int .i64 l.a, .int .i64 l.b, .int .i64 l.t, .int .i64 l.s, .int .i64 l.f, .int .i64 l.st, .int .i64 l.n, .int .i64 l.h] 33)).alloc (.cells #[.slice A0 n0 k0, .int .i64 wd, .slice A1 n1 k1, .slice A2 n2 k2, .slice A3 n3 k3] 25)).alloc (.cells #[.int .i64 0] 29)) ∧ Blk (((w.alloc (.cells #[.int .i64 l.a, .int .i64 l.b, .int .i64 l.t, .int .i64 l.s, .int .i64 l.f, .int .i64 l.st, .int .i64 l.n, .int .i64 l.h] 33)).alloc (.cells #[.slice A0 n0 k0, .int .i64 wd, .slice A1 n1 k1, .slice A2 n2 k2, .slice A3 n3 k3] 25)).alloc (.cells #[.int .i64 0] 29)) w.heap.size 33 #[.int .i64 l.a, .int .i64 l.b, .int .i64 l.t, .int .i64 l.s, .int .i64 l.f, .int .i64 l.st, .int .i64 l.n, .int .i64 l.h] ∧ Blk (((w.alloc (.cells #[.int .i64 l.a, .int .i64 l.b, .int .i64 l.t, .int .i64 l.s, .int .i64 l.f, .int .i64 l.st, .int .i64 l.n, .int .i64 l.h] 33)).alloc (.cells #[.slice A0 n0 k0, .int .i64 wd, .slice A1 n1 k1, .slice A2 n2 k2, .slice A3 n3 k3] 25)).alloc (.cells #[.int .i64 0] 29)) (w.heap.size + 1) 25 #[.slice A0 n0 k0, .int .i64 wd, .slice A1 n1 k1, .slice A2 n2 k2, .slice A3 n3 k3] ∧ Blk (((w.alloc (.cells #[.int .i64 l.a, .int .i64 l.b, .int .i64 l.t, .int .i64 l.s, .int .i64 l.f, .int .i64 l.st, .int .i64 l.n, .int .i64 l.h] 33)).alloc (.cells #[.slice A0 n0 k0, .int .i64 wd, .slice A1 n1 k1, .slice A2 n2 k2, .slice A3 n3 k3] 25)).alloc (.cells #[.int .i64 0] 29)) (w.heap.size + 2) 29 #[.int .i64 0]) := hID ⟨((((Off.refl Nob w).alloc _).alloc _).alloc _), (Blk.alloc (Blk.alloc (show Blk (w.alloc (.cells #[.int .i64 l.a, .int .i64 l.b, .int .i64 l.t, .int .i64 l.s, .int .i64 l.f, .int .i64 l.st, .int .i64 l.n, .int .i64 l.h] 33)) (w.heap.size) 33 #[.int .i64 l.a, .int .i64 l.b, .int .i64 l.t, .int .i64 l.s, .int .i64 l.f, .int .i64 l.st, .int .i64 l.n, .int .i64 l.h] from by
  have := Blk.new w 33 #[.int .i64 l.a, .int .i64 l.b, .int .i64 l.t, .int .i64 l.s, .int .i64 l.f, .int .i64 l.st, .int .i64 l.n, .int .i64 l.h]
  simpa using this) _) _), (Blk.alloc (show Blk ((w.alloc (.cells #[.int .i64 l.a, .int .i64 l.b, .int .i64 l.t, .int .i64 l.s, .int .i64 l.f, .int .i64 l.st, .int .i64 l.n, .int .i64 l.h] 33)).alloc (.cells #[.slice A0 n0 k0, .int .i64 wd, .slice A1 n1 k1, .slice A2 n2 k2, .slice A3 n3 k3] 25)) ((w.heap.size + 1)) 25 #[.slice A0 n0 k0, .int .i64 wd, .slice A1 n1 k1, .slice A2 n2 k2, .slice A3 n3 k3] from by
  have := Blk.new (w.alloc (.cells #[.int .i64 l.a, .int .i64 l.b, .int .i64 l.t, .int .i64 l.s, .int .i64 l.f, .int .i64 l.st, .int .i64 l.n, .int .i64 l.h] 33)) 25 #[.slice A0 n0 k0, .int .i64 wd, .slice A1 n1 k1, .slice A2 n2 k2, .slice A3 n3 k3]
  simpa using this) _), (show Blk (((w.alloc (.cells #[.int .i64 l.a, .int .i64 l.b, .int .i64 l.t, .int .i64 l.s, .int .i64 l.f, .int .i64 l.st, .int .i64 l.n, .int .i64 l.h] 33)).alloc (.cells #[.slice A0 n0 k0, .int .i64 wd, .slice A1 n1 k1, .slice A2 n2 k2, .slice A3 n3 k3] 25)).alloc (.cells #[.int .i64 0] 29)) ((w.heap.size + 2)) 29 #[.int .i64 0] from by
  have := Blk.new ((w.alloc (.cells #[.int .i64 l.a, .int .i64 l.b, .int .i64 l.t, .int .i64 l.s, .int .i64 l.f, .int .i64 l.st, .int .i64 l.n, .int .i64 l.h] 33)).alloc (.cells #[.slice A0 n0 k0, .int .i64 wd, .slice A1 n1 k1, .slice A2 n2 k2, .slice A3 n3 k3] 25)) 29 #[.int .i64 0]
  simpa using this)⟩
 revert X0
 generalize (((w.alloc (.cells #[.int .i64 l.a, .int .i64 l.b, .int .i64 l.t, .int .i64 l.s, .int .i64 l.f, .int .i64 l.st, .int .i64 l.n, .int .i64 l.h] 33)).alloc (.cells #[.slice A0 n0 k0, .int .i64 wd, .slice A1 n1 k1, .slice A2 n2 k2, .slice A3 n3 k3] 25)).alloc (.cells #[.int .i64 0] 29)) = W0
 intro X0
 refine (HST.out _).mono ?_
 rintro e w' ⟨rfl, rfl⟩
 have c0 := X0.out.2.1.cell 0
 have c1 := X0.out.2.1.cell 1
 have c2 := X0.out.2.1.cell 2
 have c3 := X0.out.2.1.cell 3
 have c4 := X0.out.2.1.cell 4
 have c5 := X0.out.2.1.cell 5
 have c6 := X0.out.2.1.cell 6
 have c7 := X0.out.2.1.cell 7
 have s0 := X0.out.2.2.1.cell 0
 have s1 := X0.out.2.2.1.cell 1
 have s2 := X0.out.2.2.1.cell 2
 have s3 := X0.out.2.2.1.cell 3
 have s4 := X0.out.2.2.1.cell 4
 have r0 := X0.out.2.2.2.cell 0
 have fr := X0.out.2.2.2.frozen 0
 go_wp2_with fail
 refine (HA.out _ _ _ _ X0.out.1 X0.out.2.2.1 X0.out.2.1).mono ?_
 rintro e w1 ⟨rfl, o1⟩
 have R1 := hID ((X0.out.2.2.2.to (o1.block _ X0.out.2.2.2.lt id)).alloc (.cells #[.pointer none] 107))
 have X1 := hID ((X0.out.1.also o1).alloc (.cells #[.pointer none] 107))
 clear o1
 have r1 := R1.out.cell 0
 have f1 := R1.out.frozen 0
 have R2 := hID (R1.out.put 0 (.int .i64 c))
 have r2 := R2.out.cell 0
 have f2 := R2.out.frozen 0
 have R3 := hID (R2.out.put 0 (.int .i64 c))
 have r3 := R3.out.cell 0
 go_wp2_with fail
 simp [bodyPostD, Leaves, settle, results, Tryz.results15, go_sem, r3]
 first
  | exact (X1.out.put (p := ⟨w.heap.size + 2, 0, none⟩) (.inr (Nat.le_add_right _ _)) _).put (p := ⟨w.heap.size + 2, 0, none⟩) (.inr (Nat.le_add_right _ _)) _
  | exact ⟨rfl, (X1.out.put (p := ⟨w.heap.size + 2, 0, none⟩) (.inr (Nat.le_add_right _ _)) _).put (p := ⟨w.heap.size + 2, 0, none⟩) (.inr (Nat.le_add_right _ _)) _⟩
set_option maxHeartbeats 2000000 in
theorem nbyte_err (l : Lay) (c : Int) (hc0 : c ≠ 0) (b m : Int) {w : World} {v : Value} (h : ∀ (W : World) (steps : Int) (g : Nat), Off Nob w W → W.cell? ⟨g, 0, none⟩ = some (.int .u64 m) → Calls Tryz.prog 40 #[v, .agg #[.int .i64 l.a, .int .i64 l.b, .int .i64 l.t, .int .i64 l.s, .int .i64 l.f, .int .i64 l.st, .int .i64 l.n, .int .i64 l.h], .int .i64 steps, .func (.func 45) #[] #[.pointer (some ⟨g, 0, none⟩)]] W fun e w' => e = .returned (.tuple #[.pointer none, .int .i64 c]) ∧ Off Nob W w') :
  Calls Tryz.prog 16 #[v, .agg #[.int .i64 l.a, .int .i64 l.b, .int .i64 l.t, .int .i64 l.s, .int .i64 l.f, .int .i64 l.st, .int .i64 l.n, .int .i64 l.h], .int .u64 b, .int .u64 m] w fun e w' => e = .returned (.int .i64 (c)) ∧ Off Nob w w' := by
 have hmf : ∀ (fn : Fn) (first cap : Array Value) (w : World), (Instr.makeFunc fn first cap).run Tryz.prog w = .ok (.func fn first cap) w := fun _ _ _ _ => rfl
 have HA := hID h
 obtain ⟨hc1, hc2⟩ := askE_ne hc0
 clear h hc0
 have HN : Hid (∃ x y z : Int, ∀ W, Calls Tryz.prog 27 #[.int .i64 l.a, .int .i64 l.b] W fun e w' => e = .returned (.tuple #[.int .i64 x, .int .i64 y, .int .i64 z]) ∧ W = w') := hID (by
  by_cases h : 1 ≤ l.a ∧ l.a ≤ 4 ∧ 1 ≤ l.b ∧ l.b ≤ 16
  ·obtain ⟨h0, h1, h2, h3⟩ := h
   exact ⟨_, _, _, fun W => nsteps_yes l.a l.b h0 h1 h2 h3 W⟩
  ·exact ⟨_, _, _, fun W => nsteps_no l.a l.b h W⟩)
 obtain ⟨sx, sy, sz, hst⟩ := HN.out
 have HST := hID hst
 clear hst HN
 go_enter_defers Tryz.func16, Tryz.ntmps16
 go_wp2_with fail
 have X0 : Hid (Off Nob w (((w.alloc (.cells #[.int .i64 l.a, .int .i64 l.b, .int .i64 l.t, .int .i64 l.s, .int .i64 l.f, .int .i64 l.st, .int .i64 l.n, .int .i64 l.h] 33)).alloc (.cells #[.int .u64 m] 41)).alloc (.cells #[.int .i64 0] 29)) ∧ Blk (((w.alloc (.cells #[.int .i64 l.a, .int .i64 l.b, .int .i64 l.t, .int .i64 l.s, .int .i64 l.f, .int .i64 l.st, .int .i64 l.n, .int .i64 l.h] 33)).alloc (.cells #[.int .u64 m] 41)).alloc (.cells #[.int .i64 0] 29)) w.heap.size 33 #[.int .i64 l.a, .int .i64 l.b, .int .i64 l.t, .int .i64 l.s, .int .i64 l.f, .int .i64 l.st, .int .i64 l.n, .int .i64 l.h] ∧ Blk (((w.alloc (.cells #[.int .i64 l.a, .int .i64 l.b, .int .i64 l.t, .int .i64 l.s, .int .i64 l.f, .int .i64 l.st, .int .i64 l.n, .int .i64 l.h] 33)).alloc (.cells #[.int .u64 m] 41)).alloc (.cells #[.int .i64 0] 29)) (w.heap.size + 1) 41 #[.int .u64 m] ∧ Blk (((w.alloc (.cells #[.int .i64 l.a, .int .i64 l.b, .int .i64 l.t, .int .i64 l.s, .int .i64 l.f, .int .i64 l.st, .int .i64 l.n, .int .i64 l.h] 33)).alloc (.cells #[.int .u64 m] 41)).alloc (.cells #[.int .i64 0] 29)) (w.heap.size + 2) 29 #[.int .i64 0]) := hID ⟨((((Off.refl Nob w).alloc _).alloc _).alloc _), (Blk.alloc (Blk.alloc (show Blk (w.alloc (.cells #[.int .i64 l.a, .int .i64 l.b, .int .i64 l.t, .int .i64 l.s, .int .i64 l.f, .int .i64 l.st, .int .i64 l.n, .int .i64 l.h] 33)) (w.heap.size) 33 #[.int .i64 l.a, .int .i64 l.b, .int .i64 l.t, .int .i64 l.s, .int .i64 l.f, .int .i64 l.st, .int .i64 l.n, .int .i64 l.h] from by
  have := Blk.new w 33 #[.int .i64 l.a, .int .i64 l.b, .int .i64 l.t, .int .i64 l.s, .int .i64 l.f, .int .i64 l.st, .int .i64 l.n, .int .i64 l.h]
  simpa using this) _) _), (Blk.alloc (show Blk ((w.alloc (.cells #[.int .i64 l.a, .int .i64 l.b, .int .i64 l.t, .int .i64 l.s, .int .i64 l.f, .int .i64 l.st, .int .i64 l.n, .int .i64 l.h] 33)).alloc (.cells #[.int .u64 m] 41)) ((w.heap.size + 1)) 41 #[.int .u64 m] from by
  have := Blk.new (w.alloc (.cells #[.int .i64 l.a, .int .i64 l.b, .int .i64 l.t, .int .i64 l.s, .int .i64 l.f, .int .i64 l.st, .int .i64 l.n, .int .i64 l.h] 33)) 41 #[.int .u64 m]
  simpa using this) _), (show Blk (((w.alloc (.cells #[.int .i64 l.a, .int .i64 l.b, .int .i64 l.t, .int .i64 l.s, .int .i64 l.f, .int .i64 l.st, .int .i64 l.n, .int .i64 l.h] 33)).alloc (.cells #[.int .u64 m] 41)).alloc (.cells #[.int .i64 0] 29)) ((w.heap.size + 2)) 29 #[.int .i64 0] from by
  have := Blk.new ((w.alloc (.cells #[.int .i64 l.a, .int .i64 l.b, .int .i64 l.t, .int .i64 l.s, .int .i64 l.f, .int .i64 l.st, .int .i64 l.n, .int .i64 l.h] 33)).alloc (.cells #[.int .u64 m] 41)) 29 #[.int .i64 0]
  simpa using this)⟩
 revert X0
 generalize (((w.alloc (.cells #[.int .i64 l.a, .int .i64 l.b, .int .i64 l.t, .int .i64 l.s, .int .i64 l.f, .int .i64 l.st, .int .i64 l.n, .int .i64 l.h] 33)).alloc (.cells #[.int .u64 m] 41)).alloc (.cells #[.int .i64 0] 29)) = W0
 intro X0
 refine (HST.out _).mono ?_
 rintro e w' ⟨rfl, rfl⟩
 have c0 := X0.out.2.1.cell 0
 have c1 := X0.out.2.1.cell 1
 have c2 := X0.out.2.1.cell 2
 have c3 := X0.out.2.1.cell 3
 have c4 := X0.out.2.1.cell 4
 have c5 := X0.out.2.1.cell 5
 have c6 := X0.out.2.1.cell 6
 have c7 := X0.out.2.1.cell 7
 have u0 := X0.out.2.2.1.cell 0
 have r0 := X0.out.2.2.2.cell 0
 have fr := X0.out.2.2.2.frozen 0
 go_wp2_with fail
 refine (HA.out _ _ _ X0.out.1 u0).mono ?_
 rintro e w1 ⟨rfl, o1⟩
 have R1 := hID ((X0.out.2.2.2.to (o1.block _ X0.out.2.2.2.lt id)).alloc (.cells #[.pointer none] 107))
 have X1 := hID ((X0.out.1.also o1).alloc (.cells #[.pointer none] 107))
 clear o1
 have r1 := R1.out.cell 0
 have f1 := R1.out.frozen 0
 have R2 := hID (R1.out.put 0 (.int .i64 c))
 have r2 := R2.out.cell 0
 have f2 := R2.out.frozen 0
 have R3 := hID (R2.out.put 0 (.int .i64 c))
 have r3 := R3.out.cell 0
 go_wp2_with fail
 simp [bodyPostD, Leaves, settle, results, Tryz.results16, go_sem, r3]
 first
  | exact (X1.out.put (p := ⟨w.heap.size + 2, 0, none⟩) (.inr (Nat.le_add_right _ _)) _).put (p := ⟨w.heap.size + 2, 0, none⟩) (.inr (Nat.le_add_right _ _)) _
  | exact ⟨rfl, (X1.out.put (p := ⟨w.heap.size + 2, 0, none⟩) (.inr (Nat.le_add_right _ _)) _).put (p := ⟨w.heap.size + 2, 0, none⟩) (.inr (Nat.le_add_right _ _)) _⟩
end Go.Proofs.YtkflicifngohcaaGreatDoor

namespace Go.Proofs.YtkflicifngohcaaGreatDoor
open Go.RowKit
set_option maxRecDepth 100000
end Go.Proofs.YtkflicifngohcaaGreatDoor
