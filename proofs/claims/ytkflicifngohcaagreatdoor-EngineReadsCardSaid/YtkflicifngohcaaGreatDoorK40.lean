/-
 dragnetlaw18.Example.
-/
import Derived.Test.YtkflicifngohcaaGreatDoorK14
import Derived.Test.YtkflicifngohcaaGreatDoorK9
import Derived.Lib.SlBytesConst
import Derived.Test.YtkflicifngohcaaGreatDoorK35
import Derived.Test.YtkflicifngohcaaGreatDoorK39
import Derived.Test.YtkflicifngohcaaGreatDoorK6
import Derived.Test.YtkflicifngohcaaGreatDoorK4
import Derived.Great.BuildSlice
import Derived.Laws.Tables
set_option linter.unusedVariables false
set_option linter.unusedSimpArgs false
namespace Go.Proofs.YtkflicifngohcaaGreatDoor
open Go.RowKit
set_option maxRecDepth 100000
theorem rd_alloc (w : World) (xs : List Value) (t : TypeId) (size n : Nat) (hl : xs.length = n * size) (hn : n ≤ maxLen) : Rd (w.alloc (.cells xs.toArray t)) (fun _ => True) size (.slice (some ⟨w.heap.size, 0, none⟩) n n) n xs :=
 ⟨_, _, rfl, hn, hl, fun _ => ⟨w.heap.size, 0, rfl, trivial, by simp, fun j u hu => by rw [← add_addr]; exact cell_lit w xs t j u hu⟩⟩
set_option maxHeartbeats 1000000 in
theorem co_example (w : World) : Calls Tryz.prog 38 #[] w fun e w' => ∃ v va vb, e = .returned v ∧ Rd w' (fun _ => True) 2 v 2 [.int .i64 5, va, .int .i64 9, vb] ∧ Rd w' (fun _ => True) 8 va 1 el_a ∧ Rd w' (fun _ => True) 8 vb 1 el_b ∧ Off Nob w w' := by
 go_enter Tryz.func38, Tryz.ntmps38
 go_wp2_with fail
 have hcv := Lib.run_convert_bytes_const (P := Tryz.prog) (w.alloc (.cells #[.int .i64 1, .string ⟨#[97, 98]⟩, .int .u64 0, .int .u64 0, .int .u64 0, .int .u64 0, .int .i64 0, .int .i64 0] 148)) 26 5 #[.int .u8 97, .int .u8 98] 2 2 Tryz.underlying26 Tryz.underlying5
 rw [World.size_alloc] at hcv
 rw [hcv]
 clear hcv
 go_wp2_with fail
 have X2 : Hid (Off Nob w ((w.alloc (.cells #[.int .i64 1, .string ⟨#[97, 98]⟩, .int .u64 0, .int .u64 0, .int .u64 0, .int .u64 0, .int .i64 0, .int .i64 0] 148)).alloc (.cells #[.int .u8 97, .int .u8 98] 5 (2, 3)))) := hID ((Off.alloc (Off.refl _ _) _).alloc _)
 have RA : Hid (Rd ((w.alloc (.cells #[.int .i64 1, .string ⟨#[97, 98]⟩, .int .u64 0, .int .u64 0, .int .u64 0, .int .u64 0, .int .i64 0, .int .i64 0] 148)).alloc (.cells #[.int .u8 97, .int .u8 98] 5 (2, 3))) (fun _ => True) 8 (.slice (some ⟨w.heap.size, 0, none⟩) 1 1) 1 el_a) := hID ⟨_, _, rfl, by decide, rfl, fun _ => ⟨w.heap.size, 0, rfl, trivial, by simp; omega, fun j u hu => by rw [Nat.zero_add, cell_of_row _ w.heap.size j #[.int .i64 1, .string ⟨#[97, 98]⟩, .int .u64 0, .int .u64 0, .int .u64 0, .int .u64 0, .int .i64 0, .int .i64 0] 148 (0, 0) ((Blk.new w 148 #[.int .i64 1, .string ⟨#[97, 98]⟩, .int .u64 0, .int .u64 0, .int .u64 0, .int .u64 0, .int .i64 0, .int .i64 0]).alloc _)]; simpa [el_a] using hu⟩⟩
 have RC : Hid (Rd ((w.alloc (.cells #[.int .i64 1, .string ⟨#[97, 98]⟩, .int .u64 0, .int .u64 0, .int .u64 0, .int .u64 0, .int .i64 0, .int .i64 0] 148)).alloc (.cells #[.int .u8 97, .int .u8 98] 5 (2, 3))) (fun _ => True) 1 (.slice (some ⟨w.heap.size + 1, 0, none⟩) 2 2) 2 [.int .u8 97, .int .u8 98]) := hID ⟨_, _, rfl, by decide, rfl, fun _ => ⟨w.heap.size + 1, 0, rfl, trivial, by simp, fun j u hu => by
  have h : ((w.alloc (.cells #[.int .i64 1, .string ⟨#[97, 98]⟩, .int .u64 0, .int .u64 0, .int .u64 0, .int .u64 0, .int .i64 0, .int .i64 0] 148)).alloc (.cells #[.int .u8 97, .int .u8 98] 5 (2, 3))).heap[w.heap.size + 1]? = some (.cells #[.int .u8 97, .int .u8 98] 5 (2, 3)) := by
   have := heap_alloc_new (w.alloc (.cells #[.int .i64 1, .string ⟨#[97, 98]⟩, .int .u64 0, .int .u64 0, .int .u64 0, .int .u64 0, .int .i64 0, .int .i64 0] 148)) (.cells #[.int .u8 97, .int .u8 98] 5 (2, 3))
   rwa [World.size_alloc] at this
  rw [Nat.zero_add, cell_of_row _ (w.heap.size + 1) j #[.int .u8 97, .int .u8 98] 5 (2, 3) h]
  simpa using hu⟩⟩
 revert X2 RA RC
 generalize ((w.alloc (.cells #[.int .i64 1, .string ⟨#[97, 98]⟩, .int .u64 0, .int .u64 0, .int .u64 0, .int .u64 0, .int .i64 0, .int .i64 0] 148)).alloc (.cells #[.int .u8 97, .int .u8 98] 5 (2, 3))) = w2
 intro X2 RA RC
 refine (co_of_ab _ _ RC.out).mono ?_
 rintro e w3 ⟨rfl, o3⟩
 have X3 := hID (X2.out.also o3)
 have RA3 := hID (RA.out.keepT o3)
 clear o3 RC RA X2
 go_wp2_with fail
 have R1 := rd_alloc w3 el_b 148 8 1 rfl (by decide)
 have o1 : Off Nob w3 (w3.alloc (.cells el_b.toArray 148)) := Off.alloc (Off.refl _ _) _
 have R2 := rd_alloc (w3.alloc (.cells el_b.toArray 148)) [.int .i64 5, .slice (some ⟨w.heap.size, 0, none⟩) 1 1, .int .i64 9, .slice (some ⟨w3.heap.size, 0, none⟩) 1 1] 143 2 2 rfl (by decide)
 rw [World.size_alloc] at R2
 have o2 : Off Nob (w3.alloc (.cells el_b.toArray 148)) ((w3.alloc (.cells el_b.toArray 148)).alloc (.cells [.int .i64 5, .slice (some ⟨w.heap.size, 0, none⟩) 1 1, .int .i64 9, .slice (some ⟨w3.heap.size, 0, none⟩) 1 1].toArray 143)) := Off.alloc (Off.refl _ _) _
 go_ret
 exact ⟨_, _, _, rfl, R2, (RA3.out.keepT (o1.also o2)), R1.keepT o2, X3.out.also (o1.also o2)⟩
end Go.Proofs.YtkflicifngohcaaGreatDoor

namespace Go.Proofs.YtkflicifngohcaaGreatDoor
open Go.RowKit
set_option maxRecDepth 100000
def exT : List Ev := (List.range 256).map (fun i => (1, i)) ++ [(2, 260), (1, 256), (1, 260), (1, 259), (2, 259), (1, 257), (1, 259), (2, 261), (1, 258), (1, 259), (2, 262)]
theorem exT_eq : (byE11 ([] ++ exE)).drop 260 = exT := by kernel_rfl
theorem exE_len : (([] : List Ev) ++ exE).length = 260 := by kernel_rfl
theorem exT_len : exT.length = 267 := by simp [exT]
theorem exT_lo (k : Nat) (h : k < 256) : evAt exT k = (1, k) := by simp [evAt, exT, List.getD_eq_getElem?_getD, List.getElem?_append, h]
theorem ex4_259 : exC4.getD 259 0 = 5#64 := by kernel_rfl
theorem ex4_261 : exC4.getD 261 0 = 0#64 := by kernel_rfl
theorem ex4_262 : exC4.getD 262 0 = 18446744073709551615#64 := by kernel_rfl
def wantC : List Value := [.int .i32 2, .int .i32 260, .int .i32 1, .int .i32 256, .int .i32 1, .int .i32 260, .int .i32 1, .int .i32 259, .int .i32 2, .int .i32 259, .int .i32 1, .int .i32 257, .int .i32 1, .int .i32 259, .int .i32 2, .int .i32 261, .int .i32 1, .int .i32 258, .int .i32 1, .int .i32 259, .int .i32 2, .int .i32 262]
def wantE : List Ev := [(2, 260), (1, 256), (1, 260), (1, 259), (2, 259), (1, 257), (1, 259), (2, 261), (1, 258), (1, 259), (2, 262)]
theorem wantE_len : wantE.length = 11 := rfl
theorem want_evs : evs wantE = wantC := by kernel_rfl
theorem want_at (k : Nat) (h : k < 11) : evAt exT (256 + k) = evAt wantE k := by
 have e : ∀ k : Fin 11, evAt exT (256 + k.val) = evAt wantE k.val := by decide
 exact e ⟨k, h⟩
theorem rrow_ex (w : World) : Calls Tryz.prog 13 #[.int .i64 1, .int .i64 2, .int .i64 0] w fun e w' => e = .returned (.tuple #[.agg #[.int .i64 1, .int .i64 2, .int .i64 0, .int .i64 256, .int .i64 257, .int .i64 259, .int .i64 260, .int .i64 261], .int .i64 263]) ∧ Off Nob w w' := rrow 1 2 0 (by decide) (by decide) (by decide) (by decide) (by decide) (by decide) w
theorem steps_ex (w : World) : Calls Tryz.prog 27 #[.int .i64 1, .int .i64 2] w fun e w' => e = .returned (.tuple #[.int .i64 260, .int .i64 267, .int .i64 0]) ∧ w = w' := nsteps_yes 1 2 (by decide) (by decide) (by decide) (by decide) w
theorem new_ex (w : World) : Calls Tryz.prog 14 #[.int .i64 263] w fun e w' => ∃ p, e = .returned (.tuple #[.pointer (some ⟨p, 0, none⟩), .int .i64 0]) ∧ ∃ F, Ar w' F p (List.replicate 263 0) [] ∧ Off Nob w w' ∧ ∀ k, F k → w.heap.size ≤ k := new_ok 263 w (by decide) (by decide)
theorem rd_far {w w' : World} {F : Nat → Prop} {size n : Nat} {v : Value} {xs : List Value} (h : Rd w (fun _ => True) size v n xs) (o : Off Nob w w') (hF : ∀ k, F k → w.heap.size ≤ k) : Rd w' (fun k => ¬ F k) size v n xs := by
 obtain ⟨A, c, rfl, h1, h2, h3⟩ := h.keep o (fun _ _ hn => hn)
 obtain ⟨A', c', he, _, _, h4⟩ := h
 cases he
 refine ⟨A, c, rfl, h1, h2, fun hn => ?_⟩
 obtain ⟨b, of, rfl, _, h5, h6⟩ := h3 hn
 obtain ⟨b', of', he, _, h7, _⟩ := h4 hn
 cases he
 exact ⟨b, of, rfl, fun hf => by have := hF b hf; omega, h5, h6⟩
def exEa : List Ev := [] ++ exE
def exEb : List Ev := byE11 exEa
theorem exEa_len : exEa.length = 260 := exE_len
theorem exEb_len : exEb.length = 527 := by unfold exEb; rw [byE11_len, exEa_len]
theorem exEb_drop : exEb.drop 260 = exT := exT_eq
theorem setup_shown (w : World) (F : Nat → Prop) (p : Nat) (h : Ar w F p (List.replicate 263 0) []) (VI VT VS VF : Value) (hs : ExSet w VI VT VS VF)
  (hT : Rd w (fun k => ¬ F k) 1 VT 256 (tabV 256)) (hS : Rd w (fun k => ¬ F k) 1 VS 1 [.int .u64 5]) (hF : Rd w (fun k => ¬ F k) 1 VF 2 [.int .u64 2, .int .u64 4]) (hZ : TzT w) :
  Calls Tryz.prog 15 #[.pointer (some ⟨p, 0, none⟩), .agg #[.int .i64 1, .int .i64 2, .int .i64 0, .int .i64 256, .int .i64 257, .int .i64 259, .int .i64 260, .int .i64 261], .agg #[VI, .int .i64 1, VT, VS, VF]] w fun e w' => e = .returned (.int .i64 0) ∧ ArTo w F p exC0 exEa w' := by
 have h1 : ([] : List Ev).length + 260 < 8388608 := by decide
 have := nsetup_ex w F p (List.replicate 263 0) [] h (List.length_replicate ..) h1 VI VT VS VF hs hT hS hF hZ
 unfold exL Lay.val at this
 unfold exC0 exEa
 exact this
theorem byte_shown (w : World) (F : Nat → Prop) (p : Nat) (h : Ar w F p exC0 exEa) :
  Calls Tryz.prog 16 #[.pointer (some ⟨p, 0, none⟩), .agg #[.int .i64 1, .int .i64 2, .int .i64 0, .int .i64 256, .int .i64 257, .int .i64 259, .int .i64 260, .int .i64 261], .int .u64 97, .int .u64 18446744073709551615] w fun e w' => e = .returned (.int .i64 0) ∧ ArTo w F p exC4 exEb w' := by
 have h1 : exEa.length + 267 < 8388608 := by rw [exEa_len]; decide
 have := nbyte_ex w F p exEa h h1
 unfold exL Lay.val at this
 unfold exEb
 exact this
theorem steps_shown (w : World) (F : Nat → Prop) (p : Nat) (h : Ar w F p exC0 exEa) : Calls Tryz.prog 32 #[.pointer (some ⟨p, 0, none⟩)] w fun e w' => e = .returned (.int .i64 260) ∧ w = w' := by
 have h2 := steps_any h
 rw [exEa_len] at h2
 exact h2
theorem since_shown (w : World) (F : Nat → Prop) (p : Nat) (h : Ar w F p exC4 exEb) : Calls Tryz.prog 34 #[.pointer (some ⟨p, 0, none⟩), .int .i64 260] w (NewE2 w exT) := by
 have h1 : 260 ≤ exEb.length := by rw [exEb_len]; decide
 have h2 := since_ok h 260 h1
 rw [exEb_drop] at h2
 exact h2
theorem want_size : (Tryz.prog.info? 106).map (·.size) = some wantC.toArray.size := by kernel_rfl
theorem want_len : (#[.int .i32 0, .int .i32 0, .int .i32 0, .int .i32 0, .int .i32 0, .int .i32 0, .int .i32 0, .int .i32 0, .int .i32 0, .int .i32 0, .int .i32 0, .int .i32 0, .int .i32 0, .int .i32 0, .int .i32 0, .int .i32 0, .int .i32 0, .int .i32 0, .int .i32 0, .int .i32 0, .int .i32 0, .int .i32 0] : Array Value).size = wantC.toArray.size := by kernel_rfl
theorem want_one : wantC.toArray.all (·.oneCell') = true := by kernel_rfl
set_option maxHeartbeats 4000000 in
theorem shown_true (w : World) (hZ : TzT w) : Calls Tryz.prog 12 #[] w fun e w' => e = .returned (.bool true) ∧ Off Nob w w' := by
 have HZ := hID hZ
 clear hZ
 go_enter Tryz.func12, Tryz.ntmps12
 go_wp2_with fail
 refine (co_example w).mono ?_
 rintro e w1 ⟨v, va, vb, rfl, h1, h2, h3, o1⟩
 have HK := hID (co_compile w1 v va vb h1 h2 h3)
 have hvf : ∃ A c, v = .slice A 2 c := by
  obtain ⟨A, c, rfl, _⟩ := h1.form
  exact ⟨A, c, rfl⟩
 obtain ⟨A0, c0, rfl⟩ := hvf
 have X1 := hID o1
 clear h1 h2 h3 o1
 go_wp2_with fail
 refine HK.out.mono ?_
 rintro e w2 ⟨ids, tab, st, fi, rfl, hi, ht, hs, hf, hc1, hc2, o2⟩
 have HS : Hid (ExSet w2 ids tab st fi) := hID ⟨hi, ht, hs, hf, hc1, hc2⟩
 obtain ⟨AI, ci, rfl, _⟩ := hi.form
 obtain ⟨AT, ct, rfl, _⟩ := ht.form
 obtain ⟨AS, cs, rfl, _⟩ := hs.form
 obtain ⟨AF, cf, rfl, _⟩ := hf.form
 have X2 := hID (X1.out.also o2)
 clear hi ht hs hf hc1 hc2 o2 X1 HK
 go_wp2_with fail
 have X3 : Hid (Off Nob w2 (w2.alloc (.cells #[.slice AI 2 ci, .int .i64 1, .slice AT 256 ct, .slice AS 1 cs, .slice AF 2 cf] 25)) ∧ Blk (w2.alloc (.cells #[.slice AI 2 ci, .int .i64 1, .slice AT 256 ct, .slice AS 1 cs, .slice AF 2 cf] 25)) w2.heap.size 25 #[.slice AI 2 ci, .int .i64 1, .slice AT 256 ct, .slice AS 1 cs, .slice AF 2 cf]) := hID ⟨(Off.refl _ _).alloc _, Blk.new _ _ _⟩
 refine (rrow_ex _).mono ?_
 rintro e w3 ⟨rfl, o3⟩
 have X4 : Hid (Off Nob w2 (w3.alloc (.cells #[.int .i64 1, .int .i64 2, .int .i64 0, .int .i64 256, .int .i64 257, .int .i64 259, .int .i64 260, .int .i64 261] 33)) ∧ Blk (w3.alloc (.cells #[.int .i64 1, .int .i64 2, .int .i64 0, .int .i64 256, .int .i64 257, .int .i64 259, .int .i64 260, .int .i64 261] 33)) w2.heap.size 25 #[.slice AI 2 ci, .int .i64 1, .slice AT 256 ct, .slice AS 1 cs, .slice AF 2 cf] ∧ Blk (w3.alloc (.cells #[.int .i64 1, .int .i64 2, .int .i64 0, .int .i64 256, .int .i64 257, .int .i64 259, .int .i64 260, .int .i64 261] 33)) w3.heap.size 33 #[.int .i64 1, .int .i64 2, .int .i64 0, .int .i64 256, .int .i64 257, .int .i64 259, .int .i64 260, .int .i64 261]) := hID ⟨(X3.out.1.also o3).alloc _, (X3.out.2.to (o3.block _ X3.out.2.lt id)).alloc _, Blk.new _ _ _⟩
 clear o3 X3
 go_wp2_with fail
 refine (new_ex _).mono ?_
 rintro e w5 ⟨p, rfl, F, hA, o5, hF⟩
 have HF := hID hF
 have HA := hID hA
 have X5 : Hid (Off Nob w2 w5 ∧ Blk w5 w2.heap.size 25 #[.slice AI 2 ci, .int .i64 1, .slice AT 256 ct, .slice AS 1 cs, .slice AF 2 cf] ∧ Blk w5 w3.heap.size 33 #[.int .i64 1, .int .i64 2, .int .i64 0, .int .i64 256, .int .i64 257, .int .i64 259, .int .i64 260, .int .i64 261] ∧ w2.heap.size < (w3.alloc (.cells #[.int .i64 1, .int .i64 2, .int .i64 0, .int .i64 256, .int .i64 257, .int .i64 259, .int .i64 260, .int .i64 261] 33)).heap.size ∧ w3.heap.size < (w3.alloc (.cells #[.int .i64 1, .int .i64 2, .int .i64 0, .int .i64 256, .int .i64 257, .int .i64 259, .int .i64 260, .int .i64 261] 33)).heap.size ∧ Off Nob (w3.alloc (.cells #[.int .i64 1, .int .i64 2, .int .i64 0, .int .i64 256, .int .i64 257, .int .i64 259, .int .i64 260, .int .i64 261] 33)) w5) := hID ⟨X4.out.1.also o5, X4.out.2.1.to (o5.block _ X4.out.2.1.lt id), X4.out.2.2.to (o5.block _ X4.out.2.2.lt id), X4.out.2.1.lt, X4.out.2.2.lt, o5⟩
 have GC : Hid (∀ W, Off F w5 W → W.cell? ⟨w3.heap.size, 0, none⟩ = some (.int .i64 1) ∧ W.cell? ⟨w3.heap.size, 1, none⟩ = some (.int .i64 2) ∧ W.cell? ⟨w3.heap.size, 2, none⟩ = some (.int .i64 0) ∧ W.cell? ⟨w3.heap.size, 3, none⟩ = some (.int .i64 256) ∧ W.cell? ⟨w3.heap.size, 4, none⟩ = some (.int .i64 257) ∧ W.cell? ⟨w3.heap.size, 5, none⟩ = some (.int .i64 259) ∧ W.cell? ⟨w3.heap.size, 6, none⟩ = some (.int .i64 260) ∧ W.cell? ⟨w3.heap.size, 7, none⟩ = some (.int .i64 261) ∧ W.cell? ⟨w2.heap.size, 0, none⟩ = some (.slice AI 2 ci) ∧ W.cell? ⟨w2.heap.size, 1, none⟩ = some (.int .i64 1) ∧ W.cell? ⟨w2.heap.size, 2, none⟩ = some (.slice AT 256 ct) ∧ W.cell? ⟨w2.heap.size, 3, none⟩ = some (.slice AS 1 cs) ∧ W.cell? ⟨w2.heap.size, 4, none⟩ = some (.slice AF 2 cf)) := hID (fun W o => by
  have k1 := X5.out.2.2.1.to (o.block _ X5.out.2.2.1.lt (fun h => by have := HF.out _ h; have := X5.out.2.2.2.2.1; omega))
  have k2 := X5.out.2.1.to (o.block _ X5.out.2.1.lt (fun h => by have := HF.out _ h; have := X5.out.2.2.2.1; omega))
  exact ⟨k1.cell 0, k1.cell 1, k1.cell 2, k1.cell 3, k1.cell 4, k1.cell 5, k1.cell 6, k1.cell 7, k2.cell 0, k2.cell 1, k2.cell 2, k2.cell 3, k2.cell 4⟩)
 have HSU : Hid (Calls Tryz.prog 15 #[.pointer (some ⟨p, 0, none⟩), .agg #[.int .i64 1, .int .i64 2, .int .i64 0, .int .i64 256, .int .i64 257, .int .i64 259, .int .i64 260, .int .i64 261], .agg #[.slice AI 2 ci, .int .i64 1, .slice AT 256 ct, .slice AS 1 cs, .slice AF 2 cf]] w5 fun e w' => e = .returned (.int .i64 0) ∧ ArTo w5 F p exC0 exEa w') := hID (by
  have hFF : ∀ k, F k → w2.heap.size ≤ k := fun k hk => by have := HF.out k hk; have := X4.out.1.size; omega
  exact setup_shown w5 F p hA _ _ _ _ (HS.out.keep X5.out.1) (rd_far HS.out.t X5.out.1 hFF) (rd_far HS.out.s X5.out.1 hFF) (rd_far HS.out.f X5.out.1 hFF) (tz_keep HZ.out (X2.out.also X5.out.1)))
 clear hA o5 hF X4
 obtain ⟨l0, l1, l2, l3, l4, l5, l6, l7, s0, s1, s2, s3, s4⟩ := GC.out _ (Off.refl _ _)
 go_wp2_with fail
 refine (steps_ex _).mono ?_
 rintro e w' ⟨rfl, rfl⟩
 go_wp2_with fail
 refine HSU.out.mono ?_
 rintro e w6 ⟨rfl, a6⟩
 have Y6 := hID a6
 clear l0 l1 l2 l3 l4 l5 l6 l7 s0 s1 s2 s3 s4
 clear a6 HSU
 obtain ⟨l0, l1, l2, l3, l4, l5, l6, l7, s0, s1, s2, s3, s4⟩ := GC.out _ (Y6.out.2)
 go_wp2_with fail
 have HST := hID (steps_shown w6 _ p Y6.out.1)
 refine HST.out.mono ?_
 rintro e w' ⟨rfl, rfl⟩
 go_wp2_with fail
 have HBY := hID (byte_shown w6 _ p Y6.out.1)
 refine HBY.out.mono ?_
 rintro e w7 ⟨rfl, a7⟩
 have Y7 := hID (Y6.out.trans a7)
 clear l0 l1 l2 l3 l4 l5 l6 l7 s0 s1 s2 s3 s4
 clear a7 HBY HST
 go_wp2_with fail
 have HSI := hID (since_shown w7 _ p Y7.out.1)
 refine HSI.out.mono ?_
 rintro e w8 ⟨t, rfl, ht, o8⟩
 have HT := hID ht
 have ht2 := Rd.own (F := fun _ => True) ht (fun _ _ => trivial)
 obtain ⟨bt, ot, ct2, rfl, hct⟩ := ht2.cellsT (by rw [exT_len]; decide)
 have HC := hID hct
 rw [exT_len]
 have Y8 := hID (Y7.out.nob o8)
 clear ht ht2 hct o8 HSI
 go_wp2_with (first
  | (refine wpList_buildTo rfl 106 _ rfl _ rfl wantC.toArray (by kernel_rfl) ?_)
  | (refine wpList_store_row rfl 106 _ _ rfl w8.heap.size wantC.toArray ?x1 ?x2 106 #[.int .i32 0, .int .i32 0, .int .i32 0, .int .i32 0, .int .i32 0, .int .i32 0, .int .i32 0, .int .i32 0, .int .i32 0, .int .i32 0, .int .i32 0, .int .i32 0, .int .i32 0, .int .i32 0, .int .i32 0, .int .i32 0, .int .i32 0, .int .i32 0, .int .i32 0, .int .i32 0, .int .i32 0, .int .i32 0] ?x3 ?x4 ?x5 ?x6 ?_))
 case x1 => rfl
 case x2 => rfl
 case x3 => exact heap_alloc_new _ _
 case x4 => exact want_size
 case x5 => exact want_len
 case x6 => exact want_one
 have X9 : Hid (Off Nob w8 ((w8.alloc (.cells #[.int .i32 0, .int .i32 0, .int .i32 0, .int .i32 0, .int .i32 0, .int .i32 0, .int .i32 0, .int .i32 0, .int .i32 0, .int .i32 0, .int .i32 0, .int .i32 0, .int .i32 0, .int .i32 0, .int .i32 0, .int .i32 0, .int .i32 0, .int .i32 0, .int .i32 0, .int .i32 0, .int .i32 0, .int .i32 0] 106)).setRow w8.heap.size wantC.toArray) ∧ Blk ((w8.alloc (.cells #[.int .i32 0, .int .i32 0, .int .i32 0, .int .i32 0, .int .i32 0, .int .i32 0, .int .i32 0, .int .i32 0, .int .i32 0, .int .i32 0, .int .i32 0, .int .i32 0, .int .i32 0, .int .i32 0, .int .i32 0, .int .i32 0, .int .i32 0, .int .i32 0, .int .i32 0, .int .i32 0, .int .i32 0, .int .i32 0] 106)).setRow w8.heap.size wantC.toArray) w8.heap.size 106 wantC.toArray) := hID ⟨off_setRow (Off.alloc (Off.refl _ _) _) (Nat.le_refl _) _, setRow_heap _ _ _ _ _ _ (heap_alloc_new _ _)⟩
 revert X9
 obtain ⟨bw, hbw⟩ : ∃ bw, w8.heap.size = bw := ⟨_, rfl⟩
 generalize ((w8.alloc (.cells #[.int .i32 0, .int .i32 0, .int .i32 0, .int .i32 0, .int .i32 0, .int .i32 0, .int .i32 0, .int .i32 0, .int .i32 0, .int .i32 0, .int .i32 0, .int .i32 0, .int .i32 0, .int .i32 0, .int .i32 0, .int .i32 0, .int .i32 0, .int .i32 0, .int .i32 0, .int .i32 0, .int .i32 0, .int .i32 0] 106)).setRow w8.heap.size wantC.toArray) = w9
 rw [hbw]
 intro X9
 clear hbw
 have Y9 := hID (Y8.out.nob X9.out.1)
 go_loopw [0, 12] (fun q i wr => ∃ k : Nat, q = .bool false ∧ k ≤ 256 ∧ i = .int .i64 k ∧ wr = w9) (fun q i _ => 256 - (intOf i).toNat)
 case atStart => exact ⟨0, rfl, by decide, rfl, rfl⟩
 case round =>
  obtain ⟨k, rfl, hk, rfl, rfl⟩ := hrel
  by_cases hlt : k < 256
  ·have d1 : decide ((k : Int) < 256) = true := decide_eq_true (by omega)
   have hev := evs_at exT k (by rw [exT_len]; omega)
   rw [exT_lo k hlt] at hev
   have e1 : wr.cell? ⟨bt, ot + k * 2, none⟩ = some (.int .i32 1) := by rw [Nat.mul_comm]; exact HC.out _ X9.out.1 _ _ hev.1
   have e2 : wr.cell? ⟨bt, ot + k * 2 + 1, none⟩ = some (.int .i32 (k : Int)) := by rw [Nat.mul_comm, Nat.add_assoc]; exact HC.out _ X9.out.1 _ _ hev.2
   clear hev
   go_wp2_with fail
   go_roundw
   case rel => exact ⟨k + 1, rfl, by omega, by go_num, trivial⟩
   case measure => simp [intOf]; omega
  ·obtain rfl : k = 256 := by omega
   obtain ⟨wo, rfl⟩ : ∃ wo : World, wo = wr := ⟨_, rfl⟩
   go_wp2_with fail
   go_loopw [0, 13] (fun q i wq => ∃ k : Nat, q = .bool false ∧ k ≤ 11 ∧ i = .int .i64 k ∧ Off Nob wo wq) (fun q i _ => 11 - (intOf i).toNat)
   case atStart => exact ⟨0, rfl, by decide, rfl, Off.refl _ _⟩
   case round =>
    obtain ⟨k, rfl, hk2, rfl, ho⟩ := hrel
    have HO := hID ho
    clear ho
    by_cases hlt2 : k < 11
    ·have d1 : decide ((k : Int) < 11) = true := decide_eq_true (by omega)
     have hev := evs_at exT (256 + k) (by rw [exT_len]; omega)
     have hew := evs_at wantE k (by rw [wantE_len]; omega)
     rw [want_at k hlt2] at hev
     rw [want_evs] at hew
     have hb := X9.out.2.to (HO.out.block _ X9.out.2.lt id)
     have e1 : wr.cell? ⟨bt, ot + (256 + k) * 2, none⟩ = some (.int .i32 ((evAt wantE k).1 : Int)) := by rw [Nat.mul_comm]; exact HC.out _ (X9.out.1.also HO.out) _ _ hev.1
     have e2 : wr.cell? ⟨bt, ot + (256 + k) * 2 + 1, none⟩ = some (.int .i32 ((evAt wantE k).2 : Int)) := by rw [Nat.mul_comm, Nat.add_assoc]; exact HC.out _ (X9.out.1.also HO.out) _ _ hev.2
     have e3 : wr.cell? ⟨bw, k * 2, none⟩ = some (.int .i32 ((evAt wantE k).1 : Int)) := by rw [Nat.mul_comm]; exact (hb.cell _).trans (by simpa using hew.1)
     have e4 : wr.cell? ⟨bw, k * 2 + 1, none⟩ = some (.int .i32 ((evAt wantE k).2 : Int)) := by rw [Nat.mul_comm]; exact (hb.cell _).trans (by simpa using hew.2)
     clear hev hew hb
     revert e1 e2 e3 e4
     generalize ((evAt wantE k).1 : Int) = a1
     generalize ((evAt wantE k).2 : Int) = a2
     intro e1 e2 e3 e4
     go_wp2_with fail
     go_quiet (fail)
     go_wp2_with fail
     go_roundw
     case rel => exact ⟨k + 1, rfl, by omega, by go_num, HO.out.drewN _⟩
     case measure => simp [intOf]; omega
    ·obtain rfl : k = 11 := by omega
     have YA := hID (Y9.out.nob HO.out)
     go_wp2_with fail
     refine (cells_ok YA.out.1).mono ?_
     rintro e wc ⟨u, rfl, hu, oc⟩
     rw [exC4_len] at hu
     have hu2 := Rd.own (F := fun _ => True) hu (fun _ _ => trivial)
     obtain ⟨bu, ou, cu, rfl, hcu⟩ := hu2.cellsT (by decide)
     have d1 : wc.cell? ⟨bu, ou + 259, none⟩ = some (.int .u64 5) := by
      have h := hcu wc (Off.refl _ _) 259 _ (getElem_u64s exC4 259 (by rw [exC4_len]; decide))
      unfold cl at h
      rw [ex4_259] at h
      exact h
     have d2 : wc.cell? ⟨bu, ou + 261, none⟩ = some (.int .u64 0) := by
      have h := hcu wc (Off.refl _ _) 261 _ (getElem_u64s exC4 261 (by rw [exC4_len]; decide))
      unfold cl at h
      rw [ex4_261] at h
      exact h
     have d3 : wc.cell? ⟨bu, ou + 262, none⟩ = some (.int .u64 18446744073709551615) := by
      have h := hcu wc (Off.refl _ _) 262 _ (getElem_u64s exC4 262 (by rw [exC4_len]; decide))
      unfold cl at h
      rw [ex4_262] at h
      exact h
     have YB := hID (YA.out.nob oc)
     clear hu hu2 hcu oc YA
     go_wp2_with fail
     go_ret
     refine ⟨rfl, ?_⟩
     have h0 := X2.out.also X5.out.1
     exact Off.own h0 YB.out.2 (fun k hk => by have := HF.out k hk; have := X2.out.size; have := X5.out.2.2.2.2.1; have := X5.out.2.2.2.1; omega)
end Go.Proofs.YtkflicifngohcaaGreatDoor

namespace Go.Proofs.YtkflicifngohcaaGreatDoor
open Go.RowKit
set_option maxRecDepth 100000
def rowZ (a b : Nat) : Nat := 256 * a + a + b * a + a + a + b
theorem rowZ_le (a b : Nat) (a4 : a ≤ 4) (b16 : b ≤ 16) : rowZ a b ≤ 1200 := by
 have := Nat.mul_le_mul b16 a4
 unfold rowZ
 omega
end Go.Proofs.YtkflicifngohcaaGreatDoor
