/-
 What goroutine 0 and its child do with memory of their own: new blocks, rows that grow.
-/
import Derived.Test.YtlgjaefcfnndhaaGreatDoorP7
import Derived.Conc.AppendEvents3
import Derived.Conc.AppendWalk
import Derived.Laws.AppendOwn
import Derived.Below
set_option linter.unusedVariables false
set_option linter.unusedSimpArgs false
set_option maxHeartbeats 16000000
namespace Go.Pip
open Go.Conc Go.Ride Go.RowKit
theorem qhu {P : Program} {w w' : World} (base : Nat) (t ty e : TypeId) (i : TypeInfo) (z : Value) (size bytes : Nat) (ht : P.underlying t = some (.slice e)) (hi : P.info? e = some i) (hz : i.zero = some z)
  (hsize : i.size = size) (hby : i.bytes = bytes)
  (v v' : Value) (n : Nat) (xs : List Value) (oW : w.ownsRow base e size v n xs)
  (a : Addr) (m c : Nat) (news : List Value) (hl : news.length = m * size) (hnews : ∀ j u, news[j]? = some u → w.cell? (a.add j) = some u) (h1 : ∀ u ∈ news, u.oneCell' = true)
  (h63 : n + m ≤ maxLen) (hbytes : (n + m) * bytes ≤ 140737488355328)
  (hr : (Builtin.append_ #[t, t] ty #[v, .slice (some a) m c]).run P w = .ok v' w') (T : TypeId) :
  ∀ k, k < w.heap.size → ((∃ cs y, w'.heap[k]? = some (.cells cs T y)) ↔ ∃ cs y, w.heap[k]? = some (.cells cs T y)) := by
 subst hsize
 subst hby
 have hsmall : n + m ≤ 9223372036854775807 := by simp only [maxLen] at h63; omega
 intro k hk
 rcases oW.2 with ⟨rfl, rfl⟩ | ⟨g, cap, cur, rfl, hbg, hg, hnc, hcm, hcs, htake⟩
 ·by_cases hm : m = 0
  ·subst hm
   have hn : news = [] := List.eq_nil_of_length_eq_zero (by simpa using hl)
   subst hn
   simp [Builtin.append_, run_underlying ht, sizeOf, typeInfo, hi, Builtin.lenOf, Builtin.firstCells, loadCells, loadCellsFrom] at hr
   rw [hr.2]
  ·have hr' := run_append_nil (P := P) w t ty e i z ht hi hz a m c news hl hnews (by omega) (by omega) (by have hb := hbytes; simp only [Nat.zero_add] at hb; omega)
   rw [hr'] at hr
   injection hr with _ e2
   subst e2
   rw [heap_alloc_old w.drew _ k hk]
   exact Iff.rfl
 ·by_cases hroom : n + m ≤ cap
  ·have hfit : n * i.size + news.length ≤ cur.size := by rw [hl, hcs, ← Nat.add_mul]; exact Nat.mul_le_mul_right _ hroom
   have hr' := run_append_room (P := P) w t ty e i ht hi g n cap cur hg a m c news hl hnews h1 hroom hfit
   rw [hr'] at hr
   injection hr with _ e2
   subst e2
   by_cases hkg : k = g
   ·subst hkg
    rw [setRow_heap w k cur _ e _ hg, hg]
    constructor
    ·rintro ⟨cs, y, h⟩; injection h with h; injection h with _ h2 h3; subst h2; exact ⟨_, _, rfl⟩
    ·rintro ⟨cs, y, h⟩; injection h with h; injection h with _ h2 h3; subst h2; exact ⟨_, _, rfl⟩
   ·rw [setRow_other w g k _ hkg]
  ·have holds : ∀ j u, xs[j]? = some u → w.cell? ((⟨g, 0, none⟩ : Addr).add j) = some u := oW.cells (g := g) rfl
   have hr' := run_append_grow (P := P) w t ty e i z ht hi hz ⟨g, 0, none⟩ n cap xs oW.1 holds a m c news hl hnews (by omega) (by omega) (growslice_fits (by omega) hbytes)
   rw [hr'] at hr
   injection hr with _ e2
   subst e2
   rw [heap_alloc_old w.drew _ k hk]
   exact Iff.rfl
variable {K : Cfg} {w w' : World}
theorem qiv {row : Option Nat} (hg : w.grownBy w' row) (hL : K.Low ≤ w.heap.size) (hk : ∀ k, k < w.heap.size → (isHit K w' k ↔ isHit K w k)) (hrow : ∀ g, row = some g → K.Low ≤ g ∧ ¬ isHit K w g) : SuffA K w w' :=
 ⟨hg.tape, hg.os, hg.output, hg.size, fun b h1 _ _ => hg.block b (by omega) (fun e => by have := (hrow b e.symm).1; omega), fun b h1 _ h3 => hg.block b h1 (fun e => (hrow b e.symm).2 h3), hk⟩
theorem qiw {row : Option Nat} (hg : w.grownBy w' row) (hk : ∀ k, k < w.heap.size → (isHit K w' k ↔ isHit K w k)) (hrow : ∀ g, row = some g → K.Low ≤ g ∧ isHit K w g) : SuffB K w w' :=
 ⟨hg.tape, hg.os, hg.output, hg.size, fun b h1 _ h3 => hg.block b h1 (fun e => h3.elim (fun h => by have := (hrow b e.symm).1; omega) (fun h => h (hrow b e.symm).2)), hk⟩
theorem qn6 {row : Option Nat} (hg : w.grownBy w' row) (hL : K.Low ≤ w.heap.size) (hrow : ∀ g, row = some g → K.Low ≤ g) : w'.heap[K.c]? = w.heap[K.c]? :=
 hg.block K.c (by have := K.cLow; omega) (fun e => by have := hrow _ e.symm; have := K.cLow; omega)
theorem qc1 (w : World) (o : Obj) : w.grownBy (w.alloc o) none := ⟨rfl, rfl, rfl, by simp, fun k hk _ => heap_alloc_old w o k hk⟩
theorem qix (w : World) (o : Obj) : ∀ k, k < w.heap.size → (isHit K (w.alloc o) k ↔ isHit K w k) := fun k hk => by unfold isHit; rw [heap_alloc_old w o k hk]
theorem qpy (hL : K.Low ≤ w.heap.size) (o : Obj) : SuffA K w (w.alloc o) := qiv (qc1 w o) hL (qix w o) (fun _ h => by cases h)
theorem qiy (o : Obj) : SuffB K w (w.alloc o) := qiw (qc1 w o) (qix w o) (fun _ h => by cases h)
theorem qlf (hL : K.Low ≤ w.heap.size) (o : Obj) : (w.alloc o).heap[K.c]? = w.heap[K.c]? := qn6 (qc1 w o) hL (fun _ h => by cases h)
theorem ownsB {e : TypeId} {size n : Nat} {v : Value} {xs : List Value} (he : e ≠ K.ty) (h : w.ownsRow K.Low e size v n xs) (r : SuffB K w w') : w'.ownsRow K.Low e size v n xs := by
 refine ⟨h.1, h.2.imp id ?_⟩
 rintro ⟨g, cap, cur, e1, hb, hg, x⟩
 have hl : g < w.heap.size := (Array.getElem?_eq_some_iff.1 hg).1
 exact ⟨g, cap, cur, e1, hb, (r.keep g hl (by have := K.cLow; omega) (.inr (fun ⟨cs, z, h⟩ => by rw [hg] at h; injection h with h; injection h with _ h2; exact he h2))).trans hg, x⟩
theorem ownsA {size n : Nat} {v : Value} {xs : List Value} (h : w.ownsRow K.Low K.ty size v n xs) (r : SuffA K w w') : w'.ownsRow K.Low K.ty size v n xs := by
 refine ⟨h.1, h.2.imp id ?_⟩
 rintro ⟨g, cap, cur, e1, hb, hg, x⟩
 exact ⟨g, cap, cur, e1, hb, (r.own g ((Array.getElem?_eq_some_iff.1 hg).1) hb ⟨_, _, hg⟩).trans hg, x⟩
theorem qlg {e : TypeId} {cs : Array Value} {z : Nat × Nat} {g : Nat} (he : e ≠ K.ty) (hg : w.heap[g]? = some (.cells cs e z)) : ¬ isHit K w g := fun ⟨_, _, h⟩ => by
 rw [hg] at h; injection h with h; injection h with _ h2; exact he h2
theorem qc8 {e : TypeId} {size n : Nat} {v : Value} {xs : List Value} (he : e ≠ K.ty) (h : w.ownsRow K.Low e size v n xs) : ∀ g, v.ownBlock = some g → K.Low ≤ g ∧ ¬ isHit K w g := by
 intro g hg
 rcases h.2 with ⟨rfl, _⟩ | ⟨g', cap, cur, rfl, hb, hh, _⟩
 ·cases hg
 ·simp [Value.ownBlock] at hg; subst hg; exact ⟨hb, qlg he hh⟩
theorem qxn {size n : Nat} {v : Value} {xs : List Value} (h : w.ownsRow K.Low K.ty size v n xs) : ∀ g, v.ownBlock = some g → K.Low ≤ g ∧ isHit K w g := by
 intro g hg
 rcases h.2 with ⟨rfl, _⟩ | ⟨g', cap, cur, rfl, hb, hh, _⟩
 ·cases hg
 ·simp [Value.ownBlock] at hg; subst hg; exact ⟨hb, _, _, hh⟩
theorem qn7 {e : Event} {a : Addr} (hl : e.loc = .cell a) (h : ¬ isHit K w a.block) (hs : a.block < w.heap.size) : EvB K w e := by
 obtain ⟨l, wr, sy⟩ := e
 simp only at hl
 subst hl
 refine ⟨by simp, by simp, fun x hx => ?_⟩
 simp [MemAct.ofEvent, MemAct.touch?] at hx
 subst hx
 exact .inl ⟨a, rfl, fun hm => h hm.2, hs⟩
theorem qn8 {e : Event} {a : Addr} (hl : e.loc = .cell a) (hb : K.Low ≤ a.block) (h : isHit K w a.block) (hs : a.block < w.heap.size) : EvA K w e := by
 obtain ⟨l, wr, sy⟩ := e
 simp only at hl
 subst hl
 refine ⟨by simp, by simp, fun x hx => ?_⟩
 simp [MemAct.ofEvent, MemAct.touch?] at hx
 subst hx
 exact ⟨a, rfl, ⟨hb, h⟩, hs⟩
theorem qxo {m : Mark} (hn : Neutral m) : EvA K w ⟨.mark m, false, true⟩ := by
 unfold Neutral at hn
 subst hn
 exact ⟨by simp, by simp, fun x hx => by simp [MemAct.ofEvent, MemAct.touch?] at hx⟩
theorem ql1 (p : Addr) (u : Value) (b : Nat) : isHit K (w.setCell p u) b ↔ isHit K w b := by
 by_cases hbp : b = p.block
 ·subst hbp
  unfold isHit
  simp only [World.setCell, Array.getElem?_modify, if_true]
  cases ho : w.heap[p.block]? with
  | none => simp
  | some o => cases o <;> simp
 ·have e : (w.setCell p u).heap[b]? = w.heap[b]? := Below.heap_setCell _ _ _ _ hbp
  unfold isHit; rw [e]
theorem ql2 {p : Addr} (hp : K.Low ≤ p.block) (h : isHit K w p.block) (u : Value) : SuffB K w (w.setCell p u) := by
 have e : ∀ b, b ≠ p.block → (w.setCell p u).heap[b]? = w.heap[b]? := fun b hb => Below.heap_setCell _ _ _ _ hb
 refine ⟨rfl, rfl, rfl, by simp, fun b _ _ h3 => e b (fun hb => ?_), fun b _ => ql1 p u b⟩
 subst hb
 exact h3.elim (fun h => by omega) (fun h' => h' h)
theorem qxp {m : Mark} (hn : Neutral m) : EvB K w ⟨.mark m, false, true⟩ := by
 unfold Neutral at hn
 subst hn
 exact ⟨by simp, by simp, fun x hx => by simp [MemAct.ofEvent, MemAct.touch?] at hx⟩
end Go.Pip
