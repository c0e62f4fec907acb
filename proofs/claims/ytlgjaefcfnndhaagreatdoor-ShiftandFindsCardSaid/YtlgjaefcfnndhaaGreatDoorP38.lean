/-
 Lists of what reads as something: read, and grown by append.
-/
import Derived.Test.YtlgjaefcfnndhaaGreatDoorP37
import Derived.Deep.Upon
set_option linter.unusedVariables false
set_option linter.unusedSimpArgs false
set_option maxHeartbeats 16000000
set_option maxRecDepth 100000
namespace Go.Proofs.YtlgjaefcfnndhaaGreatDoor
open Go.RowKit
structure Lasts {β : Type} (E : World → (Nat → Prop) → Value → β → Prop) : Prop where
 keep : ∀ {W W' : World} {F G : Nat → Prop} {v : Value} {b : β}, E W F v b → Off G W W' → (∀ k, F k → ¬ G k) → E W' F v b
 mono : ∀ {W : World} {F G : Nat → Prop} {v : Value} {b : β}, E W F v b → (∀ k, F k → G k) → E W G v b
 there : ∀ {W : World} {F : Nat → Prop} {v : Value} {b : β}, E W F v b → E W (fun k => F k ∧ k < W.heap.size) v b
 one : ∀ {W : World} {F : Nat → Prop} {v : Value} {b : β}, E W F v b → v.oneCell' = true
def RdLs {β : Type} (E : World → (Nat → Prop) → Value → β → Prop) (w : World) (F : Nat → Prop) (v : Value) (Bs : List β) : Prop := ∃ vs : List Value, vs.length = Bs.length ∧ Rd w F 1 v Bs.length vs ∧ ∀ (i : Nat) (u : Value) (b : β), vs[i]? = some u → Bs[i]? = some b → E w F u b
theorem Rd.thereN {V : World} {F : Nat → Prop} {sz n : Nat} {v : Value} {xs : List Value} (h : Rd V F sz v n xs) : Rd V (fun k => F k ∧ k < V.heap.size) sz v n xs := by
 obtain ⟨A, c, he, hm, hl, hc⟩ := h
 exact ⟨A, c, he, hm, hl, fun hn => by
  obtain ⟨b, o, h1, h2, h3, h4⟩ := hc hn
  exact ⟨b, o, h1, ⟨h2, h3⟩, h3, h4⟩⟩
theorem qma {α : Type} (s : Nat) (enc : α → List Value) : Lasts (fun w F v (L : List α) => RdL w F s enc v L) where
 keep h o hd := RdL.keep h o hd
 mono h hs := RdL.mono h hs
 there h := Rd.thereN h
 one h := by obtain ⟨A, c, rfl⟩ := RdL.form h; rfl
theorem qak {β : Type} {E : World → (Nat → Prop) → Value → β → Prop} (L : Lasts E) : Lasts (RdLs E) where
 keep h o hd := by
  obtain ⟨vs, h1, h2, h3⟩ := h
  exact ⟨vs, h1, h2.keep o hd, fun i u b hu hb => L.keep (h3 i u b hu hb) o hd⟩
 mono h hs := by
  obtain ⟨vs, h1, h2, h3⟩ := h
  exact ⟨vs, h1, h2.mono hs, fun i u b hu hb => L.mono (h3 i u b hu hb) hs⟩
 there h := by
  obtain ⟨vs, h1, h2, h3⟩ := h
  exact ⟨vs, h1, h2.thereN, fun i u b hu hb => L.there (h3 i u b hu hb)⟩
 one h := by
  obtain ⟨vs, h1, h2, h3⟩ := h
  obtain ⟨A, c, rfl, _⟩ := h2.form
  rfl
section
variable {β : Type} {E : World → (Nat → Prop) → Value → β → Prop} {w w' : World} {F G : Nat → Prop} {v : Value} {Bs : List β}
theorem RdLs.form (h : RdLs E w F v Bs) : ∃ A c, v = .slice A Bs.length c := by
 obtain ⟨vs, h1, h2, h3⟩ := h
 obtain ⟨A, c, rfl, _⟩ := h2.form
 exact ⟨A, c, rfl⟩
theorem RdLs.at_ (L : Lasts E) (h : RdLs E w F v Bs) {k : Nat} {b : β} (hk : Bs[k]? = some b) : ∃ B o c u, v = .slice (some ⟨B, o, none⟩) Bs.length c ∧ (∀ W G, Off G w W → (∀ k, F k → ¬ G k) → W.cell? ⟨B, o + k, none⟩ = some u) ∧ E w F u b := by
 obtain ⟨vs, h1, h2, h3⟩ := h
 have hlt := (List.getElem?_eq_some_iff.1 hk).1
 have h2' := h2
 obtain ⟨A, c, he, hm, hl, hc⟩ := h2
 obtain ⟨B, o, rfl, hF, hb, hx⟩ := hc (by omega)
 have hv : vs[k]? = some (vs[k]'(by omega)) := gEe (by omega)
 refine ⟨B, o, c, _, he, fun W G oW hd => ?_, h3 k _ b hv hk⟩
 have h4 := h2'.keep oW hd
 obtain ⟨A2, c2, he2, _, _, hc2⟩ := h4
 obtain ⟨B2, o2, hA2, _, _, hx2⟩ := hc2 (by omega)
 rw [he] at he2
 injection he2 with e1
 rw [hA2] at e1
 injection e1 with e1
 injection e1 with e1 e2
 subst e1 e2
 exact hx2 k _ hv
end
theorem Lasts.beside {β : Type} {E : World → (Nat → Prop) → Value → β → Prop} (L : Lasts E) {V V' : World} {lo : Nat} {out out' v : Value} {b : β} (h : E V (fun k => lo ≤ k ∧ out.ownBlock ≠ some k) v b) (hg : V.grownBy V' out.ownBlock) (hat : out'.ownBlock = out.ownBlock ∨ out'.ownBlock = some V.heap.size) : E V' (fun k => lo ≤ k ∧ out'.ownBlock ≠ some k) v b := by
 have o2 : Off (fun j => out.ownBlock = some j) V V' := Off.grown oRf hg (fun k hk => .inl hk)
 refine L.mono (L.keep (L.there h) o2 (fun k hk hf => hk.1.2 hf)) fun k hk => ⟨hk.1.1, fun e => ?_⟩
 rcases hat with h3 | h3
 ·exact hk.1.2 (h3 ▸ e)
 ·rw [h3] at e
  injection e with e
  omega
theorem qge {t e : TypeId} {i : TypeInfo} {z : Value} {size bytes : Nat} (ht : Tryz.prog.underlying t = some (.slice e)) (h_h : Tryz.prog.info? e = some i) (z_h : i.zero = some z) (s_h : i.size = size) (b_h : i.bytes = bytes) (hzs : z.cells.size = size) (hsz : 0 < size) {F : Nat → Prop} (w : World) (base : Nat) {v u : Value} {n m : Nat} {xs news : List Value} (oW : w.ownsRow base e size v n xs) (hu : Rd w F size u m news) (h1 : ∀ y ∈ news, y.oneCell' = true) (hb : n + m ≤ 1000000) (hby : bytes ≤ 1000) (hbase : base ≤ w.heap.size) :
  ∃ v' w', (Builtin.append_ #[t, t] t #[v, u]).run Tryz.prog w = .ok v' w' ∧ w'.ownsRow base e size v' (n + m) (xs ++ news) ∧ w.grownBy w' v.ownBlock ∧ (v'.ownBlock = v.ownBlock ∨ v'.ownBlock = some w.heap.size) := by
 have hbb : (n + m) * bytes ≤ 1000000 * 1000 := Nat.mul_le_mul hb hby
 obtain ⟨A, c, rfl, hm, hl, hc⟩ := hu
 cases A with
 | some ad =>
  obtain ⟨v', w', h2, h3, h4, _, h5⟩ := run_append_own_at (P := Tryz.prog) w base t t e i z size bytes ht h_h z_h s_h b_h hzs hsz v n xs oW ad m c news hl (fun j y hy => by
   have hm0 : 0 < m := by
    rcases Nat.eq_zero_or_pos m with h | h
    ·subst h
     have := (List.getElem?_eq_some_iff.1 hy).1
     omega
    ·exact h
   obtain ⟨b, o, he, _, _, hx⟩ := hc hm0
   injection he with he
   subst he
   rw [qam]
   exact hx j y hy) h1 (by unfold maxLen; omega) (by omega) hbase
  exact ⟨v', w', h2, h3, h4, h5⟩
 | none =>
  have hm0 : m = 0 := by
   rcases Nat.eq_zero_or_pos m with h | h
   ·exact h
   ·obtain ⟨b, o, he, _⟩ := hc h
    cases he
  subst hm0
  have hn : news = [] := List.eq_nil_of_length_eq_zero (by omega)
  subst hn
  obtain ⟨A, k, rfl, hnk⟩ : ∃ A k, v = .slice A n k ∧ n ≤ k := by
   rcases oW.2 with ⟨rfl, rfl⟩ | ⟨g, cap, cur, rfl, _, _, hle, _⟩
   ·exact ⟨none, 0, rfl, Nat.le_refl _⟩
   ·exact ⟨_, _, rfl, hle⟩
  refine ⟨_, w, run_append_nothing (P := Tryz.prog) w t t t e i ht h_h A n k hnk (.slice none 0 c) ⟨.inl ⟨_, ht⟩, fun w' => by simp [Builtin.lenOf], by simp [Builtin.firstCells], by simp [Builtin.firstCells], by simp, fun _ h => by cases h⟩, by simpa using oW, ⟨rfl, rfl, rfl, Nat.le_refl _, fun _ _ _ => rfl⟩, .inl rfl⟩
structure GrowL {β : Type} (E : World → (Nat → Prop) → Value → β → Prop) (w0 : World) (t : TypeId) (x : Value) (Bs : List β) (wr : World) : Prop where
 o : Off Nob w0 wr
 x : ∃ vs : List Value, vs.length = Bs.length ∧ wr.ownsRow w0.heap.size t 1 x Bs.length vs ∧ ∀ (i : Nat) (u : Value) (b : β), vs[i]? = some u → Bs[i]? = some b → E wr (fun k => w0.heap.size ≤ k ∧ x.ownBlock ≠ some k) u b
section
variable {β : Type} {E : World → (Nat → Prop) → Value → β → Prop} {w0 wr W : World} {t : TypeId} {x : Value} {Bs : List β}
theorem GrowL.nil (E : World → (Nat → Prop) → Value → β → Prop) (t : TypeId) (o : Off Nob w0 wr) : GrowL E w0 t (.slice none 0 0) [] wr := ⟨o, [], rfl, World.ownsRow_nil _ _ _ _, fun i u b h => by simp at h⟩
theorem GrowL.go (L : Lasts E) (h : GrowL E w0 t x Bs wr) (o : Off Nob wr W) : GrowL E w0 t x Bs W := by
 obtain ⟨vs, h1, h2, h3⟩ := h.x
 exact ⟨h.o.also o, vs, h1, qas h2 (fun g hg => o.block g (h2.lt g hg).2 id), fun i u b hu hb => L.keep (h3 i u b hu hb) o (fun _ _ h => h)⟩
theorem GrowL.form (h : GrowL E w0 t x Bs wr) : ∃ A c, x = .slice A Bs.length c := by
 obtain ⟨vs, h1, h2, h3⟩ := h.x
 rcases h2.2 with ⟨rfl, h0⟩ | ⟨g, cap, cur, rfl, _⟩
 ·exact ⟨none, 0, by rw [h0]⟩
 ·exact ⟨_, _, rfl⟩
theorem GrowL.rd (L : Lasts E) (h : GrowL E w0 t x Bs wr) : RdLs E wr (fun k => w0.heap.size ≤ k) x Bs := by
 obtain ⟨vs, h1, h2, h3⟩ := h.x
 exact ⟨vs, h1, Rd.own h2 (fun k hk => (h2.lt k hk).1), fun i u b hu hb => L.mono (h3 i u b hu hb) (fun k hk => hk.1)⟩
theorem GrowL.push (L : Lasts E) (h : GrowL E w0 t x Bs wr) {T : TypeId} {i : TypeInfo} (ht : Tryz.prog.underlying T = some (.slice t)) (h_h : Tryz.prog.info? t = some i) (z_h : i.zero = some (.slice none 0 0)) (s_h : i.size = 1) (b_h : i.bytes = 24) {u : Value} {b : β} (hu : E wr (fun k => w0.heap.size ≤ k ∧ x.ownBlock ≠ some k) u b) (hn : Bs.length ≤ 999999) :
  ∃ x' w', (Builtin.append_ #[T, T] T #[x, .slice (some ⟨wr.heap.size, 0, none⟩) 1 1]).run Tryz.prog (wr.alloc (.cells #[u] t)) = .ok x' w' ∧ GrowL E w0 t x' (Bs ++ [b]) w' ∧ (wr.alloc (.cells #[u] t)).grownBy w' x.ownBlock ∧ (x'.ownBlock = x.ownBlock ∨ x'.ownBlock = some (wr.alloc (.cells #[u] t)).heap.size) := by
 have o1 : Off Nob wr (wr.alloc (.cells #[u] t)) := oAl oRf _
 have h' := h.go L o1
 have hu' := L.keep hu o1 (fun _ _ h => h)
 obtain ⟨vs, h1, h2, h3⟩ := h'.x
 have hone : Rd (wr.alloc (.cells #[u] t)) (fun _ => True) 1 (.slice (some ⟨wr.heap.size, 0, none⟩) 1 1) 1 [u] := by
  refine ⟨_, _, rfl, by unfold maxLen; omega, rfl, fun _ => ⟨wr.heap.size, 0, rfl, trivial, by simp, fun j y hy => ?_⟩⟩
  rw [Nat.zero_add, (Blk.new wr t #[u]).cell]
  simpa using hy
 obtain ⟨x', w', hr, oW, hg, hat⟩ := qge ht h_h z_h s_h b_h rfl (by decide) (wr.alloc (.cells #[u] t)) w0.heap.size h2 hone (fun y hy => by rw [List.mem_singleton.1 hy]; exact L.one hu) (by omega) (by decide) h'.o.size
 refine ⟨x', w', hr, ⟨?_, vs ++ [u], by simp [h1], by rw [List.length_append]; exact oW, fun j y c hy hc => ?_⟩, hg, hat⟩
 ·exact Off.grown h'.o hg (fun k hk => .inr (h2.lt k hk).1)
 ·rcases Nat.lt_or_ge j vs.length with hj | hj
  ·rw [List.getElem?_append_left hj] at hy
   rw [List.getElem?_append_left (by omega)] at hc
   exact L.beside (h3 j y c hy hc) hg hat
  ·rw [List.getElem?_append_right hj] at hy
   rw [List.getElem?_append_right (by omega)] at hc
   have e1 : j - vs.length = 0 := by
    have := (List.getElem?_eq_some_iff.1 hy).1
    simp at this
    omega
   rw [e1] at hy
   rw [← h1, e1] at hc
   simp at hy hc
   subst hy hc
   exact L.beside hu' hg hat
end
end Go.Proofs.YtlgjaefcfnndhaaGreatDoor
