/- The trace of goroutine 0 and one child that both make and write memory of their own, till the child's close of a channel is seen: no data race, and at last goroutine 0 knows every touch of memory. -/
import Derived.Test.YtlgjaefcfnndhaaGreatDoorP5
import Derived.Conc.CrowdTrace
set_option linter.unusedVariables false
set_option linter.unusedSimpArgs false
set_option maxHeartbeats 16000000
namespace Go.Pip
open Go.Conc Go.Ride
def Mine (M : Nat → Prop) (B : Nat) (l : Loc) : Prop := ∃ a : Addr, l = .cell a ∧ M a.block ∧ a.block < B
def qf7 (c : Nat) (M : Nat → Prop) (B : Nat) (l : Loc) : Prop := (∃ a : Addr, l = .cell a ∧ ¬ M a.block ∧ a.block < B) ∨ l = .obj c
structure PT (k c n0 : Nat) (M : Nat → Prop) (B : Nat) (t : Trace) : Prop where
 clean : ∀ said, ¬ Race said t
 old : ∀ i a, i < n0 → touchAt t i = some a → a.loc.isMemory = true → Knows t 0 i ∧ Knows t k i
 new : ∀ i op, n0 ≤ i → t[i]? = some op → ∀ x, op.act.touch? = some x → (op.g = 0 ∧ Mine M B x.loc) ∨ (op.g = k ∧ qf7 c M B x.loc)
 hears : Deaf t 0 = 0
 hears' : Deaf t k = 0
 size : n0 ≤ t.size
section
variable {k c n0 : Nat} {M M' : Nat → Prop} {B B' : Nat} {t u : Trace}
theorem qui (hM : ∀ b, b < B → (M' b ↔ M b)) (hB : B ≤ B') {l : Loc} (h : Mine M B l) : Mine M' B' l :=
 let ⟨a, e, h1, h2⟩ := h; ⟨a, e, (hM _ h2).2 h1, Nat.lt_of_lt_of_le h2 hB⟩
theorem qpi (hM : ∀ b, b < B → (M' b ↔ M b)) (hB : B ≤ B') {l : Loc} (h : qf7 c M B l) : qf7 c M' B' l :=
 h.imp (fun ⟨a, e, h1, h2⟩ => ⟨a, e, fun h => h1 ((hM _ h2).1 h), Nat.lt_of_lt_of_le h2 hB⟩) id
theorem qfi {l : Loc} (h : Mine M B l) (h' : qf7 c M B l) : False := by
 obtain ⟨a, rfl, h1, _⟩ := h
 rcases h' with ⟨a', e, h2, _⟩ | e
 ·cases e; exact h2 h1
 ·cases e
theorem PT.mono (h : PT k c n0 M B t) (hM : ∀ b, b < B → (M' b ↔ M b)) (hB : B ≤ B') : PT k c n0 M' B' t :=
 ⟨h.clean, h.old, fun i op hi ho x hx => (h.new i op hi ho x hx).imp (fun ⟨a, b⟩ => ⟨a, qui hM hB b⟩) (fun ⟨a, b⟩ => ⟨a, qpi hM hB b⟩), h.hears, h.hears', h.size⟩
theorem qef (h : PT k c n0 M B t) (u : Trace) : ∀ i a, i < n0 → touchAt (t ++ u) i = some a → a.loc.isMemory = true → Knows (t ++ u) 0 i ∧ Knows (t ++ u) k i := fun i a hi ha hm => by
 rw [touchAt_old (Nat.lt_of_lt_of_le hi h.size)] at ha
 exact ⟨(h.old i a hi ha hm).1.app u, (h.old i a hi ha hm).2.app u⟩
theorem PT.app0 (h : PT k c n0 M B t) (hu : ∀ op ∈ u, op.g = 0) (hk : k ≠ 0) (hm : ∀ op ∈ u, ∀ x, op.act.touch? = some x → Mine M B x.loc) (hd : Deaf (t ++ u) 0 = Deaf t 0) : PT k c n0 M B (t ++ u) := by
 refine ⟨fun said => noRace_append (h.clean said) hu fun i a ha op hop b hb hc => ?_, qef h u, fun i op hi ho x hx => ?_, hd.trans h.hears, (Deaf_other t (by omega) u hu).trans h.hears', by simp; have := h.size; omega⟩
 ·obtain ⟨x, hx, hxa⟩ := touch_of ha
  rcases Nat.lt_or_ge i n0 with hi | hi
  ·exact (h.old i a hi ha hc.2.1).1
  ·rcases h.new i x hi hx a hxa with ⟨hg, _⟩ | ⟨_, ht⟩
   ·have := knows_own hx
    rwa [hg] at this
   ·exact (qfi (hc.1 ▸ hm op hop b hb) ht).elim
 ·rcases getElem?_append_cases ho with ⟨_, ho'⟩ | ⟨_, hou⟩
  ·exact h.new i op hi ho' x hx
  ·exact .inl ⟨hu op hou, hm op hou x hx⟩
theorem PT.appk (h : PT k c n0 M B t) (hu : ∀ op ∈ u, op.g = k) (hk : k ≠ 0) (hm : ∀ op ∈ u, ∀ x, op.act.touch? = some x → qf7 c M B x.loc) (hd : Deaf (t ++ u) k = Deaf t k) : PT k c n0 M B (t ++ u) := by
 refine ⟨fun said => noRace_append (h.clean said) hu fun i a ha op hop b hb hc => ?_, qef h u, fun i op hi ho x hx => ?_, (Deaf_other t hk u hu).trans h.hears, hd.trans h.hears', by simp; have := h.size; omega⟩
 ·obtain ⟨x, hx, hxa⟩ := touch_of ha
  rcases Nat.lt_or_ge i n0 with hi | hi
  ·exact (h.old i a hi ha hc.2.1).2
  ·rcases h.new i x hi hx a hxa with ⟨_, ht⟩ | ⟨hg, _⟩
   ·exact (qfi ht (hc.1 ▸ hm op hop b hb)).elim
   ·have := knows_own hx
    rwa [hg] at this
 ·rcases getElem?_append_cases ho with ⟨_, ho'⟩ | ⟨_, hou⟩
  ·exact h.new i op hi ho' x hx
  ·exact .inr ⟨hu op hou, hm op hou x hx⟩
theorem qdj (t : Trace) (g : Nat) (u : Trace) (hu : ∀ op ∈ u, op.act ≠ .mark .disable ∧ op.act ≠ .mark .enable) : Deaf (t ++ u) g = Deaf t g := by
 obtain ⟨l⟩ := u
 rw [Deaf_append]
 generalize Deaf t g = d
 induction l generalizing d with
 | nil => rfl
 | cons x l ih =>
  have hx := hu x (by simp)
  have : deafStep g d x = d := by
   unfold deafStep
   split <;> simp_all
  rw [List.foldl_cons, this]
  exact ih (fun op hop => hu op (by simp at hop ⊢; exact .inr hop)) d
theorem qfs (h : ∀ said, ¬ Race said t) (hn : ∀ op ∈ u, op.act.touch? = none) : ∀ said, ¬ Race said (t ++ u) := by
 intro said
 rintro ⟨i, j, hij, ⟨a, b, ha, hb, hc⟩, n1, n2⟩
 obtain ⟨x, hx, hxa⟩ := touch_of ha
 obtain ⟨y, hy, hyb⟩ := touch_of hb
 rcases getElem?_append_cases hy with ⟨hj, hy'⟩ | ⟨_, hyu⟩
 ·have hi : i < t.size := Nat.lt_trans hij hj
  have hx' : t[i]? = some x := by rw [← getElem?_append_old (u := u) hi]; exact hx
  exact h said ⟨i, j, hij, ⟨a, b, by simp [Trace.act?, hx', hxa], by simp [Trace.act?, hy', hyb], hc⟩, fun e => n1 (hb_app u e), fun e => n2 (hb_app u e)⟩
 ·rw [hn y hyu] at hyb; cases hyb
theorem PT.mute (h : PT k c n0 M B t) (hn : ∀ op ∈ u, op.act.touch? = none) (hd0 : Deaf (t ++ u) 0 = Deaf t 0) (hdk : Deaf (t ++ u) k = Deaf t k) : PT k c n0 M B (t ++ u) := by
 refine ⟨qfs h.clean hn, qef h u, fun i op hi ho x hx => ?_, hd0.trans h.hears, hdk.trans h.hears', by simp; have := h.size; omega⟩
 rcases getElem?_append_cases ho with ⟨_, ho'⟩ | ⟨_, hou⟩
 ·exact h.new i op hi ho' x hx
 ·rw [hn op hou] at hx; cases hx
theorem PT.comm (h : PT k c n0 M B t) (hn : ∀ op ∈ u, op.act.touch? = none ∧ op.act ≠ .mark .disable ∧ op.act ≠ .mark .enable) : PT k c n0 M B (t ++ u) :=
 h.mute (fun op hop => (hn op hop).1) (qdj t 0 u fun op hop => (hn op hop).2) (qdj t k u fun op hop => (hn op hop).2)
def Shut (k c : Nat) (t : Trace) (p : Nat) : Prop := (∃ op, t[p]? = some op ∧ op.g = k ∧ op.act = .close c) ∧ t.deaf k p = 0 ∧ ∀ i op, t[i]? = some op → op.g = k → op.act.touch? ≠ none → i < p
theorem Shut.app {p : Nat} (h : Shut k c t p) (hu : ∀ op ∈ u, op.g = k → op.act.touch? = none) : Shut k c (t ++ u) p := by
 obtain ⟨⟨op, h1, h2, h3⟩, hd, h4⟩ := h
 refine ⟨⟨op, by rw [getElem?_append_old (lt_size_of_getElem? h1)]; exact h1, h2, h3⟩, by rw [deaf_old (Nat.le_of_lt (lt_size_of_getElem? h1))]; exact hd, fun i op hi hg ht => ?_⟩
 rcases getElem?_append_cases hi with ⟨_, hi'⟩ | ⟨_, hiu⟩
 ·exact h4 i op hi' hg ht
 ·exact absurd (hu op hiu hg) ht
theorem g?_of {t : Trace} {i : Nat} {op : MemOp} (h : t[i]? = some op) : t.g? i = some op.g := by unfold Trace.g?; rw [h]; rfl
theorem PT.done {p : Nat} (h : PT k c n0 M B t) (hs : Shut k c t p) (hk : k ≠ 0) {y : MemOp} (hy : y.g = 0) (hya : y.act = .recvClosed c) : Past0 (t ++ #[y]) := by
 have hlast : (t ++ #[y])[t.size]? = some y := by rw [Array.getElem?_append_right (Nat.le_refl _)]; simp
 obtain ⟨⟨op, h1, h2, h3⟩, hd, h4⟩ := hs
 have hp : p < t.size := lt_size_of_getElem? h1
 have h1' : (t ++ #[y])[p]? = some op := by rw [getElem?_append_old hp]; exact h1
 have hnk : Knows (t ++ #[y]) 0 p := ⟨t.size, y, hlast, hy, .inr (.single (.inr ⟨.closed (c := c) (by rw [act?_of h1', h3]) (by rw [act?_of hlast, hya]), ⟨k, (g?_of h1').trans (by rw [h2]), by rw [deaf_old (Nat.le_of_lt hp)]; exact hd⟩, ⟨0, (g?_of hlast).trans (by rw [hy]), by rw [deaf_old (Nat.le_refl _)]; exact h.hears⟩⟩))⟩
 have hty : y.act.touch? = none := by rw [hya]; rfl
 have hknow : ∀ i a, touchAt (t ++ #[y]) i = some a → a.loc.isMemory = true → Knows (t ++ #[y]) 0 i := by
  intro i a ha hm
  obtain ⟨x, hx, hxa⟩ := touch_of ha
  rcases getElem?_append_cases hx with ⟨hi, hx'⟩ | ⟨_, hxu⟩
  ·rcases Nat.lt_or_ge i n0 with hin | hin
   ·exact ((h.old i a hin (by rw [touchAt_of hx']; exact hxa) hm).1).app _
   ·rcases h.new i x hin hx' a hxa with ⟨hg, _⟩ | ⟨hg, _⟩
    ·have := (knows_own hx').app #[y]
     rwa [hg] at this
    ·have hlt := h4 i x hx' hg (by rw [hxa]; simp)
     exact Knows.of_before (.inr (hb_po hlt hx h1' (hg.trans h2.symm))) hnk
  ·have : x = y := by simpa using hxu
   rw [this, hty] at hxa; cases hxa
 obtain ⟨Bd, hB⟩ := qni (t ++ #[y]).toList
 refine ⟨Bd, fun said => qfs h.clean (by simpa using hty) said, fun i a ha hm => .inl (hknow i a ha hm), fun i g hg hne hc => ?_, ?_, fun op hop => hB op (by simpa using hop)⟩
 ·obtain ⟨x, hx, hm, _⟩ := hc
  obtain ⟨q, z, hq, hz, hb⟩ := hknow i x hx hm
  rcases hb with rfl | hb
  ·rw [g?_of hq, hz] at hg; exact absurd (Option.some.inj hg).symm hne
  ·exact ⟨q, (g?_of hq).trans (by rw [hz]), hb⟩
 ·rw [qdj t 0 #[y] (by simp [hya])]; exact h.hears
theorem PT.begin (h : Past0 t) (hk0 : Deaf t k = 0) (hk : k ≠ 0) {x y : MemOp} (hx : x.g = 0 ∧ x.act = .go k) (hy : y.g = k ∧ y.act = .start) : PT k c (t ++ #[x, y]).size M B (t ++ #[x, y]) := by
 obtain ⟨_, h⟩ := h
 have hn : ∀ op ∈ (#[x, y] : Array MemOp), op.act.touch? = none ∧ op.act ≠ .mark .disable ∧ op.act ≠ .mark .enable := by
  intro op hop
  simp at hop
  rcases hop with rfl | rfl
  ·rw [hx.2]; simp [MemAct.touch?]
  ·rw [hy.2]; simp [MemAct.touch?]
 refine ⟨qfs h.clean fun op hop => (hn op hop).1, fun i a hi ha hm => ?_, fun i op hi ho => ?_, ?_, ?_, Nat.le_refl _⟩
 ·obtain ⟨z, hz, hza⟩ := touch_of ha
  rcases getElem?_append_cases hz with ⟨_, hz'⟩ | ⟨_, hzu⟩
  ·have hkn := (h.known i a (by rw [touchAt_of hz']; exact hza) hm).resolve_right (fun hf => hf.1)
   exact ⟨hkn.app _, Go.ConcN.fork_knows hx hy h.hears hk0 hkn⟩
  ·rw [(hn z hzu).1] at hza; cases hza
 ·have := lt_size_of_getElem? ho
  omega
 ·rw [qdj t 0 _ fun op hop => (hn op hop).2]; exact h.hears
 ·rw [qdj t k _ fun op hop => (hn op hop).2]; exact hk0
end
end Go.Pip
