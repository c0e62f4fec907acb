/- Goroutine 0 ranges over a channel with a buffer; its child, which makes and writes memory of its own, sends over it and closes it; all others only leave: on every tape goroutine 0 comes behind its loop, and knows all that the child did. What is asked of each of the two. -/
import Derived.Test.YtlgjaefcfnndhaaGreatDoorO6
import Derived.Conc.CrowdComm
import Derived.Conc.Pipeline3
set_option linter.unusedVariables false
set_option linter.unusedSimpArgs false
set_option maxHeartbeats 16000000
namespace Go.Pip
open Go.Conc Go.Ride
structure Cfg where
 c : Nat
 cap : Nat
 Low : Nat
 ty : TypeId
 Wr : Nat → Prop
 /-- What the child leaves behind when it closes the channel. -/
 J : World → Prop
 cLow : c < Low
 pos : 0 < cap
variable (K : Cfg)
def isHit (w : World) (b : Nat) : Prop := ∃ cs z, w.heap[b]? = some (.cells cs K.ty z)
def MB (w : World) (b : Nat) : Prop := K.Low ≤ b ∧ isHit K w b
structure SuffA (w w₁ : World) : Prop where
 tape : w₁.tape = w.tape
 os : w₁.os = w.os
 output : w₁.output = w.output
 size : w.heap.size ≤ w₁.heap.size
 low : ∀ b, b < K.Low → b ≠ K.c → ¬ K.Wr b → w₁.heap[b]? = w.heap[b]?
 own : ∀ b, b < w.heap.size → K.Low ≤ b → isHit K w b → w₁.heap[b]? = w.heap[b]?
 kind : ∀ b, b < w.heap.size → (isHit K w₁ b ↔ isHit K w b)
structure SuffB (w w₁ : World) : Prop where
 tape : w₁.tape = w.tape
 os : w₁.os = w.os
 output : w₁.output = w.output
 size : w.heap.size ≤ w₁.heap.size
 keep : ∀ b, b < w.heap.size → b ≠ K.c → (b < K.Low ∨ ¬ isHit K w b) → w₁.heap[b]? = w.heap[b]?
 kind : ∀ b, b < w.heap.size → (isHit K w₁ b ↔ isHit K w b)
def qe4 : Prop := ∀ w w', K.J w → SuffB K w w' → K.J w'
variable {K}
theorem SuffA.at (w : World) (d : Nat) : SuffA K w (w.at d) := ⟨rfl, rfl, rfl, Nat.le_refl _, fun _ _ _ _ => rfl, fun _ _ _ _ => rfl, fun _ _ => Iff.rfl⟩
theorem SuffB.at (w : World) (d : Nat) : SuffB K w (w.at d) := ⟨rfl, rfl, rfl, Nat.le_refl _, fun _ _ _ _ => rfl, fun _ _ => Iff.rfl⟩
theorem SuffA.refl (w : World) : SuffA K w w := ⟨rfl, rfl, rfl, Nat.le_refl _, fun _ _ _ _ => rfl, fun _ _ _ _ => rfl, fun _ _ => Iff.rfl⟩
theorem SuffB.refl (w : World) : SuffB K w w := ⟨rfl, rfl, rfl, Nat.le_refl _, fun _ _ _ _ => rfl, fun _ _ => Iff.rfl⟩
theorem SuffA.trans {a b c : World} (h : SuffA K a b) (h' : SuffA K b c) : SuffA K a c :=
 ⟨h'.tape.trans h.tape, h'.os.trans h.os, h'.output.trans h.output, Nat.le_trans h.size h'.size, fun x h1 h2 h3 => (h'.low x h1 h2 h3).trans (h.low x h1 h2 h3),
  fun x h1 h2 h3 => (h'.own x (Nat.lt_of_lt_of_le h1 h.size) h2 ((h.kind x h1).2 h3)).trans (h.own x h1 h2 h3), fun x h1 => (h'.kind x (Nat.lt_of_lt_of_le h1 h.size)).trans (h.kind x h1)⟩
theorem SuffB.trans {a b c : World} (h : SuffB K a b) (h' : SuffB K b c) : SuffB K a c :=
 ⟨h'.tape.trans h.tape, h'.os.trans h.os, h'.output.trans h.output, Nat.le_trans h.size h'.size,
  fun x h1 h2 h3 => (h'.keep x (Nat.lt_of_lt_of_le h1 h.size) h2 (h3.imp id fun h4 => mt (h.kind x h1).1 h4)).trans (h.keep x h1 h2 h3), fun x h1 => (h'.kind x (Nat.lt_of_lt_of_le h1 h.size)).trans (h.kind x h1)⟩
theorem SuffA.put {w : World} {o : Obj} (h0 : ∀ cs z, w.heap[K.c]? ≠ some (.cells cs K.ty z)) (h1 : ∀ cs z, o ≠ .cells cs K.ty z) : SuffA K w { w with heap := w.heap.setIfInBounds K.c o } := by
 have e : ∀ b, b ≠ K.c → ({ w with heap := w.heap.setIfInBounds K.c o } : World).heap[b]? = w.heap[b]? := fun b hb => by simp [Ne.symm hb]
 refine ⟨rfl, rfl, rfl, by simp, fun b _ h _ => e b h, fun b _ _ h => ?_, fun b hb => ?_⟩
 ·by_cases hbc : b = K.c
  ·subst hbc; obtain ⟨cs, z, h⟩ := h; exact absurd h (h0 cs z)
  ·exact e b hbc
 ·by_cases hbc : b = K.c
  ·subst hbc
   refine ⟨fun ⟨cs, z, h⟩ => ?_, fun ⟨cs, z, h⟩ => absurd h (h0 cs z)⟩
   simp [hb] at h
   exact absurd h (h1 cs z)
  ·unfold isHit; rw [e b hbc]
theorem SuffB.put {w : World} {o : Obj} (h0 : ∀ cs z, w.heap[K.c]? ≠ some (.cells cs K.ty z)) (h1 : ∀ cs z, o ≠ .cells cs K.ty z) : SuffB K w { w with heap := w.heap.setIfInBounds K.c o } := by
 have e : ∀ b, b ≠ K.c → ({ w with heap := w.heap.setIfInBounds K.c o } : World).heap[b]? = w.heap[b]? := fun b hb => by simp [Ne.symm hb]
 exact ⟨rfl, rfl, rfl, by simp, fun b _ h _ => e b h, (SuffA.put h0 h1).kind⟩
variable (K)
def EvA (w : World) (e : Event) : Prop := e.loc ≠ .mark .disable ∧ e.loc ≠ .mark .enable ∧ ∀ x, (MemAct.ofEvent e).touch? = some x → Mine (MB K w) w.heap.size x.loc
def EvB (w : World) (e : Event) : Prop := e.loc ≠ .mark .disable ∧ e.loc ≠ .mark .enable ∧ ∀ x, (MemAct.ofEvent e).touch? = some x → qf0 K.c (MB K w) w.heap.size x.loc
def DA (w w' : World) (es : Array Event) : Prop := SuffB K w w' ∧ w'.heap[K.c]? = w.heap[K.c]? ∧ ∀ e ∈ es, EvA K w' e
def DB (w w' : World) (es : Array Event) : Prop := SuffA K w w' ∧ w'.heap[K.c]? = w.heap[K.c]? ∧ ∀ e ∈ es, EvB K w' e
variable (P : Program)
def qmo (v : Value) (Next : Goroutine → World → Prop) (g : Goroutine) (w : World) : Prop :=
 g.status = .running ∧ ∃ g₂ z es, stepG P false g w = .comm g₂ #[scase K.c v z] true .send w es ∧ (∀ e ∈ es, EvB K w e) ∧ ∀ w₂, SuffB K w w₂ → Next (Go.Conc.served g₂ undef) w₂
def qh7 (g : Goroutine) (w : World) : Prop :=
 g.status = .running ∧ mayWake P g = true ∧ ∃ (g₂ : Goroutine) (n : Nat), (∀ buf s r tm, w.heap[K.c]? = some (.chan K.cap buf false s r tm) →
  stepG P false g w = .go g₂ (w.setChan K.c K.cap buf true s r tm) #[⟨.obj K.c, false, true⟩, ⟨.obj K.c, true, true⟩]) ∧ QuitsIn P n g₂ ∧ K.J w
def Sends : List Value → Goroutine → World → Prop
 | [], g, w => ∃ n, Goes P false (SuffB K) (DB K) (qh7 K P) n g w
 | v :: vs, g, w => ∃ n, Goes P false (SuffB K) (DB K) (qmo K P v (Sends vs)) n g w
def StopB : List Value → Goroutine → World → Prop
 | [] => qh7 K P
 | v :: vs => qmo K P v (Sends K P vs)
theorem sends_iff (vs : List Value) (g : Goroutine) (w : World) : Sends K P vs g w ↔ ∃ n, Goes P false (SuffB K) (DB K) (StopB K P vs) n g w := by
 cases vs <;> exact Iff.rfl
def qjy (z : Value) (Next : Goroutine → World → Prop) (g : Goroutine) (w : World) : Prop :=
 g.status = .running ∧ ∃ es, stepG P true g w = .comm (core g) #[rcase K.c z] true (.recv true) w es ∧ (∀ e ∈ es, EvA K w e) ∧ ∀ w₂, SuffA K w w₂ → Next (core g) w₂
def Recvs (z : Value) (Fin : Goroutine → World → Prop) : List Value → Goroutine → World → Prop
 | [], g, w => ∃ n, Goes P true (SuffA K) (DA K) (qjy K P z fun g₂ w₂ => Fin (Go.Conc.served g₂ (.tuple #[z, .bool false])) w₂) n g w
 | v :: vs, g, w => ∃ n, Goes P true (SuffA K) (DA K) (qjy K P z fun g₂ w₂ => Recvs z Fin vs (Go.Conc.served g₂ (.tuple #[v, .bool true])) w₂) n g w
def StopA (z : Value) (Fin : Goroutine → World → Prop) : List Value → Goroutine → World → Prop
 | [] => qjy K P z fun g₂ w₂ => Fin (Go.Conc.served g₂ (.tuple #[z, .bool false])) w₂
 | v :: vs => qjy K P z fun g₂ w₂ => Recvs K P z Fin vs (Go.Conc.served g₂ (.tuple #[v, .bool true])) w₂
theorem recvs_iff (z : Value) (Fin : Goroutine → World → Prop) (vs : List Value) (g : Goroutine) (w : World) : Recvs K P z Fin vs g w ↔ ∃ n, Goes P true (SuffA K) (DA K) (StopA K P z Fin vs) n g w := by
 cases vs <;> exact Iff.rfl
def SitA (z : Value) (Fin : Goroutine → World → Prop) (vs : List Value) (ra : Nat) (a : Goroutine) (w : World) : Prop :=
 (∃ n, ra = n + 1 ∧ Goes P true (SuffA K) (DA K) (StopA K P z Fin vs) n a w) ∨
 (ra = 0 ∧ ∃ g, a = parked (core g) #[rcase K.c z] (.recv true) ∧ ∀ w₁, SuffA K w w₁ → StopA K P z Fin vs g w₁)
def SitB (vs : List Value) (rb : Nat) (b : Goroutine) (w : World) : Prop :=
 (∃ n, rb = n + 1 ∧ Goes P false (SuffB K) (DB K) (StopB K P vs) n b w) ∨
 (rb = 0 ∧ ∃ v vs' g₂ z', vs = v :: vs' ∧ b = parked g₂ #[scase K.c v z'] .send ∧ ∀ w₁, SuffB K w w₁ → Sends K P vs' (Go.Conc.served g₂ undef) w₁)
variable {K P} {z : Value} {Fin : Goroutine → World → Prop}
theorem StopA.running {vs : List Value} {g : Goroutine} {w : World} (h : StopA K P z Fin vs g w) : g.status = .running := by cases vs <;> exact h.1
theorem StopB.running {vs : List Value} {g : Goroutine} {w : World} (h : StopB K P vs g w) : g.status = .running := by cases vs <;> exact h.1
theorem StopA.comm {vs : List Value} {g : Goroutine} {w : World} (h : StopA K P z Fin vs g w) : ∃ es, stepG P true g w = .comm (core g) #[rcase K.c z] true (.recv true) w es ∧ ∀ e ∈ es, EvA K w e := by
 cases vs <;> exact let ⟨_, es, h1, h2, _⟩ := h; ⟨es, h1, h2⟩
theorem StopA.cons {v : Value} {vs : List Value} {g : Goroutine} {w : World} (h : StopA K P z Fin (v :: vs) g w) : ∀ w₂, SuffA K w w₂ → Recvs K P z Fin vs (Go.Conc.served (core g) (.tuple #[v, .bool true])) w₂ :=
 let ⟨_, _, _, _, h3⟩ := h; h3
theorem StopA.nil {g : Goroutine} {w : World} (h : StopA K P z Fin [] g w) : ∀ w₂, SuffA K w w₂ → Fin (Go.Conc.served (core g) (.tuple #[z, .bool false])) w₂ :=
 let ⟨_, _, _, _, h3⟩ := h; h3
theorem StopA.again {vs : List Value} {g : Goroutine} {w : World} (h : StopA K P z Fin vs g w) : StopA K P z Fin vs { parked (core g) #[rcase K.c z] (.recv true) with status := .running } w := by
 have e : stepG P true { parked (core g) #[rcase K.c z] (.recv true) with status := .running } w = stepG P true g w := stepG_same rfl rfl rfl w
 cases vs <;> exact let ⟨_, es, h1, h2, h3⟩ := h; ⟨rfl, es, by rw [e]; exact h1, h2, h3⟩
theorem SitA.rely {vs : List Value} {ra : Nat} {a : Goroutine} {w w₁ : World} (h : SitA K P z Fin vs ra a w) (hr : SuffA K w w₁) : SitA K P z Fin vs ra a w₁ := by
 rcases h with ⟨n, e, hg⟩ | ⟨e, g, ea, hs⟩
 ·exact .inl ⟨n, e, Goes.rely (R := SuffA K) (fun _ _ _ h h' => SuffA.trans h h') hg hr⟩
 ·exact .inr ⟨e, g, ea, fun w₂ h₂ => hs w₂ (hr.trans h₂)⟩
theorem SitB.rely {vs : List Value} {rb : Nat} {b : Goroutine} {w w₁ : World} (h : SitB K P vs rb b w) (hr : SuffB K w w₁) : SitB K P vs rb b w₁ := by
 rcases h with ⟨n, e, hg⟩ | ⟨e, v, vs', g₂, z', e1, e2, hs⟩
 ·exact .inl ⟨n, e, Goes.rely (R := SuffB K) (fun _ _ _ h h' => SuffB.trans h h') hg hr⟩
 ·exact .inr ⟨e, v, vs', g₂, z', e1, e2, fun w₂ h₂ => hs w₂ (hr.trans h₂)⟩
theorem SitA.status {vs : List Value} {ra : Nat} {a : Goroutine} {w : World} (h : SitA K P z Fin vs ra a w) : (a.status = .running ∧ 0 < ra) ∨ (a.status = .blocked ∧ ra = 0) := by
 rcases h with ⟨n, e, hg⟩ | ⟨e, g, rfl, _⟩
 ·exact .inl ⟨hg.running (fun _ _ => StopA.running) w (SuffA.refl w), by omega⟩
 ·exact .inr ⟨rfl, e⟩
theorem SitB.status {vs : List Value} {rb : Nat} {b : Goroutine} {w : World} (h : SitB K P vs rb b w) : (b.status = .running ∧ 0 < rb) ∨ (b.status = .blocked ∧ rb = 0) := by
 rcases h with ⟨n, e, hg⟩ | ⟨e, v, vs', g₂, z', _, rfl, _⟩
 ·exact .inl ⟨hg.running (fun _ _ => StopB.running) w (SuffB.refl w), by omega⟩
 ·exact .inr ⟨rfl, e⟩
theorem SitA.woken {vs : List Value} {ra : Nat} {a x x' : Goroutine} {w w' : World} {buf : Array Value} {s r : Nat} {tm : Bool} (h : SitA K P z Fin vs ra a w) (hc : w'.heap[K.c]? = some (.chan K.cap buf false s r tm)) : woken P x x' w' a = a := by
 rcases h with ⟨n, e, hg⟩ | ⟨e, g, rfl, _⟩
 ·exact woken_run (hg.running (fun _ _ => StopA.running) w (SuffA.refl w))
 ·exact woken_recv_open _ _ hc
theorem SitB.woken {vs : List Value} {rb : Nat} {b x x' : Goroutine} {w w' : World} {buf : Array Value} {s r : Nat} {tm : Bool} (h : SitB K P vs rb b w) (hc : w'.heap[K.c]? = some (.chan K.cap buf false s r tm)) : woken P x x' w' b = b := by
 rcases h with ⟨n, e, hg⟩ | ⟨e, v, vs', g₂, z', _, rfl, _⟩
 ·exact woken_run (hg.running (fun _ _ => StopB.running) w (SuffB.refl w))
 ·exact woken_send_open _ _ hc
end Go.Pip

/- The machine of goroutine 0, its child, and others that only leave, between the fork and the close that goroutine 0 sees: a measure falls with every step. -/
namespace Go.Pip
open Go.Conc Go.Ride
open Go.ConcN (sumTo upd sumTo_upd upd_ne upd_same)
structure Oth (P : Program) (k : Nat) (t : Trace) (gs : Array Goroutine) (q : Nat → Nat) : Prop where
 old : ∀ j g, j ≠ 0 → j ≠ k → gs[j]? = some g → QuitsD P (q j) (Deaf t j) g
 above : ∀ j, gs.size ≤ j → Deaf t j = 0
theorem qci {t u : Trace} {j : Nat} (h : ∀ op ∈ u, op.g ≠ j) : Deaf (t ++ u) j = Deaf t j := by
 obtain ⟨l⟩ := u
 rw [Deaf_append]
 generalize Deaf t j = d
 induction l generalizing d with
 | nil => rfl
 | cons x l ih =>
  have hx := h x (by simp)
  have : deafStep j d x = d := by
   unfold deafStep
   split <;> simp_all
  rw [List.foldl_cons, this]
  exact ih (fun op hop => h op (by simp at hop ⊢; exact .inr hop)) d
section
variable {P : Program} {k : Nat} {t u : Trace} {gs gs' : Array Goroutine} {q : Nat → Nat}
theorem Oth.app (h : Oth P k t gs q) (hs : gs'.size = gs.size) (hk : k < gs.size) (hg : ∀ j, j ≠ 0 → j ≠ k → gs'[j]? = gs[j]?) (hu : ∀ op ∈ u, op.g = 0 ∨ op.g = k) : Oth P k (t ++ u) gs' q := by
 refine ⟨fun j g h0 hjk hj => ?_, fun j hj => ?_⟩
 ·rw [hg j h0 hjk] at hj
  rw [qci fun op hop => by rcases hu op hop with e | e <;> omega]
  exact h.old j g h0 hjk hj
 ·rw [hs] at hj
  rw [qci fun op hop => by rcases hu op hop with e | e <;> omega]
  exact h.above j hj
theorem Oth.awake (h : Oth P k t gs q) {a b : Goroutine} (h0 : gs[0]? = some a) (hk : gs[k]? = some b) (ha : awake a) (hb : awake b) : ∀ g ∈ gs, awake g := by
 intro g hg
 obtain ⟨i, hi, rfl⟩ := Array.mem_iff_getElem.1 hg
 have hgi := Array.getElem?_eq_getElem hi
 by_cases e0 : i = 0
 ·subst e0; rw [h0] at hgi; rw [← Option.some.inj hgi]; exact ha
 ·by_cases ek : i = k
  ·subst ek; rw [hk] at hgi; rw [← Option.some.inj hgi]; exact hb
  ·exact awake_of ((h.old i _ e0 ek hgi).status.elim .inl fun x => .inr (.inr x))
theorem gs_go (h : Oth P k t gs q) {i : Nat} {g g' : Goroutine} {w' : World} (hi : gs[i]? = some g) :
  ((gs.map (woken P g g' w')).setIfInBounds i g').size = gs.size ∧ ((gs.map (woken P g g' w')).setIfInBounds i g')[i]? = some g' ∧
   (∀ j, j ≠ 0 → j ≠ k → j ≠ i → ((gs.map (woken P g g' w')).setIfInBounds i g')[j]? = gs[j]?) ∧
   (∀ j x, j ≠ i → gs[j]? = some x → woken P g g' w' x = x → ((gs.map (woken P g g' w')).setIfInBounds i g')[j]? = some x) := by
 have hlt : i < gs.size := (Array.getElem?_eq_some_iff.1 hi).1
 refine ⟨by simp, by simp [hlt], fun j h0 hk hj => ?_, fun j x hj hx hw => ?_⟩
 ·rw [Array.getElem?_setIfInBounds_ne (Ne.symm hj), Array.getElem?_map]
  cases e : gs[j]? with
  | none => rfl
  | some y => simp [woken_quitsD (h.old j y h0 hk e)]
 ·rw [Array.getElem?_setIfInBounds_ne (Ne.symm hj), Array.getElem?_map, hx]
  simp [hw]
theorem qhp (h : Oth P k t gs q) {w : World} {sl : Option (Nat × Nat)} {i : Nat} {x : Goroutine} (h0 : i ≠ 0) (hk : i ≠ k) (hi : gs[i]? = some x) (hr : x.status = .running) :
  ∃ g' es kq, q i = kq + 1 ∧ (∀ e ∈ es, Event.mute e = true) ∧ runT P (crowd gs w sl) i = (.next (crowd ((gs.map (woken P x g' w)).setIfInBounds i g') w sl), MemOp.ofEvents i x.frame.fn x.frame.place es) ∧
   Oth P k (t ++ MemOp.ofEvents i x.frame.fn x.frame.place es) ((gs.map (woken P x g' w)).setIfInBounds i g') (upd q i kq) ∧ sumTo gs.size (upd q i kq) < sumTo gs.size q := by
 have hq := h.old i x h0 hk hi
 have hi0 : (i == 0) = false := by simp [h0]
 have hlt : i < gs.size := (Array.getElem?_eq_some_iff.1 hi).1
 cases hqi : q i with
 | zero => rw [hqi] at hq; rw [hq.1] at hr; cases hr
 | succ kq =>
  rw [hqi] at hq
  rcases hq with ⟨hf, _⟩ | ⟨_, g', es, hm, hstp, hq'⟩
  ·rw [hf] at hr; cases hr
  have hrunT := runT_crowd_go (P := P) (sl := sl) (i := i) hi (by rw [hi0]; exact hstp w)
  have hsum : sumTo gs.size (upd q i kq) + (kq + 1) = sumTo gs.size q + kq := by
   have := sumTo_upd q kq id hlt
   simpa [hqi] using this
  refine ⟨g', es, kq, rfl, hm, hrunT, ⟨fun j y hj hjk hy => ?_, fun j hj => ?_⟩, by omega⟩
  ·by_cases hji : i = j
   ·subst hji
    rw [Array.getElem?_setIfInBounds_self_of_lt (by simpa using hlt)] at hy
    obtain rfl := Option.some.inj hy
    rw [upd_same, Deaf_own]
    exact hq'
   ·rw [Array.getElem?_setIfInBounds_ne hji, Array.getElem?_map] at hy
    obtain ⟨z, hz, rfl⟩ := Option.map_eq_some_iff.1 hy
    have hqj := h.old j z hj hjk hz
    rw [woken_quitsD hqj, upd_ne q kq (Ne.symm hji), Deaf_other t hji _ (fun op hop => by obtain ⟨e, _, rfl⟩ := Go.Conc.mem_ofEvents hop; rfl)]
    exact hqj
  ·rw [Deaf_other t (g' := i) (by simp at hj; omega) _ (fun op hop => by obtain ⟨e, _, rfl⟩ := Go.Conc.mem_ofEvents hop; rfl)]
   exact h.above j (by simpa using hj)
end
theorem qjz {P : Program} {gs : Array Goroutine} {w w₁ : World} {sl : Option (Nat × Nat)} {i j : Nat} {g g₂ gj : Goroutine} {es : Array Event} {shape shj : CommShape} {blocking : Bool}
  {c cap s r : Nat} {buf : Array Value} {closed tm : Bool} {v z zj : Value} (hi : gs[i]? = some g) (h : stepG P (i == 0) g w = .comm g₂ #[rcase c z] blocking shape w₁ es) (hc : w₁.heap[c]? = some (.chan cap buf closed s r tm)) (hsome : 0 < buf.size)
  (hij : j ≠ i) (hj : gs[j]? = some (parked gj #[scase c v zj] shj)) (hp : partners (gs.setIfInBounds i ph) c true = [(j, 0)]) :
  runT P (crowd gs w sl) i = (.next (crowd ((gs.setIfInBounds j (gj.finishComm P #[scase c v zj] shj 0 undef false)).setIfInBounds i (g₂.finishComm P #[rcase c z] shape 0 (buf.getD 0 undef) true)) (w₁.setChan c cap ((buf.extract 1 buf.size).push v) closed (s + 1) (r + 1) tm) sl),
   MemOp.ofEvents i g.frame.fn g.frame.place es ++ #[{ g := i, fn := g₂.frame.fn, pos := g₂.frame.place, act := .recv c r cap }, { g := i, fn := g₂.frame.fn, pos := g₂.frame.place, act := .recvDone c r },
    { g := j, fn := gj.frame.fn, pos := gj.frame.place, act := .send c s }, { g := j, fn := gj.frame.fn, pos := gj.frame.place, act := .sendDone c s }]) := by
 rw [runT_crowd_comm hi h]
 have hj' := stand_get (i := i) hij hj
 have hfp := finishPartner_at P (gs.setIfInBounds i ph) hj' (cs := #[scase c v zj]) (sh := shj) rfl 0 undef
 have hgd : (gs.setIfInBounds i ph).getD j default = parked gj #[scase c v zj] shj := by rw [Array.getD_eq_getD_getElem?, hj']; rfl
 have hov : offeredValue (gs.setIfInBounds i ph) j 0 = v := by simp [offeredValue, hj', parked, scase]
 simp [communicate, ways, rcase, hc, hp, hsome, choose, Sem.run, Question.forced, bind, Sem.bind, pure, World.setChan, crowd, hfp, hgd, hov, set_stand2, finishComm_parked, scase, parked]
 rfl
section
variable (K : Cfg) (P : Program) (z : Value) (Fin : Goroutine → World → Prop) (k n0 : Nat)
def InvO (X Y : Nat) (gs : Array Goroutine) (w : World) (t : Trace) : Prop :=
 ∃ (a b : Goroutine) (va vb : List Value) (ra rb : Nat) (q : Nat → Nat) (buf : Array Value) (s r : Nat) (tm : Bool),
  gs[0]? = some a ∧ gs[k]? = some b ∧ Oth P k t gs q ∧ w.heap[K.c]? = some (.chan K.cap buf false s r tm) ∧ va = buf.toList ++ vb ∧ SitA K P z Fin va ra a w ∧ SitB K P vb rb b w ∧
  (rb = 0 → buf.size = K.cap) ∧ (ra = 0 → buf = #[]) ∧ buf.size ≤ K.cap ∧ PT k K.c n0 (MB K w) w.heap.size t ∧ X = va.length + vb.length + 1 ∧ Y = ra + rb + sumTo gs.size q
def InvC (X Y : Nat) (gs : Array Goroutine) (w : World) (t : Trace) : Prop :=
 ∃ (a b : Goroutine) (va : List Value) (ra rb : Nat) (q : Nat → Nat) (buf : Array Value) (s r : Nat) (tm : Bool) (p : Nat),
  gs[0]? = some a ∧ gs[k]? = some b ∧ Oth P k t gs q ∧ w.heap[K.c]? = some (.chan K.cap buf true s r tm) ∧ va = buf.toList ∧ SitA K P z Fin va ra a w ∧ 0 < ra ∧ QuitsIn P rb b ∧
  PT k K.c n0 (MB K w) w.heap.size t ∧ Shut k K.c t p ∧ K.J w ∧ X = va.length ∧ Y = ra + rb + sumTo gs.size q
def Inv (X Y : Nat) (gs : Array Goroutine) (w : World) (t : Trace) : Prop := InvO K P z Fin k n0 X Y gs w t ∨ InvC K P z Fin k n0 X Y gs w t
def Done (gs : Array Goroutine) (w : World) (t : Trace) : Prop := ∃ (a : Goroutine) (q : Nat → Nat), gs[0]? = some a ∧ a.status = .running ∧ Fin a w ∧ K.J w ∧ Leavers P t gs q ∧ Past0 t
def Onw (X Y : Nat) (gs : Array Goroutine) (w : World) (t : Trace) : Prop := Done K P Fin gs w t ∨ ∃ X' Y', (X' < X ∨ X' = X ∧ Y' < Y) ∧ Inv K P z Fin k n0 X' Y' gs w t
end
section
variable {K : Cfg} {P : Program} {z : Value} {Fin : Goroutine → World → Prop} {k n0 X Y : Nat} {gs : Array Goroutine} {w : World} {t : Trace}
theorem qpc {c cap s r : Nat} {buf : Array Value} {cl tm : Bool} {ty : TypeId} (h : w.heap[c]? = some (.chan cap buf cl s r tm)) : ∀ cs z, w.heap[c]? ≠ some (.cells cs ty z) := fun cs z e => by rw [h] at e; cases e
theorem qde (K : Cfg) {buf : Array Value} {cl tm : Bool} {s r : Nat} {buf' : Array Value} {cl' : Bool} {s' r' : Nat} {tm' : Bool} {cap : Nat} (h : w.heap[K.c]? = some (.chan K.cap buf cl s r tm)) : (w.setChan K.c cap buf' cl' s' r' tm').heap[K.c]? = some (.chan cap buf' cl' s' r' tm') := heap_put h
theorem qbq {buf : Array Value} {cl tm : Bool} {s r : Nat} (h : w.heap[K.c]? = some (.chan K.cap buf cl s r tm)) (buf' : Array Value) (cl' : Bool) (s' r' : Nat) (tm' : Bool) : SuffA K w (w.setChan K.c K.cap buf' cl' s' r' tm') := SuffA.put (qpc h) (fun _ _ e => by cases e)
theorem qdf {buf : Array Value} {cl tm : Bool} {s r : Nat} (h : w.heap[K.c]? = some (.chan K.cap buf cl s r tm)) (buf' : Array Value) (cl' : Bool) (s' r' : Nat) (tm' : Bool) : SuffB K w (w.setChan K.c K.cap buf' cl' s' r' tm') := SuffB.put (qpc h) (fun _ _ e => by cases e)
theorem PT.suffA {w' : World} (h : PT k K.c n0 (MB K w) w.heap.size t) (hs : SuffA K w w') : PT k K.c n0 (MB K w') w'.heap.size t :=
 h.mono (fun b hb => and_congr_right fun _ => hs.kind b hb) hs.size
theorem PT.suffB {w' : World} (h : PT k K.c n0 (MB K w) w.heap.size t) (hs : SuffB K w w') : PT k K.c n0 (MB K w') w'.heap.size t :=
 h.mono (fun b hb => and_congr_right fun _ => hs.kind b hb) hs.size
theorem PT.evA {w' : World} (h : PT k K.c n0 (MB K w') w'.heap.size t) (hk : k ≠ 0) {fn : FuncId} {pos : String} {es : Array Event} (he : ∀ e ∈ es, EvA K w' e) : PT k K.c n0 (MB K w') w'.heap.size (t ++ MemOp.ofEvents 0 fn pos es) :=
 h.app0 (fun op hop => by obtain ⟨e, _, rfl⟩ := Go.Conc.mem_ofEvents hop; rfl) hk (fun op hop x hx => by obtain ⟨e, hm, rfl⟩ := Go.Conc.mem_ofEvents hop; exact (he e hm).2.2 x hx)
  (by rw [Deaf_own]; exact deafBehind_still (fun e hm => ⟨(he e hm).1, (he e hm).2.1⟩) _)
theorem PT.evB {w' : World} (h : PT k K.c n0 (MB K w') w'.heap.size t) (hk : k ≠ 0) {fn : FuncId} {pos : String} {es : Array Event} (he : ∀ e ∈ es, EvB K w' e) : PT k K.c n0 (MB K w') w'.heap.size (t ++ MemOp.ofEvents k fn pos es) :=
 h.appk (fun op hop => by obtain ⟨e, _, rfl⟩ := Go.Conc.mem_ofEvents hop; rfl) hk (fun op hop x hx => by obtain ⟨e, hm, rfl⟩ := Go.Conc.mem_ofEvents hop; exact (he e hm).2.2 x hx)
  (by rw [Deaf_own]; exact deafBehind_still (fun e hm => ⟨(he e hm).1, (he e hm).2.1⟩) _)
theorem qba {i : Nat} {fn : FuncId} {pos : String} {es : Array Event} : ∀ op ∈ MemOp.ofEvents i fn pos es, op.g = i := fun op hop => by obtain ⟨e, _, rfl⟩ := Go.Conc.mem_ofEvents hop; rfl
theorem qvi (hk : k ≠ 0) {a b a' : Goroutine} {va vb : List Value} {n' rb : Nat} {q : Nat → Nat} {buf : Array Value} {s r : Nat} {tm : Bool} {d : Nat} {w' : World} {es : Array Event} {sl : Option (Nat × Nat)}
  (h0 : gs[0]? = some a) (hb : gs[k]? = some b) (hO : Oth P k t gs q) (hc : w.heap[K.c]? = some (.chan K.cap buf false s r tm)) (hva : va = buf.toList ++ vb) (hB : SitB K P vb rb b w)
  (hrb : rb = 0 → buf.size = K.cap) (hcap : buf.size ≤ K.cap) (hT : PT k K.c n0 (MB K w) w.heap.size t)
  (hgo : stepG P true a (w.at d) = .go a' w' es) (hD : DA K (w.at d) w' es) (hG : Goes P true (SuffA K) (DA K) (StopA K P z Fin va) n' a' w') (hX : X = va.length + vb.length + 1) (hY : Y = n' + 1 + 1 + rb + sumTo gs.size q) :
  ∃ gs' ops, runT P (crowd gs (w.at d) sl) 0 = (.next (crowd gs' w' sl), ops) ∧ gs'.size = gs.size ∧ w'.tape = w.tape ∧ Onw K P z Fin k n0 X Y gs' w' (t ++ ops) := by
 obtain ⟨hS, hcc, hes⟩ := hD
 have hS' : SuffB K w w' := (SuffB.at w d).trans hS
 have hc' : w'.heap[K.c]? = some (.chan K.cap buf false s r tm) := hcc.trans hc
 obtain ⟨g1, g2, g3, g4⟩ := gs_go (P := P) (g' := a') (w' := w') hO h0
 have hlt : k < gs.size := (Array.getElem?_eq_some_iff.1 hb).1
 refine ⟨_, _, runT_crowd_go (i := 0) h0 (show stepG P (0 == 0) a (w.at d) = _ from hgo), g1, hS'.tape, .inr ⟨X, n' + 1 + rb + sumTo gs.size q, .inr ⟨rfl, by omega⟩, .inl ⟨a', b, va, vb, n' + 1, rb, q, buf, s, r, tm, g2, g4 k b hk hb (hB.woken hc'), ?_, hc', hva, .inl ⟨n', rfl, hG⟩, hB.rely hS', hrb, fun h => by omega, hcap, ?_, hX, by rw [g1]⟩⟩⟩
 ·exact hO.app g1 hlt (fun j h1 h2 => g3 j h1 h2 h1) fun op hop => .inl (qba op hop)
 ·exact (hT.suffB hS').evA hk hes
theorem qvj (hk : k ≠ 0) {a b b' : Goroutine} {va vb : List Value} {n' ra : Nat} {q : Nat → Nat} {buf : Array Value} {s r : Nat} {tm : Bool} {d : Nat} {w' : World} {es : Array Event} {sl : Option (Nat × Nat)}
  (h0 : gs[0]? = some a) (hb : gs[k]? = some b) (hO : Oth P k t gs q) (hc : w.heap[K.c]? = some (.chan K.cap buf false s r tm)) (hva : va = buf.toList ++ vb) (hA : SitA K P z Fin va ra a w)
  (hra : ra = 0 → buf = #[]) (hcap : buf.size ≤ K.cap) (hT : PT k K.c n0 (MB K w) w.heap.size t)
  (hgo : stepG P false b (w.at d) = .go b' w' es) (hD : DB K (w.at d) w' es) (hG : Goes P false (SuffB K) (DB K) (StopB K P vb) n' b' w') (hX : X = va.length + vb.length + 1) (hY : Y = ra + (n' + 1 + 1) + sumTo gs.size q) :
  ∃ gs' ops, runT P (crowd gs (w.at d) sl) k = (.next (crowd gs' w' sl), ops) ∧ gs'.size = gs.size ∧ w'.tape = w.tape ∧ Onw K P z Fin k n0 X Y gs' w' (t ++ ops) := by
 obtain ⟨hS, hcc, hes⟩ := hD
 have hS' : SuffA K w w' := (SuffA.at w d).trans hS
 have hc' : w'.heap[K.c]? = some (.chan K.cap buf false s r tm) := hcc.trans hc
 obtain ⟨g1, g2, g3, g4⟩ := gs_go (P := P) (g' := b') (w' := w') hO hb
 have hlt : k < gs.size := (Array.getElem?_eq_some_iff.1 hb).1
 have hk0 : (k == 0) = false := by simp [hk]
 refine ⟨_, _, runT_crowd_go (i := k) hb (by rw [hk0]; exact hgo), g1, hS'.tape, .inr ⟨X, ra + (n' + 1) + sumTo gs.size q, .inr ⟨rfl, by omega⟩, .inl ⟨a, b', va, vb, ra, n' + 1, q, buf, s, r, tm, g4 0 a (Ne.symm hk) h0 (hA.woken hc'), g2, ?_, hc', hva, hA.rely hS', .inl ⟨n', rfl, hG⟩, fun h => by omega, hra, hcap, ?_, hX, by rw [g1]⟩⟩⟩
 ·exact hO.app g1 hlt (fun j h1 h2 => g3 j h1 h2 h2) fun op hop => .inr (qba op hop)
 ·exact (hT.suffA hS').evB hk hes
end
end Go.Pip

/- The communications, the close, the leavers: every step of the machine between the fork and the close that goroutine 0 sees. -/
namespace Go.Pip
open Go.Conc Go.Ride
open Go.ConcN (sumTo upd sumTo_upd upd_ne upd_same)
section
variable {K : Cfg} {P : Program} {z : Value} {Fin : Goroutine → World → Prop} {k n0 X Y : Nat} {gs : Array Goroutine} {w : World} {t : Trace}
theorem qh8 {q : Nat → Nat} (hO : Oth P k t gs q) {i m : Nat} (hi : i = 0 ∧ m = k ∨ i = k ∧ m = 0) {y : Goroutine} (hm : gs[m]? = some y) {r : Nat} {b : Bool} (hy : offersAt y r b = []) : partners (gs.setIfInBounds i ph) r b = [] :=
 partners_nil fun j g hj => by
  rcases getElem?_stand gs i j g hj with ⟨_, rfl⟩ | ⟨hne, hj'⟩
  ·exact offersAt_ph r b
  ·by_cases hjm : j = m
   ·subst hjm; rw [hm] at hj'; rw [← Option.some.inj hj']; exact hy
   ·have := (hO.old j g (by omega) (by omega) hj').status
    exact offersAt_of_not_blocked (by rcases this with h | h <;> simp [h]) r b
theorem qte {q : Nat → Nat} (hO : Oth P k t gs q) {i m : Nat} (hi : i = 0 ∧ m = k ∨ i = k ∧ m = 0) (hk : k ≠ 0) {y : Goroutine} (hm : gs[m]? = some y) {r : Nat} {b : Bool} (hy : offersAt y r b = [0]) : partners (gs.setIfInBounds i ph) r b = [(m, 0)] := by
 have hmi : m ≠ i := by omega
 rw [partners_one (j := m) (g := y) (stand_get hmi hm) fun j g hjm hj => ?_, hy]
 ·rfl
 ·rcases getElem?_stand gs i j g hj with ⟨_, rfl⟩ | ⟨hne, hj'⟩
  ·exact offersAt_ph r b
  ·have := (hO.old j g (by omega) (by omega) hj').status
   exact offersAt_of_not_blocked (by rcases this with h | h <;> simp [h]) r b
theorem qh9 {s : Goroutine} (h : s.status = .running) (r : Nat) (b : Bool) : offersAt s r b = [] := offersAt_of_not_blocked (by simp [h]) r b
theorem set2 {i m : Nat} {x y : Goroutine} (hne : m ≠ i) (hi : i < gs.size) (hm : m < gs.size) : ((gs.setIfInBounds m x).setIfInBounds i y)[i]? = some y ∧ ((gs.setIfInBounds m x).setIfInBounds i y)[m]? = some x ∧ ((gs.setIfInBounds m x).setIfInBounds i y).size = gs.size ∧
  ∀ j, j ≠ i → j ≠ m → ((gs.setIfInBounds m x).setIfInBounds i y)[j]? = gs[j]? := by
 refine ⟨by simp [hi], ?_, by simp, fun j h1 h2 => ?_⟩
 ·rw [Array.getElem?_setIfInBounds_ne (Ne.symm hne), Array.getElem?_setIfInBounds_self_of_lt hm]
 ·rw [Array.getElem?_setIfInBounds_ne (Ne.symm h1), Array.getElem?_setIfInBounds_ne (Ne.symm h2)]
theorem set1 {i : Nat} {y : Goroutine} (hi : i < gs.size) : (gs.setIfInBounds i y)[i]? = some y ∧ (gs.setIfInBounds i y).size = gs.size ∧ ∀ j, j ≠ i → (gs.setIfInBounds i y)[j]? = gs[j]? :=
 ⟨by simp [hi], by simp, fun j h1 => by rw [Array.getElem?_setIfInBounds_ne (Ne.symm h1)]⟩
def Com (k : Nat) (u : Array MemOp) : Prop := ∀ op ∈ u, (op.g = 0 ∨ op.g = k) ∧ op.act.touch? = none ∧ op.act ≠ .mark .disable ∧ op.act ≠ .mark .enable
theorem PT.com {M : Nat → Prop} {c B : Nat} {u : Array MemOp} (h : PT k c n0 M B t) (hu : Com k u) : PT k c n0 M B (t ++ u) := h.comm fun op hop => (hu op hop).2
theorem Oth.com {q : Nat → Nat} {gs' : Array Goroutine} (h : Oth P k t gs q) (hs : gs'.size = gs.size) (hk : k < gs.size) (hg : ∀ j, j ≠ 0 → j ≠ k → gs'[j]? = gs[j]?) {i : Nat} {fn : FuncId} {pos : String} {es : Array Event} {u : Array MemOp} (hi : i = 0 ∨ i = k) (hu : Com k u) :
  Oth P k (t ++ (MemOp.ofEvents i fn pos es ++ u)) gs' q :=
 h.app hs hk hg fun op hop => (Array.mem_append.1 hop).elim (fun h => by rw [qba op h]; exact hi) (fun h => (hu op h).1)
theorem qin {buf : Array Value} (h : 0 < buf.size) : buf.toList = buf.getD 0 undef :: (buf.extract 1 buf.size).toList := by
 obtain ⟨l⟩ := buf
 cases l with
 | nil => simp at h
 | cons x l => simp
theorem qqo (hk : k ≠ 0) {a b : Goroutine} {va vb : List Value} {n rb : Nat} {q : Nat → Nat} {buf : Array Value} {s r : Nat} {tm : Bool} {d : Nat} {sl : Option (Nat × Nat)}
  (h0 : gs[0]? = some a) (hb : gs[k]? = some b) (hO : Oth P k t gs q) (hc : w.heap[K.c]? = some (.chan K.cap buf false s r tm)) (hva : va = buf.toList ++ vb) (hst : ∀ w₁, SuffA K w w₁ → StopA K P z Fin va a w₁) (hB : SitB K P vb rb b w)
  (hrb : rb = 0 → buf.size = K.cap) (hcap : buf.size ≤ K.cap) (hT : PT k K.c n0 (MB K w) w.heap.size t) (hX : X = va.length + vb.length + 1) (hY : Y = n + 1 + rb + sumTo gs.size q) :
  ∃ gs' w' ops, runT P (crowd gs (w.at d) sl) 0 = (.next (crowd gs' w' sl), ops) ∧ gs'.size = gs.size ∧ w'.tape = w.tape ∧ Onw K P z Fin k n0 X Y gs' w' (t ++ ops) := by
 have hS := hst (w.at d) (SuffA.at w d)
 obtain ⟨es, hcomm, hes⟩ := hS.comm
 have hc' : (w.at d).heap[K.c]? = some (.chan K.cap buf false s r tm) := hc
 have hlt0 : 0 < gs.size := (Array.getElem?_eq_some_iff.1 h0).1
 have hltk : k < gs.size := (Array.getElem?_eq_some_iff.1 hb).1
 have hT' := (hT.suffA (SuffA.at w d)).evA (fn := a.frame.fn) (pos := a.frame.place) hk hes
 rcases Nat.eq_zero_or_pos buf.size with hz | hpos
 · -- nothing there: it waits
  have hbr : b.status = .running := by
   rcases hB.status with ⟨h, _⟩ | ⟨_, h⟩
   ·exact h
   ·have := hrb h; have := K.pos; omega
  obtain rfl : buf = #[] := Array.size_eq_zero_iff.1 hz
  have hp := qh8 hO (i := 0) (m := k) (.inl ⟨rfl, rfl⟩) hb (qh9 hbr K.c true)
  have hw : ∀ cc ∈ (#[rcase K.c z] : Array CommCase), NoWays (w.at d) (gs.setIfInBounds 0 ph) cc := by
   intro cc hcc
   simp at hcc
   subst hcc
   exact ⟨made_recv z hc', by simp [ways, rcase, hc', hp]⟩
  obtain ⟨s1, s2, s3⟩ := set1 (gs := gs) (i := 0) (y := parked (core a) #[rcase K.c z] (.recv true)) hlt0
  refine ⟨_, _, _, crowd_waits (i := 0) h0 (show stepG P (0 == 0) a (w.at d) = _ from hcomm) hw, s2, rfl, .inr ⟨X, 0 + rb + sumTo gs.size q, .inr ⟨rfl, by omega⟩, .inl ⟨_, b, va, vb, 0, rb, q, #[], s, r, tm, s1, (s3 k hk).trans hb, ?_, hc', hva, .inr ⟨rfl, a, rfl, fun w₁ h₁ => hst w₁ ((SuffA.at w d).trans h₁)⟩, hB.rely (SuffB.at w d), hrb, fun _ => rfl, hcap, hT', hX, by rw [s2]⟩⟩⟩
  exact hO.app s2 hltk (fun j h1 _ => s3 j h1) fun op hop => .inl (qba op hop)
 · -- the first value of the buffer
  have hv := qin hpos
  rw [hv, List.cons_append] at hva
  subst hva
  rcases hB.status with ⟨hbr, hrbp⟩ | ⟨_, hrb0⟩
  ·have hp := qh8 hO (i := 0) (m := k) (.inl ⟨rfl, rfl⟩) hb (qh9 hbr K.c true)
   obtain ⟨s1, s2, s3⟩ := set1 (gs := gs) (i := 0) (y := Go.Conc.served (core a) (.tuple #[buf.getD 0 undef, .bool true])) hlt0
   obtain ⟨n', hn'⟩ := (recvs_iff K P z Fin _ _ _).1 (hS.cons ((w.at d).setChan K.c K.cap (buf.extract 1 buf.size) false s (r + 1) tm) (qbq hc' _ _ _ _ _))
   have hcom : Com k #[{ g := 0, fn := (core a).frame.fn, pos := (core a).frame.place, act := .recv K.c r K.cap }, { g := 0, fn := (core a).frame.fn, pos := (core a).frame.place, act := .recvDone K.c r }] := by
    intro op hop
    simp at hop
    rcases hop with rfl | rfl <;> simp [MemAct.touch?]
   refine ⟨_, _, _, crowd_recv_buf (i := 0) h0 (show stepG P (0 == 0) a (w.at d) = _ from hcomm) hc' hpos hp, s2, rfl, .inr ⟨((buf.extract 1 buf.size).toList ++ vb).length + vb.length + 1, n' + 1 + rb + sumTo gs.size q, .inl (by simp at hX ⊢; omega),
    .inl ⟨_, b, (buf.extract 1 buf.size).toList ++ vb, vb, n' + 1, rb, q, buf.extract 1 buf.size, s, r + 1, tm, s1, (s3 k hk).trans hb, ?_, qde K hc', rfl, .inl ⟨n', rfl, hn'⟩, hB.rely ((SuffB.at w d).trans (qdf hc' _ _ _ _ _)), fun h => by omega, fun h => by omega, by simp; omega, ?_, rfl, by simp⟩⟩⟩
   ·exact hO.com s2 hltk (fun j h1 _ => s3 j h1) (.inl rfl) hcom
   ·rw [← Array.append_assoc]
    exact (hT'.com hcom).suffA (qbq hc' _ _ _ _ _)
  · -- a sender waits: its value takes the place
   rcases hB with ⟨nb, e, _⟩ | ⟨_, v, vs', g₂, z', rfl, rfl, hnx⟩
   ·omega
   have hfull := hrb hrb0
   subst hrb0
   have hp := qte hO (i := 0) (m := k) (.inl ⟨rfl, rfl⟩) hk hb (r := K.c) (b := true) (by rw [offersAt_parked_send, if_pos rfl])
   obtain ⟨s1, s2, s3, s4⟩ := set2 (gs := gs) (i := 0) (m := k) (x := g₂.finishComm P #[scase K.c v z'] .send 0 undef false) (y := Go.Conc.served (core a) (.tuple #[buf.getD 0 undef, .bool true])) hk hlt0 hltk
   let w' := (w.at d).setChan K.c K.cap ((buf.extract 1 buf.size).push v) false (s + 1) (r + 1) tm
   obtain ⟨n', hn'⟩ := (recvs_iff K P z Fin _ _ _).1 (hS.cons w' (qbq hc' _ _ _ _ _))
   obtain ⟨m', hm'⟩ := (sends_iff K P _ _ _).1 (hnx w' ((SuffB.at w d).trans (qdf hc' _ _ _ _ _)))
   have hcom : Com k #[{ g := 0, fn := (core a).frame.fn, pos := (core a).frame.place, act := .recv K.c r K.cap }, { g := 0, fn := (core a).frame.fn, pos := (core a).frame.place, act := .recvDone K.c r },
     { g := k, fn := g₂.frame.fn, pos := g₂.frame.place, act := .send K.c s }, { g := k, fn := g₂.frame.fn, pos := g₂.frame.place, act := .sendDone K.c s }] := by
    intro op hop
    simp at hop
    rcases hop with rfl | rfl | rfl | rfl <;> simp [MemAct.touch?]
   have hva' : (buf.extract 1 buf.size).toList ++ v :: vs' = ((buf.extract 1 buf.size).push v).toList ++ vs' := by simp
   refine ⟨_, w', _, qjz (i := 0) h0 (show stepG P (0 == 0) a (w.at d) = _ from hcomm) hc' hpos hk hb hp, s3, rfl, .inr ⟨((buf.extract 1 buf.size).toList ++ v :: vs').length + vs'.length + 1, n' + 1 + (m' + 1) + sumTo gs.size q, .inl (by simp at hX ⊢; omega),
    .inl ⟨_, _, (buf.extract 1 buf.size).toList ++ v :: vs', vs', n' + 1, m' + 1, q, (buf.extract 1 buf.size).push v, s + 1, r + 1, tm, s1, s2, ?_, qde K hc', hva', .inl ⟨n', rfl, hn'⟩, .inl ⟨m', rfl, hm'⟩, fun h => by omega, fun h => by omega, by simp; omega, ?_, rfl, by simp⟩⟩⟩
   ·exact hO.com s3 hltk (fun j h1 h2 => s4 j h1 h2) (.inl rfl) hcom
   ·rw [← Array.append_assoc]
    exact (hT'.com hcom).suffA (qbq hc' _ _ _ _ _)
theorem qqp (hk : k ≠ 0) {a b : Goroutine} {va : List Value} {v : Value} {vs' : List Value} {n ra : Nat} {q : Nat → Nat} {buf : Array Value} {s r : Nat} {tm : Bool} {d : Nat} {sl : Option (Nat × Nat)}
  (h0 : gs[0]? = some a) (hb : gs[k]? = some b) (hO : Oth P k t gs q) (hc : w.heap[K.c]? = some (.chan K.cap buf false s r tm)) (hva : va = buf.toList ++ v :: vs') (hA : SitA K P z Fin va ra a w) (hst : qmo K P v (Sends K P vs') b (w.at d))
  (hra : ra = 0 → buf = #[]) (hcap : buf.size ≤ K.cap) (hT : PT k K.c n0 (MB K w) w.heap.size t) (hX : X = va.length + (v :: vs').length + 1) (hY : Y = ra + (n + 1) + sumTo gs.size q) :
  ∃ gs' w' ops, runT P (crowd gs (w.at d) sl) k = (.next (crowd gs' w' sl), ops) ∧ gs'.size = gs.size ∧ w'.tape = w.tape ∧ Onw K P z Fin k n0 X Y gs' w' (t ++ ops) := by
 obtain ⟨hbr, g₂, z', es, hcomm, hes, hnx⟩ := hst
 have hc' : (w.at d).heap[K.c]? = some (.chan K.cap buf false s r tm) := hc
 have hlt0 : 0 < gs.size := (Array.getElem?_eq_some_iff.1 h0).1
 have hltk : k < gs.size := (Array.getElem?_eq_some_iff.1 hb).1
 have hk0 : (k == 0) = false := by simp [hk]
 have hcomm' : stepG P (k == 0) b (w.at d) = .comm g₂ #[scase K.c v z'] true .send (w.at d) es := by rw [hk0]; exact hcomm
 have hT' := (hT.suffB (SuffB.at w d)).evB (fn := b.frame.fn) (pos := b.frame.place) hk hes
 rcases hA with ⟨na, rfl, hG⟩ | ⟨rfl, g, rfl, hg⟩
 ·have har : a.status = .running := hG.running (fun _ _ => StopA.running) w (SuffA.refl w)
  have hp := qh8 hO (i := k) (m := 0) (.inr ⟨rfl, rfl⟩) h0 (qh9 har K.c false)
  have hA : SitA K P z Fin va (na + 1) a w := .inl ⟨na, rfl, hG⟩
  rcases Nat.lt_or_ge buf.size K.cap with hroom | hfull
  · -- there is room
   obtain ⟨s1, s2, s3⟩ := set1 (gs := gs) (i := k) (y := Go.Conc.served g₂ undef) hltk
   let w' := (w.at d).setChan K.c K.cap (buf.push v) false (s + 1) r tm
   obtain ⟨m', hm'⟩ := (sends_iff K P _ _ _).1 (hnx w' (qdf hc' _ _ _ _ _))
   have hcom : Com k #[{ g := k, fn := g₂.frame.fn, pos := g₂.frame.place, act := .send K.c s }, { g := k, fn := g₂.frame.fn, pos := g₂.frame.place, act := .sendDone K.c s }] := by
    intro op hop
    simp at hop
    rcases hop with rfl | rfl <;> simp [MemAct.touch?]
   refine ⟨_, w', _, crowd_send_room (i := k) hb hcomm' hc' hroom hp, s2, rfl, .inr ⟨va.length + vs'.length + 1, na + 1 + (m' + 1) + sumTo gs.size q, .inl (by simp at hX ⊢; omega),
    .inl ⟨a, _, va, vs', na + 1, m' + 1, q, buf.push v, s + 1, r, tm, (s3 0 (Ne.symm hk)).trans h0, s1, ?_, qde K hc', by rw [hva]; simp, hA.rely ((SuffA.at w d).trans (qbq hc' _ _ _ _ _)), .inl ⟨m', rfl, hm'⟩, fun h => by omega, fun h => by omega, by simp; omega, ?_, rfl, by simp⟩⟩⟩
   ·exact hO.com s2 hltk (fun j _ h1 => s3 j h1) (.inr rfl) hcom
   ·rw [← Array.append_assoc]
    exact (hT'.com hcom).suffA (qbq hc' _ _ _ _ _)
  · -- the buffer is full: it waits
   have hw : ∀ cc ∈ (#[scase K.c v z'] : Array CommCase), NoWays (w.at d) (gs.setIfInBounds k ph) cc := by
    intro cc hcc
    simp at hcc
    subst hcc
    refine ⟨made_send v z' hc', ?_⟩
    simp [ways, scase, hc', hp]
    omega
   obtain ⟨s1, s2, s3⟩ := set1 (gs := gs) (i := k) (y := parked g₂ #[scase K.c v z'] .send) hltk
   refine ⟨_, _, _, crowd_waits (i := k) hb hcomm' hw, s2, rfl, .inr ⟨X, na + 1 + 0 + sumTo gs.size q, .inr ⟨rfl, by omega⟩, .inl ⟨a, _, va, v :: vs', na + 1, 0, q, buf, s, r, tm, (s3 0 (Ne.symm hk)).trans h0, s1, ?_, hc', hva, hA.rely (SuffA.at w d), .inr ⟨rfl, v, vs', g₂, z', rfl, rfl, fun w₁ h₁ => hnx w₁ h₁⟩, fun _ => by omega, fun h => by omega, hcap, hT', hX, by rw [s2]⟩⟩⟩
   exact hO.app s2 hltk (fun j _ h1 => s3 j h1) fun op hop => .inr (qba op hop)
 · -- goroutine 0 waits: it is handed the value
  obtain rfl := hra rfl
  simp at hva
  subst hva
  have hp := qte hO (i := k) (m := 0) (.inr ⟨rfl, rfl⟩) hk h0 (r := K.c) (b := false) (by rw [offersAt_parked_recv, if_pos rfl])
  obtain ⟨s1, s2, s3, s4⟩ := set2 (gs := gs) (i := k) (m := 0) (x := Go.Conc.served (core g) (.tuple #[v, .bool true])) (y := Go.Conc.served g₂ undef) (Ne.symm hk) hltk hlt0
  let w' := (w.at d).setChan K.c K.cap #[] false (s + 1) (r + 1) tm
  obtain ⟨n', hn'⟩ := (recvs_iff K P z Fin _ _ _).1 ((hg (w.at d) (SuffA.at w d)).cons w' (qbq hc' _ _ _ _ _))
  obtain ⟨m', hm'⟩ := (sends_iff K P _ _ _).1 (hnx w' (qdf hc' _ _ _ _ _))
  have hcom : Com k #[{ g := k, fn := g₂.frame.fn, pos := g₂.frame.place, act := .send K.c s }, { g := 0, fn := (core g).frame.fn, pos := (core g).frame.place, act := .recv K.c r K.cap },
    { g := k, fn := g₂.frame.fn, pos := g₂.frame.place, act := .sendDone K.c s }, { g := 0, fn := (core g).frame.fn, pos := (core g).frame.place, act := .recvDone K.c r }] := by
   intro op hop
   simp at hop
   rcases hop with rfl | rfl | rfl | rfl <;> simp [MemAct.touch?]
  refine ⟨_, w', _, crowd_send_meets (i := k) hb hcomm' hc' (Ne.symm hk) h0 hp, s3, rfl, .inr ⟨vs'.length + vs'.length + 1, n' + 1 + (m' + 1) + sumTo gs.size q, .inl (by simp at hX ⊢; omega),
   .inl ⟨_, _, vs', vs', n' + 1, m' + 1, q, #[], s + 1, r + 1, tm, s2, s1, ?_, qde K hc', by simp, .inl ⟨n', rfl, hn'⟩, .inl ⟨m', rfl, hm'⟩, fun h => by omega, fun h => by omega, by simp, ?_, rfl, by simp⟩⟩⟩
  ·exact hO.com s3 hltk (fun j h1 h2 => s4 j h2 h1) (.inr rfl) hcom
  ·rw [← Array.append_assoc]
   exact (hT'.com hcom).suffA (qbq hc' _ _ _ _ _)
theorem qn8 (hJ : qe4 K) (hk : k ≠ 0) {a b : Goroutine} {va : List Value} {n ra : Nat} {q : Nat → Nat} {buf : Array Value} {s r : Nat} {tm : Bool} {d : Nat} {sl : Option (Nat × Nat)}
  (h0 : gs[0]? = some a) (hb : gs[k]? = some b) (hO : Oth P k t gs q) (hc : w.heap[K.c]? = some (.chan K.cap buf false s r tm)) (hva : va = buf.toList) (hA : SitA K P z Fin va ra a w) (hst : qh7 K P b (w.at d))
  (hT : PT k K.c n0 (MB K w) w.heap.size t) (hX : X = va.length + 0 + 1) :
  ∃ gs' w' ops, runT P (crowd gs (w.at d) sl) k = (.next (crowd gs' w' sl), ops) ∧ gs'.size = gs.size ∧ w'.tape = w.tape ∧ Onw K P z Fin k n0 X Y gs' w' (t ++ ops) := by
 obtain ⟨hbr, hmw, g₂, m, hgo, hq, hj⟩ := hst
 have hc' : (w.at d).heap[K.c]? = some (.chan K.cap buf false s r tm) := hc
 have hlt0 : 0 < gs.size := (Array.getElem?_eq_some_iff.1 h0).1
 have hltk : k < gs.size := (Array.getElem?_eq_some_iff.1 hb).1
 have hk0 : (k == 0) = false := by simp [hk]
 have hgo' := hgo buf s r tm hc'
 let w' := (w.at d).setChan K.c K.cap buf true s r tm
 have hSA : SuffA K w w' := (SuffA.at w d).trans (qbq hc' _ _ _ _ _)
 have hcl : w'.heap[K.c]? = some (.chan K.cap buf true s r tm) := qde K hc'
 obtain ⟨g1, g2, g3, g4⟩ := gs_go (P := P) (g' := g₂) (w' := w') hO hb
 -- goroutine 0 runs now
 have hA' : ∃ a' ra', ((gs.map (woken P b g₂ w')).setIfInBounds k g₂)[0]? = some a' ∧ SitA K P z Fin va ra' a' w' ∧ 0 < ra' := by
  rcases hA with ⟨na, rfl, hG⟩ | ⟨rfl, g, rfl, hg⟩
  ·have har : a.status = .running := hG.running (fun _ _ => StopA.running) w (SuffA.refl w)
   exact ⟨a, na + 1, g4 0 a (Ne.symm hk) h0 (woken_run har), SitA.rely (.inl ⟨na, rfl, hG⟩) hSA, by omega⟩
  ·refine ⟨{ parked (core g) #[rcase K.c z] (.recv true) with status := .running }, 0 + 1, ?_, .inl ⟨0, rfl, fun w₁ h₁ => (hg w₁ (hSA.trans h₁)).again⟩, by omega⟩
   have hne : g₂.status ≠ .blocked ∧ g₂.status ≠ .waiting := by rcases hq.status with h | h <;> simp [h]
   rw [Array.getElem?_setIfInBounds_ne hk, Array.getElem?_map, h0]
   have hwk : (mayWake P b && g₂.status != .blocked && g₂.status != .waiting) = true := by simp [hmw, hne.1, hne.2]
   have : woken P b g₂ w' (parked (core g) #[rcase K.c z] (.recv true)) = { parked (core g) #[rcase K.c z] (.recv true) with status := .running } := by
    unfold woken
    rw [if_pos hwk]
    exact again_recv_closed hcl
   simp [this]
 obtain ⟨a', ra', ha', hA', hpos⟩ := hA'
 have hes : ∀ e ∈ (#[⟨.obj K.c, false, true⟩, ⟨.obj K.c, true, true⟩] : Array Event), EvB K w' e := by
  intro e he
  simp at he
  rcases he with rfl | rfl
  ·refine ⟨by simp, by simp, fun x hx => ?_⟩
   simp [MemAct.ofEvent, MemAct.touch?] at hx
   subst hx
   exact .inr rfl
  ·exact ⟨by simp, by simp, fun x hx => by simp [MemAct.ofEvent, MemAct.touch?] at hx⟩
 have hops : MemOp.ofEvents k b.frame.fn b.frame.place #[⟨.obj K.c, false, true⟩, ⟨.obj K.c, true, true⟩] = #[({ g := k, fn := b.frame.fn, pos := b.frame.place, act := .access ⟨.obj K.c, false, true⟩ } : MemOp), { g := k, fn := b.frame.fn, pos := b.frame.place, act := .close K.c }] := by
  rw [ofEvents_eq]; simp [MemAct.ofEvent]
 refine ⟨_, w', _, runT_crowd_go (i := k) hb (by rw [hk0]; exact hgo'), g1, rfl, .inr ⟨va.length, ra' + m + sumTo gs.size q, .inl (by omega), .inr ⟨a', g₂, va, ra', m, q, buf, s, r, tm, t.size + 1, ha', g2, ?_, hcl, hva, hA', hpos, hq, (hT.suffA hSA).evB hk hes, ?_, hJ _ _ hj (qdf hc' _ _ _ _ _), rfl, by simp⟩⟩⟩
 ·exact hO.app g1 hltk (fun j h1 h2 => g3 j h1 h2 h2) fun op hop => .inr (qba op hop)
 ·rw [hops]
  refine ⟨⟨{ g := k, fn := b.frame.fn, pos := b.frame.place, act := .close K.c }, ?_, rfl, rfl⟩, ?_, fun i op hi hg ht => ?_⟩
  ·rw [Array.getElem?_append_right (by omega)]; simp
  ·have e : t ++ #[({ g := k, fn := b.frame.fn, pos := b.frame.place, act := .access ⟨.obj K.c, false, true⟩ } : MemOp), { g := k, fn := b.frame.fn, pos := b.frame.place, act := .close K.c }] =
     (t ++ #[{ g := k, fn := b.frame.fn, pos := b.frame.place, act := .access ⟨.obj K.c, false, true⟩ }]) ++ #[{ g := k, fn := b.frame.fn, pos := b.frame.place, act := .close K.c }] := by rw [Array.append_assoc]; rfl
   have hsz : (t ++ #[({ g := k, fn := b.frame.fn, pos := b.frame.place, act := .access ⟨.obj K.c, false, true⟩ } : MemOp)]).size = t.size + 1 := by simp
   rw [e, deaf_old (by rw [hsz]; exact Nat.le_refl _), ← hsz]
   show Deaf _ k = 0
   rw [qdn t k _ (by simp)]
   exact hT.hears'
  ·have hlt := lt_size_of_getElem? hi
   simp at hlt
   rcases Nat.lt_or_ge i (t.size + 1) with h | h
   ·exact h
   ·have : i = t.size + 1 := by omega
    subst this
    rw [Array.getElem?_append_right (by omega)] at hi
    simp at hi
    subst hi
    exact absurd rfl ht
end
end Go.Pip

/- From the fork to the close that goroutine 0 sees: the run of the machine, on whatever tape. -/
namespace Go.Pip
open Go.Conc Go.Ride
open Go.ConcN (sumTo upd sumTo_upd upd_ne upd_same)
section
variable {K : Cfg} {P : Program} {z : Value} {Fin : Goroutine → World → Prop} {k n0 X Y : Nat} {gs : Array Goroutine} {w : World} {t : Trace}
theorem qtf (hJ : qe4 K) (hj : K.J w) (hk : k ≠ 0) {a b a' : Goroutine} {va : List Value} {n' rb : Nat} {q : Nat → Nat} {buf : Array Value} {s r p : Nat} {tm : Bool} {d : Nat} {w' : World} {es : Array Event} {sl : Option (Nat × Nat)}
  (h0 : gs[0]? = some a) (hb : gs[k]? = some b) (hO : Oth P k t gs q) (hc : w.heap[K.c]? = some (.chan K.cap buf true s r tm)) (hva : va = buf.toList) (hB : QuitsIn P rb b)
  (hT : PT k K.c n0 (MB K w) w.heap.size t) (hSh : Shut k K.c t p)
  (hgo : stepG P true a (w.at d) = .go a' w' es) (hD : DA K (w.at d) w' es) (hG : Goes P true (SuffA K) (DA K) (StopA K P z Fin va) n' a' w') (hX : X = va.length) (hY : Y = n' + 1 + 1 + rb + sumTo gs.size q) :
  ∃ gs' ops, runT P (crowd gs (w.at d) sl) 0 = (.next (crowd gs' w' sl), ops) ∧ gs'.size = gs.size ∧ w'.tape = w.tape ∧ Onw K P z Fin k n0 X Y gs' w' (t ++ ops) := by
 obtain ⟨hS, hcc, hes⟩ := hD
 have hS' : SuffB K w w' := (SuffB.at w d).trans hS
 have hc' : w'.heap[K.c]? = some (.chan K.cap buf true s r tm) := hcc.trans hc
 obtain ⟨g1, g2, g3, g4⟩ := gs_go (P := P) (g' := a') (w' := w') hO h0
 have hlt : k < gs.size := (Array.getElem?_eq_some_iff.1 hb).1
 refine ⟨_, _, runT_crowd_go (i := 0) h0 (show stepG P (0 == 0) a (w.at d) = _ from hgo), g1, hS'.tape, .inr ⟨X, n' + 1 + rb + sumTo gs.size q, .inr ⟨rfl, by omega⟩, .inr ⟨a', b, va, n' + 1, rb, q, buf, s, r, tm, p, g2, g4 k b hk hb (woken_quits hB), ?_, hc', hva, .inl ⟨n', rfl, hG⟩, by omega, hB, ?_, ?_, hJ _ _ hj hS', hX, by rw [g1]⟩⟩⟩
 ·exact hO.app g1 hlt (fun j h1 h2 => g3 j h1 h2 h1) fun op hop => .inl (qba op hop)
 ·exact (hT.suffB hS').evA hk hes
 ·exact hSh.app fun op hop hg => by rw [qba op hop] at hg; exact absurd hg.symm hk
theorem qn9 (hJ : qe4 K) (hj : K.J w) (hk : k ≠ 0) {a b : Goroutine} {va : List Value} {n rb : Nat} {q : Nat → Nat} {buf : Array Value} {s r p : Nat} {tm : Bool} {d : Nat} {sl : Option (Nat × Nat)}
  (h0 : gs[0]? = some a) (hb : gs[k]? = some b) (hO : Oth P k t gs q) (hc : w.heap[K.c]? = some (.chan K.cap buf true s r tm)) (hva : va = buf.toList) (hst : ∀ w₁, SuffA K w w₁ → StopA K P z Fin va a w₁) (hB : QuitsIn P rb b)
  (hT : PT k K.c n0 (MB K w) w.heap.size t) (hSh : Shut k K.c t p) (hX : X = va.length) :
  ∃ gs' w' ops, runT P (crowd gs (w.at d) sl) 0 = (.next (crowd gs' w' sl), ops) ∧ gs'.size = gs.size ∧ w'.tape = w.tape ∧ Onw K P z Fin k n0 X Y gs' w' (t ++ ops) := by
 have hS := hst (w.at d) (SuffA.at w d)
 obtain ⟨es, hcomm, hes⟩ := hS.comm
 have hc' : (w.at d).heap[K.c]? = some (.chan K.cap buf true s r tm) := hc
 have hlt0 : 0 < gs.size := (Array.getElem?_eq_some_iff.1 h0).1
 have hltk : k < gs.size := (Array.getElem?_eq_some_iff.1 hb).1
 have hT' := (hT.suffA (SuffA.at w d)).evA (fn := a.frame.fn) (pos := a.frame.place) hk hes
 have hp : partners (gs.setIfInBounds 0 ph) K.c true = [] := qh8 hO (i := 0) (m := k) (.inl ⟨rfl, rfl⟩) hb (by
  rcases hB.status with h | h
  ·exact qh9 h K.c true
  ·exact offersAt_of_not_blocked (by simp [h]) _ _)
 have hSh' : Shut k K.c (t ++ MemOp.ofEvents 0 a.frame.fn a.frame.place es) p := hSh.app fun op hop hg => by rw [qba op hop] at hg; exact absurd hg.symm hk
 rcases Nat.eq_zero_or_pos buf.size with hz | hpos
 · -- it sees the close
  obtain rfl : buf = #[] := Array.size_eq_zero_iff.1 hz
  simp at hva
  subst hva
  obtain ⟨s1, s2, s3⟩ := set1 (gs := gs) (i := 0) (y := Go.Conc.served (core a) (.tuple #[z, .bool false])) hlt0
  refine ⟨_, _, _, crowd_recv_closed (i := 0) h0 (show stepG P (0 == 0) a (w.at d) = _ from hcomm) hc' hp, s2, rfl, .inl ⟨Go.Conc.served (core a) (.tuple #[z, .bool false]), upd q k rb, s1, rfl, hS.nil _ (SuffA.refl _), hJ _ _ hj (SuffB.at w d), ⟨fun j x hj hx => ?_, fun j hj => ?_⟩, ?_⟩⟩
  ·replace hx : gs[j]? = some x := (s3 j (by omega)).symm.trans hx
   rw [qci fun op hop => by
    rcases Array.mem_append.1 hop with h | h
    ·rw [qba op h]; omega
    ·simp at h; rw [h]; show (0 : Nat) ≠ j; omega]
   by_cases hjk : j = k
   ·subst hjk
    rw [hb] at hx
    obtain rfl := Option.some.inj hx
    rw [upd_same, hT.hears']
    exact QuitsD.of_quitsIn hB
   ·rw [upd_ne q rb hjk]
    exact hO.old j x (by omega) hjk hx
  ·rw [qci fun op hop => by
    rcases Array.mem_append.1 hop with h | h
    ·rw [qba op h]; simp at hj; omega
    ·simp at h; rw [h]; simp at hj; show (0 : Nat) ≠ j; omega]
   exact hO.above j (by simpa using hj)
  ·rw [← Array.append_assoc]
   exact hT'.done hSh' hk rfl rfl
 ·have hv := qin hpos
  rw [hv] at hva
  subst hva
  obtain ⟨s1, s2, s3⟩ := set1 (gs := gs) (i := 0) (y := Go.Conc.served (core a) (.tuple #[buf.getD 0 undef, .bool true])) hlt0
  obtain ⟨n', hn'⟩ := (recvs_iff K P z Fin _ _ _).1 (hS.cons ((w.at d).setChan K.c K.cap (buf.extract 1 buf.size) true s (r + 1) tm) (qbq hc' _ _ _ _ _))
  have hcom : Com k #[{ g := 0, fn := (core a).frame.fn, pos := (core a).frame.place, act := .recv K.c r K.cap }, { g := 0, fn := (core a).frame.fn, pos := (core a).frame.place, act := .recvDone K.c r }] := by
   intro op hop
   simp at hop
   rcases hop with rfl | rfl <;> simp [MemAct.touch?]
  refine ⟨_, _, _, crowd_recv_buf (i := 0) h0 (show stepG P (0 == 0) a (w.at d) = _ from hcomm) hc' hpos hp, s2, rfl, .inr ⟨(buf.extract 1 buf.size).toList.length, n' + 1 + rb + sumTo gs.size q, .inl (by simp at hX ⊢; omega),
   .inr ⟨_, b, (buf.extract 1 buf.size).toList, n' + 1, rb, q, buf.extract 1 buf.size, s, r + 1, tm, p, s1, (s3 k hk).trans hb, ?_, qde K hc', rfl, .inl ⟨n', rfl, hn'⟩, by omega, hB, ?_, ?_, hJ _ _ hj ((SuffB.at w d).trans (qdf hc' _ _ _ _ _)), rfl, by simp⟩⟩⟩
  ·exact hO.com s2 hltk (fun j h1 _ => s3 j h1) (.inl rfl) hcom
  ·rw [← Array.append_assoc]
   exact (hT'.com hcom).suffA (qbq hc' _ _ _ _ _)
  ·rw [← Array.append_assoc]
   exact hSh'.app fun op hop _ => (hcom op hop).2.1
theorem qtg (hJ : qe4 K) (hj : K.J w) (hk : k ≠ 0) {a b : Goroutine} {va : List Value} {ra rb : Nat} {q : Nat → Nat} {buf : Array Value} {s r p : Nat} {tm : Bool} {d : Nat} {sl : Option (Nat × Nat)}
  (h0 : gs[0]? = some a) (hb : gs[k]? = some b) (hO : Oth P k t gs q) (hc : w.heap[K.c]? = some (.chan K.cap buf true s r tm)) (hva : va = buf.toList) (hA : SitA K P z Fin va ra a w) (hra : 0 < ra) (hB : QuitsIn P rb b) (hbr : b.status = .running)
  (hT : PT k K.c n0 (MB K w) w.heap.size t) (hSh : Shut k K.c t p) (hX : X = va.length) (hY : Y = ra + rb + sumTo gs.size q) :
  ∃ gs' w' ops, runT P (crowd gs (w.at d) sl) k = (.next (crowd gs' w' sl), ops) ∧ gs'.size = gs.size ∧ w'.tape = w.tape ∧ Onw K P z Fin k n0 X Y gs' w' (t ++ ops) := by
 have hk0 : (k == 0) = false := by simp [hk]
 have hlt : k < gs.size := (Array.getElem?_eq_some_iff.1 hb).1
 have har : a.status = .running := by rcases hA.status with ⟨h, _⟩ | ⟨_, h⟩; exact h; omega
 cases rb with
 | zero => rw [show b.status = .finished from hB] at hbr; cases hbr
 | succ rb =>
  rcases hB with hf | ⟨_, b', hstp, hq⟩
  ·rw [hf] at hbr; cases hbr
  obtain ⟨g1, g2, g3, g4⟩ := gs_go (P := P) (g' := b') (w' := w.at d) hO hb
  have hops : MemOp.ofEvents k b.frame.fn b.frame.place #[] = #[] := rfl
  refine ⟨_, _, _, runT_crowd_go (i := k) hb (by rw [hk0]; exact hstp (w.at d)), g1, rfl, .inr ⟨X, ra + rb + sumTo gs.size q, .inr ⟨rfl, by omega⟩, .inr ⟨a, b', va, ra, rb, q, buf, s, r, tm, p, g4 0 a (Ne.symm hk) h0 (woken_run har), g2, ?_, hc, hva, hA.rely (SuffA.at w d), hra, hq, ?_, ?_, hJ _ _ hj (SuffB.at w d), hX, by rw [g1]⟩⟩⟩
  ·exact hO.app g1 hlt (fun j h1 h2 => g3 j h1 h2 h2) fun op hop => .inr (qba op hop)
  ·rw [hops, Array.append_empty]; exact hT.suffA (SuffA.at w d)
  ·rw [hops, Array.append_empty]; exact hSh
theorem qgn {i : Nat} {fn : FuncId} {pos : String} {es : Array Event} (hm : ∀ e ∈ es, Event.mute e = true) : ∀ op ∈ MemOp.ofEvents i fn pos es, op.act.touch? = none := fun op hop => by
 obtain ⟨e, he, rfl⟩ := Go.Conc.mem_ofEvents hop; exact touch_mute (hm e he)
theorem qth (hJ : qe4 K) (hk : k ≠ 0) {sl : Option (Nat × Nat)} (h : Inv K P z Fin k n0 X Y gs w t) :
  ∃ gs' w' sl' ops, stepT P (crowd gs w sl) = (.next (crowd gs' w' sl'), ops) ∧ gs'.size = gs.size ∧ w'.tape = w.tape ∧ Onw K P z Fin k n0 X Y gs' w' (t ++ ops) := by
 rcases h with ⟨a, b, va, vb, ra, rb, q, buf, s, r, tm, h0, hb, hO, hc, hva, hA, hB, hrb, hra, hcap, hT, hX, hY⟩ | ⟨a, b, va, ra, rb, q, buf, s, r, tm, p, h0, hb, hO, hc, hva, hA, hra, hB, hT, hSh, hj, hX, hY⟩
 ·have haa : awake a := by rcases hA.status with ⟨h, _⟩ | ⟨h, _⟩ <;> exact awake_of (by simp [h])
  have hab : awake b := by rcases hB.status with ⟨h, _⟩ | ⟨h, _⟩ <;> exact awake_of (by simp [h])
  have hsome : ∃ (i : Nat) (g : Goroutine), gs[i]? = some g ∧ g.status = .running := by
   rcases hA.status with ⟨h, _⟩ | ⟨_, h⟩
   ·exact ⟨0, a, h0, h⟩
   ·rcases hB.status with ⟨h', _⟩ | ⟨_, h'⟩
    ·exact ⟨k, b, hb, h'⟩
    ·have := hrb h'; have := hra h; subst this; have := K.pos; simp at *; omega
  obtain ⟨i, g, d, sl', hi, hg, hst⟩ := crowd_pick (P := P) (w := w) (sl := sl) (hO.awake h0 hb haa hab) hsome
  by_cases hi0 : i = 0
  ·subst hi0
   obtain rfl : g = a := by rw [h0] at hi; exact (Option.some.inj hi).symm
   rcases hA with ⟨n, rfl, hG⟩ | ⟨rfl, g', e, _⟩
   ·rcases hG.cases with hs | ⟨n', rfl, hs⟩
    ·obtain ⟨gs', w', ops, e1, e2, e3, e4⟩ := qqo (d := d) (sl := sl') hk h0 hb hO hc hva hs hB hrb hcap hT hX hY
     exact ⟨gs', w', sl', ops, hst.trans e1, e2, e3, e4⟩
    ·obtain ⟨a', w', es, hgo, hD, hG'⟩ := hs (w.at d) (SuffA.at w d)
     obtain ⟨gs', ops, e1, e2, e3, e4⟩ := qvi (d := d) (sl := sl') hk h0 hb hO hc hva hB hrb hcap hT hgo hD hG' hX hY
     exact ⟨gs', w', sl', ops, hst.trans e1, e2, e3, e4⟩
   ·rw [e] at hg; cases hg
  by_cases hik : i = k
  ·subst hik
   obtain rfl : g = b := by rw [hb] at hi; exact (Option.some.inj hi).symm
   rcases hB with ⟨n, rfl, hG⟩ | ⟨rfl, v, vs', g₂, z', _, e, _⟩
   ·rcases hG.cases with hs | ⟨n', rfl, hs⟩
    ·cases vb with
     | nil =>
      obtain ⟨gs', w', ops, e1, e2, e3, e4⟩ := qn8 (Y := Y) (d := d) (sl := sl') (n := n) hJ hk h0 hb hO hc (by simpa using hva) hA (hs (w.at d) (SuffB.at w d)) hT hX
      exact ⟨gs', w', sl', ops, hst.trans e1, e2, e3, e4⟩
     | cons v vs' =>
      obtain ⟨gs', w', ops, e1, e2, e3, e4⟩ := qqp (d := d) (sl := sl') hk h0 hb hO hc hva hA (hs (w.at d) (SuffB.at w d)) hra hcap hT hX hY
      exact ⟨gs', w', sl', ops, hst.trans e1, e2, e3, e4⟩
    ·obtain ⟨b', w', es, hgo, hD, hG'⟩ := hs (w.at d) (SuffB.at w d)
     obtain ⟨gs', ops, e1, e2, e3, e4⟩ := qvj (d := d) (sl := sl') hk h0 hb hO hc hva hA hra hcap hT hgo hD hG' hX hY
     exact ⟨gs', w', sl', ops, hst.trans e1, e2, e3, e4⟩
   ·rw [e] at hg; cases hg
  ·obtain ⟨g', es, kq, hq, hm, hr, hO', hlt⟩ := qhp (w := w.at d) (sl := sl') hO hi0 hik hi hg
   obtain ⟨g1, g2, g3, g4⟩ := gs_go (P := P) (g' := g') (w' := w.at d) hO hi
   have hop := fun op hop => qba (i := i) (fn := g.frame.fn) (pos := g.frame.place) (es := es) op hop
   refine ⟨_, _, sl', _, hst.trans hr, g1, rfl, .inr ⟨X, ra + rb + sumTo gs.size (upd q i kq), .inr ⟨rfl, by omega⟩, .inl ⟨a, b, va, vb, ra, rb, upd q i kq, buf, s, r, tm, g4 0 a (Ne.symm hi0) h0 (hA.woken (w' := w.at d) hc), g4 k b (Ne.symm hik) hb (hB.woken (w' := w.at d) hc), hO', hc, hva, hA.rely (SuffA.at w d), hB.rely (SuffB.at w d), hrb, hra, hcap, ?_, hX, by rw [g1]⟩⟩⟩
   exact (hT.suffA (SuffA.at w d)).mute (qgn hm) (qci fun op ho => by rw [hop op ho]; exact hi0) (qci fun op ho => by rw [hop op ho]; exact hik)
 ·have har : a.status = .running := by rcases hA.status with ⟨h, _⟩ | ⟨_, h⟩; exact h; omega
  have hab : awake b := by rcases hB.status with h | h <;> exact awake_of (by simp [h])
  obtain ⟨i, g, d, sl', hi, hg, hst⟩ := crowd_pick (P := P) (w := w) (sl := sl) (hO.awake h0 hb (awake_of (.inl har)) hab) ⟨0, a, h0, har⟩
  by_cases hi0 : i = 0
  ·subst hi0
   obtain rfl : g = a := by rw [h0] at hi; exact (Option.some.inj hi).symm
   rcases hA with ⟨n, rfl, hG⟩ | ⟨rfl, g', e, _⟩
   ·rcases hG.cases with hs | ⟨n', rfl, hs⟩
    ·obtain ⟨gs', w', ops, e1, e2, e3, e4⟩ := qn9 (Y := Y) (d := d) (sl := sl') (n := n) hJ hj hk h0 hb hO hc hva hs hB hT hSh hX
     exact ⟨gs', w', sl', ops, hst.trans e1, e2, e3, e4⟩
    ·obtain ⟨a', w', es, hgo, hD, hG'⟩ := hs (w.at d) (SuffA.at w d)
     obtain ⟨gs', ops, e1, e2, e3, e4⟩ := qtf (d := d) (sl := sl') hJ hj hk h0 hb hO hc hva hB hT hSh hgo hD hG' hX hY
     exact ⟨gs', w', sl', ops, hst.trans e1, e2, e3, e4⟩
   ·rw [e] at hg; cases hg
  by_cases hik : i = k
  ·subst hik
   obtain rfl : g = b := by rw [hb] at hi; exact (Option.some.inj hi).symm
   obtain ⟨gs', w', ops, e1, e2, e3, e4⟩ := qtg (d := d) (sl := sl') hJ hj hk h0 hb hO hc hva hA hra hB hg hT hSh hX hY
   exact ⟨gs', w', sl', ops, hst.trans e1, e2, e3, e4⟩
  ·obtain ⟨g', es, kq, hq, hm, hr, hO', hlt⟩ := qhp (w := w.at d) (sl := sl') hO hi0 hik hi hg
   obtain ⟨g1, g2, g3, g4⟩ := gs_go (P := P) (g' := g') (w' := w.at d) hO hi
   have hop := fun op hop => qba (i := i) (fn := g.frame.fn) (pos := g.frame.place) (es := es) op hop
   refine ⟨_, _, sl', _, hst.trans hr, g1, rfl, .inr ⟨X, ra + rb + sumTo gs.size (upd q i kq), .inr ⟨rfl, by omega⟩, .inr ⟨a, b, va, ra, rb, upd q i kq, buf, s, r, tm, p, g4 0 a (Ne.symm hi0) h0 (woken_run har), g4 k b (Ne.symm hik) hb (woken_quits hB), hO', hc, hva, hA.rely (SuffA.at w d), hra, hB, ?_, ?_, hJ _ _ hj (SuffB.at w d), hX, by rw [g1]⟩⟩⟩
   ·exact (hT.suffA (SuffA.at w d)).mute (qgn hm) (qci fun op ho => by rw [hop op ho]; exact hi0) (qci fun op ho => by rw [hop op ho]; exact hik)
   ·exact hSh.app fun op ho _ => qgn hm op ho
theorem qvk (hJ : qe4 K) (hk : k ≠ 0) : ∀ (X Y : Nat) (gs : Array Goroutine) (w : World) (sl : Option (Nat × Nat)) (t : Trace), Inv K P z Fin k n0 X Y gs w t →
  ∃ N gs' w' sl' t', runNT P N (crowd gs w sl) t = (.next (crowd gs' w' sl'), t') ∧ gs'.size = gs.size ∧ w'.tape = w.tape ∧ Done K P Fin gs' w' t' := by
 intro X
 induction X using Nat.strongRecOn with
 | _ X ihX =>
 intro Y
 induction Y using Nat.strongRecOn with
 | _ Y ihY =>
 intro gs w sl t h
 obtain ⟨gs₁, w₁, sl₁, ops, e1, e2, e3, e4⟩ := qth (sl := sl) hJ hk h
 rcases e4 with hd | ⟨X', Y', hlt, hI⟩
 ·exact ⟨1, gs₁, w₁, sl₁, t ++ ops, by simp only [runNT, e1], e2, e3, hd⟩
 ·have : ∃ N gs' w' sl' t', runNT P N (crowd gs₁ w₁ sl₁) (t ++ ops) = (.next (crowd gs' w' sl'), t') ∧ gs'.size = gs₁.size ∧ w'.tape = w₁.tape ∧ Done K P Fin gs' w' t' := by
   rcases hlt with hlt | ⟨rfl, hlt⟩
   ·exact ihX X' hlt Y' gs₁ w₁ sl₁ _ hI
   ·exact ihY Y' hlt gs₁ w₁ sl₁ _ hI
  obtain ⟨N, gs', w', sl', t', f1, f2, f3, f4⟩ := this
  exact ⟨N + 1, gs', w', sl', t', by simp only [runNT, e1]; exact f1, f2.trans e2, f3.trans e3, f4⟩
end
end Go.Pip

/- Goroutine 0 on its way to what is asked, beside goroutines that only leave, whatever the tape: the pieces of its way put together. -/
namespace Go.Ride
open Go.Conc Go.Pip
open Go.ConcN (sumTo upd sumTo_upd upd_ne upd_same)
def Go0 (P : Program) (F : Goroutine → World → Prop) (g : Goroutine) (w : World) : Prop :=
 okG g → g.status = .running → ∀ (τ : Nat → Question → Nat) (d : Nat) (gs : Array Goroutine) (sl : Option (Nat × Nat)) (t : Trace) (q : Nat → Nat), gs[0]? = some g → Leavers P t gs q → Past0 t →
  ∃ (N : Nat) (gs' : Array Goroutine) (a' : Goroutine) (w' : World) (sl' : Option (Nat × Nat)) (t' : Trace) (q' : Nat → Nat),
   runNT P N (crowd gs (re w τ d) sl) t = (.next (crowd gs' w' sl'), t') ∧ gs'[0]? = some a' ∧ okG a' ∧ a'.status = .running ∧ (∃ τ' d', F a' (re w' τ' d')) ∧ w'.tape = τ ∧ Leavers P t' gs' q' ∧ Past0 t'
section
variable {P : Program} {F F' : Goroutine → World → Prop} {g : Goroutine} {w : World}
theorem Go0.stop (h : F g w) : Go0 P F g w := fun hk hr τ d gs sl t q h0 hL hP => ⟨0, gs, g, re w τ d, sl, t, q, rfl, h0, hk, hr, ⟨w.tape, w.drawn, h⟩, rfl, hL, hP⟩
theorem Go0.re (h : Go0 P F g w) (τ : Nat → Question → Nat) (d : Nat) : Go0 P F g (Ride.re w τ d) := fun hk hr τ' d' => h hk hr τ' d'
theorem Go0.trans (h : Go0 P F g w) (k : ∀ g' w', F g' w' → Go0 P F' g' w') : Go0 P F' g w := fun hk hr τ d gs sl t q h0 hL hP => by
 obtain ⟨N, gs', a', w', sl', t', q', e1, e2, e3, e4, ⟨τ', d', e5⟩, e6, e7, e8⟩ := h hk hr τ d gs sl t q h0 hL hP
 obtain ⟨N2, gs2, a2, w2, sl2, t2, q2, f1, f2, f3, f4, f5, f6, f7, f8⟩ := k a' _ e5 e3 e4 w'.tape w'.drawn gs' sl' t' q' e2 e7 e8
 refine ⟨N + N2, gs2, a2, w2, sl2, t2, q2, ?_, f2, f3, f4, f5, f6.trans e6, f7, f8⟩
 rw [runNT_add, e1]
 exact f1
theorem Go0.alone (hM : Mild P) (h : ∀ τ d, ∃ n g' w', runN P n (solo g (Ride.re w τ d)) = .next (solo g' w') ∧ g'.status = .running ∧ F g' w') : Go0 P F g w := fun hk hr τ d gs sl t q h0 hL hP => by
 obtain ⟨N, gs', a', w', sl', t', q', e1, e2, e3, e4, e5, e6, e7, e8⟩ := qn6 (qvh hM hk hr h) (sumTo gs.size q) gs (Ride.re w τ d) sl t q ⟨d, rfl⟩ (Nat.le_refl _) h0 hL hP
 exact ⟨N, gs', a', w', sl', t', q', e1, e2, e3, e4, e5, e6, e7, e8⟩
theorem Go0.of_lone (hM : Mild P) {fr : Frame} {cs : List Frame} (h : ∀ τ d, ∃ fr' cs' w', Steps P (lone fr cs (Ride.re w τ d)) (lone fr' cs' w') ∧ F (G fr' cs') w') : Go0 P F (G fr cs) w :=
 Go0.alone hM fun τ d => let ⟨fr', cs', w', ⟨n, hn⟩, hf⟩ := h τ d; ⟨n, G fr' cs', w', hn, rfl, hf⟩
theorem Go0.step (hM : Mild P) {fr fr' : Frame} {cs cs' : List Frame} {w' : World} (h : ∀ τ d, Go.step P (lone fr cs (Ride.re w τ d)) = .next (lone fr' cs' (Ride.re w' τ d))) (k : Go0 P F (G fr' cs') w') : Go0 P F (G fr cs) w :=
 (Go0.of_lone (F := fun g x => g = G fr' cs' ∧ ∃ τ d, x = Ride.re w' τ d) hM fun τ d => ⟨fr', cs', _, .one (h τ d), rfl, τ, d, rfl⟩).trans fun g' x ⟨e, τ, d, e'⟩ => by subst e e'; exact k.re τ d
def Lands (P : Program) (F : Goroutine → World → Prop) (b : Frame) (k : List Item) (cs : List Frame) : Exit → Act → World → Prop
 | .normal, a, w => Go0 P F (G (b.at a k) cs) w
 | .exit id, a, w => ∃ k', exitTo id k = some k' ∧ Go0 P F (G (b.at a k') cs) w
 | .ret, a, w => ∀ todo, Go0 P F (G { b.at a todo with mode := .returning } cs) w
 | _, _, _ => False
theorem Go0.wp (hM : Mild P) {c : Code} {Q : Exit → Act → World → Prop} {a : Act} {b : Frame} {k : List Item} {cs : List Frame} (h : ∀ τ d, c.wp P Q a (Ride.re w τ d)) (hQ : ∀ e a' w', Q e a' w' → Lands P F b k cs e a' w') : Go0 P F (G (b.at a (.code c :: k)) cs) w := by
 refine (Go0.of_lone (F := fun g x => Go0 P F g x) hM fun τ d => ?_).trans fun g' x hx => hx
 obtain ⟨e, a', w', hq, harr⟩ := h τ d b k cs
 have hl := hQ e a' w' hq
 cases e with
 | normal => exact ⟨_, _, w', harr, hl⟩
 | exit id => obtain ⟨k', hk, hg⟩ := hl; exact ⟨_, _, w', harr k' hk, hg⟩
 | ret => obtain ⟨todo, hs⟩ := harr; exact ⟨_, _, w', hs, hl todo⟩
 | goto l => exact hl.elim
 | panic ch => exact hl.elim
 | outgrown => exact hl.elim
theorem Go0.seq (hM : Mild P) {x y : Code} {a : Act} {b : Frame} {k : List Item} {cs : List Frame} (h : Go0 P F (G (b.at a (.code x :: .code y :: k)) cs) w) : Go0 P F (G (b.at a (.code (.seq x y) :: k)) cs) w := .step hM (fun _ _ => step_seq) h
theorem Go0.cond (hM : Mild P) {x y : Code} {c : Operand} {t : Bool} {a : Act} {b : Frame} {k : List Item} {cs : List Frame} (he : a.eval c = .bool t) (h : Go0 P F (G (b.at a (.code (if t then x else y) :: k)) cs) w) : Go0 P F (G (b.at a (.code (.cond c x y) :: k)) cs) w := .step hM (fun _ _ => step_cond he) h
theorem Go0.skip (hM : Mild P) {a : Act} {b : Frame} {k : List Item} {cs : List Frame} (h : Go0 P F (G (b.at a k) cs) w) : Go0 P F (G (b.at a (.code .skip :: k)) cs) w := .step hM (fun _ _ => step_skip) h
theorem Go0.block (hM : Mild P) {id : Nat} {c : Code} {a : Act} {b : Frame} {k : List Item} {cs : List Frame} (h : Go0 P F (G (b.at a (.code c :: .inBlock id :: k)) cs) w) : Go0 P F (G (b.at a (.code (.block id c) :: k)) cs) w := .step hM (fun _ _ => step_block) h
theorem Go0.inBlock (hM : Mild P) {id : Nat} {a : Act} {b : Frame} {k : List Item} {cs : List Frame} (h : Go0 P F (G (b.at a k) cs) w) : Go0 P F (G (b.at a (.inBlock id :: k)) cs) w := .step hM (fun _ _ => step_inBlock) h
theorem Go0.region (hM : Mild P) {id : Nat} {ops : Array Oper} {a : Act} {b : Frame} {k : List Item} {cs : List Frame} (h : Go0 P F (G (b.at a (.inRegion ops (List.range ops.size) :: k)) cs) w) : Go0 P F (G (b.at a (.code (.region id ops false) :: k)) cs) w := .step hM (fun _ _ => step_region) h
theorem Go0.region_end (hM : Mild P) {ops : Array Oper} {a : Act} {b : Frame} {k : List Item} {cs : List Frame} (h : Go0 P F (G (b.at a k) cs) w) : Go0 P F (G (b.at a (.inRegion ops [] :: k)) cs) w := .step hM (fun _ _ => step_region_end) h
theorem Go0.ret (hM : Mild P) {a : Act} {b : Frame} {k : List Item} {cs : List Frame} (h : Go0 P F (G { b.at a (.code .ret :: k) with mode := .returning } cs) w) : Go0 P F (G (b.at a (.code .ret :: k)) cs) w := .step hM (fun _ _ => step_ret) h
theorem Go0.leave (hM : Mild P) {fr c : Frame} {cs : List Frame} {v : Value} (hl : ∀ τ d, fr.leaving P (Ride.re w τ d) (.returned v)) (h : Go0 P F (G (c.finish v) cs) w) : Go0 P F (G fr (c :: cs)) w := .step hM (fun τ d => step_leave_returned (hl τ d)) h
theorem Go0.op (hM : Mild P) {ops : Array Oper} {i : Nat} {rest : List Nat} {o : Oper} {a : Act} {b : Frame} {k : List Item} {cs : List Frame} {v : Value} {w' : World} (ho : ops[i]? = some o) (hw : Region.wanted o (yielded ops a.tmps) = true)
  (hr : ∀ τ d, (execOp a.eval o).run P (Ride.re w τ d) = .ok (.value v) (Ride.re w' τ d)) (h : Go0 P F (G (b.at (a.put o.dst v) (.inRegion ops rest :: k)) cs) w') : Go0 P F (G (b.at a (.inRegion ops (i :: rest) :: k)) cs) w := by
 refine .step hM (fun τ d => ?_) h
 refine step_lone_go ?_
 rw [stepG_op ho hw, stepG.apply]
 have hf := Frame.finish_at b a ops i rest k v
 rw [show (ops[i]?).bind (·.dst) = o.dst by rw [ho]; rfl] at hf
 simp [Sem.runT_eq, hr τ d, hf, GStep.after, GStep.bare]
def QN (Q : Act → World → Prop) : Exit → Act → World → Prop
 | .normal, a, w => Q a w
 | _, _, _ => False
theorem qla {ops : Array Oper} {Q : Act → World → Prop} : ∀ (l : List Oper) (i m : Nat) (a : Act) (w : World), (∀ (j : Nat) (o : Oper), l[j]? = some o → ops[i + j]? = some o) → wpList P ops (QN Q) l a w → ∀ (b : Frame) (k : List Item) (cs : List Frame),
  ∃ a' w', Q a' w' ∧ Steps P (Go.lone (b.at a (.inRegion ops (List.range' i (l.length + m)) :: k)) cs w) (Go.lone (b.at a' (.inRegion ops (List.range' (i + l.length) m) :: k)) cs w')
 | [], i, m, a, w, _, h, b, k, cs => ⟨a, w, h, by simpa using Steps.refl P _⟩
 | o :: l, i, m, a, w, hops, h, b, k, cs => by
  have ho : ops[i]? = some o := hops 0 o rfl
  have hops' : ∀ (j : Nat) (o' : Oper), l[j]? = some o' → ops[i + 1 + j]? = some o' := fun j o' hj => by
   have := hops (j + 1) o' (by simpa using hj)
   rwa [show i + (j + 1) = i + 1 + j by omega] at this
  have ih := fun (a : Act) (w : World) (h : wpList P ops (QN Q) l a w) => qla (Q := Q) l (i + 1) m a w hops' h b k cs
  have er : List.range' i ((o :: l).length + m) = i :: List.range' (i + 1) (l.length + m) := by
   rw [List.length_cons, show l.length + 1 + m = (l.length + m) + 1 by omega, List.range'_succ]
  have el : i + (o :: l).length = i + 1 + l.length := by rw [List.length_cons]; omega
  rw [er, el]
  generalize hrest : List.range' (i + 1) (l.length + m) = rest at ih
  simp only [wpList] at h
  by_cases hw : Region.wanted o (yielded ops a.tmps) = true
  ·rw [if_pos hw] at h
   rcases h with h | ⟨_, _, _, hf⟩
   ·simp only [Oper.wp, Oper.upon] at h
    have hg := stepG_op (P := P) (b := b) (k := k) (cs := cs) (w := w) (rest := rest) ho hw
    have hfin : ∀ v, (b.at a (.inRegion ops (i :: rest) :: k)).finish v = b.at (a.put o.dst v) (.inRegion ops rest :: k) := by
     intro v; rw [Frame.finish_at, ho]; rfl
    split at h
    ·rename_i v w' hr
     obtain ⟨a', w'', hq, hs⟩ := ih _ _ h
     refine ⟨a', w'', hq, .head (step_lone_go ?_) hs⟩
     rw [hg, ← hfin]; simp [stepG.apply, hr]
    ·rename_i w' hr
     obtain ⟨a', w'', hq, hs⟩ := ih _ _ h
     refine ⟨a', w'', hq, .head (step_lone_go ?_) hs⟩
     rw [hg, ← hfin]; simp [stepG.apply, hr]
    ·rename_i d w' hr
     obtain ⟨a', w'', hq, hs⟩ := ih _ _ h
     refine ⟨a', w'', hq, .head (step_lone_go ?_) hs⟩
     have : ({ b.at a (.inRegion ops (i :: rest) :: k) with defers := d :: a.defers } : Frame).finish undef =
       b.at ({ a with defers := d :: a.defers }.put o.dst undef) (.inRegion ops rest :: k) := by
      have := Frame.finish_at b { a with defers := d :: a.defers } ops i rest k undef
      rw [ho] at this; exact this
     rw [hg]; simp only [stepG.apply, Sem.runT_eq, hr, GStep.bare_after]
     exact congrArg (fun fr => GStep.go { frame := fr, callers := cs, status := .running, dying := none } w') this
    ·rename_i f args w' hr
     obtain ⟨e, w'', fr, hR, hsteps, _, hleave⟩ := h (b.at a (.inRegion ops (i :: rest) :: k) :: cs)
     have henter : Go.step P (Go.lone (b.at a (.inRegion ops (i :: rest) :: k)) cs w) = .next (Go.lone (Frame.enter P f args .normal) (b.at a (.inRegion ops (i :: rest) :: k) :: cs) w') :=
      step_lone_go (by rw [hg]; simp [stepG.apply, hr, Frame.at])
     cases e with
     | returned v =>
      obtain ⟨a', w₃, hq, hs⟩ := ih _ _ hR
      refine ⟨a', w₃, hq, .head henter ((hsteps.trans (.one ?_)).trans hs)⟩
      rw [← hfin]; exact step_leave_returned hleave
     | panicked chain => exact hR.elim
     | outgrown => obtain ⟨_, _, hf⟩ := hR; exact hf.elim
    ·rename_i row args w' hr
     obtain ⟨v, w'', hR, hsteps⟩ := h (b.at a (.inRegion ops (i :: rest) :: k)) cs
     have henter : Go.step P (Go.lone (b.at a (.inRegion ops (i :: rest) :: k)) cs w) = .next (Go.lone (Frame.ofRow P row args .normal) (b.at a (.inRegion ops (i :: rest) :: k) :: cs) w') :=
      step_lone_go (by rw [hg]; simp [stepG.apply, hr, Frame.at])
     obtain ⟨a', w₃, hq, hs⟩ := ih _ _ hR
     refine ⟨a', w₃, hq, .head henter (Steps.trans ?_ hs)⟩
     rw [← hfin]; exact hsteps
    ·exact h.elim
    ·exact h.elim
   ·exact hf.elim
  ·rw [if_neg hw] at h
   obtain ⟨a', w'', hq, hs⟩ := ih _ _ h
   refine ⟨a', w'', hq, .head ?_ hs⟩
   have := step_op_skip (P := P) (b := b) (a := a) (k := k) (cs := cs) (w := w) (ops := ops) (i := i) (rest := rest) (by simp [ho, hw])
   simpa [ho] using this
theorem Go0.mid (hM : Mild P) {ops : Array Oper} {Q : Act → World → Prop} (l : List Oper) {i m : Nat} {a : Act} {b : Frame} {k : List Item} {cs : List Frame} (hops : ∀ (j : Nat) (o : Oper), l[j]? = some o → ops[i + j]? = some o) (h : ∀ τ d, wpList P ops (QN Q) l a (Ride.re w τ d))
  (hQ : ∀ a' w', Q a' w' → Go0 P F (G (b.at a' (.inRegion ops (List.range' (i + l.length) m) :: k)) cs) w') : Go0 P F (G (b.at a (.inRegion ops (List.range' i (l.length + m)) :: k)) cs) w :=
 (Go0.of_lone (F := fun g x => Go0 P F g x) hM fun τ d => by
  obtain ⟨a', w', hq, hs⟩ := qla l i m a _ hops (h τ d) b k cs
  exact ⟨_, _, w', hs, hQ a' w' hq⟩).trans fun g' x hx => hx
/-! ### calls -/
def CallsG (P : Program) (f : FuncId) (args : Array Value) (w : World) (R : Value → World → Prop) : Prop :=
 ∀ (c : Frame) (cs : List Frame) (F : Goroutine → World → Prop), (∀ v w', R v w' → Go0 P F (G (c.finish v) cs) w') → Go0 P F (G (Frame.enter P f args .normal) (c :: cs)) w
theorem CallsG.mono {f : FuncId} {args : Array Value} {R R' : Value → World → Prop} (h : CallsG P f args w R) (hr : ∀ v w', R v w' → R' v w') : CallsG P f args w R' := fun c cs F k => h c cs F fun v w' r => k v w' (hr v w' r)
theorem CallsG.of_calls (hM : Mild P) {f : FuncId} {args : Array Value} {R : Value → World → Prop} (h : ∀ τ d, Calls P f args (Ride.re w τ d) fun | .returned v, w' => R v w' | _, _ => False) : CallsG P f args w R := by
 intro c cs F k
 refine (Go0.of_lone (F := fun g x => Go0 P F g x) hM fun τ d => ?_).trans fun g' x hx => hx
 obtain ⟨e, w', fr, hR, hcomes, _, hleave⟩ := h τ d (c :: cs)
 cases e with
 | returned v => exact ⟨_, _, w', Steps.trans hcomes (.one (step_leave_returned hleave)), k v w' hR⟩
 | panicked chain => exact hR.elim
 | outgrown => exact hR.elim
theorem Go0.call (hM : Mild P) {ops : Array Oper} {i : Nat} {rest : List Nat} {o : Oper} {a : Act} {b : Frame} {k : List Item} {cs : List Frame} {f : FuncId} {args : Array Value} {R : Value → World → Prop} (ho : ops[i]? = some o) (hw : Region.wanted o (yielded ops a.tmps) = true)
  (hr : ∀ τ d, (execOp a.eval o).run P (Ride.re w τ d) = .ok (.enter f args) (Ride.re w τ d)) (hc : CallsG P f args w R) (h : ∀ v w', R v w' → Go0 P F (G (b.at (a.put o.dst v) (.inRegion ops rest :: k)) cs) w') : Go0 P F (G (b.at a (.inRegion ops (i :: rest) :: k)) cs) w := by
 have henter : ∀ τ d, Go.step P (Go.lone (b.at a (.inRegion ops (i :: rest) :: k)) cs (Ride.re w τ d)) = .next (Go.lone (Frame.enter P f args .normal) (b.at a (.inRegion ops (i :: rest) :: k) :: cs) (Ride.re w τ d)) := fun τ d =>
  step_lone_go (by rw [stepG_op (P := P) (b := b) (k := k) (cs := cs) (rest := rest) ho hw]; simp [stepG.apply, hr τ d, Frame.at])
 refine .step hM henter (hc _ _ F fun v w' r => ?_)
 have hf := Frame.finish_at b a ops i rest k v
 rw [show (ops[i]?).bind (·.dst) = o.dst by rw [ho]; rfl] at hf
 rw [hf]
 exact h v w' r
end
end Go.Ride

/- Goroutine 0's way by pieces: a piece of code; a region in which a call that may start goroutines is made. -/
namespace Go.Ride
open Go.Conc Go.Pip
section
variable {P : Program} {F : Goroutine → World → Prop} {w : World}
structure SameW (w V : World) : Prop where
 heap : V.heap = w.heap
 os : V.os = w.os
 output : V.output = w.output
theorem SameW.re (w : World) (τ : Nat → Question → Nat) (d : Nat) : SameW w (Ride.re w τ d) := ⟨rfl, rfl, rfl⟩
theorem Go0.wpQ (hM : Mild P) {c : Code} {a : Act} {b : Frame} {k : List Item} {cs : List Frame} (h : ∀ (Q : Exit → Act → World → Prop), (∀ e a w, Lands P F b k cs e a w → Q e a w) → ∀ V, SameW w V → c.wp P Q a V) : Go0 P F (G (b.at a (.code c :: k)) cs) w :=
 Go0.wp hM (fun τ d => h _ (fun _ _ _ h => h) _ (SameW.re w τ d)) (fun _ _ _ h => h)
theorem Go0.wpP (hM : Mild P) {c : Code} {a : Act} {b : Frame} {k : List Item} {cs : List Frame} (h : ∀ (Q : Exit → Act → World → Prop), (∀ e a w, Lands P F b k cs e a w → Q e a w) → (∀ c a w, Q (.panic c) a w → False) → ∀ V, SameW w V → c.wp P Q a V) : Go0 P F (G (b.at a (.code c :: k)) cs) w :=
 Go0.wp hM (fun τ d => h _ (fun _ _ _ h => h) (fun _ _ _ h => h) _ (SameW.re w τ d)) (fun _ _ _ h => h)
def quh (P : Program) (F : Goroutine → World → Prop) (ops : Array Oper) (b : Frame) (k : List Item) (cs : List Frame) (o : Oper) (l2 : List Oper) (a : Act) (w : World) : Prop :=
 Region.wanted o (yielded ops a.tmps) = true ∧ ∃ f args R, (∀ V, (execOp a.eval o).run P V = .ok (.enter f args) V) ∧ CallsG P f args w R ∧
  ∀ v w2, R v w2 → ∀ (Q : Exit → Act → World → Prop), (∀ a w, Go0 P F (G (b.at a k) cs) w → Q .normal a w) → ∀ V, SameW w2 V → wpList P ops Q l2 (a.put o.dst v) V
theorem Go0.region_call (hM : Mild P) {id : Nat} {ops : Array Oper} {a : Act} {b : Frame} {k : List Item} {cs : List Frame} (l1 l2 : List Oper) (o : Oper) (hops : ops.toList = l1 ++ o :: l2)
  (h1 : ∀ (Q : Exit → Act → World → Prop), (∀ a w, quh P F ops b k cs o l2 a w → Q .normal a w) → ∀ V, SameW w V → wpList P ops Q l1 a V) : Go0 P F (G (b.at a (.code (.region id ops false) :: k)) cs) w := by
 have hget : ∀ j, ops[j]? = (l1 ++ o :: l2)[j]? := fun j => by rw [← hops, Array.getElem?_toList]
 have hsz : ops.size = l1.length + (l2.length + 1) := by rw [← Array.length_toList, hops]; simp
 refine Go0.region hM ?_
 rw [hsz, List.range_eq_range']
 refine Go0.mid hM (Q := quh P F ops b k cs o l2) l1 (i := 0) (fun j x hx => ?_) (fun τ d => h1 _ (fun _ _ h => h) _ (SameW.re w τ d)) ?_
 ·rw [Nat.zero_add, hget]
  have := (List.getElem?_eq_some_iff.1 hx).1
  rw [List.getElem?_append_left this, hx]
 ·rintro a' w' ⟨hw, f, args, R, hr, hc, h2⟩
  rw [Nat.zero_add, show l2.length + 1 = l2.length.succ from rfl, List.range'_succ]
  have ho : ops[l1.length]? = some o := by rw [hget]; simp
  refine Go0.call hM ho hw (fun τ d => hr _) hc fun v w2 hv => ?_
  have hm := Go0.mid hM (F := F) (w := w2) (b := b) (k := k) (cs := cs) (a := a'.put o.dst v) (Q := fun a3 w3 => Go0 P F (G (b.at a3 k) cs) w3) l2 (i := l1.length + 1) (m := 0) (fun j x hx => by
   rw [hget, show l1.length + 1 + j = l1.length + (1 + j) by omega, List.getElem?_append_right (by omega)]
   rw [show l1.length + (1 + j) - l1.length = j + 1 by omega, List.getElem?_cons_succ]
   exact hx) (fun τ d => h2 v w2 hv _ (fun _ _ h => h) _ (SameW.re w2 τ d)) (fun a3 w3 h3 => by
   rw [show List.range' (l1.length + 1 + l2.length) 0 = [] from rfl]
   exact Go0.region_end hM h3)
  simpa using hm
end
end Go.Ride
