import Derived.Conc.Beside
import Derived.Lone
set_option linter.unusedVariables false
set_option linter.unusedSimpArgs false
set_option maxHeartbeats 16000000
namespace Go.Ride
/-! ### (1) the semantics looks at the tape only at the draws that it takes -/
def re (w : World) (τ : Nat → Question → Nat) (d : Nat) : World := { w with tape := τ, drawn := d }
def Agree (w : World) (n : Nat) (τ : Nat → Question → Nat) (d : Nat) : Prop := ∀ i, i < n → ∀ q, τ (d + i) q = w.tape (w.drawn + i) q
def rer {α : Type} (τ : Nat → Question → Nat) (d : Nat) : Result α → Result α
 | .ok a w => .ok a (re w τ d)
 | .halt h w => .halt h (re w τ d)
def rw_ {α : Type} : Result α → World
 | .ok _ w => w
 | .halt _ w => w
structure Ran {α : Type} (f : World → Result α × Array Event) (w : World) (n : Nat) : Prop where
 tape : (rw_ (f w).1).tape = w.tape
 drawn : (rw_ (f w).1).drawn = w.drawn + n
 same : ∀ τ d, Agree w n τ d → f (re w τ d) = (rer τ (d + n) (f w).1, (f w).2)
theorem qm7 {α : Type} : ∀ (a : Ask α) (w : World), ∃ n, (w.ask a).2.tape = w.tape ∧ (w.ask a).2.drawn = w.drawn + n ∧ (w.ask a).2.heap = w.heap ∧
  ∀ τ d, Agree w n τ d → (re w τ d).ask a = ((w.ask a).1, re (w.ask a).2 τ (d + n))
 | .done a, w => ⟨0, rfl, rfl, rfl, fun _ _ _ => rfl⟩
 | .ask what range k, w => by
  by_cases hf : (Question.extern what range).forced = true
  ·obtain ⟨n, h1, h2, h0, h3⟩ := qm7 (k 0) w
   refine ⟨n, ?_, ?_, ?_, fun τ d h => ?_⟩ <;> simp only [World.ask, hf, if_true]
   ·exact h1
   ·exact h2
   ·exact h0
   ·exact h3 τ d h
  ·obtain ⟨n, h1, h2, h0, h3⟩ := qm7 (k ((Question.extern what range).cut (w.tape w.drawn (.extern what range)))) { w with drawn := w.drawn + 1 }
   refine ⟨n + 1, ?_, ?_, ?_, fun τ d h => ?_⟩ <;> simp only [World.ask, hf, if_false, Bool.false_eq_true]
   ·exact h1
   ·rw [h2]; show w.drawn + 1 + n = _; omega
   ·exact h0
   ·have e : τ d (.extern what range) = w.tape w.drawn (.extern what range) := by simpa using h 0 (by omega) (.extern what range)
    have := h3 τ (d + 1) (fun i hi q => by
     have := h (i + 1) (by omega) q
     show τ (d + 1 + i) q = w.tape (w.drawn + 1 + i) q
     rw [show d + 1 + i = d + (i + 1) from by omega, show w.drawn + 1 + i = w.drawn + (i + 1) from by omega]; exact this)
    show World.ask (re { w with drawn := w.drawn + 1 } τ (d + 1)) (k ((Question.extern what range).cut (τ d (.extern what range)))) = _
    rw [e, this, show d + 1 + n = d + (n + 1) from by omega]
theorem q0w (c : Sys) (w : World) (hb : (w.sys c).1 ≠ .wouldBlock) : ∃ n, (w.sys c).2.tape = w.tape ∧ (w.sys c).2.drawn = w.drawn + n ∧
  ∀ τ d, Agree w n τ d → (re w τ d).sys c = ((w.sys c).1, re (w.sys c).2 τ (d + n)) := by
 obtain ⟨n, h1, h2, _, h3⟩ := qm7 (Kernel.perform c w.os) w
 unfold World.sys at hb ⊢
 generalize hr : w.ask (Kernel.perform c w.os) = r at *
 obtain ⟨⟨s, os⟩, w'⟩ := r
 have hs : s ≠ .wouldBlock := by rintro rfl; exact hb rfl
 refine ⟨n, ?_, ?_, fun τ d h => ?_⟩
 ·cases s <;> first | exact h1 | exact absurd rfl hs
 ·cases s <;> first | exact h2 | exact absurd rfl hs
 ·have e := h3 τ d h
  show (match World.ask (re w τ d) (Kernel.perform c w.os) with | ((.wouldBlock, _), _) => (SysRet.wouldBlock, re w τ d) | ((r, os), w) => (r, { w with os })) = _
  rw [e]
  cases s <;> first | rfl | exact absurd rfl hs
/-! ### (2) what a piece of the semantics may do: no word of the library's but in pairs; nobody sleeps -/
def ends : Halt → Bool
 | .exit _ | .stuck _ => true
 | .unsupported (.initOrder _) => false
 | .unsupported _ => true
 | _ => false
def hush : Halt → Bool
 | .exit _ | .stuck _ | .blocked => true
 | .unsupported _ => true
 | _ => false
theorem qtx {h : Halt} (e : ends h = true) : hush h = true := by
 cases h <;> first | rfl | cases e
def tame (P : Program) {α : Type} : Sem α → Nat → (α → Nat → Prop) → Prop
 | .pure a, k, Q => Q a k
 | .load _ _ f, k, Q => ∀ v, tame P (f v) k Q
 | .store _ _ _ f, k, Q => tame P f k Q
 | .new _ f, k, Q => ∀ r, tame P (f r) k Q
 | .shape _ f, k, Q => ∀ r, tame P (f r) k Q
 | .freeze _ _ f, k, Q => tame P f k Q
 | .frozen _ f, k, Q => ∀ r, tame P (f r) k Q
 | .getObj _ f, k, Q => ∀ r, tame P (f r) k Q
 | .setObj _ _ f, k, Q => tame P f k Q
 | .choose _ f, k, Q => ∀ r, tame P (f r) k Q
 | .sys _ f, k, Q => (∃ h, f .wouldBlock = .halt h ∧ ends h = true) ∧ ∀ r, tame P (f r) k Q
 | .program f, k, Q => tame P (f P) k Q
 | .mark .disable f, k, Q => tame P f (k + 1) Q
 | .mark .enable f, k, Q => 0 < k ∧ tame P f (k - 1) Q
 | .mark _ f, k, Q => tame P f k Q
 | .halt h, k, _ => h ≠ .waiting ∧ h ≠ .goexit ∧ (k = 0 ∨ hush h = true)
section
variable {P : Program} {α β : Type}
theorem qbh : ∀ {s : Sem α} {k : Nat} {Q Q' : α → Nat → Prop}, tame P s k Q → (∀ a k, Q a k → Q' a k) → tame P s k Q'
 | .pure a, k, _, _, h, hq => hq _ _ h
 | .load _ _ f, k, _, _, h, hq => fun v => qbh (s := f v) (h v) hq
 | .store _ _ _ f, k, _, _, h, hq => qbh (s := f) h hq
 | .new _ f, k, _, _, h, hq => fun v => qbh (s := f v) (h v) hq
 | .shape _ f, k, _, _, h, hq => fun v => qbh (s := f v) (h v) hq
 | .freeze _ _ f, k, _, _, h, hq => qbh (s := f) h hq
 | .frozen _ f, k, _, _, h, hq => fun v => qbh (s := f v) (h v) hq
 | .getObj _ f, k, _, _, h, hq => fun v => qbh (s := f v) (h v) hq
 | .setObj _ _ f, k, _, _, h, hq => qbh (s := f) h hq
 | .choose _ f, k, _, _, h, hq => fun v => qbh (s := f v) (h v) hq
 | .sys _ f, k, _, _, h, hq => ⟨h.1, fun v => qbh (s := f v) (h.2 v) hq⟩
 | .program f, k, _, _, h, hq => qbh (s := f P) h hq
 | .mark m f, k, _, _, h, hq => by
  cases m <;> first | exact qbh (s := f) h hq | exact ⟨h.1, qbh (s := f) h.2 hq⟩
 | .halt _, k, _, _, h, _ => h
theorem qbi {f : α → Sem β} : ∀ {s : Sem α} {k : Nat} {Q : β → Nat → Prop}, tame P s k (fun a k => tame P (f a) k Q) → tame P (s.bind f) k Q
 | .pure a, k, _, h => h
 | .load _ _ g, k, _, h => fun v => qbi (s := g v) (h v)
 | .store _ _ _ g, k, _, h => qbi (s := g) h
 | .new _ g, k, _, h => fun v => qbi (s := g v) (h v)
 | .shape _ g, k, _, h => fun v => qbi (s := g v) (h v)
 | .freeze _ _ g, k, _, h => qbi (s := g) h
 | .frozen _ g, k, _, h => fun v => qbi (s := g v) (h v)
 | .getObj _ g, k, _, h => fun v => qbi (s := g v) (h v)
 | .setObj _ _ g, k, _, h => qbi (s := g) h
 | .choose _ g, k, _, h => fun v => qbi (s := g v) (h v)
 | .sys _ g, k, _, h => ⟨by obtain ⟨x, hx, he⟩ := h.1; exact ⟨x, by show (g .wouldBlock).bind f = _; rw [hx]; rfl, he⟩, fun v => qbi (s := g v) (h.2 v)⟩
 | .program g, k, _, h => qbi (s := g P) h
 | .mark m g, k, _, h => by
  cases m <;> first | exact qbi (s := g) h | exact ⟨h.1, qbi (s := g) h.2⟩
 | .halt _, k, _, h => h
def Mute (P : Program) (s : Sem α) : Prop := tame P s 0 fun _ k => k = 0
theorem Mute.pure (a : α) : Mute P (Pure.pure a : Sem α) := rfl
theorem Mute.pure' (a : α) : Mute P (Sem.pure a) := rfl
theorem Mute.bind {s : Sem α} {f : α → Sem β} (h : Mute P s) (hf : ∀ a, Mute P (f a)) : Mute P (s >>= f) :=
 qbi (s := s) (qbh h fun a k hk => by subst hk; exact hf a)
theorem Mute.map {s : Sem α} {f : α → β} (h : Mute P s) : Mute P (f <$> s) := Mute.bind h fun a => Mute.pure' _
theorem qex {s : Sem α} {f : α → Sem β} {Q : β → Nat → Prop} (h : Mute P s) (hf : ∀ a, tame P (f a) 0 Q) : tame P (s >>= f) 0 Q :=
 qbi (s := s) (qbh h fun a k hk => by subst hk; exact hf a)
theorem Mute.halt {h : Halt} (h1 : h ≠ .waiting) (h2 : h ≠ .goexit) : Mute P (Sem.halt h : Sem α) := ⟨h1, h2, .inl rfl⟩
end
theorem qey (d : Nat) (u v : Array Event) : deafBehind d (u ++ v) = deafBehind (deafBehind d u) v := by simp [deafBehind]
theorem qi9 {u : Array Event} (h : ∀ e ∈ u, e.loc ≠ .mark .disable ∧ e.loc ≠ .mark .enable) (d : Nat) : deafBehind d u = d := Go.Conc.deafBehind_still h d
theorem qdm {e : Event} (h1 : e.loc ≠ .mark .disable) (h2 : e.loc ≠ .mark .enable) (d : Nat) : deafBehind d #[e] = d := qi9 (by simpa using ⟨h1, h2⟩) d
structure RanT (P : Program) {α : Type} (s : Sem α) (k : Nat) (Q : α → Nat → Prop) (w : World) (es : Array Event) (n : Nat) (u : Array Event) : Prop where
 listed : (s.runT P w es).2 = es ++ u
 tape : (rw_ (s.runT P w es).1).tape = w.tape
 drawn : (rw_ (s.runT P w es).1).drawn = w.drawn + n
 ok : ∀ a w', (s.runT P w es).1 = .ok a w' → ∃ k', Q a k' ∧ ∀ d, deafBehind (d + k) u = d + k'
 halt : ∀ h w', (s.runT P w es).1 = .halt h w' → h ≠ .waiting ∧ h ≠ .goexit ∧ (hush h = true ∨ ∀ d, deafBehind (d + k) u = d)
 same : (∀ h w', (s.runT P w es).1 = .halt h w' → ends h = false) → ∀ τ d, Agree w n τ d → s.runT P (re w τ d) es = (rer τ (d + n) (s.runT P w es).1, (s.runT P w es).2)
section
variable {P : Program} {α : Type}
theorem RanT.first {s s' : Sem α} {k k' : Nat} {Q : α → Nat → Prop} {w w' : World} {es v : Array Event} {n : Nat} {u : Array Event} (h : RanT P s' k' Q w' (es ++ v) n u)
  (hr : s.runT P w es = s'.runT P w' (es ++ v)) (ht : w'.tape = w.tape) (hd : w'.drawn = w.drawn) (hk : ∀ d, deafBehind (d + k) v = d + k')
  (hre : ∀ τ d, s.runT P (re w τ d) es = s'.runT P (re w' τ d) (es ++ v)) : RanT P s k Q w es n (v ++ u) := by
 refine ⟨by rw [hr, h.listed, Array.append_assoc], by rw [hr, h.tape, ht], by rw [hr, h.drawn, hd], fun a x hx => ?_, fun a x hx => ?_, fun hh τ d hA => ?_⟩
 ·rw [hr] at hx
  obtain ⟨k'', hq, hb⟩ := h.ok a x hx
  exact ⟨k'', hq, fun d => by rw [qey, hk, hb]⟩
 ·rw [hr] at hx
  obtain ⟨h1, h2, h3⟩ := h.halt a x hx
  exact ⟨h1, h2, h3.imp id fun hb d => by rw [qey, hk, hb]⟩
 ·rw [hre, hr]
  rw [hr] at hh
  exact h.same hh τ d (fun i hi q => by rw [ht, hd]; exact hA i hi q)
theorem qb9 {k : Nat} {Q : α → Nat → Prop} {w : World} {es : Array Event} {s : Sem α} {h : Halt} (hr : s.runT P w es = (.halt h w, es)) (h1 : h ≠ .waiting) (h2 : h ≠ .goexit) (h3 : hush h = true ∨ k = 0)
  (hre : ∀ τ d, ends h = false → s.runT P (re w τ d) es = (.halt h (re w τ d), es)) : RanT P s k Q w es 0 #[] := by
 refine ⟨by rw [hr]; simp, by rw [hr]; rfl, by rw [hr]; rfl, fun a x hx => (by rw [hr] at hx; cases hx), fun a x hx => ?_, fun hh τ d _ => ?_⟩
 ·rw [hr] at hx
  cases hx
  exact ⟨h1, h2, h3.imp id fun hk d => by subst hk; rfl⟩
 ·rw [hr] at hh ⊢
  rw [hre τ d (hh h w rfl)]
  rfl
theorem qrf {w : World} {n : Nat} {τ : Nat → Question → Nat} {d : Nat} (h : Agree w (n + 1) τ d) : Agree { w with drawn := w.drawn + 1 } n τ (d + 1) := fun i hi q => by
 have := h (i + 1) (by omega) q
 show τ (d + 1 + i) q = w.tape (w.drawn + 1 + i) q
 rw [show d + 1 + i = d + (i + 1) from by omega, show w.drawn + 1 + i = w.drawn + (i + 1) from by omega]; exact this
theorem qir (w : World) (a : Addr) (what : String) : hush (w.noCell a what) = true := by
 unfold World.noCell
 split <;> rfl
theorem qif {h : Halt} (e : hush h = true) : h ≠ .waiting ∧ h ≠ .goexit := ⟨(by rintro rfl; cases e), (by rintro rfl; cases e)⟩
theorem qha (p : Program) (w : World) (b : Addr) (t : TypeId) (a : Addr) (v : Value) (x : Bool) (τ : Nat → Question → Nat) (d : Nat) :
  (re w τ d).viewStore p b t a v x = (w.viewStore p b t a v x).map fun y => (re y.1 τ d, y.2) := by
 have hs : (re w τ d).seen p b t a x = w.seen p b t a x := rfl
 unfold World.viewStore
 rw [hs]
 simp only [bind, Except.bind, pure, Except.pure]
 repeat' (first | rfl | split)
theorem qkz (p : Program) (w : World) (b : Addr) (t : TypeId) (a : Addr) (v : Value) (x : Bool) {y : World × List Addr} (h : w.viewStore p b t a v x = .ok y) : y.1.tape = w.tape ∧ y.1.drawn = w.drawn := by
 unfold World.viewStore at h
 simp only [bind, Except.bind, pure, Except.pure] at h
 repeat' (first | (cases h; done) | (cases h; exact ⟨rfl, rfl⟩) | (split at h))
theorem qbb : ∀ (s : Sem α) (k : Nat) (Q : α → Nat → Prop) (w : World) (es : Array Event), tame P s k Q → ∃ n u, RanT P s k Q w es n u
 | .pure a, k, Q, w, es, h => ⟨0, #[], ⟨by simp [-Sem.runT_eq, Sem.runT], rfl, rfl, fun b x hx => (by cases hx; exact ⟨k, h, fun d => rfl⟩), fun b x hx => (by cases hx), fun _ τ d _ => rfl⟩⟩
 | .new o f, k, Q, w, es, h => by
  obtain ⟨n, u, r⟩ := qbb (f w.heap.size) k Q { w with heap := w.heap.push o } (es ++ #[]) (h _)
  exact ⟨n, _, r.first (v := #[]) (by simp [-Sem.runT_eq, Sem.runT]) rfl rfl (fun d => rfl) (fun τ d => by simp [-Sem.runT_eq, Sem.runT, re])⟩
 | .shape a f, k, Q, w, es, h => by
  obtain ⟨n, u, r⟩ := qbb (f (w.shape? a)) k Q w (es ++ #[]) (h _)
  exact ⟨n, _, r.first (v := #[]) (by simp [-Sem.runT_eq, Sem.runT]) rfl rfl (fun d => rfl) (fun τ d => by simp [-Sem.runT_eq, Sem.runT, re, World.shape?])⟩
 | .freeze a m f, k, Q, w, es, h => by
  obtain ⟨n, u, r⟩ := qbb f k Q (w.freeze a m) (es ++ #[]) h
  have e : ∀ τ d, (re w τ d).freeze a m = re (w.freeze a m) τ d := fun τ d => by unfold World.freeze re; split <;> rfl
  exact ⟨n, _, r.first (v := #[]) (by simp [-Sem.runT_eq, Sem.runT]) (by unfold World.freeze; split <;> rfl) (by unfold World.freeze; split <;> rfl) (fun d => rfl) (fun τ d => by simp [-Sem.runT_eq, Sem.runT, e])⟩
 | .frozen a f, k, Q, w, es, h => by
  obtain ⟨n, u, r⟩ := qbb (f (w.frozen? a)) k Q w (es ++ #[]) (h _)
  exact ⟨n, _, r.first (v := #[]) (by simp [-Sem.runT_eq, Sem.runT]) rfl rfl (fun d => rfl) (fun τ d => by simp [-Sem.runT_eq, Sem.runT, re, World.frozen?])⟩
 | .program f, k, Q, w, es, h => by
  obtain ⟨n, u, r⟩ := qbb (f P) k Q w (es ++ #[]) h
  exact ⟨n, _, r.first (v := #[]) (by simp [-Sem.runT_eq, Sem.runT]) rfl rfl (fun d => rfl) (fun τ d => by simp [-Sem.runT_eq, Sem.runT])⟩
 | .mark m f, k, Q, w, es, h => by
  have key : ∀ k', tame P f k' Q → (∀ d, deafBehind (d + k) #[(⟨.mark m, false, true⟩ : Event)] = d + k') → ∃ n u, RanT P (.mark m f) k Q w es n u := fun k' h' hk => by
   obtain ⟨n, u, r⟩ := qbb f k' Q w (es ++ #[⟨.mark m, false, true⟩]) h'
   exact ⟨n, _, r.first (v := #[⟨.mark m, false, true⟩]) (by simp [-Sem.runT_eq, Sem.runT]) rfl rfl hk (fun τ d => by simp [-Sem.runT_eq, Sem.runT])⟩
  cases m with
  | disable => exact key (k + 1) h (fun d => rfl)
  | enable => exact key (k - 1) h.2 (fun d => by show d + k - 1 = d + (k - 1); have := h.1; omega)
  | _ => exact key k h (fun d => rfl)
 | .halt x, k, Q, w, es, h => ⟨0, #[], qb9 rfl h.1 h.2.1 h.2.2.symm (fun _ _ _ => rfl)⟩
 | .choose q f, k, Q, w, es, h => by
  by_cases hf : q.forced = true
  ·obtain ⟨n, u, r⟩ := qbb (f 0) k Q w (es ++ #[]) (h _)
   exact ⟨n, _, r.first (v := #[]) (by simp [-Sem.runT_eq, Sem.runT, hf]) rfl rfl (fun d => rfl) (fun τ d => by simp [-Sem.runT_eq, Sem.runT, hf])⟩
  ·obtain ⟨n, u, r⟩ := qbb (f (q.cut (w.tape w.drawn q))) k Q { w with drawn := w.drawn + 1 } es (h _)
   have hr : (Sem.choose q f).runT P w es = (f (q.cut (w.tape w.drawn q))).runT P { w with drawn := w.drawn + 1 } es := by simp [-Sem.runT_eq, Sem.runT, hf]
   refine ⟨n + 1, u, by rw [hr]; exact r.listed, by rw [hr]; exact r.tape, by rw [hr, r.drawn]; show w.drawn + 1 + n = _; omega, fun a x hx => r.ok a x (hr ▸ hx), fun a x hx => r.halt a x (hr ▸ hx), fun hh τ d hA => ?_⟩
   have e0 : τ d q = w.tape w.drawn q := by simpa using hA 0 (by omega) q
   have e1 : (Sem.choose q f).runT P (re w τ d) es = (f (q.cut (τ d q))).runT P (re { w with drawn := w.drawn + 1 } τ (d + 1)) es := by simp [-Sem.runT_eq, Sem.runT, hf, re]
   rw [e1, e0, hr, r.same (fun a x hx => hh a x (hr.symm ▸ hx)) τ (d + 1) (qrf hA), show d + 1 + n = d + (n + 1) from by omega]
 | .getObj a f, k, Q, w, es, h => by
  have hw : ∀ τ d, (re w τ d).heap = w.heap := fun _ _ => rfl
  cases ho : w.heap[a]? with
  | none => exact ⟨0, #[], qb9 (h := .stuck _) (by simp [-Sem.runT_eq, Sem.runT, ho]; rfl) (by simp) (by simp) (.inl rfl) (fun τ d _ => by simp [-Sem.runT_eq, Sem.runT, hw, ho])⟩
  | some o =>
   by_cases hc : ∃ c e z, o = .cells c e z
   ·obtain ⟨c, e, z, rfl⟩ := hc
    exact ⟨0, #[], qb9 (h := .stuck _) (by simp [-Sem.runT_eq, Sem.runT, ho]; rfl) (by simp) (by simp) (.inl rfl) (fun τ d _ => by simp [-Sem.runT_eq, Sem.runT, hw, ho])⟩
   ·obtain ⟨n, u, r⟩ := qbb (f o) k Q w (es ++ #[⟨.obj a, false, o.isChan⟩]) (h _)
    refine ⟨n, _, r.first (v := #[⟨.obj a, false, o.isChan⟩]) ?_ rfl rfl (fun d => qdm (by simp) (by simp) _) (fun τ d => ?_)⟩
    ·cases o <;> first | exact absurd ⟨_, _, _, rfl⟩ hc | simp [-Sem.runT_eq, Sem.runT, ho]
    ·cases o <;> first | exact absurd ⟨_, _, _, rfl⟩ hc | simp [-Sem.runT_eq, Sem.runT, hw, ho]
 | .setObj a o' f, k, Q, w, es, h => by
  have hw : ∀ τ d, (re w τ d).heap = w.heap := fun _ _ => rfl
  cases ho : w.heap[a]? with
  | none => exact ⟨0, #[], qb9 (h := .stuck _) (by simp [-Sem.runT_eq, Sem.runT, ho]; rfl) (by simp) (by simp) (.inl rfl) (fun τ d _ => by simp [-Sem.runT_eq, Sem.runT, hw, ho])⟩
  | some o =>
   by_cases hc : ∃ c e z, o = .cells c e z
   ·obtain ⟨c, e, z, rfl⟩ := hc
    exact ⟨0, #[], qb9 (h := .stuck _) (by simp [-Sem.runT_eq, Sem.runT, ho]; rfl) (by simp) (by simp) (.inl rfl) (fun τ d _ => by simp [-Sem.runT_eq, Sem.runT, hw, ho])⟩
   ·obtain ⟨n, u, r⟩ := qbb f k Q { w with heap := w.heap.setIfInBounds a o' } (es ++ #[⟨.obj a, true, o'.isChan⟩]) h
    refine ⟨n, _, r.first (v := #[⟨.obj a, true, o'.isChan⟩]) ?_ rfl rfl (fun d => qdm (by simp) (by simp) _) (fun τ d => ?_)⟩
    ·cases o <;> first | exact absurd ⟨_, _, _, rfl⟩ hc | simp [-Sem.runT_eq, Sem.runT, ho]
    ·cases o <;> first | exact absurd ⟨_, _, _, rfl⟩ hc | (simp [-Sem.runT_eq, Sem.runT, hw, ho]; rfl)
 | .sys c f, k, Q, w, es, h => by
  by_cases hb : (w.sys c).1 = .wouldBlock
  ·obtain ⟨x, hx, he⟩ := h.1
   have hw : w.sys c = (.wouldBlock, w) := by
    revert hb
    unfold World.sys
    split
    ·intro _; rfl
    ·rename_i r os w' hne heq
     intro hr
     simp only at hr
     subst hr
     exact (hne rfl).elim
   have hr : (Sem.sys c f).runT P w es = (.halt x w, es.push ⟨.output, true, false⟩) := by simp [-Sem.runT_eq, Sem.runT, hw, hx]
   refine ⟨0, #[⟨.output, true, false⟩], by rw [hr]; simp, by rw [hr]; rfl, by rw [hr]; rfl, fun a y hy => (by rw [hr] at hy; cases hy), fun a y hy => ?_, fun hh => absurd (hh x w (by rw [hr])) (by simp [he])⟩
   rw [hr] at hy; cases hy
   exact ⟨(by rintro rfl; cases he), (by rintro rfl; cases he), .inl (qtx he)⟩
  ·obtain ⟨m, h1, h2, h3⟩ := q0w c w hb
   obtain ⟨n, u, r⟩ := qbb (f (w.sys c).1) k Q (w.sys c).2 (es ++ #[⟨.output, true, false⟩]) (h.2 _)
   have hr : (Sem.sys c f).runT P w es = (f (w.sys c).1).runT P (w.sys c).2 (es ++ #[⟨.output, true, false⟩]) := by simp [-Sem.runT_eq, Sem.runT]
   refine ⟨m + n, #[⟨.output, true, false⟩] ++ u, by rw [hr, r.listed, Array.append_assoc], by rw [hr, r.tape, h1], by rw [hr, r.drawn, h2]; omega, fun a x hx => ?_, fun a x hx => ?_, fun hh τ d hA => ?_⟩
   ·obtain ⟨k', hq, hd⟩ := r.ok a x (hr ▸ hx)
    exact ⟨k', hq, fun d => by rw [qey, qdm (by simp) (by simp), hd]⟩
   ·obtain ⟨j1, j2, j3⟩ := r.halt a x (hr ▸ hx)
    exact ⟨j1, j2, j3.imp id fun hb d => by rw [qey, qdm (by simp) (by simp), hb]⟩
   ·have e1 : (Sem.sys c f).runT P (re w τ d) es = (f (w.sys c).1).runT P (re (w.sys c).2 τ (d + m)) (es ++ #[⟨.output, true, false⟩]) := by
     have := h3 τ d (fun i hi q => hA i (by omega) q)
     simp [-Sem.runT_eq, Sem.runT, this]
    rw [e1, hr, r.same (fun a x hx => hh a x (hr.symm ▸ hx)) τ (d + m) (fun i hi q => by rw [h1, h2, Nat.add_assoc, Nat.add_assoc]; exact hA (m + i) (by omega) q), Nat.add_assoc]
 | .load m a f, k, Q, w, es, h => by
  cases hc : w.cell? a with
  | some v =>
   obtain ⟨n, u, r⟩ := qbb (f v) k Q w (es ++ #[⟨.cell a, false, m == .atomic⟩]) (h _)
   have hc' : ∀ τ d, (re w τ d).cell? a = some v := fun _ _ => hc
   exact ⟨n, _, r.first (v := #[⟨.cell a, false, m == .atomic⟩]) (by simp [-Sem.runT_eq, Sem.runT, hc]) rfl rfl (fun d => qdm (by simp) (by simp) _) (fun τ d => by simp [-Sem.runT_eq, Sem.runT, hc'])⟩
  | none =>
   have hc' : ∀ τ d, (re w τ d).cell? a = none := fun _ _ => hc
   have hf' : ∀ τ d, (re w τ d).farLoad P a (m == .atomic) = w.farLoad P a (m == .atomic) := fun _ _ => rfl
   cases hf : w.farLoad P a (m == .atomic) with
   | ok x =>
    obtain ⟨v, l⟩ := x
    obtain ⟨n, u, r⟩ := qbb (f v) k Q w (es ++ l.toArray.map (⟨.cell ·, false, m == .atomic⟩)) (h _)
    refine ⟨n, _, r.first (v := l.toArray.map (⟨.cell ·, false, m == .atomic⟩)) (by simp only [Sem.runT, hc, hf]) rfl rfl (fun d => qi9 ?_ _) (fun τ d => by simp only [Sem.runT, hc', hf', hf])⟩
    intro e he
    obtain ⟨x, _, rfl⟩ := Array.mem_map.1 he
    simp
   | error x =>
    have hk : hush x = true := by
     unfold World.farLoad at hf
     split at hf
     ·split at hf
      ·cases hf
      ·cases hf; rfl
     ·cases hf; exact qir _ _ _
    exact ⟨0, #[], qb9 (by simp only [Sem.runT, hc, hf]) (qif hk).1 (qif hk).2 (.inl hk) (fun τ d _ => by simp only [Sem.runT, hc', hf', hf])⟩
 | .store m a v f, k, Q, w, es, h => by
  by_cases hv : (∃ x, v = .agg x) ∨ ∃ x, v = .tuple x
  ·have hr : ∀ w, (Sem.store m a v f).runT P w es = (.halt (.stuck "store: not the value of one cell") w, es) := by
    intro w
    rcases hv with ⟨x, rfl⟩ | ⟨x, rfl⟩ <;> simp only [Sem.runT]
   exact ⟨0, #[], qb9 (hr w) (by simp) (by simp) (.inl rfl) (fun τ d _ => hr _)⟩
  have hne1 : ∀ x, v ≠ .agg x := fun x e => hv (.inl ⟨x, e⟩)
  have hne2 : ∀ x, v ≠ .tuple x := fun x e => hv (.inr ⟨x, e⟩)
  cases hc : w.cell? a with
  | some x =>
   have hc' : ∀ τ d, (re w τ d).cell? a = some x := fun _ _ => hc
   by_cases hz : w.frozen? a = true
   ·have hz' : ∀ τ d, (re w τ d).frozen? a = true := fun _ _ => hz
    exact ⟨0, #[], qb9 (h := .unsupported (.unsafePointer "a write to bytes that a string shares")) (by rw [Sem.runT.eq_def]; split <;> simp_all) (by simp) (by simp) (.inl rfl) (fun τ d _ => by rw [Sem.runT.eq_def]; split <;> simp_all)⟩
   ·have hz0 : w.frozen? a = false := by simpa using hz
    have hz' : ∀ τ d, (re w τ d).frozen? a = false := fun _ _ => hz0
    obtain ⟨n, u, r⟩ := qbb f k Q (w.setCell a v) (es ++ #[⟨.cell a, true, m == .atomic⟩]) h
    refine ⟨n, _, r.first (v := #[⟨.cell a, true, m == .atomic⟩]) ?_ rfl rfl (fun d => qdm (by simp) (by simp) _) (fun τ d => ?_)⟩
    ·rw [Sem.runT.eq_def]; split <;> simp_all
    ·rw [Sem.runT.eq_def]; split <;> simp_all
     exact ⟨rfl, rfl⟩
  | none =>
   have hc' : ∀ τ d, (re w τ d).cell? a = none := fun _ _ => hc
   cases hf : w.farStore P a v (m == .atomic) with
   | ok x =>
    obtain ⟨w', l⟩ := x
    have hst : w'.tape = w.tape ∧ w'.drawn = w.drawn ∧ ∀ τ d, (re w τ d).farStore P a v (m == .atomic) = .ok (re w' τ d, l) := by
     have hh : ∀ τ d, (re w τ d).heap = w.heap := fun _ _ => rfl
     unfold World.farStore at hf ⊢
     simp only [hh]
     split at hf
     ·rename_i at_ u heq
      cases hv' : w.viewStore P at_ u a v (m == .atomic) with
      | error y => rw [hv'] at hf; cases hf
      | ok y =>
       rw [hv'] at hf
       cases hf
       obtain ⟨j1, j2⟩ := qkz _ _ _ _ _ _ _ hv'
       exact ⟨j1, j2, fun τ d => by rw [qha, hv']; rfl⟩
     ·cases hf
    obtain ⟨n, u, r⟩ := qbb f k Q w' (es ++ l.toArray.map (⟨.cell ·, true, m == .atomic⟩)) h
    refine ⟨n, _, r.first (v := l.toArray.map (⟨.cell ·, true, m == .atomic⟩)) ?_ hst.1 hst.2.1 (fun d => qi9 ?_ _) (fun τ d => ?_)⟩
    ·rw [Sem.runT.eq_def]; split <;> simp_all
    ·intro e he
     obtain ⟨x, _, rfl⟩ := Array.mem_map.1 he
     simp
    ·have := hst.2.2 τ d
     rw [Sem.runT.eq_def]; split <;> simp_all
   | error x =>
    have hk : hush x = true := by
     unfold World.farStore at hf
     split at hf
     ·split at hf
      ·cases hf
      ·cases hf; rfl
     ·cases hf; exact qir _ _ _
    have hf' : ∀ τ d, (re w τ d).farStore P a v (m == .atomic) = .error x := by
     intro τ d
     have hh : (re w τ d).heap = w.heap := rfl
     unfold World.farStore at hf ⊢
     simp only [hh]
     split at hf
     ·rename_i at_ u heq
      cases hv' : w.viewStore P at_ u a v (m == .atomic) with
      | error y => rw [hv'] at hf; rw [qha, hv']; exact hf
      | ok y => rw [hv'] at hf; cases hf
     ·exact hf
    exact ⟨0, #[], qb9 (by rw [Sem.runT.eq_def]; split <;> simp_all) (qif hk).1 (qif hk).2 (.inl hk) (fun τ d _ => by have := hf' τ d; rw [Sem.runT.eq_def]; split <;> simp_all)⟩
end
end Go.Ride
