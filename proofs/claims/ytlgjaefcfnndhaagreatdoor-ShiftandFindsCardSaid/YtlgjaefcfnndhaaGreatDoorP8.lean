/- Goroutine 0 at a go statement whose child sends over a channel with a buffer and closes it, goroutine 0 ranging over it; goroutine 0 at the run's end. -/
import Derived.Test.YtlgjaefcfnndhaaGreatDoorP7
import Derived.Conc.LeavingOf
set_option linter.unusedVariables false
set_option linter.unusedSimpArgs false
set_option maxHeartbeats 16000000
namespace Go.Ride
open Go.Conc Go.Pip
open Go.ConcN (sumTo upd sumTo_upd upd_ne upd_same)
section
variable {P : Program} {F F' : Goroutine → World → Prop} {g : Goroutine} {w : World}
theorem qmx {t : Trace} {gs : Array Goroutine} {q : Nat → Nat} (h : Leavers P t gs q) {w : World} {sl : Option (Nat × Nat)} {i : Nat} {x : Goroutine} (h0 : i ≠ 0) (hi : gs[i]? = some x) (hr : x.status = .running) {a : Goroutine} (ha : gs[0]? = some a) (har : a.status = .running) :
  ∃ g' es kq, q i = kq + 1 ∧ (∀ e ∈ es, Event.mute e = true) ∧ runT P (crowd gs w sl) i = (.next (crowd ((gs.map (woken P x g' w)).setIfInBounds i g') w sl), MemOp.ofEvents i x.frame.fn x.frame.place es) ∧
   Leavers P (t ++ MemOp.ofEvents i x.frame.fn x.frame.place es) ((gs.map (woken P x g' w)).setIfInBounds i g') (upd q i kq) ∧ sumTo gs.size (upd q i kq) < sumTo gs.size q ∧
   ((gs.map (woken P x g' w)).setIfInBounds i g')[0]? = some a ∧ ((gs.map (woken P x g' w)).setIfInBounds i g').size = gs.size := by
 have hq := h.old i x (by omega) hi
 have hi0 : (i == 0) = false := by simp [h0]
 have hlt : i < gs.size := (Array.getElem?_eq_some_iff.1 hi).1
 cases hqi : q i with
 | zero => rw [hqi] at hq; rw [hq.1] at hr; cases hr
 | succ kq =>
  rw [hqi] at hq
  rcases hq with ⟨hf, _⟩ | ⟨_, g', es, hm, hstp, hq'⟩
  ·rw [hf] at hr; cases hr
  have hrunT := runT_crowd_go (P := P) (sl := sl) (i := i) hi (by rw [hi0]; exact hstp w)
  have hsum : sumTo gs.size (upd q i kq) + (kq + 1) = sumTo gs.size q + kq := by
   have := sumTo_upd q kq id hlt
   simpa [hqi] using this
  refine ⟨g', es, kq, rfl, hm, hrunT, ⟨fun j y hj hy => ?_, fun j hj => ?_⟩, by omega, ?_, by simp⟩
  ·by_cases hji : i = j
   ·subst hji
    rw [Array.getElem?_setIfInBounds_self_of_lt (by simpa using hlt)] at hy
    obtain rfl := Option.some.inj hy
    rw [upd_same, Deaf_own]
    exact hq'
   ·rw [Array.getElem?_setIfInBounds_ne hji, Array.getElem?_map] at hy
    obtain ⟨z, hz, rfl⟩ := Option.map_eq_some_iff.1 hy
    have hqj := h.old j z hj hz
    rw [woken_quitsD hqj, upd_ne q kq (Ne.symm hji), Deaf_other t hji _ (fun op hop => by obtain ⟨e, _, rfl⟩ := Go.Conc.mem_ofEvents hop; rfl)]
    exact hqj
  ·rw [Deaf_other t (g' := i) (by simp at hj; omega) _ (fun op hop => by obtain ⟨e, _, rfl⟩ := Go.Conc.mem_ofEvents hop; rfl)]
   exact h.above j (by simpa using hj)
  ·rw [Array.getElem?_setIfInBounds_ne h0, Array.getElem?_map, ha]
   simp [woken_run har]
theorem qmy {t : Trace} {gs : Array Goroutine} {q : Nat → Nat} (hL : Leavers P t gs q) {a : Goroutine} (h0 : gs[0]? = some a) (hr : a.status = .running) : ∀ x ∈ gs, awake x := by
 intro x hx
 obtain ⟨i, hi, rfl⟩ := Array.mem_iff_getElem.1 hx
 rcases Nat.eq_zero_or_pos i with rfl | hpos
 ·have : gs[0] = a := by simpa [Array.getElem?_eq_getElem hi] using h0
  rw [this]; exact awake_of (.inl hr)
 ·exact awake_of ((hL.old i _ hpos (Array.getElem?_eq_getElem hi)).status.elim .inl fun x => .inr (.inr x))
theorem Go0.fork {K : Cfg} {z : Value} {Fin : Goroutine → World → Prop} {vs : List Value} {g' child : Goroutine} {tm : Bool}
  (hs : ∀ τ d, stepG P true g (Ride.re w τ d) = .spawn g' child (Ride.re w τ d) #[]) (hc : w.heap[K.c]? = some (.chan K.cap #[] false 0 0 tm))
  (hA : ∀ τ d, Recvs K P z Fin vs g' (Ride.re w τ d)) (hB : ∀ τ d, Sends K P vs child (Ride.re w τ d)) (hJ : qe2 K) (hF : ∀ g' w', Fin g' w' → K.J w' → okG g' ∧ Go0 P F g' w') : Go0 P F g w := by
 intro hk hrun τ d gs sl t q
 -- leavers may slip first
 suffices H : ∀ (M : Nat) (d : Nat) (gs : Array Goroutine) (sl : Option (Nat × Nat)) (t : Trace) (q : Nat → Nat), sumTo gs.size q ≤ M → gs[0]? = some g → Leavers P t gs q → Past0 t →
   ∃ (N : Nat) (gs' : Array Goroutine) (a' : Goroutine) (w' : World) (sl' : Option (Nat × Nat)) (t' : Trace) (q' : Nat → Nat),
    runNT P N (crowd gs (Ride.re w τ d) sl) t = (.next (crowd gs' w' sl'), t') ∧ gs'[0]? = some a' ∧ okG a' ∧ a'.status = .running ∧ (∃ τ' d', F a' (Ride.re w' τ' d')) ∧ w'.tape = τ ∧ Leavers P t' gs' q' ∧ Past0 t' from
  fun h0 hL hP => H _ d gs sl t q (Nat.le_refl _) h0 hL hP
 intro M
 induction M using Nat.strongRecOn with
 | _ M ih =>
 intro d gs sl t q hM h0 hL hP
 obtain ⟨i, x, d', sl', hi, hx, hst⟩ := crowd_pick (P := P) (w := Ride.re w τ d) (sl := sl) (qmy hL h0 hrun) ⟨0, g, h0, hrun⟩
 have ed : (Ride.re w τ d).at d' = Ride.re w τ d' := rfl
 rw [ed] at hst
 by_cases hi0 : i = 0
 ·subst hi0
  obtain rfl : x = g := by rw [h0] at hi; exact (Option.some.inj hi).symm
  have hsp := runT_crowd_spawn (P := P) (sl := sl') (i := 0) h0 (show stepG P (0 == 0) x (Ride.re w τ d') = _ from hs τ d')
  have hlt : 0 < gs.size := (Array.getElem?_eq_some_iff.1 h0).1
  have hk0 : gs.size ≠ 0 := by omega
  generalize hx1 : ({ g := 0, fn := x.frame.fn, pos := x.frame.place, act := .go gs.size } : MemOp) = op1 at hsp
  generalize hx2 : ({ g := gs.size, fn := child.frame.fn, pos := x.frame.place, act := .start } : MemOp) = op2 at hsp
  have hops : (((MemOp.ofEvents 0 x.frame.fn x.frame.place #[]).push op1).push op2) = #[op1, op2] := rfl
  rw [hops] at hsp
  have g0 : ((gs.setIfInBounds 0 g').push child)[0]? = some g' := by
   rw [Array.getElem?_push_lt (by simpa using hlt)]; simp
  have gk : ((gs.setIfInBounds 0 g').push child)[gs.size]? = some child := by
   have : gs.size = (gs.setIfInBounds 0 g').size := by simp
   rw [this, Array.getElem?_push_size]
  have hO : Oth P gs.size (t ++ #[op1, op2]) ((gs.setIfInBounds 0 g').push child) q := by
   refine ⟨fun j y hj hjk hy => ?_, fun j hj => ?_⟩
   ·have hjl : j < gs.size := by
     have := (Array.getElem?_eq_some_iff.1 hy).1
     simp at this
     omega
    rw [Array.getElem?_push_lt (by simpa using hjl)] at hy
    have hy' : gs[j]? = some y := by
     rw [← hy, ← Array.getElem?_eq_getElem (by simpa using hjl), Array.getElem?_setIfInBounds_ne (Ne.symm hj)]
    rw [qck fun op hop => by
     simp at hop
     rcases hop with rfl | rfl
     ·rw [← hx1]; show (0 : Nat) ≠ j; omega
     ·rw [← hx2]; show gs.size ≠ j; omega]
    exact hL.old j y (by omega) hy'
   ·simp at hj
    rw [qck fun op hop => by
     simp at hop
     rcases hop with rfl | rfl
     ·rw [← hx1]; show (0 : Nat) ≠ j; omega
     ·rw [← hx2]; show gs.size ≠ j; omega]
    exact hL.above j (by omega)
  have hPT : PT gs.size K.c (t ++ #[op1, op2]).size (MB K (Ride.re w τ d')) (Ride.re w τ d').heap.size (t ++ #[op1, op2]) :=
   PT.begin hP (hL.above gs.size (Nat.le_refl _)) hk0 (by rw [← hx1]; exact ⟨rfl, rfl⟩) (by rw [← hx2]; exact ⟨rfl, rfl⟩)
  obtain ⟨na, hna⟩ := (recvs_iff K P z Fin _ _ _).1 (hA τ d')
  obtain ⟨nb, hnb⟩ := (sends_iff K P _ _ _).1 (hB τ d')
  obtain ⟨N, gs', w', sl'', t', e1, e2, e3, a', q', e4, e5, e6, ej, e7, e8⟩ := qw5 (K := K) (z := z) (Fin := Fin) (n0 := (t ++ #[op1, op2]).size) hJ hk0 _ _ ((gs.setIfInBounds 0 g').push child) (Ride.re w τ d') sl' (t ++ #[op1, op2])
   (.inl ⟨g', child, vs, vs, na + 1, nb + 1, q, #[], 0, 0, tm, g0, gk, hO, hc, by simp, .inl ⟨na, rfl, hna⟩, .inl ⟨nb, rfl, hnb⟩, fun h => by omega, fun h => by omega, by simp, hPT, rfl, rfl⟩)
  obtain ⟨hok, hgo⟩ := hF a' w' e6 ej
  obtain ⟨N2, gs2, a2, w2, sl2, t2, q2, f1, f2, f3, f4, f5, f6, f7, f8⟩ := hgo hok e5 w'.tape w'.drawn gs' sl'' t' q' e4 e7 e8
  refine ⟨N + N2 + 1, gs2, a2, w2, sl2, t2, q2, ?_, f2, f3, f4, f5, f6.trans e3, f7, f8⟩
  simp only [runNT, hst, hsp]
  rw [runNT_add, e1]
  exact f1
 ·obtain ⟨g₁, es, kq, hq, hm, hr, hL', hlt, h0', hsz⟩ := qmx (w := Ride.re w τ d') (sl := sl') hL hi0 hi hx h0 hrun
  obtain ⟨N, gs', a', w', sl'', t', q', f1, f2⟩ := ih _ (Nat.lt_of_lt_of_le hlt hM) d' ((gs.map (woken P x g₁ (Ride.re w τ d'))).setIfInBounds i g₁) sl' _ (upd q i kq) (by rw [hsz]; exact Nat.le_refl _) h0' hL' (hP.mute hi0 hm)
  exact ⟨N + 1, gs', a', w', sl'', t', q', by simp only [runNT, hst, hr]; exact f1, f2⟩
/-! ### the run's end -/
def AtRet (P : Program) (Post : Value → World → Prop) (g : Goroutine) (w : World) : Prop := ∀ τ d, ∃ v, stepG P true g (Ride.re w τ d) = .ended (.done v) (Ride.re w τ d) #[] ∧ ∃ τ' d', Post v (Ride.re w τ' d')
theorem Go0.run (hM : Mild P) {Post : Value → World → Prop} (h : Go0 P (AtRet P Post) g w) (hk : okG g) (hr : g.status = .running) :
  ∃ N last o w' t', runNT P (N + 1) (solo g w) #[] = (.ended o w', t') ∧ runN P N (solo g w) = .next last ∧ Go.step P last = .ended o w' ∧ Go.Conc.Good P (fun v W => W.tape = w.tape ∧ ∃ τ d, Post v (Ride.re W τ d)) last o w' t' := by
 obtain ⟨N, gs', a', w', sl', t', q', e1, e2, e3, e4, ⟨τ, d, e5⟩, e6, e7, ⟨B, e8⟩⟩ := h hk hr w.tape w.drawn #[g] none #[] (fun _ => 0) rfl (leavers_one P g) ⟨0, past_nil⟩
 obtain ⟨N2, last, o, w2, t2, f1, f2, f3, f4⟩ := beside_ends (P := P) (Shun := fun _ => False) (B := B) (D := fun _ _ _ => False) (Post := fun v W => W.tape = w.tape ∧ ∃ τ d, Post v (Ride.re W τ d)) (fun _ _ _ h => h.elim) (n := 0) (sl := sl') e2 e7 e8 (fun w₁ hw₁ => by
  obtain ⟨dd, rfl⟩ := hw₁
  obtain ⟨v, hv, τ', d', hp⟩ := e5 w'.tape dd
  have ew : Ride.re (Ride.re w' τ d) w'.tape dd = w'.at dd := rfl
  rw [ew] at hv
  exact ⟨e4, v, #[], hv, by simp, e6, τ', d', hp⟩)
 have e1' : runNT P N (solo g w) #[] = (.next (crowd gs' w' sl'), t') := e1
 refine ⟨N + N2, last, o, w2, t2, ?_, ?_, f3, f4⟩
 ·rw [Nat.add_assoc, runNT_add, e1']; exact f1
 ·rw [runN_add, ← runNT_fst P _ _ #[], e1']; exact f2
end
end Go.Ride

/- Goroutine 0 at the call's return; from its way to the row's contract. -/
namespace Go.Ride
open Go.Conc Go.Pip
section
variable {P : Program}
theorem qv9 {Post : Value → World → Prop} {b : Frame} {a : Act} {todo : List Item} {fn : Func} {t : Tmp} {w : World} (hb : b.kind = .normal) (ha : a.defers = []) (hf : P.funcs[b.fn]? = some fn) (hin : P.inits.idxOf? b.fn = none) (hr : fn.results = #[.tmp t]) (hp : Post (a.tmps.getD t undef) w) :
  AtRet P Post (G { b.at a todo with mode := .returning } []) w := by
 intro τ d
 refine ⟨a.tmps.getD t undef, ?_, w.tape, w.drawn, hp⟩
 have h1 := results_tmp hr a.tmps P (Ride.re w τ d)
 have h2 : (results fn a.tmps).events P (Ride.re w τ d) #[] = #[] := events_results_tmp hr _ _
 simp [G, stepG, unwind, doReturn, Frame.at, hb, ha, hf, h1, h2, seen, GStep.after, hin]
theorem qwa {f : FuncId} {fn : Func} {c : Code} {args : Array Value} (hf : P.funcs[f]? = some fn) (hb : fn.body = some c) : okG (G (Frame.enter P f args .normal) []) := by
 rw [enter_at _ hf hb]
 refine ⟨fun i hi => ?_, fun fr h => by cases h⟩
 change i ∈ [Item.code c] at hi
 rw [List.mem_singleton] at hi
 rw [hi]
 trivial
end
section
variable {H : Type} {enc : TypeId × Value → H}
theorem returnsInLeavingWide_of_go0 {a : Assume} {C : Checked} {os : Os} {f : FuncId} {fn : Func} {c : Code} {s : ChangeSpec} {conds : List PathCond} {apart fresh handsOn again : Bool} {X : World → Array Value → Prop}
  (hX : ∀ (w w' : World) (args : Array Value), w.heap = w'.heap → X w args → X w' args)
  (hM : Mild C.prog) (own : ownKnob C.prog.godebug = none) (started : os.Started) (hfn : C.prog.funcs[f]? = some fn) (hbody : fn.body = some c)
  (witness : ∃ (w : World) (tape : Tape) (i : Input), w.os = os ∧ (w.forCall tape i).Shaped C.prog ∧ i.vars = [] ∧ Input.okWide C.prog (w.forCall tape i) .any w.heap.size f i ∧
   ((s.pre enc C.prog fn conds apart (w.forCall tape i).memory i.args ∧ X (w.forCall tape i).memory i.args) ∧ sizedMet enc C.prog fn (OpenSpec.ofChange s) apart (w.forCall tape i).memory i.args) ∧ a.holds C.prog (lone (Frame.enter C.prog f i.args .normal) [] (w.forCall tape i)))
  (runs : ∀ (W : World) (base : Nat) (args : Array Value) (ds gs : List (DataW H)) (before : List MemPlace),
   (∀ (j : Nat) t v, fn.params[j]? = some t → args[j]? = some v → Value.okWide C.prog W .any base t v) →
   DataW.Whole enc C.prog fn.params.toList s.vars apart W args.toList ds gs before →
   conds.all (PathCond.test C.prog ⟨fn.params.toList, ds, s.plain.varTypes C.prog, gs⟩) = true →
   (DataW.weightsEach C.prog (fn.params.toList ++ s.plain.varTypes C.prog) (ds ++ gs)).all (· ≤ reachBytes) = true → X W args →
   a.holds C.prog (lone (Frame.enter C.prog f args .normal) [] W) →
   ∃ P0 : Value → World → Prop, Go0 C.prog (AtRet C.prog P0) (G (Frame.enter C.prog f args .normal) []) W ∧ ∀ v W', W'.tape = W.tape → (∃ τ d, P0 v (Ride.re W' τ d)) → s.post enc C.prog fn apart fresh handsOn again W args v W') :
  ReturnsInLeavingWide a C os f .any (fun w args => (s.pre enc C.prog fn conds apart w args ∧ X w args) ∧ sizedMet enc C.prog fn (OpenSpec.ofChange s) apart w args) (s.post enc C.prog fn apart fresh handsOn again) := by
 refine returnsInLeavingWide_of_good own started witness ?_
 intro w tape i _ _ _ hok hpre hholds
 obtain ⟨_, _, _, fn', hfn', _, _, _, _, hval⟩ := hok
 have e : fn' = fn := Option.some.inj (hfn'.symm.trans hfn)
 subst e
 obtain ⟨⟨⟨ds, gs, before, hw, hc⟩, hx⟩, hz⟩ := hpre
 have hw' := DataW.Whole.of_heap (w' := w.forCall tape i) (by rfl) hw
 obtain ⟨P0, hgo, hpost⟩ := runs (w.forCall tape i) w.heap.size i.args ds gs before hval hw' hc (hz.weights hw) (hX _ _ _ (by rfl) hx) hholds
 obtain ⟨N, last, o, w', t', h1, h2, h3, h4⟩ := Go0.run hM hgo (qwa hfn hbody) rfl
 exact ⟨N, last, o, w', t', h1, h2, h3, h4.mono fun v hp => ChangeSpec.post_blind (hpost v w' hp.1 hp.2)⟩
end
end Go.Ride
