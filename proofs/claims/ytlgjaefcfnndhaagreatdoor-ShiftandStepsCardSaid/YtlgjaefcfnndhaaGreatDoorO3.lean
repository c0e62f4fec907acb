import Derived.Test.YtlgjaefcfnndhaaGreatDoorO2
import GoSem.Machine.Early
set_option linter.unusedVariables false
set_option linter.unusedSimpArgs false
set_option maxHeartbeats 16000000
namespace Go.Ride

/-! ### what the trace keeps of the entries -/
def qb5 (e : Event) : Prop := ∀ m, e.loc = .mark m → e.sync = true
theorem qc4 {es : Array Event} {e : Event} (h : ∀ x ∈ es, qb5 x) (he : qb5 e) : ∀ x ∈ es.push e, qb5 x := by
  intro x hx
  rcases Array.mem_push.1 hx with hx | rfl
  · exact h x hx
  · exact he
theorem qhk {es : Array Event} (l : List Addr) (a b : Bool) (h : ∀ x ∈ es, qb5 x) : ∀ x ∈ es ++ l.toArray.map (fun c => (⟨.cell c, a, b⟩ : Event)), qb5 x := by
  intro x hx
  rcases Array.mem_append.1 hx with hx | hx
  · exact h x hx
  · obtain ⟨y, _, rfl⟩ := Array.mem_map.1 hx
    intro m hm; cases hm
theorem qav {P : Program} {α : Type} : ∀ (s : Sem α) (w : World) (es : Array Event), (∀ e ∈ es, qb5 e) → ∀ e ∈ (s.runT P w es).2, qb5 e
  | .pure a, w, es, h => h
  | .new o f, w, es, h => by simp only [Sem.runT]; exact qav _ _ _ h
  | .shape a f, w, es, h => by simp only [Sem.runT]; exact qav _ _ _ h
  | .freeze a m f, w, es, h => by simp only [Sem.runT]; exact qav _ _ _ h
  | .frozen a f, w, es, h => by simp only [Sem.runT]; exact qav _ _ _ h
  | .program f, w, es, h => by simp only [Sem.runT]; exact qav _ _ _ h
  | .mark m f, w, es, h => by simp only [Sem.runT]; exact qav _ _ _ (qc4 h fun _ _ => rfl)
  | .halt x, w, es, h => h
  | .choose q f, w, es, h => by
    simp only [Sem.runT]
    split <;> exact qav _ _ _ h
  | .getObj a f, w, es, h => by
    rw [Sem.runT.eq_def]
    dsimp only
    split <;> first | exact h | exact qav _ _ _ (qc4 h fun m hm => by cases hm)
  | .setObj a o f, w, es, h => by
    rw [Sem.runT.eq_def]
    dsimp only
    split <;> first | exact h | exact qav _ _ _ (qc4 h fun m hm => by cases hm)
  | .sys c f, w, es, h => by simp only [Sem.runT]; exact qav _ _ _ (qc4 h fun m hm => by cases hm)
  | .load m a f, w, es, h => by
    rw [Sem.runT.eq_def]
    dsimp only
    split
    · exact qav _ _ _ (qc4 h fun m hm => by cases hm)
    · split
      · exact qav _ _ _ (qhk _ _ _ h)
      · exact h
  | .store m a v f, w, es, h => by
    cases v <;> simp only [Sem.runT] <;> first
      | exact h
      | (split
         · split
           · exact h
           · exact qav _ _ _ (qc4 h fun m hm => by cases hm)
         · split
           · exact qav _ _ _ (qhk _ _ _ h)
           · exact h)
theorem qhl (P : Program) : ∀ (l : List Event) (q : Bool) (kept : Array Event) (d : Nat), (∀ e ∈ l, qb5 e) →
    deafBehind d (l.foldl (init := (q, kept)) fun (q, kept) e =>
      match e.loc with
      | .mark (.extern f) => ((P.funcs[f]?).any (·.norace), kept)
      | _ => (q, if q && !e.sync then kept else kept.push e)).2 = deafBehind (deafBehind d kept) l.toArray
  | [], q, kept, d, h => rfl
  | e :: l, q, kept, d, h => by
    have hl : ∀ x ∈ l, qb5 x := fun x hx => h x (List.mem_cons_of_mem _ hx)
    have he := h e (List.mem_cons_self ..)
    have e1 : (e :: l).toArray = #[e] ++ l.toArray := by simp
    rw [e1, qe0]
    simp only [List.foldl_cons]
    have pushed : deafBehind d (kept.push e) = deafBehind (deafBehind d kept) #[e] := by rw [Array.push_eq_append, qe0]
    obtain ⟨loc, wr, sy⟩ := e
    cases loc with
    | mark m =>
      have hs : sy = true := he m rfl
      subst hs
      cases m <;> (dsimp only; rw [qhl P l _ _ _ hl]) <;> first | (rw [qdo (by simp) (by simp)]; done) | (simp only [Bool.not_true, Bool.and_false, Bool.false_eq_true, if_false]; rw [pushed])
    | _ =>
      dsimp only
      rw [qhl P l _ _ _ hl, qdo (by simp) (by simp)]
      split
      · rfl
      · rw [pushed, qdo (by simp) (by simp)]
theorem qpa (P : Program) (fn : FuncId) {es : Array Event} (h : ∀ e ∈ es, qb5 e) (d : Nat) : deafBehind d (seen P fn es) = deafBehind d es := by
  unfold seen
  dsimp only
  rw [← Array.foldl_toList]
  refine (qhl P es.toList _ _ d (fun e he => h e (Array.mem_toList_iff.1 he))).trans ?_
  simp [deafBehind]

/-! ### one step of a goroutine -/
def _root_.Go.GStep.re (τ : Nat → Question → Nat) (d : Nat) : GStep → GStep
  | .go g w es => .go g (Ride.re w τ d) es
  | .comm g c b sh w es => .comm g c b sh (Ride.re w τ d) es
  | .spawn g c w es => .spawn g c (Ride.re w τ d) es
  | .count g w es => .count g (Ride.re w τ d) es
  | .timer g o w es => .timer g o (Ride.re w τ d) es
  | .alone g o w es => .alone g o (Ride.re w τ d) es
  | .newcoro g c x w es => .newcoro g c x (Ride.re w τ d) es
  | .coroswitch g c e w es => .coroswitch g c e (Ride.re w τ d) es
  | .collect g w es => .collect g (Ride.re w τ d) es
  | .watch g w es => .watch g (Ride.re w τ d) es
  | .ended o w es => .ended o (Ride.re w τ d) es
def _root_.Go.GStep.at_ : GStep → World
  | .go _ w _ => w
  | .comm _ _ _ _ w _ => w
  | .spawn _ _ w _ => w
  | .count _ w _ => w
  | .timer _ _ w _ => w
  | .alone _ _ w _ => w
  | .newcoro _ _ _ w _ => w
  | .coroswitch _ _ _ w _ => w
  | .collect _ w _ => w
  | .watch _ w _ => w
  | .ended _ w _ => w
theorem qvd (τ : Nat → Question → Nat) (d : Nat) (es : Array Event) (s : GStep) : (s.after es).re τ d = (s.re τ d).after es := by cases s <;> rfl
theorem qmf (es : Array Event) (s : GStep) : (s.after es).at_ = s.at_ := by cases s <;> rfl
theorem qve (es : Array Event) (s : GStep) : (s.after es).es = es ++ s.es := by cases s <;> rfl

def qcx : Item → Prop
  | .call _ _ _ _ => False
  | .extern r _ => r = "runtime.print$piece"
  | _ => True
def okFrame (fr : Frame) : Prop := ∀ i ∈ fr.todo, qcx i
def okG (g : Goroutine) : Prop := okFrame g.frame ∧ ∀ fr ∈ g.callers, okFrame fr

def okSt : GoStatus → Prop
  | .running | .blocked | .finished => True
  | _ => False

def qs3 : GStep → Prop
  | .go g _ _ => okG g ∧ okSt g.status
  | .comm g _ _ _ _ _ => okG g ∧ g.status = .running
  | .spawn _ _ _ _ => True
  | .coroswitch g _ e _ _ => okG g ∧ e = true
  | .ended _ _ _ => True
  | _ => False
def qbx : GStep → Prop
  | .ended _ _ _ => True
  | _ => False

def qah (F : World → GStep) (w : World) : Prop :=
  qbx (F w) ∨ ∃ n, (F w).at_.tape = w.tape ∧ (F w).at_.drawn = w.drawn + n ∧ (∀ d, deafBehind d (F w).es = d) ∧ qs3 (F w) ∧ ∀ τ d, Agree w n τ d → F (re w τ d) = (F w).re τ (d + n)

theorem qmg {F : World → GStep} {w : World} {o : Outcome} {w' : World} {es : Array Event} (h : F w = .ended o w' es) : qah F w := .inl (by rw [h]; trivial)
theorem qbp {F : World → GStep} {w : World} (ht : (F w).at_.tape = w.tape) (hd : (F w).at_.drawn = w.drawn) (he : (F w).es = #[]) (hk : qs3 (F w)) (hs : ∀ τ d, F (re w τ d) = (F w).re τ d) : qah F w :=
  .inr ⟨0, ht, hd, fun d => by rw [he]; rfl, hk, fun τ d _ => hs τ d⟩

inductive Tag (α : Type)
  | ok (a : α)
  | halt (h : Halt)
def tag {α : Type} : Result α → Tag α
  | .ok a _ => .ok a
  | .halt h _ => .halt h
theorem qpb {α : Type} (τ : Nat → Question → Nat) (d : Nat) (r : Result α) : tag (rer τ d r) = tag r := by cases r <;> rfl
theorem qy2 {α : Type} (τ : Nat → Question → Nat) (d : Nat) (r : Result α) : rw_ (rer τ d r) = re (rw_ r) τ d := by cases r <;> rfl

theorem qim {w w' : World} {n m : Nat} {τ : Nat → Question → Nat} {d : Nat} (h : Agree w (n + m) τ d) (ht : w'.tape = w.tape) (hd : w'.drawn = w.drawn + n) : Agree w n τ d ∧ Agree w' m τ (d + n) :=
  ⟨fun i hi q => h i (by omega) q, fun i hi q => by rw [ht, hd, Nat.add_assoc, Nat.add_assoc]; exact h (n + i) (by omega) q⟩

theorem qcs {P : Program} {α : Type} {s : Sem α} {Q : α → Nat → Prop} {F : World → GStep} {w : World} {E : Tag α → Array Event → Array Event} {post : Tag α → World → GStep}
    (hs : tame P s 0 Q) (hF' : ∀ w, F w = GStep.after (E (tag (s.runT P w #[]).1) (s.runT P w #[]).2) (post (tag (s.runT P w #[]).1) (rw_ (s.runT P w #[]).1)) ∨ (qbx (F w) ∧ ∀ w', qbx (post (tag (s.runT P w #[]).1) w')))
    (hE : ∀ t es, (∀ e ∈ es, qb5 e) → (∀ d, deafBehind d es = d) → ∀ d, deafBehind d (E t es) = d)
    (hush_ : ∀ h es, hush h = true → ends h = false → (∀ w, qbx (post (.halt h) w)) ∨ ∀ d, deafBehind d (E (.halt h) es) = d)
    (hend : ∀ h w, ends h = true → qbx (post (.halt h) w))
    (hok : ∀ a w, Q a 0 → qah (post (.ok a)) w) (hhalt : ∀ h w, h ≠ .waiting → h ≠ .goexit → ends h = false → qah (post (.halt h)) w) (hQ : ∀ a k, Q a k → k = 0) : qah F w := by
  obtain ⟨n, u, R⟩ := qa3 s 0 Q w #[] hs
  have hes : (s.runT P w #[]).2 = u := by rw [R.listed]; simp
  have hmk : ∀ e ∈ u, qb5 e := by rw [← hes]; exact qav s w #[] (by simp)
  by_cases hx : qbx (post (tag (s.runT P w #[]).1) (rw_ (s.runT P w #[]).1))
  · refine .inl ?_
    rcases hF' w with hF | ⟨h, _⟩
    · rw [hF]
      revert hx
      cases post (tag (s.runT P w #[]).1) (rw_ (s.runT P w #[]).1) <;> exact id
    · exact h
  have hF : F w = GStep.after (E (tag (s.runT P w #[]).1) (s.runT P w #[]).2) (post (tag (s.runT P w #[]).1) (rw_ (s.runT P w #[]).1)) := (hF' w).resolve_right fun h => hx (h.2 _)
  have hnot : ∀ h w', (s.runT P w #[]).1 = .halt h w' → ends h = false := fun h w' hr => by
    cases he : ends h with
    | false => rfl
    | true => exact absurd (by rw [hr]; exact hend h _ he) hx
  -- the entries that are kept
  have hdE : ∀ d, deafBehind d (E (tag (s.runT P w #[]).1) (s.runT P w #[]).2) = d := by
    rw [hes]
    cases hr : (s.runT P w #[]).1 with
    | ok a w' =>
      obtain ⟨k', hq, hb⟩ := R.ok a w' hr
      obtain rfl := hQ _ _ hq
      exact hE _ _ hmk (fun d => by simpa using hb d)
    | halt h w' =>
      obtain ⟨_, _, h3⟩ := R.halt h w' hr
      rcases h3 with h3 | h3
      · rcases hush_ h u h3 (hnot h w' hr) with h4 | h4
        · exact absurd (by rw [hr]; exact h4 _) hx
        · exact h4
      · exact hE _ _ hmk (fun d => by simpa using h3 d)
  have hpost : qah (post (tag (s.runT P w #[]).1)) (rw_ (s.runT P w #[]).1) := by
    cases hr : (s.runT P w #[]).1 with
    | ok a w' =>
      obtain ⟨k', hq, hb⟩ := R.ok a w' hr
      obtain rfl := hQ _ _ hq
      exact hok a _ hq
    | halt h w' =>
      obtain ⟨h1, h2, _⟩ := R.halt h w' hr
      exact hhalt h _ h1 h2 (hnot h w' hr)
  rcases hpost with hp | ⟨m, p1, p2, p3, p4, p5⟩
  · refine .inl ?_
    rw [hF]
    revert hp
    cases post (tag (s.runT P w #[]).1) (rw_ (s.runT P w #[]).1) <;> exact id
  · refine .inr ⟨n + m, by rw [hF, qmf, p1, R.tape], by rw [hF, qmf, p2, R.drawn, Nat.add_assoc], fun d => by rw [hF, qve, qe0, hdE, p3], ?_, fun τ d hA => ?_⟩
    · rw [hF]
      revert p4
      cases post (tag (s.runT P w #[]).1) (rw_ (s.runT P w #[]).1) <;> exact id
    · obtain ⟨A1, A2⟩ := qim hA R.tape R.drawn
      have e1 := R.same hnot τ d A1
      have hF2 := (hF' (re w τ d)).resolve_right fun h => by
        have := h.2 (rw_ (s.runT P w #[]).1)
        rw [e1] at this
        dsimp only at this
        rw [qpb] at this
        exact hx this
      rw [hF2, e1]
      dsimp only
      rw [qpb, qy2, p5 τ (d + n) A2, hF, qvd, Nat.add_assoc]
end Go.Ride

/- One step of a goroutine, whatever it stands at, is steady: it ends the run, or takes some draws, leaves the deafness, and another tape that answers alike gives the same. -/
namespace Go.Ride

section
variable {P : Program} {w : World}

/-! ### what stays fine of the frames -/
theorem okFrame.finish {fr : Frame} (h : okFrame fr) (v : Value) : okFrame (fr.finish v) := by
  unfold okFrame at h ⊢
  unfold Frame.finish
  split
  · rename_i ops i rest k e
    intro x hx
    rcases List.mem_cons.1 hx with rfl | hx
    · trivial
    · exact h x (by rw [e]; exact List.mem_cons_of_mem _ hx)
  · rename_i l k e
    intro x hx
    rcases List.mem_cons.1 hx with rfl | hx
    · trivial
    · exact h x (by rw [e]; exact List.mem_cons_of_mem _ hx)
  · rename_i k e
    exact fun x hx => h x (by rw [e]; exact List.mem_cons_of_mem _ hx)
  · rename_i d a b c k e
    exact (h (.call d a b c) (by rw [e]; exact List.mem_cons_self ..)).elim
  · rename_i k e
    exact fun x hx => h x (by rw [e]; exact List.mem_cons_of_mem _ hx)
  · exact h
theorem okFrame.raise {fr : Frame} (h : okFrame fr) (vs : List PanicEntry) : okFrame (fr.raise vs) := by
  unfold Frame.raise
  split <;> exact h
theorem okFrame.mode {fr : Frame} (h : okFrame fr) (m : FrameMode) : okFrame { fr with mode := m } := h
theorem okFrame.enter (f : FuncId) (args : Array Value) (k : CallKind) : okFrame (Frame.enter P f args k) := by
  intro i hi
  simp only [Frame.enter, List.mem_singleton] at hi
  subst hi; trivial
theorem okFrame.round (l : Nat) (f : FuncId) (tmps : Array Value) (x y : Code) (k : CallKind) : okFrame (Frame.round l f tmps x y k) := by
  intro i hi
  simp only [Frame.round, List.mem_cons, List.not_mem_nil, or_false] at hi
  rcases hi with rfl | rfl | rfl <;> trivial
theorem okFrame.ofRow {r : String} (h : r = "runtime.print$piece") (args : Array Value) (k : CallKind) : okFrame (Frame.ofRow P r args k) := by
  intro i hi
  simp only [Frame.ofRow, List.mem_singleton] at hi
  subst hi; exact h
theorem okFrame.tail {fr : Frame} (h : okFrame fr) {i : Item} {k : List Item} (e : fr.todo = i :: k) : ∀ x ∈ k, qcx x := fun x hx => h x (by rw [e]; exact List.mem_cons_of_mem _ hx)
theorem qhm (id : Nat) : ∀ (k k' : List Item), (∀ x ∈ k, qcx x) → exitTo id k = some k' → ∀ x ∈ k', qcx x
  | [], k', h, e => by simp [exitTo] at e
  | i :: k, k', h, e => by
    have ht : ∀ x ∈ k, qcx x := fun x hx => h x (List.mem_cons_of_mem _ hx)
    cases i <;> simp only [exitTo] at e <;> first
      | exact qhm id k k' ht e
      | (split at e
         · cases e; exact ht
         · exact qhm id k k' ht e)
theorem qhn (l : Nat) : ∀ (k k' : List Item), (∀ x ∈ k, qcx x) → gotoIn l k = some k' → ∀ x ∈ k', qcx x
  | [], k', h, e => by simp [gotoIn] at e
  | i :: k, k', h, e => by
    have ht : ∀ x ∈ k, qcx x := fun x hx => h x (List.mem_cons_of_mem _ hx)
    cases i <;> simp only [gotoIn] at e <;> first
      | exact qhn l k k' ht e
      | (split at e
         · cases e
           intro x hx
           rcases List.mem_cons.1 hx with rfl | hx
           · trivial
           · rcases List.mem_cons.1 hx with rfl | hx
             · trivial
             · exact ht x hx
         · exact qhn l k k' ht e)
theorem qcy : ∀ (cs : List Frame) (fr : Frame) (v : Value) (cs' : List Frame), (∀ c ∈ cs, okFrame c) → tryRecover fr cs = some (v, cs') → ∀ c ∈ cs', okFrame c
  | [], fr, v, cs', h, e => by unfold tryRecover at e; split at e <;> simp_all
  | c :: cs, fr, v, cs', h, e => by
    have hc : okFrame c := h c (List.mem_cons_self ..)
    have ht : ∀ x ∈ cs, okFrame x := fun x hx => h x (List.mem_cons_of_mem _ hx)
    unfold tryRecover at e
    split at e
    · rename_i heq
      cases heq
      split at e
      · cases e
        intro x hx
        rcases List.mem_cons.1 hx with rfl | hx
        · exact hc
        · exact ht x hx
      · cases e
    · rename_i heq
      cases heq
      obtain ⟨⟨v1, r1⟩, h1, h2⟩ := Option.map_eq_some_iff.1 e
      cases h2
      intro x hx
      rcases List.mem_cons.1 hx with rfl | hx
      · exact hc
      · exact qcy cs c _ _ ht h1 x hx
    · cases e
theorem qcl : ∀ (cs : List Frame) (l : Nat) (v : Value) (cs' : List Frame), (∀ c ∈ cs, okFrame c) → tryRecoverLoop l cs = some (v, cs') → ∀ c ∈ cs', okFrame c
  | [], l, v, cs', h, e => by simp [tryRecoverLoop] at e
  | fr :: cs, l, v, cs', h, e => by
    have hc : okFrame fr := h fr (List.mem_cons_self ..)
    have ht : ∀ x ∈ cs, okFrame x := fun x hx => h x (List.mem_cons_of_mem _ hx)
    unfold tryRecoverLoop at e
    obtain ⟨⟨v1, r1⟩, h1, h2⟩ := Option.map_eq_some_iff.1 e
    cases h2
    have hr1 : ∀ x ∈ r1, okFrame x := by
      split at h1
      · exact qcl cs _ _ _ ht h1
      · split at h1
        · exact qcy cs fr _ _ ht h1
        · exact qcl cs _ _ _ ht h1
      · exact qcl cs _ _ _ ht h1
    intro x hx
    rcases List.mem_cons.1 hx with rfl | hx
    · exact hc
    · exact hr1 x hx

/-! ### the small ways -/
theorem qk7 {F : World → GStep} {g : World → Goroutine} (hF : ∀ w, F w = .go (g w) w #[]) (hg : ∀ τ d, g (re w τ d) = g w) (hk : okG (g w)) (hs : okSt (g w).status := by trivial) : qah F w :=
  qbp (by rw [hF]; rfl) (by rw [hF]; rfl) (by rw [hF]; rfl) (by rw [hF]; exact ⟨hk, hs⟩) (fun τ d => by rw [hF, hF, hg]; rfl)
theorem qad {g : Goroutine} (hk : okG g) (hs : okSt g.status := by trivial) : qah (fun w => .go g w #[]) w := qk7 (fun _ => rfl) (fun _ _ => rfl) hk hs
theorem qag {o : World → Outcome} {es : World → Array Event} {v : World → World} : qah (fun w => .ended (o w) (v w) (es w)) w := qmg rfl

/-! ### the return -/
theorem qdp {fr : Frame} {cs : List Frame} {dying : Option Dying} {v : Value} (hfr : okFrame fr) (hcs : ∀ c ∈ cs, okFrame c) : qah (fun w => doReturn P true fr cs dying v w) w := by
  cases cs with
  | cons c rest =>
    have hc : okFrame c := hcs c (List.mem_cons_self ..)
    have ht : ∀ x ∈ rest, okFrame x := fun x hx => hcs x (List.mem_cons_of_mem _ hx)
    unfold doReturn
    dsimp only
    split
    · exact qad ⟨hc.finish v, ht⟩
    · exact qad ⟨hc.finish v, ht⟩
    · exact qad ⟨hc, ht⟩
    · refine qad ⟨?_, ht⟩
      dsimp only
      split
      · split <;> exact hc
      · exact hc
  | nil =>
    unfold doReturn
    dsimp only
    split
    · exact qad ⟨hfr, fun c hc => by cases hc⟩
    · exact qag
    · simp only [Bool.not_true, Bool.false_eq_true, if_false]
      split
      · exact qad ⟨okFrame.enter _ _ _, fun c hc => by cases hc⟩
      · exact qag

/-! ### the reports -/
theorem qho {fr : Frame} (hfr : okFrame fr) (a : List ByteArray) (m : String) (b : Bool) : qah (fun w => dieOf fr a m b w) w := by
  unfold dieOf
  exact qad ⟨hfr, fun c hc => by cases hc⟩
theorem qc7 {fr : Frame} (hfr : okFrame fr) (m : String) : qah (fun w => endThrow fr m w) w := by
  unfold endThrow
  exact qho hfr _ _ _
theorem qea {fr : Frame} (hfr : okFrame fr) (v : Value) : qah (fun w => endPrinting P fr v w) w := by
  unfold endPrinting
  dsimp only
  split
  · exact qc7 hfr _
  · exact qag

theorem qb6 {α : Type} {s : Sem α} {F : World → GStep} {post : Tag α → World → GStep}
    (hs : Mute P s) (hF : ∀ w, F w = post (tag (s.runT P w #[]).1) (rw_ (s.runT P w #[]).1)) (hend : ∀ h w, ends h = true → qbx (post (.halt h) w))
    (hok : ∀ a w, qah (post (.ok a)) w) (hhalt : ∀ h w, h ≠ .waiting → h ≠ .goexit → ends h = false → qah (post (.halt h)) w) : qah F w :=
  qcs (s := s) (Q := fun _ k => k = 0) (E := fun _ _ => #[]) (post := post) hs (fun w => .inl <| by
    rw [hF]
    cases post (tag (s.runT P w #[]).1) (rw_ (s.runT P w #[]).1) <;> simp [GStep.after]) (fun _ _ _ _ _ => rfl) (fun _ _ _ _ => .inr fun _ => rfl) hend (fun a w _ => hok a w) hhalt (fun _ _ h => h)

theorem qg6 (s : ByteArray) : Mute P (withAddress s) := by
  unfold withAddress
  exact Mute.bind (qbk _) fun _ => Mute.pure _
theorem qdk : ∀ (l : List PanicEntry) (b : Bool), Mute P (reportChain l b)
  | [], b => Mute.pure _
  | e :: older, b => by
    unfold reportChain
    refine m_ite ?_ ?_
    · refine m_ite (qap _) (qdk older _)
    · extract_lets mk jp
      have hj : ∀ s, Mute P (jp s) := fun s => Mute.bind (qdk older s) fun _ => Mute.pure _
      clear_value jp
      cases older with
      | nil => exact Mute.bind (Mute.pure _) fun _ => hj _
      | cons o tail =>
        dsimp only
        refine m_ite ?_ ?_
        · refine Mute.bind ?_ fun _ => hj _
          exact m_ite (qap _) (Mute.pure _)
        · refine Mute.bind qbe fun p => ?_
          split
          · exact Mute.bind (Mute.pure _) fun _ => hj _
          · exact Mute.bind (qbk _) fun _ => Mute.bind (Mute.pure _) fun _ => hj _
theorem qdl {α : Type} (s : Sem α) (w : World) : s.run P w = (s.runT P w #[]).1 := by
  have := Sem.runT_eq P s w #[]
  rw [this]

theorem qfb {fr : Frame} (hfr : okFrame fr) (cs : List Frame) (dying : Option Dying) (m : String) : qah (fun w => endFatal P fr cs dying m w) w := by
  unfold endFatal
  dsimp only
  generalize (List.filter _ (fr :: cs)).flatMap _ = chain
  have hraw : ∀ (vs : List (Value × String)), Mute P (vs.mapM fun x => match x with
    | (v, mark) => match panicText P true v with
      | .text s => (pure (s, mark) : Sem (ByteArray × String))
      | .address s => do pure (← withAddress s, mark)
      | _ => unsupported (.noEntry "a fatal error during a panic whose value the report cannot show")) := by
    intro vs
    refine qhc _ _ fun x => ?_
    obtain ⟨v, mark⟩ := x
    dsimp only
    split
    · exact Mute.pure _
    · exact Mute.bind (qg6 _) fun _ => Mute.pure _
    · exact qap _
  have key : ∀ (s : Sem (List (ByteArray × String) × List ByteArray)), Mute P s → qah (fun w => match s.run P w with
      | .ok (texts, tabs) w => dieOf fr (panicPieces texts ++ tabs) m true w
      | .halt (.unsupported u) w => .ended (.unsupported u "") w
      | .halt _ w => .ended (.stuck "the report of a panic" "") w) w := by
    intro s hs
    refine qb6 (s := s) (post := fun t w => match t with
      | .ok (texts, tabs) => dieOf fr (panicPieces texts ++ tabs) m true w
      | .halt (.unsupported u) => .ended (.unsupported u "") w
      | .halt _ => .ended (.stuck "the report of a panic" "") w) hs (fun w => ?_) (fun h w _ => by cases h <;> trivial) (fun a w => ?_) (fun h w _ _ _ => ?_)
    · rw [qdl]
      cases (s.runT P w #[]).1 with
      | ok a w' => rfl
      | halt h w' => cases h <;> rfl
    · obtain ⟨texts, tabs⟩ := a
      exact qho hfr _ _ _
    · cases h <;> exact qag
  apply key
  split
  · exact Mute.pure _
  · exact Mute.bind (qdk _ _) fun _ => Mute.bind (hraw _) fun _ => Mute.pure _
  · exact Mute.bind (hraw _) fun _ => Mute.pure _
  · exact qap _
end
end Go.Ride

/- A goroutine's steps out of its frames: deferred calls, the return, a panic's report, a package-level variable that waits: steady. -/
namespace Go.Ride
section
variable {P : Program} {w : World}
theorem qkp (fd : Nat) (text : ByteArray) (o : Outcome) : qah (fun w => endWith w fd text o) w := by
 refine .inl ?_
 dsimp only
 unfold endWith
 dsimp only
 split
 ·split <;> trivial
 ·trivial
 ·trivial
section
variable {α : Type} {k : Nat} {Q : α → Nat → Prop}
theorem t_if {c : Prop} [Decidable c] {s t : Sem α} (hs : tame P s k Q) (ht : tame P t k Q) : tame P (if c then s else t) k Q := by split <;> assumption
theorem qs4 {f : Unit → Sem α} (h : tame P (f ()) (k + 1) Q) : tame P (mark .disable >>= f) k Q := h
theorem qmh {f : Unit → Sem α} (h0 : 0 < k) (h : tame P (f ()) (k - 1) Q) : tame P (mark .enable >>= f) k Q := ⟨h0, h⟩
theorem qs5 {f : Unit → Sem α} : tame P (Sem.halt .blocked >>= f) k Q := ⟨by simp, by simp, .inr rfl⟩
theorem qkq {x : Unsupported} {f : Unit → Sem α} : tame P (unsupported x >>= f) k Q := ⟨by simp, by simp, .inr rfl⟩
theorem qs6 {f : Program → Sem α} (h : tame P (f P) k Q) : tame P (program >>= f) k Q := h
theorem qw8 {a : Addr} {v : Value} {m : Mode} {f : Unit → Sem α} (h : tame P (f ()) k Q) : tame P (store a v m >>= f) k Q := h
theorem qy3 {f : Bool → Sem α} (h : ∀ b, tame P (f b) k Q) : tame P (Extern.PrintPieces.held >>= f) k Q := by
 intro v
 cases v <;> first | exact h _ | exact ⟨by simp, by simp, .inr rfl⟩
end
theorem qs7 {n : ByteArray} {x : Unsupported} {y : String} : tame P (do
  let r ← sys (.write 2 n)
  match r with
  | SysRet.int m => if (m != ↑n.size) = true then unsupported x else pure ()
  | SysRet.err e => pure ()
  | _ => unsupported (.noEntry y) : Sem Unit) 0 (fun _ k => k = 0) := by
 refine ⟨⟨_, rfl, rfl⟩, fun r => ?_⟩
 cases r <;> first
  | exact ⟨by simp, by simp, .inl rfl⟩
  | rfl
  | (show tame P (if _ then _ else _) 0 _; exact t_if ⟨by simp, by simp, .inl rfl⟩ rfl)
theorem qkr {fr : Frame} (hfr : okFrame fr) (d : Dying) (f : Fatal) : qah (fun w => writeOn P fr d f w) w := by
 unfold writeOn
 dsimp only
 split
 ·exact qag
 ·rename_i piece rest hp
  have key : ∀ (s : Sem Unit), tame P s 0 (fun _ k => k = 0) → qah (fun w => match s.runT P w #[] with
    | (.ok _ w, es) => .go { frame := fr, callers := [], status := .running, dying := some { d with fatal := some { f with pieces := rest, begun := true } } } w es
    | (.halt .blocked w, _) => .go { frame := fr, callers := [], status := .blocked, dying := some { d with fatal := some f } } w #[]
    | (.halt (.unsupported u) w, _) => .ended (.unsupported u "") w
    | (.halt _ w, _) => .ended (.stuck "the report of a fatal error" "") w) w := by
   intro s hs
   refine qcs (s := s) (Q := fun _ k => k = 0) (E := fun t es => match t with | .ok _ => es | .halt _ => #[]) (post := fun t w => match t with
    | .ok _ => .go { frame := fr, callers := [], status := .running, dying := some { d with fatal := some { f with pieces := rest, begun := true } } } w #[]
    | .halt .blocked => .go { frame := fr, callers := [], status := .blocked, dying := some { d with fatal := some f } } w #[]
    | .halt (.unsupported u) => .ended (.unsupported u "") w
    | .halt _ => .ended (.stuck "the report of a fatal error" "") w) hs (fun w => .inl ?_) (fun t es _ he => ?_) (fun _ _ _ _ => .inr fun _ => rfl) (fun h w he => ?_) (fun a w _ => ?_) (fun h w _ _ _ => ?_) (fun _ _ h => h)
   ·obtain ⟨r, es⟩ := s.runT P w #[]
    cases r with
    | ok a w' => simp [GStep.after, tag, rw_]
    | halt h w' => cases h <;> simp [GStep.after, tag, rw_]
   ·cases t
    ·exact he
    ·exact fun _ => rfl
   ·cases h <;> first | trivial | cases he
   ·exact qad ⟨hfr, fun c hc => by cases hc⟩
   ·cases h <;> first | exact qag | exact qad ⟨hfr, fun c hc => by cases hc⟩
  apply key
  refine t_if ?_ ?_
  ·refine qs4 (qy3 fun b => t_if qs5 (t_if (qs6 (qw8 (qmh (by omega) (t_if qkq ?_)))) (qmh (by omega) (t_if qkq ?_)))) <;> exact qs7
  ·exact t_if qkq qs7
theorem qe1 {fn : FuncId} {es : Array Event} (hm : ∀ e ∈ es, qb5 e) (h : ∀ d, deafBehind d es = d) (d : Nat) : deafBehind d (seen P fn es) = d := by rw [qpa P fn hm, h]
theorem qks {fn : FuncId} (d : Nat) : deafBehind d (seen P fn #[]) = d := by rw [qpa P fn (by simp)]; rfl
theorem qgl : ∀ e ∈ (#[] : Array Event), qb5 e := by simp
theorem qqj (hM : Mild P) {fr : Frame} (hfr : okFrame fr) (d : Dying) : qah (fun w => die P fr d w) w := by
 unfold die
 cases hf : d.fatal with
 | some f => exact qkr hfr d f
 | none =>
  dsimp only
  cases ht : d.todo with
  | nil =>
   dsimp only
   by_cases hl : printLockHeld P w = true
   ·refine qbp ?_ ?_ ?_ ?_ fun τ dd => ?_
    ·rw [if_pos hl]; rfl
    ·rw [if_pos hl]; rfl
    ·rw [if_pos hl]; rfl
    ·rw [if_pos hl]; exact ⟨⟨hfr, fun c hc => by cases hc⟩, trivial⟩
    ·rw [if_pos hl, if_pos (show printLockHeld P (re w τ dd) = true from hl)]; rfl
   ·refine .inl ?_
    dsimp only
    rw [if_neg hl]
    rcases qkp (w := w) 2 (panicReport d.texts) (.panic d.runtimeError) with h | ⟨n, _⟩
    ·exact h
    ·unfold endWith
     dsimp only
     split
     ·split <;> trivial
     ·trivial
     ·trivial
  | cons x rest =>
   obtain ⟨v, mark⟩ := x
   dsimp only
   cases hp : panicText P false v with
   | text s => exact qad ⟨hfr, fun c hc => by cases hc⟩
   | address s =>
    dsimp only
    refine qb6 (P := P) (s := withAddress s) (post := fun t w => match t with
     | .ok s => .go { frame := fr, callers := [], status := .running, dying := some { d with todo := rest, pending := mark, texts := (s, mark) :: d.texts, fatal := none } } w
     | .halt _ => .ended (.stuck "report: an address" "") w) (qg6 s) (fun w => ?_) (fun h w _ => trivial) (fun a w => qad ⟨hfr, fun c hc => by cases hc⟩) (fun h w _ _ _ => qag)
    rw [qdl]
    cases ((withAddress s).runT P w #[]).1 <;> simp [tag, rw_, hf, ht]
   | call t recv name =>
    dsimp only
    refine qcs (s := invoke (.fn (.method name) #[]) #[.iface t recv]) (Q := fun n k => k = 0 ∧ good n) (E := fun _ es => seen P fr.fn es) (post := fun u w => match u with
     | .ok (.enter f args) => .go { frame := Frame.enter P f args .report, callers := [], status := .running, dying := some { d with todo := rest, pending := mark, calling := true, hand := some v, fatal := none } } w
     | .ok (.value (.string s)) => .go { frame := fr, callers := [], status := .running, dying := some { d with todo := rest, pending := mark, texts := (s, mark) :: d.texts, fatal := none } } w
     | .halt (.unsupported u) => .ended (.unsupported u "the report of an uncaught panic") w
     | .halt (.panic v) => endPrinting P fr v w
     | _ => .ended (.stuck "report: Error or String returned no string" "") w) (qgk hM _ _) (fun w => ?_) (fun t es hm he => qe1 hm he) (fun h es hh he => .inl fun w => ?_) (fun h w he => ?_) (fun a w hq => ?_) (fun h w _ _ he => ?_) (fun _ _ h => h.1)
    ·obtain ⟨r, es⟩ := (invoke (.fn (.method name) #[]) #[.iface t recv]).runT P w #[]
     rcases r with n | h
     ·cases n <;> first | exact .inl rfl | exact .inr ⟨trivial, fun _ => trivial⟩ | skip
      rename_i v
      cases v <;> first | exact .inl rfl | exact .inr ⟨trivial, fun _ => trivial⟩
     ·cases h <;> first | exact .inl rfl | exact .inr ⟨trivial, fun _ => trivial⟩
    ·cases h <;> first | trivial | cases hh
    ·cases h <;> first | trivial | cases he
    ·obtain ⟨_, hg⟩ := hq
     cases a <;> first
      | exact qag
      | exact qad ⟨okFrame.enter _ _ _, fun c hc => by cases hc⟩
      | skip
     rename_i v
     cases v <;> first
      | exact qag
      | exact qad ⟨hfr, fun c hc => by cases hc⟩
    ·cases h <;> first | exact qag | exact qea hfr _
   | no u => exact qag
end
end Go.Ride

/- One step of a goroutine, whatever it stands at, is steady. -/
namespace Go.Ride
section
variable {P : Program} {w : World}
theorem qdw {fr' fr : Frame} {cs : List Frame} {st : GoStatus} {dy : Option Dying} (h' : okFrame fr') (hfr : okFrame fr) (hcs : ∀ c ∈ cs, okFrame c) : okG { frame := fr', callers := fr :: cs, status := st, dying := dy } :=
 ⟨h', fun c hc => by
  rcases List.mem_cons.1 hc with rfl | hc
  ·exact hfr
  ·exact hcs c hc⟩
def okRes : Result Next → Prop
 | .ok n _ => good n
 | .halt h _ => h ≠ .waiting ∧ h ≠ .goexit
def qk8 (P : Program) (fr : Frame) (cs : List Frame) (dy : Option Dying) (d : Deferred) (t : Tag Next) (w : World) : GStep := match t with
 | .ok (.enter f args) => .go { frame := Frame.enter P f args .deferred, callers := fr :: cs, status := .running, dying := dy } w
 | .ok (.round l f tmps assign body) => .go { frame := Frame.round l f tmps assign body .deferred, callers := fr :: cs, status := .running, dying := dy } w
 | .ok (.row row args) => .go { frame := Frame.ofRow P row args .deferred, callers := fr :: cs, status := .running, dying := dy } w
 | .ok .recover =>
  match fr.mode, tryRecover fr cs with
  | .returning, some (_, callers) => .go { frame := fr, callers, status := .running, dying := dy } w
  | _, _ => .go { frame := fr, callers := cs, status := .running, dying := dy } w
 | .ok (.coroswitch c true) => .coroswitch { frame := fr, callers := cs, status := .running, dying := dy } c true w
 | .ok (.value _) | .ok .skip | .ok (.defer _) | .ok (.comm ..) | .ok (.spawn _) => .go { frame := fr, callers := cs, status := .running, dying := dy } w
 | .ok _ => .ended default w
 | .halt (.panic v) => .go { frame := fr.raise [{ v, recovered := false }], callers := cs, status := .running, dying := dy } w
 | .halt (.exit c) => .ended (.exit c) w
 | .halt (.fatal m) => endFatal P fr cs dy m w
 | .halt (.throw m) => endThrow fr m w
 | .halt (.unsupported u) => .ended (.unsupported u (fr.pos P)) w
 | .halt (.stuck s) => .ended (.stuck s (fr.pos P)) w
 | .halt .goexit => .ended default w
 | .halt .blocked => .go { frame := { fr with defers := d :: fr.defers }, callers := cs, status := .blocked, dying := dy } w
 | .halt .waiting => .ended default w
def qi6 (P : Program) (fr : Frame) (t : Tag Next) (es : Array Event) : Array Event := seen P fr.fn (match t with | .halt .blocked | .halt .waiting => #[] | _ => es)
theorem qfz {α : Type} {s : Sem α} {Q : α → Nat → Prop} {F : World → GStep} {w : World} {E : Tag α → Array Event → Array Event} {post : Tag α → World → GStep}
  (hs : tame P s 0 Q) (hF' : ∀ w, F w = GStep.after (E (tag (s.runT P w #[]).1) (s.runT P w #[]).2) (post (tag (s.runT P w #[]).1) (rw_ (s.runT P w #[]).1)) ∨ (qbx (F w) ∧ ∀ w', qbx (post (tag (s.runT P w #[]).1) w')) ∨ ¬ ∃ t, tag (s.runT P w #[]).1 = t ∧ (match t with | .ok a => ∃ k, Q a k | .halt h => h ≠ .waiting ∧ h ≠ .goexit))
  (hE : ∀ t es, (∀ e ∈ es, qb5 e) → (∀ d, deafBehind d es = d) → ∀ d, deafBehind d (E t es) = d)
  (hush_ : ∀ h es, hush h = true → ends h = false → (∀ w, qbx (post (.halt h) w)) ∨ ∀ d, deafBehind d (E (.halt h) es) = d)
  (hend : ∀ h w, ends h = true → qbx (post (.halt h) w))
  (hok : ∀ a w, Q a 0 → qah (post (.ok a)) w) (hhalt : ∀ h w, h ≠ .waiting → h ≠ .goexit → ends h = false → qah (post (.halt h)) w) (hQ : ∀ a k, Q a k → k = 0) : qah F w := by
 refine qcs hs (fun w => ?_) hE hush_ hend hok hhalt hQ
 rcases hF' w with h | h | h
 ·exact .inl h
 ·exact .inr h
 ·obtain ⟨n, u, R⟩ := qa3 s 0 Q w #[] hs
  refine absurd ⟨_, rfl, ?_⟩ h
  cases hr : (s.runT P w #[]).1 with
  | ok a w' =>
   obtain ⟨k', hq, _⟩ := R.ok a w' hr
   exact ⟨k', hq⟩
  | halt x w' =>
   obtain ⟨h1, h2, _⟩ := R.halt x w' hr
   exact ⟨h1, h2⟩
theorem qg9 (hM : Mild P) {fr : Frame} {cs : List Frame} {dy : Option Dying} {d : Deferred} (hfr : okFrame fr) (hcs : ∀ c ∈ cs, okFrame c) : qah (fun w => callDeferred P fr cs dy d w) w := by
 have hG : ∀ {st : GoStatus}, okG { frame := fr, callers := cs, status := st, dying := dy } := ⟨hfr, hcs⟩
 have key : ∀ (b : Bool) (X Y Z : World → GStep) (C : World → Prop), (∀ w, qbx (X w)) → (∀ w, C w → Y w = Z w) → (∀ w, qbx (if b = true then X w else Y w)) ∨ (∀ w, C w → (if b = true then X w else Y w) = Z w) := by
  intro b X Y Z C hx hy
  cases b
  ·exact .inr fun w => by rw [if_neg (by simp)]; exact hy w
  ·exact .inl fun w => by rw [if_pos rfl]; exact hx w
 have hcase : (∀ w, qbx (callDeferred P fr cs dy d w)) ∨ (∀ w, okRes ((invoke d.target d.args).runT P w #[]).1 → callDeferred P fr cs dy d w =
   GStep.after (qi6 P fr (tag ((invoke d.target d.args).runT P w #[]).1) ((invoke d.target d.args).runT P w #[]).2) (qk8 P fr cs dy d (tag ((invoke d.target d.args).runT P w #[]).1) (rw_ ((invoke d.target d.args).runT P w #[]).1))) := by
  unfold callDeferred
  refine key _ _ _ _ _ (fun _ => trivial) (fun w hC => ?_)
  revert hC
  obtain ⟨r, es⟩ := (invoke d.target d.args).runT P w #[]
  intro hC
  rcases r with n | h
  ·cases n <;> first | rfl | exact hC.elim | (rename_i b; cases b <;> first | rfl | exact hC.elim)
  ·cases h <;> first | rfl | exact absurd rfl hC.1 | exact absurd rfl hC.2
 rcases hcase with hx | hx
 ·exact .inl (hx w)
 refine qfz (s := invoke d.target d.args) (E := qi6 P fr) (post := qk8 P fr cs dy d) (qgk hM _ _) (fun w => ?_) (fun t es hm he => ?_) (fun h es hh he => ?_) (fun h w he => ?_) (fun a w hq => ?_) (fun h w _ _ he => ?_) (fun _ _ h => h.1)
 ·by_cases hC : okRes ((invoke d.target d.args).runT P w #[]).1
  ·exact .inl (hx w hC)
  ·refine .inr (.inr ?_)
   rintro ⟨t, ht, hq⟩
   revert hC hq
   rw [← ht]
   obtain ⟨r, es⟩ := (invoke d.target d.args).runT P w #[]
   rcases r with n | h
   ·exact fun hC ⟨k, _, hg⟩ => hC hg
   ·exact fun hC hq => hC hq
 ·unfold qi6
  refine qe1 ?_ ?_
  ·split <;> first | exact qgl | exact hm
  ·split <;> first | exact fun _ => rfl | exact he
 ·cases h <;> first | exact .inr fun d => qks d | exact .inl fun w => trivial | exact absurd hh (by simp [hush])
 ·cases h <;> first | trivial | exact absurd he (by simp [ends])
 ·obtain ⟨_, hg⟩ := hq
  cases a <;> first
   | exact hg.elim
   | exact qad hG
   | exact qad (qdw (okFrame.enter _ _ _) hfr hcs)
   | exact qad (qdw (okFrame.round _ _ _ _ _ _) hfr hcs)
   | exact qad (qdw (okFrame.ofRow hg _ _) hfr hcs)
   | skip
  · -- recover
   show qah (fun w => match fr.mode, tryRecover fr cs with
    | .returning, some (_, callers) => .go { frame := fr, callers, status := .running, dying := dy } w
    | _, _ => .go { frame := fr, callers := cs, status := .running, dying := dy } w) w
   cases hr : tryRecover fr cs with
   | none => cases fr.mode <;> exact qad hG
   | some x =>
    obtain ⟨v, cs'⟩ := x
    cases fr.mode <;> first | exact qad hG | exact qad ⟨hfr, qcy cs fr v cs' hcs hr⟩
  · -- coroswitch
   rename_i c b
   cases b
   ·exact hg.elim
   ·refine qbp rfl rfl rfl ⟨hG, rfl⟩ fun τ d => rfl
 ·cases h <;> first
   | exact qag
   | exact qad hG
   | exact qad ⟨hfr.raise _, hcs⟩
   | exact qad ⟨hfr, hcs⟩
   | exact qfb hfr _ _ _
   | exact qc7 hfr _
   | exact absurd he (by simp [ends])
theorem qs8 (fn : Func) (tmps : Array Value) : Mute P (results fn tmps) := by
 unfold results
 refine Mute.bind (qgf _ _ fun a => ?_) fun _ => Mute.pure _
 split
 ·exact Mute.pure _
 ·exact Mute.bind (qu4 _) fun _ => qst _ _
theorem qd4 {α : Type} {s : Sem α} {F : World → GStep} {fn : FuncId} {post : Tag α → World → GStep} (hs : Mute P s)
  (hF : ∀ w, F w = GStep.after (seen P fn (s.runT P w #[]).2) (post (tag (s.runT P w #[]).1) (rw_ (s.runT P w #[]).1)) ∨ (qbx (F w) ∧ ∀ w', qbx (post (tag (s.runT P w #[]).1) w')))
  (hok : ∀ a w, qah (post (.ok a)) w) (hhalt : ∀ h w, qbx (post (.halt h) w)) : qah F w :=
 qcs (s := s) (Q := fun _ k => k = 0) (E := fun _ es => seen P fn es) (post := post) hs hF (fun _ _ hm he => qe1 hm he) (fun h _ _ _ => .inl (hhalt h)) (fun h w _ => hhalt h w) (fun a w _ => hok a w) (fun h w _ _ _ => .inl (hhalt h w)) (fun _ _ h => h)
theorem ql0 (hM : Mild P) {fr : Frame} {cs : List Frame} {dy : Option Dying} (hfr : okFrame fr) (hcs : ∀ c ∈ cs, okFrame c) : qah (fun w => unwind P true fr cs dy w) w := by
 unfold unwind
 split
 · -- collected
  rename_i block args ds hd
  refine qd4 (P := P) (fn := fr.fn) (s := Instr.takeDeferred block) (post := fun t w => match t with
   | .ok calls => .go { frame := { fr with defers := calls ++ ds }, callers := cs, status := .running, dying := dy } w
   | .halt _ => .ended (.stuck "the deferred calls of a range-over-func loop have been taken" (fr.pos P)) w) (qgi _) (fun w => .inl ?_) (fun a w => qad ⟨hfr, hcs⟩) (fun h w => trivial)
  obtain ⟨r, es⟩ := (Instr.takeDeferred block).runT P w #[]
  cases r <;> rfl
 ·exact qg9 hM (fr := { fr with defers := _ }) hfr hcs
 ·split
  ·exact qag
  ·rename_i chain hm
   split
   ·exact qag
   ·split
    ·rename_i c rest
     have hc : okFrame c := hcs c (List.mem_cons_self ..)
     exact qad ⟨hc.raise _, fun x hx => hcs x (List.mem_cons_of_mem _ hx)⟩
    ·split
     ·split
      ·exact qad ⟨hfr, fun c hc => by cases hc⟩
      ·refine qb6 (P := P) (s := reportChain chain false) (post := fun t w => match t with
        | .ok todo => .go { frame := fr, callers := [], status := .running, dying := some { todo, texts := [], calling := false, pending := "", runtimeError := isRuntimeError P (chain.head?.map (·.v)) } } w
        | .halt (.unsupported u) => .ended (.unsupported u "") w
        | .halt _ => .ended (.stuck "the report of a panic" "") w) (qdk _ _) (fun w => ?_) (fun h w _ => by cases h <;> trivial) (fun a w => qad ⟨hfr, fun c hc => by cases hc⟩) (fun h w _ _ _ => by cases h <;> exact qag)
       rw [qdl]
       cases ((reportChain chain false).runT P w #[]).1 with
       | ok a w' => rfl
       | halt h w' => cases h <;> rfl
     ·split
      ·exact qea hfr _
      ·exact qag
  ·split
   ·exact qdp hfr hcs
   ·rename_i fn hf
    refine qd4 (P := P) (fn := fr.fn) (s := results fn fr.tmps) (post := fun t w => match t with
     | .ok v => doReturn P true fr cs dy v w
     | .halt (.stuck s) => .ended (.stuck s (fr.pos P)) w
     | .halt _ => .ended (.stuck "return: the result variables cannot be read" (fr.pos P)) w) (qs8 _ _) (fun w => .inl ?_) (fun a w => qdp hfr hcs) (fun h w => by cases h <;> trivial)
    obtain ⟨r, es⟩ := (results fn fr.tmps).runT P w #[]
    rcases r with v | h
    ·rfl
    ·cases h <;> rfl
end
end Go.Ride

/- One step of a goroutine, whatever it stands at, is steady: the operations and the whole. -/
namespace Go.Ride

section
variable {P : Program} {w : World}

theorem qc8 (τ : Nat → Question → Nat) (d : Nat) : ∀ (n : Nat) (f : FuncId), P.found (re w τ d) n f = P.found w n f
  | 0, f => rfl
  | n + 1, f => by
    have ih : P.found (re w τ d) n = P.found w n := funext (qc8 τ d n)
    unfold Program.found
    rw [ih]
    rfl
theorem qju (τ : Nat → Question → Nat) (d : Nat) : ∀ (n : Nat) (l s : List FuncId), P.brought (re w τ d) n l s = P.brought w n l s
  | 0, l, s => rfl
  | n + 1, [], s => rfl
  | n + 1, f :: l, s => by
    have ih : P.brought (re w τ d) n = P.brought w n := funext fun a => funext fun b => qju τ d n a b
    unfold Program.brought
    rw [ih]
    rfl

theorem qbn {F G : World → GStep} (h : F w = G w) (hre : ∀ τ d, F (re w τ d) = G (re w τ d)) (hG : qah G w) : qah F w := by
  rcases hG with hG | ⟨n, h1, h2, h3, h4, h5⟩
  · exact .inl (by rw [h]; exact hG)
  · exact .inr ⟨n, by rw [h]; exact h1, by rw [h]; exact h2, by rw [h]; exact h3, by rw [h]; exact h4, fun τ d hA => by rw [hre, h]; exact h5 τ d hA⟩
theorem qeb {c : World → Prop} [∀ w, Decidable (c w)] {X Y : World → GStep} (hc : ∀ τ d, c (re w τ d) ↔ c w) (hX : c w → qah X w) (hY : ¬ c w → qah Y w) : qah (fun w => if c w then X w else Y w) w := by
  by_cases h : c w
  · exact qbn (by simp [h]) (fun τ d => by simp [(hc τ d).2 h]) (hX h)
  · exact qbn (by simp [h]) (fun τ d => by simp [mt (hc τ d).1 h]) (hY h)

theorem qmi {fr : Frame} {cs : List Frame} {dy : Option Dying} (hfr : okFrame fr) (hcs : ∀ c ∈ cs, okFrame c) (g : Nat) : qah (fun w => early P fr cs dy g w) w := by
  have hrefuse : ∀ {u}, qah (fun w => GStep.ended (.unsupported u (fr.pos P)) w) w := qag
  have hnot : ∀ w, qah (fun w : World => match w.heap[g]? with
      | some (.pending c elem) => GStep.go { frame := fr, callers := cs, status := .running, dying := dy } { w with heap := w.heap.setIfInBounds g (.cells c elem) }
      | _ => .ended (.stuck "early: the variable does not wait" (fr.pos P)) w) w := by
    intro w
    cases ho : w.heap[g]? with
    | none => exact .inl (by dsimp only; rw [ho]; trivial)
    | some o =>
      cases o <;> first
        | exact .inl (by dsimp only; rw [ho]; trivial)
        | skip
      rename_i c e
      have hr : ∀ τ d, (re w τ d).heap[g]? = some (.pending c e) := fun _ _ => ho
      exact qbp (by rw [ho]; rfl) (by rw [ho]; rfl) (by rw [ho]; rfl) (by rw [ho]; exact ⟨⟨hfr, hcs⟩, trivial⟩) (fun τ d => by rw [hr, ho]; rfl)
  have hthere : ∀ f w, qah (fun w : World =>
      let with_ := if (P.code? f).any P.plainData then (P.brought w (2 * P.funcs.size + 1) [f] []).drop 1 else []
      GStep.go { frame := Frame.enter P f #[] .early, callers := with_.map (Frame.enter P · #[] .early) ++ fr :: cs, status := .running, dying := dy } w) w := by
    intro f w
    refine qk7 (fun _ => rfl) (fun τ d => ?_) ⟨okFrame.enter _ _ _, fun c hc => ?_⟩
    · rw [qju]
    · rcases List.mem_append.1 hc with hc | hc
      · obtain ⟨x, _, rfl⟩ := List.mem_map.1 hc
        exact okFrame.enter _ _ _
      · rcases List.mem_cons.1 hc with rfl | hc
        · exact hfr
        · exact hcs c hc
  unfold early
  dsimp only
  split
  · exact hnot w
  · split
    · exact hrefuse
    · rename_i f _
      split
      · exact hnot w
      · refine qeb (fun τ d => Iff.rfl) (fun _ => hnot w) (fun _ => ?_)
        cases hfd : P.found w P.funcs.size f with
        | unknown => exact qbn (G := fun w => GStep.ended (.unsupported (.initOrder g) (fr.pos P)) w) (by rw [hfd] <;> rfl) (fun τ d => by rw [qc8, hfd] <;> rfl) hrefuse
        | notYet =>
          cases hk : (fr.kind == CallKind.early) with
          | true => exact qbn (G := fun w => GStep.ended (.unsupported (.initOrder g) (fr.pos P)) w) (by rw [hfd] <;> rfl) (fun τ d => by rw [qc8, hfd] <;> rfl) hrefuse
          | false => exact qbn (by rw [hfd] <;> rfl) (fun τ d => by rw [qc8, hfd] <;> rfl) (hnot w)
        | either =>
          cases hk : (fr.kind == CallKind.early) with
          | true => exact qbn (by rw [hfd] <;> rfl) (fun τ d => by rw [qc8, hfd] <;> rfl) (hthere f w)
          | false =>
            by_cases hpl : (P.code? f).any P.plainData = true
            · exact qbn (by rw [hfd] <;> first | rfl | (dsimp only; rw [if_pos hpl] <;> rfl)) (fun τ d => by rw [qc8, hfd] <;> first | rfl | (dsimp only; rw [if_pos hpl] <;> rfl)) (hthere f w)
            · by_cases hb : (!(P.code? f).any P.bareCopy) = true
              · exact qbn (by rw [hfd] <;> first | rfl | (dsimp only; rw [if_neg hpl, if_pos hb] <;> rfl)) (fun τ d => by rw [qc8, hfd] <;> first | rfl | (dsimp only; rw [if_neg hpl, if_pos hb] <;> rfl)) (hnot w)
              · refine qbn (by rw [hfd] <;> first | rfl | (dsimp only; rw [if_neg hpl, if_neg hb] <;> rfl)) (fun τ d => by rw [qc8, hfd] <;> first | rfl | (dsimp only; rw [if_neg hpl, if_neg hb] <;> rfl)) ?_
                refine qb6 (P := P) (s := choose (.early g)) (post := fun t w => match t with
                  | .ok 0 => (match w.heap[g]? with
                    | some (.pending c elem) => GStep.go { frame := fr, callers := cs, status := .running, dying := dy } { w with heap := w.heap.setIfInBounds g (.cells c elem) }
                    | _ => .ended (.stuck "early: the variable does not wait" (fr.pos P)) w)
                  | .ok _ =>
                    let with_ := if (P.code? f).any P.plainData then (P.brought w (2 * P.funcs.size + 1) [f] []).drop 1 else []
                    GStep.go { frame := Frame.enter P f #[] .early, callers := with_.map (Frame.enter P · #[] .early) ++ fr :: cs, status := .running, dying := dy } w
                  | .halt _ => .ended (.stuck "early" (fr.pos P)) w) (qbk _) (fun w => ?_) (fun h w _ => trivial) (fun a w => ?_) (fun h w _ _ _ => qag)
                · dsimp only
                  rw [if_neg hpl, if_neg hb, qdl]
                  cases ((choose (.early g)).runT P w #[]).1 with
                  | ok a w' => cases a <;> rfl
                  | halt h w' => rfl
                · cases a with
                  | zero => exact hnot w
                  | succ n => exact hthere f w

def qk9 (P : Program) (fr : Frame) (cs : List Frame) (dy : Option Dying) (t : Tag Next) (w : World) : GStep :=
  let go (fr : Frame) (w : World) : GStep := .go { frame := fr, callers := cs, status := .running, dying := dy } w
  let kind : CallKind := match fr.todo with | .call _ true _ _ :: _ => .wrapped | _ => .normal
  match t with
  | .ok (.value v) => go (fr.finish v) w
  | .ok .skip => go (fr.finish undef) w
  | .ok (.enter f args) => .go { frame := Frame.enter P f args kind, callers := fr :: cs, status := .running, dying := dy } w
  | .ok (.row row args) =>
    match fr.todo with
    | .extern .. :: k => go { fr with todo := .extern row args :: k } w
    | _ => .go { frame := Frame.ofRow P row args kind, callers := fr :: cs, status := .running, dying := dy } w
  | .ok (.round l f tmps assign body) => .go { frame := Frame.round l f tmps assign body .normal, callers := fr :: cs, status := .running, dying := dy } w
  | .ok (.defer d) => go ({ fr with defers := d :: fr.defers }.finish undef) w
  | .ok .recover =>
    match (match fr.roundOf with
           | some l => if P.follows .rangeFuncRecover then tryRecover fr cs else tryRecoverLoop l cs
           | none => tryRecover fr cs) with
    | some (v, callers) => .go { frame := fr.finish v, callers, status := .running, dying := dy } w
    | none => go (fr.finish .nilIface) w
  | .ok (.comm cases blocking shape) => .comm { frame := fr, callers := cs, status := .running, dying := dy } cases blocking shape w
  | .ok (.coroswitch c exit) => .coroswitch { frame := fr, callers := cs, status := .running, dying := dy } c exit w
  | .ok (.spawn d) =>
    if P.follows .goNilFatal && d.target matches .nil && d.args.isEmpty && fr.noResult P then endThrow fr "go of nil func value" w else
    let parent : Goroutine := { frame := fr.finish undef, callers := cs, status := .running, dying := dy }
    let child (frame : Frame) : Goroutine := { frame, callers := [], status := .running, dying := none }
    .spawn parent (child { (default : Frame) with fn := P.funcs.size, defers := [d], mode := .panicking [goexitEntry] }) w
  | .ok _ => .ended default w
  | .halt (.panic v) => go (fr.raise [{ v, recovered := false }]) w
  | .halt .goexit => go (fr.raise [goexitEntry]) w
  | .halt .blocked => .go { frame := fr, callers := cs, status := .blocked, dying := dy } w
  | .halt .waiting => .go { frame := fr, callers := cs, status := .waiting, dying := dy } w
  | .halt (.exit c) => .ended (.exit c) w
  | .halt (.fatal m) => endFatal P fr cs dy m w
  | .halt (.throw m) => endThrow fr m w
  | .halt (.unsupported (.initOrder g)) => early P fr cs dy g w
  | .halt (.unsupported u) => .ended (.unsupported u (fr.pos P)) w
  | .halt (.stuck s) => .ended (.stuck s (fr.pos P)) w
def qe2 (P : Program) (fr : Frame) (t : Tag Next) (es : Array Event) : Array Event :=
  seen P fr.fn (if fr.kind == .early then #[] else match t with | .halt .blocked | .halt .waiting | .halt (.unsupported (.initOrder _)) => #[] | _ => es)
theorem qvf (fr : Frame) (cs : List Frame) (dy : Option Dying) (s : Sem Next) (w : World) (h : okRes (s.runT P w #[]).1) :
    stepG.apply P true fr cs dy s w = GStep.after (qe2 P fr (tag (s.runT P w #[]).1) (s.runT P w #[]).2) (qk9 P fr cs dy (tag (s.runT P w #[]).1) (rw_ (s.runT P w #[]).1)) := by
  unfold stepG.apply
  rw [if_pos rfl]
  revert h
  obtain ⟨r, es⟩ := s.runT P w #[]
  intro hOK
  rcases r with n | x
  · cases n <;> first
      | rfl
      | exact hOK.elim
  · cases x <;> first
      | rfl
      | skip
    rename_i u
    cases u <;> rfl

theorem qc9 (hM : Mild P) {fr : Frame} {cs : List Frame} {dy : Option Dying} {s : Sem Next} (hfr : okFrame fr) (hcs : ∀ c ∈ cs, okFrame c) (hs : Fine P s) : qah (fun w => stepG.apply P true fr cs dy s w) w := by
  have hG : ∀ {st : GoStatus}, okG { frame := fr, callers := cs, status := st, dying := dy } := ⟨hfr, hcs⟩
  refine qfz (s := s) (E := qe2 P fr) (post := qk9 P fr cs dy) hs (fun w => ?_) (fun t es hm he => ?_) (fun h es hh he => ?_) (fun h w he => ?_) (fun a w hq => ?_) (fun h w h1 h2 he => ?_) (fun _ _ h => h.1)
  · by_cases hC : okRes (s.runT P w #[]).1
    · exact .inl (qvf fr cs dy s w hC)
    · refine .inr (.inr ?_)
      rintro ⟨t, ht, hq⟩
      revert hC hq
      rw [← ht]
      obtain ⟨r, es⟩ := s.runT P w #[]
      rcases r with n | h
      · exact fun hC ⟨k, _, hg⟩ => hC hg
      · exact fun hC hq => hC hq
  · unfold qe2
    refine qe1 ?_ ?_
    · split
      · exact qgl
      · split <;> first | exact qgl | exact hm
    · split
      · exact fun _ => rfl
      · split <;> first | exact fun _ => rfl | exact he
  · cases h <;> first
      | exact .inl fun w => trivial
      | (refine .inr fun d => ?_; unfold qe2; split <;> exact qks d)
      | (exfalso; revert hh; simp [hush]; done)
      | skip
    rename_i u
    cases u <;> first
      | exact .inl fun w => trivial
      | (refine .inr fun d => ?_; unfold qe2; split <;> exact qks d)
  · cases h <;> first
      | trivial
      | (exfalso; revert he; simp [ends]; done)
      | skip
    rename_i u
    cases u <;> first
      | trivial
      | (exfalso; revert he; simp [ends]; done)
  · have hg := hq.2
    clear hq
    cases a <;> first
      | exact hg.elim
      | exact qad ⟨hfr.finish _, hcs⟩
      | exact qad ⟨okFrame.finish (fr := { fr with defers := _ }) hfr _, hcs⟩
      | exact qad (qdw (okFrame.enter _ _ _) hfr hcs)
      | exact qad (qdw (okFrame.round _ _ _ _ _ _) hfr hcs)
      | exact qbp rfl rfl rfl ⟨hG, rfl⟩ fun τ d => rfl
      | skip
    · -- defer
      rename_i d
      exact qad (g := { frame := ({ fr with defers := d :: fr.defers } : Frame).finish undef, callers := cs, status := .running, dying := dy }) ⟨okFrame.finish (fr := { fr with defers := d :: fr.defers }) hfr _, hcs⟩
    · -- recover
      show qah (fun w => match (match fr.roundOf with
           | some l => if P.follows .rangeFuncRecover then tryRecover fr cs else tryRecoverLoop l cs
           | none => tryRecover fr cs) with
        | some (v, callers) => .go { frame := fr.finish v, callers, status := .running, dying := dy } w
        | none => .go { frame := fr.finish .nilIface, callers := cs, status := .running, dying := dy } w) w
      generalize hx : (match fr.roundOf with
           | some l => if P.follows .rangeFuncRecover then tryRecover fr cs else tryRecoverLoop l cs
           | none => tryRecover fr cs) = x
      rcases x with _ | ⟨v, cs'⟩
      · exact qad ⟨hfr.finish _, hcs⟩
      · refine qad ⟨hfr.finish _, ?_⟩
        split at hx
        · split at hx
          · exact qcy cs fr v cs' hcs hx
          · exact qcl cs _ v cs' hcs hx
        · exact qcy cs fr v cs' hcs hx
    · -- spawn
      rename_i d
      show qah (fun w => if P.follows .goNilFatal && d.target matches .nil && d.args.isEmpty && fr.noResult P then endThrow fr "go of nil func value" w else
        .spawn { frame := fr.finish undef, callers := cs, status := .running, dying := dy } { frame := { (default : Frame) with fn := P.funcs.size, defers := [d], mode := .panicking [goexitEntry] }, callers := [], status := .running, dying := none } w) w
      exact qeb (fun _ _ => Iff.rfl) (fun _ => qc7 hfr _) (fun _ => qbp rfl rfl rfl trivial fun τ d => rfl)
    · -- coroswitch
      rename_i c b
      cases b
      · exact hg.elim
      · exact qbp rfl rfl rfl ⟨hG, rfl⟩ fun τ d => rfl
    · -- a row
      rename_i r args
      show qah (fun w => match fr.todo with
        | .extern .. :: k => .go { frame := { fr with todo := .extern r args :: k }, callers := cs, status := .running, dying := dy } w
        | _ => .go { frame := Frame.ofRow P r args (match fr.todo with | .call _ true _ _ :: _ => .wrapped | _ => .normal), callers := fr :: cs, status := .running, dying := dy } w) w
      split
      · rename_i r' a' k e
        refine qad ⟨?_, hcs⟩
        intro x hx
        rcases List.mem_cons.1 hx with rfl | hx
        · exact hg
        · exact hfr x (by rw [e]; exact List.mem_cons_of_mem _ hx)
      · exact qad (qdw (okFrame.ofRow hg _ _) hfr hcs)
  · cases h <;> first
      | exact qag
      | exact qad hG
      | exact qad ⟨hfr.raise _, hcs⟩
      | exact qfb hfr _ _ _
      | exact qc7 hfr _
      | (exfalso; revert he; simp [ends]; done)
      | skip
    rename_i u
    cases u <;> first
      | exact qag
      | exact qmi hfr hcs _
end
end Go.Ride
