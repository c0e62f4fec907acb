/- One step of a goroutine, whatever it stands at, is steady: the whole step. -/
import Derived.Test.YtlgjaefcfnndhaaGreatDoorP3
import Derived.KernelRfl
import Derived.Conc.CrowdComm
set_option linter.unusedVariables false
set_option linter.unusedSimpArgs false
set_option maxHeartbeats 16000000
namespace Go.Ride

section
variable {P : Program} {w : World}

theorem qrv : Extern.next "runtime.print$piece" = some (Extern.PrintPieces.piece #[] #[]) := by kernel_rfl

theorem qdo {fr : Frame} {cs : List Frame} {dy : Option Dying} (hfr : okFrame fr) (hcs : ∀ c ∈ cs, okFrame c) (jump : Option Code) : qai (fun w => (match fr.roundOf with
      | none => if jump matches none | some .ret then GStep.go { frame := { fr with mode := .returning }, callers := cs, status := .running, dying := dy } w else .ended (.stuck "exit, goto: no such block or label" (fr.pos P)) w
      | some l =>
        let (r, es) := (Instr.endRound l jump).runT P w #[]
        GStep.after (seen P fr.fn es) <| match r with
        | .ok v w => doReturn P true fr cs dy v w
        | .halt _ w => .ended (.stuck "range over a function: no such loop" (fr.pos P)) w : GStep)) w := by
  split
  · exact qea (fun _ _ => Iff.rfl) (fun _ => qad ⟨hfr, hcs⟩) (fun _ => qag)
  · rename_i l _
    refine qd3 (P := P) (fn := fr.fn) (s := Instr.endRound l jump) (post := fun t w => match t with
      | .ok v => doReturn P true fr cs dy v w
      | .halt _ => .ended (.stuck "range over a function: no such loop" (fr.pos P)) w) (qjf _ _) (fun w => .inl ?_) (fun a w => qdn hfr hcs) (fun h w => trivial)
    obtain ⟨r, es⟩ := (Instr.endRound l jump).runT P w #[]
    cases r <;> rfl

theorem qpb (hM : Mild P) {fr : Frame} {cs : List Frame} {dy : Option Dying} (hfr : okFrame fr) (hcs : ∀ c ∈ cs, okFrame c) : qai (fun w => stepG.oper P true fr cs dy w) w := by
  unfold stepG.oper
  split
  · exact qag
  · split
    · exact qc4 hM hfr hcs (Fine.bind (qd8 _ _ _) fun d => Fine.skip (qgj _ _))
    · exact qc4 hM hfr hcs (qwx hM _ _)

theorem qpc (hM : Mild P) {fr : Frame} {cs : List Frame} {dy : Option Dying} (hfr : okFrame fr) (hcs : ∀ c ∈ cs, okFrame c) : qai (fun w => stepG.exec P true true fr cs dy w) w := by
  have hto : ∀ {w : World} (k : List Item), (∀ i ∈ k, qcv i) → qai (fun w => GStep.go { frame := { fr with todo := k }, callers := cs, status := .running, dying := dy } w) w := fun {w} k hk => qad ⟨hk, hcs⟩
  have hgo : ∀ g : Frame, okFrame g → qai (fun w => GStep.go { frame := g, callers := cs, status := .running, dying := dy } w) w := fun g hg => qad ⟨hg, hcs⟩
  have cons1 : ∀ {i : Item} {k : List Item}, qcv i → (∀ x ∈ k, qcv x) → ∀ x ∈ i :: k, qcv x := fun hi hk x hx => by
    rcases List.mem_cons.1 hx with rfl | hx
    · exact hi
    · exact hk x hx
  unfold stepG.exec
  dsimp only
  split
  · exact qdo hfr hcs none
  · exact qdo hfr hcs (some .ret)
  all_goals (rename_i e; try (have ht := hfr.tail e))
  case h_3 | h_4 | h_5 | h_6 => exact hto _ ht
  case h_7 => exact hto _ (cons1 trivial (cons1 trivial ht))
  case h_8 =>
    split
    · split <;> exact hto _ (cons1 trivial ht)
    · exact qag
  case h_9 | h_10 | h_11 | h_12 => exact hto _ (cons1 trivial (cons1 trivial ht))
  case h_13 =>
    rename_i id k
    cases he : exitTo id k with
    | none => exact qdo hfr hcs (some (.exit id))
    | some k' => exact hto _ (qhm id k k' ht he)
  case h_14 =>
    rename_i id k
    cases he : gotoIn id k with
    | none => exact qdo hfr hcs (some (.goto id))
    | some k' => exact hto _ (qhn id k k' ht he)
  case h_15 =>
    rename_i f params assign body k
    refine qd3 (P := P) (fn := fr.fn) (s := Instr.enterLoop fr.fn fr.tmps params assign body fr.roundOf) (post := fun t w => match t with
      | .ok (l, mark) =>
        stepG.apply P true { fr with todo := .inRangeFunc l :: k, defers := mark ++ fr.defers } cs dy (do
          let d ← resolve fr.eval { callee := .value f, args := #[.const (.func (.yield l) #[] #[])], argTypes := #[] } 0
          invoke d.target d.args) w
      | .halt _ => .ended (.stuck "range over a function: no such loop" (fr.pos P)) w) (qiq _ _ _ _ _ _) (fun w => .inl ?_) (fun a w => ?_) (fun h w => trivial)
    · obtain ⟨r, es⟩ := (Instr.enterLoop fr.fn fr.tmps params assign body fr.roundOf).runT P w #[]
      cases r <;> rfl
    · obtain ⟨l, mark⟩ := a
      exact qc4 hM (fr := { fr with todo := .inRangeFunc l :: k, defers := mark ++ fr.defers }) (cons1 trivial ht) hcs (Fine.bind (qd8 _ _ _) fun d => qgm hM _ _)
  case h_16 => exact qag
  case h_17 =>
    refine qc4 hM hfr hcs (Fine.skip ?_)
    cases fr.roundOf with
    | none => exact qaf _
    | some l => exact qhh l
  case h_18 =>
    rename_i l k
    refine qcs (P := P) (s := Instr.endLoop l) (Q := fun _ k => k = 0) (E := fun _ es => seen P fr.fn es) (post := fun t w => match t with
      | .ok jump => .go { frame := { fr with todo := (jump.map Item.code).toList ++ k }, callers := cs, status := .running, dying := dy } w
      | .halt (.panic v) => .go { frame := fr.raise [{ v, recovered := false }], callers := cs, status := .running, dying := dy } w
      | .halt _ => .ended (.stuck "range over a function: no such loop" (fr.pos P)) w) (qj4 _) (fun w => .inl ?_) (fun _ _ hm he => qez hm he) (fun h es hh he => ?_) (fun h w he => ?_) (fun a w _ => ?_) (fun h w _ _ _ => ?_) (fun _ _ h => h)
    · obtain ⟨r, es⟩ := (Instr.endLoop l).runT P w #[]
      rcases r with v | h
      · rfl
      · cases h <;> rfl
    · cases h <;> first | exact .inl fun w => trivial | (exfalso; revert hh; simp [hush]; done)
    · cases h <;> first | trivial | (exfalso; revert he; simp [ends]; done)
    · refine hto ((a.map Item.code).toList ++ k) fun x hx => ?_
      rcases List.mem_append.1 hx with hx | hx
      · cases a with
        | none => simp at hx
        | some c => simp at hx; subst hx; trivial
      · exact ht x hx
    · cases h <;> first | exact qag | exact qad ⟨hfr.raise _, hcs⟩
  case h_19 => exact qag
  case h_20 => exact (hfr (.call _ _ _ _) (by rw [e]; exact List.mem_cons_self ..)).elim
  case h_21 =>
    rename_i row args k
    have hr : row = "runtime.print$piece" := hfr (.extern row args) (by rw [e]; exact List.mem_cons_self ..)
    subst hr
    rw [qrv]
    exact qc4 hM hfr hcs (qqi _ _ _)
  case h_22 =>
    rename_i id ops draw k
    cases draw with
    | false => exact hto _ (cons1 trivial ht)
    | true =>
      refine qb7 (P := P) (s := choose (.order fr.fn id)) (post := fun t w => match t with
        | .ok t => .go { frame := { fr with todo := .inRegion ops (Region.schedule (P.follows .mixedOrders) ops t) :: k }, callers := cs, status := .running, dying := dy } w
        | .halt _ => .ended (.stuck "order" (fr.pos P)) w) (qbo _) (fun w => ?_) (fun h w _ => trivial) (fun a w => hto (Item.inRegion ops (Region.schedule (P.follows .mixedOrders) ops a) :: k) (cons1 trivial ht)) (fun h w _ _ _ => qag)
      rw [qdi]
      cases ((choose (.order fr.fn id)).runT P w #[]).1 <;> rfl
  case h_23 => exact hto _ ht
  case h_24 =>
    split
    · exact qpb hM hfr hcs
    · exact hgo _ (hfr.finish _)

theorem qpd (hM : Mild P) {g : Goroutine} (hg : okG g) : qai (fun w => stepG P true g w) w := by
  obtain ⟨fr, cs, st, dy, of⟩ := g
  obtain ⟨hfr, hcs⟩ := hg
  unfold stepG
  dsimp only at hfr hcs ⊢
  split
  · exact qru hM hfr _
  · exact qpc hM hfr hcs
  · exact qmv hM hfr hcs
end
end Go.Ride

/- A communication of a goroutine beside others that offer nothing: what it comes to hangs on the world alone, and is steady. -/
namespace Go.Ride
open Go.Conc
def NoP (gs : Array Goroutine) : Prop := ∀ r b, partners gs r b = []
theorem q09 {gs : Array Goroutine} (h : ∀ (i : Nat) (x : Goroutine), gs[i]? = some x → x.status ≠ .blocked) : NoP gs := fun r b => partners_nil fun j g hj => offersAt_of_not_blocked (h j g hj) r b
def ways0 (w : World) (c : CommCase) : List Way :=
 match c.chan with
 | .chan (some r) =>
  match w.heap[r]?, c.send with
  | some (.chan cap buf closed _ _ _), some _ => if closed then [.sendClosed] else if buf.size < cap then [.buffer] else []
  | some (.chan _ buf closed _ _ _), none => if buf.size > 0 then [.buffer] else if closed then [.closed] else []
  | _, _ => []
 | _ => []
theorem que {gs : Array Goroutine} (h : NoP gs) (w : World) (c : CommCase) : ways w gs c = ways0 w c := by
 obtain ⟨ch, send, z⟩ := c
 unfold ways ways0
 dsimp only
 cases ch <;> try rfl
 rename_i o
 cases o with
 | none => rfl
 | some r =>
  dsimp only
  cases ho : w.heap[r]? with
  | none => rfl
  | some ob =>
   have h' : ∀ r b, partners gs r b = [] := h
   cases ob <;> cases send <;> simp only [h']
theorem qrw {w : World} {c : CommCase} {x y : Nat} : Way.partner x y ∉ ways0 w c := by
 unfold ways0
 repeat' split
 all_goals simp
section
variable {P : Program} {w : World}
def qa7 (w : World) (cases : Array CommCase) : List (Nat × CommCase × List Way) := (cases.zipIdx.toList.map fun x => (x.2, x.1, ways0 w x.1)).filter fun x => !x.2.2.isEmpty
def pickC (w : World) (cases : Array CommCase) : Sem (Nat × CommCase × Way) := do
 let a ← choose (.select (qa7 w cases).length)
 let x := (qa7 w cases).getD a (0, default, [])
 let b ← choose (.extern "which waiting goroutine is the partner" x.2.2.length)
 pure (x.1, x.2.1, x.2.2.getD b .closed)
theorem qy7 (cases : Array CommCase) : Mute P (pickC w cases) := by
 unfold pickC
 refine Mute.bind (qbo _) fun a => ?_
 dsimp only
 exact Mute.bind (qbo _) fun b => Mute.pure _
def illC (w : World) (c : CommCase) : Bool := match c.chan with
 | .chan none => false
 | .chan (some r) => !(w.heap[r]? matches some (.chan ..))
 | _ => true
def wayC (P : Program) (g : Goroutine) (cases : Array CommCase) (shape : CommShape) (k : Nat) (c : CommCase) (way : Way) (w : World) : GStep :=
 let r := match c.chan with | .chan (some r) => r | _ => 0
 match (w.heap[r]? : Option Obj), way, c.send with
 | _, .sendClosed, _ =>
  match (runtimePanic (.plain "send on closed channel") : Sem Unit).run P w with
  | .halt (.panic v) w => .go { g with frame := g.frame.raise [{ v, recovered := false }] } w #[]
  | _ => .ended (.stuck "communicate" "") w
 | _, .closed, _ => .go (g.finishComm P cases shape k c.zero false) w #[]
 | some (.chan cap buf closed sent rcvd tm), .buffer, some v =>
  .go (g.finishComm P cases shape k undef false) { w with heap := w.heap.setIfInBounds r (.chan cap (buf.push v) closed (sent + 1) rcvd tm) } #[]
 | some (.chan cap buf closed sent rcvd tm), .buffer, none =>
  .go (g.finishComm P cases shape k (buf.getD 0 undef) true) { w with heap := w.heap.setIfInBounds r (.chan cap (buf.extract 1 buf.size) closed sent (rcvd + 1) tm) } #[]
 | _, _, _ => .ended (.stuck "communicate: no such channel" "") w
def commG (P : Program) (g : Goroutine) (cases : Array CommCase) (blocking : Bool) (shape : CommShape) (w : World) : GStep :=
 if cases.any (illC w) then .ended (.stuck "a communication at a channel whose block is no channel's" (g.frame.pos P)) w else
 if (qa7 w cases).isEmpty then
  if blocking then .go { g with status := .blocked, offers := some (cases, shape) } w #[]
  else .go (g.finishComm P cases shape (-1) undef false) w #[]
 else
  match (pickC w cases).run P w with
  | .halt _ w => .ended (.stuck "communicate" "") w
  | .ok (k, c, way) w => wayC P g cases shape k c way w
def qe1 (i : Nat) (ops : Array MemOp) : Prop := ∀ op ∈ ops, op.g = i ∧ op.act.touch? = none ∧ op.act ≠ .mark .disable ∧ op.act ≠ .mark .enable
def qeb (gs : Array Goroutine) (rest : Rest) : GStep → Stepped
 | .go g w _ => .next { world := w, gs := gs.setIfInBounds 0 g, rest }
 | .ended o w _ => .ended o w
 | _ => .ended (.stuck "" "") default
theorem qpe {cases : Array CommCase} (a b : Nat) {x y : Nat} : ((qa7 w cases).getD a (0, default, [])).2.2.getD b .closed ≠ .partner x y := by
 intro hb
 have h1 : Way.partner x y ∈ ((qa7 w cases).getD a (0, default, [])).2.2 := by
  rw [List.getD_eq_getElem?_getD] at hb
  cases hg : ((qa7 w cases).getD a (0, default, [])).2.2[b]? with
  | none => rw [hg] at hb; cases hb
  | some v =>
   rw [hg] at hb
   cases hb
   exact List.mem_of_getElem? hg
 have h2 : (qa7 w cases).getD a (0, default, []) ∈ qa7 w cases ∨ (qa7 w cases).getD a (0, default, []) = (0, default, []) := by
  rw [List.getD_eq_getElem?_getD]
  cases hg : (qa7 w cases)[a]? with
  | none => exact .inr rfl
  | some v => exact .inl (List.mem_of_getElem? hg)
 rcases h2 with h2 | h2
 ·obtain ⟨hz, _⟩ := List.mem_filter.1 h2
  obtain ⟨z, _, hz⟩ := List.mem_map.1 hz
  rw [← hz] at h1
  exact qrw h1
 ·rw [h2] at h1; cases h1
theorem qrx {cases : Array CommCase} (a b : Nat) (hb : ((qa7 w cases).getD a (0, default, [])).2.2.getD b .closed = .buffer) : ∃ r, ((qa7 w cases).getD a (0, default, [])).2.1.chan = .chan (some r) := by
 have h1 : Way.buffer ∈ ((qa7 w cases).getD a (0, default, [])).2.2 := by
  rw [List.getD_eq_getElem?_getD] at hb
  cases hg : ((qa7 w cases).getD a (0, default, [])).2.2[b]? with
  | none => rw [hg] at hb; cases hb
  | some v =>
   rw [hg] at hb
   cases hb
   exact List.mem_of_getElem? hg
 have h2 : (qa7 w cases).getD a (0, default, []) ∈ qa7 w cases ∨ (qa7 w cases).getD a (0, default, []) = (0, default, []) := by
  rw [List.getD_eq_getElem?_getD]
  cases hg : (qa7 w cases)[a]? with
  | none => exact .inr rfl
  | some v => exact .inl (List.mem_of_getElem? hg)
 rcases h2 with h2 | h2
 ·obtain ⟨hz, _⟩ := List.mem_filter.1 h2
  obtain ⟨z, _, hz⟩ := List.mem_map.1 hz
  rw [← hz] at h1 ⊢
  dsimp only at h1 ⊢
  unfold ways0 at h1
  split at h1
  ·rename_i r hr; exact ⟨r, hr⟩
  ·cases h1
 ·rw [h2] at h1; cases h1
theorem qj6 (q : Question) (w : World) : ∃ a w', (choose q).run P w = .ok a w' := by
 unfold choose
 by_cases hf : q.forced = true
 ·exact ⟨0, w, by simp [Sem.run, hf, pure]⟩
 ·exact ⟨_, _, by simp [Sem.run, hf, pure]; exact ⟨rfl, rfl⟩⟩
theorem quf {cases : Array CommCase} {w₁ : World} : ∃ a b w', (pickC w cases).run P w₁ = .ok (((qa7 w cases).getD a (0, default, [])).1, ((qa7 w cases).getD a (0, default, [])).2.1, ((qa7 w cases).getD a (0, default, [])).2.2.getD b .closed) w' := by
 obtain ⟨a, w₂, ha⟩ := qj6 (P := P) (.select (qa7 w cases).length) w₁
 obtain ⟨b, w₃, hb⟩ := qj6 (P := P) (.extern "which waiting goroutine is the partner" ((qa7 w cases).getD a (0, default, [])).2.2.length) w₂
 refine ⟨a, b, w₃, ?_⟩
 unfold pickC
 rw [Sem.run_bind, ha]
 show Sem.run P (_ >>= _) w₂ = _
 rw [Sem.run_bind, hb]
 rfl
theorem qjh {rest : Rest} (hr : rest.timers = #[]) {gs : Array Goroutine} (hgs : NoP gs) (g : Goroutine) (cases : Array CommCase) (blocking : Bool) (shape : CommShape) :
  (communicate P rest gs 0 g cases blocking shape w).1 = qeb gs rest (commG P g cases blocking shape w) ∧ qe1 0 (communicate P rest gs 0 g cases blocking shape w).2 := by
 have none0 : qe1 0 #[] := by simp [qe1]
 unfold communicate commG
 have hw : ways w gs = ways0 w := funext (que hgs w)
 have hwait : waitingAt rest cases w = some w := by
  unfold waitingAt timerAhead
  rw [hr, if_neg]
  simp only [Bool.not_eq_true, Array.any_eq_false]
  intro i hi
  split <;> simp
 rw [hw]
 by_cases h1 : cases.any (illC w) = true
 ·rw [if_pos h1]
  have e : ∀ {α : Type} (x y : α), (if (cases.any fun c => match c.chan with
   | .chan none => false
   | .chan (some r) => !(w.heap[r]? matches some (.chan ..))
   | _ => true) = true then x else y) = x := fun x y => if_pos h1
  dsimp only
  erw [e]
  exact ⟨rfl, none0⟩
 ·rw [if_neg h1]
  have e : ∀ {α : Type} (x y : α), (if (cases.any fun c => match c.chan with
   | .chan none => false
   | .chan (some r) => !(w.heap[r]? matches some (.chan ..))
   | _ => true) = true then x else y) = y := fun x y => if_neg h1
  dsimp only
  erw [e]
  by_cases h2 : (qa7 w cases).isEmpty = true
  ·rw [if_pos h2]
   erw [if_pos h2]
   cases blocking with
   | false => exact ⟨rfl, none0⟩
   | true =>
    rw [if_pos rfl, hwait]
    exact ⟨rfl, none0⟩
  ·rw [if_neg h2]
   erw [if_neg h2]
   obtain ⟨a, b, w', hp⟩ := quf (P := P) (w := w) (cases := cases) (w₁ := w)
   have hp' := fun x y => qpe (w := w) (cases := cases) a b (x := x) (y := y)
   rw [hp]
   erw [hp]
   dsimp only
   have hbuf := qrx (w := w) (cases := cases) a b
   generalize ((qa7 w cases).getD a (0, default, [])).2.2.getD b .closed = way at hp' hbuf ⊢
   generalize ((qa7 w cases).getD a (0, default, [])).2.1 = c at hbuf ⊢
   generalize ((qa7 w cases).getD a (0, default, [])).1 = k
   unfold wayC
   dsimp only
   cases way with
   | partner x y => exact absurd rfl (hp' x y)
   | sendClosed =>
    dsimp only
    cases hx : (runtimePanic (.plain "send on closed channel") : Sem Unit).run P w' with
    | ok x w => exact ⟨rfl, none0⟩
    | halt x w => cases x <;> exact ⟨rfl, none0⟩
   | closed => exact ⟨rfl, by simp [qe1, MemAct.touch?]⟩
   | buffer =>
    have hg' : ∀ r b, partners gs r b = [] := hgs
    obtain ⟨ch, send, z⟩ := c
    by_cases hch : ∃ r, ch = .chan (some r)
    ·obtain ⟨r, rfl⟩ := hch
     dsimp only
     cases ho : w'.heap[r]? with
     | none => cases send <;> exact ⟨rfl, none0⟩
     | some ob =>
      cases ob <;> cases send <;> first
       | exact ⟨rfl, none0⟩
       | exact ⟨rfl, by simp [qe1, MemAct.touch?]⟩
       | (dsimp only; rw [hg']; exact ⟨rfl, by simp [qe1, MemAct.touch?]⟩)
    ·exact absurd (hbuf rfl) hch
theorem okG.fin {g : Goroutine} (hg : okG g) (cases : Array CommCase) (shape : CommShape) (k : Int) (v : Value) (ok : Bool) : okG (g.finishComm P cases shape k v ok) := ⟨okFrame.finish hg.1 _, hg.2⟩
theorem qpf {g : Goroutine} (hg : okG g) (hs : g.status = .running) (cases : Array CommCase) (shape : CommShape) (k : Nat) (c : CommCase) (way : Way) : qai (fun w => wayC P g cases shape k c way w) w := by
 have hs' : okSt g.status := by rw [hs]; trivial
 unfold wayC
 dsimp only
 generalize (match c.chan with | .chan (some r) => r | _ => 0) = r
 obtain ⟨ch, send, z⟩ := c
 dsimp only
 cases way with
 | partner x y => exact .inl trivial
 | sendClosed =>
  refine qcs (P := P) (s := (runtimePanic (.plain "send on closed channel") : Sem Unit)) (Q := fun _ k => k = 0) (E := fun _ _ => #[]) (post := fun t w => match t with
   | .halt (.panic v) => .go { g with frame := g.frame.raise [{ v, recovered := false }] } w #[]
   | _ => .ended (.stuck "communicate" "") w) (qa6 _) (fun w => ?_) (fun _ _ _ _ _ => rfl) (fun _ _ _ _ => .inr fun _ => rfl) (fun h w he => ?_) (fun a w _ => qag) (fun h w _ _ _ => ?_) (fun _ _ h => h)
  ·rw [qdi]
   cases ((runtimePanic (.plain "send on closed channel") : Sem Unit).runT P w #[]).1 with
   | ok x w' => exact .inr ⟨trivial, fun _ => trivial⟩
   | halt x w' => cases x <;> first | exact .inl rfl | exact .inr ⟨trivial, fun _ => trivial⟩
  ·cases h <;> first | trivial | cases he
  ·cases h <;> first | exact qag | exact qad ⟨hg.1.raise _, hg.2⟩ hs'
 | closed => exact qad (hg.fin _ _ _ _ _)
 | buffer =>
  have hr : ∀ τ d, (re w τ d).heap[r]? = w.heap[r]? := fun _ _ => rfl
  cases ho : w.heap[r]? with
  | none => exact .inl (by dsimp only; rw [ho]; cases send <;> trivial)
  | some ob =>
   cases ob <;> first
    | (refine .inl ?_; dsimp only; rw [ho]; cases send <;> trivial)
    | skip
   cases send with
   | none => exact qbu (by rw [ho]; rfl) (by rw [ho]; rfl) (by rw [ho]; rfl) (by rw [ho]; exact ⟨hg.fin _ _ _ _ _, trivial⟩) (fun τ d => by rw [hr, ho]; rfl)
   | some v => exact qbu (by rw [ho]; rfl) (by rw [ho]; rfl) (by rw [ho]; rfl) (by rw [ho]; exact ⟨hg.fin _ _ _ _ _, trivial⟩) (fun τ d => by rw [hr, ho]; rfl)
theorem qne {g : Goroutine} (hg : okG g) (hs : g.status = .running) (cases : Array CommCase) (blocking : Bool) (shape : CommShape) : qai (fun w => commG P g cases blocking shape w) w := by
 unfold commG
 refine qea (fun τ d => Iff.rfl) (fun _ => qag) (fun _ => ?_)
 refine qea (fun τ d => Iff.rfl) (fun _ => ?_) (fun _ => ?_)
 ·cases blocking with
  | true => exact qad hg
  | false => exact qad (hg.fin _ _ _ _ _)
 ·refine qbs (G := fun w' => match (pickC w cases).run P w' with
   | .halt _ w => .ended (.stuck "communicate" "") w
   | .ok (k, c, way) w => wayC P g cases shape k c way w) rfl (fun τ d => rfl) ?_
  refine qb7 (P := P) (s := pickC w cases) (post := fun t w => match t with
   | .halt _ => .ended (.stuck "communicate" "") w
   | .ok (k, c, way) => wayC P g cases shape k c way w) (qy7 _) (fun w' => ?_) (fun h w _ => trivial) (fun a w => ?_) (fun h w _ _ _ => qag)
  ·rw [qdi]
   cases ((pickC w cases).runT P w' #[]).1 <;> rfl
  ·obtain ⟨k, c, way⟩ := a
   exact qpf hg hs cases shape k c way
end
end Go.Ride
