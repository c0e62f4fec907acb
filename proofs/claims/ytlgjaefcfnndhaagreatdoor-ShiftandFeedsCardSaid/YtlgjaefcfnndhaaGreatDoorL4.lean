/- One step of a goroutine, whatever it stands at, is steady: the whole step. -/
import Derived.Test.YtlgjaefcfnndhaaGreatDoorL3
import Derived.KernelRfl
set_option linter.unusedVariables false
set_option linter.unusedSimpArgs false
set_option maxHeartbeats 16000000
namespace Go.Ride

section
variable {P : Program} {w : World}

theorem qqi : Extern.next "runtime.print$piece" = some (Extern.PrintPieces.piece #[] #[]) := by kernel_rfl

theorem qds {fr : Frame} {cs : List Frame} {dy : Option Dying} (hfr : okFrame fr) (hcs : ∀ c ∈ cs, okFrame c) (jump : Option Code) : qah (fun w => (match fr.roundOf with
      | none => if jump matches none | some .ret then GStep.go { frame := { fr with mode := .returning }, callers := cs, status := .running, dying := dy } w else .ended (.stuck "exit, goto: no such block or label" (fr.pos P)) w
      | some l =>
        let (r, es) := (Instr.endRound l jump).runT P w #[]
        GStep.after (seen P fr.fn es) <| match r with
        | .ok v w => doReturn P true fr cs dy v w
        | .halt _ w => .ended (.stuck "range over a function: no such loop" (fr.pos P)) w : GStep)) w := by
  split
  · exact qeb (fun _ _ => Iff.rfl) (fun _ => qad ⟨hfr, hcs⟩) (fun _ => qag)
  · rename_i l _
    refine qd4 (P := P) (fn := fr.fn) (s := Instr.endRound l jump) (post := fun t w => match t with
      | .ok v => doReturn P true fr cs dy v w
      | .halt _ => .ended (.stuck "range over a function: no such loop" (fr.pos P)) w) (qi1 _ _) (fun w => .inl ?_) (fun a w => qdr hfr hcs) (fun h w => trivial)
    obtain ⟨r, es⟩ := (Instr.endRound l jump).runT P w #[]
    cases r <;> rfl

theorem qn4 (hM : Mild P) {fr : Frame} {cs : List Frame} {dy : Option Dying} (hfr : okFrame fr) (hcs : ∀ c ∈ cs, okFrame c) : qah (fun w => stepG.oper P true fr cs dy w) w := by
  unfold stepG.oper
  split
  · exact qag
  · split
    · exact qda hM hfr hcs (Fine.bind (qd9 _ _ _) fun d => Fine.skip (qgc _ _))
    · exact qda hM hfr hcs (qu3 hM _ _)

theorem qn5 (hM : Mild P) {fr : Frame} {cs : List Frame} {dy : Option Dying} (hfr : okFrame fr) (hcs : ∀ c ∈ cs, okFrame c) : qah (fun w => stepG.exec P true true fr cs dy w) w := by
  have hto : ∀ {w : World} (k : List Item), (∀ i ∈ k, qc0 i) → qah (fun w => GStep.go { frame := { fr with todo := k }, callers := cs, status := .running, dying := dy } w) w := fun {w} k hk => qad ⟨hk, hcs⟩
  have hgo : ∀ g : Frame, okFrame g → qah (fun w => GStep.go { frame := g, callers := cs, status := .running, dying := dy } w) w := fun g hg => qad ⟨hg, hcs⟩
  have cons1 : ∀ {i : Item} {k : List Item}, qc0 i → (∀ x ∈ k, qc0 x) → ∀ x ∈ i :: k, qc0 x := fun hi hk x hx => by
    rcases List.mem_cons.1 hx with rfl | hx
    · exact hi
    · exact hk x hx
  unfold stepG.exec
  dsimp only
  split
  · exact qds hfr hcs none
  · exact qds hfr hcs (some .ret)
  all_goals (rename_i e; try (have ht := hfr.tail e))
  case h_3 | h_4 | h_5 | h_6 => exact hto _ ht
  case h_7 => exact hto _ (cons1 trivial (cons1 trivial ht))
  case h_8 =>
    split
    · split <;> exact hto _ (cons1 trivial ht)
    · exact qag
  case h_9 | h_10 | h_11 | h_12 => exact hto _ (cons1 trivial (cons1 trivial ht))
  case h_13 =>
    rename_i id k
    cases he : exitTo id k with
    | none => exact qds hfr hcs (some (.exit id))
    | some k' => exact hto _ (qhg id k k' ht he)
  case h_14 =>
    rename_i id k
    cases he : gotoIn id k with
    | none => exact qds hfr hcs (some (.goto id))
    | some k' => exact hto _ (qhh id k k' ht he)
  case h_15 =>
    rename_i f params assign body k
    refine qd4 (P := P) (fn := fr.fn) (s := Instr.enterLoop fr.fn fr.tmps params assign body fr.roundOf) (post := fun t w => match t with
      | .ok (l, mark) =>
        stepG.apply P true { fr with todo := .inRangeFunc l :: k, defers := mark ++ fr.defers } cs dy (do
          let d ← resolve fr.eval { callee := .value f, args := #[.const (.func (.yield l) #[] #[])], argTypes := #[] } 0
          invoke d.target d.args) w
      | .halt _ => .ended (.stuck "range over a function: no such loop" (fr.pos P)) w) (qif _ _ _ _ _ _) (fun w => .inl ?_) (fun a w => ?_) (fun h w => trivial)
    · obtain ⟨r, es⟩ := (Instr.enterLoop fr.fn fr.tmps params assign body fr.roundOf).runT P w #[]
      cases r <;> rfl
    · obtain ⟨l, mark⟩ := a
      exact qda hM (fr := { fr with todo := .inRangeFunc l :: k, defers := mark ++ fr.defers }) (cons1 trivial ht) hcs (Fine.bind (qd9 _ _ _) fun d => qgf hM _ _)
  case h_16 => exact qag
  case h_17 =>
    refine qda hM hfr hcs (Fine.skip ?_)
    cases fr.roundOf with
    | none => exact qae _
    | some l => exact qhb l
  case h_18 =>
    rename_i l k
    refine qcv (P := P) (s := Instr.endLoop l) (Q := fun _ k => k = 0) (E := fun _ es => seen P fr.fn es) (post := fun t w => match t with
      | .ok jump => .go { frame := { fr with todo := (jump.map Item.code).toList ++ k }, callers := cs, status := .running, dying := dy } w
      | .halt (.panic v) => .go { frame := fr.raise [{ v, recovered := false }], callers := cs, status := .running, dying := dy } w
      | .halt _ => .ended (.stuck "range over a function: no such loop" (fr.pos P)) w) (qjr _) (fun w => .inl ?_) (fun _ _ hm he => qe0 hm he) (fun h es hh he => ?_) (fun h w he => ?_) (fun a w _ => ?_) (fun h w _ _ _ => ?_) (fun _ _ h => h)
    · obtain ⟨r, es⟩ := (Instr.endLoop l).runT P w #[]
      rcases r with v | h
      · rfl
      · cases h <;> rfl
    · cases h <;> first | exact .inl fun w => trivial | (exfalso; revert hh; simp [hush]; done)
    · cases h <;> first | trivial | (exfalso; revert he; simp [ends]; done)
    · refine hto ((a.map Item.code).toList ++ k) fun x hx => ?_
      rcases List.mem_append.1 hx with hx | hx
      · cases a with
        | none => simp at hx
        | some c => simp at hx; subst hx; trivial
      · exact ht x hx
    · cases h <;> first | exact qag | exact qad ⟨hfr.raise _, hcs⟩
  case h_19 => exact qag
  case h_20 => exact (hfr (.call _ _ _ _) (by rw [e]; exact List.mem_cons_self ..)).elim
  case h_21 =>
    rename_i row args k
    have hr : row = "runtime.print$piece" := hfr (.extern row args) (by rw [e]; exact List.mem_cons_self ..)
    subst hr
    rw [qqi]
    exact qda hM hfr hcs (qo7 _ _ _)
  case h_22 =>
    rename_i id ops draw k
    cases draw with
    | false => exact hto _ (cons1 trivial ht)
    | true =>
      refine qb9 (P := P) (s := choose (.order fr.fn id)) (post := fun t w => match t with
        | .ok t => .go { frame := { fr with todo := .inRegion ops (Region.schedule (P.follows .mixedOrders) ops t) :: k }, callers := cs, status := .running, dying := dy } w
        | .halt _ => .ended (.stuck "order" (fr.pos P)) w) (qbk _) (fun w => ?_) (fun h w _ => trivial) (fun a w => hto (Item.inRegion ops (Region.schedule (P.follows .mixedOrders) ops a) :: k) (cons1 trivial ht)) (fun h w _ _ _ => qag)
      rw [qdn]
      cases ((choose (.order fr.fn id)).runT P w #[]).1 <;> rfl
  case h_23 => exact hto _ ht
  case h_24 =>
    split
    · exact qn4 hM hfr hcs
    · exact hgo _ (hfr.finish _)

theorem qn6 (hM : Mild P) {g : Goroutine} (hg : okG g) : qah (fun w => stepG P true g w) w := by
  obtain ⟨fr, cs, st, dy, of⟩ := g
  obtain ⟨hfr, hcs⟩ := hg
  unfold stepG
  dsimp only at hfr hcs ⊢
  split
  · exact qqh hM hfr _
  · exact qn5 hM hfr hcs
  · exact ql2 hM hfr hcs
end
end Go.Ride
