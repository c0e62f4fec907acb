import Derived.Test.YtlgjaefcfnndhaaGreatDoorK2
set_option linter.unusedVariables false
set_option linter.unusedSimpArgs false
namespace Go.Ride
def good : Next → Prop
 | .value _ | .skip | .enter _ _ | .round _ _ _ _ _ | .defer _ | .recover | .comm _ _ _ | .spawn _ => True
 | .row r _ => r = "runtime.print$piece"
 | .coroswitch _ true => True
 | _ => False
def Fine (P : Program) (s : Sem Next) : Prop := tame P s 0 fun n k => k = 0 ∧ good n
structure Mild (P : Program) : Prop where
 count : ∀ (f : Nat) (fn : Func), P.funcs[f]? = some fn → fn.name ≠ "runtime.NumGoroutine"
 rows : ∀ (f : Nat) (fn : Func), P.funcs[f]? = some fn → fn.body = none → Extern.findNext fn = none ∧ ∀ e, Extern.find fn = some e → ∀ args, Mute P (e args)
section
variable {P : Program}
theorem Fine.value {s : Sem Value} (h : Mute P s) : Fine P (do pure (.value (← s))) := tame_of_mute h fun a => ⟨rfl, trivial⟩
theorem Fine.skip {s : Sem Unit} (h : Mute P s) : Fine P (do s; pure .skip) := tame_of_mute h fun a => ⟨rfl, trivial⟩
theorem Fine.halt {h : Halt} (h1 : h ≠ .waiting) (h2 : h ≠ .goexit) : Fine P (.halt h) := ⟨h1, h2, .inl rfl⟩
theorem Fine.stuck (x) : Fine P (Go.stuck x) := Fine.halt (by simp) (by simp)
theorem Fine.unsupported (x) : Fine P (Go.unsupported x) := Fine.halt (by simp) (by simp)
theorem Fine.ret {n : Next} (h : good n) : Fine P (pure n) := ⟨rfl, h⟩
theorem Fine.bind {α : Type} {s : Sem α} {f : α → Sem Next} (h : Mute P s) (hf : ∀ a, Fine P (f a)) : Fine P (s >>= f) := tame_of_mute h hf
theorem Fine.runtimePanic (e) : Fine P (Go.runtimePanic e) := by
 unfold Go.runtimePanic
 refine Fine.bind m_program fun p => ?_
 cases e <;> first
  | exact Fine.halt (by simp) (by simp)
  | (dsimp only; refine Fine.bind (m_elemOf _) fun a => Fine.bind (m_newVar _ _) fun b => Fine.halt (by simp) (by simp))
theorem t_piece (a b : Array TypeId) (args : Array Value) : Fine P (Extern.PrintPieces.piece a b args) := by
 unfold Extern.PrintPieces.piece
 split
 ·rename_i first h0
  split
  ·rename_i p h1
   dsimp only
   split
   ·exact Fine.halt (by simp) (by simp)
   ·have hrest : ∀ (fi : Bool), Fine P (do
      writeFd 2 p
      if (!(args.size == 2)) = true then pure (Next.row "runtime.print$piece" (#[Value.bool false] ++ args.extract 2))
      else do
       if (!fi) = true then
        mark Mark.disable
        let l ← program
        store (printLock l) (Value.bool false) Mode.atomic
        mark Mark.enable
       pure (Next.value (Value.tuple #[]))) := by
     intro fi
     refine ⟨⟨_, rfl, rfl⟩, fun r => ?_⟩
     have hgo : Fine P (do
      if (!(args.size == 2)) = true then pure (Next.row "runtime.print$piece" (#[Value.bool false] ++ args.extract 2))
      else do
       if (!fi) = true then
        mark Mark.disable
        let l ← program
        store (printLock l) (Value.bool false) Mode.atomic
        mark Mark.enable
       pure (Next.value (Value.tuple #[]))) := by
      split
      ·exact ⟨rfl, rfl⟩
      ·cases fi
       ·exact ⟨Nat.succ_pos _, rfl, trivial⟩
       ·exact ⟨rfl, trivial⟩
     cases r <;> first | exact hgo | exact ⟨by simp, by simp, .inl rfl⟩
    cases first
    ·exact hrest false
    · -- the first piece: the lock is looked at within a deaf stretch
     intro v
     cases v <;> first
      | exact ⟨by simp, by simp, .inr rfl⟩
      | skip
     rename_i x
     cases x
     ·by_cases hl : (args.size == 2) = true
      ·have := hrest true
       simp only [hl] at this ⊢
       exact ⟨Nat.succ_pos _, this⟩
      ·have hl' : (args.size == 2) = false := by simpa using hl
       have := hrest true
       simp only [hl'] at this ⊢
       exact ⟨Nat.succ_pos _, this⟩
     ·exact ⟨by simp, by simp, .inr rfl⟩
  ·exact Fine.stuck _
 ·exact Fine.stuck _
theorem m_forList' {α β : Type} (l : List α) (b : β) (f : (a : α) → a ∈ l → β → Sem (ForInStep β)) (h : ∀ a m b, Mute P (f a m b)) : Mute P (forIn' l b f) := by
 induction l generalizing b with
 | nil => exact Mute.pure b
 | cons a l ih =>
  rw [List.forIn'_cons]
  refine (h a _ b).bind fun x => ?_
  cases x with
  | done b => exact Mute.pure b
  | yield b => exact ih b _ fun a m b => h a _ b
theorem m_forRange' {β : Type} (l : Std.Legacy.Range) (b : β) (f : (a : Nat) → a ∈ l → β → Sem (ForInStep β)) (h : ∀ a m b, Mute P (f a m b)) : Mute P (forIn' l b f) := by
 rw [Std.Legacy.Range.forIn'_eq_forIn'_range']; exact m_forList' _ _ _ fun a m b => h a _ b
theorem m_pieces (ln : Bool) (c : Array Bool) (ts : Array TypeId) (as : Array Value) : Mute P (Builtin.pieces ln c ts as) := by
 unfold Builtin.pieces
 repeat' (first | exact Mute.pure _ | exact m_stuck _ | exact m_Builtin_printOne _ _ | (refine Mute.bind ?_ ?_) | (refine m_forRange' _ _ _ ?_) | (refine m_forArray _ _ _ ?_) | (refine m_ite ?_ ?_) | intro _ | split | dsimp only)
theorem t_printMarked (ln : Bool) (c : Array Bool) (ts : Array TypeId) (as : Array Value) : Fine P (Builtin.printMarked ln c ts as) := by
 unfold Builtin.printMarked
 refine Fine.bind (m_pieces _ _ _ _) fun ps => ?_
 split
 ·exact Fine.ret trivial
 ·exact t_piece _ _ _
theorem t_builtin (b : Builtin) (ts : Array TypeId) (t : TypeId) (c : Array Bool) (as : Array Value) : Fine P (builtin b ts t c as) := by
 unfold builtin
 cases b <;> first
  | exact Fine.value (m_Builtin_append_ _ _ _) | exact Fine.value (m_Builtin_cap_ _ _ _) | exact Fine.value (m_Builtin_clear_ _ _ _) | exact Fine.value (m_Builtin_close_ _ _ _)
  | exact Fine.value (m_Builtin_complex_ _ _ _) | exact Fine.value (m_Builtin_copy_ _ _ _) | exact Fine.value (m_Builtin_delete_ _ _ _) | exact Fine.value (m_Builtin_imag_ _ _ _)
  | exact Fine.value (m_Builtin_len_ _ _ _) | exact Fine.value (m_Builtin_max_ _ _ _) | exact Fine.value (m_Builtin_min_ _ _ _) | exact Fine.value (m_Instr_panic _)
  | exact t_printMarked _ _ _ _ | exact Fine.value (m_Builtin_real_ _ _ _) | exact Fine.ret trivial | exact Fine.stuck _ | exact Fine.unsupported _
  | exact Fine.value (m_Builtin_unsafeAdd_ _ _ _) | exact Fine.value (m_Builtin_unsafeSlice_ _ _ _) | exact Fine.value (m_Builtin_unsafeSliceData_ _ _ _) | exact Fine.value (m_Builtin_unsafeString_ _ _ _) | exact Fine.value (m_Builtin_unsafeStringData_ _ _ _)
  | exact Fine.bind (m_typeInfo _) fun i => Fine.ret trivial
theorem t_callFunc (hM : Mild P) (f : FuncId) (as : Array Value) : Fine P (callFunc f as) := by
 unfold callFunc
 show Fine P (program >>= fun p => _)
 show Fine P _
 unfold Fine
 show tame P (match P.funcs[f]? with | none => stuck "call: no such function" | some fn => _) 0 _
 split
 ·exact Fine.stuck _
 ·rename_i fn hf
  have hn : (fn.name == "runtime.NumGoroutine") = false := by simpa using hM.count f fn hf
  rw [hn]
  simp only [Bool.false_eq_true, if_false]
  cases hb : fn.body with
  | some c => exact ⟨rfl, trivial⟩
  | none =>
   obtain ⟨h1, h2⟩ := hM.rows f fn hf hb
   simp only [Option.isNone_none, if_true, h1]
   show tame P (match Extern.find fn with | some e => _ | none => _) 0 _
   cases he : Extern.find fn with
   | some e => exact Fine.value (h2 e he as)
   | none =>
    dsimp only
    split
    ·exact ⟨rfl, trivial⟩
    ·exact Fine.unsupported _
theorem t_callMethod (hM : Mild P) (r : Value) (n : String) (as : Array Value) : Fine P (callMethod r n as) := by
 unfold callMethod
 split
 ·refine Fine.bind m_program fun p => Fine.bind (m_method _ _ _ _) fun x => t_callFunc hM _ _
 ·exact Fine.runtimePanic _
 ·exact Fine.stuck _
theorem t_yield (l : Nat) (as : Array Value) : Fine P (Instr.yield l as) := by
 unfold Instr.yield
 refine Fine.bind (m_Instr_getLoop _) fun r => ?_
 dsimp only
 split
 ·exact Fine.bind (m_stuck _) fun _ => Fine.ret trivial
 ·exact Fine.ret trivial
theorem t_invoke (hM : Mild P) (t : Target) (as : Array Value) : Fine P (invoke t as) := by
 unfold invoke
 split
 ·exact Fine.runtimePanic _
 ·exact t_builtin _ _ _ _ _
 ·exact t_callFunc hM _ _
 ·split
  ·exact t_callMethod hM _ _ _
  ·exact Fine.stuck _
 ·split
  ·refine Fine.bind (s := underlying _) (m_underlying _) fun d => ?_
   repeat' (first | exact t_callMethod hM _ _ _ | (refine Fine.bind (Mute.pure _) fun _ => ?_) | split | dsimp only)
  ·exact Fine.stuck _
 ·split
  ·exact Fine.bind (m_receiverVia _ _ _ _) fun r => t_callFunc hM _ _
  ·exact Fine.stuck _
 ·exact t_yield _ _
 ·exact Fine.stuck _
 ·exact Fine.ret trivial
theorem t_execOp (hM : Mild P) (ρ : Operand → Value) (o : Oper) : Fine P (execOp ρ o) := by
 unfold execOp
 generalize o.op = op
 cases op <;> dsimp only
 case move => exact Fine.ret trivial
 case assign => exact Fine.ret trivial
 case pick => exact Fine.bind (m_asBool _) fun b => by split <;> exact Fine.ret trivial
 case alloc => exact Fine.value (m_Instr_alloc _ _ _)
 case box => exact Fine.value (m_Instr_box _ _)
 case build => exact Fine.value (m_Instr_build _ _)
 case buildSlice => exact Fine.value (m_Instr_buildSlice _ _ _)
 case insert => exact Fine.skip (m_Instr_mapUpdate _ _ _ _)
 case load => exact Fine.value (m_Instr_loadAt _ _)
 case store => exact Fine.skip (m_Instr_storeAt _ _ _)
 case ready => exact Fine.skip (m_Instr_ready _)
 case waits => exact Fine.value (m_Instr_waits _)
 case nilCheck =>
  repeat' (first | exact Fine.runtimePanic _ | exact Fine.ret trivial | exact Fine.unsupported _ | (refine Fine.bind m_program fun _ => ?_) | (refine Fine.bind (m_nilAhead _ _ _ _) fun _ => ?_) | (refine Fine.bind (m_unsupported _) fun _ => ?_) | split | dsimp only)
 case binOp => exact Fine.value (Mute.bind (m_eqGuard _ _ _ _ _ _) fun _ => m_binOp _ _ _ _)
 case unOp => exact Fine.value (m_Op_unary _ _)
 case convert => exact Fine.value (m_convert _ _ _)
 case sliceToArrayPointer => exact Fine.value (m_Instr_arrayAt _ _)
 case makeInterface => exact Fine.value (m_Instr_makeInterface _ _)
 case makeFunc => exact Fine.value (m_Instr_makeFunc _ _ _)
 case makeMap => exact Fine.value (m_Instr_makeMap _ _)
 case makeChan => exact Fine.value (m_Instr_makeChan _ _)
 case makeSlice => exact Fine.value (m_Instr_makeSlice _ _ _)
 case slice => exact Fine.value (m_Instr_sliceAt _ _ _ _ _)
 case fieldAddr => exact Fine.value (m_Instr_fieldAt _ _ _)
 case field => exact Fine.value (m_Instr_field _ _ _)
 case indexAddr => exact Fine.value (m_Instr_indexAt _ _ _)
 case index => exact Fine.value (m_Instr_index _ _ _)
 case lookup => exact Fine.value (m_Instr_lookup _ _ _ _)
 case mapUpdate => exact Fine.skip (m_Instr_mapUpdate _ _ _ _)
 case mapEntry => exact Fine.value (m_Instr_mapEntry _ _ _)
 case entryStore => exact Fine.skip (m_Instr_entryStore _ _ _ _)
 case range => exact Fine.value (m_Instr_range _ _)
 case next => exact Fine.value (m_Instr_next _ _ _)
 case entry => exact Fine.value (m_Instr_entry _)
 case typeAssert => exact Fine.value (m_Instr_typeAssert _ _ _ _)
 case extract => exact Fine.value (m_Instr_extract _ _)
 case call => exact Fine.bind (m_resolve _ _ _) fun d => t_invoke hM _ _
 case go => exact Fine.bind (m_resolve _ _ _) fun d => Fine.ret trivial
 case defer => exact Fine.bind (m_resolve _ _ _) fun d => Fine.ret trivial
 case panic => exact Fine.value (m_Instr_panic _)
 case send => exact Fine.ret trivial
 case recv =>
  refine Fine.bind (s := underlying _) (m_underlying _) fun d => ?_
  split
  ·exact Fine.bind (m_zeroValue _) fun _ => Fine.ret trivial
  ·exact Fine.stuck _
 case select =>
  exact Fine.bind (m_mapArray _ _ fun a => Mute.bind (m_zeroValue _) fun _ => Mute.pure _) fun _ => Fine.ret trivial
end
end Go.Ride

/- The rows of the run-time errors' methods say no word of the library's. -/
set_option maxHeartbeats 400000
namespace Go.Ride
section
variable {P : Program}
theorem mr_text : ∀ s, Mute P (Go.Extern.RuntimeError.text s) := by
 intro s
 unfold Go.Extern.RuntimeError.text
 repeat' (first | exact m_program | exact Mute.pure _ | exact Mute.pure' _ | exact m_stuck _ | exact m_unsupported _ | exact m_load _ _ | exact m_typeInfo _ | exact m_typeStr _ | exact m_asString _ | exact m_asAgg _ | exact m_asInt _ | exact m_asAddr _ | exact m_runtimePanic _ | assumption | (refine Mute.bind ?_ ?_) | (refine m_ite ?_ ?_) | (refine Mute.map ?_) | intro _ | split | dsimp only)
theorem mr_boundsError : ∀ x, Mute P (Go.Extern.RuntimeError.boundsError x) := by
 intro x
 unfold Go.Extern.RuntimeError.boundsError
 rcases x with ⟨_ | ⟨v, _ | ⟨u, t⟩⟩⟩ <;> (try exact m_stuck _)
 cases v <;> (try exact m_stuck _)
 rename_i a
 rcases a with ⟨_ | ⟨v1, _ | ⟨v2, _ | ⟨v3, _ | ⟨v4, _ | ⟨u, t⟩⟩⟩⟩⟩⟩ <;> (try exact m_stuck _)
 ·cases v1 <;> (try exact m_stuck _) <;> cases v2 <;> (try exact m_stuck _) <;> cases v3 <;> (try exact m_stuck _) <;> cases v4 <;> (try exact m_stuck _)
  rename_i k1 x k2 y sg k4 code
  show Mute P (match (if (sg && decide (x < 0)) = true then Go.Extern.RuntimeError.boundsNegErrorFmts else Go.Extern.RuntimeError.boundsErrorFmts)[code.toNat]? with
   | some fmt => Go.Extern.RuntimeError.text ("runtime error: " ++ (fmt.replace "%x" (toString (if sg = true then x else IntKind.u64.wrap x))).replace "%y" (toString y))
   | none => Go.stuck "boundsError: no such code")
  cases (if (sg && decide (x < 0)) = true then Go.Extern.RuntimeError.boundsNegErrorFmts else Go.Extern.RuntimeError.boundsErrorFmts)[code.toNat]? with
  | none => exact m_stuck _
  | some fmt => exact mr_text _
theorem mr_described : ∀ v, Mute P (Go.Extern.RuntimeError.described v) := by
 intro v
 unfold Go.Extern.RuntimeError.described
 repeat' (first | exact m_program | exact Mute.pure _ | exact Mute.pure' _ | exact m_stuck _ | exact m_unsupported _ | exact m_load _ _ | exact m_typeInfo _ | exact m_typeStr _ | exact m_asString _ | exact m_asAgg _ | exact m_asInt _ | exact m_asAddr _ | exact m_runtimePanic _ | assumption | (refine Mute.bind ?_ ?_) | (refine m_ite ?_ ?_) | (refine Mute.map ?_) | intro _ | split | dsimp only)
theorem mr_pkgpathOf : ∀ i, Mute P (Go.Extern.RuntimeError.pkgpathOf i) := by
 intro i
 unfold Go.Extern.RuntimeError.pkgpathOf
 repeat' (first | exact m_program | exact Mute.pure _ | exact Mute.pure' _ | exact m_stuck _ | exact m_unsupported _ | exact m_load _ _ | exact m_typeInfo _ | exact m_typeStr _ | exact m_asString _ | exact m_asAgg _ | exact m_asInt _ | exact m_asAddr _ | exact m_runtimePanic _ | assumption | (refine Mute.bind ?_ ?_) | (refine m_ite ?_ ?_) | (refine Mute.map ?_) | intro _ | split | dsimp only)
theorem mr_typeAssertionError : ∀ x, Mute P (Go.Extern.RuntimeError.typeAssertionError x) := by
 intro x
 unfold Go.Extern.RuntimeError.typeAssertionError
 repeat' (first | exact m_program | exact Mute.pure _ | exact Mute.pure' _ | exact m_stuck _ | exact m_unsupported _ | exact m_load _ _ | exact m_typeInfo _ | exact m_typeStr _ | exact m_asString _ | exact m_asAgg _ | exact m_asInt _ | exact m_asAddr _ | exact m_runtimePanic _ | exact mr_text _ | exact mr_described _ | exact mr_pkgpathOf _ | assumption | (refine Mute.bind ?_ ?_) | (refine m_ite ?_ ?_) | (refine Mute.map ?_) | intro _ | split | dsimp only)
theorem mr_unhashableTypeError : ∀ x, Mute P (Go.Extern.RuntimeError.unhashableTypeError x) := by
 intro x
 unfold Go.Extern.RuntimeError.unhashableTypeError
 rcases x with ⟨_ | ⟨v, _ | ⟨u, t⟩⟩⟩ <;> (try exact m_stuck _)
 cases v <;> (try exact m_stuck _)
 rename_i a
 rcases a with ⟨_ | ⟨y, _ | ⟨u, t⟩⟩⟩ <;> (try exact m_stuck _)
 try dsimp only
 repeat' (first | exact m_program | exact Mute.pure _ | exact Mute.pure' _ | exact m_stuck _ | exact m_unsupported _ | exact m_load _ _ | exact m_typeInfo _ | exact m_typeStr _ | exact m_asString _ | exact m_asAgg _ | exact m_asInt _ | exact m_asAddr _ | exact m_runtimePanic _ | exact mr_text _ | exact mr_described _ | assumption | (refine Mute.bind ?_ ?_) | (refine m_ite ?_ ?_) | (refine Mute.map ?_) | intro _ | split | dsimp only)
theorem mr_nothing : ∀ x, Mute P (Go.Extern.RuntimeError.nothing x) := by
 intro x
 unfold Go.Extern.RuntimeError.nothing
 repeat' (first | exact m_program | exact Mute.pure _ | exact Mute.pure' _ | exact m_stuck _ | exact m_unsupported _ | exact m_load _ _ | exact m_typeInfo _ | exact m_typeStr _ | exact m_asString _ | exact m_asAgg _ | exact m_asInt _ | exact m_asAddr _ | exact m_runtimePanic _ | assumption | (refine Mute.bind ?_ ?_) | (refine m_ite ?_ ?_) | (refine Mute.map ?_) | intro _ | split | dsimp only)
end
end Go.Ride
