/- Every piece of the semantics of Go's own operations says no word of the library's, whatever its arguments are (for the law of goroutines that walk beside leavers). -/
import Derived.Test.YtlgjaefcfnndhaaGreatDoorK1
import Derived.Laws.Sem
set_option linter.unusedVariables false
set_option linter.unusedSimpArgs false
set_option maxHeartbeats 400000
namespace Go.Ride
section
variable {P : Program}
theorem m_load (x0 x1) : Mute P (Go.load x0 x1) := fun _ => rfl
theorem m_store (x0 x1 x2) : Mute P (Go.store x0 x1 x2) := rfl
theorem m_newObj (x0) : Mute P (Go.newObj x0) := fun _ => rfl
theorem m_shape (x0) : Mute P (Go.shape x0) := fun _ => rfl
theorem m_freeze (x0 x1) : Mute P (Go.freeze x0 x1) := rfl
theorem m_frozen (x0) : Mute P (Go.frozen x0) := fun _ => rfl
theorem m_getObj (x0) : Mute P (Go.getObj x0) := fun _ => rfl
theorem m_setObj (x0 x1) : Mute P (Go.setObj x0 x1) := rfl
theorem m_choose (x0) : Mute P (Go.choose x0) := fun _ => rfl
theorem m_program : Mute P Go.program := rfl
theorem m_askRoom (x0) : Mute P (Go.askRoom x0) := by unfold Go.askRoom; split <;> rfl
theorem m_stuck {α : Type} (x0) : Mute P (Go.stuck (α := α) x0) := Mute.halt (by simp) (by simp)
theorem m_unsupported {α : Type} (x0) : Mute P (Go.unsupported (α := α) x0) := Mute.halt (by simp) (by simp)
theorem m_goPanic {α : Type} (x0) : Mute P (Go.goPanic (α := α) x0) := Mute.halt (by simp) (by simp)
theorem m_throw {α : Type} (x0) : Mute P (Go.throw (α := α) x0) := Mute.halt (by simp) (by simp)
theorem m_forList {α β : Type} (l : List α) (b : β) (f : α → β → Sem (ForInStep β)) (h : ∀ a b, Mute P (f a b)) : Mute P (forIn l b f) := by
 induction l generalizing b with
 | nil => exact Mute.pure b
 | cons a l ih =>
  rw [List.forIn_cons]
  refine (h a b).bind fun x => ?_
  cases x with
  | done b => exact Mute.pure b
  | yield b => exact ih b
theorem m_forArray {α β : Type} (l : Array α) (b : β) (f : α → β → Sem (ForInStep β)) (h : ∀ a b, Mute P (f a b)) : Mute P (forIn l b f) := by
 rw [← Array.forIn_toList]; exact m_forList _ _ _ h
theorem m_forRange {β : Type} (l : Std.Legacy.Range) (b : β) (f : Nat → β → Sem (ForInStep β)) (h : ∀ a b, Mute P (f a b)) : Mute P (forIn l b f) := by
 rw [Std.Legacy.Range.forIn_eq_forIn_range']; exact m_forList _ _ _ h
theorem m_mapList {α β : Type} (l : List α) (f : α → Sem β) (h : ∀ a, Mute P (f a)) : Mute P (l.mapM f) := by
 induction l with
 | nil => exact Mute.pure _
 | cons a l ih => rw [List.mapM_cons]; exact (h a).bind fun x => ih.bind fun y => Mute.pure _
theorem m_mapArray {α β : Type} (l : Array α) (f : α → Sem β) (h : ∀ a, Mute P (f a)) : Mute P (l.mapM f) := by
 rw [Array.mapM_eq_mapM_toList]; exact (m_mapList _ _ h).map
theorem m_foldList {α β : Type} (l : List α) (b : β) (f : β → α → Sem β) (h : ∀ b a, Mute P (f b a)) : Mute P (l.foldlM f b) := by
 induction l generalizing b with
 | nil => exact Mute.pure b
 | cons a l ih => rw [List.foldlM_cons]; exact (h b a).bind fun x => ih x
theorem m_sysenv {α : Type} (f : SysRet → Sem α) (h : ∃ x, f .wouldBlock = .halt x ∧ ends x = true) (hf : ∀ r, Mute P (f r)) : Mute P (Go.sys .env >>= f) := by
 obtain ⟨x, hx, he⟩ := h
 exact ⟨⟨x, by show f .wouldBlock = _; exact hx, he⟩, hf⟩
theorem m_ite {α : Type} {c : Prop} [Decidable c] {s t : Sem α} (h1 : Mute P s) (h2 : Mute P t) : Mute P (if c then s else t) := by split <;> assumption
theorem m_noRoom : Mute P (mark .noRoom) := rfl
theorem m_viewAt : ∀ x0, Mute P (Go.viewAt x0) := by
 intro x0
 unfold Go.viewAt
 repeat' (first | exact m_noRoom | exact m_program | exact Mute.pure _ | exact Mute.pure' _ | exact m_stuck _ | exact m_unsupported _ | exact m_choose _ | (with_reducible first | exact m_shape _ | exact m_getObj _) | assumption | (refine Mute.bind ?_ ?_) | (refine m_ite ?_ ?_) | (refine Mute.map ?_) | intro _ | (refine m_forList _ _ _ ?_) | (refine m_forArray _ _ _ ?_) | (refine m_forRange _ _ _ ?_) | (refine m_mapList _ _ ?_) | (refine m_mapArray _ _ ?_) | (refine m_foldList _ _ _ ?_) | split | dsimp only)
theorem m_numberAt : ∀ x0, Mute P (Go.numberAt x0) := by
 intro x0
 unfold Go.numberAt
 repeat' (first | exact m_noRoom | exact m_program | exact Mute.pure _ | exact Mute.pure' _ | exact m_stuck _ | exact m_unsupported _ | exact m_choose _ | (with_reducible first | exact m_shape _ | exact m_getObj _) | assumption | (refine Mute.bind ?_ ?_) | (refine m_ite ?_ ?_) | (refine Mute.map ?_) | intro _ | (refine m_forList _ _ _ ?_) | (refine m_forArray _ _ _ ?_) | (refine m_forRange _ _ _ ?_) | (refine m_mapList _ _ ?_) | (refine m_mapArray _ _ ?_) | (refine m_foldList _ _ _ ?_) | split | dsimp only)
theorem m_cellsIn : ∀ x0, Mute P (Go.cellsIn x0) := by
 intro x0
 unfold Go.cellsIn
 repeat' (first | exact m_noRoom | exact m_program | exact Mute.pure _ | exact Mute.pure' _ | exact m_stuck _ | exact m_unsupported _ | exact m_choose _ | (with_reducible first | exact m_shape _ | exact m_getObj _) | assumption | (refine Mute.bind ?_ ?_) | (refine m_ite ?_ ?_) | (refine Mute.map ?_) | intro _ | (refine m_forList _ _ _ ?_) | (refine m_forArray _ _ _ ?_) | (refine m_forRange _ _ _ ?_) | (refine m_mapList _ _ ?_) | (refine m_mapArray _ _ ?_) | (refine m_foldList _ _ _ ?_) | split | dsimp only)
theorem m_asNumber : ∀ x0 x1, Mute P (Go.asNumber x0 x1) := by
 intro x0 x1
 unfold Go.asNumber
 repeat' (first | exact m_noRoom | exact m_program | exact Mute.pure _ | exact Mute.pure' _ | exact m_stuck _ | exact m_unsupported _ | exact m_choose _ | (with_reducible first | exact m_newObj _) | assumption | (refine Mute.bind ?_ ?_) | (refine m_ite ?_ ?_) | (refine Mute.map ?_) | intro _ | (refine m_forList _ _ _ ?_) | (refine m_forArray _ _ _ ?_) | (refine m_forRange _ _ _ ?_) | (refine m_mapList _ _ ?_) | (refine m_mapArray _ _ ?_) | (refine m_foldList _ _ _ ?_) | split | dsimp only)
theorem m_behindNumber : ∀ x0, Mute P (Go.behindNumber x0) := by
 intro x0
 unfold Go.behindNumber
 repeat' (first | exact m_noRoom | exact m_program | exact Mute.pure _ | exact Mute.pure' _ | exact m_stuck _ | exact m_unsupported _ | exact m_choose _ | (with_reducible first | exact m_numberAt _) | assumption | (refine Mute.bind ?_ ?_) | (refine m_ite ?_ ?_) | (refine Mute.map ?_) | intro _ | (refine m_forList _ _ _ ?_) | (refine m_forArray _ _ _ ?_) | (refine m_forRange _ _ _ ?_) | (refine m_mapList _ _ ?_) | (refine m_mapArray _ _ ?_) | (refine m_foldList _ _ _ ?_) | split | dsimp only)
theorem m_noView : ∀ x0, Mute P (Go.noView x0) := by
 intro x0
 unfold Go.noView
 repeat' (first | exact m_noRoom | exact m_program | exact Mute.pure _ | exact Mute.pure' _ | exact m_stuck _ | exact m_unsupported _ | exact m_choose _ | (with_reducible first | exact m_viewAt _) | assumption | (refine Mute.bind ?_ ?_) | (refine m_ite ?_ ?_) | (refine Mute.map ?_) | intro _ | (refine m_forList _ _ _ ?_) | (refine m_forArray _ _ _ ?_) | (refine m_forRange _ _ _ ?_) | (refine m_mapList _ _ ?_) | (refine m_mapArray _ _ ?_) | (refine m_foldList _ _ _ ?_) | split | dsimp only)
theorem m_markStringish : ∀ x0, Mute P (Go.markStringish x0) := by
 intro x0
 unfold Go.markStringish
 repeat' (first | exact m_noRoom | exact m_program | exact Mute.pure _ | exact Mute.pure' _ | exact m_stuck _ | exact m_unsupported _ | exact m_choose _ | (with_reducible first | exact m_freeze _ _ | exact m_shape _) | assumption | (refine Mute.bind ?_ ?_) | (refine m_ite ?_ ?_) | (refine Mute.map ?_) | intro _ | (refine m_forList _ _ _ ?_) | (refine m_forArray _ _ _ ?_) | (refine m_forRange _ _ _ ?_) | (refine m_mapList _ _ ?_) | (refine m_mapArray _ _ ?_) | (refine m_foldList _ _ _ ?_) | split | dsimp only)
theorem m_stringish : ∀ x0, Mute P (Go.stringish x0) := by
 intro x0
 unfold Go.stringish
 repeat' (first | exact m_noRoom | exact m_program | exact Mute.pure _ | exact Mute.pure' _ | exact m_stuck _ | exact m_unsupported _ | exact m_choose _ | (with_reducible first | exact m_shape _ | exact m_frozen _) | assumption | (refine Mute.bind ?_ ?_) | (refine m_ite ?_ ?_) | (refine Mute.map ?_) | intro _ | (refine m_forList _ _ _ ?_) | (refine m_forArray _ _ _ ?_) | (refine m_forRange _ _ _ ?_) | (refine m_mapList _ _ ?_) | (refine m_mapArray _ _ ?_) | (refine m_foldList _ _ _ ?_) | split | dsimp only)
theorem m_mayBeOne : ∀ x0 x1, Mute P (Go.mayBeOne x0 x1) := by
 intro x0 x1
 unfold Go.mayBeOne
 repeat' (first | exact m_noRoom | exact m_program | exact Mute.pure _ | exact Mute.pure' _ | exact m_stuck _ | exact m_unsupported _ | exact m_choose _ | (with_reducible first | exact m_stringish _ | exact m_shape _) | assumption | (refine Mute.bind ?_ ?_) | (refine m_ite ?_ ?_) | (refine Mute.map ?_) | intro _ | (refine m_forList _ _ _ ?_) | (refine m_forArray _ _ _ ?_) | (refine m_forRange _ _ _ ?_) | (refine m_mapList _ _ ?_) | (refine m_mapArray _ _ ?_) | (refine m_foldList _ _ _ ?_) | split | dsimp only)
theorem m_sameAddr : ∀ x0 x1, Mute P (Go.sameAddr x0 x1) := by
 intro x0 x1
 unfold Go.sameAddr
 repeat' (first | exact m_noRoom | exact m_program | exact Mute.pure _ | exact Mute.pure' _ | exact m_stuck _ | exact m_unsupported _ | exact m_choose _ | (with_reducible first | exact m_noView _ | exact m_mayBeOne _ _ | exact m_frozen _) | assumption | (refine Mute.bind ?_ ?_) | (refine m_ite ?_ ?_) | (refine Mute.map ?_) | intro _ | (refine m_forList _ _ _ ?_) | (refine m_forArray _ _ _ ?_) | (refine m_forRange _ _ _ ?_) | (refine m_mapList _ _ ?_) | (refine m_mapArray _ _ ?_) | (refine m_foldList _ _ _ ?_) | split | dsimp only)
theorem m_samePointer : ∀ x0 x1, Mute P (Go.samePointer x0 x1) := by
 intro x0 x1
 unfold Go.samePointer
 repeat' (first | exact m_noRoom | exact m_program | exact Mute.pure _ | exact Mute.pure' _ | exact m_stuck _ | exact m_unsupported _ | exact m_choose _ | (with_reducible first | exact m_sameAddr _ _) | assumption | (refine Mute.bind ?_ ?_) | (refine m_ite ?_ ?_) | (refine Mute.map ?_) | intro _ | (refine m_forList _ _ _ ?_) | (refine m_forArray _ _ _ ?_) | (refine m_forRange _ _ _ ?_) | (refine m_mapList _ _ ?_) | (refine m_mapArray _ _ ?_) | (refine m_foldList _ _ _ ?_) | split | dsimp only)
theorem m_typeInfo : ∀ x0, Mute P (Go.typeInfo x0) := by
 intro x0
 unfold Go.typeInfo
 repeat' (first | exact m_noRoom | exact m_program | exact Mute.pure _ | exact Mute.pure' _ | exact m_stuck _ | exact m_unsupported _ | exact m_choose _ | (with_reducible first | exact m_program ) | assumption | (refine Mute.bind ?_ ?_) | (refine m_ite ?_ ?_) | (refine Mute.map ?_) | intro _ | (refine m_forList _ _ _ ?_) | (refine m_forArray _ _ _ ?_) | (refine m_forRange _ _ _ ?_) | (refine m_mapList _ _ ?_) | (refine m_mapArray _ _ ?_) | (refine m_foldList _ _ _ ?_) | split | dsimp only)
theorem m_underlying : ∀ x0, Mute P (Go.underlying x0) := by
 intro x0
 unfold Go.underlying
 repeat' (first | exact m_noRoom | exact m_program | exact Mute.pure _ | exact Mute.pure' _ | exact m_stuck _ | exact m_unsupported _ | exact m_choose _ | (with_reducible first | exact m_typeInfo _ | exact m_program ) | assumption | (refine Mute.bind ?_ ?_) | (refine m_ite ?_ ?_) | (refine Mute.map ?_) | intro _ | (refine m_forList _ _ _ ?_) | (refine m_forArray _ _ _ ?_) | (refine m_forRange _ _ _ ?_) | (refine m_mapList _ _ ?_) | (refine m_mapArray _ _ ?_) | (refine m_foldList _ _ _ ?_) | split | dsimp only)
theorem m_typeStr : ∀ x0, Mute P (Go.typeStr x0) := by
 intro x0
 unfold Go.typeStr
 repeat' (first | exact m_noRoom | exact m_program | exact Mute.pure _ | exact Mute.pure' _ | exact m_stuck _ | exact m_unsupported _ | exact m_choose _ | (with_reducible first | exact m_typeInfo _ | exact m_underlying _) | assumption | (refine Mute.bind ?_ ?_) | (refine m_ite ?_ ?_) | (refine Mute.map ?_) | intro _ | (refine m_forList _ _ _ ?_) | (refine m_forArray _ _ _ ?_) | (refine m_forRange _ _ _ ?_) | (refine m_mapList _ _ ?_) | (refine m_mapArray _ _ ?_) | (refine m_foldList _ _ _ ?_) | split | dsimp only)
theorem m_zeroValue : ∀ x0, Mute P (Go.zeroValue x0) := by
 intro x0
 unfold Go.zeroValue
 repeat' (first | exact m_noRoom | exact m_program | exact Mute.pure _ | exact Mute.pure' _ | exact m_stuck _ | exact m_unsupported _ | exact m_choose _ | (with_reducible first | exact m_typeInfo _ | exact m_underlying _) | assumption | (refine Mute.bind ?_ ?_) | (refine m_ite ?_ ?_) | (refine Mute.map ?_) | intro _ | (refine m_forList _ _ _ ?_) | (refine m_forArray _ _ _ ?_) | (refine m_forRange _ _ _ ?_) | (refine m_mapList _ _ ?_) | (refine m_mapArray _ _ ?_) | (refine m_foldList _ _ _ ?_) | split | dsimp only)
theorem m_sizeOf : ∀ x0, Mute P (Go.sizeOf x0) := by
 intro x0
 unfold Go.sizeOf
 repeat' (first | exact m_noRoom | exact m_program | exact Mute.pure _ | exact Mute.pure' _ | exact m_stuck _ | exact m_unsupported _ | exact m_choose _ | (with_reducible first | exact m_typeInfo _ | exact m_underlying _ | exact m_zeroValue _) | assumption | (refine Mute.bind ?_ ?_) | (refine m_ite ?_ ?_) | (refine Mute.map ?_) | intro _ | (refine m_forList _ _ _ ?_) | (refine m_forArray _ _ _ ?_) | (refine m_forRange _ _ _ ?_) | (refine m_mapList _ _ ?_) | (refine m_mapArray _ _ ?_) | (refine m_foldList _ _ _ ?_) | split | dsimp only)
theorem m_isAgg : ∀ x0, Mute P (Go.isAgg x0) := by
 intro x0
 unfold Go.isAgg
 repeat' (first | exact m_noRoom | exact m_program | exact Mute.pure _ | exact Mute.pure' _ | exact m_stuck _ | exact m_unsupported _ | exact m_choose _ | (with_reducible first | exact m_typeInfo _ | exact m_underlying _ | exact m_sizeOf _ | exact m_zeroValue _) | assumption | (refine Mute.bind ?_ ?_) | (refine m_ite ?_ ?_) | (refine Mute.map ?_) | intro _ | (refine m_forList _ _ _ ?_) | (refine m_forArray _ _ _ ?_) | (refine m_forRange _ _ _ ?_) | (refine m_mapList _ _ ?_) | (refine m_mapArray _ _ ?_) | (refine m_foldList _ _ _ ?_) | split | dsimp only)
theorem m_loadCellsFrom : ∀ x0 x1 x2 x3, Mute P (Go.loadCellsFrom x0 x1 x2 x3) := by
 intro x0 x1 x2 x3
 induction x2 generalizing x0 x1 x3 with
 | zero =>
  unfold Go.loadCellsFrom
  repeat' (first | exact m_noRoom | exact m_program | exact Mute.pure _ | exact Mute.pure' _ | exact m_stuck _ | exact m_unsupported _ | exact m_choose _ | (with_reducible first | exact m_typeInfo _ | exact m_underlying _ | exact m_sizeOf _ | exact m_zeroValue _ | exact m_isAgg _ | exact m_load _ _) | assumption | (refine Mute.bind ?_ ?_) | (refine m_ite ?_ ?_) | (refine Mute.map ?_) | intro _ | (refine m_forList _ _ _ ?_) | (refine m_forArray _ _ _ ?_) | (refine m_forRange _ _ _ ?_) | (refine m_mapList _ _ ?_) | (refine m_mapArray _ _ ?_) | (refine m_foldList _ _ _ ?_) | split | dsimp only)
 | succ n ih =>
  unfold Go.loadCellsFrom
  repeat' (first | exact m_noRoom | exact m_program | exact Mute.pure _ | exact Mute.pure' _ | exact m_stuck _ | exact m_unsupported _ | exact m_choose _ | (with_reducible first | exact m_typeInfo _ | exact m_underlying _ | exact m_sizeOf _ | exact m_zeroValue _ | exact m_isAgg _ | exact m_load _ _) | assumption | exact ih _ _ _ | (refine Mute.bind ?_ ?_) | (refine m_ite ?_ ?_) | (refine Mute.map ?_) | intro _ | (refine m_forList _ _ _ ?_) | (refine m_forArray _ _ _ ?_) | (refine m_forRange _ _ _ ?_) | (refine m_mapList _ _ ?_) | (refine m_mapArray _ _ ?_) | (refine m_foldList _ _ _ ?_) | split | dsimp only)
theorem m_loadCells : ∀ x0 x1, Mute P (Go.loadCells x0 x1) := by
 intro x0 x1
 unfold Go.loadCells
 repeat' (first | exact m_noRoom | exact m_program | exact Mute.pure _ | exact Mute.pure' _ | exact m_stuck _ | exact m_unsupported _ | exact m_choose _ | (with_reducible first | exact m_typeInfo _ | exact m_underlying _ | exact m_sizeOf _ | exact m_zeroValue _ | exact m_isAgg _ | exact m_loadCellsFrom _ _ _ _) | assumption | (refine Mute.bind ?_ ?_) | (refine m_ite ?_ ?_) | (refine Mute.map ?_) | intro _ | (refine m_forList _ _ _ ?_) | (refine m_forArray _ _ _ ?_) | (refine m_forRange _ _ _ ?_) | (refine m_mapList _ _ ?_) | (refine m_mapArray _ _ ?_) | (refine m_foldList _ _ _ ?_) | split | dsimp only)
theorem m_storeCells : ∀ x0 x1 x2, Mute P (Go.storeCells x0 x1 x2) := by
 intro x0 x1 x2
 induction x1 generalizing x0 x2 with
 | nil =>
  unfold Go.storeCells
  repeat' (first | exact m_noRoom | exact m_program | exact Mute.pure _ | exact Mute.pure' _ | exact m_stuck _ | exact m_unsupported _ | exact m_choose _ | (with_reducible first | exact m_typeInfo _ | exact m_underlying _ | exact m_sizeOf _ | exact m_zeroValue _ | exact m_isAgg _ | exact m_store _ _ _) | assumption | (refine Mute.bind ?_ ?_) | (refine m_ite ?_ ?_) | (refine Mute.map ?_) | intro _ | (refine m_forList _ _ _ ?_) | (refine m_forArray _ _ _ ?_) | (refine m_forRange _ _ _ ?_) | (refine m_mapList _ _ ?_) | (refine m_mapArray _ _ ?_) | (refine m_foldList _ _ _ ?_) | split | dsimp only)
 | cons a l ih =>
  unfold Go.storeCells
  repeat' (first | exact m_noRoom | exact m_program | exact Mute.pure _ | exact Mute.pure' _ | exact m_stuck _ | exact m_unsupported _ | exact m_choose _ | (with_reducible first | exact m_typeInfo _ | exact m_underlying _ | exact m_sizeOf _ | exact m_zeroValue _ | exact m_isAgg _ | exact m_store _ _ _) | assumption | exact ih _ _ | (refine Mute.bind ?_ ?_) | (refine m_ite ?_ ?_) | (refine Mute.map ?_) | intro _ | (refine m_forList _ _ _ ?_) | (refine m_forArray _ _ _ ?_) | (refine m_forRange _ _ _ ?_) | (refine m_mapList _ _ ?_) | (refine m_mapArray _ _ ?_) | (refine m_foldList _ _ _ ?_) | split | dsimp only)
theorem m_loadVar : ∀ x0 x1, Mute P (Go.loadVar x0 x1) := by
 intro x0 x1
 unfold Go.loadVar
 repeat' (first | exact m_noRoom | exact m_program | exact Mute.pure _ | exact Mute.pure' _ | exact m_stuck _ | exact m_unsupported _ | exact m_choose _ | (with_reducible first | exact m_typeInfo _ | exact m_underlying _ | exact m_sizeOf _ | exact m_zeroValue _ | exact m_isAgg _ | exact m_loadCells _ _ | exact m_load _ _) | assumption | (refine Mute.bind ?_ ?_) | (refine m_ite ?_ ?_) | (refine Mute.map ?_) | intro _ | (refine m_forList _ _ _ ?_) | (refine m_forArray _ _ _ ?_) | (refine m_forRange _ _ _ ?_) | (refine m_mapList _ _ ?_) | (refine m_mapArray _ _ ?_) | (refine m_foldList _ _ _ ?_) | split | dsimp only)
theorem m_storeVar : ∀ x0 x1 x2, Mute P (Go.storeVar x0 x1 x2) := by
 intro x0 x1 x2
 unfold Go.storeVar
 repeat' (first | exact m_noRoom | exact m_program | exact Mute.pure _ | exact Mute.pure' _ | exact m_stuck _ | exact m_unsupported _ | exact m_choose _ | (with_reducible first | exact m_typeInfo _ | exact m_underlying _ | exact m_sizeOf _ | exact m_zeroValue _ | exact m_isAgg _ | exact m_storeCells _ _ _) | assumption | (refine Mute.bind ?_ ?_) | (refine m_ite ?_ ?_) | (refine Mute.map ?_) | intro _ | (refine m_forList _ _ _ ?_) | (refine m_forArray _ _ _ ?_) | (refine m_forRange _ _ _ ?_) | (refine m_mapList _ _ ?_) | (refine m_mapArray _ _ ?_) | (refine m_foldList _ _ _ ?_) | split | dsimp only)
theorem m_newRow : ∀ x0 x1, Mute P (Go.newRow x0 x1) := by
 intro x0 x1
 unfold Go.newRow
 repeat' (first | exact m_noRoom | exact m_program | exact Mute.pure _ | exact Mute.pure' _ | exact m_stuck _ | exact m_unsupported _ | exact m_choose _ | (with_reducible first | exact m_typeInfo _ | exact m_underlying _ | exact m_sizeOf _ | exact m_zeroValue _ | exact m_isAgg _ | exact m_newObj _) | assumption | (refine Mute.bind ?_ ?_) | (refine m_ite ?_ ?_) | (refine Mute.map ?_) | intro _ | (refine m_forList _ _ _ ?_) | (refine m_forArray _ _ _ ?_) | (refine m_forRange _ _ _ ?_) | (refine m_mapList _ _ ?_) | (refine m_mapArray _ _ ?_) | (refine m_foldList _ _ _ ?_) | split | dsimp only)
theorem m_newVar : ∀ x0 x1, Mute P (Go.newVar x0 x1) := by
 intro x0 x1
 unfold Go.newVar
 repeat' (first | exact m_noRoom | exact m_program | exact Mute.pure _ | exact Mute.pure' _ | exact m_stuck _ | exact m_unsupported _ | exact m_choose _ | (with_reducible first | exact m_typeInfo _ | exact m_underlying _ | exact m_sizeOf _ | exact m_zeroValue _ | exact m_isAgg _ | exact m_newRow _ _) | assumption | (refine Mute.bind ?_ ?_) | (refine m_ite ?_ ?_) | (refine Mute.map ?_) | intro _ | (refine m_forList _ _ _ ?_) | (refine m_forArray _ _ _ ?_) | (refine m_forRange _ _ _ ?_) | (refine m_mapList _ _ ?_) | (refine m_mapArray _ _ ?_) | (refine m_foldList _ _ _ ?_) | split | dsimp only)
theorem m_elemOf : ∀ x0, Mute P (Go.elemOf x0) := by
 intro x0
 unfold Go.elemOf
 repeat' (first | exact m_noRoom | exact m_program | exact Mute.pure _ | exact Mute.pure' _ | exact m_stuck _ | exact m_unsupported _ | exact m_choose _ | (with_reducible first | exact m_typeInfo _ | exact m_underlying _ | exact m_sizeOf _ | exact m_zeroValue _ | exact m_isAgg _) | assumption | (refine Mute.bind ?_ ?_) | (refine m_ite ?_ ?_) | (refine Mute.map ?_) | intro _ | (refine m_forList _ _ _ ?_) | (refine m_forArray _ _ _ ?_) | (refine m_forRange _ _ _ ?_) | (refine m_mapList _ _ ?_) | (refine m_mapArray _ _ ?_) | (refine m_foldList _ _ _ ?_) | split | dsimp only)
theorem m_part : ∀ x0 x1 x2, Mute P (Go.part x0 x1 x2) := by
 intro x0 x1 x2
 unfold Go.part
 repeat' (first | exact m_noRoom | exact m_program | exact Mute.pure _ | exact Mute.pure' _ | exact m_stuck _ | exact m_unsupported _ | exact m_choose _ | (with_reducible first | exact m_typeInfo _ | exact m_underlying _ | exact m_sizeOf _ | exact m_zeroValue _ | exact m_isAgg _) | assumption | (refine Mute.bind ?_ ?_) | (refine m_ite ?_ ?_) | (refine Mute.map ?_) | intro _ | (refine m_forList _ _ _ ?_) | (refine m_forArray _ _ _ ?_) | (refine m_forRange _ _ _ ?_) | (refine m_mapList _ _ ?_) | (refine m_mapArray _ _ ?_) | (refine m_foldList _ _ _ ?_) | split | dsimp only)
theorem m_runtimePanic {α : Type} : ∀ x0, Mute P (Go.runtimePanic (α := α) x0) := by
 intro x0
 unfold Go.runtimePanic
 repeat' (first | exact m_noRoom | exact m_program | exact Mute.pure _ | exact Mute.pure' _ | exact m_stuck _ | exact m_unsupported _ | exact m_choose _ | (with_reducible first | exact m_typeInfo _ | exact m_underlying _ | exact m_sizeOf _ | exact m_zeroValue _ | exact m_isAgg _ | exact m_part _ _ _ | exact m_elemOf _ | exact m_newVar _ _ | exact m_program  | exact m_goPanic _) | assumption | (refine Mute.bind ?_ ?_) | (refine m_ite ?_ ?_) | (refine Mute.map ?_) | intro _ | (refine m_forList _ _ _ ?_) | (refine m_forArray _ _ _ ?_) | (refine m_forRange _ _ _ ?_) | (refine m_mapList _ _ ?_) | (refine m_mapArray _ _ ?_) | (refine m_foldList _ _ _ ?_) | split | dsimp only)
theorem m_boundsPanic {α : Type} : ∀ x0 x1 x2 x3, Mute P (Go.boundsPanic (α := α) x0 x1 x2 x3) := by
 intro x0 x1 x2 x3
 unfold Go.boundsPanic
 repeat' (first | exact m_noRoom | exact m_program | exact Mute.pure _ | exact Mute.pure' _ | exact m_stuck _ | exact m_unsupported _ | exact m_choose _ | (with_reducible first | exact m_typeInfo _ | exact m_underlying _ | exact m_sizeOf _ | exact m_runtimePanic _ | exact m_zeroValue _ | exact m_isAgg _ | exact m_part _ _ _) | assumption | (refine Mute.bind ?_ ?_) | (refine m_ite ?_ ?_) | (refine Mute.map ?_) | intro _ | (refine m_forList _ _ _ ?_) | (refine m_forArray _ _ _ ?_) | (refine m_forRange _ _ _ ?_) | (refine m_mapList _ _ ?_) | (refine m_mapArray _ _ ?_) | (refine m_foldList _ _ _ ?_) | split | dsimp only)
theorem m_asIntOf : ∀ x0, Mute P (Go.asIntOf x0) := by
 intro x0
 unfold Go.asIntOf
 repeat' (first | exact m_noRoom | exact m_program | exact Mute.pure _ | exact Mute.pure' _ | exact m_stuck _ | exact m_unsupported _ | exact m_choose _ | (with_reducible first | exact m_typeInfo _ | exact m_underlying _ | exact m_sizeOf _ | exact m_runtimePanic _ | exact m_zeroValue _ | exact m_isAgg _ | exact m_part _ _ _) | assumption | (refine Mute.bind ?_ ?_) | (refine m_ite ?_ ?_) | (refine Mute.map ?_) | intro _ | (refine m_forList _ _ _ ?_) | (refine m_forArray _ _ _ ?_) | (refine m_forRange _ _ _ ?_) | (refine m_mapList _ _ ?_) | (refine m_mapArray _ _ ?_) | (refine m_foldList _ _ _ ?_) | split | dsimp only)
theorem m_asInt : ∀ x0, Mute P (Go.asInt x0) := by
 intro x0
 unfold Go.asInt
 repeat' (first | exact m_noRoom | exact m_program | exact Mute.pure _ | exact Mute.pure' _ | exact m_stuck _ | exact m_unsupported _ | exact m_choose _ | (with_reducible first | exact m_typeInfo _ | exact m_underlying _ | exact m_sizeOf _ | exact m_runtimePanic _ | exact m_zeroValue _ | exact m_isAgg _ | exact m_part _ _ _ | exact m_asIntOf _) | assumption | (refine Mute.bind ?_ ?_) | (refine m_ite ?_ ?_) | (refine Mute.map ?_) | intro _ | (refine m_forList _ _ _ ?_) | (refine m_forArray _ _ _ ?_) | (refine m_forRange _ _ _ ?_) | (refine m_mapList _ _ ?_) | (refine m_mapArray _ _ ?_) | (refine m_foldList _ _ _ ?_) | split | dsimp only)
theorem m_asBool : ∀ x0, Mute P (Go.asBool x0) := by
 intro x0
 unfold Go.asBool
 repeat' (first | exact m_noRoom | exact m_program | exact Mute.pure _ | exact Mute.pure' _ | exact m_stuck _ | exact m_unsupported _ | exact m_choose _ | (with_reducible first | exact m_typeInfo _ | exact m_underlying _ | exact m_sizeOf _ | exact m_runtimePanic _ | exact m_zeroValue _ | exact m_isAgg _ | exact m_part _ _ _) | assumption | (refine Mute.bind ?_ ?_) | (refine m_ite ?_ ?_) | (refine Mute.map ?_) | intro _ | (refine m_forList _ _ _ ?_) | (refine m_forArray _ _ _ ?_) | (refine m_forRange _ _ _ ?_) | (refine m_mapList _ _ ?_) | (refine m_mapArray _ _ ?_) | (refine m_foldList _ _ _ ?_) | split | dsimp only)
theorem m_asString : ∀ x0, Mute P (Go.asString x0) := by
 intro x0
 unfold Go.asString
 repeat' (first | exact m_noRoom | exact m_program | exact Mute.pure _ | exact Mute.pure' _ | exact m_stuck _ | exact m_unsupported _ | exact m_choose _ | (with_reducible first | exact m_typeInfo _ | exact m_underlying _ | exact m_sizeOf _ | exact m_runtimePanic _ | exact m_zeroValue _ | exact m_isAgg _ | exact m_part _ _ _) | assumption | (refine Mute.bind ?_ ?_) | (refine m_ite ?_ ?_) | (refine Mute.map ?_) | intro _ | (refine m_forList _ _ _ ?_) | (refine m_forArray _ _ _ ?_) | (refine m_forRange _ _ _ ?_) | (refine m_mapList _ _ ?_) | (refine m_mapArray _ _ ?_) | (refine m_foldList _ _ _ ?_) | split | dsimp only)
theorem m_asAgg : ∀ x0, Mute P (Go.asAgg x0) := by
 intro x0
 unfold Go.asAgg
 repeat' (first | exact m_noRoom | exact m_program | exact Mute.pure _ | exact Mute.pure' _ | exact m_stuck _ | exact m_unsupported _ | exact m_choose _ | (with_reducible first | exact m_typeInfo _ | exact m_underlying _ | exact m_sizeOf _ | exact m_runtimePanic _ | exact m_zeroValue _ | exact m_isAgg _ | exact m_part _ _ _) | assumption | (refine Mute.bind ?_ ?_) | (refine m_ite ?_ ?_) | (refine Mute.map ?_) | intro _ | (refine m_forList _ _ _ ?_) | (refine m_forArray _ _ _ ?_) | (refine m_forRange _ _ _ ?_) | (refine m_mapList _ _ ?_) | (refine m_mapArray _ _ ?_) | (refine m_foldList _ _ _ ?_) | split | dsimp only)
theorem m_asAddr : ∀ x0, Mute P (Go.asAddr x0) := by
 intro x0
 unfold Go.asAddr
 repeat' (first | exact m_noRoom | exact m_program | exact Mute.pure _ | exact Mute.pure' _ | exact m_stuck _ | exact m_unsupported _ | exact m_choose _ | (with_reducible first | exact m_typeInfo _ | exact m_underlying _ | exact m_sizeOf _ | exact m_runtimePanic _ | exact m_zeroValue _ | exact m_isAgg _ | exact m_part _ _ _) | assumption | (refine Mute.bind ?_ ?_) | (refine m_ite ?_ ?_) | (refine Mute.map ?_) | intro _ | (refine m_forList _ _ _ ?_) | (refine m_forArray _ _ _ ?_) | (refine m_forRange _ _ _ ?_) | (refine m_mapList _ _ ?_) | (refine m_mapArray _ _ ?_) | (refine m_foldList _ _ _ ?_) | split | dsimp only)
theorem m_byteOf : ∀ x0, Mute P (Go.byteOf x0) := by
 intro x0
 unfold Go.byteOf
 repeat' (first | exact m_noRoom | exact m_program | exact Mute.pure _ | exact Mute.pure' _ | exact m_stuck _ | exact m_unsupported _ | exact m_choose _ | (with_reducible first | exact m_typeInfo _ | exact m_underlying _ | exact m_sizeOf _ | exact m_runtimePanic _ | exact m_zeroValue _ | exact m_isAgg _ | exact m_part _ _ _ | exact m_noView _ | exact m_shape _ | exact m_program ) | assumption | (refine Mute.bind ?_ ?_) | (refine m_ite ?_ ?_) | (refine Mute.map ?_) | intro _ | (refine m_forList _ _ _ ?_) | (refine m_forArray _ _ _ ?_) | (refine m_forRange _ _ _ ?_) | (refine m_mapList _ _ ?_) | (refine m_mapArray _ _ ?_) | (refine m_foldList _ _ _ ?_) | split | dsimp only)
theorem m_partAt : ∀ x0 x1 x2, Mute P (Go.partAt x0 x1 x2) := by
 intro x0 x1 x2
 unfold Go.partAt
 repeat' (first | exact m_noRoom | exact m_program | exact Mute.pure _ | exact Mute.pure' _ | exact m_stuck _ | exact m_unsupported _ | exact m_choose _ | (with_reducible first | exact m_typeInfo _ | exact m_underlying _ | exact m_sizeOf _ | exact m_runtimePanic _ | exact m_zeroValue _ | exact m_isAgg _ | exact m_part _ _ _ | exact m_byteOf _) | assumption | (refine Mute.bind ?_ ?_) | (refine m_ite ?_ ?_) | (refine Mute.map ?_) | intro _ | (refine m_forList _ _ _ ?_) | (refine m_forArray _ _ _ ?_) | (refine m_forRange _ _ _ ?_) | (refine m_mapList _ _ ?_) | (refine m_mapArray _ _ ?_) | (refine m_foldList _ _ _ ?_) | split | dsimp only)
theorem m_fieldPlace : ∀ x0 x1, Mute P (Go.fieldPlace x0 x1) := by
 intro x0 x1
 unfold Go.fieldPlace
 repeat' (first | exact m_noRoom | exact m_program | exact Mute.pure _ | exact Mute.pure' _ | exact m_stuck _ | exact m_unsupported _ | exact m_choose _ | (with_reducible first | exact m_typeInfo _ | exact m_underlying _ | exact m_sizeOf _ | exact m_runtimePanic _ | exact m_zeroValue _ | exact m_isAgg _ | exact m_part _ _ _ | exact m_partAt _ _ _) | assumption | (refine Mute.bind ?_ ?_) | (refine m_ite ?_ ?_) | (refine Mute.map ?_) | intro _ | (refine m_forList _ _ _ ?_) | (refine m_forArray _ _ _ ?_) | (refine m_forRange _ _ _ ?_) | (refine m_mapList _ _ ?_) | (refine m_mapArray _ _ ?_) | (refine m_foldList _ _ _ ?_) | split | dsimp only)
theorem m_variablesAt : ∀ x0 x1 x2, Mute P (Go.variablesAt x0 x1 x2) := by
 intro x0 x1 x2
 unfold Go.variablesAt
 repeat' (first | exact m_noRoom | exact m_program | exact Mute.pure _ | exact Mute.pure' _ | exact m_stuck _ | exact m_unsupported _ | exact m_choose _ | (with_reducible first | exact m_typeInfo _ | exact m_underlying _ | exact m_sizeOf _ | exact m_runtimePanic _ | exact m_zeroValue _ | exact m_isAgg _ | exact m_part _ _ _ | exact m_shape _ | exact m_program ) | assumption | (refine Mute.bind ?_ ?_) | (refine m_ite ?_ ?_) | (refine Mute.map ?_) | intro _ | (refine m_forList _ _ _ ?_) | (refine m_forArray _ _ _ ?_) | (refine m_forRange _ _ _ ?_) | (refine m_mapList _ _ ?_) | (refine m_mapArray _ _ ?_) | (refine m_foldList _ _ _ ?_) | split | dsimp only)
theorem m_loadBytes : ∀ x0 x1 x2, Mute P (Go.loadBytes x0 x1 x2) := by
 intro x0 x1 x2
 induction x2 generalizing x0 x1 with
 | zero =>
  unfold Go.loadBytes
  repeat' (first | exact m_noRoom | exact m_program | exact Mute.pure _ | exact Mute.pure' _ | exact m_stuck _ | exact m_unsupported _ | exact m_choose _ | (with_reducible first | exact m_typeInfo _ | exact m_underlying _ | exact m_sizeOf _ | exact m_runtimePanic _ | exact m_zeroValue _ | exact m_isAgg _ | exact m_part _ _ _ | exact m_load _ _) | assumption | (refine Mute.bind ?_ ?_) | (refine m_ite ?_ ?_) | (refine Mute.map ?_) | intro _ | (refine m_forList _ _ _ ?_) | (refine m_forArray _ _ _ ?_) | (refine m_forRange _ _ _ ?_) | (refine m_mapList _ _ ?_) | (refine m_mapArray _ _ ?_) | (refine m_foldList _ _ _ ?_) | split | dsimp only)
 | succ n ih =>
  unfold Go.loadBytes
  repeat' (first | exact m_noRoom | exact m_program | exact Mute.pure _ | exact Mute.pure' _ | exact m_stuck _ | exact m_unsupported _ | exact m_choose _ | (with_reducible first | exact m_typeInfo _ | exact m_underlying _ | exact m_sizeOf _ | exact m_runtimePanic _ | exact m_zeroValue _ | exact m_isAgg _ | exact m_part _ _ _ | exact m_load _ _) | assumption | exact ih _ _ | (refine Mute.bind ?_ ?_) | (refine m_ite ?_ ?_) | (refine Mute.map ?_) | intro _ | (refine m_forList _ _ _ ?_) | (refine m_forArray _ _ _ ?_) | (refine m_forRange _ _ _ ?_) | (refine m_mapList _ _ ?_) | (refine m_mapArray _ _ ?_) | (refine m_foldList _ _ _ ?_) | split | dsimp only)
theorem m_Builtin_ssaWrapNilChk_ : ∀ x0 x1 x2, Mute P (Go.Builtin.ssaWrapNilChk_ x0 x1 x2) := by
 intro x0 x1 x2
 unfold Go.Builtin.ssaWrapNilChk_
 obtain ⟨l⟩ := x2
 rcases l with _ | ⟨a0, _ | ⟨a1, _ | ⟨a2, _ | ⟨a3, l⟩⟩⟩⟩
 ·exact m_stuck _
 ·exact m_stuck _
 ·exact m_stuck _
 ·cases a1 <;> first | exact m_stuck _ | (cases a2 <;> first | exact m_stuck _ | (cases a0 <;> first | exact m_stuck _ | (rename_i c; cases c <;> (repeat' (first | exact m_stuck _ | exact m_unsupported _ | exact Mute.pure _ | exact Mute.pure' _ | exact m_runtimePanic _ | exact m_asInt _ | exact m_getObj _ | exact m_setObj _ _ | exact m_viewAt _ | exact m_shape _ | exact m_program | exact m_elemOf _ | exact m_typeInfo _ | exact m_underlying _ | exact m_sizeOf _ | exact m_variablesAt _ _ _ | exact m_newObj _ | exact m_newRow _ _ | exact m_markStringish _ | exact m_freeze _ _ | exact m_loadBytes _ _ _ | exact m_choose _ | (refine Mute.bind ?_ ?_) | (refine Mute.map ?_) | (refine m_ite ?_ ?_) | intro _ | split | dsimp only)))))
 ·exact m_stuck _
theorem m_Place_get : ∀ x0 x1, Mute P (Go.Place.get x0 x1) := by
 intro x0 x1
 unfold Go.Place.get
 repeat' (first | exact m_noRoom | exact m_program | exact Mute.pure _ | exact Mute.pure' _ | exact m_stuck _ | exact m_unsupported _ | exact m_choose _ | (with_reducible first | exact m_typeInfo _ | exact m_underlying _ | exact m_sizeOf _ | exact m_runtimePanic _ | exact m_zeroValue _ | exact m_isAgg _ | exact m_part _ _ _ | exact m_loadVar _ _) | assumption | (refine Mute.bind ?_ ?_) | (refine m_ite ?_ ?_) | (refine Mute.map ?_) | intro _ | (refine m_forList _ _ _ ?_) | (refine m_forArray _ _ _ ?_) | (refine m_forRange _ _ _ ?_) | (refine m_mapList _ _ ?_) | (refine m_mapArray _ _ ?_) | (refine m_foldList _ _ _ ?_) | split | dsimp only)
theorem m_follow : ∀ x0 x1 x2, Mute P (Go.follow x0 x1 x2) := by
 intro x0 x1 x2
 induction x0 generalizing x1 x2 with
 | nil =>
  unfold Go.follow
  repeat' (first | exact m_noRoom | exact m_program | exact Mute.pure _ | exact Mute.pure' _ | exact m_stuck _ | exact m_unsupported _ | exact m_choose _ | (with_reducible first | exact m_typeInfo _ | exact m_underlying _ | exact m_sizeOf _ | exact m_runtimePanic _ | exact m_zeroValue _ | exact m_isAgg _ | exact m_part _ _ _ | exact m_fieldPlace _ _ | exact m_Place_get _ _ | exact m_asAddr _) | assumption | (refine Mute.bind ?_ ?_) | (refine m_ite ?_ ?_) | (refine Mute.map ?_) | intro _ | (refine m_forList _ _ _ ?_) | (refine m_forArray _ _ _ ?_) | (refine m_forRange _ _ _ ?_) | (refine m_mapList _ _ ?_) | (refine m_mapArray _ _ ?_) | (refine m_foldList _ _ _ ?_) | split | dsimp only)
 | cons a l ih =>
  unfold Go.follow
  repeat' (first | exact m_noRoom | exact m_program | exact Mute.pure _ | exact Mute.pure' _ | exact m_stuck _ | exact m_unsupported _ | exact m_choose _ | (with_reducible first | exact m_typeInfo _ | exact m_underlying _ | exact m_sizeOf _ | exact m_runtimePanic _ | exact m_zeroValue _ | exact m_isAgg _ | exact m_part _ _ _ | exact m_fieldPlace _ _ | exact m_Place_get _ _ | exact m_asAddr _) | assumption | exact ih _ _ | (refine Mute.bind ?_ ?_) | (refine m_ite ?_ ?_) | (refine Mute.map ?_) | intro _ | (refine m_forList _ _ _ ?_) | (refine m_forArray _ _ _ ?_) | (refine m_forRange _ _ _ ?_) | (refine m_mapList _ _ ?_) | (refine m_mapArray _ _ ?_) | (refine m_foldList _ _ _ ?_) | split | dsimp only)
theorem m_receiverAt : ∀ x0 x1 x2 x3, Mute P (Go.receiverAt x0 x1 x2 x3) := by
 intro x0 x1 x2 x3
 unfold Go.receiverAt
 repeat' (first | exact m_noRoom | exact m_program | exact Mute.pure _ | exact Mute.pure' _ | exact m_stuck _ | exact m_unsupported _ | exact m_choose _ | (with_reducible first | exact m_typeInfo _ | exact m_underlying _ | exact m_sizeOf _ | exact m_runtimePanic _ | exact m_zeroValue _ | exact m_isAgg _ | exact m_part _ _ _ | exact m_loadVar _ _ | exact m_Builtin_ssaWrapNilChk_ _ _ _ | exact m_Place_get _ _ | exact m_asAddr _) | assumption | (refine Mute.bind ?_ ?_) | (refine m_ite ?_ ?_) | (refine Mute.map ?_) | intro _ | (refine m_forList _ _ _ ?_) | (refine m_forArray _ _ _ ?_) | (refine m_forRange _ _ _ ?_) | (refine m_mapList _ _ ?_) | (refine m_mapArray _ _ ?_) | (refine m_foldList _ _ _ ?_) | split | dsimp only)
theorem m_receiverVia : ∀ x0 x1 x2 x3, Mute P (Go.receiverVia x0 x1 x2 x3) := by
 intro x0 x1 x2 x3
 unfold Go.receiverVia
 repeat' (first | exact m_noRoom | exact m_program | exact Mute.pure _ | exact Mute.pure' _ | exact m_stuck _ | exact m_unsupported _ | exact m_choose _ | (with_reducible first | exact m_typeInfo _ | exact m_underlying _ | exact m_sizeOf _ | exact m_runtimePanic _ | exact m_zeroValue _ | exact m_isAgg _ | exact m_part _ _ _ | exact m_receiverAt _ _ _ _ | exact m_follow _ _ _) | assumption | (refine Mute.bind ?_ ?_) | (refine m_ite ?_ ?_) | (refine Mute.map ?_) | intro _ | (refine m_forList _ _ _ ?_) | (refine m_forArray _ _ _ ?_) | (refine m_forRange _ _ _ ?_) | (refine m_mapList _ _ ?_) | (refine m_mapArray _ _ ?_) | (refine m_foldList _ _ _ ?_) | split | dsimp only)
theorem m_method : ∀ x0 x1 x2 x3, Mute P (Go.method x0 x1 x2 x3) := by
 intro x0 x1 x2 x3
 induction x0 generalizing x1 x2 x3 with
 | zero =>
  unfold Go.method
  repeat' (first | exact m_noRoom | exact m_program | exact Mute.pure _ | exact Mute.pure' _ | exact m_stuck _ | exact m_unsupported _ | exact m_choose _ | (with_reducible first | exact m_typeInfo _ | exact m_underlying _ | exact m_sizeOf _ | exact m_runtimePanic _ | exact m_zeroValue _ | exact m_isAgg _ | exact m_part _ _ _ | exact m_receiverAt _ _ _ _ | exact m_Place_get _ _ | exact m_follow _ _ _) | assumption | (refine Mute.bind ?_ ?_) | (refine m_ite ?_ ?_) | (refine Mute.map ?_) | intro _ | (refine m_forList _ _ _ ?_) | (refine m_forArray _ _ _ ?_) | (refine m_forRange _ _ _ ?_) | (refine m_mapList _ _ ?_) | (refine m_mapArray _ _ ?_) | (refine m_foldList _ _ _ ?_) | split | dsimp only)
 | succ n ih =>
  unfold Go.method
  repeat' (first | exact m_noRoom | exact m_program | exact Mute.pure _ | exact Mute.pure' _ | exact m_stuck _ | exact m_unsupported _ | exact m_choose _ | (with_reducible first | exact m_typeInfo _ | exact m_underlying _ | exact m_sizeOf _ | exact m_runtimePanic _ | exact m_zeroValue _ | exact m_isAgg _ | exact m_part _ _ _ | exact m_receiverAt _ _ _ _ | exact m_Place_get _ _ | exact m_follow _ _ _) | assumption | exact ih _ _ _ | (refine Mute.bind ?_ ?_) | (refine m_ite ?_ ?_) | (refine Mute.map ?_) | intro _ | (refine m_forList _ _ _ ?_) | (refine m_forArray _ _ _ ?_) | (refine m_forRange _ _ _ ?_) | (refine m_mapList _ _ ?_) | (refine m_mapArray _ _ ?_) | (refine m_foldList _ _ _ ?_) | split | dsimp only)
theorem m_Deferred_ofValue : ∀ x0 x1, Mute P (Go.Deferred.ofValue x0 x1) := by
 intro x0 x1
 unfold Go.Deferred.ofValue
 repeat' (first | exact m_noRoom | exact m_program | exact Mute.pure _ | exact Mute.pure' _ | exact m_stuck _ | exact m_unsupported _ | exact m_choose _ | (with_reducible first | exact m_typeInfo _ | exact m_underlying _ | exact m_sizeOf _ | exact m_runtimePanic _ | exact m_zeroValue _ | exact m_isAgg _ | exact m_part _ _ _) | assumption | (refine Mute.bind ?_ ?_) | (refine m_ite ?_ ?_) | (refine Mute.map ?_) | intro _ | (refine m_forList _ _ _ ?_) | (refine m_forArray _ _ _ ?_) | (refine m_forRange _ _ _ ?_) | (refine m_mapList _ _ ?_) | (refine m_mapArray _ _ ?_) | (refine m_foldList _ _ _ ?_) | split | dsimp only)
theorem m_Instr_index : ∀ x0 x1 x2, Mute P (Go.Instr.index x0 x1 x2) := by
 intro x0 x1 x2
 unfold Go.Instr.index
 repeat' (first | exact m_noRoom | exact m_program | exact Mute.pure _ | exact Mute.pure' _ | exact m_stuck _ | exact m_unsupported _ | exact m_choose _ | (with_reducible first | exact m_typeInfo _ | exact m_underlying _ | exact m_sizeOf _ | exact m_runtimePanic _ | exact m_zeroValue _ | exact m_isAgg _ | exact m_part _ _ _ | exact m_boundsPanic _ _ _ _ | exact m_asIntOf _) | assumption | (refine Mute.bind ?_ ?_) | (refine m_ite ?_ ?_) | (refine Mute.map ?_) | intro _ | (refine m_forList _ _ _ ?_) | (refine m_forArray _ _ _ ?_) | (refine m_forRange _ _ _ ?_) | (refine m_mapList _ _ ?_) | (refine m_mapArray _ _ ?_) | (refine m_foldList _ _ _ ?_) | split | dsimp only)
theorem m_Instr_extract : ∀ x0 x1, Mute P (Go.Instr.extract x0 x1) := by
 intro x0 x1
 unfold Go.Instr.extract
 repeat' (first | exact m_noRoom | exact m_program | exact Mute.pure _ | exact Mute.pure' _ | exact m_stuck _ | exact m_unsupported _ | exact m_choose _ | (with_reducible first | exact m_typeInfo _ | exact m_underlying _ | exact m_sizeOf _ | exact m_runtimePanic _ | exact m_zeroValue _ | exact m_isAgg _ | exact m_part _ _ _ | exact m_Instr_index _ _ _) | assumption | (refine Mute.bind ?_ ?_) | (refine m_ite ?_ ?_) | (refine Mute.map ?_) | intro _ | (refine m_forList _ _ _ ?_) | (refine m_forArray _ _ _ ?_) | (refine m_forRange _ _ _ ?_) | (refine m_mapList _ _ ?_) | (refine m_mapArray _ _ ?_) | (refine m_foldList _ _ _ ?_) | split | dsimp only)
theorem m_Instr_sliceBound : ∀ x0 x1 x2, Mute P (Go.Instr.sliceBound x0 x1 x2) := by
 intro x0 x1 x2
 unfold Go.Instr.sliceBound
 repeat' (first | exact m_noRoom | exact m_program | exact Mute.pure _ | exact Mute.pure' _ | exact m_stuck _ | exact m_unsupported _ | exact m_choose _ | (with_reducible first | exact m_typeInfo _ | exact m_underlying _ | exact m_sizeOf _ | exact m_runtimePanic _ | exact m_zeroValue _ | exact m_isAgg _ | exact m_part _ _ _ | exact m_asIntOf _ | exact m_boundsPanic _ _ _ _) | assumption | (refine Mute.bind ?_ ?_) | (refine m_ite ?_ ?_) | (refine Mute.map ?_) | intro _ | (refine m_forList _ _ _ ?_) | (refine m_forArray _ _ _ ?_) | (refine m_forRange _ _ _ ?_) | (refine m_mapList _ _ ?_) | (refine m_mapArray _ _ ?_) | (refine m_foldList _ _ _ ?_) | split | dsimp only)
theorem m_Instr_sliceBounds : ∀ x0 x1 x2 x3 x4 x5, Mute P (Go.Instr.sliceBounds x0 x1 x2 x3 x4 x5) := by
 intro x0 x1 x2 x3 x4 x5
 unfold Go.Instr.sliceBounds
 repeat' (first | exact m_noRoom | exact m_program | exact Mute.pure _ | exact Mute.pure' _ | exact m_stuck _ | exact m_unsupported _ | exact m_choose _ | (with_reducible first | exact m_typeInfo _ | exact m_underlying _ | exact m_sizeOf _ | exact m_runtimePanic _ | exact m_zeroValue _ | exact m_isAgg _ | exact m_part _ _ _ | exact m_Instr_sliceBound _ _ _) | assumption | (refine Mute.bind ?_ ?_) | (refine m_ite ?_ ?_) | (refine Mute.map ?_) | intro _ | (refine m_forList _ _ _ ?_) | (refine m_forArray _ _ _ ?_) | (refine m_forRange _ _ _ ?_) | (refine m_mapList _ _ ?_) | (refine m_mapArray _ _ ?_) | (refine m_foldList _ _ _ ?_) | split | dsimp only)
theorem m_Instr_slice : ∀ x0 x1 x2 x3 x4, Mute P (Go.Instr.slice x0 x1 x2 x3 x4) := by
 intro x0 x1 x2 x3 x4
 unfold Go.Instr.slice
 repeat' (first | exact m_noRoom | exact m_program | exact Mute.pure _ | exact Mute.pure' _ | exact m_stuck _ | exact m_unsupported _ | exact m_choose _ | (with_reducible first | exact m_typeInfo _ | exact m_underlying _ | exact m_sizeOf _ | exact m_runtimePanic _ | exact m_zeroValue _ | exact m_isAgg _ | exact m_part _ _ _ | exact m_Instr_extract _ _ | exact m_Instr_sliceBounds _ _ _ _ _ _ | exact m_asAddr _) | assumption | (refine Mute.bind ?_ ?_) | (refine m_ite ?_ ?_) | (refine Mute.map ?_) | intro _ | (refine m_forList _ _ _ ?_) | (refine m_forArray _ _ _ ?_) | (refine m_forRange _ _ _ ?_) | (refine m_mapList _ _ ?_) | (refine m_mapArray _ _ ?_) | (refine m_foldList _ _ _ ?_) | split | dsimp only)
theorem m_Conv_bytesToString : ∀ x0, Mute P (Go.Conv.bytesToString x0) := by
 intro x0
 unfold Go.Conv.bytesToString
 repeat' (first | exact m_noRoom | exact m_program | exact Mute.pure _ | exact Mute.pure' _ | exact m_stuck _ | exact m_unsupported _ | exact m_choose _ | (with_reducible first | exact m_typeInfo _ | exact m_underlying _ | exact m_sizeOf _ | exact m_runtimePanic _ | exact m_zeroValue _ | exact m_isAgg _ | exact m_part _ _ _ | exact m_loadCells _ _ | exact m_Instr_slice _ _ _ _ _) | assumption | (refine Mute.bind ?_ ?_) | (refine m_ite ?_ ?_) | (refine Mute.map ?_) | intro _ | (refine m_forList _ _ _ ?_) | (refine m_forArray _ _ _ ?_) | (refine m_forRange _ _ _ ?_) | (refine m_mapList _ _ ?_) | (refine m_mapArray _ _ ?_) | (refine m_foldList _ _ _ ?_) | split | dsimp only)
theorem m_Conv_floatToFloat : ∀ x0 x1 x2, Mute P (Go.Conv.floatToFloat x0 x1 x2) := by
 intro x0 x1 x2
 unfold Go.Conv.floatToFloat
 repeat' (first | exact m_noRoom | exact m_program | exact Mute.pure _ | exact Mute.pure' _ | exact m_stuck _ | exact m_unsupported _ | exact m_choose _ | (with_reducible first | exact m_typeInfo _ | exact m_underlying _ | exact m_sizeOf _ | exact m_runtimePanic _ | exact m_zeroValue _ | exact m_isAgg _ | exact m_part _ _ _) | assumption | (refine Mute.bind ?_ ?_) | (refine m_ite ?_ ?_) | (refine Mute.map ?_) | intro _ | (refine m_forList _ _ _ ?_) | (refine m_forArray _ _ _ ?_) | (refine m_forRange _ _ _ ?_) | (refine m_mapList _ _ ?_) | (refine m_mapArray _ _ ?_) | (refine m_foldList _ _ _ ?_) | split | dsimp only)
theorem m_Conv_complexToComplex : ∀ x0 x1 x2 x3, Mute P (Go.Conv.complexToComplex x0 x1 x2 x3) := by
 intro x0 x1 x2 x3
 unfold Go.Conv.complexToComplex
 repeat' (first | exact m_noRoom | exact m_program | exact Mute.pure _ | exact Mute.pure' _ | exact m_stuck _ | exact m_unsupported _ | exact m_choose _ | (with_reducible first | exact m_typeInfo _ | exact m_underlying _ | exact m_sizeOf _ | exact m_runtimePanic _ | exact m_zeroValue _ | exact m_isAgg _ | exact m_part _ _ _ | exact m_Conv_floatToFloat _ _ _) | assumption | (refine Mute.bind ?_ ?_) | (refine m_ite ?_ ?_) | (refine Mute.map ?_) | intro _ | (refine m_forList _ _ _ ?_) | (refine m_forArray _ _ _ ?_) | (refine m_forRange _ _ _ ?_) | (refine m_mapList _ _ ?_) | (refine m_mapArray _ _ ?_) | (refine m_foldList _ _ _ ?_) | split | dsimp only)
theorem m_Conv_floatToInt : ∀ x0 x1 x2, Mute P (Go.Conv.floatToInt x0 x1 x2) := by
 intro x0 x1 x2
 unfold Go.Conv.floatToInt
 repeat' (first | exact m_noRoom | exact m_program | exact Mute.pure _ | exact Mute.pure' _ | exact m_stuck _ | exact m_unsupported _ | exact m_choose _ | (with_reducible first | exact m_typeInfo _ | exact m_underlying _ | exact m_sizeOf _ | exact m_runtimePanic _ | exact m_zeroValue _ | exact m_isAgg _ | exact m_part _ _ _) | assumption | (refine Mute.bind ?_ ?_) | (refine m_ite ?_ ?_) | (refine Mute.map ?_) | intro _ | (refine m_forList _ _ _ ?_) | (refine m_forArray _ _ _ ?_) | (refine m_forRange _ _ _ ?_) | (refine m_mapList _ _ ?_) | (refine m_mapArray _ _ ?_) | (refine m_foldList _ _ _ ?_) | split | dsimp only)
theorem m_Conv_intToFloat : ∀ x0 x1, Mute P (Go.Conv.intToFloat x0 x1) := by
 intro x0 x1
 unfold Go.Conv.intToFloat
 repeat' (first | exact m_noRoom | exact m_program | exact Mute.pure _ | exact Mute.pure' _ | exact m_stuck _ | exact m_unsupported _ | exact m_choose _ | (with_reducible first | exact m_typeInfo _ | exact m_underlying _ | exact m_sizeOf _ | exact m_runtimePanic _ | exact m_zeroValue _ | exact m_isAgg _ | exact m_part _ _ _) | assumption | (refine Mute.bind ?_ ?_) | (refine m_ite ?_ ?_) | (refine Mute.map ?_) | intro _ | (refine m_forList _ _ _ ?_) | (refine m_forArray _ _ _ ?_) | (refine m_forRange _ _ _ ?_) | (refine m_mapList _ _ ?_) | (refine m_mapArray _ _ ?_) | (refine m_foldList _ _ _ ?_) | split | dsimp only)
theorem m_Conv_intToInt : ∀ x0 x1, Mute P (Go.Conv.intToInt x0 x1) := by
 intro x0 x1
 unfold Go.Conv.intToInt
 repeat' (first | exact m_noRoom | exact m_program | exact Mute.pure _ | exact Mute.pure' _ | exact m_stuck _ | exact m_unsupported _ | exact m_choose _ | (with_reducible first | exact m_typeInfo _ | exact m_underlying _ | exact m_sizeOf _ | exact m_runtimePanic _ | exact m_zeroValue _ | exact m_isAgg _ | exact m_part _ _ _) | assumption | (refine Mute.bind ?_ ?_) | (refine m_ite ?_ ?_) | (refine Mute.map ?_) | intro _ | (refine m_forList _ _ _ ?_) | (refine m_forArray _ _ _ ?_) | (refine m_forRange _ _ _ ?_) | (refine m_mapList _ _ ?_) | (refine m_mapArray _ _ ?_) | (refine m_foldList _ _ _ ?_) | split | dsimp only)
theorem m_Conv_intToString : ∀ x0, Mute P (Go.Conv.intToString x0) := by
 intro x0
 unfold Go.Conv.intToString
 repeat' (first | exact m_noRoom | exact m_program | exact Mute.pure _ | exact Mute.pure' _ | exact m_stuck _ | exact m_unsupported _ | exact m_choose _ | (with_reducible first | exact m_typeInfo _ | exact m_underlying _ | exact m_sizeOf _ | exact m_runtimePanic _ | exact m_zeroValue _ | exact m_isAgg _ | exact m_part _ _ _) | assumption | (refine Mute.bind ?_ ?_) | (refine m_ite ?_ ?_) | (refine Mute.map ?_) | intro _ | (refine m_forList _ _ _ ?_) | (refine m_forArray _ _ _ ?_) | (refine m_forRange _ _ _ ?_) | (refine m_mapList _ _ ?_) | (refine m_mapArray _ _ ?_) | (refine m_foldList _ _ _ ?_) | split | dsimp only)
theorem m_Conv_runesToString : ∀ x0, Mute P (Go.Conv.runesToString x0) := by
 intro x0
 unfold Go.Conv.runesToString
 repeat' (first | exact m_noRoom | exact m_program | exact Mute.pure _ | exact Mute.pure' _ | exact m_stuck _ | exact m_unsupported _ | exact m_choose _ | (with_reducible first | exact m_typeInfo _ | exact m_underlying _ | exact m_sizeOf _ | exact m_runtimePanic _ | exact m_zeroValue _ | exact m_isAgg _ | exact m_part _ _ _ | exact m_loadCells _ _ | exact m_Instr_slice _ _ _ _ _) | assumption | (refine Mute.bind ?_ ?_) | (refine m_ite ?_ ?_) | (refine Mute.map ?_) | intro _ | (refine m_forList _ _ _ ?_) | (refine m_forArray _ _ _ ?_) | (refine m_forRange _ _ _ ?_) | (refine m_mapList _ _ ?_) | (refine m_mapArray _ _ ?_) | (refine m_foldList _ _ _ ?_) | split | dsimp only)
theorem m_Conv_stringToBytes : ∀ x0 x1, Mute P (Go.Conv.stringToBytes x0 x1) := by
 intro x0 x1
 unfold Go.Conv.stringToBytes
 repeat' (first | exact m_noRoom | exact m_program | exact Mute.pure _ | exact Mute.pure' _ | exact m_stuck _ | exact m_unsupported _ | exact m_choose _ | (with_reducible first | exact m_typeInfo _ | exact m_underlying _ | exact m_sizeOf _ | exact m_runtimePanic _ | exact m_zeroValue _ | exact m_isAgg _ | exact m_part _ _ _ | exact m_newRow _ _ | exact m_markStringish _ | exact m_Instr_slice _ _ _ _ _) | assumption | (refine Mute.bind ?_ ?_) | (refine m_ite ?_ ?_) | (refine Mute.map ?_) | intro _ | (refine m_forList _ _ _ ?_) | (refine m_forArray _ _ _ ?_) | (refine m_forRange _ _ _ ?_) | (refine m_mapList _ _ ?_) | (refine m_mapArray _ _ ?_) | (refine m_foldList _ _ _ ?_) | split | dsimp only)
theorem m_Conv_stringToRunes : ∀ x0 x1, Mute P (Go.Conv.stringToRunes x0 x1) := by
 intro x0 x1
 unfold Go.Conv.stringToRunes
 repeat' (first | exact m_noRoom | exact m_program | exact Mute.pure _ | exact Mute.pure' _ | exact m_stuck _ | exact m_unsupported _ | exact m_choose _ | (with_reducible first | exact m_typeInfo _ | exact m_underlying _ | exact m_sizeOf _ | exact m_runtimePanic _ | exact m_zeroValue _ | exact m_isAgg _ | exact m_part _ _ _ | exact m_newRow _ _ | exact m_Instr_slice _ _ _ _ _) | assumption | (refine Mute.bind ?_ ?_) | (refine m_ite ?_ ?_) | (refine Mute.map ?_) | intro _ | (refine m_forList _ _ _ ?_) | (refine m_forArray _ _ _ ?_) | (refine m_forRange _ _ _ ?_) | (refine m_mapList _ _ ?_) | (refine m_mapArray _ _ ?_) | (refine m_foldList _ _ _ ?_) | split | dsimp only)
theorem m_Instr_waits : ∀ x0, Mute P (Go.Instr.waits x0) := by
 intro x0
 unfold Go.Instr.waits
 repeat' (first | exact m_noRoom | exact m_program | exact Mute.pure _ | exact Mute.pure' _ | exact m_stuck _ | exact m_unsupported _ | exact m_choose _ | (with_reducible first | exact m_typeInfo _ | exact m_underlying _ | exact m_sizeOf _ | exact m_runtimePanic _ | exact m_zeroValue _ | exact m_isAgg _ | exact m_part _ _ _ | exact m_shape _) | assumption | (refine Mute.bind ?_ ?_) | (refine m_ite ?_ ?_) | (refine Mute.map ?_) | intro _ | (refine m_forList _ _ _ ?_) | (refine m_forArray _ _ _ ?_) | (refine m_forRange _ _ _ ?_) | (refine m_mapList _ _ ?_) | (refine m_mapArray _ _ ?_) | (refine m_foldList _ _ _ ?_) | split | dsimp only)
theorem m_Conv_unsafePointer : ∀ x0 x1 x2, Mute P (Go.Conv.unsafePointer x0 x1 x2) := by
 intro x0 x1 x2
 unfold Go.Conv.unsafePointer
 repeat' (first | exact m_noRoom | exact m_program | exact Mute.pure _ | exact Mute.pure' _ | exact m_stuck _ | exact m_unsupported _ | exact m_choose _ | (with_reducible first | exact m_typeInfo _ | exact m_underlying _ | exact m_sizeOf _ | exact m_runtimePanic _ | exact m_zeroValue _ | exact m_isAgg _ | exact m_part _ _ _ | exact m_Instr_waits _ | exact m_cellsIn _ | exact m_variablesAt _ _ _ | exact m_asNumber _ _ | exact m_shape _ | exact m_newObj _ | exact m_program ) | assumption | (refine Mute.bind ?_ ?_) | (refine m_ite ?_ ?_) | (refine Mute.map ?_) | intro _ | (refine m_forList _ _ _ ?_) | (refine m_forArray _ _ _ ?_) | (refine m_forRange _ _ _ ?_) | (refine m_mapList _ _ ?_) | (refine m_mapArray _ _ ?_) | (refine m_foldList _ _ _ ?_) | split | dsimp only)
theorem m_Op_twoPlaces : ∀ x0 x1, Mute P (Go.Op.twoPlaces x0 x1) := by
 intro x0 x1
 unfold Go.Op.twoPlaces
 repeat' (first | exact m_noRoom | exact m_program | exact Mute.pure _ | exact Mute.pure' _ | exact m_stuck _ | exact m_unsupported _ | exact m_choose _ | (with_reducible first | exact m_typeInfo _ | exact m_underlying _ | exact m_sizeOf _ | exact m_runtimePanic _ | exact m_zeroValue _ | exact m_isAgg _ | exact m_part _ _ _ | exact m_byteOf _ | exact m_program ) | assumption | (refine Mute.bind ?_ ?_) | (refine m_ite ?_ ?_) | (refine Mute.map ?_) | intro _ | (refine m_forList _ _ _ ?_) | (refine m_forArray _ _ _ ?_) | (refine m_forRange _ _ _ ?_) | (refine m_mapList _ _ ?_) | (refine m_mapArray _ _ ?_) | (refine m_foldList _ _ _ ?_) | split | dsimp only)
theorem m_Op_addrSub : ∀ x0 x1 x2, Mute P (Go.Op.addrSub x0 x1 x2) := by
 intro x0 x1 x2
 unfold Go.Op.addrSub
 repeat' (first | exact m_noRoom | exact m_program | exact Mute.pure _ | exact Mute.pure' _ | exact m_stuck _ | exact m_unsupported _ | exact m_choose _ | (with_reducible first | exact m_typeInfo _ | exact m_underlying _ | exact m_sizeOf _ | exact m_runtimePanic _ | exact m_zeroValue _ | exact m_isAgg _ | exact m_part _ _ _ | exact m_Op_twoPlaces _ _) | assumption | (refine Mute.bind ?_ ?_) | (refine m_ite ?_ ?_) | (refine Mute.map ?_) | intro _ | (refine m_forList _ _ _ ?_) | (refine m_forArray _ _ _ ?_) | (refine m_forRange _ _ _ ?_) | (refine m_mapList _ _ ?_) | (refine m_mapArray _ _ ?_) | (refine m_foldList _ _ _ ?_) | split | dsimp only)
theorem m_Op_addrCmp : ∀ x0 x1 x2, Mute P (Go.Op.addrCmp x0 x1 x2) := by
 intro x0 x1 x2
 unfold Go.Op.addrCmp
 repeat' (first | exact m_noRoom | exact m_program | exact Mute.pure _ | exact Mute.pure' _ | exact m_stuck _ | exact m_unsupported _ | exact m_choose _ | (with_reducible first | exact m_typeInfo _ | exact m_underlying _ | exact m_sizeOf _ | exact m_runtimePanic _ | exact m_zeroValue _ | exact m_isAgg _ | exact m_part _ _ _ | exact m_Op_twoPlaces _ _) | assumption | (refine Mute.bind ?_ ?_) | (refine m_ite ?_ ?_) | (refine Mute.map ?_) | intro _ | (refine m_forList _ _ _ ?_) | (refine m_forArray _ _ _ ?_) | (refine m_forRange _ _ _ ?_) | (refine m_mapList _ _ ?_) | (refine m_mapArray _ _ ?_) | (refine m_foldList _ _ _ ?_) | split | dsimp only)
theorem m_Op_addrMod : ∀ x0 x1 x2, Mute P (Go.Op.addrMod x0 x1 x2) := by
 intro x0 x1 x2
 unfold Go.Op.addrMod
 repeat' (first | exact m_noRoom | exact m_program | exact Mute.pure _ | exact Mute.pure' _ | exact m_stuck _ | exact m_unsupported _ | exact m_choose _ | (with_reducible first | exact m_typeInfo _ | exact m_underlying _ | exact m_sizeOf _ | exact m_runtimePanic _ | exact m_zeroValue _ | exact m_isAgg _ | exact m_part _ _ _ | exact m_byteOf _ | exact m_shape _) | assumption | (refine Mute.bind ?_ ?_) | (refine m_ite ?_ ?_) | (refine Mute.map ?_) | intro _ | (refine m_forList _ _ _ ?_) | (refine m_forArray _ _ _ ?_) | (refine m_forRange _ _ _ ?_) | (refine m_mapList _ _ ?_) | (refine m_mapArray _ _ ?_) | (refine m_foldList _ _ _ ?_) | split | dsimp only)
theorem m_Op_floatArith : ∀ x0 x1 x2 x3, Mute P (Go.Op.floatArith x0 x1 x2 x3) := by
 intro x0 x1 x2 x3
 unfold Go.Op.floatArith
 repeat' (first | exact m_noRoom | exact m_program | exact Mute.pure _ | exact Mute.pure' _ | exact m_stuck _ | exact m_unsupported _ | exact m_choose _ | (with_reducible first | exact m_typeInfo _ | exact m_underlying _ | exact m_sizeOf _ | exact m_runtimePanic _ | exact m_zeroValue _ | exact m_isAgg _ | exact m_part _ _ _) | assumption | (refine Mute.bind ?_ ?_) | (refine m_ite ?_ ?_) | (refine Mute.map ?_) | intro _ | (refine m_forList _ _ _ ?_) | (refine m_forArray _ _ _ ?_) | (refine m_forRange _ _ _ ?_) | (refine m_mapList _ _ ?_) | (refine m_mapArray _ _ ?_) | (refine m_foldList _ _ _ ?_) | split | dsimp only)
theorem m_Op_Complex_corrected : ∀ x0 x1 x2 x3 x4, Mute P (Go.Op.Complex.corrected x0 x1 x2 x3 x4) := by
 intro x0 x1 x2 x3 x4
 unfold Go.Op.Complex.corrected
 repeat' (first | exact m_noRoom | exact m_program | exact Mute.pure _ | exact Mute.pure' _ | exact m_stuck _ | exact m_unsupported _ | exact m_choose _ | (with_reducible first | exact m_typeInfo _ | exact m_underlying _ | exact m_sizeOf _ | exact m_runtimePanic _ | exact m_zeroValue _ | exact m_isAgg _ | exact m_part _ _ _) | assumption | (refine Mute.bind ?_ ?_) | (refine m_ite ?_ ?_) | (refine Mute.map ?_) | intro _ | (refine m_forList _ _ _ ?_) | (refine m_forArray _ _ _ ?_) | (refine m_forRange _ _ _ ?_) | (refine m_mapList _ _ ?_) | (refine m_mapArray _ _ ?_) | (refine m_foldList _ _ _ ?_) | split | dsimp only)
theorem m_Op_floatCmp : ∀ x0 x1 x2 x3, Mute P (Go.Op.floatCmp x0 x1 x2 x3) := by
 intro x0 x1 x2 x3
 unfold Go.Op.floatCmp
 repeat' (first | exact m_noRoom | exact m_program | exact Mute.pure _ | exact Mute.pure' _ | exact m_stuck _ | exact m_unsupported _ | exact m_choose _ | (with_reducible first | exact m_typeInfo _ | exact m_underlying _ | exact m_sizeOf _ | exact m_runtimePanic _ | exact m_zeroValue _ | exact m_isAgg _ | exact m_part _ _ _) | assumption | (refine Mute.bind ?_ ?_) | (refine m_ite ?_ ?_) | (refine Mute.map ?_) | intro _ | (refine m_forList _ _ _ ?_) | (refine m_forArray _ _ _ ?_) | (refine m_forRange _ _ _ ?_) | (refine m_mapList _ _ ?_) | (refine m_mapArray _ _ ?_) | (refine m_foldList _ _ _ ?_) | split | dsimp only)
theorem m_Op_Complex_cmp : ∀ x0 x1 x2 x3, Mute P (Go.Op.Complex.cmp x0 x1 x2 x3) := by
 intro x0 x1 x2 x3
 unfold Go.Op.Complex.cmp
 repeat' (first | exact m_noRoom | exact m_program | exact Mute.pure _ | exact Mute.pure' _ | exact m_stuck _ | exact m_unsupported _ | exact m_choose _ | (with_reducible first | exact m_typeInfo _ | exact m_underlying _ | exact m_sizeOf _ | exact m_runtimePanic _ | exact m_zeroValue _ | exact m_isAgg _ | exact m_part _ _ _ | exact m_Op_floatCmp _ _ _ _ | exact m_asBool _) | assumption | (refine Mute.bind ?_ ?_) | (refine m_ite ?_ ?_) | (refine Mute.map ?_) | intro _ | (refine m_forList _ _ _ ?_) | (refine m_forArray _ _ _ ?_) | (refine m_forRange _ _ _ ?_) | (refine m_mapList _ _ ?_) | (refine m_mapArray _ _ ?_) | (refine m_foldList _ _ _ ?_) | split | dsimp only)
theorem m_Op_Complex_quotient : ∀ x0 x1 x2 x3, Mute P (Go.Op.Complex.quotient x0 x1 x2 x3) := by
 intro x0 x1 x2 x3
 unfold Go.Op.Complex.quotient
 repeat' (first | exact m_noRoom | exact m_program | exact Mute.pure _ | exact Mute.pure' _ | exact m_stuck _ | exact m_unsupported _ | exact m_choose _ | (with_reducible first | exact m_typeInfo _ | exact m_underlying _ | exact m_sizeOf _ | exact m_runtimePanic _ | exact m_zeroValue _ | exact m_isAgg _ | exact m_part _ _ _ | exact m_Op_Complex_corrected _ _ _ _ _ | exact m_Op_Complex_cmp _ _ _ _) | assumption | (refine Mute.bind ?_ ?_) | (refine m_ite ?_ ?_) | (refine Mute.map ?_) | intro _ | (refine m_forList _ _ _ ?_) | (refine m_forArray _ _ _ ?_) | (refine m_forRange _ _ _ ?_) | (refine m_mapList _ _ ?_) | (refine m_mapArray _ _ ?_) | (refine m_foldList _ _ _ ?_) | split | dsimp only)
theorem m_Op_Complex_product : ∀ x0 x1 x2 x3, Mute P (Go.Op.Complex.product x0 x1 x2 x3) := by
 intro x0 x1 x2 x3
 unfold Go.Op.Complex.product
 repeat' (first | exact m_noRoom | exact m_program | exact Mute.pure _ | exact Mute.pure' _ | exact m_stuck _ | exact m_unsupported _ | exact m_choose _ | (with_reducible first | exact m_typeInfo _ | exact m_underlying _ | exact m_sizeOf _ | exact m_runtimePanic _ | exact m_zeroValue _ | exact m_isAgg _ | exact m_part _ _ _) | assumption | (refine Mute.bind ?_ ?_) | (refine m_ite ?_ ?_) | (refine Mute.map ?_) | intro _ | (refine m_forList _ _ _ ?_) | (refine m_forArray _ _ _ ?_) | (refine m_forRange _ _ _ ?_) | (refine m_mapList _ _ ?_) | (refine m_mapArray _ _ ?_) | (refine m_foldList _ _ _ ?_) | split | dsimp only)
theorem m_Op_Complex_conv : ∀ x0 x1 x2, Mute P (Go.Op.Complex.conv x0 x1 x2) := by
 intro x0 x1 x2
 unfold Go.Op.Complex.conv
 repeat' (first | exact m_noRoom | exact m_program | exact Mute.pure _ | exact Mute.pure' _ | exact m_stuck _ | exact m_unsupported _ | exact m_choose _ | (with_reducible first | exact m_typeInfo _ | exact m_underlying _ | exact m_sizeOf _ | exact m_runtimePanic _ | exact m_zeroValue _ | exact m_isAgg _ | exact m_part _ _ _ | exact m_Conv_floatToFloat _ _ _) | assumption | (refine Mute.bind ?_ ?_) | (refine m_ite ?_ ?_) | (refine Mute.map ?_) | intro _ | (refine m_forList _ _ _ ?_) | (refine m_forArray _ _ _ ?_) | (refine m_forRange _ _ _ ?_) | (refine m_mapList _ _ ?_) | (refine m_mapArray _ _ ?_) | (refine m_foldList _ _ _ ?_) | split | dsimp only)
theorem m_Op_complexOp : ∀ x0 x1 x2 x3 x4 x5, Mute P (Go.Op.complexOp x0 x1 x2 x3 x4 x5) := by
 intro x0 x1 x2 x3 x4 x5
 unfold Go.Op.complexOp
 repeat' (first | exact m_noRoom | exact m_program | exact Mute.pure _ | exact Mute.pure' _ | exact m_stuck _ | exact m_unsupported _ | exact m_choose _ | (with_reducible first | exact m_typeInfo _ | exact m_underlying _ | exact m_sizeOf _ | exact m_runtimePanic _ | exact m_zeroValue _ | exact m_isAgg _ | exact m_part _ _ _ | exact m_Op_Complex_quotient _ _ _ _ | exact m_Op_Complex_product _ _ _ _ | exact m_Op_Complex_cmp _ _ _ _ | exact m_Op_Complex_conv _ _ _) | assumption | (refine Mute.bind ?_ ?_) | (refine m_ite ?_ ?_) | (refine Mute.map ?_) | intro _ | (refine m_forList _ _ _ ?_) | (refine m_forArray _ _ _ ?_) | (refine m_forRange _ _ _ ?_) | (refine m_mapList _ _ ?_) | (refine m_mapArray _ _ ?_) | (refine m_foldList _ _ _ ?_) | split | dsimp only)
theorem m_Op_equalIn : ∀ x0 x1 x2 x3, Mute P (Go.Op.equalIn x0 x1 x2 x3) := by
 intro x0 x1 x2 x3
 induction x0 generalizing x1 x2 x3 with
 | zero =>
  unfold Go.Op.equalIn
  repeat' (first | exact m_noRoom | exact m_program | exact Mute.pure _ | exact Mute.pure' _ | exact m_stuck _ | exact m_unsupported _ | exact m_choose _ | (with_reducible first | exact m_typeInfo _ | exact m_underlying _ | exact m_sizeOf _ | exact m_runtimePanic _ | exact m_zeroValue _ | exact m_isAgg _ | exact m_part _ _ _ | exact m_typeStr _ | exact m_Conv_unsafePointer _ _ _ | exact m_behindNumber _ | exact m_Instr_slice _ _ _ _ _ | exact m_byteOf _ | exact m_samePointer _ _ | exact m_sameAddr _ _ | exact m_program ) | assumption | (refine Mute.bind ?_ ?_) | (refine m_ite ?_ ?_) | (refine Mute.map ?_) | intro _ | (refine m_forList _ _ _ ?_) | (refine m_forArray _ _ _ ?_) | (refine m_forRange _ _ _ ?_) | (refine m_mapList _ _ ?_) | (refine m_mapArray _ _ ?_) | (refine m_foldList _ _ _ ?_) | split | dsimp only)
 | succ n ih =>
  unfold Go.Op.equalIn
  repeat' (first | exact m_noRoom | exact m_program | exact Mute.pure _ | exact Mute.pure' _ | exact m_stuck _ | exact m_unsupported _ | exact m_choose _ | (with_reducible first | exact m_typeInfo _ | exact m_underlying _ | exact m_sizeOf _ | exact m_runtimePanic _ | exact m_zeroValue _ | exact m_isAgg _ | exact m_part _ _ _ | exact m_typeStr _ | exact m_Conv_unsafePointer _ _ _ | exact m_behindNumber _ | exact m_Instr_slice _ _ _ _ _ | exact m_byteOf _ | exact m_samePointer _ _ | exact m_sameAddr _ _ | exact m_program ) | assumption | exact ih _ _ _ | (refine Mute.bind ?_ ?_) | (refine m_ite ?_ ?_) | (refine Mute.map ?_) | intro _ | (refine m_forList _ _ _ ?_) | (refine m_forArray _ _ _ ?_) | (refine m_forRange _ _ _ ?_) | (refine m_mapList _ _ ?_) | (refine m_mapArray _ _ ?_) | (refine m_foldList _ _ _ ?_) | split | dsimp only)
theorem m_Op_equal : ∀ x0 x1 x2, Mute P (Go.Op.equal x0 x1 x2) := by
 intro x0 x1 x2
 unfold Go.Op.equal
 repeat' (first | exact m_noRoom | exact m_program | exact Mute.pure _ | exact Mute.pure' _ | exact m_stuck _ | exact m_unsupported _ | exact m_choose _ | (with_reducible first | exact m_typeInfo _ | exact m_underlying _ | exact m_sizeOf _ | exact m_runtimePanic _ | exact m_zeroValue _ | exact m_isAgg _ | exact m_part _ _ _ | exact m_Op_equalIn _ _ _ _) | assumption | (refine Mute.bind ?_ ?_) | (refine m_ite ?_ ?_) | (refine Mute.map ?_) | intro _ | (refine m_forList _ _ _ ?_) | (refine m_forArray _ _ _ ?_) | (refine m_forRange _ _ _ ?_) | (refine m_mapList _ _ ?_) | (refine m_mapArray _ _ ?_) | (refine m_foldList _ _ _ ?_) | split | dsimp only)
theorem m_Op_eqGuardIn : ∀ x0 x1 x2 x3, Mute P (Go.Op.eqGuardIn x0 x1 x2 x3) := by
 intro x0 x1 x2 x3
 induction x0 generalizing x1 x2 x3 with
 | zero =>
  unfold Go.Op.eqGuardIn
  repeat' (first | exact m_noRoom | exact m_program | exact Mute.pure _ | exact Mute.pure' _ | exact m_stuck _ | exact m_unsupported _ | exact m_choose _ | (with_reducible first | exact m_typeInfo _ | exact m_underlying _ | exact m_sizeOf _ | exact m_runtimePanic _ | exact m_zeroValue _ | exact m_isAgg _ | exact m_part _ _ _) | assumption | (refine Mute.bind ?_ ?_) | (refine m_ite ?_ ?_) | (refine Mute.map ?_) | intro _ | (refine m_forList _ _ _ ?_) | (refine m_forArray _ _ _ ?_) | (refine m_forRange _ _ _ ?_) | (refine m_mapList _ _ ?_) | (refine m_mapArray _ _ ?_) | (refine m_foldList _ _ _ ?_) | split | dsimp only)
 | succ n ih =>
  unfold Go.Op.eqGuardIn
  repeat' (first | exact m_noRoom | exact m_program | exact Mute.pure _ | exact Mute.pure' _ | exact m_stuck _ | exact m_unsupported _ | exact m_choose _ | (with_reducible first | exact m_typeInfo _ | exact m_underlying _ | exact m_sizeOf _ | exact m_runtimePanic _ | exact m_zeroValue _ | exact m_isAgg _ | exact m_part _ _ _) | assumption | exact ih _ _ _ | (refine Mute.bind ?_ ?_) | (refine m_ite ?_ ?_) | (refine Mute.map ?_) | intro _ | (refine m_forList _ _ _ ?_) | (refine m_forArray _ _ _ ?_) | (refine m_forRange _ _ _ ?_) | (refine m_mapList _ _ ?_) | (refine m_mapArray _ _ ?_) | (refine m_foldList _ _ _ ?_) | split | dsimp only)
theorem m_Op_intArith : ∀ x0 x1 x2 x3, Mute P (Go.Op.intArith x0 x1 x2 x3) := by
 intro x0 x1 x2 x3
 unfold Go.Op.intArith
 repeat' (first | exact m_noRoom | exact m_program | exact Mute.pure _ | exact Mute.pure' _ | exact m_stuck _ | exact m_unsupported _ | exact m_choose _ | (with_reducible first | exact m_typeInfo _ | exact m_underlying _ | exact m_sizeOf _ | exact m_runtimePanic _ | exact m_zeroValue _ | exact m_isAgg _ | exact m_part _ _ _) | assumption | (refine Mute.bind ?_ ?_) | (refine m_ite ?_ ?_) | (refine Mute.map ?_) | intro _ | (refine m_forList _ _ _ ?_) | (refine m_forArray _ _ _ ?_) | (refine m_forRange _ _ _ ?_) | (refine m_mapList _ _ ?_) | (refine m_mapArray _ _ ?_) | (refine m_foldList _ _ _ ?_) | split | dsimp only)
theorem m_Op_intBits : ∀ x0 x1 x2 x3, Mute P (Go.Op.intBits x0 x1 x2 x3) := by
 intro x0 x1 x2 x3
 unfold Go.Op.intBits
 repeat' (first | exact m_noRoom | exact m_program | exact Mute.pure _ | exact Mute.pure' _ | exact m_stuck _ | exact m_unsupported _ | exact m_choose _ | (with_reducible first | exact m_typeInfo _ | exact m_underlying _ | exact m_sizeOf _ | exact m_runtimePanic _ | exact m_zeroValue _ | exact m_isAgg _ | exact m_part _ _ _) | assumption | (refine Mute.bind ?_ ?_) | (refine m_ite ?_ ?_) | (refine Mute.map ?_) | intro _ | (refine m_forList _ _ _ ?_) | (refine m_forArray _ _ _ ?_) | (refine m_forRange _ _ _ ?_) | (refine m_mapList _ _ ?_) | (refine m_mapArray _ _ ?_) | (refine m_foldList _ _ _ ?_) | split | dsimp only)
theorem m_Op_intCmp : ∀ x0 x1 x2, Mute P (Go.Op.intCmp x0 x1 x2) := by
 intro x0 x1 x2
 unfold Go.Op.intCmp
 repeat' (first | exact m_noRoom | exact m_program | exact Mute.pure _ | exact Mute.pure' _ | exact m_stuck _ | exact m_unsupported _ | exact m_choose _ | (with_reducible first | exact m_typeInfo _ | exact m_underlying _ | exact m_sizeOf _ | exact m_runtimePanic _ | exact m_zeroValue _ | exact m_isAgg _ | exact m_part _ _ _) | assumption | (refine Mute.bind ?_ ?_) | (refine m_ite ?_ ?_) | (refine Mute.map ?_) | intro _ | (refine m_forList _ _ _ ?_) | (refine m_forArray _ _ _ ?_) | (refine m_forRange _ _ _ ?_) | (refine m_mapList _ _ ?_) | (refine m_mapArray _ _ ?_) | (refine m_foldList _ _ _ ?_) | split | dsimp only)
theorem m_Op_intDiv : ∀ x0 x1 x2 x3, Mute P (Go.Op.intDiv x0 x1 x2 x3) := by
 intro x0 x1 x2 x3
 unfold Go.Op.intDiv
 repeat' (first | exact m_noRoom | exact m_program | exact Mute.pure _ | exact Mute.pure' _ | exact m_stuck _ | exact m_unsupported _ | exact m_choose _ | (with_reducible first | exact m_typeInfo _ | exact m_underlying _ | exact m_sizeOf _ | exact m_runtimePanic _ | exact m_zeroValue _ | exact m_isAgg _ | exact m_part _ _ _) | assumption | (refine Mute.bind ?_ ?_) | (refine m_ite ?_ ?_) | (refine Mute.map ?_) | intro _ | (refine m_forList _ _ _ ?_) | (refine m_forArray _ _ _ ?_) | (refine m_forRange _ _ _ ?_) | (refine m_mapList _ _ ?_) | (refine m_mapArray _ _ ?_) | (refine m_foldList _ _ _ ?_) | split | dsimp only)
theorem m_Op_shift : ∀ x0 x1 x2 x3 x4, Mute P (Go.Op.shift x0 x1 x2 x3 x4) := by
 intro x0 x1 x2 x3 x4
 unfold Go.Op.shift
 repeat' (first | exact m_noRoom | exact m_program | exact Mute.pure _ | exact Mute.pure' _ | exact m_stuck _ | exact m_unsupported _ | exact m_choose _ | (with_reducible first | exact m_typeInfo _ | exact m_underlying _ | exact m_sizeOf _ | exact m_runtimePanic _ | exact m_zeroValue _ | exact m_isAgg _ | exact m_part _ _ _) | assumption | (refine Mute.bind ?_ ?_) | (refine m_ite ?_ ?_) | (refine Mute.map ?_) | intro _ | (refine m_forList _ _ _ ?_) | (refine m_forArray _ _ _ ?_) | (refine m_forRange _ _ _ ?_) | (refine m_mapList _ _ ?_) | (refine m_mapArray _ _ ?_) | (refine m_foldList _ _ _ ?_) | split | dsimp only)
theorem m_Op_stringOp : ∀ x0 x1 x2, Mute P (Go.Op.stringOp x0 x1 x2) := by
 intro x0 x1 x2
 unfold Go.Op.stringOp
 repeat' (first | exact m_noRoom | exact m_program | exact Mute.pure _ | exact Mute.pure' _ | exact m_stuck _ | exact m_unsupported _ | exact m_choose _ | (with_reducible first | exact m_typeInfo _ | exact m_underlying _ | exact m_sizeOf _ | exact m_runtimePanic _ | exact m_zeroValue _ | exact m_isAgg _ | exact m_part _ _ _) | assumption | (refine Mute.bind ?_ ?_) | (refine m_ite ?_ ?_) | (refine Mute.map ?_) | intro _ | (refine m_forList _ _ _ ?_) | (refine m_forArray _ _ _ ?_) | (refine m_forRange _ _ _ ?_) | (refine m_mapList _ _ ?_) | (refine m_mapArray _ _ ?_) | (refine m_foldList _ _ _ ?_) | split | dsimp only)
theorem m_Op_unary : ∀ x0 x1, Mute P (Go.Op.unary x0 x1) := by
 intro x0 x1
 unfold Go.Op.unary
 repeat' (first | exact m_noRoom | exact m_program | exact Mute.pure _ | exact Mute.pure' _ | exact m_stuck _ | exact m_unsupported _ | exact m_choose _ | (with_reducible first | exact m_typeInfo _ | exact m_underlying _ | exact m_sizeOf _ | exact m_runtimePanic _ | exact m_zeroValue _ | exact m_isAgg _ | exact m_part _ _ _ | exact m_Op_intBits _ _ _ _ | exact m_Op_intArith _ _ _ _) | assumption | (refine Mute.bind ?_ ?_) | (refine m_ite ?_ ?_) | (refine Mute.map ?_) | intro _ | (refine m_forList _ _ _ ?_) | (refine m_forArray _ _ _ ?_) | (refine m_forRange _ _ _ ?_) | (refine m_mapList _ _ ?_) | (refine m_mapArray _ _ ?_) | (refine m_foldList _ _ _ ?_) | split | dsimp only)
theorem m_Builtin_holdsCells : ∀ x0 x1, Mute P (Go.Builtin.holdsCells x0 x1) := by
 intro x0 x1
 unfold Go.Builtin.holdsCells
 repeat' (first | exact m_noRoom | exact m_program | exact Mute.pure _ | exact Mute.pure' _ | exact m_stuck _ | exact m_unsupported _ | exact m_choose _ | (with_reducible first | exact m_typeInfo _ | exact m_underlying _ | exact m_sizeOf _ | exact m_runtimePanic _ | exact m_zeroValue _ | exact m_isAgg _ | exact m_part _ _ _ | exact m_shape _) | assumption | (refine Mute.bind ?_ ?_) | (refine m_ite ?_ ?_) | (refine Mute.map ?_) | intro _ | (refine m_forList _ _ _ ?_) | (refine m_forArray _ _ _ ?_) | (refine m_forRange _ _ _ ?_) | (refine m_mapList _ _ ?_) | (refine m_mapArray _ _ ?_) | (refine m_foldList _ _ _ ?_) | split | dsimp only)
theorem m_Builtin_mayShare : ∀ x0 x1 x2 x3 x4, Mute P (Go.Builtin.mayShare x0 x1 x2 x3 x4) := by
 intro x0 x1 x2 x3 x4
 unfold Go.Builtin.mayShare
 repeat' (first | exact m_noRoom | exact m_program | exact Mute.pure _ | exact Mute.pure' _ | exact m_stuck _ | exact m_unsupported _ | exact m_choose _ | (with_reducible first | exact m_typeInfo _ | exact m_underlying _ | exact m_sizeOf _ | exact m_runtimePanic _ | exact m_zeroValue _ | exact m_isAgg _ | exact m_part _ _ _ | exact m_Builtin_holdsCells _ _ | exact m_Instr_slice _ _ _ _ _ | exact m_frozen _) | assumption | (refine Mute.bind ?_ ?_) | (refine m_ite ?_ ?_) | (refine Mute.map ?_) | intro _ | (refine m_forList _ _ _ ?_) | (refine m_forArray _ _ _ ?_) | (refine m_forRange _ _ _ ?_) | (refine m_mapList _ _ ?_) | (refine m_mapArray _ _ ?_) | (refine m_foldList _ _ _ ?_) | split | dsimp only)
theorem m_Builtin_lenOf : ∀ x0, Mute P (Go.Builtin.lenOf x0) := by
 intro x0
 unfold Go.Builtin.lenOf
 repeat' (first | exact m_noRoom | exact m_program | exact Mute.pure _ | exact Mute.pure' _ | exact m_stuck _ | exact m_unsupported _ | exact m_choose _ | (with_reducible first | exact m_typeInfo _ | exact m_underlying _ | exact m_sizeOf _ | exact m_runtimePanic _ | exact m_zeroValue _ | exact m_isAgg _ | exact m_part _ _ _ | exact m_Instr_slice _ _ _ _ _) | assumption | (refine Mute.bind ?_ ?_) | (refine m_ite ?_ ?_) | (refine Mute.map ?_) | intro _ | (refine m_forList _ _ _ ?_) | (refine m_forArray _ _ _ ?_) | (refine m_forRange _ _ _ ?_) | (refine m_mapList _ _ ?_) | (refine m_mapArray _ _ ?_) | (refine m_foldList _ _ _ ?_) | split | dsimp only)
theorem m_Builtin_firstCells : ∀ x0 x1 x2, Mute P (Go.Builtin.firstCells x0 x1 x2) := by
 intro x0 x1 x2
 unfold Go.Builtin.firstCells
 repeat' (first | exact m_noRoom | exact m_program | exact Mute.pure _ | exact Mute.pure' _ | exact m_stuck _ | exact m_unsupported _ | exact m_choose _ | (with_reducible first | exact m_typeInfo _ | exact m_underlying _ | exact m_sizeOf _ | exact m_runtimePanic _ | exact m_zeroValue _ | exact m_isAgg _ | exact m_part _ _ _ | exact m_Instr_extract _ _ | exact m_loadCells _ _ | exact m_Instr_slice _ _ _ _ _) | assumption | (refine Mute.bind ?_ ?_) | (refine m_ite ?_ ?_) | (refine Mute.map ?_) | intro _ | (refine m_forList _ _ _ ?_) | (refine m_forArray _ _ _ ?_) | (refine m_forRange _ _ _ ?_) | (refine m_mapList _ _ ?_) | (refine m_mapArray _ _ ?_) | (refine m_foldList _ _ _ ?_) | split | dsimp only)
theorem m_Instr_range : ∀ x0 x1, Mute P (Go.Instr.range x0 x1) := by
 intro x0 x1
 unfold Go.Instr.range
 repeat' (first | exact m_noRoom | exact m_program | exact Mute.pure _ | exact Mute.pure' _ | exact m_stuck _ | exact m_unsupported _ | exact m_choose _ | (with_reducible first | exact m_typeInfo _ | exact m_underlying _ | exact m_sizeOf _ | exact m_runtimePanic _ | exact m_zeroValue _ | exact m_isAgg _ | exact m_part _ _ _ | exact m_getObj _ | exact m_newObj _) | assumption | (refine Mute.bind ?_ ?_) | (refine m_ite ?_ ?_) | (refine Mute.map ?_) | intro _ | (refine m_forList _ _ _ ?_) | (refine m_forArray _ _ _ ?_) | (refine m_forRange _ _ _ ?_) | (refine m_mapList _ _ ?_) | (refine m_mapArray _ _ ?_) | (refine m_foldList _ _ _ ?_) | split | dsimp only)
set_option maxHeartbeats 8000000 in
theorem m_Builtin_append_ : ∀ x0 x1 x2, Mute P (Go.Builtin.append_ x0 x1 x2) := by
 intro x0 x1 x2
 unfold Go.Builtin.append_
 repeat' (first | exact m_noRoom | exact m_program | exact Mute.pure _ | exact Mute.pure' _ | exact m_stuck _ | exact m_unsupported _ | exact m_choose _ | (with_reducible first | exact m_typeInfo _ | exact m_underlying _ | exact m_sizeOf _ | exact m_runtimePanic _ | exact m_zeroValue _ | exact m_isAgg _ | exact m_part _ _ _ | exact m_Instr_range _ _ | exact m_asInt _ | exact m_newRow _ _ | exact m_Builtin_mayShare _ _ _ _ _ | exact m_Instr_slice _ _ _ _ _ | exact m_storeCells _ _ _ | exact m_Builtin_firstCells _ _ _ | exact m_Builtin_lenOf _ | exact m_askRoom _) | assumption | (refine Mute.bind ?_ ?_) | (refine m_ite ?_ ?_) | (refine Mute.map ?_) | intro _ | (refine m_forList _ _ _ ?_) | (refine m_forArray _ _ _ ?_) | (refine m_forRange _ _ _ ?_) | (refine m_mapList _ _ ?_) | (refine m_mapArray _ _ ?_) | (refine m_foldList _ _ _ ?_) | split | dsimp only)
theorem m_Builtin_cap_ : ∀ x0 x1 x2, Mute P (Go.Builtin.cap_ x0 x1 x2) := by
 intro x0 x1 x2
 unfold Go.Builtin.cap_
 repeat' (first | exact m_noRoom | exact m_program | exact Mute.pure _ | exact Mute.pure' _ | exact m_stuck _ | exact m_unsupported _ | exact m_choose _ | (with_reducible first | exact m_typeInfo _ | exact m_underlying _ | exact m_sizeOf _ | exact m_runtimePanic _ | exact m_zeroValue _ | exact m_isAgg _ | exact m_part _ _ _ | exact m_Instr_slice _ _ _ _ _ | exact m_getObj _) | assumption | (refine Mute.bind ?_ ?_) | (refine m_ite ?_ ?_) | (refine Mute.map ?_) | intro _ | (refine m_forList _ _ _ ?_) | (refine m_forArray _ _ _ ?_) | (refine m_forRange _ _ _ ?_) | (refine m_mapList _ _ ?_) | (refine m_mapArray _ _ ?_) | (refine m_foldList _ _ _ ?_) | split | dsimp only)
theorem m_Builtin_clear_ : ∀ x0 x1 x2, Mute P (Go.Builtin.clear_ x0 x1 x2) := by
 intro x0 x1 x2
 unfold Go.Builtin.clear_
 repeat' (first | exact m_noRoom | exact m_program | exact Mute.pure _ | exact Mute.pure' _ | exact m_stuck _ | exact m_unsupported _ | exact m_choose _ | (with_reducible first | exact m_typeInfo _ | exact m_underlying _ | exact m_sizeOf _ | exact m_runtimePanic _ | exact m_zeroValue _ | exact m_isAgg _ | exact m_part _ _ _ | exact m_storeCells _ _ _ | exact m_Instr_slice _ _ _ _ _ | exact m_setObj _ _ | exact m_getObj _) | assumption | (refine Mute.bind ?_ ?_) | (refine m_ite ?_ ?_) | (refine Mute.map ?_) | intro _ | (refine m_forList _ _ _ ?_) | (refine m_forArray _ _ _ ?_) | (refine m_forRange _ _ _ ?_) | (refine m_mapList _ _ ?_) | (refine m_mapArray _ _ ?_) | (refine m_foldList _ _ _ ?_) | split | dsimp only)
theorem m_Builtin_close_ : ∀ x0 x1 x2, Mute P (Go.Builtin.close_ x0 x1 x2) := by
 intro x0 x1 x2
 unfold Go.Builtin.close_
 obtain ⟨l⟩ := x2
 rcases l with _ | ⟨a0, _ | ⟨a1, l⟩⟩
 ·exact m_stuck _
 ·cases a0 <;> first | exact m_stuck _ | (rename_i c; cases c <;> (repeat' (first | exact m_stuck _ | exact m_unsupported _ | exact Mute.pure _ | exact Mute.pure' _ | exact m_runtimePanic _ | exact m_asInt _ | exact m_getObj _ | exact m_setObj _ _ | exact m_viewAt _ | exact m_shape _ | exact m_program | exact m_elemOf _ | exact m_typeInfo _ | exact m_underlying _ | exact m_sizeOf _ | exact m_variablesAt _ _ _ | exact m_newObj _ | exact m_newRow _ _ | exact m_markStringish _ | exact m_freeze _ _ | exact m_loadBytes _ _ _ | exact m_choose _ | (refine Mute.bind ?_ ?_) | (refine Mute.map ?_) | (refine m_ite ?_ ?_) | intro _ | split | dsimp only)))
 ·exact m_stuck _
theorem m_Builtin_complex_ : ∀ x0 x1 x2, Mute P (Go.Builtin.complex_ x0 x1 x2) := by
 intro x0 x1 x2
 unfold Go.Builtin.complex_
 obtain ⟨l⟩ := x2
 rcases l with _ | ⟨a0, _ | ⟨a1, _ | ⟨a2, l⟩⟩⟩
 ·exact m_stuck _
 ·cases a0 <;> exact m_stuck _
 ·cases a0 <;> first | exact m_stuck _ | (cases a1 <;> first | exact m_stuck _ | (repeat' (first | exact m_stuck _ | exact m_unsupported _ | exact Mute.pure _ | exact Mute.pure' _ | exact m_runtimePanic _ | exact m_asInt _ | exact m_getObj _ | exact m_setObj _ _ | exact m_viewAt _ | exact m_shape _ | exact m_program | exact m_elemOf _ | exact m_typeInfo _ | exact m_underlying _ | exact m_sizeOf _ | exact m_variablesAt _ _ _ | exact m_newObj _ | exact m_newRow _ _ | exact m_markStringish _ | exact m_freeze _ _ | exact m_loadBytes _ _ _ | exact m_choose _ | (refine Mute.bind ?_ ?_) | (refine Mute.map ?_) | (refine m_ite ?_ ?_) | intro _ | split | dsimp only)))
 ·cases a0 <;> exact m_stuck _
theorem m_Builtin_copy_ : ∀ x0 x1 x2, Mute P (Go.Builtin.copy_ x0 x1 x2) := by
 intro x0 x1 x2
 unfold Go.Builtin.copy_
 repeat' (first | exact m_noRoom | exact m_program | exact Mute.pure _ | exact Mute.pure' _ | exact m_stuck _ | exact m_unsupported _ | exact m_choose _ | (with_reducible first | exact m_typeInfo _ | exact m_underlying _ | exact m_sizeOf _ | exact m_runtimePanic _ | exact m_zeroValue _ | exact m_isAgg _ | exact m_part _ _ _ | exact m_storeCells _ _ _ | exact m_Instr_slice _ _ _ _ _ | exact m_Builtin_firstCells _ _ _ | exact m_Builtin_lenOf _) | assumption | (refine Mute.bind ?_ ?_) | (refine m_ite ?_ ?_) | (refine Mute.map ?_) | intro _ | (refine m_forList _ _ _ ?_) | (refine m_forArray _ _ _ ?_) | (refine m_forRange _ _ _ ?_) | (refine m_mapList _ _ ?_) | (refine m_mapArray _ _ ?_) | (refine m_foldList _ _ _ ?_) | split | dsimp only)
theorem m_Instr_findAsking : ∀ x0 x1 x2 x3, Mute P (Go.Instr.findAsking x0 x1 x2 x3) := by
 intro x0 x1 x2 x3
 induction x2 generalizing x0 x1 x3 with
 | nil =>
  unfold Go.Instr.findAsking
  repeat' (first | exact m_noRoom | exact m_program | exact Mute.pure _ | exact Mute.pure' _ | exact m_stuck _ | exact m_unsupported _ | exact m_choose _ | (with_reducible first | exact m_typeInfo _ | exact m_underlying _ | exact m_sizeOf _ | exact m_runtimePanic _ | exact m_zeroValue _ | exact m_isAgg _ | exact m_part _ _ _ | exact m_Op_equal _ _ _) | assumption | (refine Mute.bind ?_ ?_) | (refine m_ite ?_ ?_) | (refine Mute.map ?_) | intro _ | (refine m_forList _ _ _ ?_) | (refine m_forArray _ _ _ ?_) | (refine m_forRange _ _ _ ?_) | (refine m_mapList _ _ ?_) | (refine m_mapArray _ _ ?_) | (refine m_foldList _ _ _ ?_) | split | dsimp only)
 | cons a l ih =>
  unfold Go.Instr.findAsking
  repeat' (first | exact m_noRoom | exact m_program | exact Mute.pure _ | exact Mute.pure' _ | exact m_stuck _ | exact m_unsupported _ | exact m_choose _ | (with_reducible first | exact m_typeInfo _ | exact m_underlying _ | exact m_sizeOf _ | exact m_runtimePanic _ | exact m_zeroValue _ | exact m_isAgg _ | exact m_part _ _ _ | exact m_Op_equal _ _ _) | assumption | exact ih _ _ _ | (refine Mute.bind ?_ ?_) | (refine m_ite ?_ ?_) | (refine Mute.map ?_) | intro _ | (refine m_forList _ _ _ ?_) | (refine m_forArray _ _ _ ?_) | (refine m_forRange _ _ _ ?_) | (refine m_mapList _ _ ?_) | (refine m_mapArray _ _ ?_) | (refine m_foldList _ _ _ ?_) | split | dsimp only)
theorem m_Instr_findKey : ∀ x0 x1 x2, Mute P (Go.Instr.findKey x0 x1 x2) := by
 intro x0 x1 x2
 unfold Go.Instr.findKey
 repeat' (first | exact m_noRoom | exact m_program | exact Mute.pure _ | exact Mute.pure' _ | exact m_stuck _ | exact m_unsupported _ | exact m_choose _ | (with_reducible first | exact m_typeInfo _ | exact m_underlying _ | exact m_sizeOf _ | exact m_runtimePanic _ | exact m_zeroValue _ | exact m_isAgg _ | exact m_part _ _ _ | exact m_Instr_findAsking _ _ _ _) | assumption | (refine Mute.bind ?_ ?_) | (refine m_ite ?_ ?_) | (refine Mute.map ?_) | intro _ | (refine m_forList _ _ _ ?_) | (refine m_forArray _ _ _ ?_) | (refine m_forRange _ _ _ ?_) | (refine m_mapList _ _ ?_) | (refine m_mapArray _ _ ?_) | (refine m_foldList _ _ _ ?_) | split | dsimp only)
theorem m_Instr_checkKey : ∀ x0 x1 x2 x3, Mute P (Go.Instr.checkKey x0 x1 x2 x3) := by
 intro x0 x1 x2 x3
 induction x1 generalizing x0 x2 x3 with
 | zero =>
  unfold Go.Instr.checkKey
  repeat' (first | exact m_noRoom | exact m_program | exact Mute.pure _ | exact Mute.pure' _ | exact m_stuck _ | exact m_unsupported _ | exact m_choose _ | (with_reducible first | exact m_typeInfo _ | exact m_underlying _ | exact m_sizeOf _ | exact m_runtimePanic _ | exact m_zeroValue _ | exact m_isAgg _ | exact m_part _ _ _ | exact m_typeStr _) | assumption | (refine Mute.bind ?_ ?_) | (refine m_ite ?_ ?_) | (refine Mute.map ?_) | intro _ | (refine m_forList _ _ _ ?_) | (refine m_forArray _ _ _ ?_) | (refine m_forRange _ _ _ ?_) | (refine m_mapList _ _ ?_) | (refine m_mapArray _ _ ?_) | (refine m_foldList _ _ _ ?_) | split | dsimp only)
 | succ n ih =>
  unfold Go.Instr.checkKey
  repeat' (first | exact m_noRoom | exact m_program | exact Mute.pure _ | exact Mute.pure' _ | exact m_stuck _ | exact m_unsupported _ | exact m_choose _ | (with_reducible first | exact m_typeInfo _ | exact m_underlying _ | exact m_sizeOf _ | exact m_runtimePanic _ | exact m_zeroValue _ | exact m_isAgg _ | exact m_part _ _ _ | exact m_typeStr _) | assumption | exact ih _ _ _ | (refine Mute.bind ?_ ?_) | (refine m_ite ?_ ?_) | (refine Mute.map ?_) | intro _ | (refine m_forList _ _ _ ?_) | (refine m_forArray _ _ _ ?_) | (refine m_forRange _ _ _ ?_) | (refine m_mapList _ _ ?_) | (refine m_mapArray _ _ ?_) | (refine m_foldList _ _ _ ?_) | split | dsimp only)
theorem m_Builtin_delete_ : ∀ x0 x1 x2, Mute P (Go.Builtin.delete_ x0 x1 x2) := by
 intro x0 x1 x2
 unfold Go.Builtin.delete_
 repeat' (first | exact m_noRoom | exact m_program | exact Mute.pure _ | exact Mute.pure' _ | exact m_stuck _ | exact m_unsupported _ | exact m_choose _ | (with_reducible first | exact m_typeInfo _ | exact m_underlying _ | exact m_sizeOf _ | exact m_runtimePanic _ | exact m_zeroValue _ | exact m_isAgg _ | exact m_part _ _ _ | exact m_Instr_findKey _ _ _ | exact m_Instr_checkKey _ _ _ _ | exact m_setObj _ _ | exact m_getObj _) | assumption | (refine Mute.bind ?_ ?_) | (refine m_ite ?_ ?_) | (refine Mute.map ?_) | intro _ | (refine m_forList _ _ _ ?_) | (refine m_forArray _ _ _ ?_) | (refine m_forRange _ _ _ ?_) | (refine m_mapList _ _ ?_) | (refine m_mapArray _ _ ?_) | (refine m_foldList _ _ _ ?_) | split | dsimp only)
theorem m_Builtin_imag_ : ∀ x0 x1 x2, Mute P (Go.Builtin.imag_ x0 x1 x2) := by
 intro x0 x1 x2
 unfold Go.Builtin.imag_
 obtain ⟨l⟩ := x2
 rcases l with _ | ⟨a0, _ | ⟨a1, l⟩⟩
 ·exact m_stuck _
 ·cases a0 <;> first | exact m_stuck _ | (repeat' (first | exact m_stuck _ | exact m_unsupported _ | exact Mute.pure _ | exact Mute.pure' _ | exact m_runtimePanic _ | exact m_asInt _ | exact m_getObj _ | exact m_setObj _ _ | exact m_viewAt _ | exact m_shape _ | exact m_program | exact m_elemOf _ | exact m_typeInfo _ | exact m_underlying _ | exact m_sizeOf _ | exact m_variablesAt _ _ _ | exact m_newObj _ | exact m_newRow _ _ | exact m_markStringish _ | exact m_freeze _ _ | exact m_loadBytes _ _ _ | exact m_choose _ | (refine Mute.bind ?_ ?_) | (refine Mute.map ?_) | (refine m_ite ?_ ?_) | intro _ | split | dsimp only))
 ·exact m_stuck _
theorem m_Builtin_len_ : ∀ x0 x1 x2, Mute P (Go.Builtin.len_ x0 x1 x2) := by
 intro x0 x1 x2
 unfold Go.Builtin.len_
 repeat' (first | exact m_noRoom | exact m_program | exact Mute.pure _ | exact Mute.pure' _ | exact m_stuck _ | exact m_unsupported _ | exact m_choose _ | (with_reducible first | exact m_typeInfo _ | exact m_underlying _ | exact m_sizeOf _ | exact m_runtimePanic _ | exact m_zeroValue _ | exact m_isAgg _ | exact m_part _ _ _ | exact m_Instr_slice _ _ _ _ _ | exact m_getObj _) | assumption | (refine Mute.bind ?_ ?_) | (refine m_ite ?_ ?_) | (refine Mute.map ?_) | intro _ | (refine m_forList _ _ _ ?_) | (refine m_forArray _ _ _ ?_) | (refine m_forRange _ _ _ ?_) | (refine m_mapList _ _ ?_) | (refine m_mapArray _ _ ?_) | (refine m_foldList _ _ _ ?_) | split | dsimp only)
theorem m_Builtin_max2 : ∀ x0 x1, Mute P (Go.Builtin.max2 x0 x1) := by
 intro x0 x1
 unfold Go.Builtin.max2
 repeat' (first | exact m_noRoom | exact m_program | exact Mute.pure _ | exact Mute.pure' _ | exact m_stuck _ | exact m_unsupported _ | exact m_choose _ | (with_reducible first | exact m_typeInfo _ | exact m_underlying _ | exact m_sizeOf _ | exact m_runtimePanic _ | exact m_zeroValue _ | exact m_isAgg _ | exact m_part _ _ _ | exact m_asBool _ | exact m_Op_stringOp _ _ _) | assumption | (refine Mute.bind ?_ ?_) | (refine m_ite ?_ ?_) | (refine Mute.map ?_) | intro _ | (refine m_forList _ _ _ ?_) | (refine m_forArray _ _ _ ?_) | (refine m_forRange _ _ _ ?_) | (refine m_mapList _ _ ?_) | (refine m_mapArray _ _ ?_) | (refine m_foldList _ _ _ ?_) | split | dsimp only)
theorem m_Builtin_max_ : ∀ x0 x1 x2, Mute P (Go.Builtin.max_ x0 x1 x2) := by
 intro x0 x1 x2
 unfold Go.Builtin.max_
 repeat' (first | exact m_noRoom | exact m_program | exact Mute.pure _ | exact Mute.pure' _ | exact m_stuck _ | exact m_unsupported _ | exact m_choose _ | (with_reducible first | exact m_typeInfo _ | exact m_underlying _ | exact m_sizeOf _ | exact m_runtimePanic _ | exact m_zeroValue _ | exact m_isAgg _ | exact m_part _ _ _ | exact m_Builtin_max2 _ _) | assumption | (refine Mute.bind ?_ ?_) | (refine m_ite ?_ ?_) | (refine Mute.map ?_) | intro _ | (refine m_forList _ _ _ ?_) | (refine m_forArray _ _ _ ?_) | (refine m_forRange _ _ _ ?_) | (refine m_mapList _ _ ?_) | (refine m_mapArray _ _ ?_) | (refine m_foldList _ _ _ ?_) | split | dsimp only)
theorem m_Builtin_min2 : ∀ x0 x1, Mute P (Go.Builtin.min2 x0 x1) := by
 intro x0 x1
 unfold Go.Builtin.min2
 repeat' (first | exact m_noRoom | exact m_program | exact Mute.pure _ | exact Mute.pure' _ | exact m_stuck _ | exact m_unsupported _ | exact m_choose _ | (with_reducible first | exact m_typeInfo _ | exact m_underlying _ | exact m_sizeOf _ | exact m_runtimePanic _ | exact m_zeroValue _ | exact m_isAgg _ | exact m_part _ _ _ | exact m_asBool _ | exact m_Op_stringOp _ _ _) | assumption | (refine Mute.bind ?_ ?_) | (refine m_ite ?_ ?_) | (refine Mute.map ?_) | intro _ | (refine m_forList _ _ _ ?_) | (refine m_forArray _ _ _ ?_) | (refine m_forRange _ _ _ ?_) | (refine m_mapList _ _ ?_) | (refine m_mapArray _ _ ?_) | (refine m_foldList _ _ _ ?_) | split | dsimp only)
theorem m_Builtin_min_ : ∀ x0 x1 x2, Mute P (Go.Builtin.min_ x0 x1 x2) := by
 intro x0 x1 x2
 unfold Go.Builtin.min_
 repeat' (first | exact m_noRoom | exact m_program | exact Mute.pure _ | exact Mute.pure' _ | exact m_stuck _ | exact m_unsupported _ | exact m_choose _ | (with_reducible first | exact m_typeInfo _ | exact m_underlying _ | exact m_sizeOf _ | exact m_runtimePanic _ | exact m_zeroValue _ | exact m_isAgg _ | exact m_part _ _ _ | exact m_Builtin_min2 _ _) | assumption | (refine Mute.bind ?_ ?_) | (refine m_ite ?_ ?_) | (refine Mute.map ?_) | intro _ | (refine m_forList _ _ _ ?_) | (refine m_forArray _ _ _ ?_) | (refine m_forRange _ _ _ ?_) | (refine m_mapList _ _ ?_) | (refine m_mapArray _ _ ?_) | (refine m_foldList _ _ _ ?_) | split | dsimp only)
theorem m_Builtin_printOne : ∀ x0 x1, Mute P (Go.Builtin.printOne x0 x1) := by
 intro x0 x1
 unfold Go.Builtin.printOne
 repeat' (first | exact m_noRoom | exact m_program | exact Mute.pure _ | exact Mute.pure' _ | exact m_stuck _ | exact m_unsupported _ | exact m_choose _ | (with_reducible first | exact m_typeInfo _ | exact m_underlying _ | exact m_sizeOf _ | exact m_runtimePanic _ | exact m_zeroValue _ | exact m_isAgg _ | exact m_part _ _ _ | exact m_Instr_slice _ _ _ _ _) | assumption | (refine Mute.bind ?_ ?_) | (refine m_ite ?_ ?_) | (refine Mute.map ?_) | intro _ | (refine m_forList _ _ _ ?_) | (refine m_forArray _ _ _ ?_) | (refine m_forRange _ _ _ ?_) | (refine m_mapList _ _ ?_) | (refine m_mapArray _ _ ?_) | (refine m_foldList _ _ _ ?_) | split | dsimp only)
theorem m_Builtin_real_ : ∀ x0 x1 x2, Mute P (Go.Builtin.real_ x0 x1 x2) := by
 intro x0 x1 x2
 unfold Go.Builtin.real_
 obtain ⟨l⟩ := x2
 rcases l with _ | ⟨a0, _ | ⟨a1, l⟩⟩
 ·exact m_stuck _
 ·cases a0 <;> first | exact m_stuck _ | (repeat' (first | exact m_stuck _ | exact m_unsupported _ | exact Mute.pure _ | exact Mute.pure' _ | exact m_runtimePanic _ | exact m_asInt _ | exact m_getObj _ | exact m_setObj _ _ | exact m_viewAt _ | exact m_shape _ | exact m_program | exact m_elemOf _ | exact m_typeInfo _ | exact m_underlying _ | exact m_sizeOf _ | exact m_variablesAt _ _ _ | exact m_newObj _ | exact m_newRow _ _ | exact m_markStringish _ | exact m_freeze _ _ | exact m_loadBytes _ _ _ | exact m_choose _ | (refine Mute.bind ?_ ?_) | (refine Mute.map ?_) | (refine m_ite ?_ ?_) | intro _ | split | dsimp only))
 ·exact m_stuck _
theorem m_Builtin_unsafeAdd_ : ∀ x0 x1 x2, Mute P (Go.Builtin.unsafeAdd_ x0 x1 x2) := by
 intro x0 x1 x2
 unfold Go.Builtin.unsafeAdd_
 obtain ⟨l⟩ := x2
 rcases l with _ | ⟨a0, _ | ⟨a1, _ | ⟨a2, l⟩⟩⟩
 ·exact m_stuck _
 ·cases a0 <;> exact m_stuck _
 ·cases a0 <;> first | exact m_stuck _ | (repeat' (first | exact m_stuck _ | exact m_unsupported _ | exact Mute.pure _ | exact Mute.pure' _ | exact m_runtimePanic _ | exact m_asInt _ | exact m_getObj _ | exact m_setObj _ _ | exact m_viewAt _ | exact m_shape _ | exact m_program | exact m_elemOf _ | exact m_typeInfo _ | exact m_underlying _ | exact m_sizeOf _ | exact m_variablesAt _ _ _ | exact m_newObj _ | exact m_newRow _ _ | exact m_markStringish _ | exact m_freeze _ _ | exact m_loadBytes _ _ _ | exact m_choose _ | (refine Mute.bind ?_ ?_) | (refine Mute.map ?_) | (refine m_ite ?_ ?_) | intro _ | split | dsimp only))
 ·cases a0 <;> exact m_stuck _
theorem m_Builtin_unsafeSlice_ : ∀ x0 x1 x2, Mute P (Go.Builtin.unsafeSlice_ x0 x1 x2) := by
 intro x0 x1 x2
 unfold Go.Builtin.unsafeSlice_
 obtain ⟨l⟩ := x2
 rcases l with _ | ⟨a0, _ | ⟨a1, _ | ⟨a2, l⟩⟩⟩
 ·exact m_stuck _
 ·cases a0 <;> exact m_stuck _
 ·cases a0 <;> first | exact m_stuck _ | (repeat' (first | exact m_stuck _ | exact m_unsupported _ | exact Mute.pure _ | exact Mute.pure' _ | exact m_runtimePanic _ | exact m_asInt _ | exact m_getObj _ | exact m_setObj _ _ | exact m_viewAt _ | exact m_shape _ | exact m_program | exact m_elemOf _ | exact m_typeInfo _ | exact m_underlying _ | exact m_sizeOf _ | exact m_variablesAt _ _ _ | exact m_newObj _ | exact m_newRow _ _ | exact m_markStringish _ | exact m_freeze _ _ | exact m_loadBytes _ _ _ | exact m_choose _ | (refine Mute.bind ?_ ?_) | (refine Mute.map ?_) | (refine m_ite ?_ ?_) | intro _ | split | dsimp only))
 ·cases a0 <;> exact m_stuck _
theorem m_Builtin_unsafeSliceData_ : ∀ x0 x1 x2, Mute P (Go.Builtin.unsafeSliceData_ x0 x1 x2) := by
 intro x0 x1 x2
 unfold Go.Builtin.unsafeSliceData_
 obtain ⟨l⟩ := x2
 rcases l with _ | ⟨a0, _ | ⟨a1, l⟩⟩
 ·exact m_stuck _
 ·cases a0 <;> first | exact m_stuck _ | (rename_i b _ _; cases b <;> (repeat' (first | exact m_stuck _ | exact m_unsupported _ | exact Mute.pure _ | exact Mute.pure' _ | exact m_runtimePanic _ | exact m_asInt _ | exact m_getObj _ | exact m_setObj _ _ | exact m_viewAt _ | exact m_shape _ | exact m_program | exact m_elemOf _ | exact m_typeInfo _ | exact m_underlying _ | exact m_sizeOf _ | exact m_variablesAt _ _ _ | exact m_newObj _ | exact m_newRow _ _ | exact m_markStringish _ | exact m_freeze _ _ | exact m_loadBytes _ _ _ | exact m_choose _ | (refine Mute.bind ?_ ?_) | (refine Mute.map ?_) | (refine m_ite ?_ ?_) | intro _ | split | dsimp only)))
 ·exact m_stuck _
theorem m_Builtin_unsafeString_ : ∀ x0 x1 x2, Mute P (Go.Builtin.unsafeString_ x0 x1 x2) := by
 intro x0 x1 x2
 unfold Go.Builtin.unsafeString_
 obtain ⟨l⟩ := x2
 rcases l with _ | ⟨a0, _ | ⟨a1, _ | ⟨a2, l⟩⟩⟩
 ·exact m_stuck _
 ·cases a0 <;> exact m_stuck _
 ·cases a0 <;> first | exact m_stuck _ | (repeat' (first | exact m_stuck _ | exact m_unsupported _ | exact Mute.pure _ | exact Mute.pure' _ | exact m_runtimePanic _ | exact m_asInt _ | exact m_getObj _ | exact m_setObj _ _ | exact m_viewAt _ | exact m_shape _ | exact m_program | exact m_elemOf _ | exact m_typeInfo _ | exact m_underlying _ | exact m_sizeOf _ | exact m_variablesAt _ _ _ | exact m_newObj _ | exact m_newRow _ _ | exact m_markStringish _ | exact m_freeze _ _ | exact m_loadBytes _ _ _ | exact m_choose _ | (refine Mute.bind ?_ ?_) | (refine Mute.map ?_) | (refine m_ite ?_ ?_) | intro _ | split | dsimp only))
 ·cases a0 <;> exact m_stuck _
theorem m_Builtin_unsafeStringData_ : ∀ x0 x1 x2, Mute P (Go.Builtin.unsafeStringData_ x0 x1 x2) := by
 intro x0 x1 x2
 unfold Go.Builtin.unsafeStringData_
 obtain ⟨l⟩ := x2
 rcases l with _ | ⟨a0, _ | ⟨a1, l⟩⟩
 ·exact m_stuck _
 ·cases a0 <;> first | exact m_stuck _ | (repeat' (first | exact m_stuck _ | exact m_unsupported _ | exact Mute.pure _ | exact Mute.pure' _ | exact m_runtimePanic _ | exact m_asInt _ | exact m_getObj _ | exact m_setObj _ _ | exact m_viewAt _ | exact m_shape _ | exact m_program | exact m_elemOf _ | exact m_typeInfo _ | exact m_underlying _ | exact m_sizeOf _ | exact m_variablesAt _ _ _ | exact m_newObj _ | exact m_newRow _ _ | exact m_markStringish _ | exact m_freeze _ _ | exact m_loadBytes _ _ _ | exact m_choose _ | (refine Mute.bind ?_ ?_) | (refine Mute.map ?_) | (refine m_ite ?_ ?_) | intro _ | split | dsimp only))
 ·exact m_stuck _
theorem m_Instr_sureAddr : ∀ x0, Mute P (Go.Instr.sureAddr x0) := by
 intro x0
 unfold Go.Instr.sureAddr
 repeat' (first | exact m_noRoom | exact m_program | exact Mute.pure _ | exact Mute.pure' _ | exact m_stuck _ | exact m_unsupported _ | exact m_choose _ | (with_reducible first | exact m_typeInfo _ | exact m_underlying _ | exact m_sizeOf _ | exact m_runtimePanic _ | exact m_zeroValue _ | exact m_isAgg _ | exact m_part _ _ _) | assumption | (refine Mute.bind ?_ ?_) | (refine m_ite ?_ ?_) | (refine Mute.map ?_) | intro _ | (refine m_forList _ _ _ ?_) | (refine m_forArray _ _ _ ?_) | (refine m_forRange _ _ _ ?_) | (refine m_mapList _ _ ?_) | (refine m_mapArray _ _ ?_) | (refine m_foldList _ _ _ ?_) | split | dsimp only)
theorem m_Instr_loadAt : ∀ x0 x1, Mute P (Go.Instr.loadAt x0 x1) := by
 intro x0 x1
 unfold Go.Instr.loadAt
 repeat' (first | exact m_noRoom | exact m_program | exact Mute.pure _ | exact Mute.pure' _ | exact m_stuck _ | exact m_unsupported _ | exact m_choose _ | (with_reducible first | exact m_typeInfo _ | exact m_underlying _ | exact m_sizeOf _ | exact m_runtimePanic _ | exact m_zeroValue _ | exact m_isAgg _ | exact m_part _ _ _ | exact m_loadVar _ _ | exact m_Instr_sureAddr _) | assumption | (refine Mute.bind ?_ ?_) | (refine m_ite ?_ ?_) | (refine Mute.map ?_) | intro _ | (refine m_forList _ _ _ ?_) | (refine m_forArray _ _ _ ?_) | (refine m_forRange _ _ _ ?_) | (refine m_mapList _ _ ?_) | (refine m_mapArray _ _ ?_) | (refine m_foldList _ _ _ ?_) | split | dsimp only)
theorem m_Instr_storeAt : ∀ x0 x1 x2, Mute P (Go.Instr.storeAt x0 x1 x2) := by
 intro x0 x1 x2
 unfold Go.Instr.storeAt
 repeat' (first | exact m_noRoom | exact m_program | exact Mute.pure _ | exact Mute.pure' _ | exact m_stuck _ | exact m_unsupported _ | exact m_choose _ | (with_reducible first | exact m_typeInfo _ | exact m_underlying _ | exact m_sizeOf _ | exact m_runtimePanic _ | exact m_zeroValue _ | exact m_isAgg _ | exact m_part _ _ _ | exact m_storeVar _ _ _ | exact m_Instr_sureAddr _) | assumption | (refine Mute.bind ?_ ?_) | (refine m_ite ?_ ?_) | (refine Mute.map ?_) | intro _ | (refine m_forList _ _ _ ?_) | (refine m_forArray _ _ _ ?_) | (refine m_forRange _ _ _ ?_) | (refine m_mapList _ _ ?_) | (refine m_mapArray _ _ ?_) | (refine m_foldList _ _ _ ?_) | split | dsimp only)
theorem m_Instr_field : ∀ x0 x1 x2, Mute P (Go.Instr.field x0 x1 x2) := by
 intro x0 x1 x2
 unfold Go.Instr.field
 repeat' (first | exact m_noRoom | exact m_program | exact Mute.pure _ | exact Mute.pure' _ | exact m_stuck _ | exact m_unsupported _ | exact m_choose _ | (with_reducible first | exact m_typeInfo _ | exact m_underlying _ | exact m_sizeOf _ | exact m_runtimePanic _ | exact m_zeroValue _ | exact m_isAgg _ | exact m_part _ _ _ | exact m_asAgg _) | assumption | (refine Mute.bind ?_ ?_) | (refine m_ite ?_ ?_) | (refine Mute.map ?_) | intro _ | (refine m_forList _ _ _ ?_) | (refine m_forArray _ _ _ ?_) | (refine m_forRange _ _ _ ?_) | (refine m_mapList _ _ ?_) | (refine m_mapArray _ _ ?_) | (refine m_foldList _ _ _ ?_) | split | dsimp only)
theorem m_Instr_fieldAt : ∀ x0 x1 x2, Mute P (Go.Instr.fieldAt x0 x1 x2) := by
 intro x0 x1 x2
 unfold Go.Instr.fieldAt
 repeat' (first | exact m_noRoom | exact m_program | exact Mute.pure _ | exact Mute.pure' _ | exact m_stuck _ | exact m_unsupported _ | exact m_choose _ | (with_reducible first | exact m_typeInfo _ | exact m_underlying _ | exact m_sizeOf _ | exact m_runtimePanic _ | exact m_zeroValue _ | exact m_isAgg _ | exact m_part _ _ _ | exact m_Instr_sureAddr _ | exact m_fieldPlace _ _ | exact m_Instr_field _ _ _) | assumption | (refine Mute.bind ?_ ?_) | (refine m_ite ?_ ?_) | (refine Mute.map ?_) | intro _ | (refine m_forList _ _ _ ?_) | (refine m_forArray _ _ _ ?_) | (refine m_forRange _ _ _ ?_) | (refine m_mapList _ _ ?_) | (refine m_mapArray _ _ ?_) | (refine m_foldList _ _ _ ?_) | split | dsimp only)
theorem m_Instr_indexAt : ∀ x0 x1 x2, Mute P (Go.Instr.indexAt x0 x1 x2) := by
 intro x0 x1 x2
 unfold Go.Instr.indexAt
 repeat' (first | exact m_noRoom | exact m_program | exact Mute.pure _ | exact Mute.pure' _ | exact m_stuck _ | exact m_unsupported _ | exact m_choose _ | (with_reducible first | exact m_typeInfo _ | exact m_underlying _ | exact m_sizeOf _ | exact m_runtimePanic _ | exact m_zeroValue _ | exact m_isAgg _ | exact m_part _ _ _ | exact m_Instr_sureAddr _ | exact m_Instr_index _ _ _ | exact m_Instr_range _ _ | exact m_boundsPanic _ _ _ _ | exact m_asIntOf _ | exact m_Instr_slice _ _ _ _ _) | assumption | (refine Mute.bind ?_ ?_) | (refine m_ite ?_ ?_) | (refine Mute.map ?_) | intro _ | (refine m_forList _ _ _ ?_) | (refine m_forArray _ _ _ ?_) | (refine m_forRange _ _ _ ?_) | (refine m_mapList _ _ ?_) | (refine m_mapArray _ _ ?_) | (refine m_foldList _ _ _ ?_) | split | dsimp only)
theorem m_Instr_sliceAt : ∀ x0 x1 x2 x3 x4, Mute P (Go.Instr.sliceAt x0 x1 x2 x3 x4) := by
 intro x0 x1 x2 x3 x4
 unfold Go.Instr.sliceAt
 repeat' (first | exact m_noRoom | exact m_program | exact Mute.pure _ | exact Mute.pure' _ | exact m_stuck _ | exact m_unsupported _ | exact m_choose _ | (with_reducible first | exact m_typeInfo _ | exact m_underlying _ | exact m_sizeOf _ | exact m_runtimePanic _ | exact m_zeroValue _ | exact m_isAgg _ | exact m_part _ _ _ | exact m_Instr_sureAddr _ | exact m_Instr_slice _ _ _ _ _ | exact m_Instr_sliceBounds _ _ _ _ _ _) | assumption | (refine Mute.bind ?_ ?_) | (refine m_ite ?_ ?_) | (refine Mute.map ?_) | intro _ | (refine m_forList _ _ _ ?_) | (refine m_forArray _ _ _ ?_) | (refine m_forRange _ _ _ ?_) | (refine m_mapList _ _ ?_) | (refine m_mapArray _ _ ?_) | (refine m_foldList _ _ _ ?_) | split | dsimp only)
theorem m_convert : ∀ x0 x1 x2, Mute P (Go.convert x0 x1 x2) := by
 intro x0 x1 x2
 unfold Go.convert
 repeat' (first | exact m_noRoom | exact m_program | exact Mute.pure _ | exact Mute.pure' _ | exact m_stuck _ | exact m_unsupported _ | exact m_choose _ | (with_reducible first | exact m_typeInfo _ | exact m_underlying _ | exact m_sizeOf _ | exact m_runtimePanic _ | exact m_zeroValue _ | exact m_isAgg _ | exact m_part _ _ _ | exact m_Conv_intToString _ | exact m_Conv_floatToFloat _ _ _ | exact m_Conv_intToInt _ _ | exact m_Conv_runesToString _ | exact m_Conv_unsafePointer _ _ _ | exact m_Conv_complexToComplex _ _ _ _ | exact m_Conv_stringToBytes _ _ | exact m_Conv_bytesToString _ | exact m_Conv_stringToRunes _ _ | exact m_Conv_intToFloat _ _ | exact m_markStringish _ | exact m_Conv_floatToInt _ _ _ | exact m_Instr_slice _ _ _ _ _) | assumption | (refine Mute.bind ?_ ?_) | (refine m_ite ?_ ?_) | (refine Mute.map ?_) | intro _ | (refine m_forList _ _ _ ?_) | (refine m_forArray _ _ _ ?_) | (refine m_forRange _ _ _ ?_) | (refine m_mapList _ _ ?_) | (refine m_mapArray _ _ ?_) | (refine m_foldList _ _ _ ?_) | split | dsimp only)
theorem m_Instr_arrayAt : ∀ x0 x1, Mute P (Go.Instr.arrayAt x0 x1) := by
 intro x0 x1
 unfold Go.Instr.arrayAt
 repeat' (first | exact m_noRoom | exact m_program | exact Mute.pure _ | exact Mute.pure' _ | exact m_stuck _ | exact m_unsupported _ | exact m_choose _ | (with_reducible first | exact m_typeInfo _ | exact m_underlying _ | exact m_sizeOf _ | exact m_runtimePanic _ | exact m_zeroValue _ | exact m_isAgg _ | exact m_part _ _ _ | exact m_convert _ _ _ | exact m_Instr_slice _ _ _ _ _) | assumption | (refine Mute.bind ?_ ?_) | (refine m_ite ?_ ?_) | (refine Mute.map ?_) | intro _ | (refine m_forList _ _ _ ?_) | (refine m_forArray _ _ _ ?_) | (refine m_forRange _ _ _ ?_) | (refine m_mapList _ _ ?_) | (refine m_mapArray _ _ ?_) | (refine m_foldList _ _ _ ?_) | split | dsimp only)
theorem m_Instr_alloc : ∀ x0 x1 x2, Mute P (Go.Instr.alloc x0 x1 x2) := by
 intro x0 x1 x2
 unfold Go.Instr.alloc
 repeat' (first | exact m_noRoom | exact m_program | exact Mute.pure _ | exact Mute.pure' _ | exact m_stuck _ | exact m_unsupported _ | exact m_choose _ | (with_reducible first | exact m_typeInfo _ | exact m_underlying _ | exact m_sizeOf _ | exact m_runtimePanic _ | exact m_zeroValue _ | exact m_isAgg _ | exact m_part _ _ _ | exact m_storeVar _ _ _ | exact m_newVar _ _) | assumption | (refine Mute.bind ?_ ?_) | (refine m_ite ?_ ?_) | (refine Mute.map ?_) | intro _ | (refine m_forList _ _ _ ?_) | (refine m_forArray _ _ _ ?_) | (refine m_forRange _ _ _ ?_) | (refine m_mapList _ _ ?_) | (refine m_mapArray _ _ ?_) | (refine m_foldList _ _ _ ?_) | split | dsimp only)
theorem m_Instr_box : ∀ x0 x1, Mute P (Go.Instr.box x0 x1) := by
 intro x0 x1
 unfold Go.Instr.box
 repeat' (first | exact m_noRoom | exact m_program | exact Mute.pure _ | exact Mute.pure' _ | exact m_stuck _ | exact m_unsupported _ | exact m_choose _ | (with_reducible first | exact m_typeInfo _ | exact m_underlying _ | exact m_sizeOf _ | exact m_runtimePanic _ | exact m_zeroValue _ | exact m_isAgg _ | exact m_part _ _ _ | exact m_newVar _ _) | assumption | (refine Mute.bind ?_ ?_) | (refine m_ite ?_ ?_) | (refine Mute.map ?_) | intro _ | (refine m_forList _ _ _ ?_) | (refine m_forArray _ _ _ ?_) | (refine m_forRange _ _ _ ?_) | (refine m_mapList _ _ ?_) | (refine m_mapArray _ _ ?_) | (refine m_foldList _ _ _ ?_) | split | dsimp only)
theorem m_Instr_build : ∀ x0 x1, Mute P (Go.Instr.build x0 x1) := by
 intro x0 x1
 unfold Go.Instr.build
 repeat' (first | exact m_noRoom | exact m_program | exact Mute.pure _ | exact Mute.pure' _ | exact m_stuck _ | exact m_unsupported _ | exact m_choose _ | (with_reducible first | exact m_typeInfo _ | exact m_underlying _ | exact m_sizeOf _ | exact m_runtimePanic _ | exact m_zeroValue _ | exact m_isAgg _ | exact m_part _ _ _ | exact m_Instr_field _ _ _) | assumption | (refine Mute.bind ?_ ?_) | (refine m_ite ?_ ?_) | (refine Mute.map ?_) | intro _ | (refine m_forList _ _ _ ?_) | (refine m_forArray _ _ _ ?_) | (refine m_forRange _ _ _ ?_) | (refine m_mapList _ _ ?_) | (refine m_mapArray _ _ ?_) | (refine m_foldList _ _ _ ?_) | split | dsimp only)
theorem m_Instr_buildSlice : ∀ x0 x1 x2, Mute P (Go.Instr.buildSlice x0 x1 x2) := by
 intro x0 x1 x2
 unfold Go.Instr.buildSlice
 repeat' (first | exact m_noRoom | exact m_program | exact Mute.pure _ | exact Mute.pure' _ | exact m_stuck _ | exact m_unsupported _ | exact m_choose _ | (with_reducible first | exact m_typeInfo _ | exact m_underlying _ | exact m_sizeOf _ | exact m_runtimePanic _ | exact m_zeroValue _ | exact m_isAgg _ | exact m_part _ _ _ | exact m_Instr_range _ _ | exact m_newRow _ _ | exact m_Instr_slice _ _ _ _ _) | assumption | (refine Mute.bind ?_ ?_) | (refine m_ite ?_ ?_) | (refine Mute.map ?_) | intro _ | (refine m_forList _ _ _ ?_) | (refine m_forArray _ _ _ ?_) | (refine m_forRange _ _ _ ?_) | (refine m_mapList _ _ ?_) | (refine m_mapArray _ _ ?_) | (refine m_foldList _ _ _ ?_) | split | dsimp only)
theorem m_Instr_entry : ∀ x0, Mute P (Go.Instr.entry x0) := by
 intro x0
 unfold Go.Instr.entry
 repeat' (first | exact m_noRoom | exact m_program | exact Mute.pure _ | exact Mute.pure' _ | exact m_stuck _ | exact m_unsupported _ | exact m_choose _ | (with_reducible first | exact m_typeInfo _ | exact m_underlying _ | exact m_sizeOf _ | exact m_runtimePanic _ | exact m_zeroValue _ | exact m_isAgg _ | exact m_part _ _ _ | exact m_getObj _) | assumption | (refine Mute.bind ?_ ?_) | (refine m_ite ?_ ?_) | (refine Mute.map ?_) | intro _ | (refine m_forList _ _ _ ?_) | (refine m_forArray _ _ _ ?_) | (refine m_forRange _ _ _ ?_) | (refine m_mapList _ _ ?_) | (refine m_mapArray _ _ ?_) | (refine m_foldList _ _ _ ?_) | split | dsimp only)
theorem m_Instr_lookup : ∀ x0 x1 x2 x3, Mute P (Go.Instr.lookup x0 x1 x2 x3) := by
 intro x0 x1 x2 x3
 unfold Go.Instr.lookup
 repeat' (first | exact m_noRoom | exact m_program | exact Mute.pure _ | exact Mute.pure' _ | exact m_stuck _ | exact m_unsupported _ | exact m_choose _ | (with_reducible first | exact m_typeInfo _ | exact m_underlying _ | exact m_sizeOf _ | exact m_runtimePanic _ | exact m_zeroValue _ | exact m_isAgg _ | exact m_part _ _ _ | exact m_Instr_findKey _ _ _ | exact m_Instr_index _ _ _ | exact m_Instr_checkKey _ _ _ _ | exact m_getObj _) | assumption | (refine Mute.bind ?_ ?_) | (refine m_ite ?_ ?_) | (refine Mute.map ?_) | intro _ | (refine m_forList _ _ _ ?_) | (refine m_forArray _ _ _ ?_) | (refine m_forRange _ _ _ ?_) | (refine m_mapList _ _ ?_) | (refine m_mapArray _ _ ?_) | (refine m_foldList _ _ _ ?_) | split | dsimp only)
theorem m_Instr_makeChan : ∀ x0 x1, Mute P (Go.Instr.makeChan x0 x1) := by
 intro x0 x1
 unfold Go.Instr.makeChan
 repeat' (first | exact m_noRoom | exact m_program | exact Mute.pure _ | exact Mute.pure' _ | exact m_stuck _ | exact m_unsupported _ | exact m_choose _ | (with_reducible first | exact m_typeInfo _ | exact m_underlying _ | exact m_sizeOf _ | exact m_runtimePanic _ | exact m_zeroValue _ | exact m_isAgg _ | exact m_part _ _ _ | exact m_asInt _ | exact m_Instr_range _ _ | exact m_newObj _) | assumption | (refine Mute.bind ?_ ?_) | (refine m_ite ?_ ?_) | (refine Mute.map ?_) | intro _ | (refine m_forList _ _ _ ?_) | (refine m_forArray _ _ _ ?_) | (refine m_forRange _ _ _ ?_) | (refine m_mapList _ _ ?_) | (refine m_mapArray _ _ ?_) | (refine m_foldList _ _ _ ?_) | split | dsimp only)
theorem m_Instr_makeFunc : ∀ x0 x1 x2, Mute P (Go.Instr.makeFunc x0 x1 x2) := by
 intro x0 x1 x2
 unfold Go.Instr.makeFunc
 repeat' (first | exact m_noRoom | exact m_program | exact Mute.pure _ | exact Mute.pure' _ | exact m_stuck _ | exact m_unsupported _ | exact m_choose _ | (with_reducible first | exact m_typeInfo _ | exact m_underlying _ | exact m_sizeOf _ | exact m_runtimePanic _ | exact m_zeroValue _ | exact m_isAgg _ | exact m_part _ _ _) | assumption | (refine Mute.bind ?_ ?_) | (refine m_ite ?_ ?_) | (refine Mute.map ?_) | intro _ | (refine m_forList _ _ _ ?_) | (refine m_forArray _ _ _ ?_) | (refine m_forRange _ _ _ ?_) | (refine m_mapList _ _ ?_) | (refine m_mapArray _ _ ?_) | (refine m_foldList _ _ _ ?_) | split | dsimp only)
theorem m_Instr_makeInterface : ∀ x0 x1, Mute P (Go.Instr.makeInterface x0 x1) := by
 intro x0 x1
 unfold Go.Instr.makeInterface
 repeat' (first | exact m_noRoom | exact m_program | exact Mute.pure _ | exact Mute.pure' _ | exact m_stuck _ | exact m_unsupported _ | exact m_choose _ | (with_reducible first | exact m_typeInfo _ | exact m_underlying _ | exact m_sizeOf _ | exact m_runtimePanic _ | exact m_zeroValue _ | exact m_isAgg _ | exact m_part _ _ _) | assumption | (refine Mute.bind ?_ ?_) | (refine m_ite ?_ ?_) | (refine Mute.map ?_) | intro _ | (refine m_forList _ _ _ ?_) | (refine m_forArray _ _ _ ?_) | (refine m_forRange _ _ _ ?_) | (refine m_mapList _ _ ?_) | (refine m_mapArray _ _ ?_) | (refine m_foldList _ _ _ ?_) | split | dsimp only)
theorem m_Instr_makeMap : ∀ x0 x1, Mute P (Go.Instr.makeMap x0 x1) := by
 intro x0 x1
 unfold Go.Instr.makeMap
 repeat' (first | exact m_noRoom | exact m_program | exact Mute.pure _ | exact Mute.pure' _ | exact m_stuck _ | exact m_unsupported _ | exact m_choose _ | (with_reducible first | exact m_typeInfo _ | exact m_underlying _ | exact m_sizeOf _ | exact m_runtimePanic _ | exact m_zeroValue _ | exact m_isAgg _ | exact m_part _ _ _ | exact m_asInt _ | exact m_newObj _) | assumption | (refine Mute.bind ?_ ?_) | (refine m_ite ?_ ?_) | (refine Mute.map ?_) | intro _ | (refine m_forList _ _ _ ?_) | (refine m_forArray _ _ _ ?_) | (refine m_forRange _ _ _ ?_) | (refine m_mapList _ _ ?_) | (refine m_mapArray _ _ ?_) | (refine m_foldList _ _ _ ?_) | split | dsimp only)
theorem m_Instr_makeSlice : ∀ x0 x1 x2, Mute P (Go.Instr.makeSlice x0 x1 x2) := by
 intro x0 x1 x2
 unfold Go.Instr.makeSlice
 repeat' (first | exact m_noRoom | exact m_program | exact Mute.pure _ | exact Mute.pure' _ | exact m_stuck _ | exact m_unsupported _ | exact m_choose _ | (with_reducible first | exact m_typeInfo _ | exact m_underlying _ | exact m_sizeOf _ | exact m_runtimePanic _ | exact m_zeroValue _ | exact m_isAgg _ | exact m_part _ _ _ | exact m_asInt _ | exact m_Instr_range _ _ | exact m_newRow _ _ | exact m_Instr_slice _ _ _ _ _ | exact m_askRoom _) | assumption | (refine Mute.bind ?_ ?_) | (refine m_ite ?_ ?_) | (refine Mute.map ?_) | intro _ | (refine m_forList _ _ _ ?_) | (refine m_forArray _ _ _ ?_) | (refine m_forRange _ _ _ ?_) | (refine m_mapList _ _ ?_) | (refine m_mapArray _ _ ?_) | (refine m_foldList _ _ _ ?_) | split | dsimp only)
theorem m_Instr_keyThatStays : ∀ x0 x1, Mute P (Go.Instr.keyThatStays x0 x1) := by
 intro x0 x1
 unfold Go.Instr.keyThatStays
 repeat' (first | exact m_noRoom | exact m_program | exact Mute.pure _ | exact Mute.pure' _ | exact m_stuck _ | exact m_unsupported _ | exact m_choose _ | (with_reducible first | exact m_typeInfo _ | exact m_underlying _ | exact m_sizeOf _ | exact m_runtimePanic _ | exact m_zeroValue _ | exact m_isAgg _ | exact m_part _ _ _) | assumption | (refine Mute.bind ?_ ?_) | (refine m_ite ?_ ?_) | (refine Mute.map ?_) | intro _ | (refine m_forList _ _ _ ?_) | (refine m_forArray _ _ _ ?_) | (refine m_forRange _ _ _ ?_) | (refine m_mapList _ _ ?_) | (refine m_mapArray _ _ ?_) | (refine m_foldList _ _ _ ?_) | split | dsimp only)
theorem m_Instr_mapEntry : ∀ x0 x1 x2, Mute P (Go.Instr.mapEntry x0 x1 x2) := by
 intro x0 x1 x2
 unfold Go.Instr.mapEntry
 repeat' (first | exact m_noRoom | exact m_program | exact Mute.pure _ | exact Mute.pure' _ | exact m_stuck _ | exact m_unsupported _ | exact m_choose _ | (with_reducible first | exact m_typeInfo _ | exact m_underlying _ | exact m_sizeOf _ | exact m_runtimePanic _ | exact m_zeroValue _ | exact m_isAgg _ | exact m_part _ _ _ | exact m_Instr_findKey _ _ _ | exact m_Instr_keyThatStays _ _ | exact m_Instr_entry _ | exact m_Instr_checkKey _ _ _ _ | exact m_setObj _ _ | exact m_getObj _) | assumption | (refine Mute.bind ?_ ?_) | (refine m_ite ?_ ?_) | (refine Mute.map ?_) | intro _ | (refine m_forList _ _ _ ?_) | (refine m_forArray _ _ _ ?_) | (refine m_forRange _ _ _ ?_) | (refine m_mapList _ _ ?_) | (refine m_mapArray _ _ ?_) | (refine m_foldList _ _ _ ?_) | split | dsimp only)
theorem m_Instr_entryStore : ∀ x0 x1 x2 x3, Mute P (Go.Instr.entryStore x0 x1 x2 x3) := by
 intro x0 x1 x2 x3
 unfold Go.Instr.entryStore
 repeat' (first | exact m_noRoom | exact m_program | exact Mute.pure _ | exact Mute.pure' _ | exact m_stuck _ | exact m_unsupported _ | exact m_choose _ | (with_reducible first | exact m_typeInfo _ | exact m_underlying _ | exact m_sizeOf _ | exact m_runtimePanic _ | exact m_zeroValue _ | exact m_isAgg _ | exact m_part _ _ _ | exact m_Instr_entry _ | exact m_asInt _ | exact m_setObj _ _ | exact m_getObj _) | assumption | (refine Mute.bind ?_ ?_) | (refine m_ite ?_ ?_) | (refine Mute.map ?_) | intro _ | (refine m_forList _ _ _ ?_) | (refine m_forArray _ _ _ ?_) | (refine m_forRange _ _ _ ?_) | (refine m_mapList _ _ ?_) | (refine m_mapArray _ _ ?_) | (refine m_foldList _ _ _ ?_) | split | dsimp only)
theorem m_Instr_mapUpdate : ∀ x0 x1 x2 x3, Mute P (Go.Instr.mapUpdate x0 x1 x2 x3) := by
 intro x0 x1 x2 x3
 unfold Go.Instr.mapUpdate
 repeat' (first | exact m_noRoom | exact m_program | exact Mute.pure _ | exact Mute.pure' _ | exact m_stuck _ | exact m_unsupported _ | exact m_choose _ | (with_reducible first | exact m_typeInfo _ | exact m_underlying _ | exact m_sizeOf _ | exact m_runtimePanic _ | exact m_zeroValue _ | exact m_isAgg _ | exact m_part _ _ _ | exact m_Instr_findKey _ _ _ | exact m_Instr_keyThatStays _ _ | exact m_Instr_entry _ | exact m_Instr_checkKey _ _ _ _ | exact m_setObj _ _ | exact m_getObj _) | assumption | (refine Mute.bind ?_ ?_) | (refine m_ite ?_ ?_) | (refine Mute.map ?_) | intro _ | (refine m_forList _ _ _ ?_) | (refine m_forArray _ _ _ ?_) | (refine m_forRange _ _ _ ?_) | (refine m_mapList _ _ ?_) | (refine m_mapArray _ _ ?_) | (refine m_foldList _ _ _ ?_) | split | dsimp only)
theorem m_followBlind : ∀ x0 x1 x2, Mute P (Go.followBlind x0 x1 x2) := by
 intro x0 x1 x2
 induction x0 generalizing x1 x2 with
 | nil =>
  unfold Go.followBlind
  repeat' (first | exact m_noRoom | exact m_program | exact Mute.pure _ | exact Mute.pure' _ | exact m_stuck _ | exact m_unsupported _ | exact m_choose _ | (with_reducible first | exact m_typeInfo _ | exact m_underlying _ | exact m_sizeOf _ | exact m_runtimePanic _ | exact m_zeroValue _ | exact m_isAgg _ | exact m_part _ _ _ | exact m_method _ _ _ _ | exact m_Instr_index _ _ _ | exact m_Instr_field _ _ _) | assumption | (refine Mute.bind ?_ ?_) | (refine m_ite ?_ ?_) | (refine Mute.map ?_) | intro _ | (refine m_forList _ _ _ ?_) | (refine m_forArray _ _ _ ?_) | (refine m_forRange _ _ _ ?_) | (refine m_mapList _ _ ?_) | (refine m_mapArray _ _ ?_) | (refine m_foldList _ _ _ ?_) | split | dsimp only)
 | cons a l ih =>
  unfold Go.followBlind
  repeat' (first | exact m_noRoom | exact m_program | exact Mute.pure _ | exact Mute.pure' _ | exact m_stuck _ | exact m_unsupported _ | exact m_choose _ | (with_reducible first | exact m_typeInfo _ | exact m_underlying _ | exact m_sizeOf _ | exact m_runtimePanic _ | exact m_zeroValue _ | exact m_isAgg _ | exact m_part _ _ _ | exact m_method _ _ _ _ | exact m_Instr_index _ _ _ | exact m_Instr_field _ _ _) | assumption | exact ih _ _ | (refine Mute.bind ?_ ?_) | (refine m_ite ?_ ?_) | (refine Mute.map ?_) | intro _ | (refine m_forList _ _ _ ?_) | (refine m_forArray _ _ _ ?_) | (refine m_forRange _ _ _ ?_) | (refine m_mapList _ _ ?_) | (refine m_mapArray _ _ ?_) | (refine m_foldList _ _ _ ?_) | split | dsimp only)
theorem m_nilAhead : ∀ x0 x1 x2 x3, Mute P (Go.nilAhead x0 x1 x2 x3) := by
 intro x0 x1 x2 x3
 induction x0 generalizing x1 x2 x3 with
 | zero =>
  unfold Go.nilAhead
  repeat' (first | exact m_noRoom | exact m_program | exact Mute.pure _ | exact Mute.pure' _ | exact m_stuck _ | exact m_unsupported _ | exact m_choose _ | (with_reducible first | exact m_typeInfo _ | exact m_underlying _ | exact m_sizeOf _ | exact m_runtimePanic _ | exact m_zeroValue _ | exact m_isAgg _ | exact m_part _ _ _ | exact m_method _ _ _ _ | exact m_followBlind _ _ _) | assumption | (refine Mute.bind ?_ ?_) | (refine m_ite ?_ ?_) | (refine Mute.map ?_) | intro _ | (refine m_forList _ _ _ ?_) | (refine m_forArray _ _ _ ?_) | (refine m_forRange _ _ _ ?_) | (refine m_mapList _ _ ?_) | (refine m_mapArray _ _ ?_) | (refine m_foldList _ _ _ ?_) | split | dsimp only)
 | succ n ih =>
  unfold Go.nilAhead
  repeat' (first | exact m_noRoom | exact m_program | exact Mute.pure _ | exact Mute.pure' _ | exact m_stuck _ | exact m_unsupported _ | exact m_choose _ | (with_reducible first | exact m_typeInfo _ | exact m_underlying _ | exact m_sizeOf _ | exact m_runtimePanic _ | exact m_zeroValue _ | exact m_isAgg _ | exact m_part _ _ _ | exact m_method _ _ _ _ | exact m_followBlind _ _ _) | assumption | exact ih _ _ _ | (refine Mute.bind ?_ ?_) | (refine m_ite ?_ ?_) | (refine Mute.map ?_) | intro _ | (refine m_forList _ _ _ ?_) | (refine m_forArray _ _ _ ?_) | (refine m_forRange _ _ _ ?_) | (refine m_mapList _ _ ?_) | (refine m_mapArray _ _ ?_) | (refine m_foldList _ _ _ ?_) | split | dsimp only)
theorem m_Instr_next : ∀ x0 x1 x2, Mute P (Go.Instr.next x0 x1 x2) := by
 intro x0 x1 x2
 unfold Go.Instr.next
 repeat' (first | exact m_noRoom | exact m_program | exact Mute.pure _ | exact Mute.pure' _ | exact m_stuck _ | exact m_unsupported _ | exact m_choose _ | (with_reducible first | exact m_typeInfo _ | exact m_underlying _ | exact m_sizeOf _ | exact m_runtimePanic _ | exact m_zeroValue _ | exact m_isAgg _ | exact m_part _ _ _ | exact m_Instr_entry _ | exact m_getObj _ | exact m_setObj _ _) | assumption | (refine Mute.bind ?_ ?_) | (refine m_ite ?_ ?_) | (refine Mute.map ?_) | intro _ | (refine m_forList _ _ _ ?_) | (refine m_forArray _ _ _ ?_) | (refine m_forRange _ _ _ ?_) | (refine m_mapList _ _ ?_) | (refine m_mapArray _ _ ?_) | (refine m_foldList _ _ _ ?_) | split | dsimp only)
theorem m_Instr_panicnil : Mute P Go.Instr.panicnil := by
 unfold Go.Instr.panicnil
 refine m_sysenv _ ⟨_, rfl, rfl⟩ fun r => ?_
 repeat' (first | exact Mute.pure _ | exact m_stuck _ | exact m_program | (refine Mute.bind ?_ ?_) | intro _ | split | dsimp only)
theorem m_Instr_panic : ∀ x0, Mute P (Go.Instr.panic x0) := by
 intro x0
 unfold Go.Instr.panic
 repeat' (first | exact m_noRoom | exact m_program | exact Mute.pure _ | exact Mute.pure' _ | exact m_stuck _ | exact m_unsupported _ | exact m_choose _ | (with_reducible first | exact m_typeInfo _ | exact m_underlying _ | exact m_sizeOf _ | exact m_runtimePanic _ | exact m_zeroValue _ | exact m_isAgg _ | exact m_part _ _ _ | exact m_Instr_panicnil  | exact m_goPanic _) | assumption | (refine Mute.bind ?_ ?_) | (refine m_ite ?_ ?_) | (refine Mute.map ?_) | intro _ | (refine m_forList _ _ _ ?_) | (refine m_forArray _ _ _ ?_) | (refine m_forRange _ _ _ ?_) | (refine m_mapList _ _ ?_) | (refine m_mapArray _ _ ?_) | (refine m_foldList _ _ _ ?_) | split | dsimp only)
theorem m_Instr_getLoop : ∀ x0, Mute P (Go.Instr.getLoop x0) := by
 intro x0
 unfold Go.Instr.getLoop
 repeat' (first | exact m_noRoom | exact m_program | exact Mute.pure _ | exact Mute.pure' _ | exact m_stuck _ | exact m_unsupported _ | exact m_choose _ | (with_reducible first | exact m_typeInfo _ | exact m_underlying _ | exact m_sizeOf _ | exact m_runtimePanic _ | exact m_zeroValue _ | exact m_isAgg _ | exact m_part _ _ _ | exact m_Instr_range _ _ | exact m_getObj _) | assumption | (refine Mute.bind ?_ ?_) | (refine m_ite ?_ ?_) | (refine Mute.map ?_) | intro _ | (refine m_forList _ _ _ ?_) | (refine m_forArray _ _ _ ?_) | (refine m_forRange _ _ _ ?_) | (refine m_mapList _ _ ?_) | (refine m_mapArray _ _ ?_) | (refine m_foldList _ _ _ ?_) | split | dsimp only)
theorem m_Instr_ready : ∀ x0, Mute P (Go.Instr.ready x0) := by
 intro x0
 unfold Go.Instr.ready
 repeat' (first | exact m_noRoom | exact m_program | exact Mute.pure _ | exact Mute.pure' _ | exact m_stuck _ | exact m_unsupported _ | exact m_choose _ | (with_reducible first | exact m_typeInfo _ | exact m_underlying _ | exact m_sizeOf _ | exact m_runtimePanic _ | exact m_zeroValue _ | exact m_isAgg _ | exact m_part _ _ _ | exact m_shape _ | exact m_setObj _ _ | exact m_getObj _) | assumption | (refine Mute.bind ?_ ?_) | (refine m_ite ?_ ?_) | (refine Mute.map ?_) | intro _ | (refine m_forList _ _ _ ?_) | (refine m_forArray _ _ _ ?_) | (refine m_forRange _ _ _ ?_) | (refine m_mapList _ _ ?_) | (refine m_mapArray _ _ ?_) | (refine m_foldList _ _ _ ?_) | split | dsimp only)
theorem m_Instr_enterLoop : ∀ x0 x1 x2 x3 x4 x5, Mute P (Go.Instr.enterLoop x0 x1 x2 x3 x4 x5) := by
 intro x0 x1 x2 x3 x4 x5
 unfold Go.Instr.enterLoop
 repeat' (first | exact m_noRoom | exact m_program | exact Mute.pure _ | exact Mute.pure' _ | exact m_stuck _ | exact m_unsupported _ | exact m_choose _ | (with_reducible first | exact m_typeInfo _ | exact m_underlying _ | exact m_sizeOf _ | exact m_runtimePanic _ | exact m_zeroValue _ | exact m_isAgg _ | exact m_part _ _ _ | exact m_Instr_getLoop _ | exact m_Instr_ready _ | exact m_newObj _) | assumption | (refine Mute.bind ?_ ?_) | (refine m_ite ?_ ?_) | (refine Mute.map ?_) | intro _ | (refine m_forList _ _ _ ?_) | (refine m_forArray _ _ _ ?_) | (refine m_forRange _ _ _ ?_) | (refine m_mapList _ _ ?_) | (refine m_mapArray _ _ ?_) | (refine m_foldList _ _ _ ?_) | split | dsimp only)
theorem m_Instr_beginRound : ∀ x0, Mute P (Go.Instr.beginRound x0) := by
 intro x0
 unfold Go.Instr.beginRound
 repeat' (first | exact m_noRoom | exact m_program | exact Mute.pure _ | exact Mute.pure' _ | exact m_stuck _ | exact m_unsupported _ | exact m_choose _ | (with_reducible first | exact m_typeInfo _ | exact m_underlying _ | exact m_sizeOf _ | exact m_runtimePanic _ | exact m_zeroValue _ | exact m_isAgg _ | exact m_part _ _ _ | exact m_Instr_panic _ | exact m_Instr_getLoop _ | exact m_Instr_range _ _ | exact m_Instr_ready _ | exact m_setObj _ _) | assumption | (refine Mute.bind ?_ ?_) | (refine m_ite ?_ ?_) | (refine Mute.map ?_) | intro _ | (refine m_forList _ _ _ ?_) | (refine m_forArray _ _ _ ?_) | (refine m_forRange _ _ _ ?_) | (refine m_mapList _ _ ?_) | (refine m_mapArray _ _ ?_) | (refine m_foldList _ _ _ ?_) | split | dsimp only)
theorem m_Instr_endRound : ∀ x0 x1, Mute P (Go.Instr.endRound x0 x1) := by
 intro x0 x1
 unfold Go.Instr.endRound
 repeat' (first | exact m_noRoom | exact m_program | exact Mute.pure _ | exact Mute.pure' _ | exact m_stuck _ | exact m_unsupported _ | exact m_choose _ | (with_reducible first | exact m_typeInfo _ | exact m_underlying _ | exact m_sizeOf _ | exact m_runtimePanic _ | exact m_zeroValue _ | exact m_isAgg _ | exact m_part _ _ _ | exact m_Instr_getLoop _ | exact m_Instr_ready _ | exact m_setObj _ _) | assumption | (refine Mute.bind ?_ ?_) | (refine m_ite ?_ ?_) | (refine Mute.map ?_) | intro _ | (refine m_forList _ _ _ ?_) | (refine m_forArray _ _ _ ?_) | (refine m_forRange _ _ _ ?_) | (refine m_mapList _ _ ?_) | (refine m_mapArray _ _ ?_) | (refine m_foldList _ _ _ ?_) | split | dsimp only)
theorem m_Instr_endLoop : ∀ x0, Mute P (Go.Instr.endLoop x0) := by
 intro x0
 unfold Go.Instr.endLoop
 repeat' (first | exact m_noRoom | exact m_program | exact Mute.pure _ | exact Mute.pure' _ | exact m_stuck _ | exact m_unsupported _ | exact m_choose _ | (with_reducible first | exact m_typeInfo _ | exact m_underlying _ | exact m_sizeOf _ | exact m_runtimePanic _ | exact m_zeroValue _ | exact m_isAgg _ | exact m_part _ _ _ | exact m_Instr_panic _ | exact m_Instr_getLoop _ | exact m_Instr_range _ _ | exact m_setObj _ _) | assumption | (refine Mute.bind ?_ ?_) | (refine m_ite ?_ ?_) | (refine Mute.map ?_) | intro _ | (refine m_forList _ _ _ ?_) | (refine m_forArray _ _ _ ?_) | (refine m_forRange _ _ _ ?_) | (refine m_mapList _ _ ?_) | (refine m_mapArray _ _ ?_) | (refine m_foldList _ _ _ ?_) | split | dsimp only)
theorem m_Instr_deferInRound : ∀ x0 x1, Mute P (Go.Instr.deferInRound x0 x1) := by
 intro x0 x1
 unfold Go.Instr.deferInRound
 repeat' (first | exact m_noRoom | exact m_program | exact Mute.pure _ | exact Mute.pure' _ | exact m_stuck _ | exact m_unsupported _ | exact m_choose _ | (with_reducible first | exact m_typeInfo _ | exact m_underlying _ | exact m_sizeOf _ | exact m_runtimePanic _ | exact m_zeroValue _ | exact m_isAgg _ | exact m_part _ _ _ | exact m_Instr_getLoop _ | exact m_Instr_range _ _ | exact m_throw _ | exact m_setObj _ _ | exact m_getObj _) | assumption | (refine Mute.bind ?_ ?_) | (refine m_ite ?_ ?_) | (refine Mute.map ?_) | intro _ | (refine m_forList _ _ _ ?_) | (refine m_forArray _ _ _ ?_) | (refine m_forRange _ _ _ ?_) | (refine m_mapList _ _ ?_) | (refine m_mapArray _ _ ?_) | (refine m_foldList _ _ _ ?_) | split | dsimp only)
theorem m_Instr_takeDeferred : ∀ x0, Mute P (Go.Instr.takeDeferred x0) := by
 intro x0
 unfold Go.Instr.takeDeferred
 repeat' (first | exact m_noRoom | exact m_program | exact Mute.pure _ | exact Mute.pure' _ | exact m_stuck _ | exact m_unsupported _ | exact m_choose _ | (with_reducible first | exact m_typeInfo _ | exact m_underlying _ | exact m_sizeOf _ | exact m_runtimePanic _ | exact m_zeroValue _ | exact m_isAgg _ | exact m_part _ _ _ | exact m_Instr_range _ _ | exact m_setObj _ _ | exact m_getObj _) | assumption | (refine Mute.bind ?_ ?_) | (refine m_ite ?_ ?_) | (refine Mute.map ?_) | intro _ | (refine m_forList _ _ _ ?_) | (refine m_forArray _ _ _ ?_) | (refine m_forRange _ _ _ ?_) | (refine m_mapList _ _ ?_) | (refine m_mapArray _ _ ?_) | (refine m_foldList _ _ _ ?_) | split | dsimp only)
theorem m_Instr_typeAssert : ∀ x0 x1 x2 x3, Mute P (Go.Instr.typeAssert x0 x1 x2 x3) := by
 intro x0 x1 x2 x3
 unfold Go.Instr.typeAssert
 repeat' (first | exact m_noRoom | exact m_program | exact Mute.pure _ | exact Mute.pure' _ | exact m_stuck _ | exact m_unsupported _ | exact m_choose _ | (with_reducible first | exact m_typeInfo _ | exact m_underlying _ | exact m_sizeOf _ | exact m_runtimePanic _ | exact m_zeroValue _ | exact m_isAgg _ | exact m_part _ _ _) | assumption | (refine Mute.bind ?_ ?_) | (refine m_ite ?_ ?_) | (refine Mute.map ?_) | intro _ | (refine m_forList _ _ _ ?_) | (refine m_forArray _ _ _ ?_) | (refine m_forRange _ _ _ ?_) | (refine m_mapList _ _ ?_) | (refine m_mapArray _ _ ?_) | (refine m_foldList _ _ _ ?_) | split | dsimp only)
theorem m_movedNumber : ∀ x0 x1 x2, Mute P (Go.movedNumber x0 x1 x2) := by
 intro x0 x1 x2
 unfold Go.movedNumber
 repeat' (first | exact m_noRoom | exact m_program | exact Mute.pure _ | exact Mute.pure' _ | exact m_stuck _ | exact m_unsupported _ | exact m_choose _ | (with_reducible first | exact m_typeInfo _ | exact m_underlying _ | exact m_sizeOf _ | exact m_runtimePanic _ | exact m_zeroValue _ | exact m_isAgg _ | exact m_part _ _ _ | exact m_Conv_unsafePointer _ _ _ | exact m_asNumber _ _ | exact m_Builtin_unsafeAdd_ _ _ _ | exact m_behindNumber _) | assumption | (refine Mute.bind ?_ ?_) | (refine m_ite ?_ ?_) | (refine Mute.map ?_) | intro _ | (refine m_forList _ _ _ ?_) | (refine m_forArray _ _ _ ?_) | (refine m_forRange _ _ _ ?_) | (refine m_mapList _ _ ?_) | (refine m_mapArray _ _ ?_) | (refine m_foldList _ _ _ ?_) | split | dsimp only)
theorem m_movedPointer : ∀ x0 x1 x2, Mute P (Go.movedPointer x0 x1 x2) := by
 intro x0 x1 x2
 unfold Go.movedPointer
 repeat' (first | exact m_noRoom | exact m_program | exact Mute.pure _ | exact Mute.pure' _ | exact m_stuck _ | exact m_unsupported _ | exact m_choose _ | (with_reducible first | exact m_typeInfo _ | exact m_underlying _ | exact m_sizeOf _ | exact m_runtimePanic _ | exact m_zeroValue _ | exact m_isAgg _ | exact m_part _ _ _ | exact m_Builtin_unsafeAdd_ _ _ _ | exact m_numberAt _) | assumption | (refine Mute.bind ?_ ?_) | (refine m_ite ?_ ?_) | (refine Mute.map ?_) | intro _ | (refine m_forList _ _ _ ?_) | (refine m_forArray _ _ _ ?_) | (refine m_forRange _ _ _ ?_) | (refine m_mapList _ _ ?_) | (refine m_mapArray _ _ ?_) | (refine m_foldList _ _ _ ?_) | split | dsimp only)
theorem m_eqGuard : ∀ x0 x1 x2 x3 x4 x5, Mute P (Go.eqGuard x0 x1 x2 x3 x4 x5) := by
 intro x0 x1 x2 x3 x4 x5
 unfold Go.eqGuard
 repeat' (first | exact m_noRoom | exact m_program | exact Mute.pure _ | exact Mute.pure' _ | exact m_stuck _ | exact m_unsupported _ | exact m_choose _ | (with_reducible first | exact m_typeInfo _ | exact m_underlying _ | exact m_sizeOf _ | exact m_runtimePanic _ | exact m_zeroValue _ | exact m_isAgg _ | exact m_part _ _ _ | exact m_Op_eqGuardIn _ _ _ _ | exact m_program ) | assumption | (refine Mute.bind ?_ ?_) | (refine m_ite ?_ ?_) | (refine Mute.map ?_) | intro _ | (refine m_forList _ _ _ ?_) | (refine m_forArray _ _ _ ?_) | (refine m_forRange _ _ _ ?_) | (refine m_mapList _ _ ?_) | (refine m_mapArray _ _ ?_) | (refine m_foldList _ _ _ ?_) | split | dsimp only)
theorem m_binOp : ∀ x0 x1 x2 x3, Mute P (Go.binOp x0 x1 x2 x3) := by
 intro x0 x1 x2 x3
 unfold Go.binOp
 repeat' (first | exact m_noRoom | exact m_program | exact Mute.pure _ | exact Mute.pure' _ | exact m_stuck _ | exact m_unsupported _ | exact m_choose _ | (with_reducible first | exact m_typeInfo _ | exact m_underlying _ | exact m_sizeOf _ | exact m_runtimePanic _ | exact m_zeroValue _ | exact m_isAgg _ | exact m_part _ _ _ | exact m_Op_shift _ _ _ _ _ | exact m_movedNumber _ _ _ | exact m_Op_complexOp _ _ _ _ _ _ | exact m_Op_intBits _ _ _ _ | exact m_Conv_unsafePointer _ _ _ | exact m_Op_equal _ _ _ | exact m_behindNumber _ | exact m_Op_floatCmp _ _ _ _ | exact m_Op_floatArith _ _ _ _ | exact m_Op_addrMod _ _ _ | exact m_Op_intCmp _ _ _ | exact m_Op_addrSub _ _ _ | exact m_movedPointer _ _ _ | exact m_Op_intArith _ _ _ _ | exact m_Op_addrCmp _ _ _ | exact m_Op_stringOp _ _ _ | exact m_Op_intDiv _ _ _ _) | assumption | (refine Mute.bind ?_ ?_) | (refine m_ite ?_ ?_) | (refine Mute.map ?_) | intro _ | (refine m_forList _ _ _ ?_) | (refine m_forArray _ _ _ ?_) | (refine m_forRange _ _ _ ?_) | (refine m_mapList _ _ ?_) | (refine m_mapArray _ _ ?_) | (refine m_foldList _ _ _ ?_) | split | dsimp only)
theorem m_resolve : ∀ x0 x1 x2, Mute P (Go.resolve x0 x1 x2) := by
 intro x0 x1 x2
 unfold Go.resolve
 repeat' (first | exact m_noRoom | exact m_program | exact Mute.pure _ | exact Mute.pure' _ | exact m_stuck _ | exact m_unsupported _ | exact m_choose _ | (with_reducible first | exact m_typeInfo _ | exact m_underlying _ | exact m_sizeOf _ | exact m_runtimePanic _ | exact m_zeroValue _ | exact m_isAgg _ | exact m_part _ _ _ | exact m_method _ _ _ _ | exact m_Deferred_ofValue _ _) | assumption | (refine Mute.bind ?_ ?_) | (refine m_ite ?_ ?_) | (refine Mute.map ?_) | intro _ | (refine m_forList _ _ _ ?_) | (refine m_forArray _ _ _ ?_) | (refine m_forRange _ _ _ ?_) | (refine m_mapList _ _ ?_) | (refine m_mapArray _ _ ?_) | (refine m_foldList _ _ _ ?_) | split | dsimp only)
end
end Go.Ride
