/- Every piece of the semantics of Go's own operations says no word of the library's, whatever its arguments are (for the law of goroutines that walk beside leavers). -/
import Derived.Test.YtlgjaefcfnndhaaGreatDoorO1
import Derived.Laws.Sem
set_option linter.unusedVariables false
set_option linter.unusedSimpArgs false
set_option maxHeartbeats 16000000
namespace Go.Ride
section
variable {P : Program}
@[simp] theorem q0t (x0 x1) : Mute P (Go.load x0 x1) := fun _ => rfl
@[simp] theorem q0o (x0 x1 x2) : Mute P (Go.store x0 x1 x2) := rfl
@[simp] theorem qcb (x0) : Mute P (Go.newObj x0) := fun _ => rfl
@[simp] theorem qc2 (x0) : Mute P (Go.shape x0) := fun _ => rfl
@[simp] theorem qcc (x0 x1) : Mute P (Go.freeze x0 x1) := rfl
@[simp] theorem q0i (x0) : Mute P (Go.frozen x0) := fun _ => rfl
@[simp] theorem qcd (x0) : Mute P (Go.getObj x0) := fun _ => rfl
@[simp] theorem qce (x0 x1) : Mute P (Go.setObj x0 x1) := rfl
@[simp] theorem qbk (x0) : Mute P (Go.choose x0) := fun _ => rfl
@[simp] theorem qbe : Mute P Go.program := rfl
@[simp] theorem q0c (x0) : Mute P (Go.askRoom x0) := by unfold Go.askRoom; split <;> rfl
@[simp] theorem qae {α : Type} (x0) : Mute P (Go.stuck (α := α) x0) := Mute.halt (by simp) (by simp)
@[simp] theorem qap {α : Type} (x0) : Mute P (Go.unsupported (α := α) x0) := Mute.halt (by simp) (by simp)
@[simp] theorem q0d {α : Type} (x0) : Mute P (Go.goPanic (α := α) x0) := Mute.halt (by simp) (by simp)
@[simp] theorem q0p {α : Type} (x0) : Mute P (Go.fatal (α := α) x0) := Mute.halt (by simp) (by simp)
@[simp] theorem q0q {α : Type} (x0) : Mute P (Go.throw (α := α) x0) := Mute.halt (by simp) (by simp)
theorem qhb {α β : Type} (l : List α) (b : β) (f : α → β → Sem (ForInStep β)) (h : ∀ a b, Mute P (f a b)) : Mute P (forIn l b f) := by
 induction l generalizing b with
 | nil => exact Mute.pure b
 | cons a l ih =>
  rw [List.forIn_cons]
  refine (h a b).bind fun x => ?_
  cases x with
  | done b => exact Mute.pure b
  | yield b => exact ih b
theorem qjh {α β : Type} (l : Array α) (b : β) (f : α → β → Sem (ForInStep β)) (h : ∀ a b, Mute P (f a b)) : Mute P (forIn l b f) := by
 rw [← Array.forIn_toList]; exact qhb _ _ _ h
theorem qp5 {β : Type} (l : Std.Legacy.Range) (b : β) (f : Nat → β → Sem (ForInStep β)) (h : ∀ a b, Mute P (f a b)) : Mute P (forIn l b f) := by
 rw [Std.Legacy.Range.forIn_eq_forIn_range']; exact qhb _ _ _ h
theorem qhc {α β : Type} (l : List α) (f : α → Sem β) (h : ∀ a, Mute P (f a)) : Mute P (l.mapM f) := by
 induction l with
 | nil => exact Mute.pure _
 | cons a l ih => rw [List.mapM_cons]; exact (h a).bind fun x => ih.bind fun y => Mute.pure _
theorem qgf {α β : Type} (l : Array α) (f : α → Sem β) (h : ∀ a, Mute P (f a)) : Mute P (l.mapM f) := by
 rw [Array.mapM_eq_mapM_toList]; exact (qhc _ _ h).map
theorem qp6 {α β : Type} (l : List α) (b : β) (f : β → α → Sem β) (h : ∀ b a, Mute P (f b a)) : Mute P (l.foldlM f b) := by
 induction l generalizing b with
 | nil => exact Mute.pure b
 | cons a l ih => rw [List.foldlM_cons]; exact (h b a).bind fun x => ih x
theorem qu0 {α : Type} (f : SysRet → Sem α) (h : ∃ x, f .wouldBlock = .halt x ∧ ends x = true) (hf : ∀ r, Mute P (f r)) : Mute P (Go.sys .env >>= f) := by
 obtain ⟨x, hx, he⟩ := h
 exact ⟨⟨x, by show f .wouldBlock = _; exact hx, he⟩, hf⟩
theorem m_ite {α : Type} {c : Prop} [Decidable c] {s t : Sem α} (h1 : Mute P s) (h2 : Mute P t) : Mute P (if c then s else t) := by split <;> assumption
@[simp] theorem q0j : Mute P (mark .noRoom) := rfl
theorem mS {α : Type} {s : Sem α} (h : Mute P s := by repeat' (first | exact Mute.pure _ | exact Mute.pure' _ | assumption | (with_reducible first | refine Mute.bind ?_ ?_ | refine m_ite ?_ ?_ | refine Mute.map ?_ | refine qhb _ _ _ ?_ | refine qjh _ _ _ ?_ | refine qp5 _ _ _ ?_ | refine qhc _ _ ?_ | refine qgf _ _ ?_ | refine qp6 _ _ _ ?_) | (simp [*]; done) | (refine Mute.bind ?_ ?_) | (refine Mute.map ?_) | intro _ | split | dsimp only | fail)) : Mute P s := h
@[simp] theorem qcf (x0) : Mute P (Go.viewAt x0) := by unfold Go.viewAt; exact mS
@[simp] theorem qz4 (x0) : Mute P (Go.numberAt x0) := by unfold Go.numberAt; exact mS
@[simp] theorem q0e (x0) : Mute P (Go.cellsIn x0) := by unfold Go.cellsIn; exact mS
@[simp] theorem qz5 (x0 x1) : Mute P (Go.asNumber x0 x1) := by unfold Go.asNumber; exact mS
@[simp] theorem qwz (x0) : Mute P (Go.behindNumber x0) := by unfold Go.behindNumber; exact mS
@[simp] theorem qu1 (x0) : Mute P (Go.backFromNumber x0) := by unfold Go.backFromNumber; exact mS
@[simp] theorem q0k (x0) : Mute P (Go.noView x0) := by unfold Go.noView; exact mS
@[simp] theorem qa2 (x0) : Mute P (Go.markStringish x0) := by unfold Go.markStringish; exact mS
@[simp] theorem qzz (x0) : Mute P (Go.stringish x0) := by unfold Go.stringish; exact mS
@[simp] theorem qz6 (x0 x1) : Mute P (Go.mayBeOne x0 x1) := by unfold Go.mayBeOne; exact mS
@[simp] theorem qz7 (x0 x1) : Mute P (Go.sameAddr x0 x1) := by unfold Go.sameAddr; exact mS
@[simp] theorem qyh (x0 x1) : Mute P (Go.samePointer x0 x1) := by unfold Go.samePointer; exact mS
@[simp] theorem qbo (x0) : Mute P (Go.typeInfo x0) := by unfold Go.typeInfo; exact mS
@[simp] theorem qa4 (x0) : Mute P (Go.underlying x0) := by unfold Go.underlying; exact mS
@[simp] theorem q0f (x0) : Mute P (Go.cutType x0) := by unfold Go.cutType; exact mS
@[simp] theorem qys (x0) : Mute P (Go.globalAddr x0) := by unfold Go.globalAddr; exact mS
@[simp] theorem q0g (x0) : Mute P (Go.typeStr x0) := by unfold Go.typeStr; exact mS
@[simp] theorem qil (x0) : Mute P (Go.zeroValue x0) := by unfold Go.zeroValue; exact mS
@[simp] theorem qcg (x0) : Mute P (Go.sizeOf x0) := by unfold Go.sizeOf; exact mS
@[simp] theorem q0r (x0) : Mute P (Go.isAgg x0) := by unfold Go.isAgg; exact mS
@[simp] theorem qwu : ∀ x0 x1 x2 x3, Mute P (Go.loadCellsFrom x0 x1 x2 x3) := by
 intro x0 x1 x2 x3
 induction x2 generalizing x0 x1 x3 with
 | zero =>
  unfold Go.loadCellsFrom
  exact mS
 | succ n ih =>
  unfold Go.loadCellsFrom
  exact mS
@[simp] theorem qz0 (x0 x1) : Mute P (Go.loadCells x0 x1) := by unfold Go.loadCells; exact mS
@[simp] theorem qyt : ∀ x0 x1 x2, Mute P (Go.storeCells x0 x1 x2) := by
 intro x0 x1 x2
 induction x1 generalizing x0 x2 with
 | nil =>
  unfold Go.storeCells
  exact mS
 | cons a l ih =>
  unfold Go.storeCells
  exact mS
@[simp] theorem qst (x0 x1) : Mute P (Go.loadVar x0 x1) := by unfold Go.loadVar; exact mS
@[simp] theorem qz8 (x0 x1 x2) : Mute P (Go.storeVar x0 x1 x2) := by unfold Go.storeVar; exact mS
@[simp] theorem qch (x0 x1) : Mute P (Go.newRow x0 x1) := by unfold Go.newRow; exact mS
@[simp] theorem qu2 (x0 x1) : Mute P (Go.newVar x0 x1) := by unfold Go.newVar; exact mS
@[simp] theorem qb4 (x0) : Mute P (Go.elemOf x0) := by unfold Go.elemOf; exact mS
@[simp] theorem q0u (x0 x1 x2) : Mute P (Go.part x0 x1 x2) := by unfold Go.part; exact mS
@[simp] theorem qyi {α : Type} : ∀ x0, Mute P (Go.panicString (α := α) x0) := by
 intro x0
 unfold Go.panicString
 exact mS
@[simp] theorem qaz {α : Type} : ∀ x0, Mute P (Go.runtimePanic (α := α) x0) := by
 intro x0
 unfold Go.runtimePanic
 exact mS
@[simp] theorem qyj {α : Type} : ∀ x0 x1 x2 x3, Mute P (Go.boundsPanic (α := α) x0 x1 x2 x3) := by
 intro x0 x1 x2 x3
 unfold Go.boundsPanic
 exact mS
@[simp] theorem q0h (x0) : Mute P (Go.asIntOf x0) := by unfold Go.asIntOf; exact mS
@[simp] theorem qc3 (x0) : Mute P (Go.asInt x0) := by unfold Go.asInt; exact mS
@[simp] theorem qu3 (x0) : Mute P (Go.asBool x0) := by unfold Go.asBool; exact mS
@[simp] theorem qz9 (x0) : Mute P (Go.asString x0) := by unfold Go.asString; exact mS
@[simp] theorem q0s (x0) : Mute P (Go.asAgg x0) := by unfold Go.asAgg; exact mS
@[simp] theorem qu4 (x0) : Mute P (Go.asAddr x0) := by unfold Go.asAddr; exact mS
@[simp] theorem q0l (x0) : Mute P (Go.byteOf x0) := by unfold Go.byteOf; exact mS
@[simp] theorem q0m (x0 x1 x2) : Mute P (Go.partAt x0 x1 x2) := by unfold Go.partAt; exact mS
@[simp] theorem qyu (x0 x1) : Mute P (Go.fieldPlace x0 x1) := by unfold Go.fieldPlace; exact mS
@[simp] theorem qbi (x0 x1 x2) : Mute P (Go.variablesAt x0 x1 x2) := by unfold Go.variablesAt; exact mS
@[simp] theorem qu5 (x0 x1 x2) : Mute P (Go.intVariablesAt x0 x1 x2) := by unfold Go.intVariablesAt; exact mS
@[simp] theorem quw (x0 x1) : Mute P (Go.byteVariablesAt x0 x1) := by unfold Go.byteVariablesAt; exact mS
@[simp] theorem qbm : ∀ x0 x1 x2, Mute P (Go.loadBytes x0 x1 x2) := by
 intro x0 x1 x2
 induction x2 generalizing x0 x1 with
 | zero =>
  unfold Go.loadBytes
  exact mS
 | succ n ih =>
  unfold Go.loadBytes
  exact mS
@[simp] theorem qyv (x0 x1) : Mute P (Go.storeBytes x0 x1) := by unfold Go.storeBytes; exact mS
@[simp] theorem qmd : ∀ x0 x1 x2, Mute P (Go.Builtin.ssaWrapNilChk_ x0 x1 x2) := by
 intro x0 x1 x2
 unfold Go.Builtin.ssaWrapNilChk_
 obtain ⟨l⟩ := x2
 rcases l with _ | ⟨a0, _ | ⟨a1, _ | ⟨a2, _ | ⟨a3, l⟩⟩⟩⟩
 ·exact qae _
 ·exact qae _
 ·exact qae _
 ·cases a1 <;> first | exact qae _ | (cases a2 <;> first | exact qae _ | (cases a0 <;> first | exact qae _ | (rename_i c; cases c <;> (repeat' (first | exact qae _ | exact qap _ | exact Mute.pure _ | exact Mute.pure' _ | exact qaz _ | exact qc3 _ | exact qcd _ | exact qce _ _ | exact qcf _ | exact qc2 _ | exact qbe | exact qb4 _ | exact qbo _ | exact qa4 _ | exact qcg _ | exact qbi _ _ _ | exact qcb _ | exact qch _ _ | exact qa2 _ | exact qcc _ _ | exact qbm _ _ _ | exact qbk _ | (refine Mute.bind ?_ ?_) | (refine Mute.map ?_) | (refine m_ite ?_ ?_) | intro _ | split | dsimp only)))))
 ·exact qae _
@[simp] theorem qz1 (x0 x1) : Mute P (Go.Place.get x0 x1) := by unfold Go.Place.get; exact mS
@[simp] theorem q0n : ∀ x0 x1 x2, Mute P (Go.follow x0 x1 x2) := by
 intro x0 x1 x2
 induction x0 generalizing x1 x2 with
 | nil =>
  unfold Go.follow
  exact mS
 | cons a l ih =>
  unfold Go.follow
  exact mS
@[simp] theorem qyw (x0 x1 x2 x3) : Mute P (Go.receiverAt x0 x1 x2 x3) := by unfold Go.receiverAt; exact mS
@[simp] theorem qlq (x0 x1 x2 x3) : Mute P (Go.receiverVia x0 x1 x2 x3) := by unfold Go.receiverVia; exact mS
@[simp] theorem qu6 : ∀ x0 x1 x2 x3, Mute P (Go.method x0 x1 x2 x3) := by
 intro x0 x1 x2 x3
 induction x0 generalizing x1 x2 x3 with
 | zero =>
  unfold Go.method
  exact mS
 | succ n ih =>
  unfold Go.method
  exact mS
@[simp] theorem qsu (x0 x1) : Mute P (Go.Deferred.ofValue x0 x1) := by unfold Go.Deferred.ofValue; exact mS
@[simp] theorem qlr (x0 x1 x2) : Mute P (Go.Instr.index x0 x1 x2) := by unfold Go.Instr.index; exact mS
@[simp] theorem qji (x0 x1) : Mute P (Go.Instr.extract x0 x1) := by unfold Go.Instr.extract; exact mS
@[simp] theorem qsv (x0 x1 x2) : Mute P (Go.Instr.sliceBound x0 x1 x2) := by unfold Go.Instr.sliceBound; exact mS
@[simp] theorem qsq (x0 x1 x2 x3 x4 x5) : Mute P (Go.Instr.sliceBounds x0 x1 x2 x3 x4 x5) := by unfold Go.Instr.sliceBounds; exact mS
@[simp] theorem qyk (x0 x1 x2 x3 x4) : Mute P (Go.Instr.slice x0 x1 x2 x3 x4) := by unfold Go.Instr.slice; exact mS
@[simp] theorem qp7 (x0) : Mute P (Go.Conv.bytesToString x0) := by unfold Go.Conv.bytesToString; exact mS
@[simp] theorem qsr (x0 x1 x2) : Mute P (Go.Conv.floatToFloat x0 x1 x2) := by unfold Go.Conv.floatToFloat; exact mS
@[simp] theorem qnw (x0 x1 x2 x3) : Mute P (Go.Conv.complexToComplex x0 x1 x2 x3) := by unfold Go.Conv.complexToComplex; exact mS
@[simp] theorem qux (x0 x1 x2) : Mute P (Go.Conv.floatToInt x0 x1 x2) := by unfold Go.Conv.floatToInt; exact mS
@[simp] theorem quy (x0 x1) : Mute P (Go.Conv.intToFloat x0 x1) := by unfold Go.Conv.intToFloat; exact mS
@[simp] theorem qwv (x0 x1) : Mute P (Go.Conv.intToInt x0 x1) := by unfold Go.Conv.intToInt; exact mS
@[simp] theorem qsw (x0) : Mute P (Go.Conv.intToString x0) := by unfold Go.Conv.intToString; exact mS
@[simp] theorem qp8 (x0) : Mute P (Go.Conv.runesToString x0) := by unfold Go.Conv.runesToString; exact mS
@[simp] theorem qp9 (x0 x1) : Mute P (Go.Conv.stringToBytes x0 x1) := by unfold Go.Conv.stringToBytes; exact mS
@[simp] theorem qqa (x0 x1) : Mute P (Go.Conv.stringToRunes x0 x1) := by unfold Go.Conv.stringToRunes; exact mS
@[simp] theorem qls (x0) : Mute P (Go.Instr.waits x0) := by unfold Go.Instr.waits; exact mS
@[simp] theorem qqb (x0 x1 x2) : Mute P (Go.Conv.unsafePointer x0 x1 x2) := by unfold Go.Conv.unsafePointer; exact mS
@[simp] theorem qyl (x0) : Mute P (Go.Conv.seenAt x0) := by unfold Go.Conv.seenAt; exact mS
@[simp] theorem qw0 (x0 x1) : Mute P (Go.Op.twoPlaces x0 x1) := by unfold Go.Op.twoPlaces; exact mS
@[simp] theorem qyx (x0 x1 x2) : Mute P (Go.Op.addrSub x0 x1 x2) := by unfold Go.Op.addrSub; exact mS
@[simp] theorem qyy (x0 x1 x2) : Mute P (Go.Op.addrCmp x0 x1 x2) := by unfold Go.Op.addrCmp; exact mS
@[simp] theorem qyz (x0 x1 x2) : Mute P (Go.Op.addrMod x0 x1 x2) := by unfold Go.Op.addrMod; exact mS
@[simp] theorem qww (x0 x1 x2 x3) : Mute P (Go.Op.floatArith x0 x1 x2 x3) := by unfold Go.Op.floatArith; exact mS
@[simp] theorem qnx (x0 x1 x2 x3 x4) : Mute P (Go.Op.Complex.corrected x0 x1 x2 x3 x4) := by unfold Go.Op.Complex.corrected; exact mS
@[simp] theorem qym (x0 x1 x2 x3) : Mute P (Go.Op.floatCmp x0 x1 x2 x3) := by unfold Go.Op.floatCmp; exact mS
@[simp] theorem qu7 (x0 x1 x2 x3) : Mute P (Go.Op.Complex.cmp x0 x1 x2 x3) := by unfold Go.Op.Complex.cmp; exact mS
@[simp] theorem qo8 (x0 x1 x2 x3) : Mute P (Go.Op.Complex.quotient x0 x1 x2 x3) := by unfold Go.Op.Complex.quotient; exact mS
@[simp] theorem qqc (x0 x1 x2 x3) : Mute P (Go.Op.Complex.product x0 x1 x2 x3) := by unfold Go.Op.Complex.product; exact mS
@[simp] theorem quz (x0 x1 x2) : Mute P (Go.Op.Complex.conv x0 x1 x2) := by unfold Go.Op.Complex.conv; exact mS
@[simp] theorem qw1 (x0 x1 x2 x3 x4 x5) : Mute P (Go.Op.complexOp x0 x1 x2 x3 x4 x5) := by unfold Go.Op.complexOp; exact mS
@[simp] theorem qsx (x0 x1 x2 x3) : Mute P (Go.Op.Complex.arith x0 x1 x2 x3) := by unfold Go.Op.Complex.arith; exact mS
@[simp] theorem qy0 : ∀ x0 x1 x2 x3, Mute P (Go.Op.equalIn x0 x1 x2 x3) := by
 intro x0 x1 x2 x3
 induction x0 generalizing x1 x2 x3 with
 | zero =>
  unfold Go.Op.equalIn
  exact mS
 | succ n ih =>
  unfold Go.Op.equalIn
  exact mS
@[simp] theorem q0a (x0 x1 x2) : Mute P (Go.Op.equal x0 x1 x2) := by unfold Go.Op.equal; exact mS
@[simp] theorem qw2 : ∀ x0 x1 x2 x3, Mute P (Go.Op.eqGuardIn x0 x1 x2 x3) := by
 intro x0 x1 x2 x3
 induction x0 generalizing x1 x2 x3 with
 | zero =>
  unfold Go.Op.eqGuardIn
  exact mS
 | succ n ih =>
  unfold Go.Op.eqGuardIn
  exact mS
@[simp] theorem qyn (x0 x1 x2 x3) : Mute P (Go.Op.intArith x0 x1 x2 x3) := by unfold Go.Op.intArith; exact mS
@[simp] theorem qy1 (x0 x1 x2 x3) : Mute P (Go.Op.intBits x0 x1 x2 x3) := by unfold Go.Op.intBits; exact mS
@[simp] theorem qz2 (x0 x1 x2) : Mute P (Go.Op.intCmp x0 x1 x2) := by unfold Go.Op.intCmp; exact mS
@[simp] theorem qz3 (x0 x1 x2 x3) : Mute P (Go.Op.intDiv x0 x1 x2 x3) := by unfold Go.Op.intDiv; exact mS
@[simp] theorem q0b (x0 x1 x2 x3 x4) : Mute P (Go.Op.shift x0 x1 x2 x3 x4) := by unfold Go.Op.shift; exact mS
@[simp] theorem qyo (x0 x1 x2) : Mute P (Go.Op.stringOp x0 x1 x2) := by unfold Go.Op.stringOp; exact mS
@[simp] theorem qqd (x0 x1) : Mute P (Go.Op.unary x0 x1) := by unfold Go.Op.unary; exact mS
@[simp] theorem qqe (x0 x1) : Mute P (Go.Builtin.holdsCells x0 x1) := by unfold Go.Builtin.holdsCells; exact mS
@[simp] theorem qsy (x0 x1 x2 x3 x4) : Mute P (Go.Builtin.mayShare x0 x1 x2 x3 x4) := by unfold Go.Builtin.mayShare; exact mS
@[simp] theorem qwx (x0) : Mute P (Go.Builtin.lenOf x0) := by unfold Go.Builtin.lenOf; exact mS
@[simp] theorem qqf (x0 x1 x2) : Mute P (Go.Builtin.firstCells x0 x1 x2) := by unfold Go.Builtin.firstCells; exact mS
@[simp] theorem qlt (x0 x1) : Mute P (Go.Instr.range x0 x1) := by unfold Go.Instr.range; exact mS
@[simp] theorem qig (x0 x1 x2) : Mute P (Go.Builtin.append_ x0 x1 x2) := by unfold Go.Builtin.append_; exact mS
@[simp] theorem qkj (x0 x1 x2) : Mute P (Go.Builtin.cap_ x0 x1 x2) := by unfold Go.Builtin.cap_; exact mS
@[simp] theorem qi0 (x0 x1 x2) : Mute P (Go.Builtin.clear_ x0 x1 x2) := by unfold Go.Builtin.clear_; exact mS
@[simp] theorem qi1 : ∀ x0 x1 x2, Mute P (Go.Builtin.close_ x0 x1 x2) := by
 intro x0 x1 x2
 unfold Go.Builtin.close_
 obtain ⟨l⟩ := x2
 rcases l with _ | ⟨a0, _ | ⟨a1, l⟩⟩
 ·exact qae _
 ·cases a0 <;> first | exact qae _ | (rename_i c; cases c <;> (repeat' (first | exact qae _ | exact qap _ | exact Mute.pure _ | exact Mute.pure' _ | exact qaz _ | exact qc3 _ | exact qcd _ | exact qce _ _ | exact qcf _ | exact qc2 _ | exact qbe | exact qb4 _ | exact qbo _ | exact qa4 _ | exact qcg _ | exact qbi _ _ _ | exact qcb _ | exact qch _ _ | exact qa2 _ | exact qcc _ _ | exact qbm _ _ _ | exact qbk _ | (refine Mute.bind ?_ ?_) | (refine Mute.map ?_) | (refine m_ite ?_ ?_) | intro _ | split | dsimp only)))
 ·exact qae _
@[simp] theorem qhd : ∀ x0 x1 x2, Mute P (Go.Builtin.complex_ x0 x1 x2) := by
 intro x0 x1 x2
 unfold Go.Builtin.complex_
 obtain ⟨l⟩ := x2
 rcases l with _ | ⟨a0, _ | ⟨a1, _ | ⟨a2, l⟩⟩⟩
 ·exact qae _
 ·cases a0 <;> exact qae _
 ·cases a0 <;> first | exact qae _ | (cases a1 <;> first | exact qae _ | (repeat' (first | exact qae _ | exact qap _ | exact Mute.pure _ | exact Mute.pure' _ | exact qaz _ | exact qc3 _ | exact qcd _ | exact qce _ _ | exact qcf _ | exact qc2 _ | exact qbe | exact qb4 _ | exact qbo _ | exact qa4 _ | exact qcg _ | exact qbi _ _ _ | exact qcb _ | exact qch _ _ | exact qa2 _ | exact qcc _ _ | exact qbm _ _ _ | exact qbk _ | (refine Mute.bind ?_ ?_) | (refine Mute.map ?_) | (refine m_ite ?_ ?_) | intro _ | split | dsimp only)))
 ·cases a0 <;> exact qae _
@[simp] theorem qjj (x0 x1 x2) : Mute P (Go.Builtin.copy_ x0 x1 x2) := by unfold Go.Builtin.copy_; exact mS
@[simp] theorem qsz : ∀ x0 x1 x2 x3, Mute P (Go.Instr.findAsking x0 x1 x2 x3) := by
 intro x0 x1 x2 x3
 induction x2 generalizing x0 x1 x3 with
 | nil =>
  unfold Go.Instr.findAsking
  exact mS
 | cons a l ih =>
  unfold Go.Instr.findAsking
  exact mS
@[simp] theorem qwy (x0 x1 x2) : Mute P (Go.Instr.findKey x0 x1 x2) := by unfold Go.Instr.findKey; exact mS
@[simp] theorem qu8 : ∀ x0 x1 x2 x3, Mute P (Go.Instr.checkKey x0 x1 x2 x3) := by
 intro x0 x1 x2 x3
 induction x1 generalizing x0 x2 x3 with
 | zero =>
  unfold Go.Instr.checkKey
  exact mS
 | succ n ih =>
  unfold Go.Instr.checkKey
  exact mS
@[simp] theorem qih (x0 x1 x2) : Mute P (Go.Builtin.delete_ x0 x1 x2) := by unfold Go.Builtin.delete_; exact mS
@[simp] theorem qjk : ∀ x0 x1 x2, Mute P (Go.Builtin.imag_ x0 x1 x2) := by
 intro x0 x1 x2
 unfold Go.Builtin.imag_
 obtain ⟨l⟩ := x2
 rcases l with _ | ⟨a0, _ | ⟨a1, l⟩⟩
 ·exact qae _
 ·cases a0 <;> first | exact qae _ | (repeat' (first | exact qae _ | exact qap _ | exact Mute.pure _ | exact Mute.pure' _ | exact qaz _ | exact qc3 _ | exact qcd _ | exact qce _ _ | exact qcf _ | exact qc2 _ | exact qbe | exact qb4 _ | exact qbo _ | exact qa4 _ | exact qcg _ | exact qbi _ _ _ | exact qcb _ | exact qch _ _ | exact qa2 _ | exact qcc _ _ | exact qbm _ _ _ | exact qbk _ | (refine Mute.bind ?_ ?_) | (refine Mute.map ?_) | (refine m_ite ?_ ?_) | intro _ | split | dsimp only))
 ·exact qae _
@[simp] theorem qkk (x0 x1 x2) : Mute P (Go.Builtin.len_ x0 x1 x2) := by unfold Go.Builtin.len_; exact mS
@[simp] theorem qw3 (x0 x1) : Mute P (Go.Builtin.max2 x0 x1) := by unfold Go.Builtin.max2; exact mS
@[simp] theorem qkl (x0 x1 x2) : Mute P (Go.Builtin.max_ x0 x1 x2) := by unfold Go.Builtin.max_; exact mS
@[simp] theorem qw4 (x0 x1) : Mute P (Go.Builtin.min2 x0 x1) := by unfold Go.Builtin.min2; exact mS
@[simp] theorem qkm (x0 x1 x2) : Mute P (Go.Builtin.min_ x0 x1 x2) := by unfold Go.Builtin.min_; exact mS
@[simp] theorem qhe (x0 x1) : Mute P (Go.Builtin.printOne x0 x1) := by unfold Go.Builtin.printOne; exact mS
@[simp] theorem qjl : ∀ x0 x1 x2, Mute P (Go.Builtin.real_ x0 x1 x2) := by
 intro x0 x1 x2
 unfold Go.Builtin.real_
 obtain ⟨l⟩ := x2
 rcases l with _ | ⟨a0, _ | ⟨a1, l⟩⟩
 ·exact qae _
 ·cases a0 <;> first | exact qae _ | (repeat' (first | exact qae _ | exact qap _ | exact Mute.pure _ | exact Mute.pure' _ | exact qaz _ | exact qc3 _ | exact qcd _ | exact qce _ _ | exact qcf _ | exact qc2 _ | exact qbe | exact qb4 _ | exact qbo _ | exact qa4 _ | exact qcg _ | exact qbi _ _ _ | exact qcb _ | exact qch _ _ | exact qa2 _ | exact qcc _ _ | exact qbm _ _ _ | exact qbk _ | (refine Mute.bind ?_ ?_) | (refine Mute.map ?_) | (refine m_ite ?_ ?_) | intro _ | split | dsimp only))
 ·exact qae _
@[simp] theorem qgg : ∀ x0 x1 x2, Mute P (Go.Builtin.unsafeAdd_ x0 x1 x2) := by
 intro x0 x1 x2
 unfold Go.Builtin.unsafeAdd_
 obtain ⟨l⟩ := x2
 rcases l with _ | ⟨a0, _ | ⟨a1, _ | ⟨a2, l⟩⟩⟩
 ·exact qae _
 ·cases a0 <;> exact qae _
 ·cases a0 <;> first | exact qae _ | (repeat' (first | exact qae _ | exact qap _ | exact Mute.pure _ | exact Mute.pure' _ | exact qaz _ | exact qc3 _ | exact qcd _ | exact qce _ _ | exact qcf _ | exact qc2 _ | exact qbe | exact qb4 _ | exact qbo _ | exact qa4 _ | exact qcg _ | exact qbi _ _ _ | exact qcb _ | exact qch _ _ | exact qa2 _ | exact qcc _ _ | exact qbm _ _ _ | exact qbk _ | (refine Mute.bind ?_ ?_) | (refine Mute.map ?_) | (refine m_ite ?_ ?_) | intro _ | split | dsimp only))
 ·cases a0 <;> exact qae _
@[simp] theorem qfn : ∀ x0 x1 x2, Mute P (Go.Builtin.unsafeSlice_ x0 x1 x2) := by
 intro x0 x1 x2
 unfold Go.Builtin.unsafeSlice_
 obtain ⟨l⟩ := x2
 rcases l with _ | ⟨a0, _ | ⟨a1, _ | ⟨a2, l⟩⟩⟩
 ·exact qae _
 ·cases a0 <;> exact qae _
 ·cases a0 <;> first | exact qae _ | (repeat' (first | exact qae _ | exact qap _ | exact Mute.pure _ | exact Mute.pure' _ | exact qaz _ | exact qc3 _ | exact qcd _ | exact qce _ _ | exact qcf _ | exact qc2 _ | exact qbe | exact qb4 _ | exact qbo _ | exact qa4 _ | exact qcg _ | exact qbi _ _ _ | exact qcb _ | exact qch _ _ | exact qa2 _ | exact qcc _ _ | exact qbm _ _ _ | exact qbk _ | (refine Mute.bind ?_ ?_) | (refine Mute.map ?_) | (refine m_ite ?_ ?_) | intro _ | split | dsimp only))
 ·cases a0 <;> exact qae _
@[simp] theorem qek : ∀ x0 x1 x2, Mute P (Go.Builtin.unsafeSliceData_ x0 x1 x2) := by
 intro x0 x1 x2
 unfold Go.Builtin.unsafeSliceData_
 obtain ⟨l⟩ := x2
 rcases l with _ | ⟨a0, _ | ⟨a1, l⟩⟩
 ·exact qae _
 ·cases a0 <;> first | exact qae _ | (rename_i b _ _; cases b <;> (repeat' (first | exact qae _ | exact qap _ | exact Mute.pure _ | exact Mute.pure' _ | exact qaz _ | exact qc3 _ | exact qcd _ | exact qce _ _ | exact qcf _ | exact qc2 _ | exact qbe | exact qb4 _ | exact qbo _ | exact qa4 _ | exact qcg _ | exact qbi _ _ _ | exact qcb _ | exact qch _ _ | exact qa2 _ | exact qcc _ _ | exact qbm _ _ _ | exact qbk _ | (refine Mute.bind ?_ ?_) | (refine Mute.map ?_) | (refine m_ite ?_ ?_) | intro _ | split | dsimp only)))
 ·exact qae _
@[simp] theorem qfa : ∀ x0 x1 x2, Mute P (Go.Builtin.unsafeString_ x0 x1 x2) := by
 intro x0 x1 x2
 unfold Go.Builtin.unsafeString_
 obtain ⟨l⟩ := x2
 rcases l with _ | ⟨a0, _ | ⟨a1, _ | ⟨a2, l⟩⟩⟩
 ·exact qae _
 ·cases a0 <;> exact qae _
 ·cases a0 <;> first | exact qae _ | (repeat' (first | exact qae _ | exact qap _ | exact Mute.pure _ | exact Mute.pure' _ | exact qaz _ | exact qc3 _ | exact qcd _ | exact qce _ _ | exact qcf _ | exact qc2 _ | exact qbe | exact qb4 _ | exact qbo _ | exact qa4 _ | exact qcg _ | exact qbi _ _ _ | exact qcb _ | exact qch _ _ | exact qa2 _ | exact qcc _ _ | exact qbm _ _ _ | exact qbk _ | (refine Mute.bind ?_ ?_) | (refine Mute.map ?_) | (refine m_ite ?_ ?_) | intro _ | split | dsimp only))
 ·cases a0 <;> exact qae _
@[simp] theorem qd8 : ∀ x0 x1 x2, Mute P (Go.Builtin.unsafeStringData_ x0 x1 x2) := by
 intro x0 x1 x2
 unfold Go.Builtin.unsafeStringData_
 obtain ⟨l⟩ := x2
 rcases l with _ | ⟨a0, _ | ⟨a1, l⟩⟩
 ·exact qae _
 ·cases a0 <;> first | exact qae _ | (repeat' (first | exact qae _ | exact qap _ | exact Mute.pure _ | exact Mute.pure' _ | exact qaz _ | exact qc3 _ | exact qcd _ | exact qce _ _ | exact qcf _ | exact qc2 _ | exact qbe | exact qb4 _ | exact qbo _ | exact qa4 _ | exact qcg _ | exact qbi _ _ _ | exact qcb _ | exact qch _ _ | exact qa2 _ | exact qcc _ _ | exact qbm _ _ _ | exact qbk _ | (refine Mute.bind ?_ ?_) | (refine Mute.map ?_) | (refine m_ite ?_ ?_) | intro _ | split | dsimp only))
 ·exact qae _
@[simp] theorem qu9 (x0) : Mute P (Go.Instr.sureAddr x0) := by unfold Go.Instr.sureAddr; exact mS
@[simp] theorem qkn (x0 x1) : Mute P (Go.Instr.loadAt x0 x1) := by unfold Go.Instr.loadAt; exact mS
@[simp] theorem qjm (x0 x1 x2) : Mute P (Go.Instr.storeAt x0 x1 x2) := by unfold Go.Instr.storeAt; exact mS
@[simp] theorem qlu (x0 x1 x2) : Mute P (Go.Instr.field x0 x1 x2) := by unfold Go.Instr.field; exact mS
@[simp] theorem qjn (x0 x1 x2) : Mute P (Go.Instr.fieldAt x0 x1 x2) := by unfold Go.Instr.fieldAt; exact mS
@[simp] theorem qjo (x0 x1 x2) : Mute P (Go.Instr.indexAt x0 x1 x2) := by unfold Go.Instr.indexAt; exact mS
@[simp] theorem qjp (x0 x1 x2 x3 x4) : Mute P (Go.Instr.sliceAt x0 x1 x2 x3 x4) := by unfold Go.Instr.sliceAt; exact mS
@[simp] theorem qs0 (x0 x1 x2) : Mute P (Go.convert x0 x1 x2) := by unfold Go.convert; exact mS
@[simp] theorem qjq (x0 x1) : Mute P (Go.Instr.arrayAt x0 x1) := by unfold Go.Instr.arrayAt; exact mS
@[simp] theorem qlv (x0 x1 x2) : Mute P (Go.Instr.alloc x0 x1 x2) := by unfold Go.Instr.alloc; exact mS
@[simp] theorem qny (x0 x1) : Mute P (Go.Instr.box x0 x1) := by unfold Go.Instr.box; exact mS
@[simp] theorem qlw (x0 x1) : Mute P (Go.Instr.build x0 x1) := by unfold Go.Instr.build; exact mS
@[simp] theorem qhf (x0 x1 x2) : Mute P (Go.Instr.buildSlice x0 x1 x2) := by unfold Go.Instr.buildSlice; exact mS
@[simp] theorem qlx (x0) : Mute P (Go.Instr.entry x0) := by unfold Go.Instr.entry; exact mS
@[simp] theorem qko (x0 x1 x2 x3) : Mute P (Go.Instr.lookup x0 x1 x2 x3) := by unfold Go.Instr.lookup; exact mS
@[simp] theorem qi2 (x0 x1) : Mute P (Go.Instr.makeChan x0 x1) := by unfold Go.Instr.makeChan; exact mS
@[simp] theorem qi3 (x0 x1 x2) : Mute P (Go.Instr.makeFunc x0 x1 x2) := by unfold Go.Instr.makeFunc; exact mS
@[simp] theorem qfy (x0 x1) : Mute P (Go.Instr.makeInterface x0 x1) := by unfold Go.Instr.makeInterface; exact mS
@[simp] theorem qjr (x0 x1) : Mute P (Go.Instr.makeMap x0 x1) := by unfold Go.Instr.makeMap; exact mS
@[simp] theorem qii (x0 x1 x2) : Mute P (Go.Instr.makeSlice x0 x1 x2) := by unfold Go.Instr.makeSlice; exact mS
@[simp] theorem qqg (x0 x1) : Mute P (Go.Instr.keyThatStays x0 x1) := by unfold Go.Instr.keyThatStays; exact mS
@[simp] theorem qi4 (x0 x1 x2) : Mute P (Go.Instr.mapEntry x0 x1 x2) := by unfold Go.Instr.mapEntry; exact mS
@[simp] theorem qhg (x0 x1 x2 x3) : Mute P (Go.Instr.entryStore x0 x1 x2 x3) := by unfold Go.Instr.entryStore; exact mS
@[simp] theorem qem (x0 x1 x2 x3) : Mute P (Go.Instr.mapUpdate x0 x1 x2 x3) := by unfold Go.Instr.mapUpdate; exact mS
@[simp] theorem qyp : ∀ x0 x1 x2, Mute P (Go.followBlind x0 x1 x2) := by
 intro x0 x1 x2
 induction x0 generalizing x1 x2 with
 | nil =>
  unfold Go.followBlind
  exact mS
 | cons a l ih =>
  unfold Go.followBlind
  exact mS
@[simp] theorem qqh : ∀ x0 x1 x2 x3, Mute P (Go.nilAhead x0 x1 x2 x3) := by
 intro x0 x1 x2 x3
 induction x0 generalizing x1 x2 x3 with
 | zero =>
  unfold Go.nilAhead
  exact mS
 | succ n ih =>
  unfold Go.nilAhead
  exact mS
@[simp] theorem qme (x0 x1 x2) : Mute P (Go.Instr.next x0 x1 x2) := by unfold Go.Instr.next; exact mS
@[simp] theorem qva : Mute P Go.Instr.panicnil := by
 unfold Go.Instr.panicnil
 refine qu0 _ ⟨_, rfl, rfl⟩ fun r => ?_
 repeat' (first | exact Mute.pure _ | exact qae _ | exact qbe | (refine Mute.bind ?_ ?_) | intro _ | split | dsimp only)
@[simp] theorem qg5 (x0) : Mute P (Go.Instr.panic x0) := by unfold Go.Instr.panic; exact mS
@[simp] theorem qjs (x0) : Mute P (Go.Instr.getLoop x0) := by unfold Go.Instr.getLoop; exact mS
@[simp] theorem qly (x0) : Mute P (Go.Instr.ready x0) := by unfold Go.Instr.ready; exact mS
@[simp] theorem qij (x0 x1 x2 x3 x4 x5) : Mute P (Go.Instr.enterLoop x0 x1 x2 x3 x4 x5) := by unfold Go.Instr.enterLoop; exact mS
@[simp] theorem qhh (x0) : Mute P (Go.Instr.beginRound x0) := by unfold Go.Instr.beginRound; exact mS
@[simp] theorem qi5 (x0 x1) : Mute P (Go.Instr.endRound x0 x1) := by unfold Go.Instr.endRound; exact mS
@[simp] theorem qjt (x0) : Mute P (Go.Instr.endLoop x0) := by unfold Go.Instr.endLoop; exact mS
@[simp] theorem qgh (x0 x1) : Mute P (Go.Instr.deferInRound x0 x1) := by unfold Go.Instr.deferInRound; exact mS
@[simp] theorem qgi (x0) : Mute P (Go.Instr.takeDeferred x0) := by unfold Go.Instr.takeDeferred; exact mS
@[simp] theorem qhi (x0 x1 x2 x3) : Mute P (Go.Instr.typeAssert x0 x1 x2 x3) := by unfold Go.Instr.typeAssert; exact mS
@[simp] theorem qyq (x0 x1 x2) : Mute P (Go.movedNumber x0 x1 x2) := by unfold Go.movedNumber; exact mS
@[simp] theorem qw5 (x0 x1 x2) : Mute P (Go.movedPointer x0 x1 x2) := by unfold Go.movedPointer; exact mS
@[simp] theorem qs1 (x0 x1 x2 x3 x4 x5) : Mute P (Go.eqGuard x0 x1 x2 x3 x4 x5) := by unfold Go.eqGuard; exact mS
@[simp] theorem qw6 (x0 x1 x2 x3) : Mute P (Go.binOp x0 x1 x2 x3) := by unfold Go.binOp; exact mS
@[simp] theorem qd9 (x0 x1 x2) : Mute P (Go.resolve x0 x1 x2) := by unfold Go.resolve; exact mS
end
end Go.Ride

namespace Go.Ride
def good : Next → Prop
 | .value _ | .skip | .enter _ _ | .round _ _ _ _ _ | .defer _ | .recover | .comm _ _ _ | .spawn _ => True
 | .row r _ => r = "runtime.print$piece"
 | .coroswitch _ true => True
 | _ => False
def Fine (P : Program) (s : Sem Next) : Prop := tame P s 0 fun n k => k = 0 ∧ good n
structure Mild (P : Program) : Prop where
 count : ∀ (f : Nat) (fn : Func), P.funcs[f]? = some fn → fn.name ≠ "runtime.NumGoroutine"
 rows : ∀ (f : Nat) (fn : Func), P.funcs[f]? = some fn → fn.body = none → Extern.findNext fn = none ∧ ∀ e, Extern.find fn = some e → ∀ args, Mute P (e args)
section
variable {P : Program}
theorem Fine.value {s : Sem Value} (h : Mute P s) : Fine P (do pure (.value (← s))) := qez h fun a => ⟨rfl, trivial⟩
theorem Fine.skip {s : Sem Unit} (h : Mute P s) : Fine P (do s; pure .skip) := qez h fun a => ⟨rfl, trivial⟩
theorem Fine.halt {h : Halt} (h1 : h ≠ .waiting) (h2 : h ≠ .goexit) : Fine P (.halt h) := ⟨h1, h2, .inl rfl⟩
theorem Fine.stuck (x) : Fine P (Go.stuck x) := Fine.halt (by simp) (by simp)
theorem Fine.unsupported (x) : Fine P (Go.unsupported x) := Fine.halt (by simp) (by simp)
theorem Fine.ret {n : Next} (h : good n) : Fine P (pure n) := ⟨rfl, h⟩
theorem Fine.bind {α : Type} {s : Sem α} {f : α → Sem Next} (h : Mute P s) (hf : ∀ a, Fine P (f a)) : Fine P (s >>= f) := qez h hf
theorem Fine.runtimePanic (e) : Fine P (Go.runtimePanic e) := by
 unfold Go.runtimePanic
 refine Fine.bind qbe fun p => ?_
 cases e <;> first
  | exact Fine.halt (by simp) (by simp)
  | (dsimp only; refine Fine.bind (qb4 _) fun a => Fine.bind (qu2 _ _) fun b => Fine.halt (by simp) (by simp))
theorem qo9 (a b : Array TypeId) (args : Array Value) : Fine P (Extern.PrintPieces.piece a b args) := by
 unfold Extern.PrintPieces.piece
 split
 ·rename_i first h0
  split
  ·rename_i p h1
   dsimp only
   split
   ·exact Fine.halt (by simp) (by simp)
   ·have hrest : ∀ (fi : Bool), Fine P (do
      writeFd 2 p
      if (!(args.size == 2)) = true then pure (Next.row "runtime.print$piece" (#[Value.bool false] ++ args.extract 2))
      else do
       if (!fi) = true then
        mark Mark.disable
        let l ← program
        store (printLock l) (Value.bool false) Mode.atomic
        mark Mark.enable
       pure (Next.value (Value.tuple #[]))) := by
     intro fi
     refine ⟨⟨_, rfl, rfl⟩, fun r => ?_⟩
     have hgo : Fine P (do
      if (!(args.size == 2)) = true then pure (Next.row "runtime.print$piece" (#[Value.bool false] ++ args.extract 2))
      else do
       if (!fi) = true then
        mark Mark.disable
        let l ← program
        store (printLock l) (Value.bool false) Mode.atomic
        mark Mark.enable
       pure (Next.value (Value.tuple #[]))) := by
      split
      ·exact ⟨rfl, rfl⟩
      ·cases fi
       ·exact ⟨Nat.succ_pos _, rfl, trivial⟩
       ·exact ⟨rfl, trivial⟩
     cases r <;> first | exact hgo | exact ⟨by simp, by simp, .inl rfl⟩
    cases first
    ·exact hrest false
    · -- the first piece: the lock is looked at within a deaf stretch
     intro v
     cases v <;> first
      | exact ⟨by simp, by simp, .inr rfl⟩
      | skip
     rename_i x
     cases x
     ·by_cases hl : (args.size == 2) = true
      ·have := hrest true
       simp only [hl] at this ⊢
       exact ⟨Nat.succ_pos _, this⟩
      ·have hl' : (args.size == 2) = false := by simpa using hl
       have := hrest true
       simp only [hl'] at this ⊢
       exact ⟨Nat.succ_pos _, this⟩
     ·exact ⟨by simp, by simp, .inr rfl⟩
  ·exact Fine.stuck _
 ·exact Fine.stuck _
theorem qqi {α β : Type} (l : List α) (b : β) (f : (a : α) → a ∈ l → β → Sem (ForInStep β)) (h : ∀ a m b, Mute P (f a m b)) : Mute P (forIn' l b f) := by
 induction l generalizing b with
 | nil => exact Mute.pure b
 | cons a l ih =>
  rw [List.forIn'_cons]
  refine (h a _ b).bind fun x => ?_
  cases x with
  | done b => exact Mute.pure b
  | yield b => exact ih b _ fun a m b => h a _ b
theorem qnz {β : Type} (l : Std.Legacy.Range) (b : β) (f : (a : Nat) → a ∈ l → β → Sem (ForInStep β)) (h : ∀ a m b, Mute P (f a m b)) : Mute P (forIn' l b f) := by
 rw [Std.Legacy.Range.forIn'_eq_forIn'_range']; exact qqi _ _ _ fun a m b => h a _ b
theorem qvb (ln : Bool) (c : Array Bool) (ts : Array TypeId) (as : Array Value) : Mute P (Builtin.pieces ln c ts as) := by
 unfold Builtin.pieces
 repeat' (first | exact Mute.pure _ | exact qae _ | exact qhe _ _ | (refine Mute.bind ?_ ?_) | (refine qnz _ _ _ ?_) | (refine qjh _ _ _ ?_) | (refine m_ite ?_ ?_) | intro _ | split | dsimp only)
theorem qlz (ln : Bool) (c : Array Bool) (ts : Array TypeId) (as : Array Value) : Fine P (Builtin.printMarked ln c ts as) := by
 unfold Builtin.printMarked
 refine Fine.bind (qvb _ _ _ _) fun ps => ?_
 split
 ·exact Fine.ret trivial
 ·exact qo9 _ _ _
theorem qs2 (b : Builtin) (ts : Array TypeId) (t : TypeId) (c : Array Bool) (as : Array Value) : Fine P (builtin b ts t c as) := by
 unfold builtin
 cases b <;> first
  | exact Fine.value (qig _ _ _) | exact Fine.value (qkj _ _ _) | exact Fine.value (qi0 _ _ _) | exact Fine.value (qi1 _ _ _)
  | exact Fine.value (qhd _ _ _) | exact Fine.value (qjj _ _ _) | exact Fine.value (qih _ _ _) | exact Fine.value (qjk _ _ _)
  | exact Fine.value (qkk _ _ _) | exact Fine.value (qkl _ _ _) | exact Fine.value (qkm _ _ _) | exact Fine.value (qg5 _)
  | exact qlz _ _ _ _ | exact Fine.value (qjl _ _ _) | exact Fine.ret trivial | exact Fine.stuck _ | exact Fine.unsupported _
  | exact Fine.value (qgg _ _ _) | exact Fine.value (qfn _ _ _) | exact Fine.value (qek _ _ _) | exact Fine.value (qfa _ _ _) | exact Fine.value (qd8 _ _ _)
  | exact Fine.bind (qbo _) fun i => Fine.ret trivial
theorem qgj (hM : Mild P) (f : FuncId) (as : Array Value) : Fine P (callFunc f as) := by
 unfold callFunc
 show Fine P (program >>= fun p => _)
 show Fine P _
 unfold Fine
 show tame P (match P.funcs[f]? with | none => stuck "call: no such function" | some fn => _) 0 _
 split
 ·exact Fine.stuck _
 ·rename_i fn hf
  have hn : (fn.name == "runtime.NumGoroutine") = false := by simpa using hM.count f fn hf
  rw [hn]
  simp only [Bool.false_eq_true, if_false]
  cases hb : fn.body with
  | some c => exact ⟨rfl, trivial⟩
  | none =>
   obtain ⟨h1, h2⟩ := hM.rows f fn hf hb
   simp only [Option.isNone_none, if_true, h1]
   show tame P (match Extern.find fn with | some e => _ | none => _) 0 _
   cases he : Extern.find fn with
   | some e => exact Fine.value (h2 e he as)
   | none =>
    dsimp only
    split
    ·exact ⟨rfl, trivial⟩
    ·exact Fine.unsupported _
theorem qhj (hM : Mild P) (r : Value) (n : String) (as : Array Value) : Fine P (callMethod r n as) := by
 unfold callMethod
 split
 ·refine Fine.bind qbe fun p => Fine.bind (qu6 _ _ _ _) fun x => qgj hM _ _
 ·exact Fine.runtimePanic _
 ·exact Fine.stuck _
theorem qw7 (l : Nat) (as : Array Value) : Fine P (Instr.yield l as) := by
 unfold Instr.yield
 refine Fine.bind (qjs _) fun r => ?_
 dsimp only
 split
 ·exact Fine.bind (qae _) fun _ => Fine.ret trivial
 ·exact Fine.ret trivial
theorem qgk (hM : Mild P) (t : Target) (as : Array Value) : Fine P (invoke t as) := by
 unfold invoke
 split
 ·exact Fine.runtimePanic _
 ·exact qs2 _ _ _ _ _
 ·exact qgj hM _ _
 ·split
  ·exact qhj hM _ _ _
  ·exact Fine.stuck _
 ·split
  ·refine Fine.bind (s := underlying _) (qa4 _) fun d => ?_
   repeat' (first | exact qhj hM _ _ _ | (refine Fine.bind (Mute.pure _) fun _ => ?_) | split | dsimp only)
  ·exact Fine.stuck _
 ·split
  ·exact Fine.bind (qlq _ _ _ _) fun r => qgj hM _ _
  ·exact Fine.stuck _
 ·exact qw7 _ _
 ·exact Fine.stuck _
 ·exact Fine.ret trivial
theorem qvc (hM : Mild P) (ρ : Operand → Value) (o : Oper) : Fine P (execOp ρ o) := by
 unfold execOp
 generalize o.op = op
 cases op <;> dsimp only
 case move => exact Fine.ret trivial
 case assign => exact Fine.ret trivial
 case pick => exact Fine.bind (qu3 _) fun b => by split <;> exact Fine.ret trivial
 case alloc => exact Fine.value (qlv _ _ _)
 case box => exact Fine.value (qny _ _)
 case build => exact Fine.value (qlw _ _)
 case buildSlice => exact Fine.value (qhf _ _ _)
 case insert => exact Fine.skip (qem _ _ _ _)
 case load => exact Fine.value (qkn _ _)
 case store => exact Fine.skip (qjm _ _ _)
 case ready => exact Fine.skip (qly _)
 case waits => exact Fine.value (qls _)
 case nilCheck =>
  repeat' (first | exact Fine.runtimePanic _ | exact Fine.ret trivial | exact Fine.unsupported _ | (refine Fine.bind qbe fun _ => ?_) | (refine Fine.bind (qqh _ _ _ _) fun _ => ?_) | (refine Fine.bind (qap _) fun _ => ?_) | split | dsimp only)
 case binOp => exact Fine.value (Mute.bind (qs1 _ _ _ _ _ _) fun _ => qw6 _ _ _ _)
 case unOp => exact Fine.value (qqd _ _)
 case convert => exact Fine.value (qs0 _ _ _)
 case sliceToArrayPointer => exact Fine.value (qjq _ _)
 case makeInterface => exact Fine.value (qfy _ _)
 case makeFunc => exact Fine.value (qi3 _ _ _)
 case makeMap => exact Fine.value (qjr _ _)
 case makeChan => exact Fine.value (qi2 _ _)
 case makeSlice => exact Fine.value (qii _ _ _)
 case slice => exact Fine.value (qjp _ _ _ _ _)
 case fieldAddr => exact Fine.value (qjn _ _ _)
 case field => exact Fine.value (qlu _ _ _)
 case indexAddr => exact Fine.value (qjo _ _ _)
 case index => exact Fine.value (qlr _ _ _)
 case lookup => exact Fine.value (qko _ _ _ _)
 case mapUpdate => exact Fine.skip (qem _ _ _ _)
 case mapEntry => exact Fine.value (qi4 _ _ _)
 case entryStore => exact Fine.skip (qhg _ _ _ _)
 case range => exact Fine.value (qlt _ _)
 case next => exact Fine.value (qme _ _ _)
 case entry => exact Fine.value (qlx _)
 case typeAssert => exact Fine.value (qhi _ _ _ _)
 case extract => exact Fine.value (qji _ _)
 case call => exact Fine.bind (qd9 _ _ _) fun d => qgk hM _ _
 case go => exact Fine.bind (qd9 _ _ _) fun d => Fine.ret trivial
 case defer => exact Fine.bind (qd9 _ _ _) fun d => Fine.ret trivial
 case panic => exact Fine.value (qg5 _)
 case send => exact Fine.ret trivial
 case recv =>
  refine Fine.bind (s := underlying _) (qa4 _) fun d => ?_
  split
  ·exact Fine.bind (qil _) fun _ => Fine.ret trivial
  ·exact Fine.stuck _
 case select =>
  exact Fine.bind (qgf _ _ fun a => Mute.bind (qil _) fun _ => Mute.pure _) fun _ => Fine.ret trivial
end
end Go.Ride

/- The rows of the run-time errors' methods say no word of the library's. -/
namespace Go.Ride
section
variable {P : Program}
@[simp] theorem qxw : ∀ s, Mute P (Go.Extern.RuntimeError.text s) := by
 intro s
 unfold Go.Extern.RuntimeError.text
 exact mS
theorem qk4 : ∀ x, Mute P (Go.Extern.RuntimeError.boundsError x) := by
 intro x
 unfold Go.Extern.RuntimeError.boundsError
 rcases x with ⟨_ | ⟨v, _ | ⟨u, t⟩⟩⟩ <;> (try exact qae _)
 cases v <;> (try exact qae _)
 rename_i a
 rcases a with ⟨_ | ⟨v1, _ | ⟨v2, _ | ⟨v3, _ | ⟨v4, _ | ⟨u, t⟩⟩⟩⟩⟩⟩ <;> (try exact qae _)
 ·cases v1 <;> (try exact qae _) <;> cases v2 <;> (try exact qae _) <;> cases v3 <;> (try exact qae _) <;> cases v4 <;> (try exact qae _)
  rename_i k1 x k2 y sg k4 code
  show Mute P (match (if (sg && decide (x < 0)) = true then Go.Extern.RuntimeError.boundsNegErrorFmts else Go.Extern.RuntimeError.boundsErrorFmts)[code.toNat]? with
   | some fmt => Go.Extern.RuntimeError.text ("runtime error: " ++ (fmt.replace "%x" (toString (if sg = true then x else IntKind.u64.wrap x))).replace "%y" (toString y))
   | none => Go.stuck "boundsError: no such code")
  cases (if (sg && decide (x < 0)) = true then Go.Extern.RuntimeError.boundsNegErrorFmts else Go.Extern.RuntimeError.boundsErrorFmts)[code.toNat]? with
  | none => exact qae _
  | some fmt => exact qxw _
@[simp] theorem qzd : ∀ v, Mute P (Go.Extern.RuntimeError.described v) := by
 intro v
 unfold Go.Extern.RuntimeError.described
 exact mS
@[simp] theorem qze : ∀ i, Mute P (Go.Extern.RuntimeError.pkgpathOf i) := by
 intro i
 unfold Go.Extern.RuntimeError.pkgpathOf
 exact mS
theorem qga : ∀ x, Mute P (Go.Extern.RuntimeError.typeAssertionError x) := by
 intro x
 unfold Go.Extern.RuntimeError.typeAssertionError
 exact mS
theorem qfu : ∀ x, Mute P (Go.Extern.RuntimeError.unhashableTypeError x) := by
 intro x
 unfold Go.Extern.RuntimeError.unhashableTypeError
 rcases x with ⟨_ | ⟨v, _ | ⟨u, t⟩⟩⟩ <;> (try exact qae _)
 cases v <;> (try exact qae _)
 rename_i a
 rcases a with ⟨_ | ⟨y, _ | ⟨u, t⟩⟩⟩ <;> (try exact qae _)
 try dsimp only
 exact mS
theorem qcu : ∀ x, Mute P (Go.Extern.RuntimeError.nothing x) := by
 intro x
 unfold Go.Extern.RuntimeError.nothing
 exact mS
end
end Go.Ride
