/- Every piece of the semantics of Go's own operations says no word of the library's, whatever its arguments are (for the law of goroutines that walk beside leavers). -/
import Derived.Test.YtlgjaefcfnndhaaGreatDoorL1
import Derived.Laws.Sem
set_option linter.unusedVariables false
set_option linter.unusedSimpArgs false
set_option maxHeartbeats 16000000
namespace Go.Ride
section
variable {P : Program}
@[simp] theorem q0h (x0 x1) : Mute P (Go.load x0 x1) := fun _ => rfl
@[simp] theorem q0c (x0 x1 x2) : Mute P (Go.store x0 x1 x2) := rfl
@[simp] theorem qch (x0) : Mute P (Go.newObj x0) := fun _ => rfl
@[simp] theorem qc4 (x0) : Mute P (Go.shape x0) := fun _ => rfl
@[simp] theorem qci (x0 x1) : Mute P (Go.freeze x0 x1) := rfl
@[simp] theorem qz6 (x0) : Mute P (Go.frozen x0) := fun _ => rfl
@[simp] theorem qcj (x0) : Mute P (Go.getObj x0) := fun _ => rfl
@[simp] theorem qck (x0 x1) : Mute P (Go.setObj x0 x1) := rfl
@[simp] theorem qbk (x0) : Mute P (Go.choose x0) := fun _ => rfl
@[simp] theorem qbf : Mute P Go.program := rfl
@[simp] theorem qz0 (x0) : Mute P (Go.askRoom x0) := by unfold Go.askRoom; split <;> rfl
@[simp] theorem qae {α : Type} (x0) : Mute P (Go.stuck (α := α) x0) := Mute.halt (by simp) (by simp)
@[simp] theorem qaq {α : Type} (x0) : Mute P (Go.unsupported (α := α) x0) := Mute.halt (by simp) (by simp)
@[simp] theorem qz1 {α : Type} (x0) : Mute P (Go.goPanic (α := α) x0) := Mute.halt (by simp) (by simp)
@[simp] theorem q0d {α : Type} (x0) : Mute P (Go.fatal (α := α) x0) := Mute.halt (by simp) (by simp)
@[simp] theorem q0e {α : Type} (x0) : Mute P (Go.throw (α := α) x0) := Mute.halt (by simp) (by simp)
theorem qg5 {α β : Type} (l : List α) (b : β) (f : α → β → Sem (ForInStep β)) (h : ∀ a b, Mute P (f a b)) : Mute P (forIn l b f) := by
 induction l generalizing b with
 | nil => exact Mute.pure b
 | cons a l ih =>
  rw [List.forIn_cons]
  refine (h a b).bind fun x => ?_
  cases x with
  | done b => exact Mute.pure b
  | yield b => exact ih b
theorem qjf {α β : Type} (l : Array α) (b : β) (f : α → β → Sem (ForInStep β)) (h : ∀ a b, Mute P (f a b)) : Mute P (forIn l b f) := by
 rw [← Array.forIn_toList]; exact qg5 _ _ _ h
theorem qp3 {β : Type} (l : Std.Legacy.Range) (b : β) (f : Nat → β → Sem (ForInStep β)) (h : ∀ a b, Mute P (f a b)) : Mute P (forIn l b f) := by
 rw [Std.Legacy.Range.forIn_eq_forIn_range']; exact qg5 _ _ _ h
theorem qg6 {α β : Type} (l : List α) (f : α → Sem β) (h : ∀ a, Mute P (f a)) : Mute P (l.mapM f) := by
 induction l with
 | nil => exact Mute.pure _
 | cons a l ih => rw [List.mapM_cons]; exact (h a).bind fun x => ih.bind fun y => Mute.pure _
theorem qga {α β : Type} (l : Array α) (f : α → Sem β) (h : ∀ a, Mute P (f a)) : Mute P (l.mapM f) := by
 rw [Array.mapM_eq_mapM_toList]; exact (qg6 _ _ h).map
theorem qp4 {α β : Type} (l : List α) (b : β) (f : β → α → Sem β) (h : ∀ b a, Mute P (f b a)) : Mute P (l.foldlM f b) := by
 induction l generalizing b with
 | nil => exact Mute.pure b
 | cons a l ih => rw [List.foldlM_cons]; exact (h b a).bind fun x => ih x
theorem qur {α : Type} (f : SysRet → Sem α) (h : ∃ x, f .wouldBlock = .halt x ∧ ends x = true) (hf : ∀ r, Mute P (f r)) : Mute P (Go.sys .env >>= f) := by
 obtain ⟨x, hx, he⟩ := h
 exact ⟨⟨x, by show f .wouldBlock = _; exact hx, he⟩, hf⟩
theorem m_ite {α : Type} {c : Prop} [Decidable c] {s t : Sem α} (h1 : Mute P s) (h2 : Mute P t) : Mute P (if c then s else t) := by split <;> assumption
@[simp] theorem qz7 : Mute P (mark .noRoom) := rfl
theorem mS {α : Type} {s : Sem α} (h : Mute P s := by repeat' (first | exact Mute.pure _ | exact Mute.pure' _ | assumption | (with_reducible first | refine Mute.bind ?_ ?_ | refine m_ite ?_ ?_ | refine Mute.map ?_ | refine qg5 _ _ _ ?_ | refine qjf _ _ _ ?_ | refine qp3 _ _ _ ?_ | refine qg6 _ _ ?_ | refine qga _ _ ?_ | refine qp4 _ _ _ ?_) | (simp [*]; done) | (refine Mute.bind ?_ ?_) | (refine Mute.map ?_) | intro _ | split | dsimp only | fail)) : Mute P s := h
@[simp] theorem qcl (x0) : Mute P (Go.viewAt x0) := by unfold Go.viewAt; exact mS
@[simp] theorem qzs (x0) : Mute P (Go.numberAt x0) := by unfold Go.numberAt; exact mS
@[simp] theorem qz2 (x0) : Mute P (Go.cellsIn x0) := by unfold Go.cellsIn; exact mS
@[simp] theorem qzt (x0 x1) : Mute P (Go.asNumber x0 x1) := by unfold Go.asNumber; exact mS
@[simp] theorem qwo (x0) : Mute P (Go.behindNumber x0) := by unfold Go.behindNumber; exact mS
@[simp] theorem qus (x0) : Mute P (Go.backFromNumber x0) := by unfold Go.backFromNumber; exact mS
@[simp] theorem qz8 (x0) : Mute P (Go.noView x0) := by unfold Go.noView; exact mS
@[simp] theorem qa4 (x0) : Mute P (Go.markStringish x0) := by unfold Go.markStringish; exact mS
@[simp] theorem qzn (x0) : Mute P (Go.stringish x0) := by unfold Go.stringish; exact mS
@[simp] theorem qzu (x0 x1) : Mute P (Go.mayBeOne x0 x1) := by unfold Go.mayBeOne; exact mS
@[simp] theorem qzv (x0 x1) : Mute P (Go.sameAddr x0 x1) := by unfold Go.sameAddr; exact mS
@[simp] theorem qx5 (x0 x1) : Mute P (Go.samePointer x0 x1) := by unfold Go.samePointer; exact mS
@[simp] theorem qbo (x0) : Mute P (Go.typeInfo x0) := by unfold Go.typeInfo; exact mS
@[simp] theorem qa7 (x0) : Mute P (Go.underlying x0) := by unfold Go.underlying; exact mS
@[simp] theorem qz3 (x0) : Mute P (Go.cutType x0) := by unfold Go.cutType; exact mS
@[simp] theorem qyg (x0) : Mute P (Go.globalAddr x0) := by unfold Go.globalAddr; exact mS
@[simp] theorem qz4 (x0) : Mute P (Go.typeStr x0) := by unfold Go.typeStr; exact mS
@[simp] theorem qih (x0) : Mute P (Go.zeroValue x0) := by unfold Go.zeroValue; exact mS
@[simp] theorem qcm (x0) : Mute P (Go.sizeOf x0) := by unfold Go.sizeOf; exact mS
@[simp] theorem q0f (x0) : Mute P (Go.isAgg x0) := by unfold Go.isAgg; exact mS
@[simp] theorem qwj : ∀ x0 x1 x2 x3, Mute P (Go.loadCellsFrom x0 x1 x2 x3) := by
 intro x0 x1 x2 x3
 induction x2 generalizing x0 x1 x3 with
 | zero =>
  unfold Go.loadCellsFrom
  exact mS
 | succ n ih =>
  unfold Go.loadCellsFrom
  exact mS
@[simp] theorem qzo (x0 x1) : Mute P (Go.loadCells x0 x1) := by unfold Go.loadCells; exact mS
@[simp] theorem qyh : ∀ x0 x1 x2, Mute P (Go.storeCells x0 x1 x2) := by
 intro x0 x1 x2
 induction x1 generalizing x0 x2 with
 | nil =>
  unfold Go.storeCells
  exact mS
 | cons a l ih =>
  unfold Go.storeCells
  exact mS
@[simp] theorem qsi (x0 x1) : Mute P (Go.loadVar x0 x1) := by unfold Go.loadVar; exact mS
@[simp] theorem qzw (x0 x1 x2) : Mute P (Go.storeVar x0 x1 x2) := by unfold Go.storeVar; exact mS
@[simp] theorem qcn (x0 x1) : Mute P (Go.newRow x0 x1) := by unfold Go.newRow; exact mS
@[simp] theorem qut (x0 x1) : Mute P (Go.newVar x0 x1) := by unfold Go.newVar; exact mS
@[simp] theorem qb5 (x0) : Mute P (Go.elemOf x0) := by unfold Go.elemOf; exact mS
@[simp] theorem q0i (x0 x1 x2) : Mute P (Go.part x0 x1 x2) := by unfold Go.part; exact mS
@[simp] theorem qx6 {α : Type} : ∀ x0, Mute P (Go.panicString (α := α) x0) := by
 intro x0
 unfold Go.panicString
 exact mS
@[simp] theorem qa1 {α : Type} : ∀ x0, Mute P (Go.runtimePanic (α := α) x0) := by
 intro x0
 unfold Go.runtimePanic
 exact mS
@[simp] theorem qx7 {α : Type} : ∀ x0 x1 x2 x3, Mute P (Go.boundsPanic (α := α) x0 x1 x2 x3) := by
 intro x0 x1 x2 x3
 unfold Go.boundsPanic
 exact mS
@[simp] theorem qz5 (x0) : Mute P (Go.asIntOf x0) := by unfold Go.asIntOf; exact mS
@[simp] theorem qc5 (x0) : Mute P (Go.asInt x0) := by unfold Go.asInt; exact mS
@[simp] theorem quu (x0) : Mute P (Go.asBool x0) := by unfold Go.asBool; exact mS
@[simp] theorem qzx (x0) : Mute P (Go.asString x0) := by unfold Go.asString; exact mS
@[simp] theorem q0g (x0) : Mute P (Go.asAgg x0) := by unfold Go.asAgg; exact mS
@[simp] theorem quv (x0) : Mute P (Go.asAddr x0) := by unfold Go.asAddr; exact mS
@[simp] theorem qz9 (x0) : Mute P (Go.byteOf x0) := by unfold Go.byteOf; exact mS
@[simp] theorem q0a (x0 x1 x2) : Mute P (Go.partAt x0 x1 x2) := by unfold Go.partAt; exact mS
@[simp] theorem qyi (x0 x1) : Mute P (Go.fieldPlace x0 x1) := by unfold Go.fieldPlace; exact mS
@[simp] theorem qbj (x0 x1 x2) : Mute P (Go.variablesAt x0 x1 x2) := by unfold Go.variablesAt; exact mS
@[simp] theorem quw (x0 x1 x2) : Mute P (Go.intVariablesAt x0 x1 x2) := by unfold Go.intVariablesAt; exact mS
@[simp] theorem qun (x0 x1) : Mute P (Go.byteVariablesAt x0 x1) := by unfold Go.byteVariablesAt; exact mS
@[simp] theorem qbm : ∀ x0 x1 x2, Mute P (Go.loadBytes x0 x1 x2) := by
 intro x0 x1 x2
 induction x2 generalizing x0 x1 with
 | zero =>
  unfold Go.loadBytes
  exact mS
 | succ n ih =>
  unfold Go.loadBytes
  exact mS
@[simp] theorem qyj (x0 x1) : Mute P (Go.storeBytes x0 x1) := by unfold Go.storeBytes; exact mS
@[simp] theorem qmg : ∀ x0 x1 x2, Mute P (Go.Builtin.ssaWrapNilChk_ x0 x1 x2) := by
 intro x0 x1 x2
 unfold Go.Builtin.ssaWrapNilChk_
 obtain ⟨l⟩ := x2
 rcases l with _ | ⟨a0, _ | ⟨a1, _ | ⟨a2, _ | ⟨a3, l⟩⟩⟩⟩
 ·exact qae _
 ·exact qae _
 ·exact qae _
 ·cases a1 <;> first | exact qae _ | (cases a2 <;> first | exact qae _ | (cases a0 <;> first | exact qae _ | (rename_i c; cases c <;> (repeat' (first | exact qae _ | exact qaq _ | exact Mute.pure _ | exact Mute.pure' _ | exact qa1 _ | exact qc5 _ | exact qcj _ | exact qck _ _ | exact qcl _ | exact qc4 _ | exact qbf | exact qb5 _ | exact qbo _ | exact qa7 _ | exact qcm _ | exact qbj _ _ _ | exact qch _ | exact qcn _ _ | exact qa4 _ | exact qci _ _ | exact qbm _ _ _ | exact qbk _ | (refine Mute.bind ?_ ?_) | (refine Mute.map ?_) | (refine m_ite ?_ ?_) | intro _ | split | dsimp only)))))
 ·exact qae _
@[simp] theorem qzp (x0 x1) : Mute P (Go.Place.get x0 x1) := by unfold Go.Place.get; exact mS
@[simp] theorem q0b : ∀ x0 x1 x2, Mute P (Go.follow x0 x1 x2) := by
 intro x0 x1 x2
 induction x0 generalizing x1 x2 with
 | nil =>
  unfold Go.follow
  exact mS
 | cons a l ih =>
  unfold Go.follow
  exact mS
@[simp] theorem qyk (x0 x1 x2 x3) : Mute P (Go.receiverAt x0 x1 x2 x3) := by unfold Go.receiverAt; exact mS
@[simp] theorem qls (x0 x1 x2 x3) : Mute P (Go.receiverVia x0 x1 x2 x3) := by unfold Go.receiverVia; exact mS
@[simp] theorem qux : ∀ x0 x1 x2 x3, Mute P (Go.method x0 x1 x2 x3) := by
 intro x0 x1 x2 x3
 induction x0 generalizing x1 x2 x3 with
 | zero =>
  unfold Go.method
  exact mS
 | succ n ih =>
  unfold Go.method
  exact mS
@[simp] theorem qsj (x0 x1) : Mute P (Go.Deferred.ofValue x0 x1) := by unfold Go.Deferred.ofValue; exact mS
@[simp] theorem qlt (x0 x1 x2) : Mute P (Go.Instr.index x0 x1 x2) := by unfold Go.Instr.index; exact mS
@[simp] theorem qjg (x0 x1) : Mute P (Go.Instr.extract x0 x1) := by unfold Go.Instr.extract; exact mS
@[simp] theorem qsk (x0 x1 x2) : Mute P (Go.Instr.sliceBound x0 x1 x2) := by unfold Go.Instr.sliceBound; exact mS
@[simp] theorem qsf (x0 x1 x2 x3 x4 x5) : Mute P (Go.Instr.sliceBounds x0 x1 x2 x3 x4 x5) := by unfold Go.Instr.sliceBounds; exact mS
@[simp] theorem qx8 (x0 x1 x2 x3 x4) : Mute P (Go.Instr.slice x0 x1 x2 x3 x4) := by unfold Go.Instr.slice; exact mS
@[simp] theorem qp5 (x0) : Mute P (Go.Conv.bytesToString x0) := by unfold Go.Conv.bytesToString; exact mS
@[simp] theorem qsg (x0 x1 x2) : Mute P (Go.Conv.floatToFloat x0 x1 x2) := by unfold Go.Conv.floatToFloat; exact mS
@[simp] theorem qn0 (x0 x1 x2 x3) : Mute P (Go.Conv.complexToComplex x0 x1 x2 x3) := by unfold Go.Conv.complexToComplex; exact mS
@[simp] theorem quo (x0 x1 x2) : Mute P (Go.Conv.floatToInt x0 x1 x2) := by unfold Go.Conv.floatToInt; exact mS
@[simp] theorem qup (x0 x1) : Mute P (Go.Conv.intToFloat x0 x1) := by unfold Go.Conv.intToFloat; exact mS
@[simp] theorem qwk (x0 x1) : Mute P (Go.Conv.intToInt x0 x1) := by unfold Go.Conv.intToInt; exact mS
@[simp] theorem qsl (x0) : Mute P (Go.Conv.intToString x0) := by unfold Go.Conv.intToString; exact mS
@[simp] theorem qp6 (x0) : Mute P (Go.Conv.runesToString x0) := by unfold Go.Conv.runesToString; exact mS
@[simp] theorem qp7 (x0 x1) : Mute P (Go.Conv.stringToBytes x0 x1) := by unfold Go.Conv.stringToBytes; exact mS
@[simp] theorem qp8 (x0 x1) : Mute P (Go.Conv.stringToRunes x0 x1) := by unfold Go.Conv.stringToRunes; exact mS
@[simp] theorem qlu (x0) : Mute P (Go.Instr.waits x0) := by unfold Go.Instr.waits; exact mS
@[simp] theorem qp9 (x0 x1 x2) : Mute P (Go.Conv.unsafePointer x0 x1 x2) := by unfold Go.Conv.unsafePointer; exact mS
@[simp] theorem qx9 (x0) : Mute P (Go.Conv.seenAt x0) := by unfold Go.Conv.seenAt; exact mS
@[simp] theorem qwp (x0 x1) : Mute P (Go.Op.twoPlaces x0 x1) := by unfold Go.Op.twoPlaces; exact mS
@[simp] theorem qyl (x0 x1 x2) : Mute P (Go.Op.addrSub x0 x1 x2) := by unfold Go.Op.addrSub; exact mS
@[simp] theorem qym (x0 x1 x2) : Mute P (Go.Op.addrCmp x0 x1 x2) := by unfold Go.Op.addrCmp; exact mS
@[simp] theorem qyn (x0 x1 x2) : Mute P (Go.Op.addrMod x0 x1 x2) := by unfold Go.Op.addrMod; exact mS
@[simp] theorem qwl (x0 x1 x2 x3) : Mute P (Go.Op.floatArith x0 x1 x2 x3) := by unfold Go.Op.floatArith; exact mS
@[simp] theorem qn1 (x0 x1 x2 x3 x4) : Mute P (Go.Op.Complex.corrected x0 x1 x2 x3 x4) := by unfold Go.Op.Complex.corrected; exact mS
@[simp] theorem qya (x0 x1 x2 x3) : Mute P (Go.Op.floatCmp x0 x1 x2 x3) := by unfold Go.Op.floatCmp; exact mS
@[simp] theorem quy (x0 x1 x2 x3) : Mute P (Go.Op.Complex.cmp x0 x1 x2 x3) := by unfold Go.Op.Complex.cmp; exact mS
@[simp] theorem qo6 (x0 x1 x2 x3) : Mute P (Go.Op.Complex.quotient x0 x1 x2 x3) := by unfold Go.Op.Complex.quotient; exact mS
@[simp] theorem qqa (x0 x1 x2 x3) : Mute P (Go.Op.Complex.product x0 x1 x2 x3) := by unfold Go.Op.Complex.product; exact mS
@[simp] theorem quq (x0 x1 x2) : Mute P (Go.Op.Complex.conv x0 x1 x2) := by unfold Go.Op.Complex.conv; exact mS
@[simp] theorem qwq (x0 x1 x2 x3 x4 x5) : Mute P (Go.Op.complexOp x0 x1 x2 x3 x4 x5) := by unfold Go.Op.complexOp; exact mS
@[simp] theorem qsm (x0 x1 x2 x3) : Mute P (Go.Op.Complex.arith x0 x1 x2 x3) := by unfold Go.Op.Complex.arith; exact mS
@[simp] theorem qyo : ∀ x0 x1 x2 x3, Mute P (Go.Op.equalIn x0 x1 x2 x3) := by
 intro x0 x1 x2 x3
 induction x0 generalizing x1 x2 x3 with
 | zero =>
  unfold Go.Op.equalIn
  exact mS
 | succ n ih =>
  unfold Go.Op.equalIn
  exact mS
@[simp] theorem qzy (x0 x1 x2) : Mute P (Go.Op.equal x0 x1 x2) := by unfold Go.Op.equal; exact mS
@[simp] theorem qwr : ∀ x0 x1 x2 x3, Mute P (Go.Op.eqGuardIn x0 x1 x2 x3) := by
 intro x0 x1 x2 x3
 induction x0 generalizing x1 x2 x3 with
 | zero =>
  unfold Go.Op.eqGuardIn
  exact mS
 | succ n ih =>
  unfold Go.Op.eqGuardIn
  exact mS
@[simp] theorem qyb (x0 x1 x2 x3) : Mute P (Go.Op.intArith x0 x1 x2 x3) := by unfold Go.Op.intArith; exact mS
@[simp] theorem qyp (x0 x1 x2 x3) : Mute P (Go.Op.intBits x0 x1 x2 x3) := by unfold Go.Op.intBits; exact mS
@[simp] theorem qzq (x0 x1 x2) : Mute P (Go.Op.intCmp x0 x1 x2) := by unfold Go.Op.intCmp; exact mS
@[simp] theorem qzr (x0 x1 x2 x3) : Mute P (Go.Op.intDiv x0 x1 x2 x3) := by unfold Go.Op.intDiv; exact mS
@[simp] theorem qzz (x0 x1 x2 x3 x4) : Mute P (Go.Op.shift x0 x1 x2 x3 x4) := by unfold Go.Op.shift; exact mS
@[simp] theorem qyc (x0 x1 x2) : Mute P (Go.Op.stringOp x0 x1 x2) := by unfold Go.Op.stringOp; exact mS
@[simp] theorem qqb (x0 x1) : Mute P (Go.Op.unary x0 x1) := by unfold Go.Op.unary; exact mS
@[simp] theorem qqc (x0 x1) : Mute P (Go.Builtin.holdsCells x0 x1) := by unfold Go.Builtin.holdsCells; exact mS
@[simp] theorem qsn (x0 x1 x2 x3 x4) : Mute P (Go.Builtin.mayShare x0 x1 x2 x3 x4) := by unfold Go.Builtin.mayShare; exact mS
@[simp] theorem qwm (x0) : Mute P (Go.Builtin.lenOf x0) := by unfold Go.Builtin.lenOf; exact mS
@[simp] theorem qqd (x0 x1 x2) : Mute P (Go.Builtin.firstCells x0 x1 x2) := by unfold Go.Builtin.firstCells; exact mS
@[simp] theorem qlv (x0 x1) : Mute P (Go.Instr.range x0 x1) := by unfold Go.Instr.range; exact mS
@[simp] theorem qic (x0 x1 x2) : Mute P (Go.Builtin.append_ x0 x1 x2) := by unfold Go.Builtin.append_; exact mS
@[simp] theorem qkk (x0 x1 x2) : Mute P (Go.Builtin.cap_ x0 x1 x2) := by unfold Go.Builtin.cap_; exact mS
@[simp] theorem qiw (x0 x1 x2) : Mute P (Go.Builtin.clear_ x0 x1 x2) := by unfold Go.Builtin.clear_; exact mS
@[simp] theorem qix : ∀ x0 x1 x2, Mute P (Go.Builtin.close_ x0 x1 x2) := by
 intro x0 x1 x2
 unfold Go.Builtin.close_
 obtain ⟨l⟩ := x2
 rcases l with _ | ⟨a0, _ | ⟨a1, l⟩⟩
 ·exact qae _
 ·cases a0 <;> first | exact qae _ | (rename_i c; cases c <;> (repeat' (first | exact qae _ | exact qaq _ | exact Mute.pure _ | exact Mute.pure' _ | exact qa1 _ | exact qc5 _ | exact qcj _ | exact qck _ _ | exact qcl _ | exact qc4 _ | exact qbf | exact qb5 _ | exact qbo _ | exact qa7 _ | exact qcm _ | exact qbj _ _ _ | exact qch _ | exact qcn _ _ | exact qa4 _ | exact qci _ _ | exact qbm _ _ _ | exact qbk _ | (refine Mute.bind ?_ ?_) | (refine Mute.map ?_) | (refine m_ite ?_ ?_) | intro _ | split | dsimp only)))
 ·exact qae _
@[simp] theorem qg7 : ∀ x0 x1 x2, Mute P (Go.Builtin.complex_ x0 x1 x2) := by
 intro x0 x1 x2
 unfold Go.Builtin.complex_
 obtain ⟨l⟩ := x2
 rcases l with _ | ⟨a0, _ | ⟨a1, _ | ⟨a2, l⟩⟩⟩
 ·exact qae _
 ·cases a0 <;> exact qae _
 ·cases a0 <;> first | exact qae _ | (cases a1 <;> first | exact qae _ | (repeat' (first | exact qae _ | exact qaq _ | exact Mute.pure _ | exact Mute.pure' _ | exact qa1 _ | exact qc5 _ | exact qcj _ | exact qck _ _ | exact qcl _ | exact qc4 _ | exact qbf | exact qb5 _ | exact qbo _ | exact qa7 _ | exact qcm _ | exact qbj _ _ _ | exact qch _ | exact qcn _ _ | exact qa4 _ | exact qci _ _ | exact qbm _ _ _ | exact qbk _ | (refine Mute.bind ?_ ?_) | (refine Mute.map ?_) | (refine m_ite ?_ ?_) | intro _ | split | dsimp only)))
 ·cases a0 <;> exact qae _
@[simp] theorem qjh (x0 x1 x2) : Mute P (Go.Builtin.copy_ x0 x1 x2) := by unfold Go.Builtin.copy_; exact mS
@[simp] theorem qso : ∀ x0 x1 x2 x3, Mute P (Go.Instr.findAsking x0 x1 x2 x3) := by
 intro x0 x1 x2 x3
 induction x2 generalizing x0 x1 x3 with
 | nil =>
  unfold Go.Instr.findAsking
  exact mS
 | cons a l ih =>
  unfold Go.Instr.findAsking
  exact mS
@[simp] theorem qwn (x0 x1 x2) : Mute P (Go.Instr.findKey x0 x1 x2) := by unfold Go.Instr.findKey; exact mS
@[simp] theorem quz : ∀ x0 x1 x2 x3, Mute P (Go.Instr.checkKey x0 x1 x2 x3) := by
 intro x0 x1 x2 x3
 induction x1 generalizing x0 x2 x3 with
 | zero =>
  unfold Go.Instr.checkKey
  exact mS
 | succ n ih =>
  unfold Go.Instr.checkKey
  exact mS
@[simp] theorem qid (x0 x1 x2) : Mute P (Go.Builtin.delete_ x0 x1 x2) := by unfold Go.Builtin.delete_; exact mS
@[simp] theorem qji : ∀ x0 x1 x2, Mute P (Go.Builtin.imag_ x0 x1 x2) := by
 intro x0 x1 x2
 unfold Go.Builtin.imag_
 obtain ⟨l⟩ := x2
 rcases l with _ | ⟨a0, _ | ⟨a1, l⟩⟩
 ·exact qae _
 ·cases a0 <;> first | exact qae _ | (repeat' (first | exact qae _ | exact qaq _ | exact Mute.pure _ | exact Mute.pure' _ | exact qa1 _ | exact qc5 _ | exact qcj _ | exact qck _ _ | exact qcl _ | exact qc4 _ | exact qbf | exact qb5 _ | exact qbo _ | exact qa7 _ | exact qcm _ | exact qbj _ _ _ | exact qch _ | exact qcn _ _ | exact qa4 _ | exact qci _ _ | exact qbm _ _ _ | exact qbk _ | (refine Mute.bind ?_ ?_) | (refine Mute.map ?_) | (refine m_ite ?_ ?_) | intro _ | split | dsimp only))
 ·exact qae _
@[simp] theorem qkl (x0 x1 x2) : Mute P (Go.Builtin.len_ x0 x1 x2) := by unfold Go.Builtin.len_; exact mS
@[simp] theorem qws (x0 x1) : Mute P (Go.Builtin.max2 x0 x1) := by unfold Go.Builtin.max2; exact mS
@[simp] theorem qkm (x0 x1 x2) : Mute P (Go.Builtin.max_ x0 x1 x2) := by unfold Go.Builtin.max_; exact mS
@[simp] theorem qwt (x0 x1) : Mute P (Go.Builtin.min2 x0 x1) := by unfold Go.Builtin.min2; exact mS
@[simp] theorem qkn (x0 x1 x2) : Mute P (Go.Builtin.min_ x0 x1 x2) := by unfold Go.Builtin.min_; exact mS
@[simp] theorem qg8 (x0 x1) : Mute P (Go.Builtin.printOne x0 x1) := by unfold Go.Builtin.printOne; exact mS
@[simp] theorem qjj : ∀ x0 x1 x2, Mute P (Go.Builtin.real_ x0 x1 x2) := by
 intro x0 x1 x2
 unfold Go.Builtin.real_
 obtain ⟨l⟩ := x2
 rcases l with _ | ⟨a0, _ | ⟨a1, l⟩⟩
 ·exact qae _
 ·cases a0 <;> first | exact qae _ | (repeat' (first | exact qae _ | exact qaq _ | exact Mute.pure _ | exact Mute.pure' _ | exact qa1 _ | exact qc5 _ | exact qcj _ | exact qck _ _ | exact qcl _ | exact qc4 _ | exact qbf | exact qb5 _ | exact qbo _ | exact qa7 _ | exact qcm _ | exact qbj _ _ _ | exact qch _ | exact qcn _ _ | exact qa4 _ | exact qci _ _ | exact qbm _ _ _ | exact qbk _ | (refine Mute.bind ?_ ?_) | (refine Mute.map ?_) | (refine m_ite ?_ ?_) | intro _ | split | dsimp only))
 ·exact qae _
@[simp] theorem qgb : ∀ x0 x1 x2, Mute P (Go.Builtin.unsafeAdd_ x0 x1 x2) := by
 intro x0 x1 x2
 unfold Go.Builtin.unsafeAdd_
 obtain ⟨l⟩ := x2
 rcases l with _ | ⟨a0, _ | ⟨a1, _ | ⟨a2, l⟩⟩⟩
 ·exact qae _
 ·cases a0 <;> exact qae _
 ·cases a0 <;> first | exact qae _ | (repeat' (first | exact qae _ | exact qaq _ | exact Mute.pure _ | exact Mute.pure' _ | exact qa1 _ | exact qc5 _ | exact qcj _ | exact qck _ _ | exact qcl _ | exact qc4 _ | exact qbf | exact qb5 _ | exact qbo _ | exact qa7 _ | exact qcm _ | exact qbj _ _ _ | exact qch _ | exact qcn _ _ | exact qa4 _ | exact qci _ _ | exact qbm _ _ _ | exact qbk _ | (refine Mute.bind ?_ ?_) | (refine Mute.map ?_) | (refine m_ite ?_ ?_) | intro _ | split | dsimp only))
 ·cases a0 <;> exact qae _
@[simp] theorem qfl : ∀ x0 x1 x2, Mute P (Go.Builtin.unsafeSlice_ x0 x1 x2) := by
 intro x0 x1 x2
 unfold Go.Builtin.unsafeSlice_
 obtain ⟨l⟩ := x2
 rcases l with _ | ⟨a0, _ | ⟨a1, _ | ⟨a2, l⟩⟩⟩
 ·exact qae _
 ·cases a0 <;> exact qae _
 ·cases a0 <;> first | exact qae _ | (repeat' (first | exact qae _ | exact qaq _ | exact Mute.pure _ | exact Mute.pure' _ | exact qa1 _ | exact qc5 _ | exact qcj _ | exact qck _ _ | exact qcl _ | exact qc4 _ | exact qbf | exact qb5 _ | exact qbo _ | exact qa7 _ | exact qcm _ | exact qbj _ _ _ | exact qch _ | exact qcn _ _ | exact qa4 _ | exact qci _ _ | exact qbm _ _ _ | exact qbk _ | (refine Mute.bind ?_ ?_) | (refine Mute.map ?_) | (refine m_ite ?_ ?_) | intro _ | split | dsimp only))
 ·cases a0 <;> exact qae _
@[simp] theorem qeh : ∀ x0 x1 x2, Mute P (Go.Builtin.unsafeSliceData_ x0 x1 x2) := by
 intro x0 x1 x2
 unfold Go.Builtin.unsafeSliceData_
 obtain ⟨l⟩ := x2
 rcases l with _ | ⟨a0, _ | ⟨a1, l⟩⟩
 ·exact qae _
 ·cases a0 <;> first | exact qae _ | (rename_i b _ _; cases b <;> (repeat' (first | exact qae _ | exact qaq _ | exact Mute.pure _ | exact Mute.pure' _ | exact qa1 _ | exact qc5 _ | exact qcj _ | exact qck _ _ | exact qcl _ | exact qc4 _ | exact qbf | exact qb5 _ | exact qbo _ | exact qa7 _ | exact qcm _ | exact qbj _ _ _ | exact qch _ | exact qcn _ _ | exact qa4 _ | exact qci _ _ | exact qbm _ _ _ | exact qbk _ | (refine Mute.bind ?_ ?_) | (refine Mute.map ?_) | (refine m_ite ?_ ?_) | intro _ | split | dsimp only)))
 ·exact qae _
@[simp] theorem qe9 : ∀ x0 x1 x2, Mute P (Go.Builtin.unsafeString_ x0 x1 x2) := by
 intro x0 x1 x2
 unfold Go.Builtin.unsafeString_
 obtain ⟨l⟩ := x2
 rcases l with _ | ⟨a0, _ | ⟨a1, _ | ⟨a2, l⟩⟩⟩
 ·exact qae _
 ·cases a0 <;> exact qae _
 ·cases a0 <;> first | exact qae _ | (repeat' (first | exact qae _ | exact qaq _ | exact Mute.pure _ | exact Mute.pure' _ | exact qa1 _ | exact qc5 _ | exact qcj _ | exact qck _ _ | exact qcl _ | exact qc4 _ | exact qbf | exact qb5 _ | exact qbo _ | exact qa7 _ | exact qcm _ | exact qbj _ _ _ | exact qch _ | exact qcn _ _ | exact qa4 _ | exact qci _ _ | exact qbm _ _ _ | exact qbk _ | (refine Mute.bind ?_ ?_) | (refine Mute.map ?_) | (refine m_ite ?_ ?_) | intro _ | split | dsimp only))
 ·cases a0 <;> exact qae _
@[simp] theorem qd8 : ∀ x0 x1 x2, Mute P (Go.Builtin.unsafeStringData_ x0 x1 x2) := by
 intro x0 x1 x2
 unfold Go.Builtin.unsafeStringData_
 obtain ⟨l⟩ := x2
 rcases l with _ | ⟨a0, _ | ⟨a1, l⟩⟩
 ·exact qae _
 ·cases a0 <;> first | exact qae _ | (repeat' (first | exact qae _ | exact qaq _ | exact Mute.pure _ | exact Mute.pure' _ | exact qa1 _ | exact qc5 _ | exact qcj _ | exact qck _ _ | exact qcl _ | exact qc4 _ | exact qbf | exact qb5 _ | exact qbo _ | exact qa7 _ | exact qcm _ | exact qbj _ _ _ | exact qch _ | exact qcn _ _ | exact qa4 _ | exact qci _ _ | exact qbm _ _ _ | exact qbk _ | (refine Mute.bind ?_ ?_) | (refine Mute.map ?_) | (refine m_ite ?_ ?_) | intro _ | split | dsimp only))
 ·exact qae _
@[simp] theorem qu0 (x0) : Mute P (Go.Instr.sureAddr x0) := by unfold Go.Instr.sureAddr; exact mS
@[simp] theorem qko (x0 x1) : Mute P (Go.Instr.loadAt x0 x1) := by unfold Go.Instr.loadAt; exact mS
@[simp] theorem qjk (x0 x1 x2) : Mute P (Go.Instr.storeAt x0 x1 x2) := by unfold Go.Instr.storeAt; exact mS
@[simp] theorem qlw (x0 x1 x2) : Mute P (Go.Instr.field x0 x1 x2) := by unfold Go.Instr.field; exact mS
@[simp] theorem qjl (x0 x1 x2) : Mute P (Go.Instr.fieldAt x0 x1 x2) := by unfold Go.Instr.fieldAt; exact mS
@[simp] theorem qjm (x0 x1 x2) : Mute P (Go.Instr.indexAt x0 x1 x2) := by unfold Go.Instr.indexAt; exact mS
@[simp] theorem qjn (x0 x1 x2 x3 x4) : Mute P (Go.Instr.sliceAt x0 x1 x2 x3 x4) := by unfold Go.Instr.sliceAt; exact mS
@[simp] theorem qsp (x0 x1 x2) : Mute P (Go.convert x0 x1 x2) := by unfold Go.convert; exact mS
@[simp] theorem qjo (x0 x1) : Mute P (Go.Instr.arrayAt x0 x1) := by unfold Go.Instr.arrayAt; exact mS
@[simp] theorem qlx (x0 x1 x2) : Mute P (Go.Instr.alloc x0 x1 x2) := by unfold Go.Instr.alloc; exact mS
@[simp] theorem qn2 (x0 x1) : Mute P (Go.Instr.box x0 x1) := by unfold Go.Instr.box; exact mS
@[simp] theorem qly (x0 x1) : Mute P (Go.Instr.build x0 x1) := by unfold Go.Instr.build; exact mS
@[simp] theorem qg9 (x0 x1 x2) : Mute P (Go.Instr.buildSlice x0 x1 x2) := by unfold Go.Instr.buildSlice; exact mS
@[simp] theorem qlz (x0) : Mute P (Go.Instr.entry x0) := by unfold Go.Instr.entry; exact mS
@[simp] theorem qkp (x0 x1 x2 x3) : Mute P (Go.Instr.lookup x0 x1 x2 x3) := by unfold Go.Instr.lookup; exact mS
@[simp] theorem qiy (x0 x1) : Mute P (Go.Instr.makeChan x0 x1) := by unfold Go.Instr.makeChan; exact mS
@[simp] theorem qiz (x0 x1 x2) : Mute P (Go.Instr.makeFunc x0 x1 x2) := by unfold Go.Instr.makeFunc; exact mS
@[simp] theorem qfw (x0 x1) : Mute P (Go.Instr.makeInterface x0 x1) := by unfold Go.Instr.makeInterface; exact mS
@[simp] theorem qjp (x0 x1) : Mute P (Go.Instr.makeMap x0 x1) := by unfold Go.Instr.makeMap; exact mS
@[simp] theorem qie (x0 x1 x2) : Mute P (Go.Instr.makeSlice x0 x1 x2) := by unfold Go.Instr.makeSlice; exact mS
@[simp] theorem qqe (x0 x1) : Mute P (Go.Instr.keyThatStays x0 x1) := by unfold Go.Instr.keyThatStays; exact mS
@[simp] theorem qi0 (x0 x1 x2) : Mute P (Go.Instr.mapEntry x0 x1 x2) := by unfold Go.Instr.mapEntry; exact mS
@[simp] theorem qha (x0 x1 x2 x3) : Mute P (Go.Instr.entryStore x0 x1 x2 x3) := by unfold Go.Instr.entryStore; exact mS
@[simp] theorem qej (x0 x1 x2 x3) : Mute P (Go.Instr.mapUpdate x0 x1 x2 x3) := by unfold Go.Instr.mapUpdate; exact mS
@[simp] theorem qyd : ∀ x0 x1 x2, Mute P (Go.followBlind x0 x1 x2) := by
 intro x0 x1 x2
 induction x0 generalizing x1 x2 with
 | nil =>
  unfold Go.followBlind
  exact mS
 | cons a l ih =>
  unfold Go.followBlind
  exact mS
@[simp] theorem qqf : ∀ x0 x1 x2 x3, Mute P (Go.nilAhead x0 x1 x2 x3) := by
 intro x0 x1 x2 x3
 induction x0 generalizing x1 x2 x3 with
 | zero =>
  unfold Go.nilAhead
  exact mS
 | succ n ih =>
  unfold Go.nilAhead
  exact mS
@[simp] theorem qmh (x0 x1 x2) : Mute P (Go.Instr.next x0 x1 x2) := by unfold Go.Instr.next; exact mS
@[simp] theorem qu1 : Mute P Go.Instr.panicnil := by
 unfold Go.Instr.panicnil
 refine qur _ ⟨_, rfl, rfl⟩ fun r => ?_
 repeat' (first | exact Mute.pure _ | exact qae _ | exact qbf | (refine Mute.bind ?_ ?_) | intro _ | split | dsimp only)
@[simp] theorem qgz (x0) : Mute P (Go.Instr.panic x0) := by unfold Go.Instr.panic; exact mS
@[simp] theorem qjq (x0) : Mute P (Go.Instr.getLoop x0) := by unfold Go.Instr.getLoop; exact mS
@[simp] theorem ql0 (x0) : Mute P (Go.Instr.ready x0) := by unfold Go.Instr.ready; exact mS
@[simp] theorem qif (x0 x1 x2 x3 x4 x5) : Mute P (Go.Instr.enterLoop x0 x1 x2 x3 x4 x5) := by unfold Go.Instr.enterLoop; exact mS
@[simp] theorem qhb (x0) : Mute P (Go.Instr.beginRound x0) := by unfold Go.Instr.beginRound; exact mS
@[simp] theorem qi1 (x0 x1) : Mute P (Go.Instr.endRound x0 x1) := by unfold Go.Instr.endRound; exact mS
@[simp] theorem qjr (x0) : Mute P (Go.Instr.endLoop x0) := by unfold Go.Instr.endLoop; exact mS
@[simp] theorem qgc (x0 x1) : Mute P (Go.Instr.deferInRound x0 x1) := by unfold Go.Instr.deferInRound; exact mS
@[simp] theorem qgd (x0) : Mute P (Go.Instr.takeDeferred x0) := by unfold Go.Instr.takeDeferred; exact mS
@[simp] theorem qhc (x0 x1 x2 x3) : Mute P (Go.Instr.typeAssert x0 x1 x2 x3) := by unfold Go.Instr.typeAssert; exact mS
@[simp] theorem qye (x0 x1 x2) : Mute P (Go.movedNumber x0 x1 x2) := by unfold Go.movedNumber; exact mS
@[simp] theorem qwu (x0 x1 x2) : Mute P (Go.movedPointer x0 x1 x2) := by unfold Go.movedPointer; exact mS
@[simp] theorem qsq (x0 x1 x2 x3 x4 x5) : Mute P (Go.eqGuard x0 x1 x2 x3 x4 x5) := by unfold Go.eqGuard; exact mS
@[simp] theorem qwv (x0 x1 x2 x3) : Mute P (Go.binOp x0 x1 x2 x3) := by unfold Go.binOp; exact mS
@[simp] theorem qd9 (x0 x1 x2) : Mute P (Go.resolve x0 x1 x2) := by unfold Go.resolve; exact mS
end
end Go.Ride

namespace Go.Ride
def good : Next → Prop
 | .value _ | .skip | .enter _ _ | .round _ _ _ _ _ | .defer _ | .recover | .comm _ _ _ | .spawn _ => True
 | .row r _ => r = "runtime.print$piece"
 | .coroswitch _ true => True
 | _ => False
def Fine (P : Program) (s : Sem Next) : Prop := tame P s 0 fun n k => k = 0 ∧ good n
structure Mild (P : Program) : Prop where
 count : ∀ (f : Nat) (fn : Func), P.funcs[f]? = some fn → fn.name ≠ "runtime.NumGoroutine"
 rows : ∀ (f : Nat) (fn : Func), P.funcs[f]? = some fn → fn.body = none → Extern.findNext fn = none ∧ ∀ e, Extern.find fn = some e → ∀ args, Mute P (e args)
section
variable {P : Program}
theorem Fine.value {s : Sem Value} (h : Mute P s) : Fine P (do pure (.value (← s))) := qey h fun a => ⟨rfl, trivial⟩
theorem Fine.skip {s : Sem Unit} (h : Mute P s) : Fine P (do s; pure .skip) := qey h fun a => ⟨rfl, trivial⟩
theorem Fine.halt {h : Halt} (h1 : h ≠ .waiting) (h2 : h ≠ .goexit) : Fine P (.halt h) := ⟨h1, h2, .inl rfl⟩
theorem Fine.stuck (x) : Fine P (Go.stuck x) := Fine.halt (by simp) (by simp)
theorem Fine.unsupported (x) : Fine P (Go.unsupported x) := Fine.halt (by simp) (by simp)
theorem Fine.ret {n : Next} (h : good n) : Fine P (pure n) := ⟨rfl, h⟩
theorem Fine.bind {α : Type} {s : Sem α} {f : α → Sem Next} (h : Mute P s) (hf : ∀ a, Fine P (f a)) : Fine P (s >>= f) := qey h hf
theorem Fine.runtimePanic (e) : Fine P (Go.runtimePanic e) := by
 unfold Go.runtimePanic
 refine Fine.bind qbf fun p => ?_
 cases e <;> first
  | exact Fine.halt (by simp) (by simp)
  | (dsimp only; refine Fine.bind (qb5 _) fun a => Fine.bind (qut _ _) fun b => Fine.halt (by simp) (by simp))
theorem qo7 (a b : Array TypeId) (args : Array Value) : Fine P (Extern.PrintPieces.piece a b args) := by
 unfold Extern.PrintPieces.piece
 split
 ·rename_i first h0
  split
  ·rename_i p h1
   dsimp only
   split
   ·exact Fine.halt (by simp) (by simp)
   ·have hrest : ∀ (fi : Bool), Fine P (do
      writeFd 2 p
      if (!(args.size == 2)) = true then pure (Next.row "runtime.print$piece" (#[Value.bool false] ++ args.extract 2))
      else do
       if (!fi) = true then
        mark Mark.disable
        let l ← program
        store (printLock l) (Value.bool false) Mode.atomic
        mark Mark.enable
       pure (Next.value (Value.tuple #[]))) := by
     intro fi
     refine ⟨⟨_, rfl, rfl⟩, fun r => ?_⟩
     have hgo : Fine P (do
      if (!(args.size == 2)) = true then pure (Next.row "runtime.print$piece" (#[Value.bool false] ++ args.extract 2))
      else do
       if (!fi) = true then
        mark Mark.disable
        let l ← program
        store (printLock l) (Value.bool false) Mode.atomic
        mark Mark.enable
       pure (Next.value (Value.tuple #[]))) := by
      split
      ·exact ⟨rfl, rfl⟩
      ·cases fi
       ·exact ⟨Nat.succ_pos _, rfl, trivial⟩
       ·exact ⟨rfl, trivial⟩
     cases r <;> first | exact hgo | exact ⟨by simp, by simp, .inl rfl⟩
    cases first
    ·exact hrest false
    · -- the first piece: the lock is looked at within a deaf stretch
     intro v
     cases v <;> first
      | exact ⟨by simp, by simp, .inr rfl⟩
      | skip
     rename_i x
     cases x
     ·by_cases hl : (args.size == 2) = true
      ·have := hrest true
       simp only [hl] at this ⊢
       exact ⟨Nat.succ_pos _, this⟩
      ·have hl' : (args.size == 2) = false := by simpa using hl
       have := hrest true
       simp only [hl'] at this ⊢
       exact ⟨Nat.succ_pos _, this⟩
     ·exact ⟨by simp, by simp, .inr rfl⟩
  ·exact Fine.stuck _
 ·exact Fine.stuck _
theorem qqg {α β : Type} (l : List α) (b : β) (f : (a : α) → a ∈ l → β → Sem (ForInStep β)) (h : ∀ a m b, Mute P (f a m b)) : Mute P (forIn' l b f) := by
 induction l generalizing b with
 | nil => exact Mute.pure b
 | cons a l ih =>
  rw [List.forIn'_cons]
  refine (h a _ b).bind fun x => ?_
  cases x with
  | done b => exact Mute.pure b
  | yield b => exact ih b _ fun a m b => h a _ b
theorem qn3 {β : Type} (l : Std.Legacy.Range) (b : β) (f : (a : Nat) → a ∈ l → β → Sem (ForInStep β)) (h : ∀ a m b, Mute P (f a m b)) : Mute P (forIn' l b f) := by
 rw [Std.Legacy.Range.forIn'_eq_forIn'_range']; exact qqg _ _ _ fun a m b => h a _ b
theorem qu2 (ln : Bool) (c : Array Bool) (ts : Array TypeId) (as : Array Value) : Mute P (Builtin.pieces ln c ts as) := by
 unfold Builtin.pieces
 repeat' (first | exact Mute.pure _ | exact qae _ | exact qg8 _ _ | (refine Mute.bind ?_ ?_) | (refine qn3 _ _ _ ?_) | (refine qjf _ _ _ ?_) | (refine m_ite ?_ ?_) | intro _ | split | dsimp only)
theorem ql1 (ln : Bool) (c : Array Bool) (ts : Array TypeId) (as : Array Value) : Fine P (Builtin.printMarked ln c ts as) := by
 unfold Builtin.printMarked
 refine Fine.bind (qu2 _ _ _ _) fun ps => ?_
 split
 ·exact Fine.ret trivial
 ·exact qo7 _ _ _
theorem qsr (b : Builtin) (ts : Array TypeId) (t : TypeId) (c : Array Bool) (as : Array Value) : Fine P (builtin b ts t c as) := by
 unfold builtin
 cases b <;> first
  | exact Fine.value (qic _ _ _) | exact Fine.value (qkk _ _ _) | exact Fine.value (qiw _ _ _) | exact Fine.value (qix _ _ _)
  | exact Fine.value (qg7 _ _ _) | exact Fine.value (qjh _ _ _) | exact Fine.value (qid _ _ _) | exact Fine.value (qji _ _ _)
  | exact Fine.value (qkl _ _ _) | exact Fine.value (qkm _ _ _) | exact Fine.value (qkn _ _ _) | exact Fine.value (qgz _)
  | exact ql1 _ _ _ _ | exact Fine.value (qjj _ _ _) | exact Fine.ret trivial | exact Fine.stuck _ | exact Fine.unsupported _
  | exact Fine.value (qgb _ _ _) | exact Fine.value (qfl _ _ _) | exact Fine.value (qeh _ _ _) | exact Fine.value (qe9 _ _ _) | exact Fine.value (qd8 _ _ _)
  | exact Fine.bind (qbo _) fun i => Fine.ret trivial
theorem qge (hM : Mild P) (f : FuncId) (as : Array Value) : Fine P (callFunc f as) := by
 unfold callFunc
 show Fine P (program >>= fun p => _)
 show Fine P _
 unfold Fine
 show tame P (match P.funcs[f]? with | none => stuck "call: no such function" | some fn => _) 0 _
 split
 ·exact Fine.stuck _
 ·rename_i fn hf
  have hn : (fn.name == "runtime.NumGoroutine") = false := by simpa using hM.count f fn hf
  rw [hn]
  simp only [Bool.false_eq_true, if_false]
  cases hb : fn.body with
  | some c => exact ⟨rfl, trivial⟩
  | none =>
   obtain ⟨h1, h2⟩ := hM.rows f fn hf hb
   simp only [Option.isNone_none, if_true, h1]
   show tame P (match Extern.find fn with | some e => _ | none => _) 0 _
   cases he : Extern.find fn with
   | some e => exact Fine.value (h2 e he as)
   | none =>
    dsimp only
    split
    ·exact ⟨rfl, trivial⟩
    ·exact Fine.unsupported _
theorem qhd (hM : Mild P) (r : Value) (n : String) (as : Array Value) : Fine P (callMethod r n as) := by
 unfold callMethod
 split
 ·refine Fine.bind qbf fun p => Fine.bind (qux _ _ _ _) fun x => qge hM _ _
 ·exact Fine.runtimePanic _
 ·exact Fine.stuck _
theorem qww (l : Nat) (as : Array Value) : Fine P (Instr.yield l as) := by
 unfold Instr.yield
 refine Fine.bind (qjq _) fun r => ?_
 dsimp only
 split
 ·exact Fine.bind (qae _) fun _ => Fine.ret trivial
 ·exact Fine.ret trivial
theorem qgf (hM : Mild P) (t : Target) (as : Array Value) : Fine P (invoke t as) := by
 unfold invoke
 split
 ·exact Fine.runtimePanic _
 ·exact qsr _ _ _ _ _
 ·exact qge hM _ _
 ·split
  ·exact qhd hM _ _ _
  ·exact Fine.stuck _
 ·split
  ·refine Fine.bind (s := underlying _) (qa7 _) fun d => ?_
   repeat' (first | exact qhd hM _ _ _ | (refine Fine.bind (Mute.pure _) fun _ => ?_) | split | dsimp only)
  ·exact Fine.stuck _
 ·split
  ·exact Fine.bind (qls _ _ _ _) fun r => qge hM _ _
  ·exact Fine.stuck _
 ·exact qww _ _
 ·exact Fine.stuck _
 ·exact Fine.ret trivial
theorem qu3 (hM : Mild P) (ρ : Operand → Value) (o : Oper) : Fine P (execOp ρ o) := by
 unfold execOp
 generalize o.op = op
 cases op <;> dsimp only
 case move => exact Fine.ret trivial
 case assign => exact Fine.ret trivial
 case pick => exact Fine.bind (quu _) fun b => by split <;> exact Fine.ret trivial
 case alloc => exact Fine.value (qlx _ _ _)
 case box => exact Fine.value (qn2 _ _)
 case build => exact Fine.value (qly _ _)
 case buildSlice => exact Fine.value (qg9 _ _ _)
 case insert => exact Fine.skip (qej _ _ _ _)
 case load => exact Fine.value (qko _ _)
 case store => exact Fine.skip (qjk _ _ _)
 case ready => exact Fine.skip (ql0 _)
 case waits => exact Fine.value (qlu _)
 case nilCheck =>
  repeat' (first | exact Fine.runtimePanic _ | exact Fine.ret trivial | exact Fine.unsupported _ | (refine Fine.bind qbf fun _ => ?_) | (refine Fine.bind (qqf _ _ _ _) fun _ => ?_) | (refine Fine.bind (qaq _) fun _ => ?_) | split | dsimp only)
 case binOp => exact Fine.value (Mute.bind (qsq _ _ _ _ _ _) fun _ => qwv _ _ _ _)
 case unOp => exact Fine.value (qqb _ _)
 case convert => exact Fine.value (qsp _ _ _)
 case sliceToArrayPointer => exact Fine.value (qjo _ _)
 case makeInterface => exact Fine.value (qfw _ _)
 case makeFunc => exact Fine.value (qiz _ _ _)
 case makeMap => exact Fine.value (qjp _ _)
 case makeChan => exact Fine.value (qiy _ _)
 case makeSlice => exact Fine.value (qie _ _ _)
 case slice => exact Fine.value (qjn _ _ _ _ _)
 case fieldAddr => exact Fine.value (qjl _ _ _)
 case field => exact Fine.value (qlw _ _ _)
 case indexAddr => exact Fine.value (qjm _ _ _)
 case index => exact Fine.value (qlt _ _ _)
 case lookup => exact Fine.value (qkp _ _ _ _)
 case mapUpdate => exact Fine.skip (qej _ _ _ _)
 case mapEntry => exact Fine.value (qi0 _ _ _)
 case entryStore => exact Fine.skip (qha _ _ _ _)
 case range => exact Fine.value (qlv _ _)
 case next => exact Fine.value (qmh _ _ _)
 case entry => exact Fine.value (qlz _)
 case typeAssert => exact Fine.value (qhc _ _ _ _)
 case extract => exact Fine.value (qjg _ _)
 case call => exact Fine.bind (qd9 _ _ _) fun d => qgf hM _ _
 case go => exact Fine.bind (qd9 _ _ _) fun d => Fine.ret trivial
 case defer => exact Fine.bind (qd9 _ _ _) fun d => Fine.ret trivial
 case panic => exact Fine.value (qgz _)
 case send => exact Fine.ret trivial
 case recv =>
  refine Fine.bind (s := underlying _) (qa7 _) fun d => ?_
  split
  ·exact Fine.bind (qih _) fun _ => Fine.ret trivial
  ·exact Fine.stuck _
 case select =>
  exact Fine.bind (qga _ _ fun a => Mute.bind (qih _) fun _ => Mute.pure _) fun _ => Fine.ret trivial
end
end Go.Ride

/- The rows of the run-time errors' methods say no word of the library's. -/
namespace Go.Ride
section
variable {P : Program}
@[simp] theorem qxl : ∀ s, Mute P (Go.Extern.RuntimeError.text s) := by
 intro s
 unfold Go.Extern.RuntimeError.text
 exact mS
theorem qk5 : ∀ x, Mute P (Go.Extern.RuntimeError.boundsError x) := by
 intro x
 unfold Go.Extern.RuntimeError.boundsError
 rcases x with ⟨_ | ⟨v, _ | ⟨u, t⟩⟩⟩ <;> (try exact qae _)
 cases v <;> (try exact qae _)
 rename_i a
 rcases a with ⟨_ | ⟨v1, _ | ⟨v2, _ | ⟨v3, _ | ⟨v4, _ | ⟨u, t⟩⟩⟩⟩⟩⟩ <;> (try exact qae _)
 ·cases v1 <;> (try exact qae _) <;> cases v2 <;> (try exact qae _) <;> cases v3 <;> (try exact qae _) <;> cases v4 <;> (try exact qae _)
  rename_i k1 x k2 y sg k4 code
  show Mute P (match (if (sg && decide (x < 0)) = true then Go.Extern.RuntimeError.boundsNegErrorFmts else Go.Extern.RuntimeError.boundsErrorFmts)[code.toNat]? with
   | some fmt => Go.Extern.RuntimeError.text ("runtime error: " ++ (fmt.replace "%x" (toString (if sg = true then x else IntKind.u64.wrap x))).replace "%y" (toString y))
   | none => Go.stuck "boundsError: no such code")
  cases (if (sg && decide (x < 0)) = true then Go.Extern.RuntimeError.boundsNegErrorFmts else Go.Extern.RuntimeError.boundsErrorFmts)[code.toNat]? with
  | none => exact qae _
  | some fmt => exact qxl _
@[simp] theorem qy1 : ∀ v, Mute P (Go.Extern.RuntimeError.described v) := by
 intro v
 unfold Go.Extern.RuntimeError.described
 exact mS
@[simp] theorem qy2 : ∀ i, Mute P (Go.Extern.RuntimeError.pkgpathOf i) := by
 intro i
 unfold Go.Extern.RuntimeError.pkgpathOf
 exact mS
theorem qf8 : ∀ x, Mute P (Go.Extern.RuntimeError.typeAssertionError x) := by
 intro x
 unfold Go.Extern.RuntimeError.typeAssertionError
 exact mS
theorem qfs : ∀ x, Mute P (Go.Extern.RuntimeError.unhashableTypeError x) := by
 intro x
 unfold Go.Extern.RuntimeError.unhashableTypeError
 rcases x with ⟨_ | ⟨v, _ | ⟨u, t⟩⟩⟩ <;> (try exact qae _)
 cases v <;> (try exact qae _)
 rename_i a
 rcases a with ⟨_ | ⟨y, _ | ⟨u, t⟩⟩⟩ <;> (try exact qae _)
 try dsimp only
 exact mS
theorem qcy : ∀ x, Mute P (Go.Extern.RuntimeError.nothing x) := by
 intro x
 unfold Go.Extern.RuntimeError.nothing
 exact mS
end
end Go.Ride
