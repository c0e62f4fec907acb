/-
 A goroutine's way in company by single moves, for a way that stops in the midst of loops (a send, a receive): the rules of Derived.Conc.Company at a frame that stands.
-/
import Derived.Test.YtlgjaefcfnndhaaGreatDoorP19
import Derived.Conc.CompanyCalls
import Derived.Conc.CompanyWords
set_option linter.unusedVariables false
set_option linter.unusedSimpArgs false
set_option maxHeartbeats 16000000
namespace Go.Pip
open Go.Conc
section
variable {P : Program} {main : Bool} {R : World → World → Prop} {D : World → World → Array Event → Prop} {Stop : Goroutine → World → Prop} {n : Nat} {b : Frame} {a : Act} {k : List Item} {cs : List Frame} {w : World}
theorem qbk (T : Terms R D) {x y : Code} (h : Goes P main R D Stop n (G (b.at a (.code x :: .code y :: k)) cs) w) : Goes P main R D Stop (n + 1) (G (b.at a (.code (.seq x y) :: k)) cs) w := Goes.step rfl fun w₁ h₁ => by rw [stepG_seq]; exact ⟨T.idle _, h.rely T.trans h₁⟩
theorem qlh (T : Terms R D) (h : Goes P main R D Stop n (G (b.at a k) cs) w) : Goes P main R D Stop (n + 1) (G (b.at a (.code .skip :: k)) cs) w := Goes.step rfl fun w₁ h₁ => by rw [stepG_skip]; exact ⟨T.idle _, h.rely T.trans h₁⟩
theorem qdy (T : Terms R D) {id : Nat} {c : Code} (h : Goes P main R D Stop n (G (b.at a (.code c :: .inBlock id :: k)) cs) w) : Goes P main R D Stop (n + 1) (G (b.at a (.code (.block id c) :: k)) cs) w := Goes.step rfl fun w₁ h₁ => by rw [stepG_block]; exact ⟨T.idle _, h.rely T.trans h₁⟩
theorem qgt (T : Terms R D) {id : Nat} (h : Goes P main R D Stop n (G (b.at a k) cs) w) : Goes P main R D Stop (n + 1) (G (b.at a (.inBlock id :: k)) cs) w := Goes.step rfl fun w₁ h₁ => by rw [stepG_inBlock]; exact ⟨T.idle _, h.rely T.trans h₁⟩
theorem qli (T : Terms R D) {c : Code} (h : Goes P main R D Stop n (G (b.at a (.code c :: .inLoop c :: k)) cs) w) : Goes P main R D Stop (n + 1) (G (b.at a (.code (.loop c) :: k)) cs) w := Goes.step rfl fun w₁ h₁ => by rw [stepG_loop]; exact ⟨T.idle _, h.rely T.trans h₁⟩
theorem qhv (T : Terms R D) {c : Code} (h : Goes P main R D Stop n (G (b.at a (.code c :: .inLoop c :: k)) cs) w) : Goes P main R D Stop (n + 1) (G (b.at a (.inLoop c :: k)) cs) w := Goes.step rfl fun w₁ h₁ => by rw [stepG_inLoop]; exact ⟨T.idle _, h.rely T.trans h₁⟩
theorem qqu (T : Terms R D) {id : Nat} {k' : List Item} (hk : exitTo id k = some k') (h : Goes P main R D Stop n (G (b.at a k') cs) w) : Goes P main R D Stop (n + 1) (G (b.at a (.code (.exit id) :: k)) cs) w := Goes.step rfl fun w₁ h₁ => by rw [stepG_exit hk]; exact ⟨T.idle _, h.rely T.trans h₁⟩
theorem qgb (T : Terms R D) {c : Operand} {x y : Code} {t : Bool} (hc : a.eval c = .bool t) (h : Goes P main R D Stop n (G (b.at a (.code (if t then x else y) :: k)) cs) w) : Goes P main R D Stop (n + 1) (G (b.at a (.code (.cond c x y) :: k)) cs) w := Goes.step rfl fun w₁ h₁ => by rw [stepG_cond hc]; exact ⟨T.idle _, h.rely T.trans h₁⟩
theorem qay (T : Terms R D) {id : Nat} {ops : Array Oper} (h : Goes P main R D Stop n (G (b.at a (.inRegion ops (List.range ops.size) :: k)) cs) w) : Goes P main R D Stop (n + 1) (G (b.at a (.code (.region id ops false) :: k)) cs) w := Goes.step rfl fun w₁ h₁ => by rw [stepG_region]; exact ⟨T.idle _, h.rely T.trans h₁⟩
theorem qbx (T : Terms R D) {ops : Array Oper} (h : Goes P main R D Stop n (G (b.at a k) cs) w) : Goes P main R D Stop (n + 1) (G (b.at a (.inRegion ops [] :: k)) cs) w := Goes.step rfl fun w₁ h₁ => by rw [stepG_region_end]; exact ⟨T.idle _, h.rely T.trans h₁⟩
theorem gs_op {ops : Array Oper} {i : Nat} {rest : List Nat} {o : Oper} (ho : ops[i]? = some o) (hw : Region.wanted o (yielded ops a.tmps) = true) (hk : b.kind ≠ .early)
  (h : ∀ w₁, R w w₁ → ∀ K : Act → World → Prop, (∀ a' w', D w₁ w' (listed P b.fn a o w₁) ∧ Goes P main R D Stop n (G (b.at a' (.inRegion ops rest :: k)) cs) w' → K a' w') → uponK o a K ((execOp a.eval o).run P w₁)) :
  Goes P main R D Stop (n + 1) (G (b.at a (.inRegion ops (i :: rest) :: k)) cs) w := by
 refine Goes.step rfl fun w₁ h₁ => goes_oper ho hw hk ?_
 have := h w₁ h₁ _ (fun _ _ x => x)
 revert this
 cases (execOp a.eval o).run P w₁ with
 | ok x w' => cases x <;> first | exact fun ⟨d, g⟩ => ⟨d, g⟩ | exact id
 | halt _ _ => exact id
theorem qn9 (T : Terms R D) {ops : Array Oper} {i : Nat} {rest : List Nat} {o : Oper} {f : FuncId} {args : Array Value} {nf : Nat} {Post : Value → World → Prop}
  (ho : ops[i]? = some o) (hw : Region.wanted o (yielded ops a.tmps) = true) (hk : b.kind ≠ .early) (hr : ∀ w, (execOp a.eval o).run P w = .ok (.enter f args) w) (he : ∀ w, (execOp a.eval o).events P w #[] = #[])
  (hcall : CallsC P main R D f args nf w Post) (hnext : ∀ v w', Post v w' → Goes P main R D Stop n (G (b.at (a.put o.dst v) (.inRegion ops rest :: k)) cs) w') :
  Goes P main R D Stop (n + nf + 3) (G (b.at a (.inRegion ops (i :: rest) :: k)) cs) w := by
 obtain ⟨fn, c, hf, hname, hbody, hwp⟩ := hcall
 have hfin : ∀ v, (b.at a (.inRegion ops (i :: rest) :: k)).finish v = b.at (a.put o.dst v) (.inRegion ops rest :: k) := fun v => by rw [Frame.finish_at, ho]; rfl
 have hleave : ∀ (a' : Act) (w' : World) (todo : List Item), (a'.defers = [] ∧ ∃ v, ResultsC P fn a'.tmps v ∧ Post v w') →
   Goes P main R D Stop (n + 1) (G { (base f).at a' todo with mode := .returning } (b.at a (.inRegion ops (i :: rest) :: k) :: cs)) w' := by
  rintro a' w' todo ⟨hd, v, hr, hp⟩
  refine Goes.step rfl fun w₁ h₁ => ?_
  rw [stepG_leave (b := base f) rfl hd hf (hr w₁).1 (hr w₁).2, hfin]
  exact ⟨T.idle _, (hnext v w' hp).rely T.trans h₁⟩
 have hbodyG : Goes P main R D Stop (n + 2 + nf) (G ((base f).at { tmps := args ++ Array.replicate (fn.ntmps - args.size) undef, defers := [] } [.code c]) (b.at a (.inRegion ops (i :: rest) :: k) :: cs)) w := by
  refine hwp (base f) [] _ Stop (n + 2) rfl (by simp [base]) fun e a' w' q => ?_
  cases e with
  | normal => exact Goes.step rfl fun w₁ h₁ => by rw [stepG_end]; exact ⟨T.idle _, (hleave a' w' [] q).rely T.trans h₁⟩
  | ret => exact fun todo => (hleave a' w' todo q).more
  | exit id => exact q.elim
  | goto l => exact q.elim
  | panic ch => exact q.elim
  | outgrown => exact q.elim
 have e : n + nf + 3 = (n + 2 + nf) + 1 := by omega
 rw [e]
 exact Goes.step rfl fun w₁ h₁ => by
  rw [stepG_enter ho hw hk (hr w₁), enter_at _ hf hbody, listed_nil (he w₁)]
  exact ⟨T.idle _, hbodyG.rely T.trans h₁⟩
end
theorem qsm {K : Cfg} {P : Program} {b : Frame} {a : Act} {k : List Item} {cs : List Frame} {w : World} {n : Nat} {ops : Array Oper} {i : Nat} {rest : List Nat} {o : Oper} (ho : ops[i]? = some o) (hw : Region.wanted o (yielded ops a.tmps) = true) (hk : b.kind ≠ .early)
  (hwake : mayWake P (G (b.at a (.inRegion ops (i :: rest) :: k)) cs) = true)
  (hr : ∀ buf s r tm, w.heap[K.c]? = some (.chan K.cap buf false s r tm) → (execOp a.eval o).run P w = .ok (.value (.tuple #[])) (w.setChan K.c K.cap buf true s r tm))
  (he : ∀ buf s r tm, w.heap[K.c]? = some (.chan K.cap buf false s r tm) → listed P b.fn a o w = #[⟨.obj K.c, false, true⟩, ⟨.obj K.c, true, true⟩])
  (hq : QuitsIn P n (G (b.at (a.put o.dst (.tuple #[])) (.inRegion ops rest :: k)) cs)) (hJ : K.J w) : qig K P (G (b.at a (.inRegion ops (i :: rest) :: k)) cs) w :=
 ⟨rfl, hwake, _, n, fun buf s r tm hc => by rw [stepG_value ho hw hk (hr buf s r tm hc), he buf s r tm hc], hq, hJ⟩
theorem qu2 {P : Program} {main : Bool} {f : FuncId} {fn : Func} {c : Code} {args : Array Value} (hf : P.funcs[f]? = some fn) (hname : (fn.name == "runtime.NumGoroutine") = false) (hb : fn.body = some c) (w : World) :
  stepG P main (born P { target := .fn (.func f) #[], args }) w = .go (G (Frame.at { (default : Frame) with fn := f, kind := .deferred } { tmps := args ++ Array.replicate (fn.ntmps - args.size) undef, defers := [] } [.code c]) [{ (default : Frame) with fn := P.funcs.size, defers := [], mode := .panicking [goexitEntry] }]) w #[] := by
 simp at hname
 simp [born, stepG, unwind, callDeferred, invoke, callFunc, hf, hname, hb, seen, GStep.after, G, Frame.enter, Frame.at]
end Go.Pip
