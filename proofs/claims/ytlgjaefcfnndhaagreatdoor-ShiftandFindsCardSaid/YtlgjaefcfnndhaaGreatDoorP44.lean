/-
 The library's table, out of what a row lists; a world in which it is laid.
-/
import Derived.Test.YtlgjaefcfnndhaaGreatDoorTie
import Derived.Test.YtlgjaefcfnndhaaGreatDoorP13
import Derived.Test.YtlgjaefcfnndhaaGreatDoorP31
import Derived.Lib.LaidU8
import Derived.Lay
import Derived.LaidHandle
import Derived.MakeChecks
import Derived.ChangeVars
import Derived.LaidOnce
import Derived.SevenTiedAt
import Derived.Test.YtlgjaefcfnndhaaGreatDoorP43
import Derived.Test.YtlgjaefcfnndhaaGreatDoorP8
import Derived.Test.YtlgjaefcfnndhaaGreatDoorP32
set_option linter.unusedVariables false
set_option linter.unusedSimpArgs false
set_option maxHeartbeats 16000000
set_option maxRecDepth 100000
namespace Go.Proofs.YtlgjaefcfnndhaaGreatDoor
section
open Go.RowKit
abbrev qim : List (String × DataW Unit) := [("math/bits.deBruijn64tab", Rows.laid_math_bits_deBruijn64tab)]
theorem tab_named : Tryz.prog.globalNamed "math/bits.deBruijn64tab" = some 0 := by kernel_rfl
theorem tab_type : (Tryz.prog.globals[0]?).map (·.type) = some 176 := by kernel_rfl
theorem qyo : (Rows.laid_math_bits_deBruijn64tab : DataW Unit) = Lib.tabData .u8 (Lib.deBruijn64tab.map fun n : Nat => (n : Int)) := by kernel_rfl
theorem q17 {W : World} (hL : laidMetH Tryz.prog qim W) : TzT W := by
 rw [MakeChecks.laidMetH_plain _ _ _ (by kernel_rfl)] at hL
 obtain ⟨g, t, cs, fuel, p, hg, hty, hvar, hd⟩ := Lib.laidMet.reads hL (List.mem_singleton.2 rfl)
 obtain rfl := Option.some.inj (tab_named.symm.trans hg)
 obtain rfl := Option.some.inj (tab_type.symm.trans hty)
 rw [qyo] at hd
 have hcs := Lib.cells_of_tab Tryz.underlying176 Tryz.underlying5 (by kernel_rfl) (by kernel_rfl) hd
 have hT : TabAt 0 Lib.deBruijn64tab W := fun j hj => by
  rw [World.var?_cell hg hvar j, ← Array.getElem?_toList, hcs]
  simp [hj]
 refine ⟨hT, ?_⟩
 have h0 := hT 0 (by decide)
 refine Nat.pos_of_ne_zero fun e => ?_
 unfold World.cell? at h0
 have : W.heap[0]? = none := by simp [e]
 rw [this] at h0
 cases h0
end
section
open Go.RowKit Go.Conc Go.Pip Go.Ride
def qrc (f : FuncId) (args : Array Value) (w : World) : Prop := Go0 Tryz.prog (AtRet Tryz.prog (fun v w' => v = .bool true ∧ Lies w w')) (G (Frame.enter Tryz.prog f args .normal) []) w
theorem qrd {b : Frame} {a : Act} {todo : List Item} {fn : Func} {t : Tmp} {w0 w : World} (hb : b.kind = .normal) (ha : a.defers = []) (hf : Tryz.prog.funcs[b.fn]? = some fn) (hin : Tryz.prog.inits.idxOf? b.fn = none) (hr : fn.results = #[.tmp t]) (hv : a.tmps.getD t undef = .bool true) (hl : Lies w0 w) :
  Go0 Tryz.prog (AtRet Tryz.prog (fun v w' => v = .bool true ∧ Lies w0 w')) (G { b.at a todo with mode := .returning } []) w := Go0.stop (qv9 hb ha hf hin hr ⟨hv, hl⟩)
theorem qic (Lk : Looks) {p : Pinned} {s : OpenSpec} {c : OpenClaim} (al : List (List PathCond)) (kinds : List LaidKind) (tests : Bool) (har : Bool × String) (lk : Bool)
  (hc : c.holds p s) (hal : ∀ D ∈ al, (c.withDomain D).holds p s) (hw : c.wfByText s = true) (hwal : ∀ D ∈ al, (c.withDomain D).wfByText s = true)
  (htie : c.laidByTextAt Lk p kinds tests)
  (hst : c.start = .entering) (hnb : c.noBlocks = false ∧ c.again = false) (hm : p.checked.prog.mainIs = some (har.1, har.2.toList)) (hn : (!har.1 && har.2.isEmpty && !lk) = false)
  (hl : ∀ f fn, p.checked.prog.funcNamed c.func = some f → p.checked.prog.funcs[f]? = some fn → lk = p.checked.prog.looks [] ∧ ∀ (j : Nat) t, fn.params[j]? = some t → p.checked.prog.wantsStandIn t = false)
  (hg : true = c.goesBy p.checked.prog) :
  Claim7.holds p (.plain s) { stood := { row := c, standIns := [], harness := har, looks := lk }, kinds := [], alts := al, goes := true, laidByText := true, laidKinds := kinds, laidTests := tests, laidLooks := Lk } := by
 have h6 : ∀ r : OpenClaim, Claim7.isSixth { stood := { row := r, standIns := [], harness := har, looks := lk }, kinds := [] } = false := fun r => by simpa [Claim7.isSixth] using hn
 refine ⟨Claim7.tied_new_at Lk kinds tests (Claim7.new_of_sixth hc har lk hst hnb hm (h6 c) hl) hw, fun D hD => ?_, htie, (fun h => by cases h), hg⟩
 exact Claim7.tied_new_at Lk kinds tests (Claim7.new_of_sixth (hal D hD) har lk hst hnb hm (h6 _) hl) (hwal D hD)
noncomputable def kBody : Code := Tryz.f9.body.getD .skip
end
section
open Go.RowKit Go.Conc Go.Pip Go.Ride
open Go.ChangeShapes Go.WideShapes Go.ChangeAt Go.Deep
structure OState (w : World) (XV : Value) (X : List Nat) (at_ : Int) : Prop where
 r : Rd w (Old w) 1 XV X.length (qab X)
 x64 : ∀ z ∈ X, z < 18446744073709551616
 a64 : -9223372036854775808 ≤ at_ ∧ at_ ≤ 9223372036854775807
section
variable {H : Type} {enc : TypeId × Value → H} {P : Program} {w : World} {b0 base : Nat} {spare : Nat → Bool} {held : Bool} {r : Reach} {t : TypeId} {v : Value} {d : DataW H} {ps : List MemPlace}
end
theorem qed {w0 w : World} {b : Frame} {a : Act} {todo : List Item} {id : Nat} {o1 o2 : Oper} {p r : Tmp} {fn : Func} (hZ : TzT w) (hl : Lies w0 w) (hb : b.kind = .normal) (ha : a.defers = []) (hf : Tryz.prog.funcs[b.fn]? = some fn) (hin : Tryz.prog.inits.idxOf? b.fn = none) (hres : fn.results = #[.tmp r])
  (h1 : o1.op = .call { callee := .value (.func 11), args := #[], argTypes := #[] }) (d1 : o1.dst = some p) (g1 : o1.guard = none) (h2 : o2.op = .assign (.tmp p)) (d2 : o2.dst = some r) (g2 : o2.guard = none) (hp : p < a.tmps.size) (hr : r < a.tmps.size) :
  Go0 Tryz.prog (AtRet Tryz.prog (fun v w' => v = .bool true ∧ Lies w0 w')) (G (b.at a (.code (.seq (.region id #[o1, o2] false) .ret) :: todo)) []) w := by
 refine Go0.seq mild (Go0.region_call mild [] [o2] o1 rfl fun Q hQ V hV => ?_)
 refine hQ _ _ ⟨by simp [Region.wanted, g1], _, _, _, fun V => ?_, qrb V ((Lies.same hV).tz hZ), ?_⟩
 ·simp [go_sem, execOp, h1]
 rintro v w5 ⟨rfl, l5⟩ Q hQ V5 hV5
 have hl5 := ((hl.trans (Lies.same hV)).trans l5).trans (Lies.same hV5)
 have e : ((a.put o1.dst (.bool true)).eval (.tmp p)) = .bool true := by simp [d1, Act.put, Act.eval, hp]
 have hw : Region.wanted o2 (yielded #[o1, o2] (a.put o1.dst (.bool true)).tmps) = true := by simp [Region.wanted, g2]
 unfold wpList
 rw [if_pos hw]
 refine .inl ?_
 unfold Oper.wp
 simp only [execOp, h2, e, Sem.run_pure]
 show wpList _ _ _ _ _ _
 refine hQ _ _ ?_
 refine Go0.ret mild ?_
 exact qrd hb (by simp [Act.put, d1, d2, ha]) hf hin hres (by simp [Act.put, d1, d2, hr]) hl5
end
end Go.Proofs.YtlgjaefcfnndhaaGreatDoor
