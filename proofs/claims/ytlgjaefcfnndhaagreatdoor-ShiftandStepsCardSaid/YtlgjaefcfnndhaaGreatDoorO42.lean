/-
 The library's table, out of what a row lists; a world in which it is laid.
-/
import Derived.Test.YtlgjaefcfnndhaaGreatDoorTie
import Derived.Test.YtlgjaefcfnndhaaGreatDoorO14
import Derived.Test.YtlgjaefcfnndhaaGreatDoorO35
import Derived.Lib.LaidU8
import Derived.Lay
import Derived.LaidHandle
import Derived.MakeChecks
import Derived.ChangeVars
import Derived.LaidOnce
import Derived.SevenTiedAt
import Derived.Test.YtlgjaefcfnndhaaGreatDoorO41
import Derived.Test.YtlgjaefcfnndhaaGreatDoorO8
import Derived.Test.YtlgjaefcfnndhaaGreatDoorO36
set_option linter.unusedVariables false
set_option linter.unusedSimpArgs false
set_option maxHeartbeats 16000000
set_option maxRecDepth 100000
namespace Go.Proofs.YtlgjaefcfnndhaaGreatDoor
section
open Go.RowKit
abbrev qie : List (String × DataW Unit) := [("math/bits.deBruijn64tab", Rows.laid_math_bits_deBruijn64tab)]
theorem tab_named : Tryz.prog.globalNamed "math/bits.deBruijn64tab" = some 0 := by kernel_rfl
theorem tab_type : (Tryz.prog.globals[0]?).map (·.type) = some 176 := by kernel_rfl
theorem qwr : (Rows.laid_math_bits_deBruijn64tab : DataW Unit) = Lib.tabData .u8 (Lib.deBruijn64tab.map fun n : Nat => (n : Int)) := by kernel_rfl
theorem qzw {W : World} (hL : laidMetH Tryz.prog qie W) : TzT W := by
 rw [MakeChecks.laidMetH_plain _ _ _ (by kernel_rfl)] at hL
 obtain ⟨g, t, cs, fuel, p, hg, hty, hvar, hd⟩ := Lib.laidMet.reads hL (List.mem_singleton.2 rfl)
 obtain rfl := Option.some.inj (tab_named.symm.trans hg)
 obtain rfl := Option.some.inj (tab_type.symm.trans hty)
 rw [qwr] at hd
 have hcs := Lib.cells_of_tab Tryz.underlying176 Tryz.underlying5 (by kernel_rfl) (by kernel_rfl) hd
 have hT : TabAt 0 Lib.deBruijn64tab W := fun j hj => by
  rw [World.var?_cell hg hvar j, ← Array.getElem?_toList, hcs]
  simp [hj]
 refine ⟨hT, ?_⟩
 have h0 := hT 0 (by decide)
 refine Nat.pos_of_ne_zero fun e => ?_
 unfold World.cell? at h0
 have : W.heap[0]? = none := by simp [e]
 rw [this] at h0
 cases h0
end
section
open Go.RowKit Go.Conc Go.Pip Go.Ride
def qp0 (f : FuncId) (args : Array Value) (w : World) : Prop := Go0 Tryz.prog (AtRet Tryz.prog (fun v w' => v = .bool true ∧ Lies w w')) (G (Frame.enter Tryz.prog f args .normal) []) w
theorem qyf {b : Frame} {a : Act} {todo : List Item} {fn : Func} {t : Tmp} {w0 w : World} (hb : b.kind = .normal) (ha : a.defers = []) (hf : Tryz.prog.funcs[b.fn]? = some fn) (hin : Tryz.prog.inits.idxOf? b.fn = none) (hr : fn.results = #[.tmp t]) (hv : a.tmps.getD t undef = .bool true) (hl : Lies w0 w) :
  Go0 Tryz.prog (AtRet Tryz.prog (fun v w' => v = .bool true ∧ Lies w0 w')) (G { b.at a todo with mode := .returning } []) w := Go0.stop (qul hb ha hf hin hr ⟨hv, hl⟩)
theorem qh4 (Lk : Looks) {p : Pinned} {s : OpenSpec} {c : OpenClaim} (al : List (List PathCond)) (kinds : List LaidKind) (tests : Bool) (har : Bool × String) (lk : Bool)
  (hc : c.holds p s) (hal : ∀ D ∈ al, (c.withDomain D).holds p s) (hw : c.wfByText s = true) (hwal : ∀ D ∈ al, (c.withDomain D).wfByText s = true)
  (htie : c.laidByTextAt Lk p kinds tests)
  (hst : c.start = .entering) (hnb : c.noBlocks = false ∧ c.again = false) (hm : p.checked.prog.mainIs = some (har.1, har.2.toList)) (hn : (!har.1 && har.2.isEmpty && !lk) = false)
  (hl : ∀ f fn, p.checked.prog.funcNamed c.func = some f → p.checked.prog.funcs[f]? = some fn → lk = p.checked.prog.looks [] ∧ ∀ (j : Nat) t, fn.params[j]? = some t → p.checked.prog.wantsStandIn t = false)
  (hg : true = c.goesBy p.checked.prog) :
  Claim7.holds p (.plain s) { stood := { row := c, standIns := [], harness := har, looks := lk }, kinds := [], alts := al, goes := true, laidByText := true, laidKinds := kinds, laidTests := tests, laidLooks := Lk } := by
 have h6 : ∀ r : OpenClaim, Claim7.isSixth { stood := { row := r, standIns := [], harness := har, looks := lk }, kinds := [] } = false := fun r => by simpa [Claim7.isSixth] using hn
 refine ⟨Claim7.tied_new_at Lk kinds tests (Claim7.new_of_sixth hc har lk hst hnb hm (h6 c) hl) hw, fun D hD => ?_, htie, (fun h => by cases h), hg⟩
 exact Claim7.tied_new_at Lk kinds tests (Claim7.new_of_sixth (hal D hD) har lk hst hnb hm (h6 _) hl) (hwal D hD)
noncomputable def kBody : Code := Tryz.f9.body.getD .skip
end
section
open Go.RowKit Go.Conc Go.Pip Go.Ride
open Go.ChangeShapes Go.WideShapes Go.ChangeAt Go.Deep
theorem qws (A0 A1 A2 A3 : Option Addr) (n0 n1 n2 n3 k0 k1 k2 k3 : Nat) (wd : Int) (w : World) : Calls Tryz.prog 10 #[.agg #[.slice A0 n0 k0, .int .i64 wd, .slice A1 n1 k1, .slice A2 n2 k2, .slice A3 n3 k3]] w fun e w' => (∃ q, e = .returned (.bool q) ∧ (q = false → n0 ≤ 20 ∧ n1 ≤ 1100 ∧ n2 ≤ 10 ∧ n3 ≤ 100)) ∧ Off Nob w w' := by
 have X0 : Hid (Off Nob w (w.alloc (.cells #[.slice A0 n0 k0, .int .i64 wd, .slice A1 n1 k1, .slice A2 n2 k2, .slice A3 n3 k3] 25)) ∧ Blk (w.alloc (.cells #[.slice A0 n0 k0, .int .i64 wd, .slice A1 n1 k1, .slice A2 n2 k2, .slice A3 n3 k3] 25)) w.heap.size 25 #[.slice A0 n0 k0, .int .i64 wd, .slice A1 n1 k1, .slice A2 n2 k2, .slice A3 n3 k3]) := hID ⟨oRf.alloc _, Blk.new _ _ _⟩
 have s0 := X0.out.2.cell 0
 have s2 := X0.out.2.cell 2
 have s3 := X0.out.2.cell 3
 have s4 := X0.out.2.cell 4
 by_cases h0 : (20 : Int) < (n0 : Int)
 ·have d0 := dT h0
  clear h0
  go_enter Tryz.func10, Tryz.ntmps10
  go_wp2_with fail
  go_ret
  exact ⟨⟨_, rfl, fun h => by cases h⟩, X0.out.1⟩
 ·have d0 := dF h0
  have g0 : Hid (n0 ≤ 20) := hID (by omega)
  clear h0
  by_cases h1 : (1100 : Int) < (n1 : Int)
  ·have d1 := dT h1
   clear h1
   go_enter Tryz.func10, Tryz.ntmps10
   go_wp2_with fail
   go_ret
   exact ⟨⟨_, rfl, fun h => by cases h⟩, X0.out.1⟩
  ·have d1 := dF h1
   have g1 : Hid (n1 ≤ 1100) := hID (by omega)
   clear h1
   by_cases h2 : (10 : Int) < (n2 : Int)
   ·have d2 := dT h2
    clear h2
    go_enter Tryz.func10, Tryz.ntmps10
    go_wp2_with fail
    go_ret
    exact ⟨⟨_, rfl, fun h => by cases h⟩, X0.out.1⟩
   ·have d2 := dF h2
    have g2 : Hid (n2 ≤ 10) := hID (by omega)
    clear h2
    by_cases h3 : (100 : Int) < (n3 : Int)
    ·have d3 := dT h3
     clear h3
     go_enter Tryz.func10, Tryz.ntmps10
     go_wp2_with fail
     go_ret
     exact ⟨⟨_, rfl, fun h => by cases h⟩, X0.out.1⟩
    ·have d3 := dF h3
     have g3 : Hid (n3 ≤ 100) := hID (by omega)
     clear h3
     go_enter Tryz.func10, Tryz.ntmps10
     go_wp2_with fail
     go_ret
     exact ⟨⟨_, rfl, fun _ => ⟨g0.out, g1.out, g2.out, g3.out⟩⟩, X0.out.1⟩
theorem qp1 (X : List Nat) (hX : X.length ≤ 4096) (at_ : Int) {F G : Nat → Prop} (w : World) (u v : Value) (hu : Rd w F 1 u X.length (qab X)) (hv : Rd w G 1 v X.length (qab X)) :
  Calls Tryz.prog 14 #[.agg #[u, .int .i64 at_], .agg #[v, .int .i64 at_]] w (RetV w (.bool true)) := by
 obtain ⟨A, c, rfl, _⟩ := hu.form
 obtain ⟨A2, c2, rfl, _⟩ := hv.form
 obtain ⟨W, hW⟩ : ∃ W, (w.alloc (.cells #[.slice A X.length c, .int .i64 at_] 27)).alloc (.cells #[.slice A2 X.length c2, .int .i64 at_] 27) = W := ⟨_, rfl⟩
 have o : Off Nob w W := by rw [← hW]; exact (oRf.alloc _).alloc _
 have b1 : Blk W w.heap.size 27 #[.slice A X.length c, .int .i64 at_] := by rw [← hW]; exact (Blk.new _ _ _).alloc _
 have b2 : Blk W (w.heap.size + 1) 27 #[.slice A2 X.length c2, .int .i64 at_] := by rw [← hW]; have h := Blk.new (w.alloc (.cells #[.slice A X.length c, .int .i64 at_] 27)) 27 #[.slice A2 X.length c2, .int .i64 at_]; simpa using h
 have HS := hID (qkh X hX W _ _ (hu.keep o (fun _ _ h => h)) (hv.keep o (fun _ _ h => h)))
 have HB := hID (And.intro o (And.intro b1 b2))
 have HW := hID hW
 clear hu hv hX o b1 b2 hW
 go_enter Tryz.func14, Tryz.ntmps14
 go_wp2_with fail
 rw [HW.out]
 have c0 := HB.out.2.1.cell 0
 have c1 := HB.out.2.1.cell 1
 have x0 := HB.out.2.2.cell 0
 have x1 := HB.out.2.2.cell 1
 go_wp2_with fail
 refine HS.out.mono ?_
 rintro e w2 ⟨rfl, o2⟩
 have HO := hID o2
 have k1 := HB.out.2.1.to (o2.block _ HB.out.2.1.lt id)
 have k2 := HB.out.2.2.to (o2.block _ HB.out.2.2.lt id)
 have y0 := k1.cell 1
 have y1 := k2.cell 1
 have de : (at_ == at_) = true := by simp
 clear o2 k1 k2 c0 c1 x0 x1 HS
 go_wp2_with fail
 go_ret
 exact ⟨rfl, HB.out.1.also HO.out⟩
structure OState (w : World) (XV : Value) (X : List Nat) (at_ : Int) : Prop where
 r : Rd w (Old w) 1 XV X.length (qab X)
 x64 : ∀ z ∈ X, z < 18446744073709551616
 a64 : -9223372036854775808 ≤ at_ ∧ at_ ≤ 9223372036854775807
section
variable {H : Type} {enc : TypeId × Value → H} {P : Program} {w : World} {b0 base : Nat} {spare : Nat → Bool} {held : Bool} {r : Reach} {t : TypeId} {v : Value} {d : DataW H} {ps : List MemPlace}
theorem qnv {fs : Array Field} {t0 t1 e0 : TypeId} (ht : P.underlying t = some (.struct fs)) (hc : P.cellsOf t = 2)
  (y0 : (fs[0]?).map (fun y => (y.offset, y.type)) = some (0, t0)) (y1 : (fs[1]?).map (fun y => (y.offset, y.type)) = some (1, t1))
  (c0 : P.cellsOf t0 = 1) (c1 : P.cellsOf t1 = 1) (u0 : P.underlying t0 = some (.slice e0)) (u1 : P.underlying t1 = some (.int .i64)) (v0 : P.underlying e0 = some (.int .u64)) (z0 : P.cellsOf e0 = 1)
  (hval : Value.okWide P w r b0 t v) (hd : DataW.Trod enc P w base spare held t v d ps) : ∃ (XV : Value) (X : List Nat) (at_ : Int), v = .agg #[XV, .int .i64 at_] ∧ OState w XV X at_ := by
 obtain ⟨cs, rfl, hs⟩ : ∃ cs, v = .agg cs ∧ cs.size = P.cellsOf t := by
  unfold Value.okWide at hval
  rw [ht] at hval
  obtain ⟨cs, h1, h2, _⟩ := hval
  exact ⟨cs, h1, h2⟩
 obtain ⟨fuel, hf⟩ := hd
 rw [hc] at hs
 obtain ⟨ls, rfl⟩ : ∃ ls : List Value, cs = ls.toArray := ⟨cs.toList, by simp⟩
 match ls, hs with
 | [a, b], _ =>
  have hf2 : DataW.trod enc P w base spare held fuel t [a, b] = _ := hf
  obtain ⟨f0, x0, h0⟩ := qd2 ht hf2 0 0 1 t0 y0 c0
  obtain ⟨f1, x1, h1⟩ := qd2 ht hf2 1 1 1 t1 y1 c1
  simp only [List.drop_zero, List.drop_succ_cons, List.take_succ_cons, List.take_zero] at h0 h1
  obtain ⟨X, r0, w0, _⟩ := qew u0 v0 z0 h0
  obtain ⟨q1, e1, o1⟩ := qh2 1 t1 0 (some .i64) (by unfold qeg; rw [u1]; rfl) f1 _ _ h1
  simp at e1
  subst e1
  obtain ⟨at_, rfl, wf⟩ := o1
  have hw := bounds_i64 wf
  exact ⟨a, X, at_, rfl, r0, w0, by omega⟩
end
theorem qh5 {w0 w : World} {b : Frame} {a : Act} {todo : List Item} {id : Nat} {o1 o2 : Oper} {p r : Tmp} {fn : Func} (hZ : TzT w) (hl : Lies w0 w) (hb : b.kind = .normal) (ha : a.defers = []) (hf : Tryz.prog.funcs[b.fn]? = some fn) (hin : Tryz.prog.inits.idxOf? b.fn = none) (hres : fn.results = #[.tmp r])
  (h1 : o1.op = .call { callee := .value (.func 11), args := #[], argTypes := #[] }) (d1 : o1.dst = some p) (g1 : o1.guard = none) (h2 : o2.op = .assign (.tmp p)) (d2 : o2.dst = some r) (g2 : o2.guard = none) (hp : p < a.tmps.size) (hr : r < a.tmps.size) :
  Go0 Tryz.prog (AtRet Tryz.prog (fun v w' => v = .bool true ∧ Lies w0 w')) (G (b.at a (.code (.seq (.region id #[o1, o2] false) .ret) :: todo)) []) w := by
 refine Go0.seq mild (Go0.region_call mild [] [o2] o1 rfl fun Q hQ V hV => ?_)
 refine hQ _ _ ⟨by simp [Region.wanted, g1], _, _, _, fun V => ?_, qye V ((Lies.same hV).tz hZ), ?_⟩
 ·simp [go_sem, execOp, h1]
 rintro v w5 ⟨rfl, l5⟩ Q hQ V5 hV5
 have hl5 := ((hl.trans (Lies.same hV)).trans l5).trans (Lies.same hV5)
 have e : ((a.put o1.dst (.bool true)).eval (.tmp p)) = .bool true := by simp [d1, Act.put, Act.eval, hp]
 have hw : Region.wanted o2 (yielded #[o1, o2] (a.put o1.dst (.bool true)).tmps) = true := by simp [Region.wanted, g2]
 unfold wpList
 rw [if_pos hw]
 refine .inl ?_
 unfold Oper.wp
 simp only [execOp, h2, e, Sem.run_pure]
 show wpList _ _ _ _ _ _
 refine hQ _ _ ?_
 refine Go0.ret mild ?_
 exact qyf hb (by simp [Act.put, d1, d2, ha]) hf hin hres (by simp [Act.put, d1, d2, hr]) hl5
end
end Go.Proofs.YtlgjaefcfnndhaaGreatDoor
