/-
 The library's table, out of what a row lists; a world in which it is laid.
-/
import Derived.Test.YtlgjaefcfnndhaaGreatDoorTie
import Derived.Test.YtlgjaefcfnndhaaGreatDoorK17
import Derived.Test.YtlgjaefcfnndhaaGreatDoorK40
import Derived.Lib.LaidU8
import Derived.Lay
import Derived.LaidHandle
import Derived.MakeChecks
import Derived.ChangeVars
import Derived.LaidOnce
import Derived.SevenTiedAt
import Derived.Test.YtlgjaefcfnndhaaGreatDoorK48
import Derived.Test.YtlgjaefcfnndhaaGreatDoorK10
set_option linter.unusedVariables false
set_option linter.unusedSimpArgs false
namespace Go.Proofs.YtlgjaefcfnndhaaGreatDoor
open Go.RowKit
set_option maxRecDepth 100000
abbrev laidTab : List (String × DataW Unit) := [("math/bits.deBruijn64tab", Rows.laid_math_bits_deBruijn64tab)]
theorem tab_named : Tryz.prog.globalNamed "math/bits.deBruijn64tab" = some 0 := by kernel_rfl
theorem tab_type : (Tryz.prog.globals[0]?).map (·.type) = some 176 := by kernel_rfl
theorem tab_data : (Rows.laid_math_bits_deBruijn64tab : DataW Unit) = Lib.tabData .u8 (Lib.deBruijn64tab.map fun n : Nat => (n : Int)) := by kernel_rfl
theorem tzt_of {W : World} (hL : laidMetH Tryz.prog laidTab W) : TzT W := by
 rw [MakeChecks.laidMetH_plain _ _ _ (by kernel_rfl)] at hL
 obtain ⟨g, t, cs, fuel, p, hg, hty, hvar, hd⟩ := Lib.laidMet.reads hL (List.mem_singleton.2 rfl)
 obtain rfl := Option.some.inj (tab_named.symm.trans hg)
 obtain rfl := Option.some.inj (tab_type.symm.trans hty)
 rw [tab_data] at hd
 have hcs := Lib.cells_of_tab Tryz.underlying176 Tryz.underlying5 (by kernel_rfl) (by kernel_rfl) hd
 have hT : TabAt 0 Lib.deBruijn64tab W := fun j hj => by
  rw [World.var?_cell hg hvar j, ← Array.getElem?_toList, hcs]
  simp [hj]
 refine ⟨hT, ?_⟩
 have h0 := hT 0 (by decide)
 refine Nat.pos_of_ne_zero fun e => ?_
 unfold World.cell? at h0
 have : W.heap[0]? = none := by simp [e]
 rw [this] at h0
 cases h0
end Go.Proofs.YtlgjaefcfnndhaaGreatDoor

namespace Go.Proofs.YtlgjaefcfnndhaaGreatDoor
open Go.RowKit Go.Conc Go.Pip Go.Ride
set_option maxRecDepth 100000
def TopTrue (f : FuncId) (args : Array Value) (w : World) : Prop := Go0 Tryz.prog (AtRet Tryz.prog (fun v w' => v = .bool true ∧ Lies w w')) (G (Frame.enter Tryz.prog f args .normal) []) w
theorem top_ret {b : Frame} {a : Act} {todo : List Item} {fn : Func} {t : Tmp} {w0 w : World} (hb : b.kind = .normal) (ha : a.defers = []) (hf : Tryz.prog.funcs[b.fn]? = some fn) (hin : Tryz.prog.inits.idxOf? b.fn = none) (hr : fn.results = #[.tmp t]) (hv : a.tmps.getD t undef = .bool true) (hl : Lies w0 w) :
  Go0 Tryz.prog (AtRet Tryz.prog (fun v w' => v = .bool true ∧ Lies w0 w')) (G { b.at a todo with mode := .returning } []) w := Go0.stop (atRet_tmp hb ha hf hin hr ⟨hv, hl⟩)
theorem holds_tied_goes_at (Lk : Looks) {p : Pinned} {s : OpenSpec} {c : OpenClaim} (al : List (List PathCond)) (kinds : List LaidKind) (tests : Bool) (har : Bool × String) (lk : Bool)
  (hc : c.holds p s) (hal : ∀ D ∈ al, (c.withDomain D).holds p s) (hw : c.wfByText s = true) (hwal : ∀ D ∈ al, (c.withDomain D).wfByText s = true)
  (htie : c.laidByTextAt Lk p kinds tests)
  (hst : c.start = .entering) (hnb : c.noBlocks = false ∧ c.again = false) (hm : p.checked.prog.mainIs = some (har.1, har.2.toList)) (hn : (!har.1 && har.2.isEmpty && !lk) = false)
  (hl : ∀ f fn, p.checked.prog.funcNamed c.func = some f → p.checked.prog.funcs[f]? = some fn → lk = p.checked.prog.looks [] ∧ ∀ (j : Nat) t, fn.params[j]? = some t → p.checked.prog.wantsStandIn t = false)
  (hg : true = c.goesBy p.checked.prog) :
  Claim7.holds p (.plain s) { stood := { row := c, standIns := [], harness := har, looks := lk }, kinds := [], alts := al, goes := true, laidByText := true, laidKinds := kinds, laidTests := tests, laidLooks := Lk } := by
 have h6 : ∀ r : OpenClaim, Claim7.isSixth { stood := { row := r, standIns := [], harness := har, looks := lk }, kinds := [] } = false := fun r => by simpa [Claim7.isSixth] using hn
 refine ⟨Claim7.tied_new_at Lk kinds tests (Claim7.new_of_sixth hc har lk hst hnb hm (h6 c) hl) hw, fun D hD => ?_, htie, (fun h => by cases h), hg⟩
 exact Claim7.tied_new_at Lk kinds tests (Claim7.new_of_sixth (hal D hD) har lk hst hnb hm (h6 _) hl) (hwal D hD)
noncomputable def kBody : Code := Tryz.f9.body.getD .skip
theorem shiftandKnown_walk {w : World} (hZ : TzT w) : TopTrue 9 #[] w := by
 have hen : Frame.enter Tryz.prog 9 #[] .normal = (base 9).at ⟨#[undef, undef], []⟩ [.code kBody] := by
  have h := enter_at (P := Tryz.prog) #[] Tryz.func9 (c := kBody) rfl
  simp only [Tryz.ntmps9, List.size_toArray, List.length_cons, List.length_nil, Nat.reduceAdd, Nat.reduceSub, Array.replicate_succ, Array.replicate_zero, List.push_toArray, List.append_toArray, List.nil_append, List.cons_append] at h
  exact h
 unfold TopTrue
 rw [hen]
 generalize hbb : base 9 = b
 have hbf : b.fn = 9 := by rw [← hbb]; rfl
 have hbn : b.kind = .normal := by rw [← hbb]; rfl
 clear hen hbb
 simp only [kBody, Tryz.f9, Option.getD_some]
 refine Go0.seq mild (Go0.wpQ mild fun Q hQ V hV => ?_)
 have HQ := hID hQ
 have HV := hID (Lies.same hV)
 clear hQ hV
 go_wp2_with fail
 refine HQ.out _ _ _ ?_
 clear HQ
 show Go0 _ _ _ _
 refine Go0.seq mild (Go0.region_call mild [] _ _ rfl fun Q hQ V2 hV => ?_)
 have HQ := hID hQ
 have HV2 := hID (HV.out.trans (Lies.same hV))
 clear hQ hV
 refine HQ.out _ _ ⟨by rfl, _, _, _, fun V => ?_, g_shown V2 (HV2.out.tz hZ), ?_⟩
 ·simp [go_sem]
 clear HQ
 rintro v w5 ⟨rfl, l5⟩ Q hQ V5 hV
 have HV5 := hID ((HV2.out.trans l5).trans (Lies.same hV))
 have HQ := hID hQ
 clear hQ hV l5
 go_wp2_with fail
 refine HQ.out _ _ ?_
 refine Go0.ret mild ?_
 exact top_ret hbn rfl (by rw [hbf]; exact Tryz.func9) (by rw [hbf]; kernel_rfl) rfl rfl HV5.out
end Go.Proofs.YtlgjaefcfnndhaaGreatDoor
