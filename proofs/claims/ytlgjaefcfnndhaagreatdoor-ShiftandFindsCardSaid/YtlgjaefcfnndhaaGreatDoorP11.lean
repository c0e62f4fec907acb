/-
 The automaton that a goroutine of shiftand.Feed's runs, in company: what it holds of the world, and what its steps may do.
-/
import Derived.Test.YtlgjaefcfnndhaaGreatDoorP8
import Derived.Test.YtlgjaefcfnndhaaGreatDoorP10
import Derived.Conc.CompanyMem
import Derived.Conc.CompanyCalls
import Derived.Conc.AppendWalk
import Derived.Test.YtlgjaefcfnndhaaGreatDoorP2
set_option linter.unusedVariables false
set_option linter.unusedSimpArgs false
set_option maxHeartbeats 16000000
set_option maxRecDepth 100000
namespace Go.Proofs.YtlgjaefcfnndhaaGreatDoor
section
open Go.RowKit Go.Conc Go.Pip
structure Geo (K : Cfg) (n0 aB rB : Nat) : Prop where
 a0 : n0 ≤ aB
 r0 : n0 ≤ rB
 c0 : n0 ≤ K.c
 aL : aB < K.Low
 rL : rB < K.Low
 ar : aB ≠ rB
 ac : aB ≠ K.c
 rc : rB ≠ K.c
 wa : K.Wr aB
 wr : K.Wr rB
 wn : ∀ b, K.Wr b → n0 ≤ b
 hit : K.ty = 85
structure AutW (w0 : World) (L : Nat) (aB rB rcap : Nat) (VI VT VS VF : Value) (W : Nat) (X : List Nat) (at_ : Int) (w : World) : Prop where
 os : w.os = w0.os
 output : w.output = w0.output
 size : w0.heap.size ≤ w.heap.size
 big : L ≤ w.heap.size
 low : ∀ b, b < w0.heap.size → w.heap[b]? = w0.heap[b]?
 au : Blk w aB 138 #[VI, .int .i64 (W : Int), VT, VS, VF, .slice (some ⟨rB, 0, none⟩) W rcap, .int .i64 at_]
 row : ∃ cur, Blk w rB 71 cur ∧ ∀ j, j < W → cur[j]? = some (.int .u64 ((X.getD j 0 : Nat) : Int))
section
variable {K : Cfg} {w0 w w₁ : World} {L aB rB rcap : Nat} {VI VT VS VF : Value} {W : Nat} {X : List Nat} {at_ : Int}
theorem AutW.rely (g : Geo K w0.heap.size aB rB) (h : AutW w0 L aB rB rcap VI VT VS VF W X at_ w) (r : SuffB K w w₁) : AutW w0 L aB rB rcap VI VT VS VF W X at_ w₁ := by
 obtain ⟨cur, h1, h2⟩ := h.row
 exact ⟨r.os.trans h.os, r.output.trans h.output, Nat.le_trans h.size r.size, Nat.le_trans h.big r.size,
  fun b hb => (r.keep b (Nat.lt_of_lt_of_le hb h.size) (by have := g.c0; omega) (.inl (by have := g.a0; have := g.aL; omega))).trans (h.low b hb),
  h.au.to (r.keep aB h.au.lt g.ac (.inl g.aL)), cur, h1.to (r.keep rB h1.lt g.rc (.inl g.rL)), h2⟩
theorem AutW.re (h : AutW w0 L aB rB rcap VI VT VS VF W X at_ w) (τ : Nat → Question → Nat) (d : Nat) : AutW w0 L aB rB rcap VI VT VS VF W X at_ (Ride.re w τ d) := ⟨h.os, h.output, h.size, h.big, h.low, h.au, h.row⟩
theorem qbf (a : Addr) (wr : Bool) (h : a.block < K.Low) (hs : a.block < w.heap.size) : EvB K w ⟨.cell a, wr, false⟩ :=
 ⟨by simp, by simp, fun x hx => by
  simp [MemAct.ofEvent, MemAct.touch?] at hx
  subst hx
  exact .inl ⟨a, rfl, fun hm => absurd hm.1 (by omega), hs⟩⟩
theorem qaa : Terms (SuffB K) (DB K) := ⟨fun _ _ _ => SuffB.trans, fun w => ⟨SuffA.refl w, rfl, by simp⟩⟩
theorem drawB : LetsDraw (DB K) := fun w => ⟨SuffA.at w (w.drawn + 1), rfl, by simp⟩
theorem qnl (w : World) : SuffB K w { w with drawn := w.drawn + 1 } := SuffB.at w (w.drawn + 1)
theorem qa4 : Terms (SuffA K) (DA K) := ⟨fun _ _ _ => SuffA.trans, fun w => ⟨SuffB.refl w, rfl, by simp⟩⟩
theorem qlu {p : Addr} (hp : K.Wr p.block) (hL : p.block < K.Low) (u : Value) : SuffA K w (w.setCell p u) := by
 have e : ∀ b, b ≠ p.block → (w.setCell p u).heap[b]? = w.heap[b]? := fun b hb => Below.heap_setCell _ _ _ _ hb
 refine ⟨rfl, rfl, rfl, by simp, fun b _ _ h => e b (fun hb => h (hb ▸ hp)), fun b _ h1 _ => e b (by omega), fun b hb => ?_⟩
 by_cases hbp : b = p.block
 ·subst hbp
  unfold isHit
  simp only [World.setCell, Array.getElem?_modify, if_true]
  cases ho : w.heap[p.block]? with
  | none => simp
  | some o => cases o <;> simp
 ·unfold isHit; rw [e b hbp]
end
end
section
open Go.Ride
theorem qsn : (Tryz.prog.funcs.toList.all (fun f => f.name != "runtime.NumGoroutine")) = true := by decide +kernel
theorem qu3 : Tryz.prog.funcs.size = 165 := by decide +kernel
theorem qxq : (List.range 165).all (fun i => ((Tryz.prog.funcs[i]?.map (·.body.isSome)).getD true) || [0, 1, 145, 146, 147, 148, 149, 150, 151, 152, 153, 154, 155, 156, 157, 158, 159, 160, 161, 162, 163].contains i) = true := by decide +kernel
def qav (fn : Func) : Prop := Extern.findNext fn = none ∧ ∀ e, Extern.find fn = some e → ∀ args, Mute Tryz.prog (e args)
theorem qco {fn : Func} (h1 : Extern.findNext fn = none) (h2 : Extern.find fn = none) : qav fn := ⟨h1, fun e he => by rw [h2] at he; cases he⟩
theorem qau {fn : Func} {r : Array Value → Sem Value} (h1 : Extern.findNext fn = none) (h2 : Extern.find fn = some r) (h : ∀ args, Mute Tryz.prog (r args)) : qav fn := ⟨h1, fun e he => by rw [h2] at he; cases he; exact h⟩
theorem qxr : qav Tryz.f0 := qco (by kernel_rfl) (by kernel_rfl)
theorem qxs : qav Tryz.f1 := qco (by kernel_rfl) (by kernel_rfl)
theorem qso : qav Tryz.f145 := qau (r := Go.Extern.RuntimeError.boundsError) (by kernel_rfl) (by kernel_rfl) qlk
theorem qsp : qav Tryz.f146 := qau (r := Go.Extern.RuntimeError.nothing) (by kernel_rfl) (by kernel_rfl) qct
theorem qsq : qav Tryz.f147 := qau (r := fun args => do
  pure (.string ("runtime error: ".toUTF8 ++ (← asString (args.getD 0 (.tuple #[])))))) (by kernel_rfl) (by kernel_rfl) (by
 intro args
 exact mS)
theorem qsr : qav Tryz.f148 := qau (r := Go.Extern.RuntimeError.nothing) (by kernel_rfl) (by kernel_rfl) qct
theorem qss : qav Tryz.f149 := qau (r := fun args => do pure (.string (← asString (args.getD 0 (.tuple #[]))))) (by kernel_rfl) (by kernel_rfl) (by
 intro args
 exact mS)
theorem qst : qav Tryz.f150 := qau (r := Go.Extern.RuntimeError.nothing) (by kernel_rfl) (by kernel_rfl) qct
theorem qsu : qav Tryz.f151 := qau (r := fun args => do
  pure (.string ("runtime error: ".toUTF8 ++ (← asString ((← asAgg (args.getD 0 (.tuple #[]))).getD 0 (.tuple #[])))))) (by kernel_rfl) (by kernel_rfl) (by
 intro args
 exact mS)
theorem qsv : qav Tryz.f152 := qau (r := Go.Extern.RuntimeError.nothing) (by kernel_rfl) (by kernel_rfl) qct
theorem qsw : qav Tryz.f153 := qau (r := Go.Extern.RuntimeError.typeAssertionError) (by kernel_rfl) (by kernel_rfl) qgc
theorem qsx : qav Tryz.f154 := qau (r := Go.Extern.RuntimeError.nothing) (by kernel_rfl) (by kernel_rfl) qct
theorem qsy : qav Tryz.f155 := qau (r := fun _ => Go.Extern.RuntimeError.text "runtime error: panic called with nil argument") (by kernel_rfl) (by kernel_rfl) (by
 intro args
 exact mS)
theorem qsz : qav Tryz.f156 := qau (r := Go.Extern.RuntimeError.nothing) (by kernel_rfl) (by kernel_rfl) qct
theorem qs0 : qav Tryz.f157 := qco (by kernel_rfl) (by kernel_rfl)
theorem qs1 : qav Tryz.f158 := qau (r := Go.Extern.RuntimeError.unhashableTypeError) (by kernel_rfl) (by kernel_rfl) qfw
theorem qs2 : qav Tryz.f159 := qau (r := Go.Extern.RuntimeError.nothing) (by kernel_rfl) (by kernel_rfl) qct
theorem qs3 : qav Tryz.f160 := qau (r := fun args => do pure (strVal (Go.Extern.Rtype.kindName (← asInt (args.getD 0 (.tuple #[]))).toNat))) (by kernel_rfl) (by kernel_rfl) (by
 intro args
 exact mS)
theorem qs4 : qav Tryz.f161 := qco (by kernel_rfl) (by kernel_rfl)
theorem qs5 : qav Tryz.f162 := qco (by kernel_rfl) (by kernel_rfl)
theorem qs6 : qav Tryz.f163 := qco (by kernel_rfl) (by kernel_rfl)
theorem qa2 {f : Nat} {g fn : Func} (hg : Tryz.prog.funcs[f]? = some g) (h : qav g) (hf : Tryz.prog.funcs[f]? = some fn) : qav fn := by rw [hg] at hf; cases hf; exact h
theorem mild : Mild Tryz.prog := by
 refine ⟨fun f fn hf => ?_, fun f fn hf hb => ?_⟩
 ·have hm : fn ∈ Tryz.prog.funcs.toList := by
   obtain ⟨h, e⟩ := Array.getElem?_eq_some_iff.1 hf
   rw [← e]; exact Array.getElem_mem_toList h
  have := List.all_eq_true.1 qsn fn hm
  simpa using this
 ·have hl : f < 165 := by rw [← qu3]; exact (Array.getElem?_eq_some_iff.1 hf).1
  have h := List.all_eq_true.1 qxq f (List.mem_range.2 hl)
  rw [hf] at h
  simp [hb] at h
  suffices H : qav fn from H
  rcases h with rfl | rfl | rfl | rfl | rfl | rfl | rfl | rfl | rfl | rfl | rfl | rfl | rfl | rfl | rfl | rfl | rfl | rfl | rfl | rfl | rfl
  ·exact qa2 Tryz.func0 qxr hf
  ·exact qa2 Tryz.func1 qxs hf
  ·exact qa2 Tryz.func145 qso hf
  ·exact qa2 Tryz.func146 qsp hf
  ·exact qa2 Tryz.func147 qsq hf
  ·exact qa2 Tryz.func148 qsr hf
  ·exact qa2 Tryz.func149 qss hf
  ·exact qa2 Tryz.func150 qst hf
  ·exact qa2 Tryz.func151 qsu hf
  ·exact qa2 Tryz.func152 qsv hf
  ·exact qa2 Tryz.func153 qsw hf
  ·exact qa2 Tryz.func154 qsx hf
  ·exact qa2 Tryz.func155 qsy hf
  ·exact qa2 Tryz.func156 qsz hf
  ·exact qa2 Tryz.func157 qs0 hf
  ·exact qa2 Tryz.func158 qs1 hf
  ·exact qa2 Tryz.func159 qs2 hf
  ·exact qa2 Tryz.func160 qs3 hf
  ·exact qa2 Tryz.func161 qs4 hf
  ·exact qa2 Tryz.func162 qs5 hf
  ·exact qa2 Tryz.func163 qs6 hf
end
end Go.Proofs.YtlgjaefcfnndhaaGreatDoor
