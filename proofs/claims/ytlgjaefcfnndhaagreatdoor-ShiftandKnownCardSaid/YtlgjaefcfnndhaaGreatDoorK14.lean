/-
 The automaton that a goroutine of shiftand.Feed's runs, in company: what it holds of the world, and what its steps may do.
-/
import Derived.Test.YtlgjaefcfnndhaaGreatDoorK10
import Derived.Test.YtlgjaefcfnndhaaGreatDoorK13
import Derived.Conc.CompanyMem
import Derived.Conc.CompanyCalls
import Derived.Conc.AppendWalk
import Derived.Test.YtlgjaefcfnndhaaGreatDoorK3
set_option linter.unusedVariables false
set_option linter.unusedSimpArgs false
namespace Go.Proofs.YtlgjaefcfnndhaaGreatDoor
open Go.RowKit Go.Conc Go.Pip
set_option maxRecDepth 100000
structure Geo (K : Cfg) (n0 aB rB : Nat) : Prop where
 a0 : n0 ≤ aB
 r0 : n0 ≤ rB
 c0 : n0 ≤ K.c
 aL : aB < K.Low
 rL : rB < K.Low
 ar : aB ≠ rB
 ac : aB ≠ K.c
 rc : rB ≠ K.c
 wa : K.Wr aB
 wr : K.Wr rB
 wn : ∀ b, K.Wr b → n0 ≤ b
 hit : K.ty = 85
structure AutW (w0 : World) (L : Nat) (aB rB rcap : Nat) (VI VT VS VF : Value) (W : Nat) (X : List Nat) (at_ : Int) (w : World) : Prop where
 os : w.os = w0.os
 output : w.output = w0.output
 size : w0.heap.size ≤ w.heap.size
 big : L ≤ w.heap.size
 low : ∀ b, b < w0.heap.size → w.heap[b]? = w0.heap[b]?
 au : Blk w aB 138 #[VI, .int .i64 (W : Int), VT, VS, VF, .slice (some ⟨rB, 0, none⟩) W rcap, .int .i64 at_]
 row : ∃ cur, Blk w rB 71 cur ∧ ∀ j, j < W → cur[j]? = some (.int .u64 ((X.getD j 0 : Nat) : Int))
section
variable {K : Cfg} {w0 w w₁ : World} {L aB rB rcap : Nat} {VI VT VS VF : Value} {W : Nat} {X : List Nat} {at_ : Int}
theorem AutW.rely (g : Geo K w0.heap.size aB rB) (h : AutW w0 L aB rB rcap VI VT VS VF W X at_ w) (r : SuffB K w w₁) : AutW w0 L aB rB rcap VI VT VS VF W X at_ w₁ := by
 obtain ⟨cur, h1, h2⟩ := h.row
 exact ⟨r.os.trans h.os, r.output.trans h.output, Nat.le_trans h.size r.size, Nat.le_trans h.big r.size,
  fun b hb => (r.keep b (Nat.lt_of_lt_of_le hb h.size) (by have := g.c0; omega) (.inl (by have := g.a0; have := g.aL; omega))).trans (h.low b hb),
  h.au.to (r.keep aB h.au.lt g.ac (.inl g.aL)), cur, h1.to (r.keep rB h1.lt g.rc (.inl g.rL)), h2⟩
theorem AutW.re (h : AutW w0 L aB rB rcap VI VT VS VF W X at_ w) (τ : Nat → Question → Nat) (d : Nat) : AutW w0 L aB rB rcap VI VT VS VF W X at_ (Ride.re w τ d) := ⟨h.os, h.output, h.size, h.big, h.low, h.au, h.row⟩
theorem AutW.rd (h : AutW w0 L aB rB rcap VI VT VS VF W X at_ w) {F : Nat → Prop} {sz n : Nat} {v : Value} {xs : List Value} (hr : Rd w0 F sz v n xs) : Rd w (fun _ => True) sz v n xs :=
 Rd.keepT (w := Ride.re w0 w.tape w.drawn) (hr.mono fun _ _ => trivial) ⟨h.os, rfl, h.output, h.size, fun b hb _ => h.low b hb⟩
theorem evB_cell (a : Addr) (wr : Bool) (h : a.block < K.Low) (hs : a.block < w.heap.size) : EvB K w ⟨.cell a, wr, false⟩ :=
 ⟨by simp, by simp, fun x hx => by
  simp [MemAct.ofEvent, MemAct.touch?] at hx
  subst hx
  exact .inl ⟨a, rfl, fun hm => absurd hm.1 (by omega), hs⟩⟩
theorem termsB : Terms (SuffB K) (DB K) := ⟨fun _ _ _ => SuffB.trans, fun w => ⟨SuffA.refl w, rfl, by simp⟩⟩
theorem drawB : LetsDraw (DB K) := fun w => ⟨SuffA.at w (w.drawn + 1), rfl, by simp⟩
theorem ownDrawB (w : World) : SuffB K w { w with drawn := w.drawn + 1 } := SuffB.at w (w.drawn + 1)
theorem termsA : Terms (SuffA K) (DA K) := ⟨fun _ _ _ => SuffA.trans, fun w => ⟨SuffB.refl w, rfl, by simp⟩⟩
theorem suffA_set {p : Addr} (hp : K.Wr p.block) (hL : p.block < K.Low) (u : Value) : SuffA K w (w.setCell p u) := by
 have e : ∀ b, b ≠ p.block → (w.setCell p u).heap[b]? = w.heap[b]? := fun b hb => Below.heap_setCell _ _ _ _ hb
 refine ⟨rfl, rfl, rfl, by simp, fun b _ _ h => e b (fun hb => h (hb ▸ hp)), fun b _ h1 _ => e b (by omega), fun b hb => ?_⟩
 by_cases hbp : b = p.block
 ·subst hbp
  unfold isHit
  simp only [World.setCell, Array.getElem?_modify, if_true]
  cases ho : w.heap[p.block]? with
  | none => simp
  | some o => cases o <;> simp
 ·unfold isHit; rw [e b hbp]
end
end Go.Proofs.YtlgjaefcfnndhaaGreatDoor

namespace Go.Proofs.YtlgjaefcfnndhaaGreatDoor
open Go.Ride
set_option maxRecDepth 100000
theorem mild_names : (Tryz.prog.funcs.toList.all (fun f => f.name != "runtime.NumGoroutine")) = true := by decide +kernel
theorem mild_size : Tryz.prog.funcs.size = 165 := by decide +kernel
theorem mild_idx : (List.range 165).all (fun i => ((Tryz.prog.funcs[i]?.map (·.body.isSome)).getD true) || [0, 1, 145, 146, 147, 148, 149, 150, 151, 152, 153, 154, 155, 156, 157, 158, 159, 160, 161, 162, 163].contains i) = true := by decide +kernel
def MildRow (fn : Func) : Prop := Extern.findNext fn = none ∧ ∀ e, Extern.find fn = some e → ∀ args, Mute Tryz.prog (e args)
theorem mildRow_none {fn : Func} (h1 : Extern.findNext fn = none) (h2 : Extern.find fn = none) : MildRow fn := ⟨h1, fun e he => by rw [h2] at he; cases he⟩
theorem mildRow_some {fn : Func} {r : Array Value → Sem Value} (h1 : Extern.findNext fn = none) (h2 : Extern.find fn = some r) (h : ∀ args, Mute Tryz.prog (r args)) : MildRow fn := ⟨h1, fun e he => by rw [h2] at he; cases he; exact h⟩
theorem mildRow0 : MildRow Tryz.f0 := mildRow_none (by kernel_rfl) (by kernel_rfl)
theorem mildRow1 : MildRow Tryz.f1 := mildRow_none (by kernel_rfl) (by kernel_rfl)
theorem mildRow145 : MildRow Tryz.f145 := mildRow_some (r := Go.Extern.RuntimeError.boundsError) (by kernel_rfl) (by kernel_rfl) mr_boundsError
theorem mildRow146 : MildRow Tryz.f146 := mildRow_some (r := Go.Extern.RuntimeError.nothing) (by kernel_rfl) (by kernel_rfl) mr_nothing
theorem mildRow147 : MildRow Tryz.f147 := mildRow_some (r := fun args => do
  pure (.string ("runtime error: ".toUTF8 ++ (← asString (args.getD 0 (.tuple #[])))))) (by kernel_rfl) (by kernel_rfl) (by
 intro args
 repeat' (first | exact Mute.pure _ | exact Mute.pure' _ | exact m_asString _ | exact m_asAgg _ | exact m_asInt _ | exact mr_text _ | (refine Mute.bind ?_ ?_) | (refine Mute.map ?_) | intro _))
theorem mildRow148 : MildRow Tryz.f148 := mildRow_some (r := Go.Extern.RuntimeError.nothing) (by kernel_rfl) (by kernel_rfl) mr_nothing
theorem mildRow149 : MildRow Tryz.f149 := mildRow_some (r := fun args => do pure (.string (← asString (args.getD 0 (.tuple #[]))))) (by kernel_rfl) (by kernel_rfl) (by
 intro args
 repeat' (first | exact Mute.pure _ | exact Mute.pure' _ | exact m_asString _ | exact m_asAgg _ | exact m_asInt _ | exact mr_text _ | (refine Mute.bind ?_ ?_) | (refine Mute.map ?_) | intro _))
theorem mildRow150 : MildRow Tryz.f150 := mildRow_some (r := Go.Extern.RuntimeError.nothing) (by kernel_rfl) (by kernel_rfl) mr_nothing
theorem mildRow151 : MildRow Tryz.f151 := mildRow_some (r := fun args => do
  pure (.string ("runtime error: ".toUTF8 ++ (← asString ((← asAgg (args.getD 0 (.tuple #[]))).getD 0 (.tuple #[])))))) (by kernel_rfl) (by kernel_rfl) (by
 intro args
 repeat' (first | exact Mute.pure _ | exact Mute.pure' _ | exact m_asString _ | exact m_asAgg _ | exact m_asInt _ | exact mr_text _ | (refine Mute.bind ?_ ?_) | (refine Mute.map ?_) | intro _))
theorem mildRow152 : MildRow Tryz.f152 := mildRow_some (r := Go.Extern.RuntimeError.nothing) (by kernel_rfl) (by kernel_rfl) mr_nothing
theorem mildRow153 : MildRow Tryz.f153 := mildRow_some (r := Go.Extern.RuntimeError.typeAssertionError) (by kernel_rfl) (by kernel_rfl) mr_typeAssertionError
theorem mildRow154 : MildRow Tryz.f154 := mildRow_some (r := Go.Extern.RuntimeError.nothing) (by kernel_rfl) (by kernel_rfl) mr_nothing
theorem mildRow155 : MildRow Tryz.f155 := mildRow_some (r := fun _ => Go.Extern.RuntimeError.text "runtime error: panic called with nil argument") (by kernel_rfl) (by kernel_rfl) (by
 intro args
 repeat' (first | exact Mute.pure _ | exact Mute.pure' _ | exact m_asString _ | exact m_asAgg _ | exact m_asInt _ | exact mr_text _ | (refine Mute.bind ?_ ?_) | (refine Mute.map ?_) | intro _))
theorem mildRow156 : MildRow Tryz.f156 := mildRow_some (r := Go.Extern.RuntimeError.nothing) (by kernel_rfl) (by kernel_rfl) mr_nothing
theorem mildRow157 : MildRow Tryz.f157 := mildRow_none (by kernel_rfl) (by kernel_rfl)
theorem mildRow158 : MildRow Tryz.f158 := mildRow_some (r := Go.Extern.RuntimeError.unhashableTypeError) (by kernel_rfl) (by kernel_rfl) mr_unhashableTypeError
theorem mildRow159 : MildRow Tryz.f159 := mildRow_some (r := Go.Extern.RuntimeError.nothing) (by kernel_rfl) (by kernel_rfl) mr_nothing
theorem mildRow160 : MildRow Tryz.f160 := mildRow_some (r := fun args => do pure (strVal (Go.Extern.Rtype.kindName (← asInt (args.getD 0 (.tuple #[]))).toNat))) (by kernel_rfl) (by kernel_rfl) (by
 intro args
 repeat' (first | exact Mute.pure _ | exact Mute.pure' _ | exact m_asString _ | exact m_asAgg _ | exact m_asInt _ | exact mr_text _ | (refine Mute.bind ?_ ?_) | (refine Mute.map ?_) | intro _))
theorem mildRow161 : MildRow Tryz.f161 := mildRow_none (by kernel_rfl) (by kernel_rfl)
theorem mildRow162 : MildRow Tryz.f162 := mildRow_none (by kernel_rfl) (by kernel_rfl)
theorem mildRow163 : MildRow Tryz.f163 := mildRow_none (by kernel_rfl) (by kernel_rfl)
theorem mild_row {f : Nat} {g fn : Func} (hg : Tryz.prog.funcs[f]? = some g) (h : MildRow g) (hf : Tryz.prog.funcs[f]? = some fn) : MildRow fn := by rw [hg] at hf; cases hf; exact h
theorem mild : Mild Tryz.prog := by
 refine ⟨fun f fn hf => ?_, fun f fn hf hb => ?_⟩
 ·have hm : fn ∈ Tryz.prog.funcs.toList := by
   obtain ⟨h, e⟩ := Array.getElem?_eq_some_iff.1 hf
   rw [← e]; exact Array.getElem_mem_toList h
  have := List.all_eq_true.1 mild_names fn hm
  simpa using this
 ·have hl : f < 165 := by rw [← mild_size]; exact (Array.getElem?_eq_some_iff.1 hf).1
  have h := List.all_eq_true.1 mild_idx f (List.mem_range.2 hl)
  rw [hf] at h
  simp [hb] at h
  suffices H : MildRow fn from H
  rcases h with rfl | rfl | rfl | rfl | rfl | rfl | rfl | rfl | rfl | rfl | rfl | rfl | rfl | rfl | rfl | rfl | rfl | rfl | rfl | rfl | rfl
  ·exact mild_row Tryz.func0 mildRow0 hf
  ·exact mild_row Tryz.func1 mildRow1 hf
  ·exact mild_row Tryz.func145 mildRow145 hf
  ·exact mild_row Tryz.func146 mildRow146 hf
  ·exact mild_row Tryz.func147 mildRow147 hf
  ·exact mild_row Tryz.func148 mildRow148 hf
  ·exact mild_row Tryz.func149 mildRow149 hf
  ·exact mild_row Tryz.func150 mildRow150 hf
  ·exact mild_row Tryz.func151 mildRow151 hf
  ·exact mild_row Tryz.func152 mildRow152 hf
  ·exact mild_row Tryz.func153 mildRow153 hf
  ·exact mild_row Tryz.func154 mildRow154 hf
  ·exact mild_row Tryz.func155 mildRow155 hf
  ·exact mild_row Tryz.func156 mildRow156 hf
  ·exact mild_row Tryz.func157 mildRow157 hf
  ·exact mild_row Tryz.func158 mildRow158 hf
  ·exact mild_row Tryz.func159 mildRow159 hf
  ·exact mild_row Tryz.func160 mildRow160 hf
  ·exact mild_row Tryz.func161 mildRow161 hf
  ·exact mild_row Tryz.func162 mildRow162 hf
  ·exact mild_row Tryz.func163 mildRow163 hf
end Go.Proofs.YtlgjaefcfnndhaaGreatDoor
