/-
 The automaton that a goroutine of shiftand.Feed's runs, in company: what it holds of the world, and what its steps may do.
-/
import Derived.Test.YtlgjaefcfnndhaaGreatDoorO8
import Derived.Test.YtlgjaefcfnndhaaGreatDoorO11
import Derived.Conc.CompanyMem
import Derived.Conc.CompanyCalls
import Derived.Conc.AppendWalk
import Derived.Test.YtlgjaefcfnndhaaGreatDoorO2
set_option linter.unusedVariables false
set_option linter.unusedSimpArgs false
set_option maxHeartbeats 16000000
set_option maxRecDepth 100000
namespace Go.Proofs.YtlgjaefcfnndhaaGreatDoor
section
open Go.RowKit Go.Conc Go.Pip
structure Geo (K : Cfg) (n0 aB rB : Nat) : Prop where
 a0 : n0 ≤ aB
 r0 : n0 ≤ rB
 c0 : n0 ≤ K.c
 aL : aB < K.Low
 rL : rB < K.Low
 ar : aB ≠ rB
 ac : aB ≠ K.c
 rc : rB ≠ K.c
 wa : K.Wr aB
 wr : K.Wr rB
 wn : ∀ b, K.Wr b → n0 ≤ b
 hit : K.ty = 85
structure AutW (w0 : World) (L : Nat) (aB rB rcap : Nat) (VI VT VS VF : Value) (W : Nat) (X : List Nat) (at_ : Int) (w : World) : Prop where
 os : w.os = w0.os
 output : w.output = w0.output
 size : w0.heap.size ≤ w.heap.size
 big : L ≤ w.heap.size
 low : ∀ b, b < w0.heap.size → w.heap[b]? = w0.heap[b]?
 au : Blk w aB 138 #[VI, .int .i64 (W : Int), VT, VS, VF, .slice (some ⟨rB, 0, none⟩) W rcap, .int .i64 at_]
 row : ∃ cur, Blk w rB 71 cur ∧ ∀ j, j < W → cur[j]? = some (.int .u64 ((X.getD j 0 : Nat) : Int))
section
variable {K : Cfg} {w0 w w₁ : World} {L aB rB rcap : Nat} {VI VT VS VF : Value} {W : Nat} {X : List Nat} {at_ : Int}
theorem AutW.rely (g : Geo K w0.heap.size aB rB) (h : AutW w0 L aB rB rcap VI VT VS VF W X at_ w) (r : SuffB K w w₁) : AutW w0 L aB rB rcap VI VT VS VF W X at_ w₁ := by
 obtain ⟨cur, h1, h2⟩ := h.row
 exact ⟨r.os.trans h.os, r.output.trans h.output, Nat.le_trans h.size r.size, Nat.le_trans h.big r.size,
  fun b hb => (r.keep b (Nat.lt_of_lt_of_le hb h.size) (by have := g.c0; omega) (.inl (by have := g.a0; have := g.aL; omega))).trans (h.low b hb),
  h.au.to (r.keep aB h.au.lt g.ac (.inl g.aL)), cur, h1.to (r.keep rB h1.lt g.rc (.inl g.rL)), h2⟩
theorem AutW.re (h : AutW w0 L aB rB rcap VI VT VS VF W X at_ w) (τ : Nat → Question → Nat) (d : Nat) : AutW w0 L aB rB rcap VI VT VS VF W X at_ (Ride.re w τ d) := ⟨h.os, h.output, h.size, h.big, h.low, h.au, h.row⟩
theorem AutW.rd (h : AutW w0 L aB rB rcap VI VT VS VF W X at_ w) {F : Nat → Prop} {sz n : Nat} {v : Value} {xs : List Value} (hr : Rd w0 F sz v n xs) : Rd w (fun _ => True) sz v n xs :=
 Rd.keepT (w := Ride.re w0 w.tape w.drawn) (hr.mono fun _ _ => trivial) ⟨h.os, rfl, h.output, h.size, fun b hb _ => h.low b hb⟩
theorem qa9 (a : Addr) (wr : Bool) (h : a.block < K.Low) (hs : a.block < w.heap.size) : EvB K w ⟨.cell a, wr, false⟩ :=
 ⟨by simp, by simp, fun x hx => by
  simp [MemAct.ofEvent, MemAct.touch?] at hx
  subst hx
  exact .inl ⟨a, rfl, fun hm => absurd hm.1 (by omega), hs⟩⟩
theorem qaa : Terms (SuffB K) (DB K) := ⟨fun _ _ _ => SuffB.trans, fun w => ⟨SuffA.refl w, rfl, by simp⟩⟩
theorem drawB : LetsDraw (DB K) := fun w => ⟨SuffA.at w (w.drawn + 1), rfl, by simp⟩
theorem qmq (w : World) : SuffB K w { w with drawn := w.drawn + 1 } := SuffB.at w (w.drawn + 1)
theorem qax : Terms (SuffA K) (DA K) := ⟨fun _ _ _ => SuffA.trans, fun w => ⟨SuffB.refl w, rfl, by simp⟩⟩
theorem qlb {p : Addr} (hp : K.Wr p.block) (hL : p.block < K.Low) (u : Value) : SuffA K w (w.setCell p u) := by
 have e : ∀ b, b ≠ p.block → (w.setCell p u).heap[b]? = w.heap[b]? := fun b hb => Below.heap_setCell _ _ _ _ hb
 refine ⟨rfl, rfl, rfl, by simp, fun b _ _ h => e b (fun hb => h (hb ▸ hp)), fun b _ h1 _ => e b (by omega), fun b hb => ?_⟩
 by_cases hbp : b = p.block
 ·subst hbp
  unfold isHit
  simp only [World.setCell, Array.getElem?_modify, if_true]
  cases ho : w.heap[p.block]? with
  | none => simp
  | some o => cases o <;> simp
 ·unfold isHit; rw [e b hbp]
end
end
section
open Go.Ride
theorem qrf : (Tryz.prog.funcs.toList.all (fun f => f.name != "runtime.NumGoroutine")) = true := by decide +kernel
theorem qtx : Tryz.prog.funcs.size = 165 := by decide +kernel
theorem qv6 : (List.range 165).all (fun i => ((Tryz.prog.funcs[i]?.map (·.body.isSome)).getD true) || [0, 1, 145, 146, 147, 148, 149, 150, 151, 152, 153, 154, 155, 156, 157, 158, 159, 160, 161, 162, 163].contains i) = true := by decide +kernel
def qas (fn : Func) : Prop := Extern.findNext fn = none ∧ ∀ e, Extern.find fn = some e → ∀ args, Mute Tryz.prog (e args)
theorem qcn {fn : Func} (h1 : Extern.findNext fn = none) (h2 : Extern.find fn = none) : qas fn := ⟨h1, fun e he => by rw [h2] at he; cases he⟩
theorem qar {fn : Func} {r : Array Value → Sem Value} (h1 : Extern.findNext fn = none) (h2 : Extern.find fn = some r) (h : ∀ args, Mute Tryz.prog (r args)) : qas fn := ⟨h1, fun e he => by rw [h2] at he; cases he; exact h⟩
theorem qv7 : qas Tryz.f0 := qcn (by kernel_rfl) (by kernel_rfl)
theorem qv8 : qas Tryz.f1 := qcn (by kernel_rfl) (by kernel_rfl)
theorem qrg : qas Tryz.f145 := qar (r := Go.Extern.RuntimeError.boundsError) (by kernel_rfl) (by kernel_rfl) qk4
theorem qrh : qas Tryz.f146 := qar (r := Go.Extern.RuntimeError.nothing) (by kernel_rfl) (by kernel_rfl) qcu
theorem qri : qas Tryz.f147 := qar (r := fun args => do
  pure (.string ("runtime error: ".toUTF8 ++ (← asString (args.getD 0 (.tuple #[])))))) (by kernel_rfl) (by kernel_rfl) (by
 intro args
 exact mS)
theorem qrj : qas Tryz.f148 := qar (r := Go.Extern.RuntimeError.nothing) (by kernel_rfl) (by kernel_rfl) qcu
theorem qrk : qas Tryz.f149 := qar (r := fun args => do pure (.string (← asString (args.getD 0 (.tuple #[]))))) (by kernel_rfl) (by kernel_rfl) (by
 intro args
 exact mS)
theorem qrl : qas Tryz.f150 := qar (r := Go.Extern.RuntimeError.nothing) (by kernel_rfl) (by kernel_rfl) qcu
theorem qrm : qas Tryz.f151 := qar (r := fun args => do
  pure (.string ("runtime error: ".toUTF8 ++ (← asString ((← asAgg (args.getD 0 (.tuple #[]))).getD 0 (.tuple #[])))))) (by kernel_rfl) (by kernel_rfl) (by
 intro args
 exact mS)
theorem qrn : qas Tryz.f152 := qar (r := Go.Extern.RuntimeError.nothing) (by kernel_rfl) (by kernel_rfl) qcu
theorem qro : qas Tryz.f153 := qar (r := Go.Extern.RuntimeError.typeAssertionError) (by kernel_rfl) (by kernel_rfl) qga
theorem qrp : qas Tryz.f154 := qar (r := Go.Extern.RuntimeError.nothing) (by kernel_rfl) (by kernel_rfl) qcu
theorem qrq : qas Tryz.f155 := qar (r := fun _ => Go.Extern.RuntimeError.text "runtime error: panic called with nil argument") (by kernel_rfl) (by kernel_rfl) (by
 intro args
 exact mS)
theorem qrr : qas Tryz.f156 := qar (r := Go.Extern.RuntimeError.nothing) (by kernel_rfl) (by kernel_rfl) qcu
theorem qrs : qas Tryz.f157 := qcn (by kernel_rfl) (by kernel_rfl)
theorem qrt : qas Tryz.f158 := qar (r := Go.Extern.RuntimeError.unhashableTypeError) (by kernel_rfl) (by kernel_rfl) qfu
theorem qru : qas Tryz.f159 := qar (r := Go.Extern.RuntimeError.nothing) (by kernel_rfl) (by kernel_rfl) qcu
theorem qrv : qas Tryz.f160 := qar (r := fun args => do pure (strVal (Go.Extern.Rtype.kindName (← asInt (args.getD 0 (.tuple #[]))).toNat))) (by kernel_rfl) (by kernel_rfl) (by
 intro args
 exact mS)
theorem qrw : qas Tryz.f161 := qcn (by kernel_rfl) (by kernel_rfl)
theorem qrx : qas Tryz.f162 := qcn (by kernel_rfl) (by kernel_rfl)
theorem qry : qas Tryz.f163 := qcn (by kernel_rfl) (by kernel_rfl)
theorem qaw {f : Nat} {g fn : Func} (hg : Tryz.prog.funcs[f]? = some g) (h : qas g) (hf : Tryz.prog.funcs[f]? = some fn) : qas fn := by rw [hg] at hf; cases hf; exact h
theorem mild : Mild Tryz.prog := by
 refine ⟨fun f fn hf => ?_, fun f fn hf hb => ?_⟩
 ·have hm : fn ∈ Tryz.prog.funcs.toList := by
   obtain ⟨h, e⟩ := Array.getElem?_eq_some_iff.1 hf
   rw [← e]; exact Array.getElem_mem_toList h
  have := List.all_eq_true.1 qrf fn hm
  simpa using this
 ·have hl : f < 165 := by rw [← qtx]; exact (Array.getElem?_eq_some_iff.1 hf).1
  have h := List.all_eq_true.1 qv6 f (List.mem_range.2 hl)
  rw [hf] at h
  simp [hb] at h
  suffices H : qas fn from H
  rcases h with rfl | rfl | rfl | rfl | rfl | rfl | rfl | rfl | rfl | rfl | rfl | rfl | rfl | rfl | rfl | rfl | rfl | rfl | rfl | rfl | rfl
  ·exact qaw Tryz.func0 qv7 hf
  ·exact qaw Tryz.func1 qv8 hf
  ·exact qaw Tryz.func145 qrg hf
  ·exact qaw Tryz.func146 qrh hf
  ·exact qaw Tryz.func147 qri hf
  ·exact qaw Tryz.func148 qrj hf
  ·exact qaw Tryz.func149 qrk hf
  ·exact qaw Tryz.func150 qrl hf
  ·exact qaw Tryz.func151 qrm hf
  ·exact qaw Tryz.func152 qrn hf
  ·exact qaw Tryz.func153 qro hf
  ·exact qaw Tryz.func154 qrp hf
  ·exact qaw Tryz.func155 qrq hf
  ·exact qaw Tryz.func156 qrr hf
  ·exact qaw Tryz.func157 qrs hf
  ·exact qaw Tryz.func158 qrt hf
  ·exact qaw Tryz.func159 qru hf
  ·exact qaw Tryz.func160 qrv hf
  ·exact qaw Tryz.func161 qrw hf
  ·exact qaw Tryz.func162 qrx hf
  ·exact qaw Tryz.func163 qry hf
end
end Go.Proofs.YtlgjaefcfnndhaaGreatDoor
