/-
  What dragnetlaw24.NetworkApplies holds on to: two arenas beside a list of slots; the cells that it stores.
-/
import Derived.Test.YtlefjlclhmapaaaPG
import Derived.Test.YtlefjlclhmapaaaRead24
import Derived.Test.YtlefjlclhmapaaaNetRel
import Derived.Test.YtlefjlclhmapaaaRefApErr
import Derived.Test.YtlefjlclhmapaaaNetApErr
namespace Go.Proofs.Ytlefjlclhmapaaa
open Go.RowKit
set_option linter.unusedVariables false
set_option maxRecDepth 100000
/-- Two arenas beside a list of slots. -/
def ApP (w0 w : World) (v : Value) (n : Nat) (L : List Sl) (p r : Nat) (C : List (BitVec 64)) (E : List Ev) (C' : List (BitVec 64)) (E' : List Ev) : Prop :=
  ∃ G, PG w0 w G p r C E C' E' ∧ Rd w G 3 v n (slC L)
section
variable {w0 w w' : World} {v : Value} {n p r : Nat} {L : List Sl} {C C' C2 : List (BitVec 64)} {E E' E2 : List Ev}
theorem ApP.off (h : ApP w0 w v n L p r C E C' E') (o : Off Nob w w') : ApP w0 w' v n L p r C E C' E' := by
  obtain ⟨G, h1, h2⟩ := h
  exact ⟨G, h1.off o, h2.keep o (fun _ _ h => h)⟩
theorem ApP.old (h : ApP w0 w v n L p r C E C' E') : Off Nob w0 w := by obtain ⟨G, h1, h2⟩ := h; exact h1.half.old
theorem ApP.rd (h : ApP w0 w v n L p r C E C' E') : ∃ G, Rd w G 3 v n (slC L) := by obtain ⟨G, h1, h2⟩ := h; exact ⟨G, h2⟩
theorem ApP.ar (h : ApP w0 w v n L p r C E C' E') : ∃ F, Ar w F p C E := by obtain ⟨G, ⟨F, R, ha, _⟩, h2⟩ := h; exact ⟨F, ha⟩
theorem ApP.rf (h : ApP w0 w v n L p r C E C' E') : ∃ F, Rf w F r C' E' := by obtain ⟨G, ⟨F, R, ha, hr, _⟩, h2⟩ := h; exact ⟨R, hr⟩
theorem ApP.first (h : ApP w0 w v n L p r C E C' E') {P : Program} {f : FuncId} {xs : Array Value} {e0 : Ending}
    (hc : ∀ w F, Ar w F p C E → Calls P f xs w fun e w' => e = e0 ∧ ArTo w F p C2 E2 w') : Calls P f xs w fun e w' => e = e0 ∧ ApP w0 w' v n L p r C2 E2 C' E' := by
  obtain ⟨G, h1, h2⟩ := h
  exact (h1.first hc).mono fun e w' ⟨he, h3, o⟩ => ⟨he, G, h3, h2.keepG o⟩
theorem ApP.second (h : ApP w0 w v n L p r C E C' E') {P : Program} {f : FuncId} {xs : Array Value} {e0 : Ending}
    (hc : ∀ w F, Rf w F r C' E' → Calls P f xs w fun e w' => e = e0 ∧ RfTo w F r C2 E2 w') : Calls P f xs w fun e w' => e = e0 ∧ ApP w0 w' v n L p r C E C2 E2 := by
  obtain ⟨G, h1, h2⟩ := h
  exact (h1.second hc).mono fun e w' ⟨he, h3, o⟩ => ⟨he, G, h3, h2.keepG o⟩
/-- The specification's Read: a list more, of the same slots. -/
theorem ApP.read (h : ApP w0 w v n L p r C E C' E') (base m : Nat) (hz : ckS C'.length E'.length base m = 0) (hL : rdL base C' m = L) (hm : m = n) :
    Calls Try.prog 27 #[.pointer (some ⟨r, 0, none⟩), .int .i64 (base : Int), .int .i64 (m : Int)] w fun e w' => ∃ u E2, e = .returned (.tuple #[u, .int .i64 0]) ∧ ApP w0 w' v n L p r C E C' E2 ∧ ∃ G, Rd w' G 3 u n (slC L) := by
  subst hm
  obtain ⟨G, h1, h2⟩ := h
  obtain ⟨F, R, ha, hr, ho, hf, hg, hd, hG⟩ := h1
  refine (rread_ok hr base m hz).mono fun e w' ⟨u, he, F1, a1, a2, a3, a4, a5, a6⟩ => ?_
  rw [hL] at a5
  have oG : Off (Not_ G) w w' := a3.mono fun k hk hf hG2 => (hG k hG2).2.2 hf
  have low : ∀ k, R k → w.heap.size ≤ k → False := fun k hk hk2 => by have := a4 k hk; omega
  refine ⟨u, _, he, ⟨G, ⟨F, F1, ha.keep a3 hd, a1, ho.own a3 hg, hf, fun k hk => ?_, fun k hk hn => ?_, fun k hk => ?_⟩, h2.keepG oG⟩, fun _ => True, Rd.own a5 (fun _ _ => trivial)⟩
  · rcases a2 k hk with h | h
    · exact hg k h
    · exact Nat.le_trans ho.size h
  · rcases a2 k hn with h | h
    · exact hd k hk h
    · have := ha.lt k hk; omega
  · obtain ⟨c1, c2, c3⟩ := hG k hk
    refine ⟨Nat.lt_of_lt_of_le c1 a3.size, c2, fun h => ?_⟩
    rcases a2 k h with h | h
    · exact c3 h
    · omega
end
/-- The cells behind k slots. -/
def PkD (A : List Sl) (D : List Nat) (n k : Nat) (C : List (BitVec 64)) : Prop := C.length = 4 * n ∧ ∀ i, i < k → cl C (3 * i) = (sl A i).1 ∧ cl C (3 * i + 1) = (sl A i).2.1 ∧ cl C (3 * i + 2) = (sl A i).2.2 ∧ cl C (3 * n + i) = BitVec.ofNat 64 (D.getD i 0)
/-- The cells behind c cells of a slot. -/
def slS (A : List Sl) (k : Nat) (s : List (BitVec 64) × List Ev) : Nat → List (BitVec 64) × List Ev
  | 0 => s
  | 1 => (s.1.set (3 * k) (sl A k).1, s.2 ++ [(2, 3 * k)])
  | 2 => ((s.1.set (3 * k) (sl A k).1).set (3 * k + 1) (sl A k).2.1, (s.2 ++ [(2, 3 * k)]) ++ [(2, 3 * k + 1)])
  | _ => (((s.1.set (3 * k) (sl A k).1).set (3 * k + 1) (sl A k).2.1).set (3 * k + 2) (sl A k).2.2, ((s.2 ++ [(2, 3 * k)]) ++ [(2, 3 * k + 1)]) ++ [(2, 3 * k + 2)])
theorem slS_len (A : List Sl) (k : Nat) (s : List (BitVec 64) × List Ev) : ∀ c, c ≤ 3 → (slS A k s c).1.length = s.1.length ∧ (slS A k s c).2.length = s.2.length + c := by
  intro c hc
  have : c = 0 ∨ c = 1 ∨ c = 2 ∨ c = 3 := by omega
  rcases this with rfl | rfl | rfl | rfl <;> simp [slS]
theorem PkD.step {A : List Sl} {D : List Nat} {n k : Nat} {s : List (BitVec 64) × List Ev} (h : PkD A D n k s.1) (hk : k < n) : PkD A D n (k + 1) ((slS A k s 3).1.set (3 * n + k) (BitVec.ofNat 64 (D.getD k 0))) := by
  obtain ⟨C, E⟩ := s
  obtain ⟨h1, h2⟩ := h
  dsimp only at h1 h2
  show PkD A D n (k + 1) ((((C.set (3 * k) (sl A k).1).set (3 * k + 1) (sl A k).2.1).set (3 * k + 2) (sl A k).2.2).set (3 * n + k) (BitVec.ofNat 64 (D.getD k 0)))
  refine ⟨by simpa using h1, fun i hi => ?_⟩
  have key : ∀ x, cl ((((C.set (3 * k) (sl A k).1).set (3 * k + 1) (sl A k).2.1).set (3 * k + 2) (sl A k).2.2).set (3 * n + k) (BitVec.ofNat 64 (D.getD k 0))) x = if x = 3 * n + k then BitVec.ofNat 64 (D.getD k 0) else if x = 3 * k + 2 then (sl A k).2.2 else if x = 3 * k + 1 then (sl A k).2.1 else if x = 3 * k then (sl A k).1 else cl C x := fun x => by
    rw [cl_set _ _ _ _ (by simp; omega), cl_set _ _ _ _ (by simp; omega), cl_set _ _ _ _ (by simp; omega), cl_set _ _ _ _ (by omega)]
  rw [key, key, key, key]
  by_cases e : i = k
  · rw [e]
    rw [if_neg (show ¬ 3 * k = 3 * n + k by omega), if_neg (show ¬ 3 * k = 3 * k + 2 by omega), if_neg (show ¬ 3 * k = 3 * k + 1 by omega), if_pos rfl]
    rw [if_neg (show ¬ 3 * k + 1 = 3 * n + k by omega), if_neg (show ¬ 3 * k + 1 = 3 * k + 2 by omega), if_pos rfl]
    rw [if_neg (show ¬ 3 * k + 2 = 3 * n + k by omega), if_pos rfl, if_pos rfl]
    exact ⟨rfl, rfl, rfl, rfl⟩
  · have far : ∀ x, x < 3 * k ∨ (3 * n ≤ x ∧ x < 3 * n + k) → (if x = 3 * n + k then BitVec.ofNat 64 (D.getD k 0) else if x = 3 * k + 2 then (sl A k).2.2 else if x = 3 * k + 1 then (sl A k).2.1 else if x = 3 * k then (sl A k).1 else cl C x) = cl C x := fun x hx => by
      rw [if_neg (by omega), if_neg (by omega), if_neg (by omega), if_neg (by omega)]
    rw [far _ (by omega), far _ (by omega), far _ (by omega), far _ (by omega)]
    exact h2 i (by omega)
/-- What Read finds of slots that lie in cells. -/
theorem rdL_of {n : Nat} {C : List (BitVec 64)} {s : List Sl × List Nat} (h : RelC n C s) : rdL 0 C n = s.1 := by
  obtain ⟨h1, h2, h3, h4, h5⟩ := h
  apply List.ext_getElem
  · rw [rdL_len, h2]
  · intro i hi hi2
    rw [rdL_len] at hi
    obtain ⟨a, b, c, _⟩ := h5 i hi
    have e : (rdL 0 C n)[i] = (cl C (0 + 3 * i), cl C (0 + 3 * i + 1), cl C (0 + 3 * i + 2)) := by simp [rdL, rdV]
    rw [e, Nat.zero_add, a, b, c]
    simp [sl, hi2]
end Go.Proofs.Ytlefjlclhmapaaa
