/-
 The map of owners of tables.plan, as a list of positions with their rules.
-/
import Derived.Test.YtlgjaefcfnndhaaGreatDoorL31
import Derived.Test.YtlgjaefcfnndhaaGreatDoorL14
import Derived.Maps.Views
set_option linter.unusedVariables false
set_option linter.unusedSimpArgs false
set_option maxHeartbeats 16000000
set_option maxRecDepth 100000
namespace Go.Proofs.YtlgjaefcfnndhaaGreatDoor
open Go.RowKit Go.Maps
theorem qza : ((List.range 256).all fun p => (keyOf Tryz.prog 165 (spotV p)).isSome) = true := by kernel_rfl
def SkOk (sk : Nat → Lit) : Prop := ∀ p, p < 256 → keyOf Tryz.prog 165 (spotV p) = some (sk p)
theorem sk_ex : ∃ sk : Nat → Lit, SkOk sk := by
 refine ⟨fun p => (keyOf Tryz.prog 165 (spotV p)).getD (.bool false), fun p h => ?_⟩
 have := List.all_eq_true.1 qza p (List.mem_range.2 h)
 cases e : keyOf Tryz.prog 165 (spotV p) with
 | none => rw [e] at this; exact absurd this (by simp)
 | some x =>
  show some x = some ((keyOf Tryz.prog 165 (spotV p)).getD (.bool false))
  rw [e]
  rfl
theorem qt1 {p q : Nat} (h : spotV p = spotV q) : p = q := by
 unfold spotV at h
 injection h with h
 have h1 := congrArg (·[0]?) h
 have h2 := congrArg (·[1]?) h
 simp only [List.getElem?_toArray, List.getElem?_cons_zero, List.getElem?_cons_succ, Option.some.injEq, Value.int.injEq, true_and] at h1 h2
 have h3 : 2 ^ (p % 64) = 2 ^ (q % 64) := by exact_mod_cast h2
 have h4 := (Nat.pow_right_inj (by decide : 1 < 2)).1 h3
 have h5 : p / 64 = q / 64 := by exact_mod_cast h1
 omega
theorem sk_ne {sk : Nat → Lit} (K : SkOk sk) {p q : Nat} (hp : p < 256) (hq : q < 256) (h : p ≠ q) : sk p ≠ sk q := fun e => h (qt1 (spotKeyed.inj (K p hp) (e ▸ K q hq)))
theorem qno {sk : Nat → Lit} (K : SkOk sk) {p : Nat} (hp : p < 256) : WideAt.IsKeyLit (sk p) := spotKeyed.key (K p hp)
structure MapOf (sk : Nat → Lit) (D : DataW Unit) (own : List (Nat × Nat)) : Prop where
 tidy : Tidy D
 has : ∀ p, p < 256 → Maps.has D (sk p) = (ownAt own p).isSome
 at_ : ∀ p r, p < 256 → ownAt own p = some r → D.atKey (sk p) (.lit (.int .i64 0)) = .lit (.int .i64 (r : Int))
 size : Maps.size D = own.length
 nd : (own.map Prod.fst).Nodup
 lt : ∀ x ∈ own, x.1 < 256
theorem qr2 {own : List (Nat × Nat)} {p : Nat} (h : ownAt own p = none) : ∀ x ∈ own, x.1 ≠ p := by
 unfold ownAt at h
 simp only [Option.map_eq_none_iff, List.find?_eq_none] at h
 intro x hx e
 exact h x hx (by simpa using e)
theorem qgw (own : List (Nat × Nat)) (p r q : Nat) : ownAt (own ++ [(p, r)]) q = (ownAt own q).or (if p = q then some r else none) := by
 unfold ownAt
 rw [List.find?_append]
 cases List.find? (fun x => x.1 == q) own with
 | some x => rfl
 | none =>
  simp only [Option.none_or, Option.map_none]
  by_cases e : p = q
  ·subst e
   simp
  ·simp [e]
theorem qhw {own : List (Nat × Nat)} {p q : Nat} (h : q ≠ p) : ownAt (own.filter (fun x => x.1 != p)) q = ownAt own q := by
 unfold ownAt
 rw [List.find?_filter]
 congr 1
 congr 1
 funext x
 by_cases e : x.1 = q
 ·have : (x.1 != p) = true := by rw [bne_iff_ne, e]; exact h
  simp [e, h]
 ·simp [e]
theorem qka (own : List (Nat × Nat)) (p : Nat) : ownAt (own.filter (fun x => x.1 != p)) p = none := by
 unfold ownAt
 rw [Option.map_eq_none_iff, List.find?_eq_none]
 intro x hx
 have := (List.mem_filter.1 hx).2
 simpa using this
theorem MapOf.nil (sk : Nat → Lit) : MapOf sk (.map []) [] where
 tidy := tidy_empty
 has := fun _ _ => rfl
 at_ := fun p r _ h => by simp [ownAt] at h
 size := rfl
 nd := by simp
 lt := by simp
theorem MapOf.put {sk : Nat → Lit} (K : SkOk sk) {D : DataW Unit} {own : List (Nat × Nat)} (h : MapOf sk D own) {p r : Nat} (hp : p < 256) (hn : ownAt own p = none) : MapOf sk (D.put (sk p) (.lit (.int .i64 (r : Int)))) (own ++ [(p, r)]) where
 tidy := h.tidy.put (qno K hp) _
 has := fun q hq => by
  by_cases e : p = q
  ·subst e
   rw [has_put_same h.tidy.isMap (qno K hp), qgw]
   simp [hn]
  ·rw [has_put_other (sk_ne K hq hp (Ne.symm e)), h.has q hq, qgw]
   simp [e]
 at_ := fun q s hq hs => by
  rw [qgw] at hs
  by_cases e : p = q
  ·subst e
   rw [hn] at hs
   simp at hs
   subst hs
   exact atKey_put_same h.tidy.isMap (qno K hp) _ _
  ·rw [atKey_put_other (sk_ne K hq hp (Ne.symm e))]
   simp [e] at hs
   exact h.at_ q s hq hs
 size := by
  rw [size_put h.tidy, h.has p hp, hn, h.size]
  simp
 nd := by
  rw [List.map_append, List.nodup_append]
  refine ⟨h.nd, by simp, fun a ha b hb hab => ?_⟩
  simp at hb
  subst hb hab
  obtain ⟨x, hx, rfl⟩ := List.mem_map.1 ha
  exact qr2 hn x hx rfl
 lt := fun x hx => by
  rcases List.mem_append.1 hx with hx | hx
  ·exact h.lt x hx
  ·simp at hx
   subst hx
   exact hp
theorem qor {own : List (Nat × Nat)} (hn : (own.map Prod.fst).Nodup) {p r : Nat} (h : (p, r) ∈ own) : (own.filter (fun x => x.1 != p)).length + 1 = own.length := by
 induction own with
 | nil => simp at h
 | cons y l ih =>
  rw [List.map_cons, List.nodup_cons] at hn
  rcases List.mem_cons.1 h with e | e
  ·subst e
   have : l.filter (fun x => x.1 != p) = l := List.filter_eq_self.2 (fun x hx => by
    rw [bne_iff_ne]
    intro e
    refine hn.1 ?_
    show p ∈ _
    rw [← e]
    exact List.mem_map_of_mem (f := Prod.fst) hx)
   simp [this]
  ·have hy : (y.1 != p) = true := by
    rw [bne_iff_ne]
    intro e2
    refine hn.1 ?_
    rw [e2]
    exact List.mem_map_of_mem (f := Prod.fst) e
   rw [List.filter_cons, if_pos hy, List.length_cons, List.length_cons, ih hn.2 e]
theorem MapOf.del {sk : Nat → Lit} (K : SkOk sk) {D : DataW Unit} {own : List (Nat × Nat)} (h : MapOf sk D own) {p r : Nat} (hp : p < 256) (hr : ownAt own p = some r) : MapOf sk (D.del (sk p)) (own.filter (fun x => x.1 != p)) where
 tidy := h.tidy.del _
 has := fun q hq => by
  by_cases e : q = p
  ·subst e
   rw [has_del_same, qka]
   rfl
  ·rw [has_del_other (sk_ne K hq hp e), h.has q hq, qhw e]
 at_ := fun q s hq hs => by
  by_cases e : q = p
  ·subst e
   rw [qka] at hs
   exact absurd hs (by simp)
  ·rw [atKey_del_other (sk_ne K hq hp e)]
   rw [qhw e] at hs
   exact h.at_ q s hq hs
 size := by
  have h1 := size_del (k := sk p) h.tidy
  rw [h.has p hp, hr, h.size] at h1
  have h2 := qor h.nd (qfd hr)
  simp at h1
  omega
 nd := qfn h.nd _
 lt := fun x hx => h.lt x (List.mem_filter.1 hx).1
end Go.Proofs.YtlgjaefcfnndhaaGreatDoor
