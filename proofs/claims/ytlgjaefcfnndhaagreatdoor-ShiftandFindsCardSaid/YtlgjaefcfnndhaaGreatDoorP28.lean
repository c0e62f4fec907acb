/-
 The map of owners of tables.plan, as a list of positions with their rules.
-/
import Derived.Test.YtlgjaefcfnndhaaGreatDoorP26
import Derived.Test.YtlgjaefcfnndhaaGreatDoorP12
import Derived.Maps.Views
import Derived.Test.YtlgjaefcfnndhaaGreatDoorP27
import Derived.WalkMore
import Derived.Laws.Bits64b
set_option linter.unusedVariables false
set_option linter.unusedSimpArgs false
set_option maxHeartbeats 16000000
set_option maxRecDepth 100000
namespace Go.Proofs.YtlgjaefcfnndhaaGreatDoor
section
open Go.RowKit Go.Maps
theorem q1q : ((List.range 256).all fun p => (keyOf Tryz.prog 165 (spotV p)).isSome) = true := by kernel_rfl
def SkOk (sk : Nat → Lit) : Prop := ∀ p, p < 256 → keyOf Tryz.prog 165 (spotV p) = some (sk p)
theorem sk_ex : ∃ sk : Nat → Lit, SkOk sk := by
 refine ⟨fun p => (keyOf Tryz.prog 165 (spotV p)).getD (.bool false), fun p h => ?_⟩
 have := List.all_eq_true.1 q1q p (List.mem_range.2 h)
 cases e : keyOf Tryz.prog 165 (spotV p) with
 | none => rw [e] at this; exact absurd this (by simp)
 | some x =>
  show some x = some ((keyOf Tryz.prog 165 (spotV p)).getD (.bool false))
  rw [e]
  rfl
theorem qve {p q : Nat} (h : spotV p = spotV q) : p = q := by
 unfold spotV at h
 injection h with h
 have h1 := congrArg (·[0]?) h
 have h2 := congrArg (·[1]?) h
 simp only [List.getElem?_toArray, List.getElem?_cons_zero, List.getElem?_cons_succ, Option.some.injEq, Value.int.injEq, true_and] at h1 h2
 have h3 : 2 ^ (p % 64) = 2 ^ (q % 64) := by exact_mod_cast h2
 have h4 := (Nat.pow_right_inj (by decide : 1 < 2)).1 h3
 have h5 : p / 64 = q / 64 := by exact_mod_cast h1
 omega
theorem sk_ne {sk : Nat → Lit} (K : SkOk sk) {p q : Nat} (hp : p < 256) (hq : q < 256) (h : p ≠ q) : sk p ≠ sk q := fun e => h (qve (spotKeyed.inj (K p hp) (e ▸ K q hq)))
theorem qof {sk : Nat → Lit} (K : SkOk sk) {p : Nat} (hp : p < 256) : WideAt.IsKeyLit (sk p) := spotKeyed.key (K p hp)
structure MapOf (sk : Nat → Lit) (D : DataW Unit) (own : List (Nat × Nat)) : Prop where
 tidy : Tidy D
 has : ∀ p, p < 256 → Maps.has D (sk p) = (ownAt own p).isSome
 at_ : ∀ p r, p < 256 → ownAt own p = some r → D.atKey (sk p) (.lit (.int .i64 0)) = .lit (.int .i64 (r : Int))
 size : Maps.size D = own.length
 nd : (own.map Prod.fst).Nodup
 lt : ∀ x ∈ own, x.1 < 256
theorem qta {own : List (Nat × Nat)} {p : Nat} (h : ownAt own p = none) : ∀ x ∈ own, x.1 ≠ p := by
 unfold ownAt at h
 simp only [Option.map_eq_none_iff, List.find?_eq_none] at h
 intro x hx e
 exact h x hx (by simpa using e)
theorem qgy (own : List (Nat × Nat)) (p r q : Nat) : ownAt (own ++ [(p, r)]) q = (ownAt own q).or (if p = q then some r else none) := by
 unfold ownAt
 rw [List.find?_append]
 cases List.find? (fun x => x.1 == q) own with
 | some x => rfl
 | none =>
  simp only [Option.none_or, Option.map_none]
  by_cases e : p = q
  ·subst e
   simp
  ·simp [e]
theorem qhx {own : List (Nat × Nat)} {p q : Nat} (h : q ≠ p) : ownAt (own.filter (fun x => x.1 != p)) q = ownAt own q := by
 unfold ownAt
 rw [List.find?_filter]
 congr 1
 congr 1
 funext x
 by_cases e : x.1 = q
 ·have : (x.1 != p) = true := by rw [bne_iff_ne, e]; exact h
  simp [e, h]
 ·simp [e]
theorem qkk (own : List (Nat × Nat)) (p : Nat) : ownAt (own.filter (fun x => x.1 != p)) p = none := by
 unfold ownAt
 rw [Option.map_eq_none_iff, List.find?_eq_none]
 intro x hx
 have := (List.mem_filter.1 hx).2
 simpa using this
theorem MapOf.nil (sk : Nat → Lit) : MapOf sk (.map []) [] where
 tidy := tidy_empty
 has := fun _ _ => rfl
 at_ := fun p r _ h => by simp [ownAt] at h
 size := rfl
 nd := by simp
 lt := by simp
theorem MapOf.put {sk : Nat → Lit} (K : SkOk sk) {D : DataW Unit} {own : List (Nat × Nat)} (h : MapOf sk D own) {p r : Nat} (hp : p < 256) (hn : ownAt own p = none) : MapOf sk (D.put (sk p) (.lit (.int .i64 (r : Int)))) (own ++ [(p, r)]) where
 tidy := h.tidy.put (qof K hp) _
 has := fun q hq => by
  by_cases e : p = q
  ·subst e
   rw [has_put_same h.tidy.isMap (qof K hp), qgy]
   simp [hn]
  ·rw [has_put_other (sk_ne K hq hp (Ne.symm e)), h.has q hq, qgy]
   simp [e]
 at_ := fun q s hq hs => by
  rw [qgy] at hs
  by_cases e : p = q
  ·subst e
   rw [hn] at hs
   simp at hs
   subst hs
   exact atKey_put_same h.tidy.isMap (qof K hp) _ _
  ·rw [atKey_put_other (sk_ne K hq hp (Ne.symm e))]
   simp [e] at hs
   exact h.at_ q s hq hs
 size := by
  rw [size_put h.tidy, h.has p hp, hn, h.size]
  simp
 nd := by
  rw [List.map_append, List.nodup_append]
  refine ⟨h.nd, by simp, fun a ha b hb hab => ?_⟩
  simp at hb
  subst hb hab
  obtain ⟨x, hx, rfl⟩ := List.mem_map.1 ha
  exact qta hn x hx rfl
 lt := fun x hx => by
  rcases List.mem_append.1 hx with hx | hx
  ·exact h.lt x hx
  ·simp at hx
   subst hx
   exact hp
theorem qp1 {own : List (Nat × Nat)} (hn : (own.map Prod.fst).Nodup) {p r : Nat} (h : (p, r) ∈ own) : (own.filter (fun x => x.1 != p)).length + 1 = own.length := by
 induction own with
 | nil => simp at h
 | cons y l ih =>
  rw [List.map_cons, List.nodup_cons] at hn
  rcases List.mem_cons.1 h with e | e
  ·subst e
   have : l.filter (fun x => x.1 != p) = l := List.filter_eq_self.2 (fun x hx => by
    rw [bne_iff_ne]
    intro e
    refine hn.1 ?_
    show p ∈ _
    rw [← e]
    exact List.mem_map_of_mem (f := Prod.fst) hx)
   simp [this]
  ·have hy : (y.1 != p) = true := by
    rw [bne_iff_ne]
    intro e2
    refine hn.1 ?_
    rw [e2]
    exact List.mem_map_of_mem (f := Prod.fst) e
   rw [List.filter_cons, if_pos hy, List.length_cons, List.length_cons, ih hn.2 e]
theorem MapOf.del {sk : Nat → Lit} (K : SkOk sk) {D : DataW Unit} {own : List (Nat × Nat)} (h : MapOf sk D own) {p r : Nat} (hp : p < 256) (hr : ownAt own p = some r) : MapOf sk (D.del (sk p)) (own.filter (fun x => x.1 != p)) where
 tidy := h.tidy.del _
 has := fun q hq => by
  by_cases e : q = p
  ·subst e
   rw [has_del_same, qkk]
   rfl
  ·rw [has_del_other (sk_ne K hq hp e), h.has q hq, qhx e]
 at_ := fun q s hq hs => by
  by_cases e : q = p
  ·subst e
   rw [qkk] at hs
   exact absurd hs (by simp)
  ·rw [atKey_del_other (sk_ne K hq hp e)]
   rw [qhx e] at hs
   exact h.at_ q s hq hs
 size := by
  have h1 := size_del (k := sk p) h.tidy
  rw [h.has p hp, hr, h.size] at h1
  have h2 := qp1 h.nd (qfj hr)
  simp at h1
  omega
 nd := qft h.nd _
 lt := fun x hx => h.lt x (List.mem_filter.1 hx).1
end
section
open Go.RowKit Go.Maps
def NPlan (F S T : List Nat) (W n : Nat) (w : World) (e : Ending) (w' : World) : Prop := ∃ (x : Int) (A : Option Addr) (k c : Nat) (b : Bool), e = .returned (.tuple #[.agg #[.int .i64 x, .slice A k c], .bool b]) ∧ (planC F S T W n = none ∧ b = false ∨ ∃ l, planC F S T W n = some l ∧ b = true ∧ x = (W : Int) ∧ Rd w' (fun k => w.heap.size ≤ k) 3 (.slice A k c) l.length (lnV l)) ∧ Off Nob w w'
theorem qkl {F : List Nat} {W : Nat} : ∀ {n i : Nat}, i ≤ n → ∃ rest, prs F W n = prs F W i ++ rest
 | 0, i, h => ⟨[], by (obtain rfl : i = 0 := by omega); simp⟩
 | n + 1, i, h => by
  by_cases e : i = n + 1
  ·subst e
   exact ⟨[], by simp⟩
  ·obtain ⟨rest, hr⟩ := qkl (F := F) (W := W) (n := n) (i := i) (by omega)
   exact ⟨rest ++ prsR F W n, by rw [prs, hr, List.append_assoc]⟩
theorem qxv {F S T L : List Nat} {W n i j p r : Nat} (hi : i < n) (hL : onesN (finL F W i) = L) (hj : j < L.length) (hp : L.getD j 0 = p) (h : ownAt (prs F W i ++ (L.take j).map (fun p => (p, i))) p = some r) : planC F S T W n = none := by
 unfold planC
 rw [if_neg]
 intro hn
 obtain ⟨rest, hr⟩ := qkl (F := F) (W := W) (n := n) (i := i + 1) hi
 have hm := qfj h
 have e1 : prs F W n = (prs F W i ++ (L.take j).map (fun p => (p, i))) ++ ((p, i) :: ((L.drop (j + 1)).map (fun p => (p, i)) ++ rest)) := by
  rw [hr, prs]
  unfold prsR
  rw [hL]
  have : L = L.take j ++ p :: L.drop (j + 1) := by
   rw [← hp, gDe, gEe hj]
   simp
  conv => lhs; rw [this]
  simp
 rw [e1, List.map_append, List.nodup_append] at hn
 exact hn.2.2 p (List.mem_map_of_mem (f := Prod.fst) hm) p (by simp) rfl
theorem qqx {F : List Nat} {W n : Nat} (hF : F.length = n * W) : ∀ {i : Nat}, i ≤ n → (prs F W i).length ≤ i * (64 * W)
 | 0, _ => by simp [prs]
 | i + 1, h => by
  rw [prs, List.length_append]
  have h1 := qqx hF (i := i) (by omega)
  have h2 : (prsR F W i).length ≤ 64 * W := by
   unfold prsR
   rw [List.length_map]
   have := qec (finL F W i)
   rwa [qc6 hF (by omega)] at this
  rw [Nat.add_mul]
  omega
theorem qvf {L : List Nat} {j : Nat} (h : j < L.length) (i : Nat) : (L.take (j + 1)).map (fun p => (p, i)) = (L.take j).map (fun p => (p, i)) ++ [(L.getD j 0, i)] := by
 rw [List.take_succ_eq_append_getElem h, List.map_append, gDe, gEe h]
 rfl
theorem qtb (l : List (Nat × Nat)) (p i : Nat) : topOf (l ++ [(p, i)]) = max (topOf l) (p + 1) := by
 unfold topOf
 rw [List.foldl_append]
 rfl
theorem qvg {l : List (Nat × Nat)} {B : Nat} (h : ∀ x ∈ l, x.1 < B) : topOf l ≤ B := qe3 h
theorem qqy {top : Nat} {ss : List Nat} {k f e r : Nat} {own0 own : List (Nat × Nat)} {acc : List Ln} (hk : k < ss.length) (hf : ss.getD k 0 = f) (he : (ss.drop (k + 1)).headD top = e) (hlt : ¬ e ≤ f) (hr : ownAt own (e - 1) = some r) (h : lnC top ss own0 = (lnC top (ss.drop k) own).map (fun y => (acc ++ y.1, y.2))) : lnC top ss own0 = (lnC top (ss.drop (k + 1)) (own.filter (fun x => x.1 != e - 1))).map (fun y => ((acc ++ [(r, f, e - f)]) ++ y.1, y.2)) := by
 rw [h]
 have : ss.drop k = f :: ss.drop (k + 1) := by
  rw [List.drop_eq_getElem_cons hk, ← hf, gDe, gEe hk]
  rfl
 rw [this, lnC, he, if_neg hlt, hr]
 simp only [Option.map_map]
 congr 1
 funext x
 simp
theorem qgz {top : Nat} {ss : List Nat} {k f e : Nat} {own0 own : List (Nat × Nat)} {acc : List Ln} (hk : k < ss.length) (hf : ss.getD k 0 = f) (he : (ss.drop (k + 1)).headD top = e) (hb : e ≤ f ∨ ownAt own (e - 1) = none) (h : lnC top ss own0 = (lnC top (ss.drop k) own).map (fun y => (acc ++ y.1, y.2))) : lnC top ss own0 = none := by
 rw [h]
 have : ss.drop k = f :: ss.drop (k + 1) := by
  rw [List.drop_eq_getElem_cons hk, ← hf, gDe, gEe hk]
  rfl
 rw [this, lnC, he]
 by_cases hle : e ≤ f
 ·rw [if_pos hle]
  rfl
 ·rw [if_neg hle]
  rcases hb with hb | hb
  ·exact absurd hb hle
  ·rw [hb]
   rfl
theorem qeq {F S T ss : List Nat} {W n top : Nat} (hn : ((prs F W n).map Prod.fst).Nodup) (ht : topOf (prs F W n) = top) (hs : onesN S = ss) (h : lnC top ss (prs F W n) = none) : planC F S T W n = none := by
 unfold planC
 rw [if_pos hn, ht, hs, h]
theorem qxw {w W1 W' : World} {B : Nat} {cs : Array Value} {a v : Value} {n m : Nat} {D : DataW Unit} {ls : List Value} (h : Pst w W1 B W' cs a v n D m ls) : ∃ A c, v = .slice A m c := by
 rcases h.lan.2 with ⟨rfl, h0⟩ | ⟨g, cap, cur, rfl, _⟩
 ·exact ⟨none, 0, by rw [h0]⟩
 ·exact ⟨_, cap, rfl⟩
def okI (T : List Nat) (top i : Nat) : Bool := decide (i < top) || (List.range 256).all (fun b => !(T.getD (256 * (i / 64) + b) 0).testBit (i % 64))
theorem qvh {T : List Nat} {W top i b : Nat} (hi : i < 64 * W) (ht : ¬ i < top) (hb : b < 256) (h : (T.getD (256 * (i / 64) + b) 0).testBit (i % 64) = true) : tabOk T W top = false := by
 unfold tabOk
 rw [List.all_eq_false]
 refine ⟨i, List.mem_range.2 hi, ?_⟩
 rw [dF ht, Bool.false_or]
 simp only [Bool.not_eq_true, List.all_eq_false]
 exact ⟨b, List.mem_range.2 hb, by rw [h]; simp⟩
theorem qp2 (x k : Nat) (hx : x < 18446744073709551616) (hk : k < 64) : bits .and .u64 (x : Int) ((2 ^ k : Nat) : Int) = if x.testBit k then ((2 ^ k : Nat) : Int) else 0 := by
 have hp : 2 ^ k < 2 ^ 64 := Nat.pow_lt_pow_right (by decide) hk
 rw [bits_and_u64_nat x (2 ^ k) hx (by omega)]
 have : x &&& 2 ^ k = if x.testBit k then 2 ^ k else 0 := by
  apply Nat.eq_of_testBit_eq
  intro j
  rw [Nat.testBit_and, Nat.testBit_two_pow]
  by_cases e : k = j
  ·subst e
   cases h : x.testBit k <;> simp
  ·cases h : x.testBit k <;> simp [e, Nat.testBit_two_pow]
 rw [this]
 cases x.testBit k <;> simp
theorem qxx {top : Nat} {ss : List Nat} {own0 own : List (Nat × Nat)} {acc : List Ln} (h : lnC top ss own0 = (lnC top (ss.drop ss.length) own).map (fun y => (acc ++ y.1, y.2))) : lnC top ss own0 = some (acc, own) := by
 rw [h, List.drop_length]
 simp [lnC]
theorem qxy {F S T ss : List Nat} {W n top : Nat} {l : List Ln} {o : List (Nat × Nat)} (hn : ((prs F W n).map Prod.fst).Nodup) (ht : topOf (prs F W n) = top) (hs : onesN S = ss) (h : lnC top ss (prs F W n) = some (l, o)) : planC F S T W n = if qao W l && decide (qa1 l + 1 = n) && o.isEmpty && tabOk T W top then some l else none := by
 unfold planC
 rw [if_pos hn, ht, hs, h]
theorem qp3 {w1 w : World} {v : Value} {L : List Nat} {G : Nat → Prop} (hv : w.ownsRow w1.heap.size 3 1 v L.length (natsV L)) (hG : ∀ k, w1.heap.size ≤ k → ¬ G k) : ∃ A c, v = .slice A L.length c ∧ ∀ W', Off G w W' → ∀ k, k < L.length → ∃ b o, A = some ⟨b, o, none⟩ ∧ W'.cell? ⟨b, o + k, none⟩ = some (.int .i64 ((L.getD k 0 : Nat) : Int)) := by
 have hr := Rd.own (F := fun k => w1.heap.size ≤ k ∧ k < w.heap.size) hv (fun k hk => hv.lt k hk)
 obtain ⟨A, c, rfl, h1, h2, h3⟩ := hr
 refine ⟨A, c, rfl, fun W' ho k hk => ?_⟩
 obtain ⟨b, o, rfl, h4, h5, h6⟩ := h3 (by omega)
 exact ⟨b, o, rfl, by rw [World.cell?_of_block (a := ⟨b, o + k, none⟩) (ho.block b h5 (hG b h4.1))]; exact h6 k _ (qdk hk)⟩
theorem q1r (W : Nat) (h1 : 1 ≤ W) (h4 : W ≤ 4) (n : Nat) (hn1 : 1 ≤ n) (hn : n ≤ 16) (F S T : List Nat) (hF : F.length = n * W) (hS : S.length = W) (hT : T.length = 256 * W) (hf64 : ∀ x ∈ F, x < 18446744073709551616) (hs64 : ∀ x ∈ S, x < 18446744073709551616) (ht64 : ∀ x ∈ T, x < 18446744073709551616)
  (w : World) (AI : Option Addr) (ci : Nat) (VT VS VF : Value) (hVT : Rd w (fun _ => True) 1 VT T.length (qab T)) (hVS : Rd w (fun _ => True) 1 VS S.length (qab S)) (hVF : Rd w (fun _ => True) 1 VF F.length (qab F)) (hcT : CapOk VT) (hcF : CapOk VF) (hZ : TzT w) :
  Calls Tryz.prog 75 #[.agg #[.slice AI n ci, .int .i64 W, VT, VS, VF]] w (NPlan F S T W n w) := by
 obtain ⟨i_lane, h_lane, z_lane, s_lane, b_lane⟩ := info_parts Tryz.infoLa
 obtain ⟨sk, hsk⟩ := sk_ex
 have HSK := hID hsk
 have hmm := @run_makeMap Tryz.prog
 have HT := hID hVT
 have HS := hID hVS
 have HF := hID hVF
 have HZ := hID hZ
 have HCF := hID hcF
 have HLF := hID hF
 have HLS := hID hS
 have HLT := hID hT
 have H64 := hID (And.intro hf64 (And.intro hs64 ht64))
 obtain ⟨bt, ot, ct, rfl, hTC⟩ := hVT.cellsT (by omega)
 obtain ⟨AS, cs, rfl, _⟩ := hVS.form
 obtain ⟨AF, cf, rfl, _⟩ := hVF.form
 have hct : T.length ≤ ct := hcT _ _ _ rfl
 have HCT := hID hct
 have HTC0 := hID hTC
 clear hTC
 have hFle : ∀ i, i < n → i * W + W ≤ F.length := fun i hi => by
  rw [HLF.out]
  have : (i + 1) * W ≤ n * W := Nat.mul_le_mul_right _ hi
  rwa [Nat.add_mul, Nat.one_mul] at this
 have hF1024 : F.length ≤ 1024 := by
  rw [HLF.out]
  have := Nat.mul_le_mul hn h4
  omega
 have HFIN := hID (fun (i : Nat) (hi : i < n) (W' : World) (o : Off Nob w W') => qzu (.slice AI n ci) (.slice (some ⟨bt, ot, none⟩) T.length ct) (.slice AS S.length cs) W h1 h4 F i (hFle i hi) hF1024 W' _ (HF.out.keepT o) HCF.out)
 have HFL := hID (fun (i : Nat) (hi : i < n) => qc6 HLF.out hi)
 have HF6 := hID (fun (i : Nat) => show ∀ x ∈ finL F W i, x < 18446744073709551616 from fun x hx => H64.out.1 x (qno hx))
 clear hVT hVS hVF hcT hcF hF hS hT hf64 hs64 ht64 hFle hF1024 hZ hct
 go_enter Tryz.func75, Tryz.ntmps75
 go_wp2
 go_step3
 go_wp2_with fail
 have X0 : Hid (Pst w w (w.heap.size + 3) (((w.alloc (.cells #[.slice AI n ci, .int .i64 W, .slice (some ⟨bt, ot, none⟩) T.length ct, .slice AS S.length cs, .slice AF F.length cf] 25)).alloc (.cells #[.int .i64 0, .slice none 0 0] 62)).alloc (.map #[] 0)) #[.slice AI n ci, .int .i64 W, .slice (some ⟨bt, ot, none⟩) T.length ct, .slice AS S.length cs, .slice AF F.length cf] (.int .i64 0) (.slice none 0 0) 0 (.map []) 0 []) := hID ⟨(oRf.alloc _).alloc _ |>.alloc _, ((Blk.new _ _ _).alloc _).alloc _, by
  have := (Blk.new (w.alloc (.cells #[.slice AI n ci, .int .i64 W, .slice (some ⟨bt, ot, none⟩) T.length ct, .slice AS S.length cs, .slice AF F.length cf] 25)) 62 #[.int .i64 0, .slice none 0 0]).alloc (.map #[] 0)
  simpa using this, by
  have := World.ownsMap_made (H := Unit) ((w.alloc (.cells #[.slice AI n ci, .int .i64 W, .slice (some ⟨bt, ot, none⟩) T.length ct, .slice AS S.length cs, .slice AF F.length cf] 25)).alloc (.cells #[.int .i64 0, .slice none 0 0] 62)) Tryz.prog 165 (plainElem Tryz.prog 3)
  simpa using this, World.ownsRow_nil _ _ _ _, Nat.le_refl _, by simp, fun k h1 h2 => by omega⟩
 revert X0
 generalize (((w.alloc (.cells #[.slice AI n ci, .int .i64 W, .slice (some ⟨bt, ot, none⟩) T.length ct, .slice AS S.length cs, .slice AF F.length cf] 25)).alloc (.cells #[.int .i64 0, .slice none 0 0] 62)).alloc (.map #[] 0)) = w0
 intro X0
 have GC : Hid (∀ W1 B W' a v nn D m ls, Pst w W1 B W' #[.slice AI n ci, .int .i64 W, .slice (some ⟨bt, ot, none⟩) T.length ct, .slice AS S.length cs, .slice AF F.length cf] a v nn D m ls → W'.cell? ⟨w.heap.size, 0, none⟩ = some (.slice AI n ci) ∧ W'.cell? ⟨w.heap.size, 1, none⟩ = some (.int .i64 W) ∧ W'.cell? ⟨w.heap.size, 2, none⟩ = some (.slice (some ⟨bt, ot, none⟩) T.length ct) ∧ W'.cell? ⟨w.heap.size, 3, none⟩ = some (.slice AS S.length cs) ∧ W'.cell? ⟨w.heap.size, 4, none⟩ = some (.slice AF F.length cf) ∧ W'.cell? ⟨w.heap.size + 1, 0, none⟩ = some a ∧ W'.cell? ⟨w.heap.size + 1, 1, none⟩ = some v ∧ W'.frozen? ⟨w.heap.size + 1, 0, none⟩ = false ∧ W'.frozen? ⟨w.heap.size + 1, 1, none⟩ = false) := hID (fun W1 B W' a v nn D m ls h => ⟨h.box.cell 0, h.box.cell 1, h.box.cell 2, h.box.cell 3, h.box.cell 4, h.pla.cell 0, h.pla.cell 1, h.pla.frozen 0, h.pla.frozen 1⟩)
 obtain ⟨s0, s1, s2, s3, s4, p0, p1, f0, f1⟩ := GC.out _ _ _ _ _ _ _ _ _ X0.out
 go_wp2_with fail
 clear s0 s1 s2 s3 s4 p0 p1 f0 f1
 go_loopw [3, 5, 31] (fun t x y wr => ∃ (i nn : Nat) (D : DataW Unit), t = .bool false ∧ i ≤ n ∧ x = .int .i64 (topOf (prs F W i) : Int) ∧ y = .int .i64 (i : Int) ∧ Pst w w (w.heap.size + 3) wr #[.slice AI n ci, .int .i64 W, .slice (some ⟨bt, ot, none⟩) T.length ct, .slice AS S.length cs, .slice AF F.length cf] (.int .i64 0) (.slice none 0 0) nn D 0 [] ∧ MapOf sk D (prs F W i) ∧ nn = (prs F W i).length) (fun _ _ y _ => n - (intOf y).toNat)
 case atStart => exact ⟨0, 0, _, rfl, Nat.zero_le _, rfl, rfl, X0.out, MapOf.nil sk, rfl⟩
 case round =>
  obtain ⟨i, nn, D, rfl, hi, rfl, rfl, hx, hmo, hnn⟩ := hrel
  have X := hID hx
  have HMO := hID hmo
  clear hx hmo X0
  obtain ⟨s0, s1, s2, s3, s4, p0, p1, f0, f1⟩ := GC.out _ _ _ _ _ _ _ _ _ X.out
  by_cases hlt : i < n
  ·have d1 : decide ((i : Int) < (n : Int)) = true := dcT
   go_wp2_with fail
   refine Calls.mono (R := fun e w' => ∃ u, e = .returned u ∧ w'.ownsRow wr.heap.size 71 1 u W (qab (finL F W i)) ∧ Off Nob wr w') (HFIN.out i hlt _ X.out.off) ?_
   rintro e w1 ⟨u, rfl, hu, o1⟩
   have X1 := hID (X.out.go o1)
   have HU := hID (Rd.own (F := fun _ => True) hu (fun _ _ => trivial))
   clear o1 hu X s0 s1 s2 s3 s4 p0 p1 f0 f1
   obtain ⟨s0, s1, s2, s3, s4, p0, p1, f0, f1⟩ := GC.out _ _ _ _ _ _ _ _ _ X1.out
   have hon := qca (HF6.out i)
   have HON := hID (oones u (finL F W i) (HF6.out i) (by rw [HFL.out i hlt]; omega) (by rw [HFL.out i hlt]; omega) (by rw [hon.2]; have := qec (finL F W i); rw [HFL.out i hlt] at this; omega) w1 (by rw [HFL.out i hlt]; exact HU.out) (qbq HZ.out X1.out.off))
   go_wp2_with fail
   refine HON.out.mono ?_
   rintro e w2 ⟨vv, rfl, hv1, o2⟩
   rw [hon.1, hon.2] at hv1
   clear hon HON HU s0 s1 s2 s3 s4 p0 p1 f0 f1
   have HPL := hID (qec (finL F W i))
   obtain ⟨L, hL⟩ : ∃ L, onesN (finL F W i) = L := ⟨_, rfl⟩
   have HL := hID hL
   rw [hL] at hv1
   have HLL := hID (show L.length ≤ 64 * W by rw [← hL]; have := HPL.out; rwa [HFL.out i hlt] at this)
   have HLM := hID (show ∀ p ∈ L, p < 64 * W by
    intro p hp
    rw [← hL] at hp
    have := (qal.1 hp).1
    rwa [HFL.out i hlt] at this)
   have hll := HLL.out
   obtain ⟨Av, cv, rfl, hcl⟩ := qp3 (G := fun k => k = w.heap.size + 2) hv1 (fun k hk e => by have h1 := X1.out.own.lt; omega)
   have HCL := hID hcl
   have X2 := hID (X1.out.go o2)
   clear hv1 hcl hL o2 HPL
   go_wp2_with fail
   go_loopw [3, 5, 43] (fun t x y wq => ∃ (j nn : Nat) (D : DataW Unit), t = .bool false ∧ j ≤ L.length ∧ x = .int .i64 (topOf (prs F W i ++ (L.take j).map (fun p => (p, i))) : Int) ∧ y = .int .i64 (j : Int) ∧ Pst w w (w.heap.size + 3) wq #[.slice AI n ci, .int .i64 W, .slice (some ⟨bt, ot, none⟩) T.length ct, .slice AS S.length cs, .slice AF F.length cf] (.int .i64 0) (.slice none 0 0) nn D 0 [] ∧ MapOf sk D (prs F W i ++ (L.take j).map (fun p => (p, i))) ∧ Off (fun k => k = w.heap.size + 2) w2 wq ∧ nn = (prs F W i).length + j) (fun _ _ y _ => L.length - (intOf y).toNat)
   case atStart => exact ⟨0, _, D, rfl, Nat.zero_le _, by simp, rfl, X2.out, by simpa using HMO.out, Off.refl _ _, hnn⟩
   case round =>
    obtain ⟨j, nj, D', rfl, hj, rfl, rfl, hx, hmo, hoff, hnj⟩ := hrel
    have X := hID hx
    have HM := hID hmo
    have HO2 := hID hoff
    clear hx hmo hoff X2
    obtain ⟨s0, s1, s2, s3, s4, p0, p1, f0, f1⟩ := GC.out _ _ _ _ _ _ _ _ _ X.out
    by_cases hjl : j < L.length
    ·have e1 : decide ((j : Int) < (L.length : Int)) = true := dcT
     obtain ⟨b, o, rfl, c0⟩ := HCL.out _ HO2.out j hjl
     have hp64 : L.getD j 0 < 64 * W := HLM.out _ (qlm hjl)
     have HTK := hID (qvf hjl i)
     obtain ⟨p, hp⟩ : ∃ p, L.getD j 0 = p := ⟨_, rfl⟩
     have HP := hID hp
     rw [hp] at c0 hp64 HTK
     clear hp
     have hp256 : p < 256 := by omega
     have HTB := hID (show topOf (prs F W i ++ (L.take j).map (fun p => (p, i))) ≤ 256 from qvg (fun x hx => HM.out.lt x hx))
     have HTP := hID (qtb (prs F W i ++ (L.take j).map (fun p => (p, i))) p i)
     obtain ⟨own, hown0⟩ : ∃ own, prs F W i ++ (L.take j).map (fun p => (p, i)) = own := ⟨_, rfl⟩
     have HOWN := hID hown0
     rw [hown0] at HM HTB HTP ⊢
     clear hown0
     obtain ⟨a, ha⟩ : ∃ a, topOf own = a := ⟨_, rfl⟩
     rw [ha] at HTB HTP ⊢
     have htb := HTB.out
     clear ha
     have hk := hsk p hp256
     have htat := tat p (by omega)
     go_wp2_with fail
     refine Calls.mono (R := fun e w' => e = .returned (spotV p) ∧ Off Nob wr w') (htat _) ?_
     rintro e x1 ⟨rfl, o1⟩
     have XA := hID (X.out.go o1)
     have OA := hID (HO2.out.also (Off.ofNob o1))
     clear o1 s0 s1 s2 s3 s4 p0 p1 f0 f1 c0
     cases how : ownAt own p with
     | some r =>
      have hh : Maps.has D' (sk p) = true := by rw [HM.out.has p hp256, how]; rfl
      have HNO := hID (qxv (S := S) (T := T) hlt HL.out hjl HP.out (HOWN.out ▸ how))
      clear how
      obtain ⟨s0, s1, s2, s3, s4, p0, p1, f0, f1⟩ := GC.out _ _ _ _ _ _ _ _ _ XA.out
      go_wp2_with (at_lookup; refine wpList_lookup_own_ok_int _ rfl _ _ 162 rfl 165 3 .i64 spotKeyed Tryz.underlying162 Tryz.underlying3 (Tryz.zeroInt _) (w.heap.size + 2) nj D' rfl XA.out.own _ _ rfl hk ?_; intro c hat hwc)
      have XE := hID ((XA.out.put0 (.int .i64 0)).put1 (XA.out.put0 (.int .i64 0)).lan)
      exact bodyPost_ret (qac rfl _ _ _ _ _ (0, 0) _ rfl XE.out.pla Tryz.underlying62 rfl Tryz.infoPl) rfl ⟨_, _, _, _, _, rfl, .inl ⟨HNO.out, rfl⟩, XE.out.off⟩
     | none =>
      have hh : Maps.has D' (sk p) = false := by rw [HM.out.has p hp256, how]; rfl
      have HM2 := hID (HM.out.put (K := HSK.out) (p := p) (r := i) hp256 how)
      clear how
      obtain ⟨s0, s1, s2, s3, s4, p0, p1, f0, f1⟩ := GC.out _ _ _ _ _ _ _ _ _ XA.out
      go_wp2_with (at_lookup; refine wpList_lookup_own_ok_int _ rfl _ _ 162 rfl 165 3 .i64 spotKeyed Tryz.underlying162 Tryz.underlying3 (Tryz.zeroInt _) (w.heap.size + 2) nj D' rfl XA.out.own _ _ rfl hk ?_; intro c hat hwc)
      clear hh hat hwc s0 s1 s2 s3 s4 p0 p1 f0 f1
      refine Calls.mono (R := fun e w' => e = .returned (spotV p) ∧ Off Nob x1 w') (htat _) ?_
      rintro e x2 ⟨rfl, o1⟩
      have XB := hID (XA.out.go o1)
      have OB := hID (OA.out.also (Off.ofNob o1))
      clear o1 XA OA
      obtain ⟨s0, s1, s2, s3, s4, p0, p1, f0, f1⟩ := GC.out _ _ _ _ _ _ _ _ _ XB.out
      have hlen4 : (prs F W i).length ≤ 4096 := Nat.le_trans (qqx HLF.out (Nat.le_of_lt hlt)) (Nat.le_trans (Nat.mul_le_mul (show i ≤ 16 by omega) (show 64 * W ≤ 256 by omega)) (by decide))
      have hnb : nj < maxLen := by unfold maxLen; omega
      obtain ⟨m, hm⟩ : ∃ m, max a (p + 1) = m := ⟨_, rfl⟩
      have hmx : max (a : Int) ((p : Int) + 1) = (m : Int) := by omega
      rw [hm] at HTP
      clear hm
      go_wp2_with (at_mapUpdate; refine wpList_mapUpdate_in _ rfl _ _ _ 162 rfl 165 3 spotKeyed Tryz.underlying162 (plainElem Tryz.prog 3) (w.heap.size + 2) nj D' rfl XB.out.own hnb _ _ _ rfl rfl hk (.lit (.int .i64 (i : Int))) [] (plainElem_int Tryz.underlying3 (by simp only [Lit.wf, Bool.and_eq_true, decide_eq_true_eq]; have m1 : IntKind.i64.min = -9223372036854775808 := rfl; have m2 : IntKind.i64.max = 9223372036854775807 := rfl; rw [m1, m2]; omega)) ?_; intro x3 oW hturn; have XC : Hid (Pst w w (w.heap.size + 3) x3 #[.slice AI n ci, .int .i64 W, .slice (some ⟨bt, ot, none⟩) T.length ct, .slice AS S.length cs, .slice AF F.length cf] (.int .i64 0) (.slice none 0 0) (nj + 1) (D'.put (sk p) (.lit (.int .i64 (i : Int)))) 0 []) := hID (XB.out.turn oW hturn); have OC := hID (OB.out.also (qkj hturn)); clear oW hturn XB OB s0 s1 s2 s3 s4 p0 p1 f0 f1; obtain ⟨s0, s1, s2, s3, s4, p0, p1, f0, f1⟩ := GC.out _ _ _ _ _ _ _ _ _ XC.out)
      go_roundw
      case rel => exact ⟨j + 1, nj + 1, _, rfl, hjl, by rw [HTK.out, ← List.append_assoc, HOWN.out, HTP.out]; try rw [hmx], by go_num, XC.out, by rw [HTK.out, ← List.append_assoc, HOWN.out]; exact HM2.out, OC.out, by omega⟩
      case measure => simp [intOf]; omega
    ·obtain rfl : L.length = j := by omega
     have e1 : decide ((L.length : Int) < (L.length : Int)) = false := dcF
     rw [List.take_length] at HM ⊢
     have HPE := hID (show prs F W (i + 1) = prs F W i ++ L.map (fun p => (p, i)) by rw [prs]; unfold prsR; rw [HL.out])
     go_wp2_with fail
     go_roundw
     case rel => exact ⟨i + 1, nj, D', rfl, hlt, by rw [HPE.out], by go_num, X.out, by rw [HPE.out]; exact HM.out, by rw [HPE.out, List.length_append, List.length_map]; exact hnj⟩
     case measure => simp [intOf]; omega
  ·obtain rfl : n = i := by omega
   have d1 : decide ((n : Int) < (n : Int)) = false := dcF
   have htop := qs8 HLF.out (Nat.le_refl n)
   have HND := hID HMO.out.nd
   obtain ⟨top, htope⟩ : ∃ top, topOf (prs F W n) = top := ⟨_, rfl⟩
   have HTOPE := hID htope
   rw [htope] at htop ⊢
   clear htope
   have hon := qca H64.out.2.1
   have HON := hID (oones (.slice AS S.length cs) S H64.out.2.1 (by rw [HLS.out]; omega) (by rw [HLS.out]; omega) (by rw [hon.2]; have := qec S; rw [HLS.out] at this; omega) wr (HS.out.keepT X.out.off) (qbq HZ.out X.out.off))
   go_wp2_with fail
   refine HON.out.mono ?_
   rintro e w4 ⟨vv, rfl, hv1, o2⟩
   rw [hon.1, hon.2] at hv1
   have hsl := qec S
   rw [HLS.out] at hsl
   have HSM := hID (show ∀ p ∈ onesN S, p < 64 * W from fun p hp => by have := (qal.1 hp).1; rwa [HLS.out] at this)
   obtain ⟨ss, hss⟩ : ∃ ss, onesN S = ss := ⟨_, rfl⟩
   have HSS := hID hss
   rw [hss] at hv1 hsl HSM
   clear hss hon HON s0 s1 s2 s3 s4 p0 p1 f0 f1
   have hr1 := Rd.own (F := fun k => wr.heap.size ≤ k ∧ k < w4.heap.size) hv1 (fun k hk => hv1.lt k hk)
   obtain ⟨As, cs2, rfl, _, _, hc1⟩ := hr1
   have HCL : Hid (∀ W' a v nn D m ls, Pst w w4 w4.heap.size W' #[.slice AI n ci, .int .i64 W, .slice (some ⟨bt, ot, none⟩) T.length ct, .slice AS S.length cs, .slice AF F.length cf] a v nn D m ls → ∀ k, k < ss.length → ∃ b o, As = some ⟨b, o, none⟩ ∧ W'.cell? ⟨b, o + k, none⟩ = some (.int .i64 ((ss.getD k 0 : Nat) : Int))) := hID (fun W' a v nn D m ls h k hk => by
    obtain ⟨b, o, rfl, h4, h5, h6⟩ := hc1 (by omega)
    have hm := X.out.own.lt
    exact ⟨b, o, rfl, h.cell (by omega) h5 (h6 k _ (qdk hk))⟩)
   have X4 := hID (X.out.go o2).base
   clear hv1 hc1 o2 X
   obtain ⟨s0, s1, s2, s3, s4, p0, p1, f0, f1⟩ := GC.out _ _ _ _ _ _ _ _ _ X4.out
   go_wp2_with fail
   clear s0 s1 s2 s3 s4 p0 p1 f0 f1
   have X5 := hID (X4.out.put0 (.int .i64 W))
   clear X4
   obtain ⟨w5, hw5⟩ : ∃ w5, w4.setCell ⟨w.heap.size + 1, 0, none⟩ (.int .i64 W) = w5 := ⟨_, rfl⟩
   rw [hw5] at X5 ⊢
   clear hw5
   go_loopw [3, 77] (fun t q wr => ∃ (k : Nat) (v : Value) (acc : List Ln) (own : List (Nat × Nat)) (D : DataW Unit), t = .bool false ∧ k ≤ ss.length ∧ q = .int .i64 (k : Int) ∧ acc.length = k ∧ Pst w w4 w4.heap.size wr #[.slice AI n ci, .int .i64 W, .slice (some ⟨bt, ot, none⟩) T.length ct, .slice AS S.length cs, .slice AF F.length cf] (.int .i64 W) v nn D k (lnV acc) ∧ MapOf sk D own ∧ lnC top ss (prs F W n) = (lnC top (ss.drop k) own).map (fun y => (acc ++ y.1, y.2))) (fun _ q _ => ss.length - (intOf q).toNat)
   case atStart => exact ⟨0, _, [], prs F W n, D, rfl, Nat.zero_le _, rfl, rfl, X5.out, HMO.out, by simp⟩
   case round =>
    obtain ⟨k, v, acc, own, D, rfl, hk, rfl, hacc, hx, hmo, hln⟩ := hrel
    obtain ⟨AA, cq, rfl⟩ := qxw hx
    have X := hID hx
    have HM := hID hmo
    have HLN := hID hln
    have HAC := hID hacc
    clear hx hmo hln hacc X5
    obtain ⟨s0, s1, s2, s3, s4, p0, p1, f0, f1⟩ := GC.out _ _ _ _ _ _ _ _ _ X.out
    by_cases hlt : k < ss.length
    ·have d2 : decide ((k : Int) < (ss.length : Int)) = true := dcT
     obtain ⟨bs, os, rfl, c0⟩ := HCL.out _ _ _ _ _ _ _ X.out k hlt
     have hf64 : ss.getD k 0 < 64 * W := HSM.out _ (qlm hlt)
     obtain ⟨f, hf⟩ : ∃ f, ss.getD k 0 = f := ⟨_, rfl⟩
     have HFK := hID hf
     rw [hf] at c0 hf64
     clear hf
     by_cases hi1 : k + 1 < ss.length
     ·have d3 : decide ((k : Int) + 1 < (ss.length : Int)) = true := dcT
      obtain ⟨b2, o2, he2, c1⟩ := HCL.out _ _ _ _ _ _ _ X.out (k + 1) hi1
      obtain ⟨rfl, rfl⟩ : bs = b2 ∧ os = o2 := by simpa using he2
      have HEE := hID (qzw (top := top) hi1)
      have HEB := hID (show ss.getD (k + 1) 0 ≤ 64 * W from Nat.le_of_lt (HSM.out _ (qlm hi1)))
      revert HEE HEB c1
      generalize ss.getD (k + 1) 0 = E
      intro c1 HEE HEB
      clear he2
      have hE256 : E ≤ 64 * W := HEB.out
      by_cases hle : E ≤ f
      ·have d4 : decide ((E : Int) ≤ (f : Int)) = true := dcT
       have d4n : decide (E ≤ f) = true := dT hle
       have HNO := hID (qeq (T := T) HND.out HTOPE.out HSS.out (qgz hlt HFK.out HEE.out (.inl hle) HLN.out))
       obtain ⟨s0, s1, s2, s3, s4, p0, p1, f0, f1⟩ := GC.out _ _ _ _ _ _ _ _ _ X.out
       go_wp2_with fail
       have XE := hID ((X.out.put0 (.int .i64 W)).put1 (X.out.put0 (.int .i64 W)).lan)
       exact bodyPost_ret (qac rfl _ _ _ _ _ (0, 0) _ rfl XE.out.pla Tryz.underlying62 rfl Tryz.infoPl) rfl ⟨_, _, _, _, _, rfl, .inl ⟨HNO.out, rfl⟩, XE.out.off⟩
      ·have d4 : decide ((E : Int) ≤ (f : Int)) = false := dcF
       have d4n : decide (E ≤ f) = false := dF hle
       have HSTEP := hID (fun r (hr : ownAt own (E - 1) = some r) => qqy hlt HFK.out HEE.out hle hr HLN.out)
       have HNONE := hID (fun (hr : ownAt own (E - 1) = none) => qeq (T := T) HND.out HTOPE.out HSS.out (qgz hlt HFK.out HEE.out (.inr hr) HLN.out))
       obtain ⟨y, hy⟩ : ∃ y, E - 1 = y := ⟨_, rfl⟩
       obtain ⟨d, hd⟩ : ∃ d, E - f = d := ⟨_, rfl⟩
       rw [hy, hd] at HSTEP
       rw [hy] at HNONE
       have hE1 : (E : Int) - 1 = (y : Int) := by omega
       have hE2 : (E : Int) - (f : Int) = (d : Int) := by omega
       have hy256 : y < 256 := by omega
       have hd256 : d ≤ 256 := by omega
       have hk := hsk y hy256
       have htat := tat y (by omega)
       clear hy hd
       go_wp2_with fail
       refine Calls.mono (R := fun e w' => e = .returned (spotV y) ∧ Off Nob wr w') (htat _) ?_
       rintro e x1 ⟨rfl, o1⟩
       have XA := hID (X.out.go o1)
       clear o1 s0 s1 s2 s3 s4 p0 p1 f0 f1 c0 c1
       cases how : ownAt own y with
       | none =>
        have hh : Maps.has D (sk y) = false := by rw [HM.out.has y hy256, how]; rfl
        have HNO := hID (HNONE.out how)
        clear how
        obtain ⟨s0, s1, s2, s3, s4, p0, p1, f0, f1⟩ := GC.out _ _ _ _ _ _ _ _ _ XA.out
        go_wp2_with (at_lookup; refine wpList_lookup_own_ok_int _ rfl _ _ 162 rfl 165 3 .i64 spotKeyed Tryz.underlying162 Tryz.underlying3 (Tryz.zeroInt _) (w.heap.size + 2) nn D rfl XA.out.own _ _ rfl hk ?_; intro c hat hwc)
        have XE := hID ((XA.out.put0 (.int .i64 W)).put1 (XA.out.put0 (.int .i64 W)).lan)
        exact bodyPost_ret (qac rfl _ _ _ _ _ (0, 0) _ rfl XE.out.pla Tryz.underlying62 rfl Tryz.infoPl) rfl ⟨_, _, _, _, _, rfl, .inl ⟨HNO.out, rfl⟩, XE.out.off⟩
       | some r =>
        have hh : Maps.has D (sk y) = true := by rw [HM.out.has y hy256, how]; rfl
        have hatr := HM.out.at_ y r hy256 how
        have HM2 := hID (HM.out.del (K := HSK.out) hy256 how)
        have HST := hID (HSTEP.out r how)
        clear how HSTEP HNONE
        obtain ⟨s0, s1, s2, s3, s4, p0, p1, f0, f1⟩ := GC.out _ _ _ _ _ _ _ _ _ XA.out
        go_wp2_with (at_lookup; refine wpList_lookup_own_ok_int _ rfl _ _ 162 rfl 165 3 .i64 spotKeyed Tryz.underlying162 Tryz.underlying3 (Tryz.zeroInt _) (w.heap.size + 2) nn D rfl XA.out.own _ _ rfl hk ?_; intro c hat hwc; obtain rfl : c = (r : Int) := by have := hat.symm.trans hatr; simpa using this)
        clear hh hat hwc hatr s0 s1 s2 s3 s4 p0 p1 f0 f1
        refine Calls.mono (R := fun e w' => e = .returned (spotV y) ∧ Off Nob x1 w') (htat _) ?_
        rintro e x2 ⟨rfl, o1⟩
        have XB := hID (XA.out.go o1)
        clear o1 XA
        obtain ⟨s0, s1, s2, s3, s4, p0, p1, f0, f1⟩ := GC.out _ _ _ _ _ _ _ _ _ XB.out
        go_wp2_with (first
         | (at_delete; refine wpList_delete_own _ rfl _ _ 162 165 rfl 3 spotKeyed Tryz.underlying162 (plainElem Tryz.prog 3) (w.heap.size + 2) nn D rfl XB.out.own _ _ rfl hk ?_; intro x3 oW hturn; have XC : Hid (Pst w w4 w4.heap.size x3 #[.slice AI n ci, .int .i64 W, .slice (some ⟨bt, ot, none⟩) T.length ct, .slice AS S.length cs, .slice AF F.length cf] (.int .i64 W) (.slice AA k cq) nn (D.del (sk y)) k (lnV acc)) := hID (XB.out.turn oW hturn); clear oW hturn XB s0 s1 s2 s3 s4 p0 p1 f0 f1; obtain ⟨s0, s1, s2, s3, s4, p0, p1, f0, f1⟩ := GC.out _ _ _ _ _ _ _ _ _ XC.out)
         | (at_builtin; refine @wpList_append_lies _ _ _ _ _ _ _ rfl _ _ 39 rfl w4.heap.size 43 i_lane (.agg #[.int .i64 0, .int .i64 0, .int .i64 0]) 3 24 Tryz.underlying39 h_lane z_lane s_lane b_lane rfl (by decide) (.slice AA k cq) k (lnV acc) rfl (XC.out.lan.alloc _) ⟨x3.heap.size, 0, none⟩ 1 1 [.int .i64 (r : Int), .int .i64 (f : Int), .int .i64 (d : Int)] rfl rfl ?c1 (by intro u hu; simp at hu; rcases hu with rfl | rfl | rfl <;> rfl) (by decide) (by unfold maxLen; omega) (by omega) (by have := XC.out.hi; simp; omega) _ rfl ?_))
        case c1 => exact qby _ [.int .i64 (r : Int), .int .i64 (f : Int), .int .i64 (d : Int)] _
        intro g cap x4 oW gW hat hltg
        have XD := hID (XC.out.go (oAl oRf (.cells #[.int .i64 (r : Int), .int .i64 (f : Int), .int .i64 (d : Int)] 43)))
        have XF : Hid (Pst w w4 w4.heap.size (x4.setCell ⟨w.heap.size + 1, 1, none⟩ (.slice (some ⟨g, 0, none⟩) (k + 1) cap)) #[.slice AI n ci, .int .i64 W, .slice (some ⟨bt, ot, none⟩) T.length ct, .slice AS S.length cs, .slice AF F.length cf] (.int .i64 W) (.slice (some ⟨g, 0, none⟩) (k + 1) cap) nn (D.del (sk y)) (k + 1) (lnV (acc ++ [(r, f, d)]))) := hID (by
         rw [qgu]
         exact XD.out.grow gW oW)
        have hfz := XD.out.growF gW
        have hcz := XD.out.growC gW
        clear oW gW hat hltg XC XD s0 s1 s2 s3 s4 p0 p1 f0 f1
        go_wp2_with fail
        clear hfz hcz
        go_roundw
        case rel => exact ⟨k + 1, _, _, _, _, rfl, hlt, by go_num, by rw [List.length_append, HAC.out]; rfl, XF.out, HM2.out, HST.out⟩
        case measure => simp [intOf]; omega
     ·have d3 : decide ((k : Int) + 1 < (ss.length : Int)) = false := dcF
      have HEE := hID (qxt (top := top) hi1)
      have HEB := hID htop
      have hE256 : top ≤ 64 * W := HEB.out
      by_cases hle : top ≤ f
      ·have d4 : decide ((top : Int) ≤ (f : Int)) = true := dcT
       have d4n : decide (top ≤ f) = true := dT hle
       have HNO := hID (qeq (T := T) HND.out HTOPE.out HSS.out (qgz hlt HFK.out HEE.out (.inl hle) HLN.out))
       obtain ⟨s0, s1, s2, s3, s4, p0, p1, f0, f1⟩ := GC.out _ _ _ _ _ _ _ _ _ X.out
       go_wp2_with fail
       have XE := hID ((X.out.put0 (.int .i64 W)).put1 (X.out.put0 (.int .i64 W)).lan)
       exact bodyPost_ret (qac rfl _ _ _ _ _ (0, 0) _ rfl XE.out.pla Tryz.underlying62 rfl Tryz.infoPl) rfl ⟨_, _, _, _, _, rfl, .inl ⟨HNO.out, rfl⟩, XE.out.off⟩
      ·have d4 : decide ((top : Int) ≤ (f : Int)) = false := dcF
       have d4n : decide (top ≤ f) = false := dF hle
       have HSTEP := hID (fun r (hr : ownAt own (top - 1) = some r) => qqy hlt HFK.out HEE.out hle hr HLN.out)
       have HNONE := hID (fun (hr : ownAt own (top - 1) = none) => qeq (T := T) HND.out HTOPE.out HSS.out (qgz hlt HFK.out HEE.out (.inr hr) HLN.out))
       obtain ⟨y, hy⟩ : ∃ y, top - 1 = y := ⟨_, rfl⟩
       obtain ⟨d, hd⟩ : ∃ d, top - f = d := ⟨_, rfl⟩
       rw [hy, hd] at HSTEP
       rw [hy] at HNONE
       have hE1 : (top : Int) - 1 = (y : Int) := by omega
       have hE2 : (top : Int) - (f : Int) = (d : Int) := by omega
       have hy256 : y < 256 := by omega
       have hd256 : d ≤ 256 := by omega
       have hk := hsk y hy256
       have htat := tat y (by omega)
       clear hy hd
       go_wp2_with fail
       refine Calls.mono (R := fun e w' => e = .returned (spotV y) ∧ Off Nob wr w') (htat _) ?_
       rintro e x1 ⟨rfl, o1⟩
       have XA := hID (X.out.go o1)
       clear o1 s0 s1 s2 s3 s4 p0 p1 f0 f1 c0
       cases how : ownAt own y with
       | none =>
        have hh : Maps.has D (sk y) = false := by rw [HM.out.has y hy256, how]; rfl
        have HNO := hID (HNONE.out how)
        clear how
        obtain ⟨s0, s1, s2, s3, s4, p0, p1, f0, f1⟩ := GC.out _ _ _ _ _ _ _ _ _ XA.out
        go_wp2_with (at_lookup; refine wpList_lookup_own_ok_int _ rfl _ _ 162 rfl 165 3 .i64 spotKeyed Tryz.underlying162 Tryz.underlying3 (Tryz.zeroInt _) (w.heap.size + 2) nn D rfl XA.out.own _ _ rfl hk ?_; intro c hat hwc)
        have XE := hID ((XA.out.put0 (.int .i64 W)).put1 (XA.out.put0 (.int .i64 W)).lan)
        exact bodyPost_ret (qac rfl _ _ _ _ _ (0, 0) _ rfl XE.out.pla Tryz.underlying62 rfl Tryz.infoPl) rfl ⟨_, _, _, _, _, rfl, .inl ⟨HNO.out, rfl⟩, XE.out.off⟩
       | some r =>
        have hh : Maps.has D (sk y) = true := by rw [HM.out.has y hy256, how]; rfl
        have hatr := HM.out.at_ y r hy256 how
        have HM2 := hID (HM.out.del (K := HSK.out) hy256 how)
        have HST := hID (HSTEP.out r how)
        clear how HSTEP HNONE
        obtain ⟨s0, s1, s2, s3, s4, p0, p1, f0, f1⟩ := GC.out _ _ _ _ _ _ _ _ _ XA.out
        go_wp2_with (at_lookup; refine wpList_lookup_own_ok_int _ rfl _ _ 162 rfl 165 3 .i64 spotKeyed Tryz.underlying162 Tryz.underlying3 (Tryz.zeroInt _) (w.heap.size + 2) nn D rfl XA.out.own _ _ rfl hk ?_; intro c hat hwc; obtain rfl : c = (r : Int) := by have := hat.symm.trans hatr; simpa using this)
        clear hh hat hwc hatr s0 s1 s2 s3 s4 p0 p1 f0 f1
        refine Calls.mono (R := fun e w' => e = .returned (spotV y) ∧ Off Nob x1 w') (htat _) ?_
        rintro e x2 ⟨rfl, o1⟩
        have XB := hID (XA.out.go o1)
        clear o1 XA
        obtain ⟨s0, s1, s2, s3, s4, p0, p1, f0, f1⟩ := GC.out _ _ _ _ _ _ _ _ _ XB.out
        go_wp2_with (first
         | (at_delete; refine wpList_delete_own _ rfl _ _ 162 165 rfl 3 spotKeyed Tryz.underlying162 (plainElem Tryz.prog 3) (w.heap.size + 2) nn D rfl XB.out.own _ _ rfl hk ?_; intro x3 oW hturn; have XC : Hid (Pst w w4 w4.heap.size x3 #[.slice AI n ci, .int .i64 W, .slice (some ⟨bt, ot, none⟩) T.length ct, .slice AS S.length cs, .slice AF F.length cf] (.int .i64 W) (.slice AA k cq) nn (D.del (sk y)) k (lnV acc)) := hID (XB.out.turn oW hturn); clear oW hturn XB s0 s1 s2 s3 s4 p0 p1 f0 f1; obtain ⟨s0, s1, s2, s3, s4, p0, p1, f0, f1⟩ := GC.out _ _ _ _ _ _ _ _ _ XC.out)
         | (at_builtin; refine @wpList_append_lies _ _ _ _ _ _ _ rfl _ _ 39 rfl w4.heap.size 43 i_lane (.agg #[.int .i64 0, .int .i64 0, .int .i64 0]) 3 24 Tryz.underlying39 h_lane z_lane s_lane b_lane rfl (by decide) (.slice AA k cq) k (lnV acc) rfl (XC.out.lan.alloc _) ⟨x3.heap.size, 0, none⟩ 1 1 [.int .i64 (r : Int), .int .i64 (f : Int), .int .i64 (d : Int)] rfl rfl ?c1 (by intro u hu; simp at hu; rcases hu with rfl | rfl | rfl <;> rfl) (by decide) (by unfold maxLen; omega) (by omega) (by have := XC.out.hi; simp; omega) _ rfl ?_))
        case c1 => exact qby _ [.int .i64 (r : Int), .int .i64 (f : Int), .int .i64 (d : Int)] _
        intro g cap x4 oW gW hat hltg
        have XD := hID (XC.out.go (oAl oRf (.cells #[.int .i64 (r : Int), .int .i64 (f : Int), .int .i64 (d : Int)] 43)))
        have XF : Hid (Pst w w4 w4.heap.size (x4.setCell ⟨w.heap.size + 1, 1, none⟩ (.slice (some ⟨g, 0, none⟩) (k + 1) cap)) #[.slice AI n ci, .int .i64 W, .slice (some ⟨bt, ot, none⟩) T.length ct, .slice AS S.length cs, .slice AF F.length cf] (.int .i64 W) (.slice (some ⟨g, 0, none⟩) (k + 1) cap) nn (D.del (sk y)) (k + 1) (lnV (acc ++ [(r, f, d)]))) := hID (by
         rw [qgu]
         exact XD.out.grow gW oW)
        have hfz := XD.out.growF gW
        have hcz := XD.out.growC gW
        clear oW gW hat hltg XC XD s0 s1 s2 s3 s4 p0 p1 f0 f1
        go_wp2_with fail
        clear hfz hcz
        go_roundw
        case rel => exact ⟨k + 1, _, _, _, _, rfl, hlt, by go_num, by rw [List.length_append, HAC.out]; rfl, XF.out, HM2.out, HST.out⟩
        case measure => simp [intOf]; omega
    ·obtain rfl : ss.length = k := by omega
     have d2 : decide ((ss.length : Int) < (ss.length : Int)) = false := dcF
     have HLC := hID (qxx HLN.out)
     have HPC := hID (qxy (T := T) HND.out HTOPE.out HSS.out HLC.out)
     have HRU := hID (fun (W' : World) (V : Value) (h : Rd W' (fun _ => True) 3 V ss.length (lnV acc)) => q1m W h1 (by omega) acc (by rw [HAC.out]; omega) W' V (by rw [HAC.out]; exact h))
     have HRD := hID (Rd.own (F := fun _ => True) X.out.lan (fun _ _ => trivial))
     go_wp2_with fail
     refine (HRU.out _ _ HRD.out).mono ?_
     rintro e v1 ⟨i, m, rfl, hres, o1⟩
     have X1 := hID (X.out.go o1)
     clear o1 s0 s1 s2 s3 s4 p0 p1 f0 f1 HRD X HRU
     have hlen : ∀ ty, (Builtin.len_ #[162] ty #[.map (some (w.heap.size + 2))]).run Tryz.prog v1 = .ok (.int .i64 (own.length : Int)) v1 := fun ty => by rw [← HM.out.size]; exact X1.out.own.len Tryz.underlying162 ty
     rcases hres with ⟨hok, hi, rfl⟩ | ⟨hno, hm⟩
     rotate_left
     ·have HN := hID (show planC F S T W n = none by rw [HPC.out, hno]; rfl)
      clear hno
      obtain ⟨s0, s1, s2, s3, s4, p0, p1, f0, f1⟩ := GC.out _ _ _ _ _ _ _ _ _ X1.out
      go_wp2_with fail
      have XE := hID ((X1.out.put0 (.int .i64 W)).put1 (X1.out.put0 (.int .i64 W)).lan)
      exact bodyPost_ret (qac rfl _ _ _ _ _ (0, 0) _ rfl XE.out.pla Tryz.underlying62 rfl Tryz.infoPl) rfl ⟨_, _, _, _, _, rfl, .inl ⟨HN.out, rfl⟩, XE.out.off⟩
     have HOK := hID hok
     clear hok
     by_cases hmany : i = (n : Int)
     rotate_left
     ·have e1 : (i != (n : Int)) = true := by rw [bne_iff_ne]; exact hmany
      have HN := hID (show planC F S T W n = none by
       rw [HPC.out, HOK.out, dF (show ¬ qa1 acc + 1 = n from fun h => hmany (by omega))]
       rfl)
      clear hi hmany
      obtain ⟨s0, s1, s2, s3, s4, p0, p1, f0, f1⟩ := GC.out _ _ _ _ _ _ _ _ _ X1.out
      go_wp2_with fail
      have XE := hID ((X1.out.put0 (.int .i64 W)).put1 (X1.out.put0 (.int .i64 W)).lan)
      exact bodyPost_ret (qac rfl _ _ _ _ _ (0, 0) _ rfl XE.out.pla Tryz.underlying62 rfl Tryz.infoPl) rfl ⟨_, _, _, _, _, rfl, .inl ⟨HN.out, rfl⟩, XE.out.off⟩
     subst hmany
     have HLR1 : Hid (qa1 acc + 1 = n) := hID (by omega)
     clear hi
     have e1 : ((n : Int) != (n : Int)) = false := by simp
     by_cases oW : own.length = 0
     rotate_left
     ·have e2 : decide ((0 : Int) < (own.length : Int)) = true := dcT
      have e2n : decide (0 < own.length) = true := dcT
      have HN := hID (show planC F S T W n = none by
       rw [HPC.out, show own.isEmpty = false from by cases own with | nil => simp at oW | cons _ _ => rfl]
       simp)
      obtain ⟨s0, s1, s2, s3, s4, p0, p1, f0, f1⟩ := GC.out _ _ _ _ _ _ _ _ _ X1.out
      go_wp2_with fail
      have XE := hID ((X1.out.put0 (.int .i64 W)).put1 (X1.out.put0 (.int .i64 W)).lan)
      exact bodyPost_ret (qac rfl _ _ _ _ _ (0, 0) _ rfl XE.out.pla Tryz.underlying62 rfl Tryz.infoPl) rfl ⟨_, _, _, _, _, rfl, .inl ⟨HN.out, rfl⟩, XE.out.off⟩
     have e2 : decide ((0 : Int) < (own.length : Int)) = false := dcF
     have e2n : decide (0 < own.length) = false := dcF
     have HOE : Hid (own.isEmpty = true) := hID (by rw [List.length_eq_zero_iff.1 oW]; rfl)
     clear oW
     obtain ⟨s0, s1, s2, s3, s4, p0, p1, f0, f1⟩ := GC.out _ _ _ _ _ _ _ _ _ X1.out
     go_wp2_with fail
     go_step3
     clear s0 s1 s2 s3 s4 p0 p1 f0 f1 hlen
     obtain ⟨s0, s1, s2, s3, s4, p0, p1, f0, f1⟩ := GC.out _ _ _ _ _ _ _ _ _ X1.out
     have HTC : Hid (∀ W', Off Nob w W' → ∀ k, k < T.length → W'.cell? ⟨bt, ot + k, none⟩ = some (.int .u64 ((T.getD k 0 : Nat) : Int))) := hID (fun W' o k hk => HTC0.out W' o k _ (qdq hk))
     go_wp2_with fail
     clear s0 s1 s2 s3 s4 p0 p1 f0 f1
     go_loopw [3, 146] (fun q p wr => ∃ wd : Nat, q = .bool false ∧ p = .int .i64 (wd : Int) ∧ wd ≤ W ∧ Pst w w4 w4.heap.size wr #[.slice AI n ci, .int .i64 W, .slice (some ⟨bt, ot, none⟩) T.length ct, .slice AS S.length cs, .slice AF F.length cf] (.int .i64 W) (.slice AA ss.length cq) nn D ss.length (lnV acc) ∧ ∀ q, q < 64 * wd → okI T top q = true) (fun q p wr => W - (intOf p).toNat)
     case atStart => exact ⟨0, rfl, rfl, Nat.zero_le _, X1.out, fun q hq => absurd hq (by omega)⟩
     case round =>
      obtain ⟨wd, rfl, rfl, hwd, hx, hok⟩ := hrel
      have X := hID hx
      have HOKW := hID hok
      clear hx hok X1
      by_cases hwl : wd < W
      ·have d3 : decide ((wd : Int) < (W : Int)) = true := dcT
       go_wp2_with fail
       go_loopw [3, 149] (fun q p wr => ∃ k : Nat, q = .bool false ∧ p = .int .i64 (k : Int) ∧ k ≤ 64 ∧ Pst w w4 w4.heap.size wr #[.slice AI n ci, .int .i64 W, .slice (some ⟨bt, ot, none⟩) T.length ct, .slice AS S.length cs, .slice AF F.length cf] (.int .i64 W) (.slice AA ss.length cq) nn D ss.length (lnV acc) ∧ ∀ q, q < 64 * wd + k → okI T top q = true) (fun q p wr => 64 - (intOf p).toNat)
       case atStart => exact ⟨0, rfl, rfl, by decide, X.out, fun q hq => HOKW.out q (by omega)⟩
       case round =>
        obtain ⟨k, rfl, rfl, hk, hx, hok⟩ := hrel
        have X := hID hx
        have HOKI := hID hok
        clear hx hok
        by_cases hkl : k < 64
        ·have e2 : decide ((k : Int) < 64) = true := dcT
         obtain ⟨i, hi⟩ : ∃ i, 64 * wd + k = i := ⟨_, rfl⟩
         have hsum : 64 * (wd : Int) + (k : Int) = (i : Int) := by omega
         have hi256 : i < 256 := by omega
         have HI2 := hID (And.intro (show i / 64 = wd by omega) (show i % 64 = k by omega))
         have htat := tat i (by omega)
         obtain ⟨s0, s1, s2, s3, s4, p0, p1, f0, f1⟩ := GC.out _ _ _ _ _ _ _ _ _ X.out
         go_wp2_with fail
         clear s0 s1 s2 s3 s4 p0 p1 f0 f1
         refine Calls.mono (R := fun e w' => e = .returned (.agg #[.int .i64 ((i / 64 : Nat) : Int), .int .u64 ((2 ^ (i % 64) : Nat) : Int)]) ∧ Off Nob wr w') (htat _) ?_
         rintro e v1 ⟨rfl, o1⟩
         rw [HI2.out.1, HI2.out.2]
         obtain ⟨z, hz⟩ : ∃ z : Int, ((2 ^ k : Nat) : Int) = z := ⟨_, rfl⟩
         have HZK := hID hz
         rw [hz]
         have Y := hID (X.out.go (oAl o1 (.cells #[.int .i64 wd, .int .u64 z] 165)))
         have hz1 : (v1.alloc (.cells #[.int .i64 wd, .int .u64 z] 165)).cell? ⟨v1.heap.size, 1, none⟩ = some (.int .u64 z) := (Blk.new v1 165 #[.int .i64 wd, .int .u64 z]).cell 1
         clear o1 X htat hz
         obtain ⟨s0, s1, s2, s3, s4, p0, p1, f0, f1⟩ := GC.out _ _ _ _ _ _ _ _ _ Y.out
         by_cases htp : i < top
         ·have e3 : decide ((i : Int) < (top : Int)) = true := dcT
          have e3n : decide (i < top) = true := dT htp
          have HOKI2 := hID (fun q (hq : q < 64 * wd + (k + 1)) => show okI T top q = true from if e : q = i then by rw [e]; unfold okI; rw [dT htp]; rfl else HOKI.out q (by omega))
          clear hi
          go_wp2_with fail
          go_roundw
          case rel => first | exact ⟨k + 1, rfl, by go_num, by omega, Y.out, HOKI2.out⟩ | (repeat apply Exists.intro; refine ⟨?_, rfl⟩; exact ⟨k + 1, rfl, by go_num, by omega, Y.out, HOKI2.out⟩)
          case measure =>
           show 64 - ((k : Int) + 1).toNat < 64 - (k : Int).toNat
           omega
         ·have e3 : decide ((i : Int) < (top : Int)) = false := dcF
          have e3n : decide (i < top) = false := dF htp
          have hct := HCT.out
          have hlen2 : 256 * wd + 256 ≤ T.length := by rw [HLT.out]; omega
          have hm1 : IntKind.i64.wrap (256 * (wd : Int)) = 256 * (wd : Int) := IntWalk.i64_in _ (by omega)
          have hm2 : 256 * ((wd : Int) + 1) = 256 * (wd : Int) + 256 := by omega
          have hsub : (256 * wd + 256 : Nat) - 256 * wd = 256 := by omega
          have hle1 : 256 * wd + 256 ≤ ct := by omega
          have hle2 : 256 * (wd : Int) + 256 ≤ (ct : Int) := by omega
          have HIW := HI2
          have hk : k < 64 := hkl
          clear hi
          go_wp2_with fail
          clear s0 s1 s2 s3 s4 p0 p1 f0 f1
          obtain ⟨wo, hwo⟩ : ∃ wo : World, (v1.alloc (.cells #[.int .i64 wd, .int .u64 z] 165)) = wo := ⟨_, rfl⟩
          rw [hwo] at Y hz1 ⊢
          clear hwo
          go_loopw [3, 172] (fun q p wr => ∃ j : Nat, q = .bool false ∧ p = .int .i64 (j : Int) ∧ j ≤ 256 ∧ wo = wr ∧ ∀ b, b < j → (T.getD (256 * wd + b) 0).testBit k = false) (fun q p wr => 256 - (intOf p).toNat)
          case atStart => exact ⟨0, rfl, rfl, by decide, rfl, fun b hb => absurd hb (by omega)⟩
          case round =>
           obtain ⟨j, rfl, rfl, hj, rfl, hbj⟩ := hrel
           have HBJ := hID hbj
           clear hbj
           by_cases hjl : j < 256
           ·have e3 : decide ((j : Int) < 256) = true := dcT
            have c0 := HTC.out _ Y.out.off (256 * wd + j) (by omega)
            have hx64 : T.getD (256 * wd + j) 0 < 18446744073709551616 := qbp H64.out.2.2 _
            have HTB := hID (qp2 (T.getD (256 * wd + j) 0) k hx64 hkl)
            have HOKJ := hID (show ∀ q, T.getD (256 * wd + j) 0 = q → T.getD (256 * wd + j) 0 = q from fun q h => h)
            obtain ⟨x, hx⟩ : ∃ x, T.getD (256 * wd + j) 0 = x := ⟨_, rfl⟩
            have HXE := hID hx
            rw [hx] at c0 HTB
            clear hx HOKJ
            rw [← Nat.add_assoc] at c0
            cases hbt : x.testBit k
            ·have hb : bits .and .u64 (x : Int) z = 0 := by rw [← HZK.out, HTB.out, hbt]; rfl
             have HBJ2 := hID (fun b (hb : b < j + 1) => show (T.getD (256 * wd + b) 0).testBit k = false from if e : b = j then by rw [e, HXE.out]; exact hbt else HBJ.out b (by omega))
             clear hbt
             go_wp2_with fail
             go_roundw
             case rel => exact ⟨j + 1, rfl, by go_num, by omega, trivial, HBJ2.out⟩
             case measure =>
              show 256 - ((j : Int) + 1).toNat < 256 - (j : Int).toNat
              omega
            ·have hb : bits .and .u64 (x : Int) z = z := by rw [← HZK.out, HTB.out, hbt]; rfl
             have hz0 : (z != 0) = true := by rw [← HZK.out, bne_iff_ne]; have := Nat.one_le_two_pow (n := k); omega
             have HNO := hID (show planC F S T W n = none by
              rw [HPC.out, show tabOk T W top = false from qvh (i := i) (b := j) (by omega) htp hjl (by rw [HIW.out.1, HIW.out.2, HXE.out]; exact hbt)]
              simp)
             clear hbt
             obtain ⟨s0, s1, s2, s3, s4, p0, p1, f0, f1⟩ := GC.out _ _ _ _ _ _ _ _ _ Y.out
             go_wp2_with fail
             rw [Exit.noGoto_ret]
             have XE := hID ((Y.out.put0 (.int .i64 W)).put1 (Y.out.put0 (.int .i64 W)).lan)
             exact bodyPost_ret (qac rfl _ _ _ _ _ (0, 0) _ rfl XE.out.pla Tryz.underlying62 rfl Tryz.infoPl) rfl ⟨_, _, _, _, _, rfl, .inl ⟨HNO.out, rfl⟩, XE.out.off⟩
           ·obtain rfl : j = 256 := by omega
            have HOKI2 := hID (fun q (hq : q < 64 * wd + (k + 1)) => show okI T top q = true from if e : q = i then by
             rw [e]
             unfold okI
             rw [dF htp, Bool.false_or, List.all_eq_true]
             intro b hb
             rw [HIW.out.1, HIW.out.2, HBJ.out b (List.mem_range.1 hb)]
             rfl
             else HOKI.out q (by omega))
            go_wp2_with fail
            go_roundw
            case rel => first | exact ⟨k + 1, rfl, by go_num, by omega, Y.out, HOKI2.out⟩ | (repeat apply Exists.intro; refine ⟨?_, rfl⟩; exact ⟨k + 1, rfl, by go_num, by omega, Y.out, HOKI2.out⟩)
            case measure =>
             show 64 - ((k : Int) + 1).toNat < 64 - (k : Int).toNat
             omega
        ·obtain rfl : k = 64 := by omega
         obtain ⟨s0, s1, s2, s3, s4, p0, p1, f0, f1⟩ := GC.out _ _ _ _ _ _ _ _ _ X.out
         have HOKI2 := hID (fun q (hq : q < 64 * (wd + 1)) => HOKI.out q (by omega))
         go_wp2_with fail
         go_roundw
         case rel => first | exact ⟨wd + 1, rfl, by go_num, by omega, X.out, HOKI2.out⟩ | (repeat apply Exists.intro; refine ⟨?_, rfl⟩; exact ⟨wd + 1, rfl, by go_num, by omega, X.out, HOKI2.out⟩)
         case measure =>
          show W - ((wd : Int) + 1).toNat < W - (wd : Int).toNat
          omega
      ·obtain rfl : W = wd := by omega
       have d3 : decide ((W : Int) < (W : Int)) = false := dcF
       have HN := hID (show planC F S T W n = some acc by
        rw [HPC.out, HOK.out, dT HLR1.out, HOE.out, show tabOk T W top = true from by
         unfold tabOk
         rw [List.all_eq_true]
         intro q hq
         exact HOKW.out q (List.mem_range.1 hq)]
        rfl)
       obtain ⟨s0, s1, s2, s3, s4, p0, p1, f0, f1⟩ := GC.out _ _ _ _ _ _ _ _ _ X.out
       go_wp2_with fail
       rw [Exit.noGoto_ret]
       have XE := hID ((X.out.put0 (.int .i64 W)).put1 (X.out.put0 (.int .i64 W)).lan)
       exact bodyPost_ret (qac rfl _ _ _ _ _ (0, 0) _ rfl XE.out.pla Tryz.underlying62 rfl Tryz.infoPl) rfl ⟨_, _, _, _, _, rfl, .inr ⟨acc, HN.out, rfl, rfl, by rw [HAC.out]; exact Rd.own XE.out.lan (fun k hk => by have := (XE.out.lan.lt k hk).1; have := XE.out.lo; omega)⟩, XE.out.off⟩
end
end Go.Proofs.YtlgjaefcfnndhaaGreatDoor
