/-
 dragnetref14.Ints and dragnetref20.SameHits of equal lists.
-/
import Derived.Test.YtlgjaefcfnndhaaGreatDoorP27
import Derived.Test.YtlgjaefcfnndhaaGreatDoorP22
import Derived.Test.YtlgjaefcfnndhaaGreatDoorP37
import Derived.Test.YtlgjaefcfnndhaaGreatDoorP16
set_option linter.unusedVariables false
set_option linter.unusedSimpArgs false
set_option maxHeartbeats 16000000
set_option maxRecDepth 100000
namespace Go.Proofs.YtlgjaefcfnndhaaGreatDoor
section
open Go.RowKit
theorem qcl {w : World} {F : Nat → Prop} {v : Value} {sz n : Nat} {xs : List Value} (hv : Rd w F sz v n xs) (hs : 0 < sz) : ∃ A c, v = .slice A n c ∧ n ≤ maxLen ∧ ∀ W', Off Nob w W' → 0 < n → ∃ b o, A = some ⟨b, o, none⟩ ∧ ∀ j u, xs[j]? = some u → W'.cell? ⟨b, o + j, none⟩ = some u := by
 obtain ⟨A, c, rfl, hm, hcell⟩ := hv.form
 refine ⟨A, c, rfl, hm, fun W' ho hn => ?_⟩
 obtain ⟨b, o, rfl, hlt, hc⟩ := hcell hn
 exact ⟨b, o, rfl, fun j u hj => by rw [ho.cell_old hlt]; exact hc j u hj⟩
theorem qvr (l : List (Int × Int)) (k : Nat) (h : k < l.length) : (qa9 l)[k * 2]? = some (.int .i64 (l.getD k (0, 0)).1) ∧ (qa9 l)[k * 2 + 1]? = some (.int .i64 (l.getD k (0, 0)).2) := by
 induction l generalizing k with
 | nil => simp at h
 | cons m l ih =>
  cases k with
  | zero => exact ⟨rfl, rfl⟩
  | succ k =>
   have := ih k (by simpa using h)
   rw [show qa9 (m :: l) = [.int .i64 m.1, .int .i64 m.2] ++ qa9 l from rfl]
   rw [List.getElem?_append_right (by simp; omega), List.getElem?_append_right (by simp; omega)]
   simp only [List.length_cons, List.length_nil]
   rw [show (k + 1) * 2 - (0 + 1 + 1) = k * 2 by omega, show (k + 1) * 2 + 1 - (0 + 1 + 1) = k * 2 + 1 by omega]
   simpa using this
theorem qjo {F G : Nat → Prop} (L : List Int) (hL : L.length ≤ 1000000) (w : World) (u v : Value) (hu : Rd w F 1 u L.length (L.map (Value.int .i64))) (hv : Rd w G 1 v L.length (L.map (Value.int .i64))) :
  Calls Tryz.prog 21 #[u, v] w (RetV w (.bool true)) := by
 obtain ⟨A, ca, rfl, _, hca⟩ := qcl hu (by decide)
 obtain ⟨B, cb, rfl, _, hcb⟩ := qcl hv (by decide)
 have HCA := hID hca
 have HCB := hID hcb
 obtain ⟨n, hn⟩ : ∃ n, L.length = n := ⟨_, rfl⟩
 have HN := hID hn
 rw [hn] at HCA HCB hL ⊢
 clear hca hcb hu hv hn
 go_enter Tryz.func21, Tryz.ntmps21
 go_wp2
 go_loopw [5] (fun i wr => ∃ k : Nat, k ≤ n ∧ i = .int .i64 k ∧ Off Nob w wr) (fun i _ => n - (intOf i).toNat)
 case atStart => exact ⟨0, Nat.zero_le _, rfl, Off.refl _ _⟩
 case round =>
  obtain ⟨k, hk1, rfl, ho⟩ := hrel
  have HO := hID ho
  clear ho
  by_cases h1 : k < n
  ·have d1 : decide ((k : Int) < (n : Int)) = true := dcT
   obtain ⟨b, o, rfl, c1⟩ := HCA.out wr HO.out (by omega)
   obtain ⟨b2, o2, rfl, c2⟩ := HCB.out wr HO.out (by omega)
   have hk : k < L.length := by rw [HN.out]; exact h1
   replace c1 := c1 k _ (by rw [List.getElem?_map, gEe hk]; rfl)
   replace c2 := c2 k _ (by rw [List.getElem?_map, gEe hk]; rfl)
   obtain ⟨x, hx⟩ : ∃ x, L[k] = x := ⟨_, rfl⟩
   rw [hx] at c1 c2
   clear hx hk
   go_wp2_with fail
   go_quiet (fail)
   go_wp2_with fail
   go_roundw
   case rel => exact ⟨k + 1, by omega, by go_num, HO.out.drewN _⟩
   case measure => simp [intOf]; omega
  ·have d1 : decide ((k : Int) < (n : Int)) = false := dcF
   go_wp2_with fail
   go_ret
   exact ⟨rfl, HO.out⟩
theorem qon {F G : Nat → Prop} (L : List (Int × Int)) (hL : L.length ≤ 1000000) (w : World) (u v : Value) (hu : Rd w F 2 u L.length (qa9 L)) (hv : Rd w G 2 v L.length (qa9 L)) :
  Calls Tryz.prog 26 #[u, v] w (RetV w (.bool true)) := by
 obtain ⟨A, ca, rfl, _, hca⟩ := qcl hu (by decide)
 obtain ⟨B, cb, rfl, _, hcb⟩ := qcl hv (by decide)
 have HCA := hID hca
 have HCB := hID hcb
 obtain ⟨n, hn⟩ : ∃ n, L.length = n := ⟨_, rfl⟩
 have HN := hID hn
 rw [hn] at HCA HCB hL ⊢
 clear hca hcb hu hv hn
 go_enter Tryz.func26, Tryz.ntmps26
 go_wp2
 go_loopw [5] (fun i wr => ∃ k : Nat, k ≤ n ∧ i = .int .i64 k ∧ Off Nob w wr) (fun i _ => n - (intOf i).toNat)
 case atStart => exact ⟨0, Nat.zero_le _, rfl, Off.refl _ _⟩
 case round =>
  obtain ⟨k, hk1, rfl, ho⟩ := hrel
  have HO := hID ho
  clear ho
  by_cases h1 : k < n
  ·have d1 : decide ((k : Int) < (n : Int)) = true := dcT
   obtain ⟨b, o, rfl, c1⟩ := HCA.out wr HO.out (by omega)
   obtain ⟨b2, o2, rfl, c2⟩ := HCB.out wr HO.out (by omega)
   obtain ⟨e1, e2⟩ := qvr L k (by rw [HN.out]; exact h1)
   have p1 := c1 _ _ e1
   have p2 := c1 _ _ e2
   have q1 := c2 _ _ e1
   have q2 := c2 _ _ e2
   rw [← Nat.add_assoc] at p2 q2
   obtain ⟨x, hx⟩ : ∃ x, (L.getD k (0, 0)).1 = x := ⟨_, rfl⟩
   obtain ⟨y, hy⟩ : ∃ y, (L.getD k (0, 0)).2 = y := ⟨_, rfl⟩
   rw [hx] at p1 q1
   rw [hy] at p2 q2
   clear hx hy c1 c2 e1 e2
   go_wp2_with fail
   go_quiet (fail)
   go_wp2_with fail
   go_roundw
   case rel => exact ⟨k + 1, by omega, by go_num, HO.out.drewN _⟩
   case measure => simp [intOf]; omega
  ·have d1 : decide ((k : Int) < (n : Int)) = false := dcF
   go_wp2_with fail
   go_ret
   exact ⟨rfl, HO.out⟩
end
section
open Go.RowKit
theorem qg0 {p : List El} {i : Nat} {x : El} (h : p[i]? = some x) : gapsN (p.take (i + 1)) = gapsN (p.take i) ++ if x.gap then [x] else [] := by
 rw [List.take_add_one, h]
 unfold gapsN
 rw [List.filter_append]
 cases hg : x.gap <;> simp [hg]
theorem qdl (p : List El) : (gapsN p).length ≤ p.length := List.length_filter_le _ _
theorem qkm (p : List El) (hn : p.length ≤ 60) (w : World) (v : Value) (hv : RdL w (fun _ => True) 7 elV v p) : Calls Tryz.prog 113 #[v] w (fun e w' => ∃ u, e = .returned u ∧ RdL w' (fun k => w.heap.size ≤ k) 7 elV u (gapsN p) ∧ Off Nob w w') := by
 obtain ⟨i0, hi0, hz0, hz1, hz2⟩ := info_parts Tryz.infoPa
 obtain ⟨A, c, rfl⟩ := hv.form
 have HV := hID hv
 clear hv
 obtain ⟨n, hnn⟩ : ∃ n, p.length = n := ⟨_, rfl⟩
 have HN := hID hnn
 rw [hnn] at hn ⊢
 have HL := hID hn
 clear hnn hn
 go_enter Tryz.func113, Tryz.ntmps113
 go_wp2_with fail
 go_loopw [3, 4] (fun x q wr => ∃ i : Nat, i ≤ n ∧ q = .int .i64 (i : Int) ∧ OwnL w wr 160 7 x (gapsN (p.take i)).length ((gapsN (p.take i)).flatMap elV)) (fun _ q _ => n - (intOf q).toNat)
 case atStart => exact ⟨0, Nat.zero_le _, rfl, OwnL.nil _ _ _⟩
 case round =>
  obtain ⟨i, hi, rfl, oW⟩ := hrel
  obtain ⟨AA, cq, rfl⟩ := oW.form
  have HO := hID oW
  clear oW
  by_cases hin : i < n
  ·have d1 : decide ((i : Int) < (n : Int)) = true := dcT
   have d1n : decide (i < n) = true := dT hin
   have HIN := hID hin
   have hi60 : i < 60 := by have := HL.out; omega
   obtain ⟨x, hx⟩ : ∃ x, p[i]? = some x := ⟨_, gEe (by rw [HN.out]; exact hin)⟩
   obtain ⟨b, o, c2, he, -, -, hc⟩ := (HV.out.keep HO.out.2 (fun _ _ h => h)).at_ qcq hx
   injection he with he1 he2 he3
   subst he1
   clear he2 he3
   have a0 := hc 0 _ rfl
   have a1 := hc 1 _ rfl
   have a2 := hc 2 _ rfl
   have a3 := hc 3 _ rfl
   have a4 := hc 4 _ rfl
   have a5 := hc 5 _ rfl
   have a6 := hc 6 _ rfl
   simp only [Nat.add_zero] at a0
   have HS := hID (qg0 hx)
   clear hc hx
   have hlk : (gapsN (p.take i)).length ≤ 60 := by
    have := qdl (p.take i)
    rw [List.length_take] at this
    omega
   obtain ⟨M, hM⟩ : ∃ M, gapsN (p.take i) = M := ⟨_, rfl⟩
   rw [hM] at hlk HO HS ⊢
   clear hM
   obtain ⟨q, hq⟩ : ∃ q, M.length = q := ⟨_, rfl⟩
   have HQ := hID hq
   rw [hq] at hlk HO ⊢
   clear hq
   cases hg : x.gap
   ·rw [hg] at a0
    rw [hg] at HS
    clear hg
    go_wp2_with fail
    go_roundw
    case rel => exact ⟨i + 1, HIN.out, by go_num, by rw [HS.out]; simpa [HQ.out] using HO.out⟩
    case measure => have := HIN.out; simp [intOf]; omega
   ·rw [hg] at a0
    rw [hg] at HS
    have HG := hID hg
    clear hg
    go_wp2_with (at_builtin; refine @wpList_append_lies _ _ _ _ _ _ _ rfl _ _ 54 rfl w.heap.size 160 i0 (.agg #[.bool false, .int .u64 0, .int .u64 0, .int .u64 0, .int .u64 0, .int .i64 0, .int .i64 0]) 7 56 Tryz.underlying54 hi0 hz0 hz1 hz2 rfl (by decide) (.slice AA q cq) q (M.flatMap elV) rfl (HO.out.1.alloc _) ⟨wr.heap.size, 0, none⟩ 1 1 [.bool true, .int .u64 (x.cls.1 : Int), .int .u64 (x.cls.2.1 : Int), .int .u64 (x.cls.2.2.1 : Int), .int .u64 (x.cls.2.2.2 : Int), .int .i64 x.lo, .int .i64 x.hi] rfl rfl ?c1 (by intro u hu; simp at hu; rcases hu with rfl | rfl | rfl | rfl | rfl | rfl | rfl <;> rfl) (by decide) (by unfold maxLen; omega) (by omega) (by have := HO.out.2.size; simp; omega) _ rfl ?_)
    intro g cap w4 oW gW hat hltg
    have O4 : Hid (OwnL w w4 160 7 (.slice (some ⟨g, 0, none⟩) (q + 1) cap) (M ++ [x]).length ((M ++ [x]).flatMap elV)) := hID (by
     have h := HO.out.grown (oAl oRf _) oW gW
     rw [List.length_append, HQ.out, List.flatMap_append]
     have e : [x].flatMap elV = [.bool true, .int .u64 (x.cls.1 : Int), .int .u64 (x.cls.2.1 : Int), .int .u64 (x.cls.2.2.1 : Int), .int .u64 (x.cls.2.2.2 : Int), .int .i64 x.lo, .int .i64 x.hi] := by simp [elV, HG.out]
     rw [e]
     exact h)
    clear oW gW hat hltg
    go_wp2_with fail
    go_roundw
    case rel => exact ⟨i + 1, HIN.out, by go_num, by rw [HS.out]; exact O4.out⟩
    case measure => have := HIN.out; simp [intOf]; omega
  ·obtain rfl : i = n := by omega
   have d1 : decide ((i : Int) < (i : Int)) = false := by simp
   have d1n : decide (i < i) = false := by simp
   have e : p.take i = p := List.take_of_length_le (by rw [HN.out]; exact Nat.le_refl _)
   rw [e] at HO ⊢
   clear e
   have HR : Hid (RdL wr (fun k => w.heap.size ≤ k) 7 elV (.slice AA (gapsN p).length cq) (gapsN p)) := hID (Rd.own HO.out.1 (fun k hk => (HO.out.1.lt k hk).1))
   go_wp2_with fail
   go_ret
   exact ⟨_, rfl, HR.out, HO.out.2⟩
/-! ### numbers -/
theorem qe7 {L : List Nat} {k : Nat} (h : k < L.length) : (natsV L)[k]? = some (.int .i64 (L.getD k 0 : Nat)) := qdk h
theorem qx6 {L : List Nat} {k : Nat} (h : k < L.length) : (L.take (k + 1)).sum = (L.take k).sum + L.getD k 0 := by
 rw [List.take_add_one, gEe h, List.sum_append, gDe, gEe h]
 simp
theorem qmb : ∀ (L : List Nat) (b : Nat), (∀ x ∈ L, x ≤ b) → L.sum ≤ L.length * b
 | [], b, _ => by simp
 | x :: L, b, h => by
  have := qmb L b (fun y hy => h y (List.mem_cons_of_mem _ hy))
  have := h x (by simp)
  rw [List.sum_cons, List.length_cons, Nat.succ_mul]
  omega
theorem r_sum (L : List Nat) (hn : L.length ≤ 512) (hb : ∀ x ∈ L, x ≤ 4096) (w : World) (v : Value) (hv : Rd w (fun _ => True) 1 v L.length (natsV L)) : Calls Tryz.prog 115 #[v] w (RetV w (.int .i64 (L.sum : Int))) := by
 obtain ⟨A, c, rfl, _, hca⟩ := qcl hv (by decide)
 have HCA := hID hca
 have HSB := hID (fun k => qmb (L.take k) 4096 (fun x hx => hb x (List.mem_of_mem_take hx)))
 have HB := hID hb
 clear hv hca hb
 obtain ⟨n, hnn⟩ : ∃ n, L.length = n := ⟨_, rfl⟩
 have HN := hID hnn
 rw [hnn] at hn HCA ⊢
 have HL := hID hn
 clear hnn hn
 go_enter Tryz.func115, Tryz.ntmps115
 go_wp2_with fail
 go_loopw [3, 4] (fun x q wr => ∃ i : Nat, i ≤ n ∧ q = .int .i64 (i : Int) ∧ x = .int .i64 ((L.take i).sum : Int) ∧ Off Nob w wr) (fun _ q _ => n - (intOf q).toNat)
 case atStart => exact ⟨0, Nat.zero_le _, rfl, rfl, Off.refl _ _⟩
 case round =>
  obtain ⟨i, hi, rfl, rfl, ho⟩ := hrel
  have HO := hID ho
  clear ho
  by_cases hin : i < n
  ·have d1 : decide ((i : Int) < (n : Int)) = true := dcT
   have d1n : decide (i < n) = true := dT hin
   have HIN := hID hin
   have hi60 : i < 512 := by have := HL.out; omega
   obtain ⟨b, o, rfl, hcc⟩ := HCA.out wr HO.out (by omega)
   have c0 := hcc i _ (qe7 (by rw [HN.out]; exact hin))
   have hs := qx6 (L := L) (k := i) (by rw [HN.out]; exact hin)
   have hsb := HSB.out i
   rw [List.length_take] at hsb
   obtain ⟨y, hy⟩ : ∃ y, L.getD i 0 = y := ⟨_, rfl⟩
   have hyb : y ≤ 4096 := by
    rw [← hy, gDe, gEe (by rw [HN.out]; exact hin)]
    exact HB.out _ (List.getElem_mem _)
   rw [hy] at c0 hs
   clear hy hcc
   obtain ⟨z, hz⟩ : ∃ z, (L.take i).sum = z := ⟨_, rfl⟩
   rw [hz] at hs hsb ⊢
   have HS := hID hs
   have hzb : z ≤ 2097152 := by omega
   clear hz hs hsb
   go_wp2_with fail
   go_roundw
   case rel => exact ⟨i + 1, HIN.out, by go_num, by rw [HS.out]; go_num, HO.out⟩
   case measure => have := HIN.out; simp [intOf]; omega
  ·obtain rfl : i = n := by omega
   have d1 : decide ((i : Int) < (i : Int)) = false := by simp
   have d1n : decide (i < i) = false := by simp
   have e : L.take i = L := List.take_of_length_le (by rw [HN.out]; exact Nat.le_refl _)
   rw [e]
   clear e
   go_wp2_with fail
   go_ret
   exact ⟨rfl, HO.out⟩
/-! ### the order of choices -/
def lexN : List Nat → List Nat → Bool
 | x :: a, y :: b => if x = y then lexN a b else decide (x < y)
 | _, _ => false
def befN (a b : List Nat) : Bool := if a.sum = b.sum then lexN a b else decide (a.sum < b.sum)
theorem qh5 : ∀ a : List Nat, lexN a a = false
 | [] => rfl
 | x :: a => by simp [lexN, qh5 a]
theorem qq5 : ∀ (a b : List Nat) (i : Nat), i < a.length → i < b.length → a.take i = b.take i → a.getD i 0 ≠ b.getD i 0 → lexN a b = decide (a.getD i 0 < b.getD i 0)
 | [], b, i, h, _, _, _ => by simp at h
 | x :: a, [], i, _, h, _, _ => by simp at h
 | x :: a, y :: b, 0, _, _, _, h => by simp at h; simp [lexN, h]
 | x :: a, y :: b, i + 1, h1, h2, h3, h4 => by
  simp only [List.take_succ_cons, List.cons.injEq] at h3
  have ih := qq5 a b i (by simpa using h1) (by simpa using h2) h3.2 (by simpa using h4)
  simp only [lexN, h3.1, if_true, ih]
  simp
theorem qvs {a b : List Nat} {i : Nat} (h : a.take i = b.take i) (ha : i < a.length) (hb : i < b.length) (he : a.getD i 0 = b.getD i 0) : a.take (i + 1) = b.take (i + 1) := by
 rw [List.take_add_one, List.take_add_one, h, gEe ha, gEe hb]
 rw [gDe, gDe, gEe ha, gEe hb] at he
 simp at he
 rw [he]
theorem qx7 (a b : List Nat) (hl : a.length = b.length) (hn : a.length ≤ 512) (ha : ∀ x ∈ a, x ≤ 4096) (hb : ∀ x ∈ b, x ≤ 4096) (w : World) (u v : Value) (hu : Rd w (fun _ => True) 1 u a.length (natsV a)) (hv : Rd w (fun _ => True) 1 v b.length (natsV b)) : Calls Tryz.prog 121 #[u, v] w (RetV w (.bool (befN a b))) := by
 have HSA := hID (fun (V : World) (o : Off Nob w V) => r_sum a hn ha V u (hu.keepT o))
 have HSB := hID (fun (V : World) (o : Off Nob w V) => r_sum b (by omega) hb V v (hv.keepT o))
 obtain ⟨A, c, rfl, _, hca⟩ := qcl hu (by decide)
 obtain ⟨A2, c2, rfl, _, hcb⟩ := qcl hv (by decide)
 have HCA := hID hca
 have HCB := hID hcb
 obtain ⟨n, hnn⟩ : ∃ n, a.length = n := ⟨_, rfl⟩
 have hmm : b.length = n := by omega
 have HN := hID (And.intro hnn hmm)
 rw [hnn] at hn HCA HSA ⊢
 rw [hmm] at HCB HSB ⊢
 have HL := hID hn
 clear hu hv hca hcb hnn hmm hn ha hb hl
 obtain ⟨sa, hsa⟩ : ∃ s, a.sum = s := ⟨_, rfl⟩
 obtain ⟨sb, hsb⟩ : ∃ s, b.sum = s := ⟨_, rfl⟩
 rw [hsa] at HSA
 rw [hsb] at HSB
 have HSS := hID (And.intro hsa hsb)
 clear hsa hsb
 go_enter Tryz.func121, Tryz.ntmps121
 go_wp2_with fail
 refine (HSA.out w oRf).mono ?_
 rintro e w1 ⟨rfl, o1⟩
 have O1 := hID o1
 clear o1
 go_wp2_with fail
 refine (HSB.out w1 O1.out).mono ?_
 rintro e w2 ⟨rfl, o2⟩
 have O2 := hID (O1.out.also o2)
 clear o2
 by_cases hs : sa = sb
 ·have d0 : ((sa : Int) != (sb : Int)) = false := by simp [hs]
  have HSE := hID hs
  clear hs
  go_wp2_with fail
  go_loopw [5] (fun q wr => ∃ i : Nat, i ≤ n ∧ q = .int .i64 (i : Int) ∧ Off Nob w wr ∧ a.take i = b.take i) (fun q _ => n - (intOf q).toNat)
  case atStart => exact ⟨0, Nat.zero_le _, rfl, O2.out, by simp⟩
  case round =>
   obtain ⟨i, hi, rfl, ho, htk⟩ := hrel
   have HO := hID ho
   have HTK := hID htk
   clear ho htk
   by_cases hin : i < n
   ·have d1 : decide ((i : Int) < (n : Int)) = true := dcT
    have d1n : decide (i < n) = true := dT hin
    have HIN := hID hin
    have hi512 : i < 512 := by have := HL.out; omega
    obtain ⟨ba, oa, rfl, hcc⟩ := HCA.out wr HO.out (by omega)
    obtain ⟨bb, ob, rfl, hcd⟩ := HCB.out wr HO.out (by omega)
    obtain ⟨x, hx⟩ : ∃ y, a.getD i 0 = y := ⟨_, rfl⟩
    obtain ⟨y, hy⟩ : ∃ y, b.getD i 0 = y := ⟨_, rfl⟩
    have HXY := hID (And.intro hx hy)
    have HCC : Hid (∀ V', Off Nob w V' → (fun Wq => Wq.cell? ⟨ba, oa + i, none⟩ = some (.int .i64 (x : Int)) ∧ Wq.cell? ⟨bb, ob + i, none⟩ = some (.int .i64 (y : Int))) V') := hID (fun V' o => by
     obtain ⟨b1, o1, h1, g1⟩ := HCA.out V' o (by omega)
     obtain ⟨b2, o2, h2, g2⟩ := HCB.out V' o (by omega)
     injection h1 with h1
     injection h1 with h1 h3 h4
     injection h2 with h2
     injection h2 with h2 h5 h6
     subst h1 h3 h2 h5
     refine ⟨?_, ?_⟩
     ·rw [← hx]; exact g1 i _ (qe7 (by rw [HN.out.1]; exact hin))
     ·rw [← hy]; exact g2 i _ (qe7 (by rw [HN.out.2]; exact hin)))
    clear hcc hcd hx hy
    by_cases hxy : x = y
    ·have dxy : ((x : Int) != (y : Int)) = false := by simp [hxy]
     have HT : Hid (a.take (i + 1) = b.take (i + 1)) := hID (qvs HTK.out (by rw [HN.out.1]; exact hin) (by rw [HN.out.2]; exact hin) (by rw [HXY.out.1, HXY.out.2]; exact hxy))
     clear hxy
     go_wp2_with fail
     have HO2 := hID (HO.out.also (Off.drew (Off.refl Nob wr)))
     refine wp_region_held_drew (S := fun Wq => Wq.cell? ⟨ba, oa + i, none⟩ = some (.int .i64 (x : Int)) ∧ Wq.cell? ⟨bb, ob + i, none⟩ = some (.int .i64 (y : Int))) (by kernel_rfl) (HCC.out _ HO2.out) (fun hHeld => ?_)
     revert hHeld HO2
     generalize wr.drew = vb
     intro HO2 hHeld
     refine tkH 0 ?_
     refine tkH 1 ?_
     refine tkH 2 ?_
     refine tkH 3 ?_
     refine tkH 4 ?_
     refine tkH 5 ?_
     refine tkH 6 ?_
     refine tkH 7 ?_
     refine tkH 8 ?_
     refine wpAnyH_done (by kernel_rfl) ?_ _
     clear hHeld
     go_wp2_with fail
     go_roundw
     case rel => exact ⟨i + 1, HIN.out, by go_num, HO2.out, HT.out⟩
     case measure => have := HIN.out; simp [intOf]; omega
    ·have dxy : ((x : Int) != (y : Int)) = true := bne_iff_ne.2 (by omega)
     have HR : Hid (befN a b = decide (x < y)) := hID (by
      unfold befN
      rw [if_pos (by rw [HSS.out.1, HSS.out.2, HSE.out]), qq5 a b i (by rw [HN.out.1]; exact hin) (by rw [HN.out.2]; exact hin) HTK.out (by rw [HXY.out.1, HXY.out.2]; exact hxy), HXY.out.1, HXY.out.2])
     clear hxy
     go_wp2_with fail
     have HO2 := hID (HO.out.also (Off.drew (Off.refl Nob wr)))
     refine wp_region_held_drew (S := fun Wq => Wq.cell? ⟨ba, oa + i, none⟩ = some (.int .i64 (x : Int)) ∧ Wq.cell? ⟨bb, ob + i, none⟩ = some (.int .i64 (y : Int))) (by kernel_rfl) (HCC.out _ HO2.out) (fun hHeld => ?_)
     revert hHeld HO2
     generalize wr.drew = vb
     intro HO2 hHeld
     refine tkH 0 ?_
     refine tkH 1 ?_
     refine tkH 2 ?_
     refine tkH 3 ?_
     refine tkH 4 ?_
     refine tkH 5 ?_
     refine tkH 6 ?_
     refine tkH 7 ?_
     refine tkH 8 ?_
     refine wpAnyH_done (by kernel_rfl) ?_ _
     clear hHeld
     go_wp2_with fail
     have HO3 := hID (HO2.out.also (Off.drew (Off.refl Nob vb)))
     refine wp_region_held_drew (S := fun Wq => Wq.cell? ⟨ba, oa + i, none⟩ = some (.int .i64 (x : Int)) ∧ Wq.cell? ⟨bb, ob + i, none⟩ = some (.int .i64 (y : Int))) (by kernel_rfl) (HCC.out _ HO3.out) (fun hHeld => ?_)
     revert hHeld HO3
     generalize vb.drew = vc
     intro HO3 hHeld
     refine tkH 0 ?_
     refine tkH 1 ?_
     refine tkH 2 ?_
     refine tkH 3 ?_
     refine tkH 4 ?_
     refine tkH 5 ?_
     refine tkH 6 ?_
     refine tkH 7 ?_
     refine tkH 8 ?_
     refine tkH 9 ?_
     refine wpAnyH_done (by kernel_rfl) ?_ _
     clear hHeld
     go_wp2_with fail
     go_ret
     exact ⟨by rw [HR.out]; rfl, HO3.out⟩
   ·obtain rfl : i = n := by omega
    have d1 : decide ((i : Int) < (i : Int)) = false := by simp
    have d1n : decide (i < i) = false := by simp
    have HR : Hid (befN a b = false) := hID (by
     have e : a = b := by
      have h := HTK.out
      rwa [List.take_of_length_le (by rw [HN.out.1]; exact Nat.le_refl _), List.take_of_length_le (by rw [HN.out.2]; exact Nat.le_refl _)] at h
     unfold befN
     rw [if_pos (by rw [HSS.out.1, HSS.out.2, HSE.out]), e, qh5])
    go_wp2_with fail
    go_ret
    exact ⟨by rw [HR.out]; rfl, HO.out⟩
 ·have d0 : ((sa : Int) != (sb : Int)) = true := bne_iff_ne.2 (by omega)
  have HR : Hid (befN a b = decide (sa < sb)) := hID (by
   unfold befN
   rw [HSS.out.1, HSS.out.2, if_neg hs])
  clear hs
  go_wp2_with fail
  refine (HSA.out w2 O2.out).mono ?_
  rintro e w3 ⟨rfl, o3⟩
  have O3 := hID (O2.out.also o3)
  clear o3
  go_wp2_with fail
  refine (HSB.out w3 O3.out).mono ?_
  rintro e w4 ⟨rfl, o4⟩
  have O4 := hID (O3.out.also o4)
  clear o4
  go_wp2_with fail
  go_ret
  exact ⟨by rw [HR.out]; rfl, O4.out⟩
/-! ### how many choices -/
def widN (g : El) : Nat := (g.hi - g.lo + 1).toNat
def cntN : List El → Nat
 | [] => 1
 | g :: gs => widN g * cntN gs
theorem qh6 : ∀ (gs : List El) (g : El), cntN (gs ++ [g]) = cntN gs * widN g
 | [], g => by simp [cntN]
 | x :: gs, g => by simp only [List.cons_append, cntN, qh6 gs g, Nat.mul_assoc]
theorem qd0 {p : List El} (h : PatOk p) : ∀ g ∈ gapsN p, 0 ≤ g.lo ∧ g.lo ≤ g.hi ∧ g.hi ≤ 16 := by
 intro g hg
 obtain ⟨h1, h2⟩ := List.mem_filter.1 hg
 obtain ⟨k, hk, rfl⟩ := List.mem_iff_getElem.1 h1
 have h3 := (h.2 k hk).2
 rw [gDe, gEe hk] at h3
 have h4 := h3 h2
 exact ⟨h4.2.1, h4.2.2.1, h4.2.2.2.1⟩
def CntR (w : World) (p : List El) (e : Ending) (w' : World) : Prop := ∃ n x : Int, e = .returned (.tuple #[.int .i64 n, .int .i64 x]) ∧ (x = 0 → PatOk p ∧ cntN (gapsN p) ≤ 64) ∧ (PatOk p → gapsN p = [] → x = 0) ∧ Off Nob w w'
theorem qz7 (p : List El) (hb : ∀ e ∈ p, ElB e) (hn : p.length ≤ 60) (w : World) (v : Value) (hv : RdL w (fun _ => True) 7 elV v p) : Calls Tryz.prog 112 #[v] w (CntR w p) := by
 have HCK := hID (r_ck p hb hn w v hv)
 have HGP := hID (fun (V : World) (oV : Off Nob w V) => qkm p hn V v (RdL.keep hv oV (fun _ _ h => h)))
 have hgl := qdl p
 obtain ⟨A, c, rfl⟩ := hv.form
 obtain ⟨n0, hnn⟩ : ∃ n, p.length = n := ⟨_, rfl⟩
 rw [hnn] at hn hgl HCK HGP ⊢
 have HL := hID (show (gapsN p).length ≤ 60 by omega)
 clear hv hb hnn hn hgl
 go_enter Tryz.func112, Tryz.ntmps112
 go_wp2_with fail
 refine HCK.out.mono ?_
 rintro e w1 ⟨i0, x0, rfl, hx0, o1⟩
 have O1 := hID o1
 have HX0 := hID hx0
 clear o1 HCK hx0
 by_cases hx : x0 = 0
 ·have dx : (x0 != 0) = false := by simp [hx]
  have HPO := hID (HX0.out.1 hx)
  clear HX0 hx
  go_wp2_with fail
  refine (HGP.out w1 O1.out).mono ?_
  rintro e w2 ⟨u, rfl, hu, o2⟩
  have O2 := hID (O1.out.also o2)
  obtain ⟨AG, cg, rfl⟩ := hu.form
  have HU := hID hu
  have HRG := hID (qd0 HPO.out)
  obtain ⟨G, hG⟩ : ∃ G, gapsN p = G := ⟨_, rfl⟩
  rw [hG] at HU HL HRG ⊢
  have HGG := hID hG
  clear o2 hu hG dx
  obtain ⟨n, hnn⟩ : ∃ n, G.length = n := ⟨_, rfl⟩
  have HN := hID hnn
  rw [hnn] at HL ⊢
  clear hnn
  go_wp2_with fail
  go_loopw [7, 8] (fun z q wr => ∃ i : Nat, i ≤ n ∧ q = .int .i64 (i : Int) ∧ z = .int .i64 (cntN (G.take i) : Int) ∧ Off Nob w2 wr ∧ cntN (G.take i) ≤ 64) (fun _ q _ => n - (intOf q).toNat)
  case atStart => exact ⟨0, Nat.zero_le _, rfl, rfl, Off.refl _ _, by simp [cntN]⟩
  case round =>
   obtain ⟨i, hi, rfl, rfl, ho, hle⟩ := hrel
   have HO := hID ho
   have HLE := hID hle
   clear ho hle
   by_cases hin : i < n
   ·have d1 : decide ((i : Int) < (n : Int)) = true := dcT
    have d1n : decide (i < n) = true := dT hin
    have HIN := hID hin
    have hi60 : i < 60 := by have := HL.out; omega
    obtain ⟨x, hx⟩ : ∃ x, G[i]? = some x := ⟨_, gEe (by rw [HN.out]; exact hin)⟩
    obtain ⟨r1, r2, r3⟩ := HRG.out x (List.mem_of_getElem? hx)
    obtain ⟨l, hl⟩ : ∃ l : Nat, x.lo = (l : Int) := ⟨x.lo.toNat, by omega⟩
    obtain ⟨h, hh⟩ : ∃ h : Nat, x.hi = (h : Int) := ⟨x.hi.toNat, by omega⟩
    have HCC : Hid (∃ b o c, Value.slice AG n cg = .slice (some ⟨b, o, none⟩) n c ∧ ∀ V', Off Nob w2 V' → (fun Wq => Wq.cell? ⟨b, o + i * 7 + 6, none⟩ = some (.int .i64 (h : Int)) ∧ Wq.cell? ⟨b, o + i * 7 + 5, none⟩ = some (.int .i64 (l : Int))) V') := hID (by
     obtain ⟨b, o, c, he, -, -, hc⟩ := HU.out.at_ qcq hx
     rw [HN.out] at he
     refine ⟨b, o, c, he, fun V' oV => ?_⟩
     obtain ⟨b2, o2, c2, he2, -, -, hc2⟩ := (HU.out.keep oV (fun _ _ h => h)).at_ qcq hx
     rw [HN.out, he] at he2
     injection he2 with he2
     injection he2 with he2
     injection he2 with e1 e2 e3
     subst e1 e2
     refine ⟨?_, ?_⟩
     ·rw [← hh]; exact hc2 6 _ rfl
     ·rw [← hl]; exact hc2 5 _ rfl)
    obtain ⟨b, o, c3, he, hcc⟩ := HCC.out
    injection he with he1 he2 he3
    subst he1
    have HC2 := hID hcc
    have hsn : cntN (G.take (i + 1)) = cntN (G.take i) * widN x := by rw [List.take_add_one, hx]; exact qh6 _ _
    have hwd : widN x = h - l + 1 := by unfold widN; rw [hl, hh]; omega
    rw [hwd] at hsn
    rw [hl] at r1 r2
    rw [hh] at r2 r3
    have hle := HLE.out
    obtain ⟨z, hz⟩ : ∃ z, cntN (G.take i) = z := ⟨_, rfl⟩
    rw [hz] at hsn hle ⊢
    obtain ⟨d, hd⟩ : ∃ d, h - l = d := ⟨_, rfl⟩
    obtain ⟨wd, hwd2⟩ : ∃ wd, d + 1 = wd := ⟨_, rfl⟩
    rw [hd, hwd2] at hsn
    have hw17 : wd ≤ 17 := by omega
    obtain ⟨m, hm⟩ : ∃ m, z * wd = m := ⟨_, rfl⟩
    have hmb : m ≤ 64 * 17 := by rw [← hm]; exact Nat.mul_le_mul hle hw17
    rw [hm] at hsn
    have HS := hID hsn
    have E1 : IntKind.i64.wrap ((h : Int) - (l : Int)) = (d : Int) := by rw [IntKind.wrap_i64]; omega
    have E2 : IntKind.i64.wrap ((d : Int) + 1) = (wd : Int) := by rw [IntKind.wrap_i64]; omega
    have E3 : IntKind.i64.wrap ((z : Int) * (wd : Int)) = (m : Int) := by rw [IntKind.wrap_i64, ← Int.natCast_mul, hm]; omega
    clear hcc he2 he3 HCC hx hl hh r1 r2 r3 hwd hsn hle hz hd hwd2 hw17 hm
    go_wp2_with fail
    have HO2 := hID (HO.out.also (Off.drew (Off.refl Nob wr)))
    refine wp_region_held_drew (S := fun Wq => Wq.cell? ⟨b, o + i * 7 + 6, none⟩ = some (.int .i64 (h : Int)) ∧ Wq.cell? ⟨b, o + i * 7 + 5, none⟩ = some (.int .i64 (l : Int))) (by kernel_rfl) (HC2.out _ HO2.out) (fun hHeld => ?_)
    revert hHeld HO2
    generalize wr.drew = vb
    intro HO2 hHeld
    replace HO2 := HO2
    refine tkH 0 ?_
    refine tkH 1 ?_
    refine tkH 2 ?_
    refine tkH 3 ?_
    refine tkH 4 ?_
    refine tkH 5 ?_
    refine tkH 6 ?_
    refine tkH 7 ?_
    refine tkH 8 ?_
    refine tkH 9 ?_
    refine tkH 10 ?_
    refine tkH 11 ?_
    refine tkH 12 ?_
    refine tkH 13 ?_
    refine tkH 14 ?_
    refine wpAnyH_done (by kernel_rfl) ?_ _
    clear hHeld
    by_cases hm64 : 64 < m
    ·have dm : decide ((64 : Int) < (m : Int)) = true := dcT
     have dmn : decide (64 < m) = true := dT hm64
     clear hm64
     go_wp2_with fail
     exact bodyPost_ret (v := .tuple #[.int .i64 0, .int .i64 3]) (by simp [results, Tryz.f112, go_sem]) rfl ⟨_, _, rfl, fun h => absurd h (by decide), fun _ hg => (by have h1 := HN.out; rw [← HGG.out, hg] at h1; have := HIN.out; simp at h1; omega), (O2.out.also HO2.out)⟩
    ·have dm : decide ((64 : Int) < (m : Int)) = false := dcF
     have dmn : decide (64 < m) = false := dF hm64
     have HM := hID hm64
     clear hm64
     go_wp2_with fail
     go_roundw
     case rel => exact ⟨i + 1, HIN.out, by go_num, by rw [HS.out], HO2.out, by rw [HS.out]; have := HM.out; omega⟩
     case measure => have := HIN.out; simp [intOf]; omega
   ·obtain rfl : i = n := by omega
    have d1 : decide ((i : Int) < (i : Int)) = false := by simp
    have d1n : decide (i < i) = false := by simp
    have e : G.take i = G := List.take_of_length_le (by rw [HN.out]; exact Nat.le_refl _)
    rw [e] at HLE ⊢
    clear e
    go_wp2_with fail
    exact bodyPost_ret (v := .tuple #[.int .i64 (cntN G : Int), .int .i64 0]) (by simp [results, Tryz.f112, go_sem]) rfl ⟨_, _, rfl, fun _ => ⟨HPO.out, by rw [HGG.out]; exact HLE.out⟩, fun _ _ => rfl, O2.out.also HO.out⟩
 ·have dx : (x0 != 0) = true := bne_iff_ne.2 hx
  have HXN := hID hx
  clear hx
  go_wp2_with fail
  exact bodyPost_ret (v := .tuple #[.int .i64 0, .int .i64 x0]) (by simp [results, Tryz.f112, go_sem]) rfl ⟨_, _, rfl, fun h => absurd h HXN.out, fun hp _ => HX0.out.2 hp, O1.out⟩
end
section
open Go.RowKit
theorem qe8 : ∀ {gs : List El} {c : List Nat}, okCh gs c → c.length = gs.length
 | [], c, h => by rw [show c = [] from h]; rfl
 | g :: gs, c, h => by
  obtain ⟨n, c', rfl, _, _, h2⟩ := h
  simp [qe8 h2]
theorem qmc : ∀ {gs : List El} {g : El} {c : List Nat}, okCh (gs ++ [g]) c ↔ ∃ (c' : List Nat) (n : Nat), c = c' ++ [n] ∧ okCh gs c' ∧ g.lo ≤ (n : Int) ∧ (n : Int) ≤ g.hi
 | [], g, c => by
  simp only [List.nil_append, okCh]
  constructor
  ·rintro ⟨n, c', rfl, h1, h2, rfl⟩; exact ⟨[], n, rfl, rfl, h1, h2⟩
  ·rintro ⟨c', n, rfl, rfl, h1, h2⟩; exact ⟨n, [], rfl, h1, h2, rfl⟩
 | x :: gs, g, c => by
  simp only [List.cons_append, okCh, qmc (gs := gs)]
  constructor
  ·rintro ⟨n, _, rfl, h1, h2, c', m, rfl, h3, h4, h5⟩
   exact ⟨n :: c', m, rfl, ⟨n, c', rfl, h1, h2, h3⟩, h4, h5⟩
  ·rintro ⟨_, m, rfl, ⟨n, c', rfl, h1, h2, h3⟩, h4, h5⟩
   exact ⟨n, c' ++ [m], rfl, h1, h2, c', m, rfl, h3, h4, h5⟩
theorem qgf {b : Nat} : ∀ {gs : List El} {c : List Nat}, (∀ g ∈ gs, g.hi ≤ (b : Int)) → okCh gs c → ∀ x ∈ c, x ≤ b
 | [], c, _, h => by rw [show c = [] from h]; intro x hx; cases hx
 | g :: gs, c, hg, h => by
  obtain ⟨n, c', rfl, _, h2, h3⟩ := h
  intro x hx
  rcases List.mem_cons.1 hx with rfl | hx
  ·have := hg g (by simp); omega
  ·exact qgf (fun g hg' => hg g (List.mem_cons_of_mem _ hg')) h3 x hx
def extC (l n : Nat) (c : List Nat) : List (List Nat) := (List.range n).map (fun j => c ++ [l + j])
structure AllCh (gs : List El) (LL : List (List Nat)) : Prop where
 nd : LL.Nodup
 mem : ∀ c, c ∈ LL ↔ okCh gs c
 len : LL.length = cntN gs
theorem AllCh.nil : AllCh [] [[]] := ⟨by simp, fun c => by simp [okCh], rfl⟩
theorem qe9 (l n : Nat) : ∀ LL : List (List Nat), (LL.flatMap (extC l n)).length = LL.length * n
 | [] => by simp
 | c :: LL => by rw [List.flatMap_cons, List.length_append, qe9 l n LL, List.length_cons, Nat.succ_mul]; simp [extC]; omega
theorem qh7 {l n : Nat} {LL : List (List Nat)} {c : List Nat} : c ∈ LL.flatMap (extC l n) ↔ ∃ c' ∈ LL, ∃ j, j < n ∧ c = c' ++ [l + j] := by
 rw [List.mem_flatMap]
 constructor
 ·rintro ⟨c', h1, h2⟩
  obtain ⟨j, hj, rfl⟩ := List.mem_map.1 h2
  exact ⟨c', h1, j, List.mem_range.1 hj, rfl⟩
 ·rintro ⟨c', h1, j, hj, rfl⟩
  exact ⟨c', h1, List.mem_map.2 ⟨j, List.mem_range.2 hj, rfl⟩⟩
theorem qvt (l : Nat) (c : List Nat) (n : Nat) : (extC l n c).Nodup := by
 unfold extC
 rw [List.nodup_iff_pairwise_ne, List.pairwise_map]
 refine List.Pairwise.imp ?_ (List.pairwise_lt_range (n := n))
 intro a b hab h
 have := List.append_cancel_left h
 simp at this
 omega
theorem qgg (l n : Nat) : ∀ {LL : List (List Nat)}, LL.Nodup → (LL.flatMap (extC l n)).Nodup
 | [], _ => by simp
 | c :: LL, h => by
  obtain ⟨h1, h2⟩ := List.nodup_cons.1 h
  rw [List.flatMap_cons, List.nodup_append]
  refine ⟨qvt l c n, qgg l n h2, fun a ha b hb e => ?_⟩
  subst e
  obtain ⟨j, _, rfl⟩ := List.mem_map.1 ha
  obtain ⟨c', hc', k, _, e⟩ := qh7.1 hb
  have := (List.append_inj' e (by simp)).1
  subst this
  exact h1 hc'
theorem AllCh.step {gs : List El} {LL : List (List Nat)} (h : AllCh gs LL) {g : El} {l n : Nat} (hl : g.lo = (l : Int)) (hn : g.hi = (l : Int) + (n : Int) - 1) : AllCh (gs ++ [g]) (LL.flatMap (extC l n)) := by
 refine ⟨qgg l n h.nd, fun c => ?_, ?_⟩
 ·rw [qh7, qmc]
  constructor
  ·rintro ⟨c', h1, j, hj, rfl⟩
   exact ⟨c', l + j, rfl, (h.mem c').1 h1, by omega, by omega⟩
  ·rintro ⟨c', m, rfl, h1, h2, h3⟩
   exact ⟨c', (h.mem c').2 h1, m - l, by omega, by rw [show l + (m - l) = m by omega]⟩
 ·rw [qe9, h.len, qh6]
  congr 1
  unfold widN
  omega
/-! ### the order -/
theorem qkn : ∀ {a b c : List Nat}, a.length = b.length → b.length = c.length → lexN a b = true → lexN b c = true → lexN a c = true
 | [], b, c, h1, _, h, _ => by
  cases b with
  | nil => simp [lexN] at h
  | cons _ _ => simp at h1
 | x :: a, [], c, h1, _, _, _ => by simp at h1
 | x :: a, y :: b, [], _, h2, _, _ => by simp at h2
 | x :: a, y :: b, z :: c, h1, h2, h3, h4 => by
  simp only [List.length_cons, Nat.add_right_cancel_iff] at h1 h2
  simp only [lexN] at h3 h4 ⊢
  by_cases e1 : x = y
  ·subst e1
   by_cases e2 : x = z
   ·subst e2
    simp only [if_true] at h3 h4 ⊢
    exact qkn h1 h2 h3 h4
   ·rw [if_neg e2] at h4 ⊢
    exact h4
  ·rw [if_neg e1] at h3
   have h3 := of_decide_eq_true h3
   by_cases e2 : y = z
   ·subst e2
    rw [if_neg (by omega)]
    exact dT h3
   ·rw [if_neg e2] at h4
    have h4 := of_decide_eq_true h4
    rw [if_neg (by omega)]
    exact dcT
theorem qko : ∀ {a b : List Nat}, a.length = b.length → a ≠ b → lexN a b = true ∨ lexN b a = true
 | [], [], _, h => absurd rfl h
 | [], _ :: _, h, _ => by simp at h
 | _ :: _, [], h, _ => by simp at h
 | x :: a, y :: b, h1, h2 => by
  simp only [List.length_cons, Nat.add_right_cancel_iff] at h1
  simp only [lexN]
  by_cases e : x = y
  ·subst e
   have : a ≠ b := fun e => h2 (by rw [e])
   simpa using qko h1 this
  ·rw [if_neg e, if_neg (Ne.symm e)]
   simp only [decide_eq_true_eq]
   omega
theorem qh8 (a : List Nat) : befN a a = false := by simp [befN, qh5]
theorem qth {a b : List Nat} (h : a.length = b.length) (hne : a ≠ b) : befN a b = true ∨ befN b a = true := by
 unfold befN
 by_cases e : a.sum = b.sum
 ·rw [if_pos e, if_pos e.symm]
  exact qko h hne
 ·rw [if_neg e, if_neg (Ne.symm e)]
  simp only [decide_eq_true_eq]
  omega
theorem qkp {a b c : List Nat} (h1 : a.length = b.length) (h2 : b.length = c.length) (h3 : befN a b = true) (h4 : befN b c = true) : befN a c = true := by
 unfold befN at *
 by_cases e1 : a.sum = b.sum
 ·rw [if_pos e1] at h3
  by_cases e2 : b.sum = c.sum
  ·rw [if_pos e2] at h4
   rw [if_pos (e1.trans e2)]
   exact qkn h1 h2 h3 h4
  ·rw [if_neg e2] at h4
   rw [if_neg (by omega), e1]
   exact h4
 ·rw [if_neg e1] at h3
  have h3 := of_decide_eq_true h3
  by_cases e2 : b.sum = c.sum
  ·rw [if_neg (by omega)]
   exact dcT
  ·rw [if_neg e2] at h4
   have h4 := of_decide_eq_true h4
   rw [if_neg (by omega)]
   exact dcT
/-! ### sorting -/
theorem qg1 {α : Type} [DecidableEq α] : ∀ {a b : List α}, a.Nodup → (∀ x ∈ a, x ∈ b) → a.length ≤ b.length
 | [], b, _, _ => Nat.zero_le _
 | x :: a, b, h, hs => by
  obtain ⟨h1, h2⟩ := List.nodup_cons.1 h
  have hx : x ∈ b := hs x (by simp)
  have ih := qg1 (b := b.erase x) h2 (fun y hy => (List.mem_erase_of_ne (show y ≠ x from fun e => h1 (by rw [← e]; exact hy))).2 (hs y (List.mem_cons_of_mem _ hy)))
  rw [List.length_erase_of_mem hx] at ih
  have : 0 < b.length := List.length_pos_of_mem hx
  rw [List.length_cons]
  omega
structure Srt (LL OL : List (List Nat)) : Prop where
 sub : ∀ c ∈ OL, c ∈ LL
 asc : OL.Pairwise (fun a b => befN a b = true)
 rest : ∀ c ∈ LL, c ∉ OL → ∀ a ∈ OL, befN a c = true
def candN (OL : List (List Nat)) (c : List Nat) : Bool := match OL.getLast? with
 | none => true
 | some a => befN a c
theorem Srt.nil (LL : List (List Nat)) : Srt LL [] := ⟨fun c h => (by cases h), List.Pairwise.nil, fun c _ _ a h => (by cases h)⟩
theorem Srt.nodup {LL OL : List (List Nat)} (h : Srt LL OL) : OL.Nodup := by
 rw [List.nodup_iff_pairwise_ne]
 refine List.Pairwise.imp ?_ h.asc
 intro a b hab e
 subst e
 rw [qh8] at hab
 cases hab
theorem Srt.cand {LL OL : List (List Nat)} (h : Srt LL OL) {c : List Nat} (hc : c ∈ LL) (hn : c ∉ OL) : candN OL c = true := by
 unfold candN
 cases hl : OL.getLast? with
 | none => rfl
 | some a => exact h.rest c hc hn a (List.mem_of_getLast? hl)
theorem Srt.some {LL OL : List (List Nat)} (h : Srt LL OL) (hnd : LL.Nodup) (hlt : OL.length < LL.length) : ∃ c ∈ LL, candN OL c = true := by
 by_cases he : ∃ c ∈ LL, c ∉ OL
 ·obtain ⟨c, h1, h2⟩ := he
  exact ⟨c, h1, h.cand h1 h2⟩
 ·have : LL.length ≤ OL.length := qg1 hnd (fun c hc => by
   rcases Decidable.em (c ∈ OL) with h | h
   ·exact h
   ·exact absurd ⟨c, hc, h⟩ he)
  omega
theorem Srt.all {LL OL : List (List Nat)} (h : Srt LL OL) (hge : LL.length ≤ OL.length) : ∀ c ∈ LL, c ∈ OL := by
 intro c hc
 rcases Decidable.em (c ∈ OL) with h1 | h1
 ·exact h1
 ·have := qg1 (a := c :: OL) (b := LL) (List.nodup_cons.2 ⟨h1, h.nodup⟩) (fun x hx => by
   rcases List.mem_cons.1 hx with rfl | hx
   ·exact hc
   ·exact h.sub x hx)
  rw [List.length_cons] at this
  omega
theorem qti {OL : List (List Nat)} {n : Nat} (hl : ∀ c ∈ OL, c.length = n) (hasc : OL.Pairwise (fun a b => befN a b = true)) {c : List Nat} (hc : c.length = n) (h : candN OL c = true) : ∀ a ∈ OL, befN a c = true := by
 intro a ha
 unfold candN at h
 cases hL : OL.getLast? with
 | none => rw [List.getLast?_eq_none_iff.1 hL] at ha; cases ha
 | some b =>
  rw [hL] at h
  simp only at h
  obtain ⟨init, rfl⟩ : ∃ init, OL = init ++ [b] := by
   have hne : OL ≠ [] := fun e => by rw [e] at ha; cases ha
   refine ⟨OL.dropLast, ?_⟩
   have := List.dropLast_concat_getLast hne
   rw [List.getLast?_eq_some_getLast hne] at hL
   injection hL with hL
   rw [← hL]
   exact this.symm
  rcases List.mem_append.1 ha with ha | ha
  ·have h2 := (List.pairwise_append.1 hasc).2.2 a ha b (by simp)
   have l1 := hl a (List.mem_append_left _ ha)
   have l2 := hl b (by simp)
   exact qkp (by omega) (by omega) h2 h
  ·rw [List.mem_singleton.1 ha]; exact h
theorem Srt.step {LL OL : List (List Nat)} (h : Srt LL OL) {n : Nat} (hl : ∀ c ∈ LL, c.length = n) {b : List Nat} (hb : b ∈ LL) (hc : candN OL b = true) (hmin : ∀ c ∈ LL, candN OL c = true → befN c b = false) : Srt LL (OL ++ [b]) := by
 have hOl : ∀ c ∈ OL, c.length = n := fun c hc => hl c (h.sub c hc)
 have haft := qti hOl h.asc (hl b hb) hc
 refine ⟨fun c hc => ?_, ?_, fun c hcL hcn a ha => ?_⟩
 ·rcases List.mem_append.1 hc with hc | hc
  ·exact h.sub c hc
  ·rw [List.mem_singleton.1 hc]; exact hb
 ·rw [List.pairwise_append]
  exact ⟨h.asc, List.pairwise_singleton _ _, fun a ha c hc => by rw [List.mem_singleton.1 hc]; exact haft a ha⟩
 ·have h1 : c ∉ OL := fun hx => hcn (List.mem_append_left _ hx)
  have h2 : c ≠ b := fun e => hcn (by rw [e]; simp)
  rcases List.mem_append.1 ha with ha | ha
  ·exact h.rest c hcL h1 a ha
  ·rw [List.mem_singleton.1 ha]
   have h3 := hmin c hcL (h.cand hcL h1)
   rcases qth (by rw [hl c hcL, hl b hb]) h2 with h4 | h4
   ·rw [h3] at h4; cases h4
   ·exact h4
end
end Go.Proofs.YtlgjaefcfnndhaaGreatDoor
